/-
  SchemaBack: the statement, and its card (a part). Conditions: none.
-/
import Derived.Test.YtjajlmjfddohfaaGreatDoorPa17
set_option linter.defProp false
set_option linter.unusedSectionVars false
set_option maxRecDepth 100000
set_option maxHeartbeats 32000000
namespace Go.Proofs.YtjajlmjfddohfaaGreatDoor
open Go Go.Pe Go.Tab
def zc5:=ai (ai (ai (ai @zq (ai @mt1 @ayY)) (ai @apO (ai @aGm @aAg))) (ai (ai @aW0 (ai @aUl @mt3)) (ai (ai @aGl @aAf) (ai @mt4 @ay8)))) (ai (ai (ai @ase (ai @mt5 @ay7)) (ai (ai @asd @mt7) (ai @cU @fa))) (ai (ai @ajQ (ai @P3 @Q3)) (ai (ai @Q9 @zT0) (ai @aIL (aw fi5)))))
theorem amc (l:List Sm) (s:Sm) (hl:apQ l) (so:fz s) (hs:smW s≤1048576):G1 5 [.of (slC smC l),.of (.agg (smC s))] (ah true):=by
 have e40:((40:Int)<(l.length:Int))=(40<l.length):=propext (by omega)
 have hl1:=hl.1
 have hlt:=fun K=>ai1 s hs K
 have km:=fun K=>ae.k (aCI l hl) K
 obtain⟨hc,hr⟩:=auB alV ada hl.2
 generalize l.foldl jC ct0=c at *
 have hB:=alS hc (Nat.le_trans hs afc) so
 have kd:=fun K=>aG9 c s hc so hs K
 have kS:=fun K=>asr c hc K
 have herr:=@aM2 c s
 refine aj rfl fi5 aIL rfl ?_
 by_cases c0:40<l.length
 .skip
  simp -implicitDefEqProofs(maxSteps:=9^9)only[Tryz.f5,↓zA,sevalprocAttr,zc5,e40,hlt,fm,c0]
 cases b:aed s
 .skip
  simp -implicitDefEqProofs(maxSteps:=9^9)only[Tryz.f5,↓zA,sevalprocAttr,zc5,e40,hlt,fm,c0,b]
 by_cases he:(doA c s).2=0
 rotate_left
 .have h1:=herr he
  generalize doA c s=q at *
  obtain⟨q1,q2⟩:=q
  dsimp only at h1 he kd
  subst h1
  simp -implicitDefEqProofs(maxSteps:=9^9)only[Tryz.f5,↓zA,sevalprocAttr,zc5,e40,hlt,fm,c0,b,km,ie,kd,kS,he]
 by_cases k1:s.kd=3
 .skip
  simp -implicitDefEqProofs(maxSteps:=9^9)only[Tryz.f5,↓zA,sevalprocAttr,zc5,e40,hlt,fm,c0,b,km,ie,kd,he,eq_true k1]
 by_cases k2:s.kd=2
 rotate_left
 by_cases k3:s.kd=1
 rotate_left
 .skip
  simp -implicitDefEqProofs(maxSteps:=9^9)only[Tryz.f5,↓zA,sevalprocAttr,zc5,e40,hlt,fm,c0,b,km,ie,kd,he,k1,k2,k3]
 .have hb:=arQ hr he (.inr k2)
  rw[if_pos k2] at hb
  obtain⟨hb1,hb2⟩:=hb
  have hw20:smW (fY [] s.nm)≤LB:=by
   have h1:=arO [] s.nm
   have h2:s.tb.length≤smW s:=by unfold smW;simp only[aZ];omega
   have h3:s.nm.length≤smW s:=by unfold smW;simp only[aZ];omega
   have hlb:LB=1073741824:=rfl
   simp only[List.length_nil] at h1
   omega
  have kx0:=fun K=>ae.k (acT (doA c s).1 (fY [] s.nm) hB (ah6 _ _) hw20) K
  rw[hb1] at kx0
  have kx:∀ K,aG Tryz.prog pr 14 [.of (.agg (ctC (doA c s).1)),.of (.agg [ci 3,ao {data:=#[]},ao (ar s.nm),.sl [] 0,.sl [] 0,cb false,.sl [] 0,.sl [] 0,.sl [] 0,.sl [] 0,.sl [] 0,.sl [] 0,.sl [] 0])] [] K↔K ⟨false,doR ((⟨c.tbs,c.ixs,(doA c s).1.nx⟩ : Ct),0),[]⟩:=kx0
  clear kx0 hb1
  generalize doA c s=q at *
  have hlt2:(q.1.nx≤c.nx)=False:=by simp only[eq_iff_iff,iff_false];omega
  simp -implicitDefEqProofs(maxSteps:=9^9)only[Tryz.f5,↓zA,sevalprocAttr,zc5,e40,hlt,fm,c0,b,km,ie,kd,he,k1,eq_true k2,show ¬s.kd=1 by omega,kx,hlt2,kS,aU,aN]
 .have hb:=arQ hr he (.inl k3)
  rw[if_neg k2] at hb
  obtain⟨hb1,hb2⟩:=hb
  have hw20:smW (fY s.tb [])≤LB:=by
   have h1:=arO s.tb []
   have h2:s.tb.length≤smW s:=by unfold smW;simp only[aZ];omega
   have h3:s.nm.length≤smW s:=by unfold smW;simp only[aZ];omega
   have hlb:LB=1073741824:=rfl
   simp only[List.length_nil] at h1
   omega
  have kx0:=fun K=>ae.k (acT (doA c s).1 (fY s.tb []) hB (ah6 _ _) hw20) K
  rw[hb1] at kx0
  have kx:∀ K,aG Tryz.prog pr 14 [.of (.agg (ctC (doA c s).1)),.of (.agg [ci 3,ao (ar s.tb),ao {data:=#[]},.sl [] 0,.sl [] 0,cb false,.sl [] 0,.sl [] 0,.sl [] 0,.sl [] 0,.sl [] 0,.sl [] 0,.sl [] 0])] [] K↔K ⟨false,doR ((⟨c.tbs,c.ixs,(doA c s).1.nx⟩ : Ct),0),[]⟩:=kx0
  clear kx0 hb1
  generalize doA c s=q at *
  have hlt2:(q.1.nx≤c.nx)=False:=by simp only[eq_iff_iff,iff_false];omega
  simp -implicitDefEqProofs(maxSteps:=9^9)only[Tryz.f5,↓zA,sevalprocAttr,zc5,e40,hlt,fm,c0,b,km,ie,kd,he,k1,k2,eq_true k3,kx,hlt2,kS,aU,aN]
end Go.Proofs.YtjajlmjfddohfaaGreatDoor
namespace Go.Proofs.YtjajlmjfddohfaaGreatDoor.schemaBack
open Go Go.Pe Go.Tab Go.RowKit Go.ChangeShapes Go.WideShapes Go.ChangeAt Go.Proofs.YtjajlmjfddohfaaGreatDoor Go.Proofs.YtjajlmjfddohfaaGreatDoor.card
theorem alx:(Rows.schemaBackUptoRow.laid.filter fun x=>x.1 == hY)=[(hY,Lib.tabData .u64 Lib.pow10Tab)]:=by kernel_rfl
theorem aeo (H:Type) (enc:TypeId×Value→H) (W:World) (base:Nat) (args:Array Value) (ds gs:List (DataW H)) (before:List MemPlace)
  (hval:∀ (j:Nat) t v,Tryz.f5.params[j]?=some t→args[j]?=some v→Value.okWide Tryz.prog W .any base t v)
  (hW:DataW.Whole enc Tryz.prog Tryz.f5.params.toList Rows.schemaBackSpec.vars false W args.toList ds gs before)
  (hc:∀ k,(Rows.OpenSpec.upto Rows.schemaBackSpec).cond=some k→k H (ds++gs)=true) (hL:laidMetH Tryz.prog Rows.schemaBackUptoRow.laid W) (hsh:W.ShapedOpen Tryz.prog) :
  Calls Tryz.prog 5 args W fun e W'=>∃ v,e=.returned v∧Rows.schemaBackSpec.post enc Tryz.prog Tryz.f5 false true false false W args v W':=by
 have hW':=hW
 obtain⟨p,q,hA0,hV,rfl,hfz,hnd⟩:=hW
 have hA:DataW.TrodAll enc Tryz.prog W 0 (fun _=>true) true Tryz.f5.params.toList args.toList ds p:=hA0
 rw[Tryz.params5] at hA hval
 have hAk:=hA
 obtain⟨v0,v1,d0,d1,p0,p1,rfl,rfl,rfl,h0,h1⟩:=trodAll_two hA
 obtain⟨rfl,rfl⟩:=trodVars_none hV
 have hb:=aLf (hc _ rfl)
 obtain⟨c0,r0,q0⟩:=aut Tryz.underlying22 (by decide) h0 (hval 0 _ v0 rfl rfl)
 obtain⟨l,rfl,hl⟩:=aqm q0 (by omega)
 obtain⟨g1,r1,q1⟩:=ajY Tryz.underlying38 (by decide) h1 (hval 1 _ v1 rfl rfl)
 obtain⟨s,rfl,so,hs⟩:=auo q1 (by omega)
 refine (ahy (amc l s hl so hs) Tryz.func5 (table alx hL) (vs:=[v0,v1]) ⟨_,_,rfl,r0,_,_,rfl,r1,rfl⟩).mono ?_
 rintro e W' ⟨rfl,hB⟩
 have hlt:∀ x∈p0++p1,x.block<W.heap.size:=fun x hx=>by
  have:=hW'.lt x (by simpa using hx)
  simpa using this
 exact⟨_,rfl,⟨_,_,_,[],_,[],hW',trodAll_mk1 (shut_bool Tryz.underlying4 _),aby (aBh aul aBw) hAk (fun x hx=>hB.same (hlt x hx)) (fun x hx=>by simpa using hlt x hx),rfl,hB.frame _,fun h=>by cases h⟩⟩
theorem aeg (os:Os):laidMet Tryz.prog Rows.schemaBackUptoRow.laid ((jG os).forCall (fun _ _=>0) ⟨#[],#[.slice none 0 0,.agg #[.int .i64 0,.string ⟨#[]⟩,.string ⟨#[]⟩,.slice none 0 0,.slice none 0 0,.bool false,.slice none 0 0,.slice none 0 0,.slice none 0 0,.slice none 0 0,.slice none 0 0,.slice none 0 0,.slice none 0 0]],[]⟩).memory :=
 laidMet_of_run' 8 (by kernel_rfl) (by kernel_rfl)
theorem akY (os:Os) {H:Type} (enc:TypeId×Value→H):∃ bC,DataW.whole enc Tryz.prog ((jG os).forCall (fun _ _=>0) ⟨#[],#[.slice none 0 0,.agg #[.int .i64 0,.string ⟨#[]⟩,.string ⟨#[]⟩,.slice none 0 0,.slice none 0 0,.bool false,.slice none 0 0,.slice none 0 0,.slice none 0 0,.slice none 0 0,.slice none 0 0,.slice none 0 0,.slice none 0 0]],[]⟩).memory Tryz.f5.params.toList Rows.schemaBackSpec.vars false (#[.slice none 0 0,.agg #[.int .i64 0,.string ⟨#[]⟩,.string ⟨#[]⟩,.slice none 0 0,.slice none 0 0,.bool false,.slice none 0 0,.slice none 0 0,.slice none 0 0,.slice none 0 0,.slice none 0 0,.slice none 0 0,.slice none 0 0]]:Array Value).toList 8=some ([.nil,.agg [.lit (.int .i64 0),.lit (.string []),.lit (.string []),.nil,.nil,.lit (.bool false),.nil,.nil,.nil,.nil,.nil,.nil,.nil]],[],bC) :=
 ⟨[],by kernel_rfl⟩
theorem ack (os:Os) (started:os.Started) (H:Type) (enc:TypeId×Value→H) (F:Stop.Interp) :
  ReturnsInHanded {} Tryz.checked os 5 .any ((Rows.OpenSpec.upto Rows.schemaBackSpec).preRow enc Tryz.prog Tryz.f5 Rows.schemaBackUptoRow.domain false Rows.schemaBackUptoRow.laid) (((Rows.OpenSpec.upto Rows.schemaBackSpec).at F).post enc Tryz.prog Tryz.f5 false true false false):=by
 obtain⟨bC,hx⟩:=akY os enc
 refine returnsInHanded_of_row (C:=Tryz.checked) (s:=Rows.OpenSpec.upto Rows.schemaBackSpec) own started (by kernel_rfl) Tryz.func5
  (witness_row_at (enc:=enc) (C:=Tryz.checked) false (jG os) #[.slice none 0 0,.agg #[.int .i64 0,.string ⟨#[]⟩,.string ⟨#[]⟩,.slice none 0 0,.slice none 0 0,.bool false,.slice none 0 0,.slice none 0 0,.slice none 0 0,.slice none 0 0,.slice none 0 0,.slice none 0 0,.slice none 0 0]] rfl (by kernel_rfl) (by kernel_rfl) (by kernel_rfl)
   (OpenSpec.preRow_of_cond 8 hx (by kernel_rfl) (fun k hk=>by cases hk;kernel_rfl) (by kernel_rfl) (aeg os))) ?_
 intro W base args ds gs before hval hW _ hcond _ hL hsh _
 exact aeo H enc W base args ds gs before hval hW hcond hL hsh
end Go.Proofs.YtjajlmjfddohfaaGreatDoor.schemaBack

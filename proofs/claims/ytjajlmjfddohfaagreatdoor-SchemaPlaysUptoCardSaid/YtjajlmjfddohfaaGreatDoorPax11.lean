/-
  SchemaPlays: the statement, and its card (a part). Conditions: none.
-/
import Derived.Test.YtjajlmjfddohfaaGreatDoorPa17
set_option linter.defProp false
set_option linter.unusedSectionVars false
set_option maxRecDepth 100000
set_option maxHeartbeats 32000000
namespace Go.Proofs.YtjajlmjfddohfaaGreatDoor
open Go Go.Pe Go.Tab
def zc3:=ai (ai (ai (ai @zq @aGm) (ai @aAg (ai @a19 @a18))) (ai (ai @ayY (ai @apO @aGl)) (ai @aAf (ai @a17 @aGk)))) (ai (ai (ai @aAe (ai @a16 @ay8)) (ai @ase (ai @aiW @afH))) (ai (ai @cU (ai @fa @ajQ)) (ai @zT0 (ai @aIN (aw fi3)))))
theorem aku (l:List Sm) (hl:apQ l):G1 3 [.of (slC smC l)] (ah true):=by
 obtain⟨hl1,hl2⟩:=hl
 have e40:((40:Int)<(l.length:Int))=(40<l.length):=propext (by omega)
 refine aj rfl fi3 aIN rfl ?_
 by_cases c0:40<l.length
 .skip
  simp -implicitDefEqProofs(maxSteps:=9^9)only[Tryz.f3,↓zA,sevalprocAttr,zc3,e40,c0,fm]
 simp -implicitDefEqProofs(maxSteps:=9^9)only[Tryz.f3,↓zA,sevalprocAttr,zc3,e40,c0,fm]
 refine aL (l.length) (fun k tk=>tk.fr 0=.of (slC smC l)∧tk.fr 3=.ptr 0 0∧tk.fr 4=.ptr 1 0∧tk.fr 5=ak k∧∃ c O,tk.objs=[.var 27 O,.var 27 O]∧CtB c∧Right c∧((c=ct0∧O=[.nil,.nil,ak 1])∨O=[.of (slC tbC c.tbs),.of (slC ixC c.ixs),ak c.nx])) ?_ ?_
 .simp -implicitDefEqProofs(maxSteps:=9^9)only[Tryz.f3,↓zA,sevalprocAttr,zc3]
  exact⟨ct0,_,rfl,alV,ada,.inl ⟨rfl,rfl⟩⟩
 rintro k ⟨frk,obk,ckk⟩ hk ⟨f0,f3,f4,f5,c,O,fo,hc,hr,hO⟩
 dsimp only at f0 f3 f4 f5 fo hO
 rcases Nat.lt_or_ge k (l.length) with dk|dk
 .have hw:=aQ k (by omega)
  have gx:=ap dk
  obtain⟨so,hs⟩:=hl2 _ (List.getElem_mem dk)
  generalize l[k]=s at *
  have hlt:=fun K=>ai1 s hs K
  have hB:=alS hc (Nat.le_trans hs afc) so
  have hR:=aZW s hr
  have hR':=aeY s hr
  have kd:=fun K=>aG9 c s hc so hs K
  have kD:=fun K=>aHY c s hc (Nat.le_trans hs afc) K
  generalize hq:doA c s=q at *
  have kS:=fun K=>asr q.1 hB K
  have kR:=fun K=>ae.k (kA q.1 hB) K
  cases b:aed s
  .rcases hO with ⟨hc0,rfl⟩|rfl
   .skip
    simp -implicitDefEqProofs(maxSteps:=9^9)only[Tryz.f3,↓zA,sevalprocAttr,zc3,f0,f3,f4,f5,aa,fo,dk,gx,hw,hlt,b,aU,aN]
    exact⟨c,_,rfl,hc,hr,.inl ⟨hc0,rfl⟩⟩
   .skip
    simp -implicitDefEqProofs(maxSteps:=9^9)only[Tryz.f3,↓zA,sevalprocAttr,zc3,f0,f3,f4,f5,aa,fo,dk,gx,hw,hlt,b,aU,aN]
    exact⟨c,_,rfl,hc,hr,.inr rfl⟩
  rcases hO with ⟨hc0,rfl⟩|rfl
  .subst hc0
   have kd0:∀ K,aG Tryz.prog pr 8 [.of (.agg [.sl [] 0,.sl [] 0,ci 1]),.of (.agg (smC s))] [] K↔K ⟨false,doR q,[]⟩:=kd
   have kD0:∀ K,aG Tryz.prog pr 9 [.of (.agg [.sl [] 0,.sl [] 0,ci 1]),.of (.agg (smC s))] [] K↔K ⟨false,doR q,[]⟩:=kD
   simp -implicitDefEqProofs(maxSteps:=9^9)only[Tryz.f3,↓zA,sevalprocAttr,zc3,f0,f3,f4,f5,aa,fo,dk,gx,hw,hlt,b,ie,kS,kR,hR,aU,aN,kd0,kD0]
   exact⟨q.1,_,rfl,hB,hR',.inr rfl⟩
  .skip
   simp -implicitDefEqProofs(maxSteps:=9^9)only[Tryz.f3,↓zA,sevalprocAttr,zc3,f0,f3,f4,f5,aa,fo,dk,gx,hw,hlt,b,ie,kS,kR,hR,aU,aN,kd,kD]
   exact⟨q.1,_,rfl,hB,hR',.inr rfl⟩
 have e:k=l.length:=by omega
 subst e
 simp -implicitDefEqProofs(maxSteps:=9^9)only[Tryz.f3,↓zA,sevalprocAttr,zc3,f0,f3,f4,f5,aa,fo,Nat.lt_irrefl]
end Go.Proofs.YtjajlmjfddohfaaGreatDoor
namespace Go.Proofs.YtjajlmjfddohfaaGreatDoor.schemaPlays
open Go Go.Pe Go.Tab Go.RowKit Go.ChangeShapes Go.WideShapes Go.ChangeAt Go.Proofs.YtjajlmjfddohfaaGreatDoor Go.Proofs.YtjajlmjfddohfaaGreatDoor.card
theorem alx:(Rows.schemaPlaysUptoRow.laid.filter fun x=>x.1 == hY)=[(hY,Lib.tabData .u64 Lib.pow10Tab)]:=by kernel_rfl
theorem aeo (H:Type) (enc:TypeId×Value→H) (W:World) (base:Nat) (args:Array Value) (ds gs:List (DataW H)) (before:List MemPlace)
  (hval:∀ (j:Nat) t v,Tryz.f3.params[j]?=some t→args[j]?=some v→Value.okWide Tryz.prog W .any base t v)
  (hW:DataW.Whole enc Tryz.prog Tryz.f3.params.toList Rows.schemaPlaysSpec.vars false W args.toList ds gs before)
  (hc:∀ k,(Rows.OpenSpec.upto Rows.schemaPlaysSpec).cond=some k→k H (ds++gs)=true) (hL:laidMetH Tryz.prog Rows.schemaPlaysUptoRow.laid W) (hsh:W.ShapedOpen Tryz.prog) :
  Calls Tryz.prog 3 args W fun e W'=>∃ v,e=.returned v∧Rows.schemaPlaysSpec.post enc Tryz.prog Tryz.f3 false true false false W args v W':=by
 have hW':=hW
 obtain⟨p,q,hA0,hV,rfl,hfz,hnd⟩:=hW
 have hA:DataW.TrodAll enc Tryz.prog W 0 (fun _=>true) true Tryz.f3.params.toList args.toList ds p:=hA0
 rw[Tryz.params3] at hA hval
 have hAk:=hA
 obtain⟨v0,d0,rfl,rfl,h0⟩:=trodAll_one hA
 obtain⟨rfl,rfl⟩:=trodVars_none hV
 have hb:=aZZ (hc _ rfl)
 obtain⟨c0,r0,q0⟩:=aut Tryz.underlying22 (by decide) h0 (hval 0 _ v0 rfl rfl)
 obtain⟨l,rfl,hl⟩:=aqm q0 (by omega)
 refine (ahy (aku l hl) Tryz.func3 (table alx hL) (vs:=[v0]) ⟨_,_,rfl,r0,rfl⟩).mono ?_
 rintro e W' ⟨rfl,hB⟩
 have hlt:∀ x∈p,x.block<W.heap.size:=fun x hx=>by
  have:=hW'.lt x (by simpa using hx)
  simpa using this
 exact⟨_,rfl,⟨_,_,_,[],_,[],hW',trodAll_mk1 (shut_bool Tryz.underlying4 _),aby (aPu aul) hAk (fun x hx=>hB.same (hlt x hx)) (fun x hx=>by simpa using hlt x hx),rfl,hB.frame _,fun h=>by cases h⟩⟩
theorem aeg (os:Os):laidMet Tryz.prog Rows.schemaPlaysUptoRow.laid ((jG os).forCall (fun _ _=>0) ⟨#[],#[.slice none 0 0],[]⟩).memory :=
 laidMet_of_run' 8 (by kernel_rfl) (by kernel_rfl)
theorem akY (os:Os) {H:Type} (enc:TypeId×Value→H):∃ bC,DataW.whole enc Tryz.prog ((jG os).forCall (fun _ _=>0) ⟨#[],#[.slice none 0 0],[]⟩).memory Tryz.f3.params.toList Rows.schemaPlaysSpec.vars false (#[.slice none 0 0]:Array Value).toList 8=some ([.nil],[],bC) :=
 ⟨[],by kernel_rfl⟩
theorem ack (os:Os) (started:os.Started) (H:Type) (enc:TypeId×Value→H) (F:Stop.Interp) :
  ReturnsInHanded {} Tryz.checked os 3 .any ((Rows.OpenSpec.upto Rows.schemaPlaysSpec).preRow enc Tryz.prog Tryz.f3 Rows.schemaPlaysUptoRow.domain false Rows.schemaPlaysUptoRow.laid) (((Rows.OpenSpec.upto Rows.schemaPlaysSpec).at F).post enc Tryz.prog Tryz.f3 false true false false):=by
 obtain⟨bC,hx⟩:=akY os enc
 refine returnsInHanded_of_row (C:=Tryz.checked) (s:=Rows.OpenSpec.upto Rows.schemaPlaysSpec) own started (by kernel_rfl) Tryz.func3
  (witness_row_at (enc:=enc) (C:=Tryz.checked) false (jG os) #[.slice none 0 0] rfl (by kernel_rfl) (by kernel_rfl) (by kernel_rfl)
   (OpenSpec.preRow_of_cond 8 hx (by kernel_rfl) (fun k hk=>by cases hk;kernel_rfl) (by kernel_rfl) (aeg os))) ?_
 intro W base args ds gs before hval hW _ hcond _ hL hsh _
 exact aeo H enc W base args ds gs before hval hW hcond hL hsh
end Go.Proofs.YtjajlmjfddohfaaGreatDoor.schemaPlays

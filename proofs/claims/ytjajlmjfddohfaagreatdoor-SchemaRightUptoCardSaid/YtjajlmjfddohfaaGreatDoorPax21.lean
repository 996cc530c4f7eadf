/-
  SchemaRight: the statement, and its card (a part). Conditions: none.
-/
import Derived.Test.YtjajlmjfddohfaaGreatDoorPa17
set_option linter.defProp false
set_option linter.unusedSectionVars false
set_option maxRecDepth 100000
set_option maxHeartbeats 32000000
namespace Go.Proofs.YtjajlmjfddohfaaGreatDoor
open Go Go.Pe Go.Tab
def zc4:=ai (ai (ai (ai (ai @zq @a15) (ai @a14 @ayY)) (ai (ai @apO @aGm) (ai @aAg (ai @aGl @aAf)))) (ai (ai (ai @a13 @aGk) (ai @aAe @a1Z)) (ai (ai @aiW @afH) (ai @apG (ai @al5 @ay8))))) (ai (ai (ai (ai @ase @cU) (ai @fa @dH)) (ai (ai @dw @fb) (ai @bK (ai @il @aaC)))) (ai (ai (ai @d9 @cW) (ai @cE @dR)) (ai (ai @kb @abM) (ai @zT0 (ai @aIM (aw fi4))))))
theorem akt (c:Ct) (s:Sm) (hc:CtB c) (so:fz s) (hs:smW s≤1048576):G1 4 [.of (.agg (ctC c)),.of (.agg (smC s))] (ah true):=by
 have h1:=hc.t
 have h2:=hc.x
 have hlb:LB=1073741824:=rfl
 have e40:((40:Int)<(c.tbs.length:Int))=(40<c.tbs.length):=propext (by omega)
 have e80:((80:Int)<(c.ixs.length:Int))=(80<c.ixs.length):=propext (by omega)
 have hlt:=fun K=>ai1 s hs K
 have hB:=alS hc (Nat.le_trans hs afc) so
 have kd:=fun K=>aG9 c s hc so hs K
 have kD:=fun K=>aHY c s hc (Nat.le_trans hs afc) K
 have kr:=fun K=>ae.k (kA c hc) K
 have kR:=fun K=>adz c hc K
 have hno:bz c=false→(doA c s).2=1:=fun h=>by rw[aLe h]
 generalize hq:doA c s=q at *
 have kS:=fun K=>asr q.1 hB K
 refine aj rfl fi4 aIM rfl ?_
 by_cases c0:40<c.tbs.length
 .skip
  simp -implicitDefEqProofs(maxSteps:=9^9)only[Tryz.f4,↓zA,sevalprocAttr,zc4,e40,e80,hlt,fm,c0]
 by_cases c1:80<c.ixs.length
 .skip
  simp -implicitDefEqProofs(maxSteps:=9^9)only[Tryz.f4,↓zA,sevalprocAttr,zc4,e40,e80,hlt,fm,c0,c1]
 cases b:aed s
 .skip
  simp -implicitDefEqProofs(maxSteps:=9^9)only[Tryz.f4,↓zA,sevalprocAttr,zc4,e40,e80,hlt,fm,c0,c1,b]
 simp -implicitDefEqProofs(maxSteps:=9^9)only[Tryz.f4,↓zA,sevalprocAttr,zc4,e40,e80,hlt,fm,c0,c1,b]
 refine aL (c.tbs.length) (fun k tk=>tk.fr 2=.of (.ref [slC tbC c.tbs,slC ixC c.ixs,ci c.nx])∧tk.fr 3=.of (.ref (smL s))∧tk.fr 5=ak k∧tk.objs=[]) ?_ ?_
 .simp -implicitDefEqProofs(maxSteps:=9^9)only[Tryz.f4,↓zA,sevalprocAttr,zc4]
  try exact rfl
 rintro k ⟨frk,obk,ckk⟩ hk ⟨f2,f3,f5,fo⟩
 dsimp only at f2 f3 f5 fo
 rcases Nat.lt_or_ge k (c.tbs.length) with dk|dk
 .have hw:=aQ k (by omega)
  have gx:=ap dk
  generalize c.tbs[k]=t at *
  have e1:((20:Int)<(t.cs.length:Int))=(20<t.cs.length):=propext (by omega)
  have e2:((20:Int)<(t.kys.length:Int))=(20<t.kys.length):=propext (by omega)
  have e3:((20:Int)<(t.rfs.length:Int))=(20<t.rfs.length):=propext (by omega)
  have e4:((10:Int)<(t.chs.length:Int))=(10<t.chs.length):=propext (by omega)
  by_cases d0:20<t.cs.length
  .skip
   simp -implicitDefEqProofs(maxSteps:=9^9)only[Tryz.f4,↓zA,sevalprocAttr,zc4,f2,f3,f5,fo,aa,dk,gx,hw,e1,e2,e3,e4,fm,d0]
  by_cases d1:20<t.kys.length
  .skip
   simp -implicitDefEqProofs(maxSteps:=9^9)only[Tryz.f4,↓zA,sevalprocAttr,zc4,f2,f3,f5,fo,aa,dk,gx,hw,e1,e2,e3,e4,fm,d0,d1]
  by_cases d2:20<t.rfs.length
  .skip
   simp -implicitDefEqProofs(maxSteps:=9^9)only[Tryz.f4,↓zA,sevalprocAttr,zc4,f2,f3,f5,fo,aa,dk,gx,hw,e1,e2,e3,e4,fm,d0,d1,d2]
  by_cases d3:10<t.chs.length
  .skip
   simp -implicitDefEqProofs(maxSteps:=9^9)only[Tryz.f4,↓zA,sevalprocAttr,zc4,f2,f3,f5,fo,aa,dk,gx,hw,e1,e2,e3,e4,fm,d0,d1,d2,d3]
  simp -implicitDefEqProofs(maxSteps:=9^9)only[Tryz.f4,↓zA,sevalprocAttr,zc4,f2,f3,f5,fo,aa,dk,gx,hw,e1,e2,e3,e4,fm,d0,d1,d2,d3]
 have e:k=c.tbs.length:=by omega
 subst e
 cases b2:bz c
 .have hq1:=hno b2
  simp -implicitDefEqProofs(maxSteps:=9^9)only[Tryz.f4,↓zA,sevalprocAttr,zc4,f2,f3,f5,fo,aa,Nat.lt_irrefl,kd,kD,ie,kS,kr,kR,fm,b2,hq1]
 .skip
  simp -implicitDefEqProofs(maxSteps:=9^9)only[Tryz.f4,↓zA,sevalprocAttr,zc4,f2,f3,f5,fo,aa,Nat.lt_irrefl,kd,kD,ie,kS,kr,kR,fm,b2]
end Go.Proofs.YtjajlmjfddohfaaGreatDoor
namespace Go.Proofs.YtjajlmjfddohfaaGreatDoor.schemaRight
open Go Go.Pe Go.Tab Go.RowKit Go.ChangeShapes Go.WideShapes Go.ChangeAt Go.Proofs.YtjajlmjfddohfaaGreatDoor Go.Proofs.YtjajlmjfddohfaaGreatDoor.card
theorem alx:(Rows.schemaRightUptoRow.laid.filter fun x=>x.1 == hY)=[(hY,Lib.tabData .u64 Lib.pow10Tab)]:=by kernel_rfl
theorem aeo (H:Type) (enc:TypeId×Value→H) (W:World) (base:Nat) (args:Array Value) (ds gs:List (DataW H)) (before:List MemPlace)
  (hval:∀ (j:Nat) t v,Tryz.f4.params[j]?=some t→args[j]?=some v→Value.okWide Tryz.prog W .any base t v)
  (hW:DataW.Whole enc Tryz.prog Tryz.f4.params.toList Rows.schemaRightSpec.vars false W args.toList ds gs before)
  (hc:∀ k,(Rows.OpenSpec.upto Rows.schemaRightSpec).cond=some k→k H (ds++gs)=true) (hL:laidMetH Tryz.prog Rows.schemaRightUptoRow.laid W) (hsh:W.ShapedOpen Tryz.prog) :
  Calls Tryz.prog 4 args W fun e W'=>∃ v,e=.returned v∧Rows.schemaRightSpec.post enc Tryz.prog Tryz.f4 false true false false W args v W':=by
 have hW':=hW
 obtain⟨p,q,hA0,hV,rfl,hfz,hnd⟩:=hW
 have hA:DataW.TrodAll enc Tryz.prog W 0 (fun _=>true) true Tryz.f4.params.toList args.toList ds p:=hA0
 rw[Tryz.params4] at hA hval
 have hAk:=hA
 obtain⟨v0,v1,d0,d1,p0,p1,rfl,rfl,rfl,h0,h1⟩:=trodAll_two hA
 obtain⟨rfl,rfl⟩:=trodVars_none hV
 have hb:=aLf (hc _ rfl)
 obtain⟨g0,r0,q0⟩:=ajY Tryz.underlying27 (by decide) h0 (hval 0 _ v0 rfl rfl)
 obtain⟨c,rfl,hc⟩:=aM4 q0 (by omega)
 obtain⟨g1,r1,q1⟩:=ajY Tryz.underlying38 (by decide) h1 (hval 1 _ v1 rfl rfl)
 obtain⟨s,rfl,so,hs⟩:=auo q1 (by omega)
 refine (ahy (akt c s hc so hs) Tryz.func4 (table alx hL) (vs:=[v0,v1]) ⟨_,_,rfl,r0,_,_,rfl,r1,rfl⟩).mono ?_
 rintro e W' ⟨rfl,hB⟩
 have hlt:∀ x∈p0++p1,x.block<W.heap.size:=fun x hx=>by
  have:=hW'.lt x (by simpa using hx)
  simpa using this
 exact⟨_,rfl,⟨_,_,_,[],_,[],hW',trodAll_mk1 (shut_bool Tryz.underlying4 _),aby (aBh aZY aBw) hAk (fun x hx=>hB.same (hlt x hx)) (fun x hx=>by simpa using hlt x hx),rfl,hB.frame _,fun h=>by cases h⟩⟩
theorem aeg (os:Os):laidMet Tryz.prog Rows.schemaRightUptoRow.laid ((jG os).forCall (fun _ _=>0) ⟨#[],#[.agg #[.slice none 0 0,.slice none 0 0,.int .i64 0],.agg #[.int .i64 0,.string ⟨#[]⟩,.string ⟨#[]⟩,.slice none 0 0,.slice none 0 0,.bool false,.slice none 0 0,.slice none 0 0,.slice none 0 0,.slice none 0 0,.slice none 0 0,.slice none 0 0,.slice none 0 0]],[]⟩).memory :=
 laidMet_of_run' 8 (by kernel_rfl) (by kernel_rfl)
theorem akY (os:Os) {H:Type} (enc:TypeId×Value→H):∃ bC,DataW.whole enc Tryz.prog ((jG os).forCall (fun _ _=>0) ⟨#[],#[.agg #[.slice none 0 0,.slice none 0 0,.int .i64 0],.agg #[.int .i64 0,.string ⟨#[]⟩,.string ⟨#[]⟩,.slice none 0 0,.slice none 0 0,.bool false,.slice none 0 0,.slice none 0 0,.slice none 0 0,.slice none 0 0,.slice none 0 0,.slice none 0 0,.slice none 0 0]],[]⟩).memory Tryz.f4.params.toList Rows.schemaRightSpec.vars false (#[.agg #[.slice none 0 0,.slice none 0 0,.int .i64 0],.agg #[.int .i64 0,.string ⟨#[]⟩,.string ⟨#[]⟩,.slice none 0 0,.slice none 0 0,.bool false,.slice none 0 0,.slice none 0 0,.slice none 0 0,.slice none 0 0,.slice none 0 0,.slice none 0 0,.slice none 0 0]]:Array Value).toList 8=some ([.agg [.nil,.nil,.lit (.int .i64 0)],.agg [.lit (.int .i64 0),.lit (.string []),.lit (.string []),.nil,.nil,.lit (.bool false),.nil,.nil,.nil,.nil,.nil,.nil,.nil]],[],bC) :=
 ⟨[],by kernel_rfl⟩
theorem ack (os:Os) (started:os.Started) (H:Type) (enc:TypeId×Value→H) (F:Stop.Interp) :
  ReturnsInHanded {} Tryz.checked os 4 .any ((Rows.OpenSpec.upto Rows.schemaRightSpec).preRow enc Tryz.prog Tryz.f4 Rows.schemaRightUptoRow.domain false Rows.schemaRightUptoRow.laid) (((Rows.OpenSpec.upto Rows.schemaRightSpec).at F).post enc Tryz.prog Tryz.f4 false true false false):=by
 obtain⟨bC,hx⟩:=akY os enc
 refine returnsInHanded_of_row (C:=Tryz.checked) (s:=Rows.OpenSpec.upto Rows.schemaRightSpec) own started (by kernel_rfl) Tryz.func4
  (witness_row_at (enc:=enc) (C:=Tryz.checked) false (jG os) #[.agg #[.slice none 0 0,.slice none 0 0,.int .i64 0],.agg #[.int .i64 0,.string ⟨#[]⟩,.string ⟨#[]⟩,.slice none 0 0,.slice none 0 0,.bool false,.slice none 0 0,.slice none 0 0,.slice none 0 0,.slice none 0 0,.slice none 0 0,.slice none 0 0,.slice none 0 0]] rfl (by kernel_rfl) (by kernel_rfl) (by kernel_rfl)
   (OpenSpec.preRow_of_cond 8 hx (by kernel_rfl) (fun k hk=>by cases hk;kernel_rfl) (by kernel_rfl) (aeg os))) ?_
 intro W base args ds gs before hval hW _ hcond _ hL hsh _
 exact aeo H enc W base args ds gs before hval hW hcond hL hsh
end Go.Proofs.YtjajlmjfddohfaaGreatDoor.schemaRight

/-
  PrintStmts: the statement, and its card (a part). Conditions: none.
-/
import Derived.Test.YtemdljoideegeaaGreatDoorPa20
set_option linter.defProp false
set_option linter.unusedSectionVars false
set_option maxRecDepth 100000
set_option maxHeartbeats 64000000
namespace Go.Proofs.YtemdljoideegeaaGreatDoor.printStmts
open Go Go.Pe Go.Tab Go.RowKit Go.ChangeShapes Go.WideShapes Go.ChangeAt Go.Proofs.YtemdljoideegeaaGreatDoor Go.Proofs.YtemdljoideegeaaGreatDoor.card
def aDu:(Rows.printStmtsUptoRow.laid.filter fun x=>x.1 == adE)=[(adE,Lib.tabData .u64 Lib.pow10Tab)]:=by kernel_rfl
def aov (H:Type) (enc:TypeId×Value→H) (W:World) (base:Nat) (args:Array Value) (ds gs:List (DataW H)) (before:List MemPlace)
  (hval:∀ (j:Nat) t v,Tryz.f3.params[j]?=some t→args[j]?=some v→Value.okWide Tryz.prog W .any base t v)
  (hW:DataW.Whole enc Tryz.prog Tryz.f3.params.toList Rows.printStmtsSpec.vars false W args.toList ds gs before)
  (hc:∀ k,(Rows.OpenSpec.upto Rows.printStmtsSpec).cond=some k→k H (ds++gs)=true) (hL:laidMetH Tryz.prog Rows.printStmtsUptoRow.laid W) (hsh:W.ShapedOpen Tryz.prog) :
  Calls Tryz.prog 3 args W fun e W'=>∃ v,e=.returned v∧Rows.printStmtsSpec.post enc Tryz.prog Tryz.f3 false true false false W args v W':=by
 have hW':=hW
 obtain⟨p,qq,hA0,hV,rfl,hfz,hnd⟩:=hW
 have hA:DataW.TrodAll enc Tryz.prog W 0 (fun _=>true) true Tryz.f3.params.toList args.toList ds p:=hA0
 rw[Tryz.params3] at hA hval
 have hAk:=hA
 obtain⟨v0,d0,rfl,rfl,h0⟩:=trodAll_one hA
 obtain⟨rfl,rfl⟩:=trodVars_none hV
 have hb:=a4K (hc _ rfl)
 obtain⟨g0,r0,q0⟩:=an3 Tryz.underlying31 (by decide) h0 (hval 0 _ v0 rfl rfl)
 obtain⟨s,rfl,so,hs⟩:=aQK q0 hb
 refine (arB (aqc s so hs) Tryz.func3 (table aDu hL hsh) (vs:=[v0]) ⟨_,_,rfl,r0,rfl⟩).mono ?_
 rintro e W' ⟨rfl,hB⟩
 have hlt:∀ x∈p,x.block<W.heap.size:=fun x hx=>by
  have:=hW'.lt x (by simpa using hx)
  simpa using this
 exact⟨_,rfl,⟨_,_,_,[],_,[],hW',trodAll_mk1 (shut_bool Tryz.underlying4 _),ahQ (aUY aUz) hAk (fun x hx=>hB.same (hlt x hx)) (fun x hx=>by simpa using hlt x hx),rfl,hB.frame _,fun h=>by cases h⟩⟩
def aoi (os:Os):laidMet Tryz.prog Rows.printStmtsUptoRow.laid ((agd os).forCall (fun _ _=>0) ⟨#[],#[.agg #[.int .i64 0,.string ⟨#[]⟩,.string ⟨#[]⟩,.slice none 0 0,.slice none 0 0,.bool false,.slice none 0 0,.slice none 0 0,.slice none 0 0,.slice none 0 0,.slice none 0 0,.slice none 0 0,.slice none 0 0]],[]⟩).memory :=
 laidMet_of_run' 8 (by kernel_rfl) (by kernel_rfl)
def aCD (os:Os) {H:Type} (enc:TypeId×Value→H):∃ ad8,DataW.whole enc Tryz.prog ((agd os).forCall (fun _ _=>0) ⟨#[],#[.agg #[.int .i64 0,.string ⟨#[]⟩,.string ⟨#[]⟩,.slice none 0 0,.slice none 0 0,.bool false,.slice none 0 0,.slice none 0 0,.slice none 0 0,.slice none 0 0,.slice none 0 0,.slice none 0 0,.slice none 0 0]],[]⟩).memory Tryz.f3.params.toList Rows.printStmtsSpec.vars false (#[.agg #[.int .i64 0,.string ⟨#[]⟩,.string ⟨#[]⟩,.slice none 0 0,.slice none 0 0,.bool false,.slice none 0 0,.slice none 0 0,.slice none 0 0,.slice none 0 0,.slice none 0 0,.slice none 0 0,.slice none 0 0]]:Array Value).toList 8=some ([.agg [.lit (.int .i64 0),.lit (.string []),.lit (.string []),.nil,.nil,.lit (.bool false),.nil,.nil,.nil,.nil,.nil,.nil,.nil]],[],ad8) :=
 ⟨[],by kernel_rfl⟩
def ak3 (os:Os) (started:os.Started) (H:Type) (enc:TypeId×Value→H) (F:Stop.Interp) :
  ReturnsInHanded {} Tryz.checked os 3 .any ((Rows.OpenSpec.upto Rows.printStmtsSpec).preRow enc Tryz.prog Tryz.f3 Rows.printStmtsUptoRow.domain false Rows.printStmtsUptoRow.laid) (((Rows.OpenSpec.upto Rows.printStmtsSpec).at F).post enc Tryz.prog Tryz.f3 false true false false):=by
 obtain⟨ad8,hx⟩:=aCD os enc
 refine returnsInHanded_of_row (C:=Tryz.checked) (s:=Rows.OpenSpec.upto Rows.printStmtsSpec) own started (by kernel_rfl) Tryz.func3
  (witness_row_at (enc:=enc) (C:=Tryz.checked) false (agd os) #[.agg #[.int .i64 0,.string ⟨#[]⟩,.string ⟨#[]⟩,.slice none 0 0,.slice none 0 0,.bool false,.slice none 0 0,.slice none 0 0,.slice none 0 0,.slice none 0 0,.slice none 0 0,.slice none 0 0,.slice none 0 0]] rfl (by kernel_rfl) (by kernel_rfl) (by kernel_rfl)
   (OpenSpec.preRow_of_cond 8 hx (by kernel_rfl) (fun k hk=>by cases hk;kernel_rfl) (by kernel_rfl) (aoi os))) ?_
 intro W base args ds gs before hval hW _ hcond _ hL hsh _
 exact aov H enc W base args ds gs before hval hW hcond hL hsh
end Go.Proofs.YtemdljoideegeaaGreatDoor.printStmts

/-
  PrintQueries: the statement, and its card (a part). Conditions: none.
-/
import Derived.Test.YtemdljoideegeaaGreatDoorPa20
set_option linter.defProp false
set_option linter.unusedSectionVars false
set_option maxRecDepth 100000
set_option maxHeartbeats 64000000
namespace Go.Proofs.YtemdljoideegeaaGreatDoor.printQueries
open Go Go.Pe Go.Tab Go.RowKit Go.ChangeShapes Go.WideShapes Go.ChangeAt Go.Proofs.YtemdljoideegeaaGreatDoor Go.Proofs.YtemdljoideegeaaGreatDoor.card
def aDs:(Rows.printQueriesUptoRow.laid.filter fun x=>x.1 == adA)=[(adA,Lib.tabData .u64 Lib.pow10Tab)]:=by kernel_rfl
def aot (H:Type) (enc:TypeId×Value→H) (W:World) (base:Nat) (args:Array Value) (ds gs:List (DataW H)) (before:List MemPlace)
  (hval:∀ (j:Nat) t v,Tryz.f4.params[j]?=some t→args[j]?=some v→Value.okWide Tryz.prog W .any base t v)
  (hW:DataW.Whole enc Tryz.prog Tryz.f4.params.toList Rows.printQueriesSpec.vars false W args.toList ds gs before)
  (hc:∀ k,(Rows.OpenSpec.upto Rows.printQueriesSpec).cond=some k→k H (ds++gs)=true) (hL:laidMetH Tryz.prog Rows.printQueriesUptoRow.laid W) (hsh:W.ShapedOpen Tryz.prog) :
  Calls Tryz.prog 4 args W fun e W'=>∃ v,e=.returned v∧Rows.printQueriesSpec.post enc Tryz.prog Tryz.f4 false true false false W args v W':=by
 have hW':=hW
 obtain⟨p,qq,hA0,hV,rfl,hfz,hnd⟩:=hW
 have hA:DataW.TrodAll enc Tryz.prog W 0 (fun _=>true) true Tryz.f4.params.toList args.toList ds p:=hA0
 rw[Tryz.params4] at hA hval
 have hAk:=hA
 obtain⟨v0,v1,d0,d1,p0,p1,rfl,rfl,rfl,h0,h1⟩:=trodAll_two hA
 obtain⟨rfl,rfl⟩:=trodVars_none hV
 have hb:=a4H (hc _ rfl)
 obtain⟨g0,r0,q0⟩:=an1 Tryz.underlying41 (by decide) h0 (hval 0 _ v0 rfl rfl)
 obtain⟨q,rfl,qo,hq⟩:=aQX q0 hb.1
 obtain⟨g1,r1,q1⟩:=an1 Tryz.underlying45 (by decide) h1 (hval 1 _ v1 rfl rfl)
 obtain⟨x,rfl,xo,hx⟩:=aQc q1 hb.2
 refine (arz (anC q x qo xo hq hx) Tryz.func4 (table aDs hL hsh) (vs:=[v0,v1]) ⟨_,_,rfl,r0,_,_,rfl,r1,rfl⟩).mono ?_
 rintro e W' ⟨rfl,hB⟩
 have hlt:∀ x∈p0++p1,x.block<W.heap.size:=fun x hx=>by
  have:=hW'.lt x (by simpa using hx)
  simpa using this
 exact⟨_,rfl,⟨_,_,_,[],_,[],hW',trodAll_mk1 (shut_bool Tryz.underlying4 _),ahO (aTZ aQ0 aY7) hAk (fun x hx=>hB.same (hlt x hx)) (fun x hx=>by simpa using hlt x hx),rfl,hB.frame _,fun h=>by cases h⟩⟩
def aog (os:Os):laidMet Tryz.prog Rows.printQueriesUptoRow.laid ((agb os).forCall (fun _ _=>0) ⟨#[],#[.agg #[.int .i64 0,.bool false,.slice none 0 0,.bool false,.slice none 0 0,.slice none 0 0,.slice none 0 0,.slice none 0 0,.slice none 0 0,.slice none 0 0,.int .i64 0,.int .i64 0],.agg #[.int .i64 0,.int .i64 0,.int .i64 0,.string ⟨#[]⟩,.string ⟨#[]⟩,.string ⟨#[]⟩,.bool false,.slice none 0 0,.slice none 0 0]],[]⟩).memory :=
 laidMet_of_run' 8 (by kernel_rfl) (by kernel_rfl)
def aCB (os:Os) {H:Type} (enc:TypeId×Value→H):∃ ad5,DataW.whole enc Tryz.prog ((agb os).forCall (fun _ _=>0) ⟨#[],#[.agg #[.int .i64 0,.bool false,.slice none 0 0,.bool false,.slice none 0 0,.slice none 0 0,.slice none 0 0,.slice none 0 0,.slice none 0 0,.slice none 0 0,.int .i64 0,.int .i64 0],.agg #[.int .i64 0,.int .i64 0,.int .i64 0,.string ⟨#[]⟩,.string ⟨#[]⟩,.string ⟨#[]⟩,.bool false,.slice none 0 0,.slice none 0 0]],[]⟩).memory Tryz.f4.params.toList Rows.printQueriesSpec.vars false (#[.agg #[.int .i64 0,.bool false,.slice none 0 0,.bool false,.slice none 0 0,.slice none 0 0,.slice none 0 0,.slice none 0 0,.slice none 0 0,.slice none 0 0,.int .i64 0,.int .i64 0],.agg #[.int .i64 0,.int .i64 0,.int .i64 0,.string ⟨#[]⟩,.string ⟨#[]⟩,.string ⟨#[]⟩,.bool false,.slice none 0 0,.slice none 0 0]]:Array Value).toList 8=some ([.agg [.lit (.int .i64 0),.lit (.bool false),.nil,.lit (.bool false),.nil,.nil,.nil,.nil,.nil,.nil,.lit (.int .i64 0),.lit (.int .i64 0)],.agg [.lit (.int .i64 0),.agg [.lit (.int .i64 0),.lit (.int .i64 0),.lit (.string [])],.lit (.string []),.lit (.string []),.lit (.bool false),.nil,.nil]],[],ad5) :=
 ⟨[],by kernel_rfl⟩
def ak1 (os:Os) (started:os.Started) (H:Type) (enc:TypeId×Value→H) (F:Stop.Interp) :
  ReturnsInHanded {} Tryz.checked os 4 .any ((Rows.OpenSpec.upto Rows.printQueriesSpec).preRow enc Tryz.prog Tryz.f4 Rows.printQueriesUptoRow.domain false Rows.printQueriesUptoRow.laid) (((Rows.OpenSpec.upto Rows.printQueriesSpec).at F).post enc Tryz.prog Tryz.f4 false true false false):=by
 obtain⟨ad5,hx⟩:=aCB os enc
 refine returnsInHanded_of_row (C:=Tryz.checked) (s:=Rows.OpenSpec.upto Rows.printQueriesSpec) own started (by kernel_rfl) Tryz.func4
  (witness_row_at (enc:=enc) (C:=Tryz.checked) false (agb os) #[.agg #[.int .i64 0,.bool false,.slice none 0 0,.bool false,.slice none 0 0,.slice none 0 0,.slice none 0 0,.slice none 0 0,.slice none 0 0,.slice none 0 0,.int .i64 0,.int .i64 0],.agg #[.int .i64 0,.int .i64 0,.int .i64 0,.string ⟨#[]⟩,.string ⟨#[]⟩,.string ⟨#[]⟩,.bool false,.slice none 0 0,.slice none 0 0]] rfl (by kernel_rfl) (by kernel_rfl) (by kernel_rfl)
   (OpenSpec.preRow_of_cond 8 hx (by kernel_rfl) (fun k hk=>by cases hk;kernel_rfl) (by kernel_rfl) (aog os))) ?_
 intro W base args ds gs before hval hW _ hcond _ hL hsh _
 exact aot H enc W base args ds gs before hval hW hcond hL hsh
end Go.Proofs.YtemdljoideegeaaGreatDoor.printQueries

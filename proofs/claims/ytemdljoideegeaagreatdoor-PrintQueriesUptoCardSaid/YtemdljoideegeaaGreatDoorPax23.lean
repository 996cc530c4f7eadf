/-
  PrintQueries: the statement, and its card. Conditions: none.
-/
import Derived.Test.YtemdljoideegeaaGreatDoorPax22
set_option linter.defProp false
set_option linter.unusedSectionVars false
set_option maxRecDepth 100000
set_option maxHeartbeats 64000000
namespace Go.Proofs.YtemdljoideegeaaGreatDoor.printQueries
open Go Go.Pe Go.Tab Go.RowKit Go.ChangeShapes Go.WideShapes Go.ChangeAt Go.Proofs.YtemdljoideegeaaGreatDoor Go.Proofs.YtemdljoideegeaaGreatDoor.card
def plain (f:FuncId) (fn:Func) (hf:Tryz.pinned.checked.prog.funcNamed "tabellion/tabellionlaw11.PrintQueries"=some f) (hfn:Tryz.pinned.checked.prog.funcs[f]?=some fn) :
  false=Tryz.pinned.checked.prog.looks []∧∀ (j:Nat) t,fn.params[j]?=some t→Tryz.pinned.checked.prog.wantsStandIn t=false:=by
 obtain rfl:f=4:=bn ((show Tryz.prog.funcNamed "tabellion/tabellionlaw11.PrintQueries"=some 4 by kernel_rfl).symm.trans hf) |>.symm
 obtain rfl:fn=Tryz.f4:=(bn (Tryz.func4.symm.trans hfn)).symm
 refine⟨by kernel_rfl,fun j t ht=>?_⟩
 rw[Tryz.params4] at ht
 have hm:=acq ht
 simp only[List.mem_toArray,cY,aai,fd] at hm
 rcases hm with rfl|rfl
 .exact (show Tryz.prog.wantsStandIn 41=false by kernel_rfl)
 .exact (show Tryz.prog.wantsStandIn 45=false by kernel_rfl)
theorem PrintQueries_card:Rows.PrintQueriesUptoCardSaid :=
 Claim7.holds_tied_plain_at .later [] _ _ _ _ anX (fun _ h=>by cases h) (by kernel_rfl) (fun _ h=>by cases h) printQueriesUpto_row_tie rfl ⟨rfl,rfl⟩ (by kernel_rfl) rfl plain (by kernel_rfl)
end Go.Proofs.YtemdljoideegeaaGreatDoor.printQueries

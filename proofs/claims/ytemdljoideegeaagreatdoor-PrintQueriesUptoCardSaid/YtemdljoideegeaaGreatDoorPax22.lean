/-
  PrintQueries: the statement, and its card (a part). Conditions: none.
-/
import Derived.Test.YtemdljoideegeaaGreatDoorPax21
set_option linter.defProp false
set_option linter.unusedSectionVars false
set_option maxRecDepth 100000
set_option maxHeartbeats 64000000
namespace Go.Proofs.YtemdljoideegeaaGreatDoor.printQueries
open Go Go.Pe Go.Tab Go.RowKit Go.ChangeShapes Go.WideShapes Go.ChangeAt Go.Proofs.YtemdljoideegeaaGreatDoor Go.Proofs.YtemdljoideegeaaGreatDoor.card
def anX:Rows.PrintQueriesUptoSaid :=
 OpenClaim.holds_of_cond 4 Tryz.f4 rfl rfl rfl rfl rfl rfl rfl ⟨rfl,rfl,rfl,rfl,rfl⟩ rfl rfl rfl rfl rfl (by kernel_rfl) Tryz.func4 (by kernel_rfl)
  (gR (by kernel_rfl)) (by unfold Func.isWrapper;first|(rw[aE (by decide +kernel)];kernel_rfl)|(rw[aj (by decide +kernel)];exact⟨rfl,rfl⟩))
  (fun os started H enc _ F=>by rw[OpenClaim.pre_eq_preRow];exact ak1 os started H enc F)
end Go.Proofs.YtemdljoideegeaaGreatDoor.printQueries

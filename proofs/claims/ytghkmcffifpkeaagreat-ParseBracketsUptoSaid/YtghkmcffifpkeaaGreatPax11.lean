/- ParseBrackets: brackets about an expression make no difference, and two in brackets with a sign between are the one of both. Conditions: none. -/
import Derived.Test.YtghkmcffifpkeaaGreatPa16
set_option linter.all false
set_option maxRecDepth 100000
set_option maxHeartbeats 64000000
namespace Go.Proofs.YtghkmcffifpkeaaGreat.parseBrackets
open Pe Tab RowKit ChangeShapes WideShapes ChangeAt card
def a0e:joinedFacts Tryz.pinned.checked.prog 8 Tryz.f8 (Rows.OpenSpec.upto Rows.parseBracketsSpec).bare Rows.parseBracketsUptoRow=true:=by
 unfold joinedFacts
 simp only[aj]
 and_intros
 .kernel_rfl
 .kernel_rfl
 .kernel_rfl
 .kernel_rfl
 .kernel_rfl
 .kernel_rfl
 .kernel_rfl
 .kernel_rfl
 .kernel_rfl
 .exact aHS
 .exact axE
 .exact aDZ
 .exact aTb
 all_goals kernel_rfl
theorem saidUpto:Rows.ParseBracketsUptoSaid :=
 OpenClaim.holds_of_cond 8 Tryz.f8 rfl rfl rfl rfl rfl rfl rfl ⟨rfl,rfl,rfl,rfl,rfl⟩ rfl rfl rfl rfl rfl aS Tryz.func8 a0e
  (abD aS) (by unfold Func.isWrapper;first|(rw[au (by decide +kernel)];kernel_rfl)|(rw[ar (by decide +kernel)];exact⟨rfl,rfl⟩))
  (λos started H enc _ F=>by rw[OpenClaim.pre_eq_preRow];exact aDN os started H enc F)
end Go.Proofs.YtghkmcffifpkeaaGreat.parseBrackets

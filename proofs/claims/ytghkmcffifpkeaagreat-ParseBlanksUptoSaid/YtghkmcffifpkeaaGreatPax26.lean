/- ParseBlanks: blanks do not count. Conditions: none. -/
import Derived.Test.YtghkmcffifpkeaaGreatPax25
set_option linter.all false
set_option maxRecDepth 100000
set_option maxHeartbeats 64000000
namespace Go.Proofs.YtghkmcffifpkeaaGreat.parseBlanks
open Pe Tab RowKit ChangeShapes WideShapes ChangeAt card
def azo:joinedFacts Tryz.pinned.checked.prog 7 Tryz.f7 (Rows.OpenSpec.upto Rows.parseBlanksSpec).bare Rows.parseBlanksUptoRow=true:=by
 unfold joinedFacts
 simp only[ap]
 and_intros
 .kernel_rfl
 .kernel_rfl
 .kernel_rfl
 .kernel_rfl
 .kernel_rfl
 .kernel_rfl
 .kernel_rfl
 .kernel_rfl
 .kernel_rfl
 .exact aoE
 .exact akR
 .exact anA
 .exact atZ
 all_goals kernel_rfl
theorem saidUpto:Rows.ParseBlanksUptoSaid :=
 OpenClaim.holds_of_cond 7 Tryz.f7 rfl rfl rfl rfl rfl rfl rfl ⟨rfl,rfl,rfl,rfl,rfl⟩ rfl rfl rfl rfl rfl aS Tryz.func7 azo
  (abn aS) (by unfold Func.isWrapper;first|(rw[am (by decide +kernel)];kernel_rfl)|(rw[aj (by decide +kernel)];exact⟨rfl,rfl⟩))
  (λos started H enc _ F=>by rw[OpenClaim.pre_eq_preRow];exact anw os started H enc F)
end Go.Proofs.YtghkmcffifpkeaaGreat.parseBlanks

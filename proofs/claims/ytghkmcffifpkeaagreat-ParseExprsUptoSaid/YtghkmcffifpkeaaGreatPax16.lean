/- ParseExprs: the expression that any text is, or why and where it is none, is as the document says. Conditions: none. -/
import Derived.Test.YtghkmcffifpkeaaGreatPax15
set_option linter.all false
set_option maxRecDepth 100000
set_option maxHeartbeats 64000000
namespace Go.Proofs.YtghkmcffifpkeaaGreat.parseExprs
open Pe Tab RowKit ChangeShapes WideShapes ChangeAt card
def axG:joinedFacts Tryz.pinned.checked.prog 3 Tryz.f3 (Rows.OpenSpec.upto Rows.parseExprsSpec).bare Rows.parseExprsUptoRow=true:=by
 unfold joinedFacts
 simp only[ar]
 and_intros
 .kernel_rfl
 .kernel_rfl
 .kernel_rfl
 .kernel_rfl
 .kernel_rfl
 .kernel_rfl
 .kernel_rfl
 .kernel_rfl
 .kernel_rfl
 .exact anp
 .exact ajX
 .exact amg
 .exact asj
 all_goals kernel_rfl
theorem saidUpto:Rows.ParseExprsUptoSaid :=
 OpenClaim.holds_of_cond 3 Tryz.f3 rfl rfl rfl rfl rfl rfl rfl ⟨rfl,rfl,rfl,rfl,rfl⟩ rfl rfl rfl rfl rfl aS Tryz.func3 axG
  (abB aS) (by unfold Func.isWrapper;first|(rw[aE (by decide +kernel)];kernel_rfl)|(rw[aA (by decide +kernel)];exact⟨rfl,rfl⟩))
  (λos started H enc _ F=>by rw[OpenClaim.pre_eq_preRow];exact al9 os started H enc F)
end Go.Proofs.YtghkmcffifpkeaaGreat.parseExprs

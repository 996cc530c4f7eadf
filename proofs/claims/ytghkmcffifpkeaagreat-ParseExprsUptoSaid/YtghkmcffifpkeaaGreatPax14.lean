/- A part. Conditions: none. -/
import Derived.Test.YtghkmcffifpkeaaGreatPax13
set_option linter.all false
set_option maxRecDepth 100000
namespace Go.Proofs.YtghkmcffifpkeaaGreat.parseExprs
def amg:(Rows.parseExprsUptoRow.recurses == Tryz.prog.recurses 3)=true:=by kernel_rfl

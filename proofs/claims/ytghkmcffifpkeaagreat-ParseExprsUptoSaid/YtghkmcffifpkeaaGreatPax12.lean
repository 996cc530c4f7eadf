/- A part. Conditions: none. -/
import Derived.Test.YtghkmcffifpkeaaGreatPax11
set_option linter.all false
set_option maxRecDepth 100000
namespace Go.Proofs.YtghkmcffifpkeaaGreat.parseExprs
def anp:(Rows.parseExprsUptoRow.inPlace == Tryz.prog.inPlace 3)=true:=by kernel_rfl

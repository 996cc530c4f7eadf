/- A part. Conditions: none. -/
import Derived.Test.YtghkmcffifpkeaaGreatPax13
set_option linter.all false
set_option maxRecDepth 100000
namespace Go.Proofs.YtghkmcffifpkeaaGreat.parseRight
def anA:(Rows.parseRightUptoRow.recurses == Tryz.prog.recurses 6)=true:=by kernel_rfl

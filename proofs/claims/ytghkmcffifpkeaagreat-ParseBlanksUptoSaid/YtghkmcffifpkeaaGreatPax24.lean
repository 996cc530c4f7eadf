/- A part. Conditions: none. -/
import Derived.Test.YtghkmcffifpkeaaGreatPax23
set_option linter.all false
set_option maxRecDepth 100000
namespace Go.Proofs.YtghkmcffifpkeaaGreat.parseBlanks
def anA:(Rows.parseBlanksUptoRow.recurses == Tryz.prog.recurses 7)=true:=by kernel_rfl

/- A part. Conditions: none. -/
import Derived.Test.YtghkmcffifpkeaaGreatPax21
set_option linter.all false
set_option maxRecDepth 100000
namespace Go.Proofs.YtghkmcffifpkeaaGreat.parseBlanks
def aoE:(Rows.parseBlanksUptoRow.inPlace == Tryz.prog.inPlace 7)=true:=by kernel_rfl

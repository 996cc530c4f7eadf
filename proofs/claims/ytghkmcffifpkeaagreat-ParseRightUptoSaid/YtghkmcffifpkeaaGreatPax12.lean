/- A part. Conditions: none. -/
import Derived.Test.YtghkmcffifpkeaaGreatPax11
set_option linter.all false
set_option maxRecDepth 100000
namespace Go.Proofs.YtghkmcffifpkeaaGreat.parseRight
def aoE:(Rows.parseRightUptoRow.inPlace == Tryz.prog.inPlace 6)=true:=by kernel_rfl

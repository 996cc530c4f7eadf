/- A part. Conditions: none. -/
import Derived.Test.YtghkmcffifpkeaaGreatPa12
set_option linter.all false
set_option maxRecDepth 100000
set_option maxHeartbeats 64000000
namespace Go.Proofs.YtghkmcffifpkeaaGreat.parseBrackets
open Pe Tab RowKit ChangeShapes WideShapes ChangeAt card
def aHS:(Rows.parseBracketsUptoRow.inPlace == Tryz.prog.inPlace 8)=true:=by kernel_rfl

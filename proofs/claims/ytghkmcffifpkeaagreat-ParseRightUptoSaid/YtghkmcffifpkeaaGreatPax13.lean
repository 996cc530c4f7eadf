/- A part. Conditions: none. -/
import Derived.Test.YtghkmcffifpkeaaGreatPax12
set_option linter.all false
set_option maxRecDepth 100000
namespace Go.Proofs.YtghkmcffifpkeaaGreat.parseRight
def akR:(Rows.parseRightUptoRow.unfollowed == Tryz.prog.unfollowed 6)=true:=by kernel_rfl

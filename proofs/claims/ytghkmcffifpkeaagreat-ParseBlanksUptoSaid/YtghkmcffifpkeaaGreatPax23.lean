/- A part. Conditions: none. -/
import Derived.Test.YtghkmcffifpkeaaGreatPax22
set_option linter.all false
set_option maxRecDepth 100000
namespace Go.Proofs.YtghkmcffifpkeaaGreat.parseBlanks
def akR:(Rows.parseBlanksUptoRow.unfollowed == Tryz.prog.unfollowed 7)=true:=by kernel_rfl

/- A part. Conditions: none. -/
import Derived.Test.YtghkmcffifpkeaaGreatPax12
set_option linter.all false
set_option maxRecDepth 100000
namespace Go.Proofs.YtghkmcffifpkeaaGreat.parseExprs
def ajX:(Rows.parseExprsUptoRow.unfollowed == Tryz.prog.unfollowed 3)=true:=by kernel_rfl

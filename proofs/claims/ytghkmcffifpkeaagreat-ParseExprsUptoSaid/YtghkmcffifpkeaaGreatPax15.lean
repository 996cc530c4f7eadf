/- A part. Conditions: none. -/
import Derived.Test.YtghkmcffifpkeaaGreatPax14
set_option linter.all false
set_option maxRecDepth 100000
namespace Go.Proofs.YtghkmcffifpkeaaGreat.parseExprs
def asj:(Rows.parseExprsUptoRow.named == Tryz.prog.varsNamed 3)=true:=by kernel_rfl

/- A part. Conditions: none. -/
import Derived.Test.YtghkmcffifpkeaaGreatPax14
set_option linter.all false
set_option maxRecDepth 100000
namespace Go.Proofs.YtghkmcffifpkeaaGreat.parseRight
def atZ:(Rows.parseRightUptoRow.named == Tryz.prog.varsNamed 6)=true:=by kernel_rfl

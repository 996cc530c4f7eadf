/- A part. Conditions: none. -/
import Derived.Test.YtghkmcffifpkeaaGreatPax24
set_option linter.all false
set_option maxRecDepth 100000
namespace Go.Proofs.YtghkmcffifpkeaaGreat.parseBlanks
def atZ:(Rows.parseBlanksUptoRow.named == Tryz.prog.varsNamed 7)=true:=by kernel_rfl

/- Part of the proof of ParseBrackets. Conditions: none. -/
import Derived.Test.YtghkmcffifpkeaaGreatPa14
set_option linter.defProp false
set_option linter.unusedSectionVars false
set_option maxRecDepth 100000
set_option maxHeartbeats 64000000
namespace Go.Proofs.YtghkmcffifpkeaaGreat.parseBrackets
open Go Go.Pe Go.Tab Go.RowKit Go.ChangeShapes Go.WideShapes Go.ChangeAt Go.Proofs.YtghkmcffifpkeaaGreat Go.Proofs.YtghkmcffifpkeaaGreat.card
def aDZ:(Rows.parseBracketsUptoRow.recurses == Tryz.prog.recurses 8)=true:=by kernel_rfl
end Go.Proofs.YtghkmcffifpkeaaGreat.parseBrackets

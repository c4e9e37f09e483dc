/- package seal: contracts. -/
import Derived.Test.YtcebndkiagbddaaDoorCMac
import Derived.Test.YtcebndkiagbddaaDoorSealF
namespace Go.Proofs.YtcebndkiagbddaaDoor
open Go.RowKit
set_option linter.unusedVariables false
set_option linter.unusedSimpArgs false

end Go.Proofs.YtcebndkiagbddaaDoor

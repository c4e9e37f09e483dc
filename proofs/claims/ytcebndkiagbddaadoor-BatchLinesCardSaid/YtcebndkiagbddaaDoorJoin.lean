/- The contract of net.Join. -/
import Derived.Test.YtcebndkiagbddaaDoorNetb
import Derived.Test.YtcebndkiagbddaaDoorMathJoin
import Derived.Test.YtcebndkiagbddaaDoorShelf
namespace Go.Proofs.YtcebndkiagbddaaDoor
open Go.RowKit
set_option linter.unusedVariables false
set_option linter.unusedSimpArgs false

end Go.Proofs.YtcebndkiagbddaaDoor

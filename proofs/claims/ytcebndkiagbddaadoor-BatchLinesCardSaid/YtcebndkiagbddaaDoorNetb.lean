/- The contracts of net.Of and net.Join. -/
import Derived.Test.YtcebndkiagbddaaDoorNet
import Derived.Test.YtcebndkiagbddaaDoorKitb
import Derived.Test.YtcebndkiagbddaaDoorFB
import Derived.Test.YtcebndkiagbddaaDoorMathNet
namespace Go.Proofs.YtcebndkiagbddaaDoor
open Go.RowKit
set_option linter.unusedVariables false
set_option linter.unusedSimpArgs false

end Go.Proofs.YtcebndkiagbddaaDoor

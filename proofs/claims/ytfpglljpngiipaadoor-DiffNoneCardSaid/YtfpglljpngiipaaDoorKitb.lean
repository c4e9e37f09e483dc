/- More small general lemmas for the walks; they name no function of the program. -/
import Derived.Test.YtfpglljpngiipaaDoorFB
namespace Go.Proofs.YtfpglljpngiipaaDoor
open Go.RowKit
set_option linter.unusedVariables false
set_option linter.unusedSimpArgs false

end Go.Proofs.YtfpglljpngiipaaDoor

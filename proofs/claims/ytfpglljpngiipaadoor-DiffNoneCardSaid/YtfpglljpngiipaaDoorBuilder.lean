/- strings.Builder: copyCheck and WriteByte (the shelf does not lay them at this translation), and hex.Text. -/
import Derived.Test.YtfpglljpngiipaaDoorBytes
import Derived.Test.YtfpglljpngiipaaDoorShelf
namespace Go.Proofs.YtfpglljpngiipaaDoor
open Go.RowKit
set_option linter.unusedVariables false
set_option linter.unusedSimpArgs false

end Go.Proofs.YtfpglljpngiipaaDoor

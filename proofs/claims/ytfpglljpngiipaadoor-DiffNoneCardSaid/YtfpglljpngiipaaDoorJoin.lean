/- The contract of net.Join. -/
import Derived.Test.YtfpglljpngiipaaDoorNetb
import Derived.Test.YtfpglljpngiipaaDoorMathJoin
import Derived.Test.YtfpglljpngiipaaDoorShelf
namespace Go.Proofs.YtfpglljpngiipaaDoor
open Go.RowKit
set_option linter.unusedVariables false
set_option linter.unusedSimpArgs false

end Go.Proofs.YtfpglljpngiipaaDoor

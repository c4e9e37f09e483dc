/- The contracts of net.Of and net.Join. -/
import Derived.Test.YtfpglljpngiipaaDoorNet
import Derived.Test.YtfpglljpngiipaaDoorKitb
import Derived.Test.YtfpglljpngiipaaDoorFB
import Derived.Test.YtfpglljpngiipaaDoorMathNet
namespace Go.Proofs.YtfpglljpngiipaaDoor
open Go.RowKit
set_option linter.unusedVariables false
set_option linter.unusedSimpArgs false

end Go.Proofs.YtfpglljpngiipaaDoor

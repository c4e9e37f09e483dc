/- hex.Text: its walk (the builder's contracts are the shelf's). -/
import Derived.Test.YtfpglljpngiipaaDoorBuilder
import Derived.Test.YtfpglljpngiipaaDoorHexF
namespace Go.Proofs.YtfpglljpngiipaaDoor
open Go.RowKit
set_option linter.unusedVariables false
set_option linter.unusedSimpArgs false

end Go.Proofs.YtfpglljpngiipaaDoor

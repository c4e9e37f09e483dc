/- Plain facts about the join of two networks. No program in sight. -/
import Derived.Test.YtfpglljpngiipaaDoorMathNet
import Derived.Lib.BitFns
import Derived.Lib.ItoaNum
namespace Go.Proofs.YtfpglljpngiipaaDoor

end Go.Proofs.YtfpglljpngiipaaDoor

/- Plain facts about networks: what containment is, and the join. No program in sight. -/
import Derived.Test.YtfpglljpngiipaaDoorMath
namespace Go.Proofs.YtfpglljpngiipaaDoor

end Go.Proofs.YtfpglljpngiipaaDoor

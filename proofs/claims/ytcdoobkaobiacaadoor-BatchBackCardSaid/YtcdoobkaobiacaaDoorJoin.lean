/- The contract of net.Join. -/
import Derived.Test.YtcdoobkaobiacaaDoorNetb
import Derived.Test.YtcdoobkaobiacaaDoorMathJoin
import Derived.Test.YtcdoobkaobiacaaDoorShelf
namespace Go.Proofs.YtcdoobkaobiacaaDoor
open Go.RowKit
set_option linter.unusedVariables false
set_option linter.unusedSimpArgs false

end Go.Proofs.YtcdoobkaobiacaaDoor

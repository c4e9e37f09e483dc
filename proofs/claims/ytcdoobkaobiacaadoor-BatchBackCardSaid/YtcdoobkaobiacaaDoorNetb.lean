/- The contracts of net.Of and net.Join. -/
import Derived.Test.YtcdoobkaobiacaaDoorNet
import Derived.Test.YtcdoobkaobiacaaDoorKitb
import Derived.Test.YtcdoobkaobiacaaDoorFB
import Derived.Test.YtcdoobkaobiacaaDoorMathNet
namespace Go.Proofs.YtcdoobkaobiacaaDoor
open Go.RowKit
set_option linter.unusedVariables false
set_option linter.unusedSimpArgs false

end Go.Proofs.YtcdoobkaobiacaaDoor

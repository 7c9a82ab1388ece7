import Derived.Test.YtjakgjelnbpmnaaGreatNetF
import Derived.Test.YtjakgjelnbpmnaaGreatNetC
/- Networks: rounds back. -/
set_option linter.unusedSimpArgs false
set_option linter.unusedVariables false
namespace Go.Proofs.YtjakgjelnbpmnaaGreat
open Go Go.Vc
set_option maxRecDepth 10000
set_option maxHeartbeats 4000000
end Go.Proofs.YtjakgjelnbpmnaaGreat

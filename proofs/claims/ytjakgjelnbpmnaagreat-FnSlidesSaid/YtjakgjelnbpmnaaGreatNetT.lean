import Derived.Test.YtjakgjelnbpmnaaGreatRunB
import Derived.Test.YtjakgjelnbpmnaaGreatNetQ
/- RunBack: both. -/
set_option linter.unusedSimpArgs false
set_option linter.unusedVariables false
namespace Go.Proofs.YtjakgjelnbpmnaaGreat
open Go Go.Vc
set_option maxRecDepth 10000
set_option maxHeartbeats 4000000
end Go.Proofs.YtjakgjelnbpmnaaGreat
/- Networks run, there and back: the program and the reference told once, with what is known of the answers. -/
set_option linter.unusedSimpArgs false
set_option linter.unusedVariables false
namespace Go.Proofs.YtjakgjelnbpmnaaGreat
open Go Go.Vc
set_option maxRecDepth 10000
set_option maxHeartbeats 4000000
end Go.Proofs.YtjakgjelnbpmnaaGreat

import Derived.Test.YtapagcnipdpfiaaNetB
/- Networks: the reference's rounds. -/
set_option linter.unusedSimpArgs false
set_option linter.unusedVariables false
namespace Go.Proofs.Ytapagcnipdpfiaa
open Go Go.Vc
set_option maxRecDepth 10000
set_option maxHeartbeats 4000000
end Go.Proofs.Ytapagcnipdpfiaa

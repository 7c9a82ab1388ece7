import Derived.Test.YtledcckafhpgaaaProofs
/- Growths: the program and the reference. -/
set_option linter.unusedSimpArgs false
set_option linter.unusedVariables false
namespace Go.Proofs.Ytledcckafhpgaaa
open Go Go.Vc
set_option maxRecDepth 10000
set_option maxHeartbeats 4000000
end Go.Proofs.Ytledcckafhpgaaa

import Derived.Test.YtjakgjelnbpmnaaGreatListsM
import Derived.Test.YtjakgjelnbpmnaaGreatEngE
import Derived.Test.YtjakgjelnbpmnaaGreatEngI
import Derived.Test.YtjakgjelnbpmnaaGreatConcatB
import Derived.Test.YtjakgjelnbpmnaaGreatFieldM
import Derived.Test.YtjakgjelnbpmnaaGreatCipA
import Derived.Test.YtjakgjelnbpmnaaGreatCiphIs
/- Bytes cut into blocks: the program and the reference. -/
set_option linter.unusedSimpArgs false
set_option linter.unusedVariables false
namespace Go.Proofs.YtjakgjelnbpmnaaGreat
open Go Go.Vc
set_option maxRecDepth 10000
set_option maxHeartbeats 4000000
end Go.Proofs.YtjakgjelnbpmnaaGreat
/- Digests: the reference. -/
set_option linter.unusedSimpArgs false
set_option linter.unusedVariables false
namespace Go.Proofs.YtjakgjelnbpmnaaGreat
open Go Go.Vc
set_option maxRecDepth 10000
set_option maxHeartbeats 4000000
end Go.Proofs.YtjakgjelnbpmnaaGreat
/- Digests of parts by the program's engine. -/
set_option linter.unusedSimpArgs false
set_option linter.unusedVariables false
namespace Go.Proofs.YtjakgjelnbpmnaaGreat
open Go Go.Vc
set_option maxRecDepth 10000
set_option maxHeartbeats 4000000
end Go.Proofs.YtjakgjelnbpmnaaGreat
/- Leaves, nodes, digests of the house: the program and the reference. -/
set_option linter.unusedSimpArgs false
set_option linter.unusedVariables false
namespace Go.Proofs.YtjakgjelnbpmnaaGreat
open Go Go.Vc
set_option maxRecDepth 10000
set_option maxHeartbeats 4000000
/-- The engine of the house, at some handle. -/
def hEng (h1 h2 : Nat) : List V := engC houseB (invL 256 houseB 256) houseP (invL 16 houseP 16) h1 h2 8
def hT1 : List UInt8 := tabL 285 houseA
def hT2 : List UInt8 := tabL 285 (invM 285 houseA (unP 4)).2
def hB (own : Bool) : List Blk := [⟨own, hEng 1 2⟩, ⟨own, bs hT1⟩, ⟨own, bs hT2⟩]
end Go.Proofs.YtjakgjelnbpmnaaGreat
/- Roots of lists of digests: the program and the reference. -/
set_option linter.unusedSimpArgs false
set_option linter.unusedVariables false
namespace Go.Proofs.YtjakgjelnbpmnaaGreat
open Go Go.Vc
set_option maxRecDepth 10000
set_option maxHeartbeats 4000000
end Go.Proofs.YtjakgjelnbpmnaaGreat
/- The laws' own helpers over slices of digests. -/
set_option linter.unusedSimpArgs false
set_option linter.unusedVariables false
namespace Go.Proofs.YtjakgjelnbpmnaaGreat
open Go Go.Vc
set_option maxRecDepth 10000
set_option maxHeartbeats 4000000
end Go.Proofs.YtjakgjelnbpmnaaGreat
/- Digests compared: the program's bytes.Compare and the reference's loop. -/
set_option linter.unusedSimpArgs false
set_option linter.unusedVariables false
namespace Go.Proofs.YtjakgjelnbpmnaaGreat
open Go Go.Vc
set_option maxRecDepth 10000
set_option maxHeartbeats 4000000
end Go.Proofs.YtjakgjelnbpmnaaGreat

import Derived.Test.YtahnjhppkgndiaaGreatEngE
import Derived.Test.YtahnjhppkgndiaaGreatTk
/- The laws' own helpers over arrays of bytes, ciphers, networks. -/
set_option linter.unusedSimpArgs false
set_option linter.unusedVariables false
namespace Go.Proofs.YtahnjhppkgndiaaGreat
open Go Go.Vc
set_option maxRecDepth 10000
set_option maxHeartbeats 4000000
section
variable {f r : Int} {box A pl w : List UInt8} {kl : List V → Prop}
end
section
variable {f kd r : Int} {box A w : List UInt8} {k : V → Prop} {kl : List V → Prop}
end
end Go.Proofs.YtahnjhppkgndiaaGreat

import Derived.Test.YtahnjhppkgndiaaGreatTk
/- 'LeadingZeros' of the program and of the reference compute the same number. -/
set_option linter.unusedSimpArgs false
set_option linter.unusedVariables false
namespace Go.Proofs.YtahnjhppkgndiaaGreat
open Go Go.Vc
set_option maxRecDepth 10000
end Go.Proofs.YtahnjhppkgndiaaGreat

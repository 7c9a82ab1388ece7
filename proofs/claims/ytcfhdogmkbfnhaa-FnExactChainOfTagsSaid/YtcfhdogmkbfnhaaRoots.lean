import Derived.Test.YtcfhdogmkbfnhaaDigS
/- Roots of lists: the program and the reference hand back the same. -/
set_option linter.unusedSimpArgs false
set_option linter.unusedVariables false
namespace Go.Proofs.Ytcfhdogmkbfnhaa
open Go Go.Vc
set_option maxRecDepth 10000
set_option maxHeartbeats 4000000
def rootD (n : Nat) (D : List UInt8) : List UInt8 × Int := if n ≤ 64 then (rootL n D, 0) else (List.replicate 32 0, 2)
theorem rootD_len {n : Nat} {D : List UInt8} (h : D.length = 32 * n) : (rootD n D).1.length = 32 := by unfold rootD; split; exact rootL_len h; simp
end Go.Proofs.Ytcfhdogmkbfnhaa

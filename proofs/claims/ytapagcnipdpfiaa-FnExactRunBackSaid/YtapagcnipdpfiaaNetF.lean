import Derived.Test.YtapagcnipdpfiaaNetD
/- Networks: the program's rounds. -/
set_option linter.unusedSimpArgs false
set_option linter.unusedVariables false
namespace Go.Proofs.Ytapagcnipdpfiaa
open Go Go.Vc
set_option maxRecDepth 10000
set_option maxHeartbeats 4000000
theorem take8_at {b : List UInt8} {i : Nat} (h : i < 8) : (b.take 8).getD i 0 = b.getD i 0 := by
  simp only [List.getD_eq_getElem?_getD, List.getElem?_take, if_pos h]
theorem drop8_at {b : List UInt8} {i : Nat} : (b.drop 8).getD i 0 = b.getD (8 + i) 0 := by
  simp only [List.getD_eq_getElem?_getD, List.getElem?_drop]
end Go.Proofs.Ytapagcnipdpfiaa

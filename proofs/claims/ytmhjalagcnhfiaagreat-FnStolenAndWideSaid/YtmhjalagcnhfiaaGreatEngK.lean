import Derived.Test.YtmhjalagcnhfiaaGreatModM
import Derived.Test.YtmhjalagcnhfiaaGreatEngE
/- A block absorbed: the reference. -/
set_option linter.unusedSimpArgs false
set_option linter.unusedVariables false
namespace Go.Proofs.YtmhjalagcnhfiaaGreat
open Go Go.Vc
set_option maxRecDepth 10000
set_option maxHeartbeats 4000000
theorem app_set_l {a b : List UInt8} {i : Nat} {v : UInt8} (h : i < a.length) : (a ++ b).set i v = a.set i v ++ b := by
  rw [List.set_append_left _ _ h]
theorem app_set_r {a b : List UInt8} {i n : Nat} {v : UInt8} (h : a.length = n) : (a ++ b).set (n + i) v = a ++ b.set i v := by
  subst h
  rw [List.set_append_right _ _ (by omega)]; congr 2; omega
theorem rep32 : List.replicate 32 (0 : UInt8) = List.replicate 16 0 ++ List.replicate 16 0 := by decide
end Go.Proofs.YtmhjalagcnhfiaaGreat

import Derived.Test.YtnlkebkonkdahaaModF
import Derived.Test.YtnlkebkonkdahaaDec
import Derived.Test.YtnlkebkonkdahaaEngN
/- Chaining: the reference. -/
set_option linter.unusedSimpArgs false
set_option linter.unusedVariables false
namespace Go.Proofs.Ytnlkebkonkdahaa
open Go Go.Vc
set_option maxRecDepth 10000
set_option maxHeartbeats 4000000
theorem blkB_load {P : List UInt8} {i : Nat} {k : V → Prop} (h : 16 * i + 16 ≤ P.length) : vSub (bs P) (i * 16) 16 k = k (.a (bs ((P.drop (16 * i)).take 16))) := by
  rw [vSub_bs, show i * 16 = 16 * i by omega]
  simp; omega
theorem blkR_load {P : List UInt8} {i : Nat} {R : List V} {k : V → Prop} (h : 16 * i + 16 ≤ P.length) : vSub (bs P ++ R) (i * 16) 16 k = k (.a (bs ((P.drop (16 * i)).take 16))) := by
  rw [vSub_appL (by rw [bs_length]; omega), vSub_bs, show i * 16 = 16 * i by omega]
  simp; omega
theorem blkB_len {P : List UInt8} {i : Nat} (h : 16 * i + 16 ≤ P.length) : ((P.drop (16 * i)).take 16).length = 16 := by
  rw [List.length_take, List.length_drop]; omega
/-- The first k blocks of data, the last one filled up with 0. -/
def partsL (l : List UInt8) : Nat → List UInt8
  | 0 => []
  | k + 1 => partsL l k ++ fillB ((l.drop (16 * k)).take 16)
theorem partsL_len (l : List UInt8) : ∀ k, (partsL l k).length = 16 * k
  | 0 => rfl
  | k + 1 => by rw [partsL, List.length_append, partsL_len l k, fillB_len]; omega
theorem partsL_take {l : List UInt8} : ∀ {k : Nat}, 16 * k ≤ l.length → partsL l k = l.take (16 * k)
  | 0, _ => by simp [partsL]
  | k + 1, h => by rw [partsL, partsL_take (by omega), fillB_full (blkB_len (by omega)), show 16 * (k + 1) = 16 * k + 16 by omega, List.take_add]
theorem partsL_full {l : List UInt8} {K : Nat} (h : l.length = 16 * K) : partsL l K = l := by rw [partsL_take (by omega), ← h, List.take_length]
end Go.Proofs.Ytnlkebkonkdahaa

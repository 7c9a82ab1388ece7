import Derived.Test.YtledcckafhpgaaaRoot
import Derived.Test.YtledcckafhpgaaaTk
/- The laws' own helpers over slices of digests. -/
set_option linter.unusedSimpArgs false
set_option linter.unusedVariables false
namespace Go.Proofs.Ytledcckafhpgaaa
open Go Go.Vc
set_option maxRecDepth 10000
set_option maxHeartbeats 4000000
theorem flatZ (k : Nat) : ∀ n, (List.replicate n (bs (List.replicate k 0))).flatten = bs (List.replicate (k * n) 0)
  | 0 => by simp [bs_nil]
  | n + 1 => by rw [List.replicate_succ, List.flatten_cons, flatZ k n, bs_append, List.replicate_append_replicate, show k + k * n = k * (n + 1) by rw [Nat.mul_succ]; omega]
/-- The digest at a place. -/
def dgA (D : List UInt8) (i : Nat) : List UInt8 := (D.drop (32 * i)).take 32
theorem dgA_len {D : List UInt8} {i n : Nat} (hD : D.length = 32 * n) (h : i < n) : (dgA D i).length = 32 := by
  unfold dgA; rw [List.length_take, List.length_drop]; omega
theorem dgA_succ {D : List UInt8} {i n : Nat} (hD : D.length = 32 * n) (h : i < n) : D.take (32 * (i + 1)) = D.take (32 * i) ++ dgA D i := by
  unfold dgA; rw [Nat.mul_succ, List.take_add]
theorem dgA_eq (D : List UInt8) (i : Nat) : List.take 32 (List.drop (i * 32) D) = dgA D i := by rw [Nat.mul_comm]; rfl
theorem splB_fill {D : List UInt8} {i n : Nat} (hD : D.length = 32 * n) (h : i < n) : splB (D.take (32 * i) ++ List.replicate (32 * (n - i)) 0) (i * 32) (dgA D i) = D.take (32 * (i + 1)) ++ List.replicate (32 * (n - (i + 1))) 0 := by
  have hl : (D.take (32 * i)).length = 32 * i := by rw [List.length_take]; omega
  unfold splB
  rw [dgA_len hD h, List.take_append_of_le_length (by omega), List.take_of_length_le (by omega), List.drop_append, List.drop_eq_nil_of_le (by omega), hl, List.drop_replicate, dgA_succ hD h, List.append_assoc]
  simp only [List.nil_append]
  rw [show 32 * (n - i) - (i * 32 + 32 - 32 * i) = 32 * (n - (i + 1)) by omega, List.append_assoc]
theorem dgs_ne {A B : List UInt8} {i : Nat} (h : dgA A i ≠ dgA B i) : A ≠ B := fun e => h (by rw [e])
end Go.Proofs.Ytledcckafhpgaaa

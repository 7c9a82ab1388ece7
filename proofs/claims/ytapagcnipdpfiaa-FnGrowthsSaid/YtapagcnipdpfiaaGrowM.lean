import Derived.Test.YtapagcnipdpfiaaIsGrowth
/- A growth shows the roots of the first m and of all. -/
set_option linter.unusedSimpArgs false
set_option linter.unusedVariables false
namespace Go.Proofs.Ytapagcnipdpfiaa
open Go Go.Vc
set_option maxRecDepth 10000
theorem part_same {m n : Nat} (h : partN n < m) (h2 : m ≤ n) (h3 : 2 ≤ m) : partN m = partN n := by
  obtain ⟨⟨a, ha⟩, h4⟩ := partF_pow m m 1 ⟨0, rfl⟩ (by omega) (by omega) (by omega)
  obtain ⟨⟨b, hb⟩, h5⟩ := partF_pow n n 1 ⟨0, rfl⟩ (by omega) (by omega) (by omega)
  have h6 := (partN_spec h3).2
  have h7 := (partN_spec (n := n) (by omega)).2
  unfold partN at *
  rw [ha] at h4 h6 ⊢
  rw [hb] at h h5 h7 ⊢
  rcases Nat.lt_trichotomy a b with hab | hab | hab
  · have : 2 ^ (a + 1) ≤ 2 ^ b := Nat.pow_le_pow_right (by omega) hab
    rw [Nat.pow_succ] at this
    omega
  · rw [hab]
  · have : 2 ^ (b + 1) ≤ 2 ^ a := Nat.pow_le_pow_right (by omega) hab
    rw [Nat.pow_succ] at this
    omega
theorem dgA_snoc {A B : List UInt8} {q : Nat} (hA : A.length = 32 * q) (hB : B.length = 32) : dgA (A ++ B) q = B ∧ (A ++ B).take (32 * q) = A := by
  refine ⟨?_, by rw [← hA, List.take_left']; rfl⟩
  unfold dgA
  rw [← hA, List.drop_left' rfl, ← hB, List.take_length]
/-- What is grown from the growth of the first m. -/
theorem grown_growL (n : Nat) : ∀ (m : Nat) (w : Bool) (b D : List UInt8), D.length = 32 * n → 1 ≤ m → m ≤ n → (w = true → b = rootL m (D.take (32 * m))) → grownL pkS b (gdepL n m w) m n w (growL n m w D) = (rootL m (D.take (32 * m)), rootL n D, true) := by
  refine Nat.strongRecOn n ?_
  clear n
  intro n ih m w b D hD h1 hmn hb
  rcases Nat.lt_or_ge m n with h | h
  · have hn2 : 2 ≤ n := by omega
    obtain ⟨p1, p2⟩ := partN_spec hn2
    obtain ⟨l1, l2⟩ := halves_len hn2 hD
    by_cases hp : m ≤ partN n
    · obtain ⟨e1, e2⟩ := dgA_snoc (q := gdepL (partN n) m w) (growL_len (partN n) m w _ l1) (rootL_len l2)
      have ht : (D.take (32 * partN n)).take (32 * m) = D.take (32 * m) := by rw [List.take_take]; congr 1; omega
      have key := ih (partN n) p2 m w b _ l1 h1 hp (by rw [ht]; exact hb)
      rw [ht] at key
      rw [gdepL_lt h1 h hp, growL_lt h1 h hp, grownL, if_neg (by omega), if_neg (by omega), if_pos hp, e1, e2, key, rootL_two hn2]
    · obtain ⟨e1, e2⟩ := dgA_snoc (q := gdepL (n - partN n) (m - partN n) false) (growL_len (n - partN n) (m - partN n) false _ l2) (rootL_len l1)
      have key := ih (n - partN n) (by omega) (m - partN n) false b _ l2 (by omega) (by omega) (fun h => by cases h)
      have hm2 : 2 ≤ m := by omega
      have hpm : partN m = partN n := part_same (by omega) hmn hm2
      have et : (D.take (32 * m)).take (32 * partN n) = D.take (32 * partN n) := by rw [List.take_take]; congr 1; omega
      have ed : (D.take (32 * m)).drop (32 * partN n) = (D.drop (32 * partN n)).take (32 * (m - partN n)) := by rw [List.drop_take]; congr 1; omega
      rw [gdepL_ge h1 h hp, growL_ge h1 h hp, grownL, if_neg (by omega), if_neg (by omega), if_neg hp, e1, e2, key, rootL_two hn2, rootL_two hm2, hpm, et, ed]
  · obtain rfl : m = n := by omega
    have ht : D.take (32 * m) = D := List.take_of_length_le (by omega)
    rw [ht] at hb ⊢
    cases w with
    | true =>
      have hb := hb rfl
      subst hb
      rw [gdepL_all, growL_all, if_pos rfl, if_pos rfl, grownL, if_pos ⟨rfl, rfl⟩]
    | false =>
      have hr := rootL_len hD
      have e : pkS (rootL m D) 0 = rootL m D := by
        show dgA (rootL m D) 0 = _
        unfold dgA
        rw [Nat.mul_zero, List.drop_zero, List.take_of_length_le (by omega)]
      rw [gdepL_all, growL_all, if_neg (by decide), if_neg (by decide), grownL, if_neg (by simp), if_pos rfl, e]
      rfl
/-- A growth of a list shows both roots. -/
theorem isGrow_growL {n m : Nat} {D : List UInt8} (hD : D.length = 32 * n) (h1 : 1 ≤ m) (hmn : m ≤ n) (hn : n ≤ 64) : isGrowB pkS (rootL m (D.take (32 * m))) (rootL n D) (m : Int) (n : Int) (gdepL n m true) (growL n m true D) = true := by
  rw [ig_in (by omega) hn h1 hmn, grown_growL n m true _ D hD h1 hmn (fun _ => rfl)]
  simp
end Go.Proofs.Ytapagcnipdpfiaa

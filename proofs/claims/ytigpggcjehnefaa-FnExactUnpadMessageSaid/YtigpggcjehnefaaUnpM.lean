/- What was padded as a message comes back, both ways: the plain facts and the helpers. -/
import Derived.Test.YtigpggcjehnefaaUnp
import Derived.Test.YtigpggcjehnefaaPadM
set_option linter.unusedSimpArgs false
set_option linter.unusedVariables false
namespace Go.Proofs.Ytigpggcjehnefaa
open Go Go.Vc
theorem padM_get1 (t : List UInt8) : (padM t).getD t.length 0 = 128 := by simp [padM, padMA, List.getD]
theorem padM_get0 (t : List UInt8) {k : Nat} (h : t.length < k) (h2 : k < t.length + 1 + mz t) : (padM t).getD k 0 = 0 := by
  simp only [padM, List.getD]
  rw [List.getElem?_append_left (by rw [padMA_len]; omega), padMA, List.getElem?_append_right (by omega)]
  obtain ⟨m, rfl⟩ : ∃ m, k = t.length + 1 + m := ⟨k - t.length - 1, by omega⟩
  rw [show t.length + 1 + m - t.length = m + 1 by omega, List.getElem?_cons_succ, List.getElem?_replicate]
  split <;> rfl
theorem padM_take (t : List UInt8) : (padM t).take t.length = t := by simp [padM, padMA]
theorem padM_inj {t u : List UInt8} (h : padM t = padM u) : t = u := by
  have key : ∀ {t u : List UInt8}, padM t = padM u → ¬ t.length < u.length := fun {t u} h hlt => by
    have h1 := padM_get1 u
    have h2 : (padM t).length = (padM u).length := by rw [h]
    rw [padM_len, padM_len] at h2
    rw [← h, padM_get0 t hlt (by omega)] at h1
    cases h1
  have hl : t.length = u.length := by have := key h; have := key h.symm; omega
  rw [← padM_take t, h, hl, padM_take]
noncomputable def unpM (l : List UInt8) : Option (List UInt8) := open Classical in if h : ∃ t, padM t = l ∧ t.length ≤ 2000 then some h.choose else none
theorem unpM_some {l t : List UInt8} (h : padM t = l) (h2 : t.length ≤ 2000) : unpM l = some t := by
  have hex : ∃ t, padM t = l ∧ t.length ≤ 2000 := ⟨t, h, h2⟩
  unfold unpM
  rw [dif_pos hex]
  have := hex.choose_spec.1
  rw [padM_inj (this.trans h.symm)]
theorem unpM_none {l : List UInt8} (h : ∀ t, padM t = l → t.length ≤ 2000 → False) : unpM l = none := by
  unfold unpM
  rw [dif_neg]
  rintro ⟨t, h1, h2⟩; exact h t h1 h2
theorem unpM_len {l t : List UInt8} (h : unpM l = some t) : t.length ≤ 2000 := by
  unfold unpM at h
  split at h
  · rename_i hx; cases h; exact hx.choose_spec.2
  · cases h
theorem padM_len16 (t : List UInt8) : (padM t).length % 16 = 0 ∧ 16 ≤ (padM t).length := by
  rw [padM_len]; unfold mz; omega
theorem unpM_len16 {l : List UInt8} (h : l.length = 0 ∨ l.length % 16 ≠ 0) : unpM l = none := by
  refine unpM_none fun t ht _ => ?_
  have := padM_len16 t
  rw [ht] at this; omega
/-- The number in the first j of the last eight bytes. -/
def valA (l : List UInt8) : Nat → Nat
  | 0 => 0
  | j + 1 => valA l j * 256 + (l.getD (l.length - 8 + j) 0).toNat
theorem padM_tail (t : List UInt8) {j : Nat} (hj : j < 8) (hn : t.length < 4294967296) : ((padM t).getD ((padM t).length - 8 + j) 0).toNat = t.length / 256 ^ (7 - j) % 256 := by
  have h1 : (padM t).length - 8 + j = (padMA t (mz t)).length + j := by rw [padM_len, padMA_len]; omega
  rw [h1]
  simp only [padM, List.getD]
  rw [List.getElem?_append_right (by omega), Nat.add_sub_cancel_left]
  simp only [beA, List.getElem?_map, List.getElem?_range hj, Option.map_some, Option.getD_some]
  have e : (t.length : Int).fdiv (2 ^ (8 * (7 - j))) = ((t.length / 256 ^ (7 - j) : Nat) : Int) := by
    rw [Int.fdiv_eq_ediv_of_nonneg _ (Int.le_of_lt (Int.pow_pos (by omega))), Int.pow_mul]; norm_cast
  rw [e]
  have := toNat_ofInt ((t.length / 256 ^ (7 - j) : Nat) : Int)
  omega
theorem valA_padM (t : List UInt8) (hn : t.length < 4294967296) : ∀ j, j ≤ 8 → valA (padM t) j = t.length / 256 ^ (8 - j)
  | 0, _ => by
    rw [valA, Nat.div_eq_of_lt]
    exact Nat.lt_of_lt_of_le hn (by decide)
  | j + 1, h => by
    rw [valA, valA_padM t hn j (by omega), padM_tail t (by omega) hn, show 8 - j = (7 - j) + 1 by omega, Nat.pow_succ, ← Nat.div_div_eq_div_mul, show 8 - (j + 1) = 7 - j by omega]
    generalize t.length / 256 ^ (7 - j) = q
    omega
theorem unpM_big {l : List UInt8} {j : Nat} (hj : j ≤ 8) (h : l.length < valA l j) : unpM l = none := by
  refine unpM_none fun t ht ht2 => ?_
  have h1 := valA_padM t (by omega) j hj
  rw [ht] at h1
  have h2 : t.length / 256 ^ (8 - j) ≤ t.length := Nat.div_le_self _ _
  have h3 := padM_len t
  rw [ht] at h3
  omega
theorem unpM_val {l : List UInt8} (hn : valA l 8 ≤ l.length) : unpM l = if padM (l.take (valA l 8)) = l ∧ valA l 8 ≤ 2000 then some (l.take (valA l 8)) else none := by
  have hlen : (l.take (valA l 8)).length = valA l 8 := by rw [List.length_take]; omega
  split
  · rename_i hh
    exact unpM_some hh.1 (by omega)
  · rename_i hh
    refine unpM_none fun t ht ht2 => ?_
    have h1 := valA_padM t (by omega) 8 (by omega)
    rw [ht] at h1
    simp at h1
    have h3 : l.take (valA l 8) = t := by rw [h1, ← ht, padM_take]
    exact hh ⟨by rw [h3, ht], by omega⟩
theorem unpM_last_neg {l : List UInt8} (h : lastF l 128 (l.length - 8) < 0) : unpM l = none := by
  refine unpM_none fun t ht _ => ?_
  have hl := padM_len t
  rw [ht] at hl
  exact lastF_neg h t.length (by omega) (by rw [← ht]; exact padM_get1 t)
theorem unpM_last {l : List UInt8} {e : Nat} (h : lastF l 128 (l.length - 8) = e) : unpM l = if padM (l.take e) = l ∧ e ≤ 2000 then some (l.take e) else none := by
  have hr := (lastF_range l 128 (l.length - 8)).2
  have hlen : (l.take e).length = e := by rw [List.length_take]; omega
  split
  · rename_i hh
    exact unpM_some hh.1 (by omega)
  · rename_i hh
    refine unpM_none fun t ht ht2 => ?_
    obtain ⟨h1, h2⟩ := lastF_pos h
    have hl := padM_len t
    rw [ht] at hl
    have g1 : l.getD t.length 0 = 128 := by rw [← ht]; exact padM_get1 t
    have : t.length = e := by
      rcases Nat.lt_trichotomy t.length e with q | q | q
      · have : l.getD e 0 = 0 := by rw [← ht]; exact padM_get0 t q (by omega)
        rw [this] at h1; cases h1
      · exact q
      · exact absurd g1 (h2 _ q (by omega))
    have ht3 : l.take e = t := by rw [← this, ← ht, padM_take]
    exact hh ⟨by rw [ht3, ht], by omega⟩
theorem lastF_take {l : List UInt8} {b : UInt8} {m : Nat} : ∀ {i : Nat}, i ≤ m → lastF (l.take m) b i = lastF l b i
  | 0, _ => rfl
  | i + 1, h => by
    have e : (l.take m).getD i 0 = l.getD i 0 := by simp only [List.getD, List.getElem?_take, if_pos (show i < m by omega)]
    rw [lastF, lastF, lastF_take (by omega), e]
end Go.Proofs.Ytigpggcjehnefaa

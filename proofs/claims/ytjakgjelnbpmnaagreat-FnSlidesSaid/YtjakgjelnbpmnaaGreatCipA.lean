import Derived.Test.YtjakgjelnbpmnaaGreatFieldC
import Derived.Test.YtjakgjelnbpmnaaGreatCiphIs
import Derived.Test.YtjakgjelnbpmnaaGreatListsM
import Derived.Test.YtjakgjelnbpmnaaGreatEngE
import Derived.Test.YtjakgjelnbpmnaaGreatEngJ
import Derived.Test.YtjakgjelnbpmnaaGreatConcatB
import Derived.Test.YtjakgjelnbpmnaaGreatFieldM
/- The fields: products are linear both ways, commutative, associative; what is not 0 has an inverse. No program in sight. -/
set_option linter.unusedSimpArgs false
set_option linter.unusedVariables false
namespace Go.Proofs.YtjakgjelnbpmnaaGreat
open Go Go.Vc
set_option maxRecDepth 10000
set_option maxHeartbeats 4000000
theorem red_xor {m x y : Nat} (hm : 256 ≤ m) (hm' : m < 512) (hx : x < 512) (hy : y < 512) : red m (x ^^^ y) = red m x ^^^ red m y := by
  have hxy : x ^^^ y < 512 := Nat.xor_lt_two_pow (n := 9) hx hy
  have hb : (x ^^^ y).testBit 8 = (x.testBit 8 ^^ y.testBit 8) := Nat.testBit_xor ..
  rw [bit8 hx, bit8 hy, bit8 hxy] at hb
  unfold red
  by_cases h1 : x < 256
  · by_cases h2 : y < 256
    · rw [show decide (256 ≤ x) = false from decide_eq_false (by omega), show decide (256 ≤ y) = false from decide_eq_false (by omega)] at hb
      have := of_decide_eq_false hb
      rw [if_pos (by omega), if_pos h1, if_pos h2]
    · rw [show decide (256 ≤ x) = false from decide_eq_false (by omega), show decide (256 ≤ y) = true from decide_eq_true (by omega)] at hb
      have := of_decide_eq_true hb
      rw [if_neg (by omega), if_pos h1, if_neg h2, Nat.xor_assoc]
  · by_cases h2 : y < 256
    · rw [show decide (256 ≤ x) = true from decide_eq_true (by omega), show decide (256 ≤ y) = false from decide_eq_false (by omega)] at hb
      have := of_decide_eq_true hb
      rw [if_neg (by omega), if_neg h1, if_pos h2, xorB]
    · rw [show decide (256 ≤ x) = true from decide_eq_true (by omega), show decide (256 ≤ y) = true from decide_eq_true (by omega)] at hb
      have := of_decide_eq_false hb
      rw [if_pos (by omega), if_neg h1, if_neg h2, xorA]
theorem nowN_xor {m a b : Nat} (hm : 256 ≤ m) (hm' : m < 512) (ha : a < 256) (hb : b < 256) : ∀ i, nowN m (a ^^^ b) i = nowN m a i ^^^ nowN m b i
  | 0 => rfl
  | i + 1 => by
    have h1 := nowN_lt hm hm' ha i
    have h2 := nowN_lt hm hm' hb i
    rw [nowN, nowN_xor hm hm' ha hb i, two_mul_xor, red_xor hm hm' (by omega) (by omega)]
    rfl
theorem xor4 (a b c d : Nat) : (a ^^^ b) ^^^ (c ^^^ d) = (a ^^^ c) ^^^ (b ^^^ d) := by
  apply Nat.eq_of_testBit_eq; intro j; simp only [Nat.testBit_xor]
  cases a.testBit j <;> cases b.testBit j <;> cases c.testBit j <;> cases d.testBit j <;> rfl
theorem tmP_xorL {m a b c : Nat} (hm : 256 ≤ m) (hm' : m < 512) (ha : a < 256) (hb : b < 256) : ∀ i, tmP m (a ^^^ b) c i = tmP m a c i ^^^ tmP m b c i
  | 0 => by simp [tmP]
  | i + 1 => by
    rw [tmP, tmP_xorL hm hm' ha hb i, tmP, tmP, nowN_xor hm hm' ha hb]
    split
    · rw [xor4]
    · simp
theorem tmul_xorL {m : Nat} (hm : 256 ≤ m) (hm' : m < 512) (a b c : UInt8) : tmul m (a ^^^ b) c = tmul m a c ^^^ tmul m b c := by
  apply UInt8.toNat_inj.1
  rw [UInt8.toNat_xor, tmul_nat hm hm', tmul_nat hm hm', tmul_nat hm hm', UInt8.toNat_xor, tmP_xorL hm hm' a.toNat_lt b.toNat_lt]
/-! Shifting by one place commutes with products. -/
section
variable {m : Nat}
theorem now_zero (m : Nat) : ∀ i, nowN m 0 i = 0
  | 0 => rfl
  | i + 1 => by rw [nowN, now_zero m i]; rfl
theorem tmP_zeroL (m b : Nat) : ∀ i, tmP m 0 b i = 0
  | 0 => rfl
  | i + 1 => by rw [tmP, tmP_zeroL m b i, now_zero]; simp
theorem now_step (m a : Nat) : ∀ i, nowN m (red m (2 * a)) i = red m (2 * nowN m a i)
  | 0 => rfl
  | i + 1 => by rw [nowN, now_step m a i]; rfl
theorem tmP_step (hm : 256 ≤ m) (hm' : m < 512) {a : Nat} (ha : a < 256) (b : Nat) : ∀ i, tmP m (red m (2 * a)) b i = red m (2 * tmP m a b i)
  | 0 => rfl
  | i + 1 => by
    have h1 := tmP_lt (b := b) hm hm' ha i
    have h2 := nowN_lt hm hm' ha i
    rw [tmP, tmP_step hm hm' ha b i, now_step, tmP, two_mul_xor]
    split
    · rw [red_xor hm hm' (by omega) (by omega)]
    · simp
theorem tmP_now (hm : 256 ≤ m) (hm' : m < 512) {a : Nat} (ha : a < 256) (b k : Nat) : ∀ i, tmP m (nowN m a i) b k = nowN m (tmP m a b k) i
  | 0 => rfl
  | i + 1 => by rw [nowN, tmP_step hm hm' (nowN_lt hm hm' ha i), tmP_now hm hm' ha b k i]; rfl
theorem tmP_swap (hm : 256 ≤ m) (hm' : m < 512) {a : Nat} (ha : a < 256) (b c k : Nat) : ∀ i, tmP m (tmP m a c i) b k = tmP m (tmP m a b k) c i
  | 0 => tmP_zeroL m b k
  | i + 1 => by
    have h1 := tmP_lt (b := c) hm hm' ha i
    have h2 := nowN_lt hm hm' ha i
    rw [tmP, tmP]
    split
    · rw [tmP_xorL hm hm' h1 h2, tmP_swap hm hm' ha b c k i, tmP_now hm hm' ha]
    · rw [Nat.xor_zero, Nat.xor_zero, tmP_swap hm hm' ha b c k i]
theorem now_one (hm : 256 ≤ m) : ∀ i, i < 8 → nowN m 1 i = 2 ^ i
  | 0, _ => rfl
  | i + 1, h => by
    rw [nowN, now_one hm i (by omega)]
    have h1 : 2 ^ i ≤ 2 ^ 6 := Nat.pow_le_pow_right (by decide) (by omega)
    have h2 : (2 : Nat) ^ 6 = 64 := rfl
    unfold red
    rw [if_pos (by omega), Nat.pow_succ, Nat.mul_comm]
theorem tmP_one (hm : 256 ≤ m) (b : Nat) : ∀ i, i ≤ 8 → tmP m 1 b i = b % 2 ^ i
  | 0, _ => by rw [tmP, Nat.pow_zero, Nat.mod_one]
  | i + 1, h => by
    rw [tmP, tmP_one hm b i (by omega), now_one hm i (by omega)]
    apply Nat.eq_of_testBit_eq
    intro j
    rw [Nat.testBit_xor, Nat.testBit_mod_two_pow, Nat.testBit_mod_two_pow]
    by_cases hb : b.testBit i
    · rw [if_pos hb, Nat.testBit_two_pow]
      by_cases e : i = j
      · subst e; simp [hb]
      · have : decide (j < i + 1) = decide (j < i) := by rw [decide_eq_decide]; omega
        rw [this, decide_eq_false e]; simp
    · rw [if_neg hb, Nat.zero_testBit]
      by_cases e : i = j
      · subst e; simp [hb]
      · have : decide (j < i + 1) = decide (j < i) := by rw [decide_eq_decide]; omega
        rw [this]; simp
theorem tmul_oneL (hm : 256 ≤ m) (hm' : m < 512) (b : UInt8) : tmul m 1 b = b := by
  apply UInt8.toNat_inj.1
  rw [tmul_nat hm hm']
  have := tmP_one hm b.toNat 8 (Nat.le_refl _)
  rw [Nat.mod_eq_of_lt b.toNat_lt] at this
  exact this
theorem tmul_swap (hm : 256 ≤ m) (hm' : m < 512) (a b c : UInt8) : tmul m (tmul m a c) b = tmul m (tmul m a b) c := by
  apply UInt8.toNat_inj.1
  rw [tmul_nat hm hm', tmul_nat hm hm', tmul_nat hm hm', tmul_nat hm hm', tmP_swap hm hm' a.toNat_lt]
theorem tmul_commN (hm : 256 ≤ m) (hm' : m < 512) (a b : UInt8) : tmul m a b = tmul m b a := by
  have := tmul_swap hm hm' 1 b a
  rw [tmul_oneL hm hm', tmul_oneL hm hm'] at this
  exact this
theorem tmul_assocN (hm : 256 ≤ m) (hm' : m < 512) (a b c : UInt8) : tmul m (tmul m a b) c = tmul m a (tmul m b c) := by
  rw [tmul_commN hm hm' a b, tmul_swap hm hm' b c a, tmul_commN hm hm' a]
end
def bits8 : List UInt8 := [1, 2, 4, 8, 16, 32, 64, 128]
theorem bit_orN : ∀ n, n < 256 → ∀ b ∈ bits8, UInt8.ofNat n &&& b = 0 ∨ UInt8.ofNat n &&& b = b := by decide +kernel
theorem bit_sumN : ∀ n, n < 256 → UInt8.ofNat n = ((((((((UInt8.ofNat n &&& 1) ^^^ (UInt8.ofNat n &&& 2)) ^^^ (UInt8.ofNat n &&& 4)) ^^^ (UInt8.ofNat n &&& 8)) ^^^ (UInt8.ofNat n &&& 16)) ^^^ (UInt8.ofNat n &&& 32)) ^^^ (UInt8.ofNat n &&& 64)) ^^^ (UInt8.ofNat n &&& 128)) := by decide +kernel
/-- Two linear maps that agree on the bits agree. -/
theorem lin_ext {f g : UInt8 → UInt8} (hf : ∀ x y, f (x ^^^ y) = f x ^^^ f y) (hg : ∀ x y, g (x ^^^ y) = g x ^^^ g y) (h : ∀ b ∈ bits8, f b = g b) (x : UInt8) : f x = g x := by
  have f0 : f 0 = 0 := by have := hf 0 0; rw [UInt8.xor_self, UInt8.xor_self] at this; exact this
  have g0 : g 0 = 0 := by have := hg 0 0; rw [UInt8.xor_self, UInt8.xor_self] at this; exact this
  have key : ∀ b ∈ bits8, f (x &&& b) = g (x &&& b) := fun b hb => by
    have := bit_orN x.toNat x.toNat_lt b hb
    rw [UInt8.ofNat_toNat] at this
    rcases this with e | e <;> rw [e]
    · rw [f0, g0]
    · exact h b hb
  have hs := bit_sumN x.toNat x.toNat_lt
  rw [UInt8.ofNat_toNat] at hs
  rw [hs]
  simp only [hf, hg]
  rw [key 1 (by decide), key 2 (by decide), key 4 (by decide), key 8 (by decide), key 16 (by decide), key 32 (by decide), key 64 (by decide), key 128 (by decide)]
/-- Squares; the eighth power of squaring. -/
def sq (m : Nat) (a : UInt8) : UInt8 := tmul m a a
def sq8 (m : Nat) (a : UInt8) : UInt8 := sq m (sq m (sq m (sq m (sq m (sq m (sq m (sq m a)))))))
def okF (m : Nat) : Bool := bits8.all fun a => sq8 m a == a
def okI (m : Nat) : Bool := (List.range 256).all fun e => !(tmul m (UInt8.ofNat e) (UInt8.ofNat e) == UInt8.ofNat e) || decide (e < 2)
theorem fields_F : ((List.range 256).all fun k => !fieldS (256 + k) || okF (256 + k)) = true := by decide +kernel
theorem fields_I : ((List.range 256).all fun k => !fieldS (256 + k) || okI (256 + k)) = true := by decide +kernel
theorem field_all {ok : Nat → Bool} (h : ((List.range 256).all fun k => !fieldS (256 + k) || ok (256 + k)) = true) {m : Nat} (hf : fieldB (m : Int) = true) : ok m = true := by
  unfold fieldB at hf
  rw [Bool.and_eq_true, decide_eq_true_eq] at hf
  obtain ⟨⟨h1, h2⟩, h3⟩ := hf
  rw [List.all_eq_true] at h
  have := h (m - 256) (by rw [List.mem_range]; omega)
  rw [show 256 + (m - 256) = m by omega] at this
  rw [show ((m : Int)).toNat = m from rfl] at h3
  rw [h3] at this
  simpa using this
section
variable {m : Nat}
theorem field_lt (hf : fieldB (m : Int) = true) : 256 ≤ m ∧ m < 512 := by
  unfold fieldB at hf
  rw [Bool.and_eq_true, decide_eq_true_eq] at hf
  omega
theorem tmul_comm (hf : fieldB (m : Int) = true) (a b : UInt8) : tmul m a b = tmul m b a := tmul_commN (field_lt hf).1 (field_lt hf).2 a b
theorem tmul_one (hf : fieldB (m : Int) = true) (a : UInt8) : tmul m a 1 = a := by rw [tmul_comm hf, tmul_oneL (field_lt hf).1 (field_lt hf).2]
theorem tmul_assoc (hf : fieldB (m : Int) = true) (a b c : UInt8) : tmul m (tmul m a b) c = tmul m a (tmul m b c) := tmul_assocN (field_lt hf).1 (field_lt hf).2 a b c
theorem sq_mul (hf : fieldB (m : Int) = true) (a b : UInt8) : sq m (tmul m a b) = tmul m (sq m a) (sq m b) := by
  unfold sq
  rw [tmul_assoc hf, tmul_assoc hf, ← tmul_assoc hf b a b, tmul_comm hf b a, tmul_assoc hf a b b]
theorem sq_xor (hf : fieldB (m : Int) = true) (a b : UInt8) : sq m (a ^^^ b) = sq m a ^^^ sq m b := by
  unfold sq
  rw [tmul_xor, tmul_xorL (field_lt hf).1 (field_lt hf).2, tmul_xorL (field_lt hf).1 (field_lt hf).2, tmul_comm hf b a, UInt8.xor_assoc, ← UInt8.xor_assoc (tmul m a b), UInt8.xor_self, UInt8.zero_xor]
theorem sq8_id (hf : fieldB (m : Int) = true) (a : UInt8) : sq8 m a = a := by
  have hC := field_all fields_F hf
  unfold okF at hC
  rw [List.all_eq_true] at hC
  exact lin_ext (f := sq8 m) (g := fun a => a) (fun x y => by unfold sq8; simp only [sq_xor hf]) (fun _ _ => rfl) (fun b hb => beq_iff_eq.1 (hC b hb)) a
theorem idem (hf : fieldB (m : Int) = true) {e : UInt8} (he : sq m e = e) : e = 0 ∨ e = 1 := by
  have hC := field_all fields_I hf
  unfold okI at hC
  rw [List.all_eq_true] at hC
  have h1 := hC e.toNat (by rw [List.mem_range]; exact e.toNat_lt)
  rw [UInt8.ofNat_toNat] at h1
  unfold sq at he
  rw [he] at h1
  simp only [beq_self_eq_true, Bool.not_true, Bool.false_or, decide_eq_true_eq] at h1
  rcases (by omega : e.toNat = 0 ∨ e.toNat = 1) with h | h
  · exact .inl (UInt8.toNat_inj.1 h)
  · exact .inr (UInt8.toNat_inj.1 h)
theorem pw_eq (hf : fieldB (m : Int) = true) (a : UInt8) : pw254 m a =
    tmul m (tmul m (tmul m (tmul m (tmul m (tmul m (sq m a) (sq m (sq m a))) (sq m (sq m (sq m a)))) (sq m (sq m (sq m (sq m a))))) (sq m (sq m (sq m (sq m (sq m a)))))) (sq m (sq m (sq m (sq m (sq m (sq m a))))))) (sq m (sq m (sq m (sq m (sq m (sq m (sq m a))))))) := by
  have h1 : ∀ x, tmul m 1 x = x := tmul_oneL (field_lt hf).1 (field_lt hf).2
  unfold pw254
  simp [pwS, sq, h1]
theorem tmul_inv (hf : fieldB (m : Int) = true) {a : UInt8} (ha : a ≠ 0) : tmul m a (pw254 m a) = 1 := by
  have h8 := sq8_id hf a
  unfold sq8 at h8
  have hsw : ∀ x y z, tmul m (tmul m x y) z = tmul m (tmul m x z) y := fun x y z => tmul_swap (field_lt hf).1 (field_lt hf).2 x z y
  have hp := pw_eq hf a
  generalize h1 : sq m a = s1 at *
  generalize h2 : sq m s1 = s2 at *
  generalize h3 : sq m s2 = s3 at *
  generalize h4 : sq m s3 = s4 at *
  generalize h5 : sq m s4 = s5 at *
  generalize h6 : sq m s5 = s6 at *
  generalize h7 : sq m s6 = s7 at *
  generalize hP : pw254 m a = p at *
  have he : sq m (tmul m a p) = tmul m a p := by
    rw [hp]
    simp only [sq_mul hf, h1, h2, h3, h4, h5, h6, h7, h8]
    rw [← tmul_assoc hf, ← tmul_assoc hf, ← tmul_assoc hf, ← tmul_assoc hf, ← tmul_assoc hf, ← tmul_assoc hf, ← tmul_assoc hf, ← tmul_assoc hf, ← tmul_assoc hf, ← tmul_assoc hf, ← tmul_assoc hf, ← tmul_assoc hf]
    rw [tmul_comm hf _ a, ← tmul_assoc hf, ← tmul_assoc hf, ← tmul_assoc hf, ← tmul_assoc hf, ← tmul_assoc hf, ← tmul_assoc hf]
  rcases idem hf he with e | e
  · exfalso
    apply ha
    have hx : tmul m a (tmul m a p) = a := by
      rw [hp, ← tmul_assoc hf, show tmul m a a = s1 from h1]
      rw [← tmul_assoc hf, ← tmul_assoc hf, ← tmul_assoc hf, ← tmul_assoc hf, ← tmul_assoc hf, ← tmul_assoc hf]
      rw [show tmul m s1 s1 = s2 from h2, show tmul m s2 s2 = s3 from h3, show tmul m s3 s3 = s4 from h4, show tmul m s4 s4 = s5 from h5, show tmul m s5 s5 = s6 from h6, show tmul m s6 s6 = s7 from h7]
      exact h8
    rw [e, tmul_zero'] at hx
    exact hx.symm
  · exact e
end
end Go.Proofs.YtjakgjelnbpmnaaGreat
/- Matrices over a field: what the reduction hands back is the inverse, on both sides. No program in sight. -/
set_option linter.unusedSimpArgs false
set_option linter.unusedVariables false
namespace Go.Proofs.YtjakgjelnbpmnaaGreat
open Go Go.Vc
set_option maxRecDepth 10000
set_option maxHeartbeats 4000000
def ge (a : List UInt8) (i j : Nat) : UInt8 := a.getD (i * 4 + j) 0
theorem four {p : Nat} (h : p < 4) : p = 0 ∨ p = 1 ∨ p = 2 ∨ p = 3 := by omega
theorem ge_swap {a : List UInt8} (h : a.length = 16) {p k i j : Nat} (hp : p < 4) (hk : k < 4) (hi : i < 4) (hj : j < 4) : ge (swapR a p k) i j = ge a (if i = k then p else if i = p then k else i) j := by
  match a, h with
  | [_, _, _, _, _, _, _, _, _, _, _, _, _, _, _, _], _ =>
    rcases four hp with rfl | rfl | rfl | rfl <;> rcases four hk with rfl | rfl | rfl | rfl <;> rcases four hi with rfl | rfl | rfl | rfl <;> rcases four hj with rfl | rfl | rfl | rfl <;> rfl
theorem ge_sc (m : Nat) (inv : UInt8) {a : List UInt8} (h : a.length = 16) {k i j : Nat} (hk : k < 4) (hi : i < 4) (hj : j < 4) : ge (scP m inv k a 4) i j = if i = k then tmul m (ge a i j) inv else ge a i j := by
  match a, h with
  | [_, _, _, _, _, _, _, _, _, _, _, _, _, _, _, _], _ =>
    rcases four hk with rfl | rfl | rfl | rfl <;> rcases four hi with rfl | rfl | rfl | rfl <;> rcases four hj with rfl | rfl | rfl | rfl <;> rfl
theorem ge_el (m : Nat) (f : UInt8) {a : List UInt8} (h : a.length = 16) {k r i j : Nat} (hk : k < 4) (hr : r < 4) (hrk : r ≠ k) (hi : i < 4) (hj : j < 4) : ge (elP m f k r a 4) i j = if i = r then ge a i j ^^^ tmul m f (ge a k j) else ge a i j := by
  match a, h with
  | [_, _, _, _, _, _, _, _, _, _, _, _, _, _, _, _], _ =>
    rcases four hk with rfl | rfl | rfl | rfl <;> rcases four hr with rfl | rfl | rfl | rfl <;> (first | exact absurd rfl hrk | (rcases four hi with rfl | rfl | rfl | rfl <;> rcases four hj with rfl | rfl | rfl | rfl <;> rfl))
theorem ge_elA (m : Nat) {a b : List UInt8} (ha : a.length = 16) (hb : b.length = 16) {k : Nat} (hk : k < 4) : ∀ r, r ≤ 4 → ∀ i j, i < 4 → j < 4 →
    ge (elA m k a b r).1 i j = (if i < r ∧ i ≠ k then ge a i j ^^^ tmul m (ge a i k) (ge a k j) else ge a i j) ∧
    ge (elA m k a b r).2 i j = (if i < r ∧ i ≠ k then ge b i j ^^^ tmul m (ge a i k) (ge b k j) else ge b i j)
  | 0, _, i, j, _, _ => by simp [elA]
  | r + 1, hr, i, j, hi, hj => by
    obtain ⟨l1, l2⟩ := elA_len m k ha hb r
    have ih := ge_elA m ha hb hk r (by omega)
    simp only [elA]
    by_cases hrk : r = k
    · rw [if_pos hrk]
      obtain ⟨h1, h2⟩ := ih i j hi hj
      rw [h1, h2]
      have e : (i < r ∧ i ≠ k) ↔ (i < r + 1 ∧ i ≠ k) := by omega
      simp only [e, and_self]
    · rw [if_neg hrk]
      obtain ⟨h1, h2⟩ := ih i j hi hj
      have hf : (elA m k a b r).1.getD (r * 4 + k) 0 = ge a r k := by
        have := (ih r k (by omega) hk).1
        rw [if_neg (by omega)] at this
        exact this
      have hkj1 := (ih k j hk hj).1
      have hkj2 := (ih k j hk hj).2
      rw [if_neg (by omega)] at hkj1 hkj2
      simp only [hf]
      rw [ge_el m _ l1 hk (by omega) hrk hi hj, ge_el m _ l2 hk (by omega) hrk hi hj, h1, h2, hkj1, hkj2]
      by_cases hir : i = r
      · subst hir
        have n1 : ¬ (i < i ∧ i ≠ k) := fun h => Nat.lt_irrefl _ h.1
        have p1 : i < i + 1 ∧ i ≠ k := ⟨Nat.lt_succ_self i, hrk⟩
        simp only [if_neg n1, if_pos p1, if_true]
        exact ⟨trivial, trivial⟩
      · rw [if_neg hir, if_neg hir]
        have e : (i < r ∧ i ≠ k) ↔ (i < r + 1 ∧ i ≠ k) := by omega
        simp only [e, and_self]
/-- A matrix led over a column. -/
def app (m : Nat) (a : List UInt8) (v : Nat → UInt8) (i : Nat) : UInt8 := ((tmul m (ge a i 0) (v 0) ^^^ tmul m (ge a i 1) (v 1)) ^^^ tmul m (ge a i 2) (v 2)) ^^^ tmul m (ge a i 3) (v 3)
theorem u8_8 (a b c d x y z w : UInt8) : (((a ^^^ x) ^^^ (b ^^^ y)) ^^^ (c ^^^ z)) ^^^ (d ^^^ w) = (((a ^^^ b) ^^^ c) ^^^ d) ^^^ (((x ^^^ y) ^^^ z) ^^^ w) := by
  have h4 : ∀ a b c d : UInt8, (a ^^^ b) ^^^ (c ^^^ d) = (a ^^^ c) ^^^ (b ^^^ d) := fun a b c d => by
    rw [UInt8.xor_assoc, ← UInt8.xor_assoc b, UInt8.xor_comm b c, UInt8.xor_assoc c, ← UInt8.xor_assoc]
  rw [h4 a x b y, h4 (a ^^^ b) (x ^^^ y) c z, h4 (a ^^^ b ^^^ c) (x ^^^ y ^^^ z) d w]
theorem u8_cancel {a b c : UInt8} (h : a ^^^ c = b ^^^ c) : a = b := by
  have := congrArg (· ^^^ c) h
  simp only [UInt8.xor_assoc, UInt8.xor_self, UInt8.xor_zero] at this
  exact this
section
variable {m : Nat}
theorem app_swap {a : List UInt8} (h : a.length = 16) {p k i : Nat} (hp : p < 4) (hk : k < 4) (hi : i < 4) (v : Nat → UInt8) : app m (swapR a p k) v i = app m a v (if i = k then p else if i = p then k else i) := by
  unfold app
  rw [ge_swap h hp hk hi (by omega), ge_swap h hp hk hi (by omega), ge_swap h hp hk hi (by omega), ge_swap h hp hk hi (by omega)]
theorem app_sc (hf : fieldB (m : Int) = true) (inv : UInt8) {a : List UInt8} (h : a.length = 16) {k i : Nat} (hk : k < 4) (hi : i < 4) (v : Nat → UInt8) : app m (scP m inv k a 4) v i = if i = k then tmul m (app m a v i) inv else app m a v i := by
  obtain ⟨hm, hm'⟩ := field_lt hf
  unfold app
  rw [ge_sc m inv h hk hi (by omega), ge_sc m inv h hk hi (by omega), ge_sc m inv h hk hi (by omega), ge_sc m inv h hk hi (by omega)]
  by_cases e : i = k
  · simp only [if_pos e]
    have hs : ∀ x y, tmul m (tmul m x inv) y = tmul m (tmul m x y) inv := fun x y => by
      rw [tmul_assoc hf, tmul_comm hf inv y, ← tmul_assoc hf]
    rw [hs, hs, hs, hs, tmul_xorL hm hm', tmul_xorL hm hm', tmul_xorL hm hm']
  · simp only [if_neg e]
theorem app_el (hf : fieldB (m : Int) = true) {a b : List UInt8} (ha : a.length = 16) (hb : b.length = 16) {k i : Nat} (hk : k < 4) (hi : i < 4) (v : Nat → UInt8) :
    app m (elA m k a b 4).1 v i = (if i = k then app m a v i else app m a v i ^^^ tmul m (ge a i k) (app m a v k)) ∧
    app m (elA m k a b 4).2 v i = (if i = k then app m b v i else app m b v i ^^^ tmul m (ge a i k) (app m b v k)) := by
  obtain ⟨hm, hm'⟩ := field_lt hf
  have h := fun j hj => ge_elA m ha hb hk 4 (by omega) i j hi hj
  unfold app
  rw [(h 0 (by omega)).1, (h 1 (by omega)).1, (h 2 (by omega)).1, (h 3 (by omega)).1, (h 0 (by omega)).2, (h 1 (by omega)).2, (h 2 (by omega)).2, (h 3 (by omega)).2]
  by_cases e : i = k
  · simp only [if_pos e, show ¬ (i < 4 ∧ i ≠ k) by omega, if_false, and_self]
  · have e4 : i < 4 ∧ i ≠ k := ⟨hi, e⟩
    simp only [if_neg e, if_pos e4, tmul_xorL hm hm', tmul_xor, tmul_assoc hf, u8_8, and_self]
/-- What the reduction keeps: the first k columns are the unit's, b leads to a what the matrix leads, and b loses nothing. -/
structure Gs (m : Nat) (A : List UInt8) (k : Nat) (a b : List UInt8) : Prop where
  la : a.length = 16
  lb : b.length = 16
  id : ∀ c i, c < k → i < 4 → ge a i c = if i = c then 1 else 0
  map : ∀ v i, i < 4 → app m b (app m A v) i = app m a v i
  inj : ∀ v w : Nat → UInt8, (∀ i, i < 4 → app m b v i = app m b w i) → ∀ i, i < 4 → v i = w i
theorem fiF_ne (a : List UInt8) (k : Nat) : ∀ n i, fiF a k n i ≠ i + n → a.getD (fiF a k n i * 4 + k) 0 ≠ 0
  | 0, i, h => by simp [fiF] at h
  | n + 1, i, h => by
    rw [fiF] at h ⊢
    split
    · rename_i hz
      rw [if_pos hz] at h
      exact fiF_ne a k n (i + 1) (by omega)
    · rename_i hz; exact hz
theorem Gs.step (hf : fieldB (m : Int) = true) {A : List UInt8} {k : Nat} (hk : k < 4) {s : List UInt8 × List UInt8 × UInt8} (h : Gs m A k s.1 s.2.1) (hfi : fi s.1 k ≠ 4) : Gs m A (k + 1) (redS m k s).1 (redS m k s).2.1 := by
  obtain ⟨hm, hm'⟩ := field_lt hf
  obtain ⟨a, b, d⟩ := s
  simp only at h hfi
  obtain ⟨la, lb, hid, hmap, hinj⟩ := h
  have hle := fiF_le a k (4 - k) k
  have hpv : a.getD (fi a k * 4 + k) 0 ≠ 0 := fiF_ne a k (4 - k) k (by unfold fi at hfi; omega)
  have hp : fi a k < 4 := by unfold fi at hfi ⊢; omega
  have hkp : k ≤ fi a k := by unfold fi; omega
  unfold redS
  simp only
  generalize fi a k = p at hp hkp hpv
  have l1 := swapR_len la hp hk
  have l1b := swapR_len lb hp hk
  have hsig : ∀ i, i < 4 → (if i = k then p else if i = p then k else i) < 4 := fun i hi => by split <;> (try split) <;> omega
  have hsig2 : ∀ i, i < 4 → (if (if i = k then p else if i = p then k else i) = k then p else if (if i = k then p else if i = p then k else i) = p then k else (if i = k then p else if i = p then k else i)) = i := fun i hi => by
    by_cases h1 : i = k
    · subst h1
      rw [if_pos rfl]
      by_cases h2 : p = i
      · rw [if_pos h2]; exact h2
      · rw [if_neg h2, if_pos rfl]
    · rw [if_neg h1]
      by_cases h2 : i = p
      · rw [if_pos h2, if_pos rfl]; exact h2.symm
      · rw [if_neg h2, if_neg h1, if_neg h2]
  have g1 := fun i j hi hj => ge_swap (i := i) (j := j) la hp hk hi hj
  have a1 := fun (v : Nat → UInt8) i hi => app_swap (m := m) (i := i) la hp hk hi v
  have b1 := fun (v : Nat → UInt8) i hi => app_swap (m := m) (i := i) lb hp hk hi v
  have hpiv : ge (swapR a p k) k k ≠ 0 := by rw [g1 k k hk hk, if_pos rfl]; exact hpv
  have hrow : ∀ c, c < k → ge (swapR a p k) k c = 0 := fun c hc => by
    rw [g1 k c hk (by omega), if_pos rfl, hid c p hc hp, if_neg (by omega)]
  have hid1 : ∀ c i, c < k → i < 4 → ge (swapR a p k) i c = if i = c then 1 else 0 := fun c i hc hi => by
    rw [g1 i c hi (by omega), hid c _ hc (hsig i hi)]
    by_cases h1 : i = k
    · rw [if_pos h1, if_neg (by omega), if_neg (by omega)]
    · rw [if_neg h1]
      by_cases h2 : i = p
      · rw [if_pos h2, if_neg (by omega), if_neg (by omega)]
      · rw [if_neg h2]
  have hmap1 : ∀ v i, i < 4 → app m (swapR b p k) (app m A v) i = app m (swapR a p k) v i := fun v i hi => by
    rw [b1 _ i hi, a1 v i hi, hmap v _ (hsig i hi)]
  have hinj1 : ∀ v w : Nat → UInt8, (∀ i, i < 4 → app m (swapR b p k) v i = app m (swapR b p k) w i) → ∀ i, i < 4 → v i = w i := fun v w hvw => by
    refine hinj v w fun i hi => ?_
    have := hvw _ (hsig i hi)
    rw [b1 v _ (hsig i hi), b1 w _ (hsig i hi), hsig2 i hi] at this
    exact this
  have hk4 : (swapR a p k).getD (k * 4 + k) 0 = ge (swapR a p k) k k := rfl
  rw [hk4]
  generalize swapR a p k = a1' at *
  generalize swapR b p k = b1' at *
  clear g1 a1 b1 hmap hinj hid hsig hsig2
  have hinv := tmul_inv hf hpiv
  generalize hpw : pw254 m (ge a1' k k) = inv at *
  have l2 := scP_len m inv k l1 4
  have l2b := scP_len m inv k l1b 4
  have hid2 : ∀ c i, c < k → i < 4 → ge (scP m inv k a1' 4) i c = if i = c then 1 else 0 := fun c i hc hi => by
    rw [ge_sc m inv l1 hk hi (by omega)]
    by_cases h1 : i = k
    · subst h1
      rw [if_pos rfl, hrow c hc, tmul_zero, if_neg (by omega)]
    · rw [if_neg h1]; exact hid1 c i hc hi
  have hkk2 : ge (scP m inv k a1' 4) k k = 1 := by rw [ge_sc m inv l1 hk hk hk, if_pos rfl, hinv]
  have hmap2 : ∀ v i, i < 4 → app m (scP m inv k b1' 4) (app m A v) i = app m (scP m inv k a1' 4) v i := fun v i hi => by
    rw [app_sc hf inv l1b hk hi, app_sc hf inv l1 hk hi, hmap1 v i hi]
  have hinj2 : ∀ v w : Nat → UInt8, (∀ i, i < 4 → app m (scP m inv k b1' 4) v i = app m (scP m inv k b1' 4) w i) → ∀ i, i < 4 → v i = w i := fun v w hvw => by
    refine hinj1 v w fun i hi => ?_
    have := hvw i hi
    rw [app_sc hf inv l1b hk hi, app_sc hf inv l1b hk hi] at this
    by_cases h1 : i = k
    · rw [if_pos h1, if_pos h1] at this
      have h2 := congrArg (fun x => tmul m x (ge a1' k k)) this
      simp only [tmul_assoc hf] at h2
      rw [tmul_comm hf inv, hinv, tmul_one hf, tmul_one hf] at h2
      exact h2
    · rw [if_neg h1, if_neg h1] at this; exact this
  generalize scP m inv k a1' 4 = a2 at *
  generalize scP m inv k b1' 4 = b2 at *
  have hel := fun (v : Nat → UInt8) i hi => app_el (i := i) hf l2 l2b hk hi v
  have hlen := elA_len m k l2 l2b 4
  refine ⟨hlen.1, hlen.2, fun c i hc hi => ?_, fun v i hi => ?_, fun v w hvw => hinj2 v w ?_⟩
  · rw [(ge_elA m l2 l2b hk 4 (by omega) i c hi (by omega)).1]
    by_cases hck : c < k
    · rw [hid2 c k hck hk, if_neg (show ¬ k = c by omega), tmul_zero', UInt8.xor_zero, ite_self]
      exact hid2 c i hck hi
    · obtain rfl : c = k := by omega
      rw [hkk2, tmul_one hf, UInt8.xor_self]
      by_cases h1 : i = c
      · subst h1; rw [if_neg (by omega), if_pos rfl]; exact hkk2
      · rw [if_pos (by omega), if_neg h1]
  · rw [(hel _ i hi).2, (hel v i hi).1, hmap2 v i hi, hmap2 v k hk]
  · have hkk := hvw k hk
    rw [(hel v k hk).2, (hel w k hk).2, if_pos rfl, if_pos rfl] at hkk
    intro i hi
    have := hvw i hi
    rw [(hel v i hi).2, (hel w i hi).2, hkk] at this
    by_cases h1 : i = k
    · rw [if_pos h1, if_pos h1] at this; exact this
    · rw [if_neg h1, if_neg h1] at this; exact u8_cancel this
end
end Go.Proofs.YtjakgjelnbpmnaaGreat
/- A block absorbed by the program's engine; the house's engine. -/
set_option linter.unusedSimpArgs false
set_option linter.unusedVariables false
namespace Go.Proofs.YtjakgjelnbpmnaaGreat
open Go Go.Vc
set_option maxRecDepth 10000
set_option maxHeartbeats 4000000
end Go.Proofs.YtjakgjelnbpmnaaGreat
/- A cipher with what is known of it; the engine of a cipher. -/
set_option linter.unusedSimpArgs false
set_option linter.unusedVariables false
namespace Go.Proofs.YtjakgjelnbpmnaaGreat
open Go Go.Vc
set_option maxRecDepth 10000
set_option maxHeartbeats 4000000
structure Cip where
  m : Nat
  box : List UInt8
  A : List UInt8
  pl : List UInt8
  n : Nat
  hm : 256 ≤ m
  hm' : m < 512
  hb : box.length = 256
  hA : A.length = 16
  hp : pl.length = 16
  hpl : pl16 pl
  hn1 : 1 ≤ n
  hn : n ≤ 20
  is : cipB m box A pl n = true
namespace Cip
variable (c : Cip)
/-- Its cells as a value. -/
def cells : List V := cipC c.m c.box c.A c.pl c.n
/-- Its engine's cells. -/
def eng (h1 h2 : Nat) : List V := engC c.box (invL 256 c.box 256) c.pl (invL 16 c.pl 16) h1 h2 c.n
def t1 : List UInt8 := tabL c.m c.A
def t2 : List UInt8 := tabL c.m (backL c.m c.A)
/-- Its engine's blocks. -/
def bl (own : Bool) : List Blk := [⟨own, c.eng 1 2⟩, ⟨own, bs c.t1⟩, ⟨own, bs c.t2⟩]
def enc (key s : List UInt8) : List UInt8 := encL c.m c.box c.A c.pl key s c.n
end Cip
section
variable {c : Cip}
end
end Go.Proofs.YtjakgjelnbpmnaaGreat
/- Blocks deciphered: the reference. -/
set_option linter.unusedSimpArgs false
set_option linter.unusedVariables false
namespace Go.Proofs.YtjakgjelnbpmnaaGreat
open Go Go.Vc
set_option maxRecDepth 10000
set_option maxHeartbeats 4000000
section
variable {c : Cip} {k : V → Prop}
end
end Go.Proofs.YtjakgjelnbpmnaaGreat
/- Boxes, places, ciphers: deciphering undoes enciphering, and the other way round. No program in sight. -/
set_option linter.unusedSimpArgs false
set_option linter.unusedVariables false
namespace Go.Proofs.YtjakgjelnbpmnaaGreat
open Go Go.Vc
set_option maxRecDepth 10000
set_option maxHeartbeats 4000000
section
variable {n : Nat} {b : List UInt8}
end
/-- What makes a cipher's rounds go back. -/
structure Two (m : Nat) (box A pl : List UInt8) : Prop where
  f : fieldB (m : Int) = true
  hA : A.length = 16
  i : invB (m : Int) A = true
  b : box.length = 256
  bd : box.Nodup
  p : pl.length = 16
  pd : pl.Nodup
  p16 : pl16 pl
section
variable {m : Nat} {box A pl key : List UInt8}
end
end Go.Proofs.YtjakgjelnbpmnaaGreat

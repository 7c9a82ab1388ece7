import Derived.Test.YtjakgjelnbpmnaaGreatVcgO
import Derived.Test.YtjakgjelnbpmnaaGreatEnv
import Derived.Test.YtjakgjelnbpmnaaGreatVcgQ
import Derived.Test.YtjakgjelnbpmnaaGreatVcgX
import Derived.OwnWalkIn
import Derived.TacticsInMore
/- Products in a field of 256 elements: by shifting and reducing step by step, and by reducing the whole product: the same bytes. No program in sight. -/
set_option linter.unusedSimpArgs false
set_option linter.unusedVariables false
namespace Go.Proofs.YtjakgjelnbpmnaaGreat
open Go Go.Vc
theorem bitI_xor64 {x y : Nat} (hx : x < 9223372036854775808) (hy : y < 9223372036854775808) : bitI .xor .i64 (x : Int) (y : Int) = ((x ^^^ y : Nat) : Int) := by
  unfold bitI
  have h : x ^^^ y < 2 ^ 63 := Nat.xor_lt_two_pow (by omega) (by omega)
  show IntKind.i64.wrap ((BitVec.ofInt 64 (x : Int) ^^^ BitVec.ofInt 64 (y : Int)).toNat : Int) = _
  rw [BitVec.ofInt_natCast, BitVec.ofInt_natCast, BitVec.toNat_xor, BitVec.toNat_ofNat, BitVec.toNat_ofNat, Nat.mod_eq_of_lt (by omega), Nat.mod_eq_of_lt (by omega)]
  exact wrap_i64 (by omega) (by omega)
theorem bitI_and1 {x : Nat} (hx : x < 9223372036854775808) : bitI .and .i64 (x : Int) 1 = ((x % 2 : Nat) : Int) := by
  unfold bitI
  show IntKind.i64.wrap ((BitVec.ofInt 64 (x : Int) &&& BitVec.ofInt 64 ((1 : Nat) : Int)).toNat : Int) = _
  rw [BitVec.ofInt_natCast, BitVec.ofInt_natCast, BitVec.toNat_and, BitVec.toNat_ofNat, BitVec.toNat_ofNat, Nat.mod_eq_of_lt (by omega), Nat.mod_eq_of_lt (by omega), Nat.and_one_is_mod]
  exact wrap_i64 (by omega) (by omega)
theorem bitI_and1_8 (x : Nat) (hx : x < 256) : bitI .and .u8 (x : Int) 1 = ((x % 2 : Nat) : Int) := by
  have h : x = (UInt8.ofNat x).toNat := by rw [UInt8.toNat_ofNat']; omega
  rw [h, show (1 : Int) = ((1 : UInt8).toNat : Int) from rfl, bitI_and8, UInt8.toNat_and]
  show ((_ &&& 1 : Nat) : Int) = _
  rw [Nat.and_one_is_mod]
theorem shr_nat (x i : Nat) : (x : Int).fdiv (2 ^ i) = ((x / 2 ^ i : Nat) : Int) := by
  rw [Int.fdiv_eq_ediv_of_nonneg _ (by exact Int.le_of_lt (Int.pow_pos (by decide)))]
  rw [show (2 : Int) ^ i = ((2 ^ i : Nat) : Int) by simp]
  exact (Int.natCast_ediv x (2 ^ i)).symm
theorem bit_mod (x i : Nat) : (((x / 2 ^ i % 2 : Nat) : Int) == 1) = x.testBit i := by
  rw [Nat.testBit_eq_decide_div_mod_eq]; rcases Nat.mod_two_eq_zero_or_one (x / 2 ^ i) with h | h <;> rw [h] <;> rfl

def red (m x : Nat) : Nat := if x < 256 then x else x ^^^ m
def nowN (m a : Nat) : Nat → Nat
  | 0 => a
  | i + 1 => red m (2 * nowN m a i)
def tmP (m a b : Nat) : Nat → Nat
  | 0 => 0
  | i + 1 => tmP m a b i ^^^ (if b.testBit i then nowN m a i else 0)
def prodP (a b : Nat) : Nat → Nat
  | 0 => 0
  | i + 1 => prodP a b i ^^^ (if b.testBit i then a <<< i else 0)
def stepR (m d i x : Nat) : Nat := if x.testBit i then x ^^^ (m <<< (i - d)) else x
def resP (m d x : Nat) : Nat → Nat
  | 0 => x
  | j + 1 => stepR m d (15 - j) (resP m d x j)

theorem bit8 {y : Nat} (h : y < 512) : y.testBit 8 = decide (256 ≤ y) := by
  rw [Nat.testBit_eq_decide_div_mod_eq]; simp only [decide_eq_decide]; rw [show (2 : Nat) ^ 8 = 256 from rfl]; omega
theorem xor256 {x y : Nat} (hx : 256 ≤ x) (hx' : x < 512) (hy : 256 ≤ y) (hy' : y < 512) : x ^^^ y < 256 := by
  have h : x ^^^ y < 2 ^ 9 := Nat.xor_lt_two_pow (by omega) (by omega)
  have hb : (x ^^^ y).testBit 8 = false := by rw [Nat.testBit_xor, bit8 hx', bit8 hy']; simp [hx, hy]
  rw [bit8 (by omega)] at hb
  have := of_decide_eq_false hb
  omega
theorem red_lt {m x : Nat} (hm : 256 ≤ m) (hm' : m < 512) (hx : x < 512) : red m x < 256 := by
  unfold red; split
  · assumption
  · exact xor256 (by omega) hx hm hm'
theorem nowN_lt {m a : Nat} (hm : 256 ≤ m) (hm' : m < 512) (ha : a < 256) : ∀ i, nowN m a i < 256
  | 0 => ha
  | i + 1 => red_lt hm hm' (by have := nowN_lt hm hm' ha i; omega)
theorem tmP_lt {m a b : Nat} (hm : 256 ≤ m) (hm' : m < 512) (ha : a < 256) : ∀ i, tmP m a b i < 256
  | 0 => by simp [tmP]
  | i + 1 => by
    have h1 := tmP_lt (b := b) hm hm' ha i
    have h2 := nowN_lt hm hm' ha i
    unfold tmP
    split
    · exact Nat.xor_lt_two_pow (n := 8) h1 h2
    · simpa using h1
theorem xorA (x y s : Nat) : (x ^^^ s) ^^^ (y ^^^ s) = x ^^^ y := by
  apply Nat.eq_of_testBit_eq; intro j; simp only [Nat.testBit_xor]
  cases x.testBit j <;> cases y.testBit j <;> cases s.testBit j <;> rfl
theorem xorB (x y s : Nat) : (x ^^^ s) ^^^ y = (x ^^^ y) ^^^ s := by
  apply Nat.eq_of_testBit_eq; intro j; simp only [Nat.testBit_xor]
  cases x.testBit j <;> cases y.testBit j <;> cases s.testBit j <;> rfl
theorem stepR_xor (m d i x y : Nat) : stepR m d i (x ^^^ y) = stepR m d i x ^^^ stepR m d i y := by
  unfold stepR
  rw [Nat.testBit_xor]
  cases x.testBit i <;> cases y.testBit i
  · rfl
  · exact Nat.xor_assoc _ _ _
  · exact (xorB _ _ _).symm
  · exact (xorA _ _ _).symm
theorem resP_xor (m d x y : Nat) : ∀ j, resP m d (x ^^^ y) j = resP m d x j ^^^ resP m d y j
  | 0 => rfl
  | j + 1 => by unfold resP; rw [resP_xor m d x y j, stepR_xor]
theorem resP_zero (m d : Nat) : ∀ j, resP m d 0 j = 0
  | 0 => rfl
  | j + 1 => by unfold resP; rw [resP_zero m d j]; simp [stepR]
theorem testBit_hi {x i j : Nat} (h : x < 2 ^ i) (hj : i ≤ j) : x.testBit j = false :=
  Nat.testBit_lt_two_pow (Nat.lt_of_lt_of_le h (Nat.pow_le_pow_right (by decide) hj))
theorem resP_small (m : Nat) {a : Nat} (ha : a < 256) : ∀ j, j ≤ 8 → resP m 8 a j = a
  | 0, _ => rfl
  | j + 1, h => by
    unfold resP; rw [resP_small m ha j (by omega)]
    unfold stepR; rw [testBit_hi (i := 8) ha (by omega)]; simp
theorem two_mul_shift (x k : Nat) : 2 * (x <<< k) = x <<< (k + 1) := by
  rw [Nat.shiftLeft_eq, Nat.shiftLeft_eq, Nat.pow_succ, Nat.mul_comm 2, Nat.mul_assoc]
theorem two_mul_xor (x y : Nat) : 2 * (x ^^^ y) = (2 * x) ^^^ (2 * y) := by
  have h : ∀ z : Nat, 2 * z = z <<< 1 := fun z => by rw [Nat.shiftLeft_eq]; omega
  rw [h, h, h, Nat.shiftLeft_xor_distrib]
theorem stepR_two (m i y : Nat) (hi : 8 ≤ i) : stepR m 8 (i + 1) (2 * y) = 2 * stepR m 8 i y := by
  unfold stepR
  rw [Nat.testBit_succ, show 2 * y / 2 = y by omega]
  split
  · rw [two_mul_xor, two_mul_shift, show i + 1 - 8 = i - 8 + 1 by omega]
  · rfl
theorem resP_two (m : Nat) {y : Nat} (hy : y.testBit 15 = false) : ∀ j, j ≤ 7 → resP m 8 (2 * y) j = 2 * resP m 8 y (j + 1)
  | 0, _ => by simp [resP, stepR, hy]
  | j + 1, h => by
    rw [resP, resP_two m hy j (by omega), show 15 - j = (14 - j) + 1 by omega, stepR_two m _ _ (by omega)]
    rw [resP.eq_2 m 8 y (j + 1), show 15 - (j + 1) = 14 - j by omega]
theorem resP_two8 {m y : Nat} (hy : y.testBit 15 = false) (hr : resP m 8 y 8 < 256) : resP m 8 (2 * y) 8 = red m (2 * resP m 8 y 8) := by
  rw [resP, resP_two m hy 7 (by omega)]
  show stepR m 8 8 (2 * resP m 8 y 8) = _
  unfold stepR red
  rw [bit8 (by omega)]
  by_cases h : 256 ≤ 2 * resP m 8 y 8
  · rw [if_pos (by simpa using h), if_neg (by omega)]; simp
  · rw [if_neg (by simpa using h), if_pos (by omega)]
theorem resP_shift {m a : Nat} (hm : 256 ≤ m) (hm' : m < 512) (ha : a < 256) : ∀ i, i < 8 → resP m 8 (a <<< i) 8 = nowN m a i
  | 0, _ => by rw [Nat.shiftLeft_zero, resP_small m ha 8 (by omega)]; rfl
  | i + 1, h => by
    have ih := resP_shift hm hm' ha i (by omega)
    have hb : (a <<< i).testBit 15 = false := by
      refine testBit_hi (i := 15) ?_ (by omega)
      rw [Nat.shiftLeft_eq]
      have : 2 ^ i ≤ 2 ^ 6 := Nat.pow_le_pow_right (by decide) (by omega)
      calc a * 2 ^ i ≤ a * 2 ^ 6 := Nat.mul_le_mul_left _ this
        _ < 2 ^ 15 := by omega
    have hr : resP m 8 (a <<< i) 8 < 256 := by rw [ih]; exact nowN_lt hm hm' ha i
    rw [← two_mul_shift, resP_two8 hb hr, ih]; rfl
theorem times_eq {m a b : Nat} (hm : 256 ≤ m) (hm' : m < 512) (ha : a < 256) : ∀ i, i ≤ 8 → resP m 8 (prodP a b i) 8 = tmP m a b i
  | 0, _ => resP_zero m 8 8
  | i + 1, h => by
    unfold prodP tmP
    rw [resP_xor, times_eq hm hm' ha i (by omega)]
    split
    · rw [resP_shift hm hm' ha i (by omega)]
    · rw [resP_zero]
theorem prodP_lt {a b : Nat} (ha : a < 256) : ∀ i, i ≤ 8 → prodP a b i < 32768
  | 0, _ => by simp [prodP]
  | i + 1, h => by
    have h1 := prodP_lt (b := b) ha i (by omega)
    unfold prodP
    have h2 : (if b.testBit i then a <<< i else 0) < 2 ^ 15 := by
      split
      · rw [Nat.shiftLeft_eq]
        have : 2 ^ i ≤ 2 ^ 7 := Nat.pow_le_pow_right (by decide) (by omega)
        calc a * 2 ^ i ≤ a * 2 ^ 7 := Nat.mul_le_mul_left _ this
          _ < 2 ^ 15 := by omega
      · decide
    exact Nat.xor_lt_two_pow (n := 15) h1 h2
/-- The product of two elements. -/
def tmul (m : Nat) (a b : UInt8) : UInt8 := UInt8.ofNat (tmP m a.toNat b.toNat 8)
theorem tmul_nat {m : Nat} (hm : 256 ≤ m) (hm' : m < 512) (a b : UInt8) : (tmul m a b).toNat = tmP m a.toNat b.toNat 8 := by
  have := tmP_lt (b := b.toNat) hm hm' a.toNat_lt 8
  unfold tmul; rw [UInt8.toNat_ofNat']; omega
/-- From some place on no bit is 1. -/
theorem tmP_done {m a b : Nat} {i : Nat} (hi : b < 2 ^ i) : ∀ k, tmP m a b (i + k) = tmP m a b i
  | 0 => rfl
  | k + 1 => by
    rw [← Nat.add_assoc, tmP, tmP_done hi k, testBit_hi hi (by omega)]; simp
theorem tmP_all {m a b i : Nat} (hb : b / 2 ^ i = 0) (hi : i ≤ 8) : tmP m a b i = tmP m a b 8 := by
  have h : b < 2 ^ i := by
    rcases Nat.div_eq_zero_iff.1 hb with h | h
    · exact absurd h (Nat.pos_iff_ne_zero.1 (Nat.two_pow_pos i))
    · exact h
  have := tmP_done (m := m) (a := a) h (8 - i)
  rw [show i + (8 - i) = 8 by omega] at this
  exact this.symm
theorem tmul_xor (m : Nat) (a b c : UInt8) : tmul m a (b ^^^ c) = tmul m a b ^^^ tmul m a c := by
  have key : ∀ i, tmP m a.toNat (b ^^^ c).toNat i = tmP m a.toNat b.toNat i ^^^ tmP m a.toNat c.toNat i := fun i => by
    induction i with
    | zero => simp [tmP]
    | succ i ih =>
      unfold tmP
      rw [ih, UInt8.toNat_xor, Nat.testBit_xor]
      cases b.toNat.testBit i <;> cases c.toNat.testBit i
      · simp
      · simp [Nat.xor_assoc]
      · simp [xorB]
      · simp [xorA]
  unfold tmul
  rw [key]
  apply UInt8.toNat_inj.1
  rw [UInt8.toNat_xor]
  simp only [UInt8.toNat_ofNat']
  rw [show (2 : Nat) ^ 8 = 2 ^ 8 from rfl, Nat.xor_mod_two_pow]
theorem tmul_zero (m : Nat) (b : UInt8) : tmul m 0 b = 0 := by
  have h0 : ∀ i, nowN m 0 i = 0 := fun i => by
    induction i with
    | zero => rfl
    | succ i ih => unfold nowN; rw [ih]; rfl
  have h1 : ∀ i, tmP m 0 b.toNat i = 0 := fun i => by
    induction i with
    | zero => rfl
    | succ i ih => unfold tmP; rw [ih, h0]; simp
  unfold tmul
  show UInt8.ofNat (tmP m 0 b.toNat 8) = 0
  rw [h1]; rfl
theorem tmul_zero' (m : Nat) (a : UInt8) : tmul m a 0 = 0 := by
  have h1 : ∀ i, tmP m a.toNat 0 i = 0 := fun i => by
    induction i with
    | zero => rfl
    | succ i ih => unfold tmP; rw [ih]; simp
  unfold tmul
  show UInt8.ofNat (tmP m a.toNat 0 8) = 0
  rw [h1]; rfl
/-- Powers, by squares: after i rounds. -/
def pwS (m : Nat) (k : Nat) : Nat → UInt8 × UInt8 → UInt8 × UInt8
  | 0, s => s
  | i + 1, s => let t := pwS m k i s; (if (k / 2 ^ i) % 2 = 1 then tmul m t.1 t.2 else t.1, tmul m t.2 t.2)
def pw254 (m : Nat) (a : UInt8) : UInt8 := (pwS m 254 8 (1, a)).1
end Go.Proofs.YtjakgjelnbpmnaaGreat
/- 'StartOfDigest' of the program and of the reference compute the same digest. -/
set_option linter.unusedSimpArgs false
set_option linter.unusedVariables false
namespace Go.Proofs.YtjakgjelnbpmnaaGreat
open Go Go.Vc
set_option maxRecDepth 10000
end Go.Proofs.YtjakgjelnbpmnaaGreat
/- A block of bytes taken whole. -/
namespace Go.Proofs.YtjakgjelnbpmnaaGreat
open Go Go.Vc
theorem tk {l : List UInt8} : List.take l.length (bs l) = bs l := take_all (bs_length l).symm
/-- Side conditions of calls, and the goal behind a call: the rules, bundled. -/
theorem SCB : type_of% (And.intro @cellsAt.eq_1 <| And.intro @tk <| And.intro @take_room <| And.intro @bs_length <| @bs_nil) := And.intro @cellsAt.eq_1 <| And.intro @tk <| And.intro @take_room <| And.intro @bs_length <| @bs_nil
theorem GOB : type_of% (And.intro @Bool.not_true @Bool.not_false) := And.intro @Bool.not_true @Bool.not_false
end Go.Proofs.YtjakgjelnbpmnaaGreat
/- The laws' own helpers over slices of bytes: copies, comparison, marks. -/
set_option linter.unusedSimpArgs false
set_option linter.unusedVariables false
namespace Go.Proofs.YtjakgjelnbpmnaaGreat
open Go Go.Vc
set_option maxRecDepth 10000
end Go.Proofs.YtjakgjelnbpmnaaGreat
/- slices.Backward over halves: what its function value does, called with a loop's body. -/
set_option linter.unusedSimpArgs false
set_option linter.unusedVariables false
namespace Go.Proofs.YtjakgjelnbpmnaaGreat
open Go Go.Vc Go.RowKit
set_option maxRecDepth 10000
set_option maxHeartbeats 4000000
end Go.Proofs.YtjakgjelnbpmnaaGreat
/- 'AgreeingBits' of the program and of the reference compute the same number. -/
set_option linter.unusedSimpArgs false
set_option linter.unusedVariables false
namespace Go.Proofs.YtjakgjelnbpmnaaGreat
open Go Go.Vc
set_option maxRecDepth 10000
end Go.Proofs.YtjakgjelnbpmnaaGreat

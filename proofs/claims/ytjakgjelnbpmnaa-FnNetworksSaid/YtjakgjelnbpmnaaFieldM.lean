import Derived.Test.YtjakgjelnbpmnaaVcgO
import Derived.Test.YtjakgjelnbpmnaaEnv
import Derived.Test.YtjakgjelnbpmnaaVcgQ
import Derived.Test.YtjakgjelnbpmnaaVcgX
import Derived.OwnWalkIn
import Derived.TacticsInMore
/- Products in a field of 256 elements: by shifting and reducing step by step, and by reducing the whole product: the same bytes. No program in sight. -/
set_option linter.unusedSimpArgs false
set_option linter.unusedVariables false
namespace Go.Proofs.Ytjakgjelnbpmnaa
open Go Go.Vc
theorem bitI_xor64 {x y : Nat} (hx : x < 9223372036854775808) (hy : y < 9223372036854775808) : bitI .xor .i64 (x : Int) (y : Int) = ((x ^^^ y : Nat) : Int) := by
  unfold bitI
  have h : x ^^^ y < 2 ^ 63 := Nat.xor_lt_two_pow (by omega) (by omega)
  show IntKind.i64.wrap ((BitVec.ofInt 64 (x : Int) ^^^ BitVec.ofInt 64 (y : Int)).toNat : Int) = _
  rw [BitVec.ofInt_natCast, BitVec.ofInt_natCast, BitVec.toNat_xor, BitVec.toNat_ofNat, BitVec.toNat_ofNat, Nat.mod_eq_of_lt (by omega), Nat.mod_eq_of_lt (by omega)]
  exact wrap_i64 (by omega) (by omega)
theorem bitI_and1 {x : Nat} (hx : x < 9223372036854775808) : bitI .and .i64 (x : Int) 1 = ((x % 2 : Nat) : Int) := by
  unfold bitI
  show IntKind.i64.wrap ((BitVec.ofInt 64 (x : Int) &&& BitVec.ofInt 64 ((1 : Nat) : Int)).toNat : Int) = _
  rw [BitVec.ofInt_natCast, BitVec.ofInt_natCast, BitVec.toNat_and, BitVec.toNat_ofNat, BitVec.toNat_ofNat, Nat.mod_eq_of_lt (by omega), Nat.mod_eq_of_lt (by omega), Nat.and_one_is_mod]
  exact wrap_i64 (by omega) (by omega)
theorem bitI_and1_8 (x : Nat) (hx : x < 256) : bitI .and .u8 (x : Int) 1 = ((x % 2 : Nat) : Int) := by
  have h : x = (UInt8.ofNat x).toNat := by rw [UInt8.toNat_ofNat']; omega
  rw [h, show (1 : Int) = ((1 : UInt8).toNat : Int) from rfl, bitI_and8, UInt8.toNat_and]
  show ((_ &&& 1 : Nat) : Int) = _
  rw [Nat.and_one_is_mod]
theorem shr_nat (x i : Nat) : (x : Int).fdiv (2 ^ i) = ((x / 2 ^ i : Nat) : Int) := by
  rw [Int.fdiv_eq_ediv_of_nonneg _ (by exact Int.le_of_lt (Int.pow_pos (by decide)))]
  rw [show (2 : Int) ^ i = ((2 ^ i : Nat) : Int) by simp]
  exact (Int.natCast_ediv x (2 ^ i)).symm
theorem bit_mod (x i : Nat) : (((x / 2 ^ i % 2 : Nat) : Int) == 1) = x.testBit i := by
  rw [Nat.testBit_eq_decide_div_mod_eq]; rcases Nat.mod_two_eq_zero_or_one (x / 2 ^ i) with h | h <;> rw [h] <;> rfl

def red (m x : Nat) : Nat := if x < 256 then x else x ^^^ m
def nowN (m a : Nat) : Nat → Nat
  | 0 => a
  | i + 1 => red m (2 * nowN m a i)
def tmP (m a b : Nat) : Nat → Nat
  | 0 => 0
  | i + 1 => tmP m a b i ^^^ (if b.testBit i then nowN m a i else 0)
def prodP (a b : Nat) : Nat → Nat
  | 0 => 0
  | i + 1 => prodP a b i ^^^ (if b.testBit i then a <<< i else 0)
def stepR (m d i x : Nat) : Nat := if x.testBit i then x ^^^ (m <<< (i - d)) else x
def resP (m d x : Nat) : Nat → Nat
  | 0 => x
  | j + 1 => stepR m d (15 - j) (resP m d x j)

theorem bit8 {y : Nat} (h : y < 512) : y.testBit 8 = decide (256 ≤ y) := by
  rw [Nat.testBit_eq_decide_div_mod_eq]; simp only [decide_eq_decide]; rw [show (2 : Nat) ^ 8 = 256 from rfl]; omega
theorem xor256 {x y : Nat} (hx : 256 ≤ x) (hx' : x < 512) (hy : 256 ≤ y) (hy' : y < 512) : x ^^^ y < 256 := by
  have h : x ^^^ y < 2 ^ 9 := Nat.xor_lt_two_pow (by omega) (by omega)
  have hb : (x ^^^ y).testBit 8 = false := by rw [Nat.testBit_xor, bit8 hx', bit8 hy']; simp [hx, hy]
  rw [bit8 (by omega)] at hb
  have := of_decide_eq_false hb
  omega
theorem red_lt {m x : Nat} (hm : 256 ≤ m) (hm' : m < 512) (hx : x < 512) : red m x < 256 := by
  unfold red; split
  · assumption
  · exact xor256 (by omega) hx hm hm'
theorem nowN_lt {m a : Nat} (hm : 256 ≤ m) (hm' : m < 512) (ha : a < 256) : ∀ i, nowN m a i < 256
  | 0 => ha
  | i + 1 => red_lt hm hm' (by have := nowN_lt hm hm' ha i; omega)
theorem tmP_lt {m a b : Nat} (hm : 256 ≤ m) (hm' : m < 512) (ha : a < 256) : ∀ i, tmP m a b i < 256
  | 0 => by simp [tmP]
  | i + 1 => by
    have h1 := tmP_lt (b := b) hm hm' ha i
    have h2 := nowN_lt hm hm' ha i
    unfold tmP
    split
    · exact Nat.xor_lt_two_pow (n := 8) h1 h2
    · simpa using h1
theorem xorA (x y s : Nat) : (x ^^^ s) ^^^ (y ^^^ s) = x ^^^ y := by
  apply Nat.eq_of_testBit_eq; intro j; simp only [Nat.testBit_xor]
  cases x.testBit j <;> cases y.testBit j <;> cases s.testBit j <;> rfl
theorem xorB (x y s : Nat) : (x ^^^ s) ^^^ y = (x ^^^ y) ^^^ s := by
  apply Nat.eq_of_testBit_eq; intro j; simp only [Nat.testBit_xor]
  cases x.testBit j <;> cases y.testBit j <;> cases s.testBit j <;> rfl
theorem stepR_xor (m d i x y : Nat) : stepR m d i (x ^^^ y) = stepR m d i x ^^^ stepR m d i y := by
  unfold stepR
  rw [Nat.testBit_xor]
  cases x.testBit i <;> cases y.testBit i
  · rfl
  · exact Nat.xor_assoc _ _ _
  · exact (xorB _ _ _).symm
  · exact (xorA _ _ _).symm
theorem resP_xor (m d x y : Nat) : ∀ j, resP m d (x ^^^ y) j = resP m d x j ^^^ resP m d y j
  | 0 => rfl
  | j + 1 => by unfold resP; rw [resP_xor m d x y j, stepR_xor]
theorem resP_zero (m d : Nat) : ∀ j, resP m d 0 j = 0
  | 0 => rfl
  | j + 1 => by unfold resP; rw [resP_zero m d j]; simp [stepR]
theorem testBit_hi {x i j : Nat} (h : x < 2 ^ i) (hj : i ≤ j) : x.testBit j = false :=
  Nat.testBit_lt_two_pow (Nat.lt_of_lt_of_le h (Nat.pow_le_pow_right (by decide) hj))
theorem resP_small (m : Nat) {a : Nat} (ha : a < 256) : ∀ j, j ≤ 8 → resP m 8 a j = a
  | 0, _ => rfl
  | j + 1, h => by
    unfold resP; rw [resP_small m ha j (by omega)]
    unfold stepR; rw [testBit_hi (i := 8) ha (by omega)]; simp
theorem two_mul_shift (x k : Nat) : 2 * (x <<< k) = x <<< (k + 1) := by
  rw [Nat.shiftLeft_eq, Nat.shiftLeft_eq, Nat.pow_succ, Nat.mul_comm 2, Nat.mul_assoc]
theorem two_mul_xor (x y : Nat) : 2 * (x ^^^ y) = (2 * x) ^^^ (2 * y) := by
  have h : ∀ z : Nat, 2 * z = z <<< 1 := fun z => by rw [Nat.shiftLeft_eq]; omega
  rw [h, h, h, Nat.shiftLeft_xor_distrib]
theorem stepR_two (m i y : Nat) (hi : 8 ≤ i) : stepR m 8 (i + 1) (2 * y) = 2 * stepR m 8 i y := by
  unfold stepR
  rw [Nat.testBit_succ, show 2 * y / 2 = y by omega]
  split
  · rw [two_mul_xor, two_mul_shift, show i + 1 - 8 = i - 8 + 1 by omega]
  · rfl
theorem resP_two (m : Nat) {y : Nat} (hy : y.testBit 15 = false) : ∀ j, j ≤ 7 → resP m 8 (2 * y) j = 2 * resP m 8 y (j + 1)
  | 0, _ => by simp [resP, stepR, hy]
  | j + 1, h => by
    rw [resP, resP_two m hy j (by omega), show 15 - j = (14 - j) + 1 by omega, stepR_two m _ _ (by omega)]
    rw [resP.eq_2 m 8 y (j + 1), show 15 - (j + 1) = 14 - j by omega]
theorem resP_two8 {m y : Nat} (hy : y.testBit 15 = false) (hr : resP m 8 y 8 < 256) : resP m 8 (2 * y) 8 = red m (2 * resP m 8 y 8) := by
  rw [resP, resP_two m hy 7 (by omega)]
  show stepR m 8 8 (2 * resP m 8 y 8) = _
  unfold stepR red
  rw [bit8 (by omega)]
  by_cases h : 256 ≤ 2 * resP m 8 y 8
  · rw [if_pos (by simpa using h), if_neg (by omega)]; simp
  · rw [if_neg (by simpa using h), if_pos (by omega)]
theorem resP_shift {m a : Nat} (hm : 256 ≤ m) (hm' : m < 512) (ha : a < 256) : ∀ i, i < 8 → resP m 8 (a <<< i) 8 = nowN m a i
  | 0, _ => by rw [Nat.shiftLeft_zero, resP_small m ha 8 (by omega)]; rfl
  | i + 1, h => by
    have ih := resP_shift hm hm' ha i (by omega)
    have hb : (a <<< i).testBit 15 = false := by
      refine testBit_hi (i := 15) ?_ (by omega)
      rw [Nat.shiftLeft_eq]
      have : 2 ^ i ≤ 2 ^ 6 := Nat.pow_le_pow_right (by decide) (by omega)
      calc a * 2 ^ i ≤ a * 2 ^ 6 := Nat.mul_le_mul_left _ this
        _ < 2 ^ 15 := by omega
    have hr : resP m 8 (a <<< i) 8 < 256 := by rw [ih]; exact nowN_lt hm hm' ha i
    rw [← two_mul_shift, resP_two8 hb hr, ih]; rfl
theorem times_eq {m a b : Nat} (hm : 256 ≤ m) (hm' : m < 512) (ha : a < 256) : ∀ i, i ≤ 8 → resP m 8 (prodP a b i) 8 = tmP m a b i
  | 0, _ => resP_zero m 8 8
  | i + 1, h => by
    unfold prodP tmP
    rw [resP_xor, times_eq hm hm' ha i (by omega)]
    split
    · rw [resP_shift hm hm' ha i (by omega)]
    · rw [resP_zero]
theorem prodP_lt {a b : Nat} (ha : a < 256) : ∀ i, i ≤ 8 → prodP a b i < 32768
  | 0, _ => by simp [prodP]
  | i + 1, h => by
    have h1 := prodP_lt (b := b) ha i (by omega)
    unfold prodP
    have h2 : (if b.testBit i then a <<< i else 0) < 2 ^ 15 := by
      split
      · rw [Nat.shiftLeft_eq]
        have : 2 ^ i ≤ 2 ^ 7 := Nat.pow_le_pow_right (by decide) (by omega)
        calc a * 2 ^ i ≤ a * 2 ^ 7 := Nat.mul_le_mul_left _ this
          _ < 2 ^ 15 := by omega
      · decide
    exact Nat.xor_lt_two_pow (n := 15) h1 h2
/-- The product of two elements. -/
def tmul (m : Nat) (a b : UInt8) : UInt8 := UInt8.ofNat (tmP m a.toNat b.toNat 8)
theorem tmul_nat {m : Nat} (hm : 256 ≤ m) (hm' : m < 512) (a b : UInt8) : (tmul m a b).toNat = tmP m a.toNat b.toNat 8 := by
  have := tmP_lt (b := b.toNat) hm hm' a.toNat_lt 8
  unfold tmul; rw [UInt8.toNat_ofNat']; omega
/-- From some place on no bit is 1. -/
theorem tmP_done {m a b : Nat} {i : Nat} (hi : b < 2 ^ i) : ∀ k, tmP m a b (i + k) = tmP m a b i
  | 0 => rfl
  | k + 1 => by
    rw [← Nat.add_assoc, tmP, tmP_done hi k, testBit_hi hi (by omega)]; simp
theorem tmP_all {m a b i : Nat} (hb : b / 2 ^ i = 0) (hi : i ≤ 8) : tmP m a b i = tmP m a b 8 := by
  have h : b < 2 ^ i := by
    rcases Nat.div_eq_zero_iff.1 hb with h | h
    · exact absurd h (Nat.pos_iff_ne_zero.1 (Nat.two_pow_pos i))
    · exact h
  have := tmP_done (m := m) (a := a) h (8 - i)
  rw [show i + (8 - i) = 8 by omega] at this
  exact this.symm
theorem tmul_xor (m : Nat) (a b c : UInt8) : tmul m a (b ^^^ c) = tmul m a b ^^^ tmul m a c := by
  have key : ∀ i, tmP m a.toNat (b ^^^ c).toNat i = tmP m a.toNat b.toNat i ^^^ tmP m a.toNat c.toNat i := fun i => by
    induction i with
    | zero => simp [tmP]
    | succ i ih =>
      unfold tmP
      rw [ih, UInt8.toNat_xor, Nat.testBit_xor]
      cases b.toNat.testBit i <;> cases c.toNat.testBit i
      · simp
      · simp [Nat.xor_assoc]
      · simp [xorB]
      · simp [xorA]
  unfold tmul
  rw [key]
  apply UInt8.toNat_inj.1
  rw [UInt8.toNat_xor]
  simp only [UInt8.toNat_ofNat']
  rw [show (2 : Nat) ^ 8 = 2 ^ 8 from rfl, Nat.xor_mod_two_pow]
theorem tmul_zero (m : Nat) (b : UInt8) : tmul m 0 b = 0 := by
  have h0 : ∀ i, nowN m 0 i = 0 := fun i => by
    induction i with
    | zero => rfl
    | succ i ih => unfold nowN; rw [ih]; rfl
  have h1 : ∀ i, tmP m 0 b.toNat i = 0 := fun i => by
    induction i with
    | zero => rfl
    | succ i ih => unfold tmP; rw [ih, h0]; simp
  unfold tmul
  show UInt8.ofNat (tmP m 0 b.toNat 8) = 0
  rw [h1]; rfl
theorem tmul_zero' (m : Nat) (a : UInt8) : tmul m a 0 = 0 := by
  have h1 : ∀ i, tmP m a.toNat 0 i = 0 := fun i => by
    induction i with
    | zero => rfl
    | succ i ih => unfold tmP; rw [ih]; simp
  unfold tmul
  show UInt8.ofNat (tmP m a.toNat 0 8) = 0
  rw [h1]; rfl
/-- Powers, by squares: after i rounds. -/
def pwS (m : Nat) (k : Nat) : Nat → UInt8 × UInt8 → UInt8 × UInt8
  | 0, s => s
  | i + 1, s => let t := pwS m k i s; (if (k / 2 ^ i) % 2 = 1 then tmul m t.1 t.2 else t.1, tmul m t.2 t.2)
def pw254 (m : Nat) (a : UInt8) : UInt8 := (pwS m 254 8 (1, a)).1
end Go.Proofs.Ytjakgjelnbpmnaa
/- 'StartOfDigest' of the program and of the reference compute the same digest. -/
set_option linter.unusedSimpArgs false
set_option linter.unusedVariables false
namespace Go.Proofs.Ytjakgjelnbpmnaa
open Go Go.Vc
def startL (i : Nat) : List UInt8 := (List.range 32).map fun j => if j < i then UInt8.ofInt (17 * j) else 0
theorem startL_len (i : Nat) : (startL i).length = 32 := by simp [startL]
theorem startL_zero : List.replicate 32 0 = startL 0 := by decide
theorem startL_succ {i : Nat} (h : i < 32) : (startL i).set i (UInt8.ofInt (17 * i)) = startL (i + 1) := by
  apply List.ext_getElem (by simp [startL])
  intro j h1 h2
  simp [startL] at h1 h2
  simp only [startL, List.getElem_set, List.getElem_map, List.getElem_range]
  split <;> rename_i e
  · subst e; simp
  · simp only [show (j < i + 1) = (j < i) from propext (by omega)]
theorem take_succ_eq {a b : List UInt8} {i : Nat} (ha : i < a.length) (hb : i < b.length) (h : a.take i = b.take i) (e : a.getD i 0 = b.getD i 0) : a.take (i + 1) = b.take (i + 1) := by
  rw [List.take_add_one, List.take_add_one, h]
  simp only [List.getD, List.getElem?_eq_getElem ha, List.getElem?_eq_getElem hb, Option.getD_some] at e ⊢
  rw [e]
theorem ne_of_getD {a b : List UInt8} {i : Nat} (h : a.getD i 0 ≠ b.getD i 0) : (a == b) = false := by
  simp only [beq_eq_false_iff_ne]
  intro e; exact h (by rw [e])
set_option maxRecDepth 10000
end Go.Proofs.Ytjakgjelnbpmnaa
/- A block of bytes taken whole. -/
namespace Go.Proofs.Ytjakgjelnbpmnaa
open Go Go.Vc
theorem tk {l : List UInt8} : List.take l.length (bs l) = bs l := take_all (bs_length l).symm
/-- Side conditions of calls, and the goal behind a call: the rules, bundled. -/
theorem SCB : type_of% (And.intro @cellsAt.eq_1 <| And.intro @tk <| And.intro @take_room <| And.intro @bs_length <| @bs_nil) := And.intro @cellsAt.eq_1 <| And.intro @tk <| And.intro @take_room <| And.intro @bs_length <| @bs_nil
theorem GOB : type_of% (And.intro @Bool.not_true @Bool.not_false) := And.intro @Bool.not_true @Bool.not_false
theorem tkn {l : List UInt8} {n : Nat} (h : l.length = n) : List.take n (bs l) = bs l := take_all (by rw [bs_length, h])
theorem tk16 {l : List UInt8} (h : l.length = 16) : List.take 16 l = l := List.take_of_length_le (Nat.le_of_eq h)
theorem tk32 {l : List UInt8} (h : l.length = 32) : List.take 32 l = l := List.take_of_length_le (Nat.le_of_eq h)
theorem tk8 {l : List UInt8} (h : l.length = 8) : List.take 8 l = l := List.take_of_length_le (Nat.le_of_eq h)
end Go.Proofs.Ytjakgjelnbpmnaa
/- The laws' own helpers over slices of bytes: copies, comparison, marks. -/
set_option linter.unusedSimpArgs false
set_option linter.unusedVariables false
namespace Go.Proofs.Ytjakgjelnbpmnaa
open Go Go.Vc
theorem vGet_roomB {L : List UInt8} {X : List V} {i : Nat} {k : V → Prop} (h : i < L.length) : vGet (bs L ++ X) i k = k (.c (.int .u8 ((L.getD i 0).toNat : Int))) := by
  unfold vGet
  have h1 : i < (bs L).length := by rw [bs_length]; exact h
  rw [show (bs L ++ X).getD i .j = (bs L).getD i .j by simp only [List.getD, List.getElem?_append_left h1], bs_getD h]
  apply propext
  simp only [List.length_append, bs_length]
  exact ⟨fun h => h.2, fun h2 => ⟨by omega, h2⟩⟩
theorem vPut_room {L : List UInt8} {X : List V} {o : Nat} {n : Int} {k : List V → Prop} (ho : o < L.length) (hn : inU8 n) : vPut (bs L ++ X) o [.c (.int .u8 n)] k = k (bs (L.set o (UInt8.ofInt n)) ++ X) := by
  have e : splice (bs L ++ X) o [.c (.int .u8 n)] = splice (bs L) o [.c (.int .u8 n)] ++ X := by
    unfold splice
    have h1 : o + 1 ≤ (bs L).length := by rw [bs_length]; omega
    simp only [List.length_singleton]
    rw [List.take_append_of_le_length (by omega), List.drop_append_of_le_length h1, List.append_assoc, List.append_assoc, List.append_assoc]
  have e2 := vPut_bs (l := L) (o := o) (k := fun c => k (c ++ X)) hn
  unfold vPut at e2 ⊢
  rw [e]
  simp only [bs_length, List.length_append, List.length_singleton] at e2 ⊢
  apply propext
  constructor
  · rintro ⟨_, h⟩; exact (e2.mp ⟨by omega, h⟩).2
  · intro h; exact ⟨by omega, (e2.mpr ⟨ho, h⟩).2⟩
theorem fill_stepB {a : List UInt8} {i n : Nat} (h : i < n) (ha : i < a.length) : (a.take i ++ List.replicate (n - i) 0).set i (a.getD i 0) = a.take (i + 1) ++ List.replicate (n - (i + 1)) 0 := by
  have e : a.take (i + 1) = a.take i ++ [a.getD i 0] := by
    rw [List.take_add_one, List.getElem?_eq_getElem ha]
    simp only [Option.toList, List.getD, List.getElem?_eq_getElem ha, Option.getD_some]
  rw [show n - i = (n - (i + 1)) + 1 by omega, List.replicate_succ, List.set_append_right _ _ (by rw [List.length_take]; omega), List.length_take, Nat.min_eq_left (Nat.le_of_lt ha), Nat.sub_self, List.set_cons_zero, e, List.append_assoc]
  rfl
theorem take_succ_eqB {a b : List UInt8} {i : Nat} (ha : i < a.length) (hb : i < b.length) (h : a.take i = b.take i) (e : a.getD i 0 = b.getD i 0) : a.take (i + 1) = b.take (i + 1) := by
  rw [List.take_add_one, List.take_add_one, h]
  simp only [List.getD, List.getElem?_eq_getElem ha, List.getElem?_eq_getElem hb, Option.getD_some] at e ⊢
  rw [e]
set_option maxRecDepth 10000
/-- Marks from k on. -/
def markL (k n : Nat) : List UInt8 := (List.range n).map fun i => UInt8.ofInt ((k + i : Nat) : Int)
theorem markL_len (k n : Nat) : (markL k n).length = n := by simp [markL]
theorem markL_getD {k n i : Nat} (h : i < n) : (markL k n).getD i 0 = UInt8.ofInt ((k + i : Nat) : Int) := by simp [markL, List.getD, h]
theorem mark_step {l : List UInt8} {k i : Nat} (h : i < l.length) : (markL k i ++ l.drop i).set i (UInt8.ofInt ((k + i : Nat) : Int)) = markL k (i + 1) ++ l.drop (i + 1) := by
  rw [List.drop_eq_getElem_cons h, List.set_append_right _ _ (by rw [markL_len]; omega), markL_len, Nat.sub_self, List.set_cons_zero]
  simp [markL, List.range_succ]
end Go.Proofs.Ytjakgjelnbpmnaa
/- slices.Backward over halves: what its function value does, called with a loop's body. -/
set_option linter.unusedSimpArgs false
set_option linter.unusedVariables false
namespace Go.Proofs.Ytjakgjelnbpmnaa
open Go Go.Vc Go.RowKit
set_option maxRecDepth 10000
set_option maxHeartbeats 4000000
theorem backward_in (n : Nat) (s : Option Addr) (k c : Nat) (w : World) : CallsIn Fence.wide n Try.prog 35 #[.slice s k c] w fun e w' => e = .returned (.func (.func 66) #[] #[.pointer (some ⟨w.heap.size, 0, none⟩)]) ∧ w' = w.alloc (.cells #[.slice s k c] 31) := by
  refine callsIn_of_wp Try.func35 rfl trivial ?_ rfl
  simp only [Try.ntmps35, List.size_toArray, List.length_cons, List.length_nil, Nat.reduceAdd, Nat.reduceSub, Array.replicate_succ, Array.replicate_zero, List.push_toArray, List.append_toArray, List.nil_append, List.cons_append]
  gi_wp2
  go_ret
  exact ⟨rfl, rfl⟩
/-- The half at a place; eight zeros behind the end. -/
def keyA (D : List UInt8) (x : Nat) : List UInt8 := ((D.drop (8 * x)) ++ List.replicate 8 0).take 8
theorem keyA_len (D : List UInt8) (x : Nat) : (keyA D x).length = 8 := by simp [keyA]
theorem keyA_at {D : List UInt8} {x q : Nat} (hD : D.length = 8 * q) (h : x < q) : keyA D x = (D.drop (8 * x)).take 8 := by
  unfold keyA
  rw [List.take_append_of_le_length (by rw [List.length_drop]; omega)]
/-- What a round is handed: the place, the half. -/
def encK (D : List UInt8) (x : Nat) : Array Value := #[.int .i64 x, .agg ((keyA D x).map fun u => Value.int .u8 (u.toNat : Nat)).toArray]
/-- The places that have come when j rounds are over. -/
def revU (q j : Nat) : List Nat := (List.range j).map fun t => q - 1 - t
theorem revU_succ (q j : Nat) : revU q (j + 1) = revU q j ++ [q - 1 - j] := by simp [revU, List.range_succ]
theorem revU_len (q j : Nat) : (revU q j).length = j := by simp [revU]
/-- The iterator's memory: the halves; the captured slice. -/
def hpI (D : List UInt8) (q cp : Nat) : List Blk := [⟨false, bs D⟩, ⟨false, [.s 0 0 q cp]⟩]
theorem hpI_ro {D : List UInt8} {q cp : Nat} : ∀ b ∈ hpI D q cp, b.own = false := by simp [hpI]
/-- Its temporaries at the head of the loop. -/
def tmI (l q j : Nat) : List V := [.c (.func (.yield l) #[] #[]), .p 1 0, .j, .c (.int .i64 ((q : Int) - 1 - (j : Int)))] ++ List.replicate 15 .j
/-- Behind the loop's test. -/
def tmH (l q j : Nat) : List V := [.c (.func (.yield l) #[] #[]), .p 1 0, .j, .c (.int .i64 ((q : Int) - 1 - (j : Int))), .j, .j, .j, .j, .c (.bool (decide (j < q)))] ++ List.replicate 10 .j
/-- Ahead of the call of the body. -/
def tmY (l : Nat) (D : List UInt8) (q cp j : Nat) : List V := [.c (.func (.yield l) #[] #[]), .p 1 0, .j, .c (.int .i64 ((q : Int) - 1 - (j : Int))), .j, .j, .j, .j, .j, .j, .j, .c (.func (.yield l) #[] #[]), .c (.int .i64 ((q - 1 - j : Nat))), .j, .j, .j, .a (bs (keyA D (q - 1 - j))), .j, .j]
/-- Behind the call. -/
def tmZ (l q j : Nat) (b : Bool) : List V := [.c (.func (.yield l) #[] #[]), .p 1 0, .j, .c (.int .i64 ((q : Int) - 1 - (j : Int))), .j, .j, .j, .j, .j, .j, .j, .j, .j, .j, .j, .j, .j, .j, .c (.bool (b))]
noncomputable abbrev X0 (m : Nat) : Cx := XX (fun _ => .nil) (fun _ => []) [] m
theorem back1_in (n l q cp Bs : Nat) (D : List UInt8) (hD : D.length = 8 * q) (hc : q ≤ cp) (hm : q ≤ 1048576) (ρ0 : Vc.Loc) (Mk : Nat → Prop) (hM : ∀ h, h < 2 → ¬ Mk (ρ0 h).1) (J Jx : List Nat → World → Prop) (hJ : ∀ s A B, J s A → Keep none' A B → J s B) (hJx : ∀ s A B, Jx s A → Keep none' A B → Jx s B)
    (hY : ∀ pre x W, J pre W → pre.length < q → YieldAt Fence.wide (n - 1) Try.prog l (encK D x) W fun e W' => (e = .returned (.bool true) ∧ J (pre ++ [x]) W' ∧ Keep Mk W W') ∨ (e = .returned (.bool false) ∧ Jx (pre ++ [x]) W'))
    (W : World) (hA : At none' W 2 ρ0 [] ([.c (.func (.yield l) #[] #[]), .p 1 0] ++ List.replicate 17 (.c undef)) (hpI D q cp) ⟨#[.func (.yield l) #[] #[], .pointer (some ⟨Bs, 0, none⟩)] ++ Array.replicate 17 undef, []⟩ W) (h0 : J [] W) :
    CallsIn Fence.wide n Try.prog 66 #[.func (.yield l) #[] #[], .pointer (some ⟨Bs, 0, none⟩)] W fun e W' => (∃ v, e = .returned v) ∧ ((∃ xs, xs = revU q q ∧ J xs W') ∨ (∃ pre, True ∧ Jx pre W')) := by
  refine callsIn_of_wp Try.func66 rfl trivial ?_ rfl
  simp only [Try.ntmps66]
  refine wpIn_seq (vcAll_in (mu := []) envOK (.inl rfl) rfl (tm2 := tmI l q 0) (hp2 := hpI D q cp) (M := none') (w0 := W) (N0 := 2) (ρ0 := ρ0) (D0 := []) ?_ hA fun a1 w1 hA1 => ?_)
  · refine kL_mk (X := X0 2) ?_
    simp only [X0, XX, ↓VC, VP, TT, Nat.reduceEqDiff, reduceCtorEq, Nat.reduceAdd, Nat.reduceSub, Nat.reduceLT, Nat.reduceMul, Nat.reducePow, Nat.reduceLeDiff, Int.reduceToNat, Int.reduceLE, Int.reduceLT, Int.reducePow, hpI, List.replicate_succ, List.replicate_zero, List.cons_append, List.nil_append]
    refine ⟨[0, 1], ?_⟩
    rw [wrap_i64 (by omega) (by omega)]
    simp [-List.reduceReplicate, LES, tmI, List.replicate_succ]
  show (Code.block 0 _).wpIn Fence.wide n Try.prog _ a1 w1
  have hJ1 := hJ _ _ _ h0 hA1.keep
  replace hA1 := hA1.move (M' := none') hpI_ro rfl (Keep.refl none' w1) (fun _ _ h => h)
  clear hA h0
  refine wpIn_block (wpIn_loop (fun a w => ∃ j, j ≤ q ∧ At none' w 2 ρ0 [] (tmI l q j) (hpI D q cp) a w ∧ J (revU q j) w) (fun a w => (intOf (a.eval (.tmp 3)) + 1).toNat) ⟨0, by omega, hA1, hJ1⟩ ?_)
  clear hA1 hJ1 a1 w1 W
  rintro a w ⟨j, hj, hA, hJj⟩
  have hkl := keyA_len D (q - 1 - j)
  refine wpIn_seq (wpIn_seq (vcAll_in (mu := []) envOK (.inl rfl) rfl (tm2 := tmH l q j) (hp2 := hpI D q cp) ?_ hA fun a2 w2 hA2 => ?_))
  · refine kL_mk (X := X0 2) ?_
    simp only [X0, XX, ↓VC, VP, TT, Nat.reduceEqDiff, reduceCtorEq, Nat.reduceAdd, Nat.reduceSub, Nat.reduceLT, Nat.reduceMul, Nat.reducePow, Nat.reduceLeDiff, Int.reduceToNat, Int.reduceLE, Int.reduceLT, Int.reducePow, hpI, tmI, List.replicate_succ, List.replicate_zero, List.cons_append, List.nil_append]
    refine ⟨[0, 1], ?_⟩
    rw [show decide (0 ≤ (q : Int) - 1 - (j : Int)) = decide (j < q) by rw [decide_eq_decide]; omega]
    simp [-List.reduceReplicate, LES, tmH, List.replicate_succ]
  have hJ2 := hJ _ _ _ hJj hA2.keep
  replace hA2 := hA2.move (M' := none') hpI_ro rfl (Keep.refl none' w2) (fun _ _ h => h)
  clear hJj
  refine wpIn_cond (t := decide (j < q)) (hA2.eval (by rfl)) ?_
  rcases Nat.lt_or_ge j q with h | h
  · rw [if_pos (by simpa using h)]
    refine wpIn_skip (wpIn_seq (wpIn_block (wpIn_seq (wpIn_region_lit (vcSplit_in (mu := []) envOK (.inl rfl) 6 rfl (tm2 := tmY l D q cp j) (hp2 := hpI D q cp) ?_ hA2 fun a3 w3 hA3 => ?_)))))
    · refine kL_mk (X := X0 2) ?_
      have e1 : (q : Int) - 1 - (j : Int) = ((q - 1 - j : Nat) : Int) := by omega
      simp only [X0, XX, ↓VC, VP, TT, Nat.reduceEqDiff, reduceCtorEq, Nat.reduceAdd, Nat.reduceSub, Nat.reduceLT, Nat.reduceMul, Nat.reducePow, Nat.reduceLeDiff, Int.reduceToNat, Int.reduceLE, Int.reduceLT, Int.reducePow, hpI, tmH, List.replicate_succ, List.replicate_zero, List.cons_append, List.nil_append, List.take_succ_cons, List.take_zero, e1]
      refine ⟨by omega, by omega, [0, 1], ?_⟩
      rw [Nat.mul_comm (q - 1 - j) 8, ← keyA_at hD (show q - 1 - j < q by omega)]
      simp [-List.reduceReplicate, LES, tmY, e1, List.replicate_succ]
    · have hJ3 := hJ _ _ _ hJ2 hA3.keep
      replace hA3 := hA3.move (M' := none') hpI_ro rfl (Keep.refl none' w3) (fun _ _ h => h)
      clear hJ2 hA2
      have hx11 : a3.eval (.tmp 11) = .func (.yield l) #[] #[] := hA3.eval (by rfl)
      have hx12 : a3.eval (.tmp 12) = .int .i64 ((q - 1 - j : Nat) : Int) := hA3.eval (by rfl)
      have hx16 : a3.eval (.tmp 16) = .agg (((keyA D (q - 1 - j)).map fun u => Value.int .u8 (u.toNat : Nat)).toArray) := hA3.eval_bs (by rfl)
      obtain ⟨fn, tmps, assign, body, hy, hR⟩ := hY (revU q j) (q - 1 - j) w3 hJ3 (by rw [revU_len]; exact h)
      simp only [List.drop_succ_cons, List.drop_zero]
      refine wpListIn_plain rfl fun K hK => ⟨fun _ _ => trivial, ?_⟩
      have hy2 : Sem.run Try.prog (Instr.yield l #[.int .i64 ((q - 1 - j : Nat) : Int), .agg (((keyA D (q - 1 - j)).map fun u => Value.int .u8 (u.toNat : Nat)).toArray)]) w3 = Result.ok (Next.round l fn tmps assign body) w3 := hy
      have hrun : ∀ (dst : Option Tmp) ty pos af gd ts, Sem.run Try.prog (Oper.semAt Fence.wide.round a3.eval ⟨dst, .call ⟨.value (.tmp 11), #[.tmp 12, .tmp 16], ts⟩, ty, pos, af, gd⟩) w3 = Result.ok (Next.round l fn tmps assign body) w3 := fun dst ty pos af gd ts => by
        simp [Oper.semAt, Fence.wide, execOp, resolve, Deferred.ofValue, invoke, hx11, hx12, hx16, hy2]
      rw [hrun, Oper.uponIn_round]
      refine ⟨fun h => by simp [Fence.wide] at h, hR.mono ?_⟩
      rintro e W3 (⟨rfl, hJ4, hk4⟩ | ⟨rfl, hx4⟩)
      · have hA4 := (hA3.move (M' := none') hpI_ro rfl hk4 hM).put (some 17) (.bool true)
        refine hK _ _ ?_
        refine vcList_in envOK (.inl rfl) (mu := []) (rest := []) (k := fun tm hp => ∃ σ, LeS 2 σ tm hp (tmZ l q j false) (hpI D q cp)) (fun tm' hp' a' w' hk hA5 => ?_) [_] (calm_all rfl) _ _ _ _ ?_ hA4
        · obtain ⟨σ, hle⟩ := hk
          replace hA5 := hA5.le hle
          refine wpListIn_nil (wpIn_cond (t := false) (hA5.eval (by rfl)) ?_)
          rw [if_neg (by simp)]
          have hJ5 := hJ _ _ _ hJ4 hA5.keep
          refine wpIn_skip (vcAll_in (mu := []) envOK (.inl rfl) rfl (tm2 := tmI l q (j + 1)) (hp2 := hpI D q cp) ?_ hA5 fun a6 w6 hA6 => ?_)
          · refine kL_mk (X := X0 2) ?_
            simp only [X0, XX, ↓VC, VP, TT, Nat.reduceEqDiff, reduceCtorEq, Nat.reduceAdd, Nat.reduceSub, Nat.reduceLT, Nat.reduceMul, Nat.reducePow, Nat.reduceLeDiff, Int.reduceToNat, Int.reduceLE, Int.reduceLT, Int.reducePow, hpI, tmZ]
            refine ⟨[0, 1], ?_⟩
            rw [wrap_i64 (by omega) (by omega), show (q : Int) - 1 - (j : Int) - 1 = (q : Int) - 1 - ((j + 1 : Nat) : Int) by omega]
            simp [-List.reduceReplicate, LES, tmI, List.replicate_succ]
          · have hJ6 := hJ _ _ _ hJ4 hA6.keep
            refine ⟨⟨j + 1, by omega, hA6.move (M' := none') hpI_ro rfl (Keep.refl none' w6) (fun _ _ h => h), by rw [revU_succ]; exact hJ6⟩, ?_⟩
            have m1 : a6.eval (.tmp 3) = .int .i64 ((q : Int) - 1 - ((j + 1 : Nat) : Int)) := hA6.eval (by rfl)
            have m2 : a.eval (.tmp 3) = .int .i64 ((q : Int) - 1 - (j : Int)) := hA.eval (by rfl)
            rw [m1, m2]
            simp only [intOf]
            omega
        · refine kL_mk (X := X0 2) ?_
          simp only [X0, XX, ↓VC, VP, TT, Nat.reduceEqDiff, reduceCtorEq, Nat.reduceAdd, Nat.reduceSub, Nat.reduceLT, Nat.reduceMul, Nat.reducePow, Nat.reduceLeDiff, Int.reduceToNat, Int.reduceLE, Int.reduceLT, Int.reducePow, hpI, tmY, List.replicate_succ, List.replicate_zero, List.cons_append, List.nil_append, putV, List.set_cons_succ, List.set_cons_zero]
          refine ⟨[0, 1], ?_⟩
          simp [-List.reduceReplicate, LES, tmZ]
      · have hA4 := (hA3.forget (W' := W3) (ρ1 := ρ0)).put (some 17) (.bool false)
        refine hK _ _ ?_
        refine vcList_in envOK (.inl rfl) (mu := []) (rest := []) (k := fun tm hp => ∃ σ, LeS 0 σ tm hp (List.replicate 18 .j ++ [.c (.bool (true))]) []) (fun tm' hp' a' w' hk hA5 => ?_) [_] (calm_all rfl) _ _ _ _ ?_ hA4
        · obtain ⟨σ, hle⟩ := hk
          replace hA5 := hA5.le hle
          refine wpListIn_nil (wpIn_cond (t := true) (hA5.eval (by rfl)) ?_)
          rw [if_pos rfl]
          refine wpIn_ret ?_
          simp only [Exit.then, Exit.inBlock]
          exact bodyPost_ret (results_none rfl _ _ _) hA5.defers ⟨⟨_, rfl⟩, .inr ⟨_, trivial, hJx _ _ _ hx4 hA5.keep⟩⟩
        · refine kL_mk (X := X0 0) ?_
          simp only [X0, XX, ↓VC, VP, TT, Nat.reduceEqDiff, reduceCtorEq, Nat.reduceAdd, Nat.reduceSub, Nat.reduceLT, Nat.reduceMul, Nat.reducePow, Nat.reduceLeDiff, Int.reduceToNat, Int.reduceLE, Int.reduceLT, Int.reducePow, tmY, List.length_cons, List.length_nil, List.replicate_succ, List.replicate_zero, List.cons_append, List.nil_append, putV, List.set_cons_succ, List.set_cons_zero]
          refine ⟨[], ?_⟩
          simp [-List.reduceReplicate, LES]
  · obtain rfl : j = q := by omega
    rw [if_neg (by simp)]
    refine wpIn_exit ?_
    simp only [Exit.then, Exit.inBlock, if_true]
    exact bodyPost_end (results_none rfl _ _ _) hA2.defers ⟨⟨_, rfl⟩, .inl ⟨_, rfl, hJ2⟩⟩
end Go.Proofs.Ytjakgjelnbpmnaa

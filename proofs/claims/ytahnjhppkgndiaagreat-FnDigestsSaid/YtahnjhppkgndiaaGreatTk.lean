import Derived.Test.YtahnjhppkgndiaaGreatVcgQ
import Derived.Test.YtahnjhppkgndiaaGreatVcgO
import Derived.Test.YtahnjhppkgndiaaGreatEnv
/- A block of bytes taken whole. -/
namespace Go.Proofs.YtahnjhppkgndiaaGreat
open Go Go.Vc
theorem tk {l : List UInt8} : List.take l.length (bs l) = bs l := take_all (bs_length l).symm
/-- Side conditions of calls, and the goal behind a call: the rules, bundled. -/
theorem SCB : type_of% (And.intro @cellsAt.eq_1 <| And.intro @tk <| And.intro @take_room <| And.intro @bs_length <| @bs_nil) := And.intro @cellsAt.eq_1 <| And.intro @tk <| And.intro @take_room <| And.intro @bs_length <| @bs_nil
theorem GOB : type_of% (And.intro @Bool.not_true @Bool.not_false) := And.intro @Bool.not_true @Bool.not_false
end Go.Proofs.YtahnjhppkgndiaaGreat
/- Products in a field of 256 elements: by shifting and reducing step by step, and by reducing the whole product: the same bytes. No program in sight. -/
set_option linter.unusedSimpArgs false
set_option linter.unusedVariables false
namespace Go.Proofs.YtahnjhppkgndiaaGreat
open Go Go.Vc
theorem bitI_xor64 {x y : Nat} (hx : x < 9223372036854775808) (hy : y < 9223372036854775808) : bitI .xor .i64 (x : Int) (y : Int) = ((x ^^^ y : Nat) : Int) := by
  unfold bitI
  have h : x ^^^ y < 2 ^ 63 := Nat.xor_lt_two_pow (by omega) (by omega)
  show IntKind.i64.wrap ((BitVec.ofInt 64 (x : Int) ^^^ BitVec.ofInt 64 (y : Int)).toNat : Int) = _
  rw [BitVec.ofInt_natCast, BitVec.ofInt_natCast, BitVec.toNat_xor, BitVec.toNat_ofNat, BitVec.toNat_ofNat, Nat.mod_eq_of_lt (by omega), Nat.mod_eq_of_lt (by omega)]
  exact wrap_i64 (by omega) (by omega)
theorem bitI_and1 {x : Nat} (hx : x < 9223372036854775808) : bitI .and .i64 (x : Int) 1 = ((x % 2 : Nat) : Int) := by
  unfold bitI
  show IntKind.i64.wrap ((BitVec.ofInt 64 (x : Int) &&& BitVec.ofInt 64 ((1 : Nat) : Int)).toNat : Int) = _
  rw [BitVec.ofInt_natCast, BitVec.ofInt_natCast, BitVec.toNat_and, BitVec.toNat_ofNat, BitVec.toNat_ofNat, Nat.mod_eq_of_lt (by omega), Nat.mod_eq_of_lt (by omega), Nat.and_one_is_mod]
  exact wrap_i64 (by omega) (by omega)
theorem bitI_and1_8 (x : Nat) (hx : x < 256) : bitI .and .u8 (x : Int) 1 = ((x % 2 : Nat) : Int) := by
  have h : x = (UInt8.ofNat x).toNat := by rw [UInt8.toNat_ofNat']; omega
  rw [h, show (1 : Int) = ((1 : UInt8).toNat : Int) from rfl, bitI_and8, UInt8.toNat_and]
  show ((_ &&& 1 : Nat) : Int) = _
  rw [Nat.and_one_is_mod]
theorem shr_nat (x i : Nat) : (x : Int).fdiv (2 ^ i) = ((x / 2 ^ i : Nat) : Int) := by
  rw [Int.fdiv_eq_ediv_of_nonneg _ (by exact Int.le_of_lt (Int.pow_pos (by decide)))]
  rw [show (2 : Int) ^ i = ((2 ^ i : Nat) : Int) by simp]
  exact (Int.natCast_ediv x (2 ^ i)).symm
theorem bit_mod (x i : Nat) : (((x / 2 ^ i % 2 : Nat) : Int) == 1) = x.testBit i := by
  rw [Nat.testBit_eq_decide_div_mod_eq]; rcases Nat.mod_two_eq_zero_or_one (x / 2 ^ i) with h | h <;> rw [h] <;> rfl

def red (m x : Nat) : Nat := if x < 256 then x else x ^^^ m
def nowN (m a : Nat) : Nat → Nat
  | 0 => a
  | i + 1 => red m (2 * nowN m a i)
def tmP (m a b : Nat) : Nat → Nat
  | 0 => 0
  | i + 1 => tmP m a b i ^^^ (if b.testBit i then nowN m a i else 0)
def prodP (a b : Nat) : Nat → Nat
  | 0 => 0
  | i + 1 => prodP a b i ^^^ (if b.testBit i then a <<< i else 0)
def stepR (m d i x : Nat) : Nat := if x.testBit i then x ^^^ (m <<< (i - d)) else x
def resP (m d x : Nat) : Nat → Nat
  | 0 => x
  | j + 1 => stepR m d (15 - j) (resP m d x j)

theorem bit8 {y : Nat} (h : y < 512) : y.testBit 8 = decide (256 ≤ y) := by
  rw [Nat.testBit_eq_decide_div_mod_eq]; simp only [decide_eq_decide]; rw [show (2 : Nat) ^ 8 = 256 from rfl]; omega
theorem xor256 {x y : Nat} (hx : 256 ≤ x) (hx' : x < 512) (hy : 256 ≤ y) (hy' : y < 512) : x ^^^ y < 256 := by
  have h : x ^^^ y < 2 ^ 9 := Nat.xor_lt_two_pow (by omega) (by omega)
  have hb : (x ^^^ y).testBit 8 = false := by rw [Nat.testBit_xor, bit8 hx', bit8 hy']; simp [hx, hy]
  rw [bit8 (by omega)] at hb
  have := of_decide_eq_false hb
  omega
theorem red_lt {m x : Nat} (hm : 256 ≤ m) (hm' : m < 512) (hx : x < 512) : red m x < 256 := by
  unfold red; split
  · assumption
  · exact xor256 (by omega) hx hm hm'
theorem nowN_lt {m a : Nat} (hm : 256 ≤ m) (hm' : m < 512) (ha : a < 256) : ∀ i, nowN m a i < 256
  | 0 => ha
  | i + 1 => red_lt hm hm' (by have := nowN_lt hm hm' ha i; omega)
theorem tmP_lt {m a b : Nat} (hm : 256 ≤ m) (hm' : m < 512) (ha : a < 256) : ∀ i, tmP m a b i < 256
  | 0 => by simp [tmP]
  | i + 1 => by
    have h1 := tmP_lt (b := b) hm hm' ha i
    have h2 := nowN_lt hm hm' ha i
    unfold tmP
    split
    · exact Nat.xor_lt_two_pow (n := 8) h1 h2
    · simpa using h1
theorem xorA (x y s : Nat) : (x ^^^ s) ^^^ (y ^^^ s) = x ^^^ y := by
  apply Nat.eq_of_testBit_eq; intro j; simp only [Nat.testBit_xor]
  cases x.testBit j <;> cases y.testBit j <;> cases s.testBit j <;> rfl
theorem xorB (x y s : Nat) : (x ^^^ s) ^^^ y = (x ^^^ y) ^^^ s := by
  apply Nat.eq_of_testBit_eq; intro j; simp only [Nat.testBit_xor]
  cases x.testBit j <;> cases y.testBit j <;> cases s.testBit j <;> rfl
theorem stepR_xor (m d i x y : Nat) : stepR m d i (x ^^^ y) = stepR m d i x ^^^ stepR m d i y := by
  unfold stepR
  rw [Nat.testBit_xor]
  cases x.testBit i <;> cases y.testBit i
  · rfl
  · exact Nat.xor_assoc _ _ _
  · exact (xorB _ _ _).symm
  · exact (xorA _ _ _).symm
theorem resP_xor (m d x y : Nat) : ∀ j, resP m d (x ^^^ y) j = resP m d x j ^^^ resP m d y j
  | 0 => rfl
  | j + 1 => by unfold resP; rw [resP_xor m d x y j, stepR_xor]
theorem resP_zero (m d : Nat) : ∀ j, resP m d 0 j = 0
  | 0 => rfl
  | j + 1 => by unfold resP; rw [resP_zero m d j]; simp [stepR]
theorem testBit_hi {x i j : Nat} (h : x < 2 ^ i) (hj : i ≤ j) : x.testBit j = false :=
  Nat.testBit_lt_two_pow (Nat.lt_of_lt_of_le h (Nat.pow_le_pow_right (by decide) hj))
theorem resP_small (m : Nat) {a : Nat} (ha : a < 256) : ∀ j, j ≤ 8 → resP m 8 a j = a
  | 0, _ => rfl
  | j + 1, h => by
    unfold resP; rw [resP_small m ha j (by omega)]
    unfold stepR; rw [testBit_hi (i := 8) ha (by omega)]; simp
theorem two_mul_shift (x k : Nat) : 2 * (x <<< k) = x <<< (k + 1) := by
  rw [Nat.shiftLeft_eq, Nat.shiftLeft_eq, Nat.pow_succ, Nat.mul_comm 2, Nat.mul_assoc]
theorem two_mul_xor (x y : Nat) : 2 * (x ^^^ y) = (2 * x) ^^^ (2 * y) := by
  have h : ∀ z : Nat, 2 * z = z <<< 1 := fun z => by rw [Nat.shiftLeft_eq]; omega
  rw [h, h, h, Nat.shiftLeft_xor_distrib]
theorem stepR_two (m i y : Nat) (hi : 8 ≤ i) : stepR m 8 (i + 1) (2 * y) = 2 * stepR m 8 i y := by
  unfold stepR
  rw [Nat.testBit_succ, show 2 * y / 2 = y by omega]
  split
  · rw [two_mul_xor, two_mul_shift, show i + 1 - 8 = i - 8 + 1 by omega]
  · rfl
theorem resP_two (m : Nat) {y : Nat} (hy : y.testBit 15 = false) : ∀ j, j ≤ 7 → resP m 8 (2 * y) j = 2 * resP m 8 y (j + 1)
  | 0, _ => by simp [resP, stepR, hy]
  | j + 1, h => by
    rw [resP, resP_two m hy j (by omega), show 15 - j = (14 - j) + 1 by omega, stepR_two m _ _ (by omega)]
    rw [resP.eq_2 m 8 y (j + 1), show 15 - (j + 1) = 14 - j by omega]
theorem resP_two8 {m y : Nat} (hy : y.testBit 15 = false) (hr : resP m 8 y 8 < 256) : resP m 8 (2 * y) 8 = red m (2 * resP m 8 y 8) := by
  rw [resP, resP_two m hy 7 (by omega)]
  show stepR m 8 8 (2 * resP m 8 y 8) = _
  unfold stepR red
  rw [bit8 (by omega)]
  by_cases h : 256 ≤ 2 * resP m 8 y 8
  · rw [if_pos (by simpa using h), if_neg (by omega)]; simp
  · rw [if_neg (by simpa using h), if_pos (by omega)]
theorem resP_shift {m a : Nat} (hm : 256 ≤ m) (hm' : m < 512) (ha : a < 256) : ∀ i, i < 8 → resP m 8 (a <<< i) 8 = nowN m a i
  | 0, _ => by rw [Nat.shiftLeft_zero, resP_small m ha 8 (by omega)]; rfl
  | i + 1, h => by
    have ih := resP_shift hm hm' ha i (by omega)
    have hb : (a <<< i).testBit 15 = false := by
      refine testBit_hi (i := 15) ?_ (by omega)
      rw [Nat.shiftLeft_eq]
      have : 2 ^ i ≤ 2 ^ 6 := Nat.pow_le_pow_right (by decide) (by omega)
      calc a * 2 ^ i ≤ a * 2 ^ 6 := Nat.mul_le_mul_left _ this
        _ < 2 ^ 15 := by omega
    have hr : resP m 8 (a <<< i) 8 < 256 := by rw [ih]; exact nowN_lt hm hm' ha i
    rw [← two_mul_shift, resP_two8 hb hr, ih]; rfl
theorem times_eq {m a b : Nat} (hm : 256 ≤ m) (hm' : m < 512) (ha : a < 256) : ∀ i, i ≤ 8 → resP m 8 (prodP a b i) 8 = tmP m a b i
  | 0, _ => resP_zero m 8 8
  | i + 1, h => by
    unfold prodP tmP
    rw [resP_xor, times_eq hm hm' ha i (by omega)]
    split
    · rw [resP_shift hm hm' ha i (by omega)]
    · rw [resP_zero]
theorem prodP_lt {a b : Nat} (ha : a < 256) : ∀ i, i ≤ 8 → prodP a b i < 32768
  | 0, _ => by simp [prodP]
  | i + 1, h => by
    have h1 := prodP_lt (b := b) ha i (by omega)
    unfold prodP
    have h2 : (if b.testBit i then a <<< i else 0) < 2 ^ 15 := by
      split
      · rw [Nat.shiftLeft_eq]
        have : 2 ^ i ≤ 2 ^ 7 := Nat.pow_le_pow_right (by decide) (by omega)
        calc a * 2 ^ i ≤ a * 2 ^ 7 := Nat.mul_le_mul_left _ this
          _ < 2 ^ 15 := by omega
      · decide
    exact Nat.xor_lt_two_pow (n := 15) h1 h2
/-- The product of two elements. -/
def tmul (m : Nat) (a b : UInt8) : UInt8 := UInt8.ofNat (tmP m a.toNat b.toNat 8)
theorem tmul_nat {m : Nat} (hm : 256 ≤ m) (hm' : m < 512) (a b : UInt8) : (tmul m a b).toNat = tmP m a.toNat b.toNat 8 := by
  have := tmP_lt (b := b.toNat) hm hm' a.toNat_lt 8
  unfold tmul; rw [UInt8.toNat_ofNat']; omega
/-- From some place on no bit is 1. -/
theorem tmP_done {m a b : Nat} {i : Nat} (hi : b < 2 ^ i) : ∀ k, tmP m a b (i + k) = tmP m a b i
  | 0 => rfl
  | k + 1 => by
    rw [← Nat.add_assoc, tmP, tmP_done hi k, testBit_hi hi (by omega)]; simp
theorem tmP_all {m a b i : Nat} (hb : b / 2 ^ i = 0) (hi : i ≤ 8) : tmP m a b i = tmP m a b 8 := by
  have h : b < 2 ^ i := by
    rcases Nat.div_eq_zero_iff.1 hb with h | h
    · exact absurd h (Nat.pos_iff_ne_zero.1 (Nat.two_pow_pos i))
    · exact h
  have := tmP_done (m := m) (a := a) h (8 - i)
  rw [show i + (8 - i) = 8 by omega] at this
  exact this.symm
theorem tmul_xor (m : Nat) (a b c : UInt8) : tmul m a (b ^^^ c) = tmul m a b ^^^ tmul m a c := by
  have key : ∀ i, tmP m a.toNat (b ^^^ c).toNat i = tmP m a.toNat b.toNat i ^^^ tmP m a.toNat c.toNat i := fun i => by
    induction i with
    | zero => simp [tmP]
    | succ i ih =>
      unfold tmP
      rw [ih, UInt8.toNat_xor, Nat.testBit_xor]
      cases b.toNat.testBit i <;> cases c.toNat.testBit i
      · simp
      · simp [Nat.xor_assoc]
      · simp [xorB]
      · simp [xorA]
  unfold tmul
  rw [key]
  apply UInt8.toNat_inj.1
  rw [UInt8.toNat_xor]
  simp only [UInt8.toNat_ofNat']
  rw [show (2 : Nat) ^ 8 = 2 ^ 8 from rfl, Nat.xor_mod_two_pow]
theorem tmul_zero (m : Nat) (b : UInt8) : tmul m 0 b = 0 := by
  have h0 : ∀ i, nowN m 0 i = 0 := fun i => by
    induction i with
    | zero => rfl
    | succ i ih => unfold nowN; rw [ih]; rfl
  have h1 : ∀ i, tmP m 0 b.toNat i = 0 := fun i => by
    induction i with
    | zero => rfl
    | succ i ih => unfold tmP; rw [ih, h0]; simp
  unfold tmul
  show UInt8.ofNat (tmP m 0 b.toNat 8) = 0
  rw [h1]; rfl
theorem tmul_zero' (m : Nat) (a : UInt8) : tmul m a 0 = 0 := by
  have h1 : ∀ i, tmP m a.toNat 0 i = 0 := fun i => by
    induction i with
    | zero => rfl
    | succ i ih => unfold tmP; rw [ih]; simp
  unfold tmul
  show UInt8.ofNat (tmP m a.toNat 0 8) = 0
  rw [h1]; rfl
/-- Powers, by squares: after i rounds. -/
def pwS (m : Nat) (k : Nat) : Nat → UInt8 × UInt8 → UInt8 × UInt8
  | 0, s => s
  | i + 1, s => let t := pwS m k i s; (if (k / 2 ^ i) % 2 = 1 then tmul m t.1 t.2 else t.1, tmul m t.2 t.2)
def pw254 (m : Nat) (a : UInt8) : UInt8 := (pwS m 254 8 (1, a)).1
end Go.Proofs.YtahnjhppkgndiaaGreat
/- The laws' own helpers over slices of bytes: copies, comparison, marks. -/
set_option linter.unusedSimpArgs false
set_option linter.unusedVariables false
namespace Go.Proofs.YtahnjhppkgndiaaGreat
open Go Go.Vc
theorem vGet_roomB {L : List UInt8} {X : List V} {i : Nat} {k : V → Prop} (h : i < L.length) : vGet (bs L ++ X) i k = k (.c (.int .u8 ((L.getD i 0).toNat : Int))) := by
  unfold vGet
  have h1 : i < (bs L).length := by rw [bs_length]; exact h
  rw [show (bs L ++ X).getD i .j = (bs L).getD i .j by simp only [List.getD, List.getElem?_append_left h1], bs_getD h]
  apply propext
  simp only [List.length_append, bs_length]
  exact ⟨fun h => h.2, fun h2 => ⟨by omega, h2⟩⟩
theorem vPut_room {L : List UInt8} {X : List V} {o : Nat} {n : Int} {k : List V → Prop} (ho : o < L.length) (hn : inU8 n) : vPut (bs L ++ X) o [.c (.int .u8 n)] k = k (bs (L.set o (UInt8.ofInt n)) ++ X) := by
  have e : splice (bs L ++ X) o [.c (.int .u8 n)] = splice (bs L) o [.c (.int .u8 n)] ++ X := by
    unfold splice
    have h1 : o + 1 ≤ (bs L).length := by rw [bs_length]; omega
    simp only [List.length_singleton]
    rw [List.take_append_of_le_length (by omega), List.drop_append_of_le_length h1, List.append_assoc, List.append_assoc, List.append_assoc]
  have e2 := vPut_bs (l := L) (o := o) (k := fun c => k (c ++ X)) hn
  unfold vPut at e2 ⊢
  rw [e]
  simp only [bs_length, List.length_append, List.length_singleton] at e2 ⊢
  apply propext
  constructor
  · rintro ⟨_, h⟩; exact (e2.mp ⟨by omega, h⟩).2
  · intro h; exact ⟨by omega, (e2.mpr ⟨ho, h⟩).2⟩
theorem take_succ_eqB {a b : List UInt8} {i : Nat} (ha : i < a.length) (hb : i < b.length) (h : a.take i = b.take i) (e : a.getD i 0 = b.getD i 0) : a.take (i + 1) = b.take (i + 1) := by
  rw [List.take_add_one, List.take_add_one, h]
  simp only [List.getD, List.getElem?_eq_getElem ha, List.getElem?_eq_getElem hb, Option.getD_some] at e ⊢
  rw [e]
set_option maxRecDepth 10000
end Go.Proofs.YtahnjhppkgndiaaGreat
/- 'AgreeingBits' of the program and of the reference compute the same number. -/
set_option linter.unusedSimpArgs false
set_option linter.unusedVariables false
namespace Go.Proofs.YtahnjhppkgndiaaGreat
open Go Go.Vc
theorem fill_step {a : List UInt8} {i n : Nat} (h : i < n) (ha : i < a.length) : (a.take i ++ List.replicate (n - i) 0).set i (a.getD i 0) = a.take (i + 1) ++ List.replicate (n - (i + 1)) 0 := by
  have e : a.take (i + 1) = a.take i ++ [a.getD i 0] := by
    rw [List.take_add_one, List.getElem?_eq_getElem ha]
    simp only [Option.toList, List.getD, List.getElem?_eq_getElem ha, Option.getD_some]
  rw [show n - i = (n - (i + 1)) + 1 by omega, List.replicate_succ, List.set_append_right _ _ (by rw [List.length_take]; omega), List.length_take, Nat.min_eq_left (Nat.le_of_lt ha), Nat.sub_self, List.set_cons_zero, e, List.append_assoc]
  rfl
set_option maxRecDepth 10000
end Go.Proofs.YtahnjhppkgndiaaGreat
/- The draws' generator: from every state every other one of the same evenness is reached by an even number of steps. No program in sight. -/
set_option linter.unusedSimpArgs false
set_option linter.unusedVariables false
namespace Go.Proofs.YtahnjhppkgndiaaGreat
open Go Go.Vc
/-- A step, done again and again. -/
def lit (f : Nat → Nat) : Nat → Nat → Nat
  | 0, x => x
  | n + 1, x => lit f n (f x)
/-- A draw behind the code's end. -/
def lval (f : Nat → Nat) (x : Nat) : Nat := f x / 8589934592 % 16777216
/-- Two draws, two steps apart, both no multiples of three. -/
def lgood (f : Nat → Nat) (x : Nat) : Bool := lval f x % 3 != 0 && lval f (lit f 2 x) % 3 != 0
/-- A generator with a modulus M = 2 ^ 64 that goes through all numbers. -/
structure LG (f : Nat → Nat) (M : Nat) : Prop where
  hM : M = 18446744073709551616
  eq : ∃ t s : Nat, ∀ x, f x = ((1 + 4 * t) * x + (1 + 2 * s)) % M
  ev : ∃ x, x % 2 = 0 ∧ x < M ∧ lgood f x = true
  od : ∃ x, x % 2 = 1 ∧ x < M ∧ lgood f x = true
section
variable {f : Nat → Nat} {M : Nat}
theorem LG.pos (h : LG f M) : 0 < M := by rw [h.hM]; decide
theorem LG.lt (h : LG f M) (x : Nat) : f x < M := by
  obtain ⟨t, s, e⟩ := h.eq
  rw [e]
  exact Nat.mod_lt _ h.pos
theorem lit_lt (h : LG f M) : ∀ (n : Nat) {x : Nat}, x < M → lit f n x < M
  | 0, _, hx => hx
  | n + 1, x, _ => lit_lt h n (h.lt x)
theorem lit_add : ∀ (m n x : Nat), lit f (m + n) x = lit f n (lit f m x)
  | 0, n, x => by rw [Nat.zero_add, lit]
  | m + 1, n, x => by rw [show m + 1 + n = (m + n) + 1 by omega, lit, lit, lit_add m n]
theorem lit_pow (h : LG f M) : ∀ k, ∃ t s : Nat, ∀ x, lit f (2 ^ k) x = ((1 + 2 ^ (k + 2) * t) * x + 2 ^ k * (1 + 2 * s)) % M
  | 0 => by
    obtain ⟨t, s, e⟩ := h.eq
    refine ⟨t, s, fun x => ?_⟩
    rw [Nat.pow_zero, lit, lit, e]
    simp only [Nat.zero_add, Nat.reducePow, Nat.one_mul]
  | k + 1 => by
    obtain ⟨t, s, e⟩ := lit_pow h k
    refine ⟨t + 2 ^ (k + 1) * (t * t), s + 2 ^ k * t * (1 + 2 * s) , fun x => ?_⟩
    rw [show 2 ^ (k + 1) = 2 ^ k + 2 ^ k by rw [Nat.pow_succ]; omega, lit_add, e, e, Nat.add_mod, Nat.mul_mod, Nat.mod_mod, ← Nat.mul_mod, ← Nat.add_mod]
    congr 1
    rw [show 2 ^ (k + 2) = 2 ^ k * 4 by rw [Nat.pow_add], show 2 ^ (k + 1 + 2) = 2 ^ k * 8 by rw [show k + 1 + 2 = k + 3 by omega, Nat.pow_add], ← Nat.mul_two]
    generalize 2 ^ k = p
    grind
theorem LG.dvd (h : LG f M) {k : Nat} (hk : k ≤ 64) : 2 ^ k ∣ M := by
  rw [h.hM, show (18446744073709551616 : Nat) = 2 ^ k * 2 ^ (64 - k) by rw [← Nat.pow_add, show k + (64 - k) = 64 by omega]]
  exact Nat.dvd_mul_right _ _
theorem lit_jump (hf : LG f M) {k : Nat} (h : k + 1 ≤ 64) (z : Nat) : lit f (2 ^ k) z % 2 ^ (k + 1) = (z + 2 ^ k) % 2 ^ (k + 1) := by
  obtain ⟨t, s, e⟩ := lit_pow hf k
  rw [e, Nat.mod_mod_of_dvd _ (hf.dvd h)]
  rw [show (1 + 2 ^ (k + 2) * t) * z + 2 ^ k * (1 + 2 * s) = (z + 2 ^ k) + 2 ^ (k + 1) * (2 * t * z + s) by
    rw [show 2 ^ (k + 2) = 2 ^ k * 4 by rw [Nat.pow_add], show 2 ^ (k + 1) = 2 ^ k * 2 by rw [Nat.pow_succ]]
    generalize 2 ^ k = p
    grind]
  rw [Nat.add_mul_mod_self_left]
theorem lit_reach (hf : LG f M) {x y : Nat} (hxy : x % 2 = y % 2) : ∀ k, k + 1 ≤ 64 → ∃ n, n % 2 = 0 ∧ n < 2 ^ (k + 1) ∧ lit f n x % 2 ^ (k + 1) = y % 2 ^ (k + 1)
  | 0, _ => ⟨0, rfl, by decide, by simpa [lit] using hxy⟩
  | k + 1, h => by
    obtain ⟨n, h0, h1, h2⟩ := lit_reach hf hxy k (by omega)
    have hp : (2 : Nat) ^ (k + 1 + 1) = 2 ^ (k + 1) + 2 ^ (k + 1) := by rw [Nat.pow_succ 2 (k + 1)]; omega
    have he : (2 : Nat) ^ (k + 1) % 2 = 0 := by rw [Nat.pow_succ]; omega
    have hj := lit_jump hf (k := k + 1) h (lit f n x)
    have hpos : 0 < (2 : Nat) ^ (k + 1) := Nat.pow_pos (by decide)
    rw [hp] at hj ⊢
    generalize (2 : Nat) ^ (k + 1) = p at *
    have d1 := Nat.mod_add_div (lit f n x) (p + p)
    have key : lit f n x % (p + p) = y % (p + p) ∨ lit f n x % (p + p) = y % (p + p) + p ∨ lit f n x % (p + p) + p = y % (p + p) := by
      have a1 : lit f n x % (p + p) % p = lit f n x % p := Nat.mod_mod_of_dvd _ ⟨2, by omega⟩
      have a2 : y % (p + p) % p = y % p := Nat.mod_mod_of_dvd _ ⟨2, by omega⟩
      have b1 : lit f n x % (p + p) < p + p := Nat.mod_lt _ (by omega)
      have b2 : y % (p + p) < p + p := Nat.mod_lt _ (by omega)
      generalize lit f n x % (p + p) = u at *
      generalize y % (p + p) = v at *
      have c1 : u % p = if u < p then u else u - p := by
        split
        · rename_i hu; exact Nat.mod_eq_of_lt hu
        · rename_i hu; rw [Nat.mod_eq_sub_mod (by omega), Nat.mod_eq_of_lt (by omega)]
      have c2 : v % p = if v < p then v else v - p := by
        split
        · rename_i hu; exact Nat.mod_eq_of_lt hu
        · rename_i hu; rw [Nat.mod_eq_sub_mod (by omega), Nat.mod_eq_of_lt (by omega)]
      rw [a1.symm] at h2
      rw [a2.symm] at h2
      rw [c1, c2] at h2
      split at h2 <;> split at h2 <;> omega
    rcases key with key | key | key
    · exact ⟨n, h0, by omega, key⟩
    · refine ⟨n + p, by omega, by omega, ?_⟩
      rw [lit_add, hj, Nat.add_mod, key]
      have b2 : y % (p + p) < p + p := Nat.mod_lt _ (by omega)
      have b1 : lit f n x % (p + p) < p + p := Nat.mod_lt _ (by omega)
      rw [Nat.mod_eq_of_lt (show p < p + p by omega), show y % (p + p) + p + p = y % (p + p) + (p + p) by omega, Nat.add_mod_right, Nat.mod_mod]
    · refine ⟨n + p, by omega, by omega, ?_⟩
      rw [lit_add, hj, Nat.add_mod, Nat.mod_eq_of_lt (show p < p + p by omega), key, Nat.mod_mod]
theorem lit_all (hf : LG f M) {x y : Nat} (hx : x < M) (hy : y < M) (hxy : x % 2 = y % 2) : ∃ j, j < 9223372036854775808 ∧ lit f (2 * j) x = y := by
  obtain ⟨n, h0, h1, h2⟩ := lit_reach hf hxy 63 (by decide)
  have e : (2 : Nat) ^ (63 + 1) = M := by rw [hf.hM]
  have hM := hf.hM
  rw [e] at h1 h2
  rw [Nat.mod_eq_of_lt (lit_lt hf n hx), Nat.mod_eq_of_lt hy] at h2
  refine ⟨n / 2, by omega, ?_⟩
  rw [show 2 * (n / 2) = n by omega]
  exact h2
theorem lgood_ex (hf : LG f M) (x : Nat) (hx : x < M) : ∃ j, j < 9223372036854775808 ∧ lgood f (lit f (2 * j) x) = true := by
  rcases Nat.mod_two_eq_zero_or_one x with h | h
  · obtain ⟨y, h1, h2, h3⟩ := hf.ev
    obtain ⟨j, h4, h5⟩ := lit_all hf hx h2 (by omega)
    exact ⟨j, h4, by rw [h5]; exact h3⟩
  · obtain ⟨y, h1, h2, h3⟩ := hf.od
    obtain ⟨j, h4, h5⟩ := lit_all hf hx h2 (by omega)
    exact ⟨j, h4, by rw [h5]; exact h3⟩
theorem least_ex {p : Nat → Prop} : ∀ n, p n → ∃ j, p j ∧ j ≤ n ∧ ∀ i, i < j → ¬ p i := by
  intro n
  induction n using Nat.strongRecOn with
  | ind n ih =>
    intro h
    by_cases hx : ∃ i, i < n ∧ p i
    · obtain ⟨i, h1, h2⟩ := hx
      obtain ⟨j, h3, h4, h5⟩ := ih i h1 h2
      exact ⟨j, h3, by omega, h5⟩
    · exact ⟨n, h, Nat.le_refl _, fun i hi hp => hx ⟨i, hi, hp⟩⟩
theorem lleast_ex (f : Nat → Nat) (M x : Nat) : ∃ j, LG f M → x < M → (lgood f (lit f (2 * j) x) = true ∧ j < 9223372036854775808 ∧ ∀ i, i < j → ¬ lgood f (lit f (2 * i) x) = true) := by
  by_cases hx : LG f M ∧ x < M
  · obtain ⟨n, h1, h2⟩ := lgood_ex hx.1 x hx.2
    obtain ⟨j, h3, h4, h5⟩ := least_ex (p := fun j => lgood f (lit f (2 * j) x) = true) n h2
    exact ⟨j, fun _ _ => ⟨h3, by omega, h5⟩⟩
  · exact ⟨0, fun h h' => absurd ⟨h, h'⟩ hx⟩
noncomputable def lmu (f : Nat → Nat) (M x : Nat) : Nat := Classical.choose (lleast_ex f M x)
theorem lmu_spec (hf : LG f M) {x : Nat} (hx : x < M) : lgood f (lit f (2 * lmu f M x) x) = true ∧ lmu f M x < 9223372036854775808 ∧ ∀ i, i < lmu f M x → ¬ lgood f (lit f (2 * i) x) = true := Classical.choose_spec (lleast_ex f M x) hf hx
theorem lmu_le (hf : LG f M) {x j : Nat} (hx : x < M) (h : lgood f (lit f (2 * j) x) = true) : lmu f M x ≤ j := by
  rcases Nat.lt_or_ge j (lmu f M x) with h' | h'
  · exact absurd h ((lmu_spec hf hx).2.2 j h')
  · exact h'
/-- The rounds that are left, behind the code's end. -/
noncomputable def lleft (f : Nat → Nat) (M x : Nat) : Nat := if lval f x % 3 = 0 then lmu f M x + 1 else 0
theorem lleft_le (hf : LG f M) {x : Nat} (hx : x < M) : lleft f M x ≤ 9223372036854775808 := by
  have := (lmu_spec hf hx).2.1
  unfold lleft
  split <;> omega
theorem lleft_two (hf : LG f M) {x : Nat} (hx : x < M) (h : lval f x % 3 = 0) : lleft f M (lit f 2 x) + 1 ≤ lleft f M x := by
  have h1 := lmu_spec hf hx
  have hpos : 0 < lmu f M x := by
    rcases Nat.eq_zero_or_pos (lmu f M x) with e | e
    · rw [e] at h1
      have := h1.1
      unfold lgood at this
      simp [lit, h] at this
    · exact e
  have h2 : lmu f M (lit f 2 x) ≤ lmu f M x - 1 := lmu_le hf (lit_lt hf 2 hx) (by
    rw [← lit_add, show 2 + 2 * (lmu f M x - 1) = 2 * lmu f M x by omega]; exact h1.1)
  unfold lleft
  rw [if_pos h]
  split <;> omega
theorem lleft_four (hf : LG f M) {x : Nat} (hx : x < M) (h : lval f x % 3 = 0) : lleft f M (lit f 4 x) + 2 ≤ lleft f M x := by
  have h1 := lmu_spec hf hx
  have hpos : 0 < lmu f M x := by
    rcases Nat.eq_zero_or_pos (lmu f M x) with e | e
    · rw [e] at h1
      have := h1.1
      unfold lgood at this
      simp [lit, h] at this
    · exact e
  have e0 : lleft f M x = lmu f M x + 1 := by unfold lleft; rw [if_pos h]
  by_cases e : lmu f M x = 1
  · rw [e] at h1
    have h3 := h1.1
    unfold lgood at h3
    simp only [Bool.and_eq_true, bne_iff_ne, ne_eq] at h3
    have h4 := h3.2
    rw [← lit_add] at h4
    have h5 : lleft f M (lit f 4 x) = 0 := by unfold lleft; rw [if_neg h4]
    omega
  · have h2 : lmu f M (lit f 4 x) ≤ lmu f M x - 2 := lmu_le hf (lit_lt hf 4 hx) (by
      rw [← lit_add, show 4 + 2 * (lmu f M x - 2) = 2 * lmu f M x by omega]; exact h1.1)
    have h6 : lleft f M (lit f 4 x) ≤ lmu f M (lit f 4 x) + 1 := by unfold lleft; split <;> omega
    omega
end
end Go.Proofs.YtahnjhppkgndiaaGreat
/- 'StartOfDigest' of the program and of the reference compute the same digest. -/
set_option linter.unusedSimpArgs false
set_option linter.unusedVariables false
namespace Go.Proofs.YtahnjhppkgndiaaGreat
open Go Go.Vc
def startL (i : Nat) : List UInt8 := (List.range 32).map fun j => if j < i then UInt8.ofInt (17 * j) else 0
theorem startL_len (i : Nat) : (startL i).length = 32 := by simp [startL]
theorem startL_zero : List.replicate 32 0 = startL 0 := by decide
theorem startL_succ {i : Nat} (h : i < 32) : (startL i).set i (UInt8.ofInt (17 * i)) = startL (i + 1) := by
  apply List.ext_getElem (by simp [startL])
  intro j h1 h2
  simp [startL] at h1 h2
  simp only [startL, List.getElem_set, List.getElem_map, List.getElem_range]
  split <;> rename_i e
  · subst e; simp
  · simp only [show (j < i + 1) = (j < i) from propext (by omega)]
set_option maxRecDepth 10000
theorem c_impl_StartOfDigest : LC Tryz.prog 36 [] [] (fun v hp => v = .a (bs (startL 32)) ∧ hp = []) := by
  refine LC_of (X := XX (fun _ => .nil) (fun _ => []) [15, 71, 72, 73, 79, 80, 87, 90, 91, 93, 99, 119, 137, 176, 177, 203, 204, 212, 219] 0) envOK Tryz.func36 (by kernel_rfl) (by kernel_rfl) rfl (Nat.le_of_ble_eq_true (by kernel_rfl)) ?_
  simp only [kFun, Tryz.f36, List.length_nil, List.length_cons, Nat.sub_zero, Nat.reduceSub, Nat.reduceAdd, List.nil_append, List.cons_append, List.replicate_succ, List.replicate_zero]
  simp only [XX, ↓VC, VP, TT, Nat.reduceEqDiff, reduceCtorEq, Nat.reduceAdd, Nat.reduceSub, Nat.reduceLT, Nat.reduceMul, Nat.reducePow, Nat.reduceLeDiff, Int.reduceToNat, Int.reduceLE, Int.reduceLT, Int.reducePow]
  refine kLoop_of (fun i : Nat => ([.p 0 0, .p 1 0, .j, .j, .c (.int .i64 i), .j, .j, .j, .j, .j, .j, .j, .j, .j], [⟨true, bs (List.replicate 32 0)⟩, ⟨true, bs (startL i)⟩])) (fun i => 32 - i) (fun i => i ≤ 32) 0 (by omega) ⟨[0, 1], ?_⟩ ?_
  · simp [-List.reduceReplicate, LES, startL_zero]
  · intro i hi
    simp only [↓VC, VP, TT, Nat.reduceEqDiff, reduceCtorEq, Nat.reduceAdd, Nat.reduceSub, Nat.reduceLT, Nat.reduceMul, Nat.reducePow, Nat.reduceLeDiff, Int.reduceToNat, Int.reduceLE, Int.reduceLT, Int.reducePow, startL_len]
    refine ⟨fun h => ⟨by omega, by omega, i + 1, by omega, by omega, [0, 1], ?_⟩, fun h => ⟨_, _, [], ⟨rfl, rfl⟩, ?_⟩⟩
    · rw [startL_succ (by omega), wrap_i64 (by omega) (by omega)]
      simp [-List.reduceReplicate, LES]
    · obtain rfl : i = 32 := by omega
      simp [-List.reduceReplicate, LES]
theorem c_spec_l08Start : LC Tryz.prog 105 [] [] (fun v hp => v = .a (bs (startL 32)) ∧ hp = []) := by
  refine LC_of (X := XX (fun _ => .nil) (fun _ => []) [15, 71, 72, 73, 79, 80, 87, 90, 91, 93, 99, 119, 137, 176, 177, 203, 204, 212, 219] 0) envOK Tryz.func105 (by kernel_rfl) (by kernel_rfl) rfl (Nat.le_of_ble_eq_true (by kernel_rfl)) ?_
  simp only [kFun, Tryz.f105, List.length_nil, List.length_cons, Nat.sub_zero, Nat.reduceSub, Nat.reduceAdd, List.nil_append, List.cons_append, List.replicate_succ, List.replicate_zero]
  simp only [XX, ↓VC, VP, TT, Nat.reduceEqDiff, reduceCtorEq, Nat.reduceAdd, Nat.reduceSub, Nat.reduceLT, Nat.reduceMul, Nat.reducePow, Nat.reduceLeDiff, Int.reduceToNat, Int.reduceLE, Int.reduceLT, Int.reducePow]
  refine kLoop_of (fun i : Nat => ([.p 0 0, .p 1 0, .c (.int .i64 i), .j, .j, .j, .j, .j, .j, .j, .j, .j, .j, .j, .j], [⟨true, bs (List.replicate 32 0)⟩, ⟨true, bs (startL i)⟩])) (fun i => 32 - i) (fun i => i ≤ 32) 0 (by omega) ⟨[0, 1], ?_⟩ ?_
  · simp [-List.reduceReplicate, LES, startL_zero]
  · intro i hi
    simp only [↓VC, VP, TT, Nat.reduceEqDiff, reduceCtorEq, Nat.reduceAdd, Nat.reduceSub, Nat.reduceLT, Nat.reduceMul, Nat.reducePow, Nat.reduceLeDiff, Int.reduceToNat, Int.reduceLE, Int.reduceLT, Int.reducePow, startL_len]
    refine ⟨fun h => ⟨by omega, by omega, by omega, i + 1, by omega, by omega, [0, 1], ?_⟩, fun h => ⟨_, _, [], ⟨rfl, rfl⟩, ?_⟩⟩
    · have e : UInt8.ofInt ((IntKind.i64.wrap (17 * (i : Int))).tmod 256) = UInt8.ofInt (17 * i) := by
        rw [wrap_i64 (by omega) (by omega)]; apply ofInt_eq; rw [Int.tmod_eq_emod_of_nonneg (by omega)]; omega
      rw [e, startL_succ (by omega), wrap_i64 (n := (i : Int) + 1) (by omega) (by omega)]
      simp [-List.reduceReplicate, LES]
    · obtain rfl : i = 32 := by omega
      simp [-List.reduceReplicate, LES]
theorem c_spec_StartOfDigest : LC Tryz.prog 37 [] [] (fun v hp => v = .a (bs (startL 32)) ∧ hp = []) := by
  refine LC_of (X := XX (fun _ => .nil) (fun _ => []) [15, 71, 72, 73, 79, 80, 87, 90, 91, 93, 99, 119, 137, 176, 177, 203, 204, 212, 219] 0) envOK Tryz.func37 (by kernel_rfl) (by kernel_rfl) rfl (Nat.le_of_ble_eq_true (by kernel_rfl)) ?_
  simp only [kFun, Tryz.f37, List.length_nil, List.length_cons, Nat.sub_zero, Nat.reduceSub, Nat.reduceAdd, List.nil_append, List.cons_append, List.replicate_succ, List.replicate_zero]
  simp only [XX, ↓VC, VP, TT, Nat.reduceEqDiff, reduceCtorEq, Nat.reduceAdd, Nat.reduceSub, Nat.reduceLT, Nat.reduceMul, Nat.reducePow, Nat.reduceLeDiff, Int.reduceToNat, Int.reduceLE, Int.reduceLT, Int.reducePow]
  refine kCall_val c_spec_l08Start (by rfl) [] (by simp [CALL]) (by simp [CALL]) (by simp [CALL]) (by simp) ?_
  simp only [CALL, ↓VC, VP, TT, Nat.reduceEqDiff, reduceCtorEq, Nat.reduceAdd, Nat.reduceSub, Nat.reduceLT, Nat.reduceMul, Nat.reducePow, Nat.reduceLeDiff, Int.reduceToNat, Int.reduceLE, Int.reduceLT, Int.reducePow, startL_len]
  refine ⟨_, _, [], ⟨rfl, rfl⟩, ?_⟩
  simp [-List.reduceReplicate, LES]
end Go.Proofs.YtahnjhppkgndiaaGreat

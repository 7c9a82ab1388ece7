import Derived.Test.YtahnjhppkgndiaaGreatVcgQ
import Derived.Test.YtahnjhppkgndiaaGreatVcgO
import Derived.Test.YtahnjhppkgndiaaGreatEnv
import Derived.Test.YtahnjhppkgndiaaGreatVcgU
import Derived.Test.YtahnjhppkgndiaaGreatVcgW
/- A block of bytes taken whole. -/
namespace Go.Proofs.YtahnjhppkgndiaaGreat
open Go Go.Vc
theorem tk {l : List UInt8} : List.take l.length (bs l) = bs l := take_all (bs_length l).symm
/-- Side conditions of calls, and the goal behind a call: the rules, bundled. -/
theorem SCB : type_of% (And.intro @cellsAt.eq_1 <| And.intro @tk <| And.intro @take_room <| And.intro @bs_length <| @bs_nil) := And.intro @cellsAt.eq_1 <| And.intro @tk <| And.intro @take_room <| And.intro @bs_length <| @bs_nil
theorem GOB : type_of% (And.intro @Bool.not_true @Bool.not_false) := And.intro @Bool.not_true @Bool.not_false
theorem tkn {l : List UInt8} {n : Nat} (h : l.length = n) : List.take n (bs l) = bs l := take_all (by rw [bs_length, h])
end Go.Proofs.YtahnjhppkgndiaaGreat
/- Products in a field of 256 elements: by shifting and reducing step by step, and by reducing the whole product: the same bytes. No program in sight. -/
set_option linter.unusedSimpArgs false
set_option linter.unusedVariables false
namespace Go.Proofs.YtahnjhppkgndiaaGreat
open Go Go.Vc
theorem bitI_xor64 {x y : Nat} (hx : x < 9223372036854775808) (hy : y < 9223372036854775808) : bitI .xor .i64 (x : Int) (y : Int) = ((x ^^^ y : Nat) : Int) := by
  unfold bitI
  have h : x ^^^ y < 2 ^ 63 := Nat.xor_lt_two_pow (by omega) (by omega)
  show IntKind.i64.wrap ((BitVec.ofInt 64 (x : Int) ^^^ BitVec.ofInt 64 (y : Int)).toNat : Int) = _
  rw [BitVec.ofInt_natCast, BitVec.ofInt_natCast, BitVec.toNat_xor, BitVec.toNat_ofNat, BitVec.toNat_ofNat, Nat.mod_eq_of_lt (by omega), Nat.mod_eq_of_lt (by omega)]
  exact wrap_i64 (by omega) (by omega)
theorem bitI_and1 {x : Nat} (hx : x < 9223372036854775808) : bitI .and .i64 (x : Int) 1 = ((x % 2 : Nat) : Int) := by
  unfold bitI
  show IntKind.i64.wrap ((BitVec.ofInt 64 (x : Int) &&& BitVec.ofInt 64 ((1 : Nat) : Int)).toNat : Int) = _
  rw [BitVec.ofInt_natCast, BitVec.ofInt_natCast, BitVec.toNat_and, BitVec.toNat_ofNat, BitVec.toNat_ofNat, Nat.mod_eq_of_lt (by omega), Nat.mod_eq_of_lt (by omega), Nat.and_one_is_mod]
  exact wrap_i64 (by omega) (by omega)
theorem bitI_and1_8 (x : Nat) (hx : x < 256) : bitI .and .u8 (x : Int) 1 = ((x % 2 : Nat) : Int) := by
  have h : x = (UInt8.ofNat x).toNat := by rw [UInt8.toNat_ofNat']; omega
  rw [h, show (1 : Int) = ((1 : UInt8).toNat : Int) from rfl, bitI_and8, UInt8.toNat_and]
  show ((_ &&& 1 : Nat) : Int) = _
  rw [Nat.and_one_is_mod]
theorem shr_nat (x i : Nat) : (x : Int).fdiv (2 ^ i) = ((x / 2 ^ i : Nat) : Int) := by
  rw [Int.fdiv_eq_ediv_of_nonneg _ (by exact Int.le_of_lt (Int.pow_pos (by decide)))]
  rw [show (2 : Int) ^ i = ((2 ^ i : Nat) : Int) by simp]
  exact (Int.natCast_ediv x (2 ^ i)).symm
theorem bit_mod (x i : Nat) : (((x / 2 ^ i % 2 : Nat) : Int) == 1) = x.testBit i := by
  rw [Nat.testBit_eq_decide_div_mod_eq]; rcases Nat.mod_two_eq_zero_or_one (x / 2 ^ i) with h | h <;> rw [h] <;> rfl

def red (m x : Nat) : Nat := if x < 256 then x else x ^^^ m
def nowN (m a : Nat) : Nat → Nat
  | 0 => a
  | i + 1 => red m (2 * nowN m a i)
def tmP (m a b : Nat) : Nat → Nat
  | 0 => 0
  | i + 1 => tmP m a b i ^^^ (if b.testBit i then nowN m a i else 0)
def prodP (a b : Nat) : Nat → Nat
  | 0 => 0
  | i + 1 => prodP a b i ^^^ (if b.testBit i then a <<< i else 0)
def stepR (m d i x : Nat) : Nat := if x.testBit i then x ^^^ (m <<< (i - d)) else x
def resP (m d x : Nat) : Nat → Nat
  | 0 => x
  | j + 1 => stepR m d (15 - j) (resP m d x j)

theorem bit8 {y : Nat} (h : y < 512) : y.testBit 8 = decide (256 ≤ y) := by
  rw [Nat.testBit_eq_decide_div_mod_eq]; simp only [decide_eq_decide]; rw [show (2 : Nat) ^ 8 = 256 from rfl]; omega
theorem xor256 {x y : Nat} (hx : 256 ≤ x) (hx' : x < 512) (hy : 256 ≤ y) (hy' : y < 512) : x ^^^ y < 256 := by
  have h : x ^^^ y < 2 ^ 9 := Nat.xor_lt_two_pow (by omega) (by omega)
  have hb : (x ^^^ y).testBit 8 = false := by rw [Nat.testBit_xor, bit8 hx', bit8 hy']; simp [hx, hy]
  rw [bit8 (by omega)] at hb
  have := of_decide_eq_false hb
  omega
theorem red_lt {m x : Nat} (hm : 256 ≤ m) (hm' : m < 512) (hx : x < 512) : red m x < 256 := by
  unfold red; split
  · assumption
  · exact xor256 (by omega) hx hm hm'
theorem nowN_lt {m a : Nat} (hm : 256 ≤ m) (hm' : m < 512) (ha : a < 256) : ∀ i, nowN m a i < 256
  | 0 => ha
  | i + 1 => red_lt hm hm' (by have := nowN_lt hm hm' ha i; omega)
theorem tmP_lt {m a b : Nat} (hm : 256 ≤ m) (hm' : m < 512) (ha : a < 256) : ∀ i, tmP m a b i < 256
  | 0 => by simp [tmP]
  | i + 1 => by
    have h1 := tmP_lt (b := b) hm hm' ha i
    have h2 := nowN_lt hm hm' ha i
    unfold tmP
    split
    · exact Nat.xor_lt_two_pow (n := 8) h1 h2
    · simpa using h1
theorem xorA (x y s : Nat) : (x ^^^ s) ^^^ (y ^^^ s) = x ^^^ y := by
  apply Nat.eq_of_testBit_eq; intro j; simp only [Nat.testBit_xor]
  cases x.testBit j <;> cases y.testBit j <;> cases s.testBit j <;> rfl
theorem xorB (x y s : Nat) : (x ^^^ s) ^^^ y = (x ^^^ y) ^^^ s := by
  apply Nat.eq_of_testBit_eq; intro j; simp only [Nat.testBit_xor]
  cases x.testBit j <;> cases y.testBit j <;> cases s.testBit j <;> rfl
theorem stepR_xor (m d i x y : Nat) : stepR m d i (x ^^^ y) = stepR m d i x ^^^ stepR m d i y := by
  unfold stepR
  rw [Nat.testBit_xor]
  cases x.testBit i <;> cases y.testBit i
  · rfl
  · exact Nat.xor_assoc _ _ _
  · exact (xorB _ _ _).symm
  · exact (xorA _ _ _).symm
theorem resP_xor (m d x y : Nat) : ∀ j, resP m d (x ^^^ y) j = resP m d x j ^^^ resP m d y j
  | 0 => rfl
  | j + 1 => by unfold resP; rw [resP_xor m d x y j, stepR_xor]
theorem resP_zero (m d : Nat) : ∀ j, resP m d 0 j = 0
  | 0 => rfl
  | j + 1 => by unfold resP; rw [resP_zero m d j]; simp [stepR]
theorem testBit_hi {x i j : Nat} (h : x < 2 ^ i) (hj : i ≤ j) : x.testBit j = false :=
  Nat.testBit_lt_two_pow (Nat.lt_of_lt_of_le h (Nat.pow_le_pow_right (by decide) hj))
theorem resP_small (m : Nat) {a : Nat} (ha : a < 256) : ∀ j, j ≤ 8 → resP m 8 a j = a
  | 0, _ => rfl
  | j + 1, h => by
    unfold resP; rw [resP_small m ha j (by omega)]
    unfold stepR; rw [testBit_hi (i := 8) ha (by omega)]; simp
theorem two_mul_shift (x k : Nat) : 2 * (x <<< k) = x <<< (k + 1) := by
  rw [Nat.shiftLeft_eq, Nat.shiftLeft_eq, Nat.pow_succ, Nat.mul_comm 2, Nat.mul_assoc]
theorem two_mul_xor (x y : Nat) : 2 * (x ^^^ y) = (2 * x) ^^^ (2 * y) := by
  have h : ∀ z : Nat, 2 * z = z <<< 1 := fun z => by rw [Nat.shiftLeft_eq]; omega
  rw [h, h, h, Nat.shiftLeft_xor_distrib]
theorem stepR_two (m i y : Nat) (hi : 8 ≤ i) : stepR m 8 (i + 1) (2 * y) = 2 * stepR m 8 i y := by
  unfold stepR
  rw [Nat.testBit_succ, show 2 * y / 2 = y by omega]
  split
  · rw [two_mul_xor, two_mul_shift, show i + 1 - 8 = i - 8 + 1 by omega]
  · rfl
theorem resP_two (m : Nat) {y : Nat} (hy : y.testBit 15 = false) : ∀ j, j ≤ 7 → resP m 8 (2 * y) j = 2 * resP m 8 y (j + 1)
  | 0, _ => by simp [resP, stepR, hy]
  | j + 1, h => by
    rw [resP, resP_two m hy j (by omega), show 15 - j = (14 - j) + 1 by omega, stepR_two m _ _ (by omega)]
    rw [resP.eq_2 m 8 y (j + 1), show 15 - (j + 1) = 14 - j by omega]
theorem resP_two8 {m y : Nat} (hy : y.testBit 15 = false) (hr : resP m 8 y 8 < 256) : resP m 8 (2 * y) 8 = red m (2 * resP m 8 y 8) := by
  rw [resP, resP_two m hy 7 (by omega)]
  show stepR m 8 8 (2 * resP m 8 y 8) = _
  unfold stepR red
  rw [bit8 (by omega)]
  by_cases h : 256 ≤ 2 * resP m 8 y 8
  · rw [if_pos (by simpa using h), if_neg (by omega)]; simp
  · rw [if_neg (by simpa using h), if_pos (by omega)]
theorem resP_shift {m a : Nat} (hm : 256 ≤ m) (hm' : m < 512) (ha : a < 256) : ∀ i, i < 8 → resP m 8 (a <<< i) 8 = nowN m a i
  | 0, _ => by rw [Nat.shiftLeft_zero, resP_small m ha 8 (by omega)]; rfl
  | i + 1, h => by
    have ih := resP_shift hm hm' ha i (by omega)
    have hb : (a <<< i).testBit 15 = false := by
      refine testBit_hi (i := 15) ?_ (by omega)
      rw [Nat.shiftLeft_eq]
      have : 2 ^ i ≤ 2 ^ 6 := Nat.pow_le_pow_right (by decide) (by omega)
      calc a * 2 ^ i ≤ a * 2 ^ 6 := Nat.mul_le_mul_left _ this
        _ < 2 ^ 15 := by omega
    have hr : resP m 8 (a <<< i) 8 < 256 := by rw [ih]; exact nowN_lt hm hm' ha i
    rw [← two_mul_shift, resP_two8 hb hr, ih]; rfl
theorem times_eq {m a b : Nat} (hm : 256 ≤ m) (hm' : m < 512) (ha : a < 256) : ∀ i, i ≤ 8 → resP m 8 (prodP a b i) 8 = tmP m a b i
  | 0, _ => resP_zero m 8 8
  | i + 1, h => by
    unfold prodP tmP
    rw [resP_xor, times_eq hm hm' ha i (by omega)]
    split
    · rw [resP_shift hm hm' ha i (by omega)]
    · rw [resP_zero]
theorem prodP_lt {a b : Nat} (ha : a < 256) : ∀ i, i ≤ 8 → prodP a b i < 32768
  | 0, _ => by simp [prodP]
  | i + 1, h => by
    have h1 := prodP_lt (b := b) ha i (by omega)
    unfold prodP
    have h2 : (if b.testBit i then a <<< i else 0) < 2 ^ 15 := by
      split
      · rw [Nat.shiftLeft_eq]
        have : 2 ^ i ≤ 2 ^ 7 := Nat.pow_le_pow_right (by decide) (by omega)
        calc a * 2 ^ i ≤ a * 2 ^ 7 := Nat.mul_le_mul_left _ this
          _ < 2 ^ 15 := by omega
      · decide
    exact Nat.xor_lt_two_pow (n := 15) h1 h2
/-- The product of two elements. -/
def tmul (m : Nat) (a b : UInt8) : UInt8 := UInt8.ofNat (tmP m a.toNat b.toNat 8)
theorem tmul_nat {m : Nat} (hm : 256 ≤ m) (hm' : m < 512) (a b : UInt8) : (tmul m a b).toNat = tmP m a.toNat b.toNat 8 := by
  have := tmP_lt (b := b.toNat) hm hm' a.toNat_lt 8
  unfold tmul; rw [UInt8.toNat_ofNat']; omega
/-- From some place on no bit is 1. -/
theorem tmP_done {m a b : Nat} {i : Nat} (hi : b < 2 ^ i) : ∀ k, tmP m a b (i + k) = tmP m a b i
  | 0 => rfl
  | k + 1 => by
    rw [← Nat.add_assoc, tmP, tmP_done hi k, testBit_hi hi (by omega)]; simp
theorem tmP_all {m a b i : Nat} (hb : b / 2 ^ i = 0) (hi : i ≤ 8) : tmP m a b i = tmP m a b 8 := by
  have h : b < 2 ^ i := by
    rcases Nat.div_eq_zero_iff.1 hb with h | h
    · exact absurd h (Nat.pos_iff_ne_zero.1 (Nat.two_pow_pos i))
    · exact h
  have := tmP_done (m := m) (a := a) h (8 - i)
  rw [show i + (8 - i) = 8 by omega] at this
  exact this.symm
theorem tmul_xor (m : Nat) (a b c : UInt8) : tmul m a (b ^^^ c) = tmul m a b ^^^ tmul m a c := by
  have key : ∀ i, tmP m a.toNat (b ^^^ c).toNat i = tmP m a.toNat b.toNat i ^^^ tmP m a.toNat c.toNat i := fun i => by
    induction i with
    | zero => simp [tmP]
    | succ i ih =>
      unfold tmP
      rw [ih, UInt8.toNat_xor, Nat.testBit_xor]
      cases b.toNat.testBit i <;> cases c.toNat.testBit i
      · simp
      · simp [Nat.xor_assoc]
      · simp [xorB]
      · simp [xorA]
  unfold tmul
  rw [key]
  apply UInt8.toNat_inj.1
  rw [UInt8.toNat_xor]
  simp only [UInt8.toNat_ofNat']
  rw [show (2 : Nat) ^ 8 = 2 ^ 8 from rfl, Nat.xor_mod_two_pow]
theorem tmul_zero (m : Nat) (b : UInt8) : tmul m 0 b = 0 := by
  have h0 : ∀ i, nowN m 0 i = 0 := fun i => by
    induction i with
    | zero => rfl
    | succ i ih => unfold nowN; rw [ih]; rfl
  have h1 : ∀ i, tmP m 0 b.toNat i = 0 := fun i => by
    induction i with
    | zero => rfl
    | succ i ih => unfold tmP; rw [ih, h0]; simp
  unfold tmul
  show UInt8.ofNat (tmP m 0 b.toNat 8) = 0
  rw [h1]; rfl
theorem tmul_zero' (m : Nat) (a : UInt8) : tmul m a 0 = 0 := by
  have h1 : ∀ i, tmP m a.toNat 0 i = 0 := fun i => by
    induction i with
    | zero => rfl
    | succ i ih => unfold tmP; rw [ih]; simp
  unfold tmul
  show UInt8.ofNat (tmP m a.toNat 0 8) = 0
  rw [h1]; rfl
/-- Powers, by squares: after i rounds. -/
def pwS (m : Nat) (k : Nat) : Nat → UInt8 × UInt8 → UInt8 × UInt8
  | 0, s => s
  | i + 1, s => let t := pwS m k i s; (if (k / 2 ^ i) % 2 = 1 then tmul m t.1 t.2 else t.1, tmul m t.2 t.2)
def pw254 (m : Nat) (a : UInt8) : UInt8 := (pwS m 254 8 (1, a)).1
end Go.Proofs.YtahnjhppkgndiaaGreat
/- The laws' own helpers over slices of bytes: copies, comparison, marks. -/
set_option linter.unusedSimpArgs false
set_option linter.unusedVariables false
namespace Go.Proofs.YtahnjhppkgndiaaGreat
open Go Go.Vc
theorem vGet_roomB {L : List UInt8} {X : List V} {i : Nat} {k : V → Prop} (h : i < L.length) : vGet (bs L ++ X) i k = k (.c (.int .u8 ((L.getD i 0).toNat : Int))) := by
  unfold vGet
  have h1 : i < (bs L).length := by rw [bs_length]; exact h
  rw [show (bs L ++ X).getD i .j = (bs L).getD i .j by simp only [List.getD, List.getElem?_append_left h1], bs_getD h]
  apply propext
  simp only [List.length_append, bs_length]
  exact ⟨fun h => h.2, fun h2 => ⟨by omega, h2⟩⟩
set_option maxRecDepth 10000
end Go.Proofs.YtahnjhppkgndiaaGreat
/- 'AgreeingBits' of the program and of the reference compute the same number. -/
set_option linter.unusedSimpArgs false
set_option linter.unusedVariables false
namespace Go.Proofs.YtahnjhppkgndiaaGreat
open Go Go.Vc
def onesF : Nat → Nat → Nat
  | 0, _ => 0
  | k + 1, n => n % 2 + onesF k (n / 2)
theorem onesF_step : ∀ n, n < 256 → onesF 8 n = n % 2 + onesF 8 (n / 2) := by decide +kernel
theorem onesF_le : ∀ n, n < 256 → onesF 8 n ≤ 8 := by decide +kernel
def pop (u : UInt8) : Nat := onesF 8 u.toNat
theorem pop_le (u : UInt8) : pop u ≤ 8 := onesF_le _ u.toNat_lt
theorem wrap_tab {L : List UInt8} (u : UInt8) (h : ((List.range 256).all fun n => (L.getD n 0).toNat == onesF 8 n) = true) : IntKind.i64.wrap ((L.getD u.toNat 0).toNat : Int) = ((pop u : Nat) : Int) := by
  have h1 := List.all_eq_true.1 h u.toNat (by simpa using u.toNat_lt)
  rw [beq_iff_eq] at h1
  have h2 := onesF_le u.toNat u.toNat_lt
  rw [h1, wrap_i64 (by omega) (by omega)]; rfl
set_option maxRecDepth 10000
theorem c_spec_l03Ones (u : UInt8) : LC Tryz.prog 101 [.c (.int .i64 (u.toNat : Int))] [] (fun v hp => v = .c (.int .i64 (pop u : Nat)) ∧ hp = []) := by
  refine LC_of (X := XX (fun _ => .nil) (fun _ => []) [15, 71, 72, 73, 79, 80, 87, 90, 91, 93, 99, 119, 137, 176, 177, 203, 204, 212, 219] 0) envOK Tryz.func101 (by kernel_rfl) (by kernel_rfl) rfl (Nat.le_of_ble_eq_true (by kernel_rfl)) ?_
  simp only [kFun, Tryz.f101, List.length_nil, List.length_cons, Nat.sub_zero, Nat.reduceSub, Nat.reduceAdd, List.nil_append, List.cons_append, List.replicate_succ, List.replicate_zero]
  simp only [XX, ↓VC, VP, TT, Nat.reduceEqDiff, reduceCtorEq, Nat.reduceAdd, Nat.reduceSub, Nat.reduceLT, Nat.reduceMul, Nat.reducePow, Nat.reduceLeDiff, Int.reduceToNat, Int.reduceLE, Int.reduceLT, Int.reducePow]
  refine kLoop_of (fun s : Nat × Nat => ([.c (.int .i64 (s.1 : Nat)), .j, .j, .c (.int .i64 (s.2 : Nat)), .j, .j, .j, .j, .j, .j, .j, .j, .j], [])) (fun s => s.1) (fun s => s.1 < 256 ∧ s.2 + onesF 8 s.1 = pop u) (u.toNat, 0) ⟨u.toNat_lt, by simp [pop]⟩ ⟨[], by simp [-List.reduceReplicate, LES]⟩ ?_
  rintro ⟨n, o⟩ ⟨hn, hp⟩
  simp only [↓VC, VP, TT, Nat.reduceEqDiff, reduceCtorEq, Nat.reduceAdd, Nat.reduceSub, Nat.reduceLT, Nat.reduceMul, Nat.reducePow, Nat.reduceLeDiff, Int.reduceToNat, Int.reduceLE, Int.reduceLT, Int.reducePow]
  simp only at hn hp
  have hle := pop_le u
  have e1 : (n : Int).tdiv 2 = ((n / 2 : Nat) : Int) := by rw [Int.tdiv_eq_ediv_of_nonneg (by omega)]; omega
  have e2 : (n : Int).tmod 2 = ((n % 2 : Nat) : Int) := by rw [Int.tmod_eq_emod_of_nonneg (by omega)]; omega
  rw [e1, e2]
  refine ⟨fun h => ⟨by omega, by omega, (n / 2, o + n % 2), ⟨by omega, ?_⟩, ?_, [], ?_⟩, fun h => ⟨_, _, [], ⟨rfl, rfl⟩, ?_⟩⟩
  · rw [onesF_step n hn] at hp; simp only; omega
  · simp only; omega
  · rw [wrap_i64 (by omega) (by omega), wrap_i64 (by omega) (by omega)]
    simp [-List.reduceReplicate, LES]
  · obtain rfl : n = 0 := by omega
    rw [show onesF 8 0 = 0 by decide] at hp
    simp [-List.reduceReplicate, LES, ← hp]
theorem c_bits_OnesCount8 (u : UInt8) : LC Tryz.prog 100 [.c (.int .u8 (u.toNat : Int))] [] (fun v hp => v = .c (.int .i64 (pop u : Nat)) ∧ hp = []) := by
  refine LC_of (X := XX (fun _ => .nil) (fun _ => []) [15, 71, 72, 73, 79, 80, 87, 90, 91, 93, 99, 119, 137, 176, 177, 203, 204, 212, 219] 0) envOK Tryz.func100 (by kernel_rfl) (by kernel_rfl) rfl (Nat.le_of_ble_eq_true (by kernel_rfl)) ?_
  simp only [kFun, Tryz.f100, List.length_nil, List.length_cons, Nat.sub_zero, Nat.reduceSub, Nat.reduceAdd, List.nil_append, List.cons_append, List.replicate_succ, List.replicate_zero]
  simp only [XX, ↓VC, VP, TT, Nat.reduceEqDiff, reduceCtorEq, Nat.reduceAdd, Nat.reduceSub, Nat.reduceLT, Nat.reduceMul, Nat.reducePow, Nat.reduceLeDiff, Int.reduceToNat, Int.reduceLE, Int.reduceLT, Int.reducePow]
  refine ⟨u8_lt u, _, _, [], ⟨rfl, rfl⟩, ?_⟩
  rw [wrap_tab]
  · simp [-List.reduceReplicate, LES]
  · decide +kernel
def xorPop (a b : List UInt8) (i : Nat) : Nat := pop (a.getD i 0 ^^^ b.getD i 0)
def agree (a b : List UInt8) : Nat → Int
  | 0 => 256
  | i + 1 => agree a b i - xorPop a b i
theorem agree_le (a b : List UInt8) : ∀ i : Nat, i ≤ 32 → (256 - 8 * ((i : Nat) : Int)) ≤ agree a b i ∧ agree a b i ≤ 256
  | 0, _ => by simp [agree]
  | i + 1, h => by
    have := agree_le a b i (by omega)
    have h2 := pop_le (a.getD i 0 ^^^ b.getD i 0)
    simp only [agree, xorPop]; omega
theorem c_spec_AgreeingBits (a b : List UInt8) (ha : a.length = 32) (hb : b.length = 32) : LC Tryz.prog 31 [.a (bs a), .a (bs b)] [] (fun v hp => v = .c (.int .i64 (agree a b 32)) ∧ hp = []) := by
  refine LC_of (X := XX (fun | 5 => .one 0 (.one 1 (.one 2 (.one 3 (.one 4 (.one 5 (.one 6 (.one 7 (.one 8 (.one 9 (.one 10 (.one 11 .nil))))))))))) | _ => .nil) (fun _ => []) [15, 71, 72, 73, 79, 80, 87, 90, 91, 93, 99, 119, 137, 176, 177, 203, 204, 212, 219] 0) envOK Tryz.func31 (by kernel_rfl) (by kernel_rfl) rfl (Nat.le_of_ble_eq_true (by kernel_rfl)) ?_
  simp only [kFun, Tryz.f31, List.length_nil, List.length_cons, Nat.sub_zero, Nat.reduceSub, Nat.reduceAdd, List.nil_append, List.cons_append, List.replicate_succ, List.replicate_zero]
  simp only [XX, ↓VC, VP, TT, Nat.reduceEqDiff, reduceCtorEq, Nat.reduceAdd, Nat.reduceSub, Nat.reduceLT, Nat.reduceMul, Nat.reducePow, Nat.reduceLeDiff, Int.reduceToNat, Int.reduceLE, Int.reduceLT, Int.reducePow]
  refine kLoop_of (fun i : Nat => ([.a (bs a), .a (bs b), .p 0 0, .p 1 0, .j, .c (.int .i64 (agree a b i)), .c (.int .i64 i), .j, .j, .j, .j, .j, .j, .j, .j, .j, .j, .j, .j, .j, .j, .j, .j], [⟨true, bs a⟩, ⟨true, bs b⟩])) (fun i => 32 - i) (fun i => i ≤ 32) 0 (by omega) ⟨[0, 1], by simp [-List.reduceReplicate, LES, agree]⟩ ?_
  intro i hi
  simp only [↓VC, VP, TT, Nat.reduceEqDiff, reduceCtorEq, Nat.reduceAdd, Nat.reduceSub, Nat.reduceLT, Nat.reduceMul, Nat.reducePow, Nat.reduceLeDiff, Int.reduceToNat, Int.reduceLE, Int.reduceLT, Int.reducePow, ha, hb]
  have hx := u8_lt (a.getD i 0 ^^^ b.getD i 0)
  have hp := pop_le (a.getD i 0 ^^^ b.getD i 0)
  refine ⟨fun h => ⟨by omega, by omega, by omega, by omega, ?_⟩, fun h => ⟨_, _, [], ⟨rfl, rfl⟩, ?_⟩⟩
  · rw [wrap_i64 (by omega) (by omega)]
    refine kCall_val (c_spec_l03Ones (a.getD i 0 ^^^ b.getD i 0)) (by rfl) [] (by simp [CALL]) (by simp [CALL]) (by simp [CALL]) (by simp) ?_
    simp only [CALL, ↓VC, VP, TT, Nat.reduceEqDiff, reduceCtorEq, Nat.reduceAdd, Nat.reduceSub, Nat.reduceLT, Nat.reduceMul, Nat.reducePow, Nat.reduceLeDiff, Int.reduceToNat, Int.reduceLE, Int.reduceLT, Int.reducePow]
    have := agree_le a b i hi
    refine ⟨i + 1, by omega, by omega, [0, 1], ?_⟩
    rw [wrap_i64 (by omega) (by omega), wrap_i64 (by omega) (by omega)]
    simp [-List.reduceReplicate, LES, agree, xorPop]
  · obtain rfl : i = 32 := by omega
    simp [-List.reduceReplicate, LES]
theorem c_impl_AgreeingBits (a b : List UInt8) (ha : a.length = 32) (hb : b.length = 32) : LC Tryz.prog 30 [.a (bs a), .a (bs b)] [] (fun v hp => v = .c (.int .i64 (agree a b 32)) ∧ hp = []) := by
  refine LC_of (X := XX (fun _ => .nil) (fun _ => []) [15, 71, 72, 73, 79, 80, 87, 90, 91, 93, 99, 119, 137, 176, 177, 203, 204, 212, 219] 0) envOK Tryz.func30 (by kernel_rfl) (by kernel_rfl) rfl (Nat.le_of_ble_eq_true (by kernel_rfl)) ?_
  simp only [kFun, Tryz.f30, List.length_nil, List.length_cons, Nat.sub_zero, Nat.reduceSub, Nat.reduceAdd, List.nil_append, List.cons_append, List.replicate_succ, List.replicate_zero]
  simp only [XX, ↓VC, VP, TT, Nat.reduceEqDiff, reduceCtorEq, Nat.reduceAdd, Nat.reduceSub, Nat.reduceLT, Nat.reduceMul, Nat.reducePow, Nat.reduceLeDiff, Int.reduceToNat, Int.reduceLE, Int.reduceLT, Int.reducePow, ha, hb]
  refine kLoop_of (fun i : Nat => ([.a (bs a), .a (bs b), .p 0 0, .p 1 0, .j, .c (.int .i64 (agree a b i)), .j, .j, .a (bs a), .c (.int .i64 i), .j, .j, .j, .j, .j, .j, .j, .j, .j, .j, .j, .j, .j], [⟨true, bs a⟩, ⟨true, bs b⟩])) (fun i => 32 - i) (fun i => i ≤ 32) 0 (by omega) ⟨[0, 1], by simp [-List.reduceReplicate, LES, agree]⟩ ?_
  intro i hi
  simp only [↓VC, VP, TT, Nat.reduceEqDiff, reduceCtorEq, Nat.reduceAdd, Nat.reduceSub, Nat.reduceLT, Nat.reduceMul, Nat.reducePow, Nat.reduceLeDiff, Int.reduceToNat, Int.reduceLE, Int.reduceLT, Int.reducePow, ha, hb]
  have hx := u8_lt (a.getD i 0 ^^^ b.getD i 0)
  have hp := pop_le (a.getD i 0 ^^^ b.getD i 0)
  refine ⟨fun h => ⟨by omega, by omega, by omega, by omega, ?_⟩, fun h => ⟨_, _, [], ⟨rfl, rfl⟩, ?_⟩⟩
  · refine kCall_val (c_bits_OnesCount8 (a.getD i 0 ^^^ b.getD i 0)) (by rfl) [] (by simp [CALL]) (by simp [CALL]) (by simp [CALL]) (by simp) ?_
    simp only [CALL, ↓VC, VP, TT, Nat.reduceEqDiff, reduceCtorEq, Nat.reduceAdd, Nat.reduceSub, Nat.reduceLT, Nat.reduceMul, Nat.reducePow, Nat.reduceLeDiff, Int.reduceToNat, Int.reduceLE, Int.reduceLT, Int.reducePow]
    have := agree_le a b i hi
    refine ⟨i + 1, by omega, by omega, [0, 1], ?_⟩
    rw [wrap_i64 (by omega) (by omega), wrap_i64 (by omega) (by omega)]
    simp [-List.reduceReplicate, LES, agree, xorPop]
  · obtain rfl : i = 32 := by omega
    simp [-List.reduceReplicate, LES]
end Go.Proofs.YtahnjhppkgndiaaGreat
/- 'StartOfDigest' of the program and of the reference compute the same digest. -/
set_option linter.unusedSimpArgs false
set_option linter.unusedVariables false
namespace Go.Proofs.YtahnjhppkgndiaaGreat
open Go Go.Vc
def startL (i : Nat) : List UInt8 := (List.range 32).map fun j => if j < i then UInt8.ofInt (17 * j) else 0
theorem startL_len (i : Nat) : (startL i).length = 32 := by simp [startL]
theorem startL_zero : List.replicate 32 0 = startL 0 := by decide
theorem startL_succ {i : Nat} (h : i < 32) : (startL i).set i (UInt8.ofInt (17 * i)) = startL (i + 1) := by
  apply List.ext_getElem (by simp [startL])
  intro j h1 h2
  simp [startL] at h1 h2
  simp only [startL, List.getElem_set, List.getElem_map, List.getElem_range]
  split <;> rename_i e
  · subst e; simp
  · simp only [show (j < i + 1) = (j < i) from propext (by omega)]
set_option maxRecDepth 10000
theorem c_impl_StartOfDigest : LC Tryz.prog 36 [] [] (fun v hp => v = .a (bs (startL 32)) ∧ hp = []) := by
  refine LC_of (X := XX (fun _ => .nil) (fun _ => []) [15, 71, 72, 73, 79, 80, 87, 90, 91, 93, 99, 119, 137, 176, 177, 203, 204, 212, 219] 0) envOK Tryz.func36 (by kernel_rfl) (by kernel_rfl) rfl (Nat.le_of_ble_eq_true (by kernel_rfl)) ?_
  simp only [kFun, Tryz.f36, List.length_nil, List.length_cons, Nat.sub_zero, Nat.reduceSub, Nat.reduceAdd, List.nil_append, List.cons_append, List.replicate_succ, List.replicate_zero]
  simp only [XX, ↓VC, VP, TT, Nat.reduceEqDiff, reduceCtorEq, Nat.reduceAdd, Nat.reduceSub, Nat.reduceLT, Nat.reduceMul, Nat.reducePow, Nat.reduceLeDiff, Int.reduceToNat, Int.reduceLE, Int.reduceLT, Int.reducePow]
  refine kLoop_of (fun i : Nat => ([.p 0 0, .p 1 0, .j, .j, .c (.int .i64 i), .j, .j, .j, .j, .j, .j, .j, .j, .j], [⟨true, bs (List.replicate 32 0)⟩, ⟨true, bs (startL i)⟩])) (fun i => 32 - i) (fun i => i ≤ 32) 0 (by omega) ⟨[0, 1], ?_⟩ ?_
  · simp [-List.reduceReplicate, LES, startL_zero]
  · intro i hi
    simp only [↓VC, VP, TT, Nat.reduceEqDiff, reduceCtorEq, Nat.reduceAdd, Nat.reduceSub, Nat.reduceLT, Nat.reduceMul, Nat.reducePow, Nat.reduceLeDiff, Int.reduceToNat, Int.reduceLE, Int.reduceLT, Int.reducePow, startL_len]
    refine ⟨fun h => ⟨by omega, by omega, i + 1, by omega, by omega, [0, 1], ?_⟩, fun h => ⟨_, _, [], ⟨rfl, rfl⟩, ?_⟩⟩
    · rw [startL_succ (by omega), wrap_i64 (by omega) (by omega)]
      simp [-List.reduceReplicate, LES]
    · obtain rfl : i = 32 := by omega
      simp [-List.reduceReplicate, LES]
theorem c_spec_l08Start : LC Tryz.prog 105 [] [] (fun v hp => v = .a (bs (startL 32)) ∧ hp = []) := by
  refine LC_of (X := XX (fun _ => .nil) (fun _ => []) [15, 71, 72, 73, 79, 80, 87, 90, 91, 93, 99, 119, 137, 176, 177, 203, 204, 212, 219] 0) envOK Tryz.func105 (by kernel_rfl) (by kernel_rfl) rfl (Nat.le_of_ble_eq_true (by kernel_rfl)) ?_
  simp only [kFun, Tryz.f105, List.length_nil, List.length_cons, Nat.sub_zero, Nat.reduceSub, Nat.reduceAdd, List.nil_append, List.cons_append, List.replicate_succ, List.replicate_zero]
  simp only [XX, ↓VC, VP, TT, Nat.reduceEqDiff, reduceCtorEq, Nat.reduceAdd, Nat.reduceSub, Nat.reduceLT, Nat.reduceMul, Nat.reducePow, Nat.reduceLeDiff, Int.reduceToNat, Int.reduceLE, Int.reduceLT, Int.reducePow]
  refine kLoop_of (fun i : Nat => ([.p 0 0, .p 1 0, .c (.int .i64 i), .j, .j, .j, .j, .j, .j, .j, .j, .j, .j, .j, .j], [⟨true, bs (List.replicate 32 0)⟩, ⟨true, bs (startL i)⟩])) (fun i => 32 - i) (fun i => i ≤ 32) 0 (by omega) ⟨[0, 1], ?_⟩ ?_
  · simp [-List.reduceReplicate, LES, startL_zero]
  · intro i hi
    simp only [↓VC, VP, TT, Nat.reduceEqDiff, reduceCtorEq, Nat.reduceAdd, Nat.reduceSub, Nat.reduceLT, Nat.reduceMul, Nat.reducePow, Nat.reduceLeDiff, Int.reduceToNat, Int.reduceLE, Int.reduceLT, Int.reducePow, startL_len]
    refine ⟨fun h => ⟨by omega, by omega, by omega, i + 1, by omega, by omega, [0, 1], ?_⟩, fun h => ⟨_, _, [], ⟨rfl, rfl⟩, ?_⟩⟩
    · have e : UInt8.ofInt ((IntKind.i64.wrap (17 * (i : Int))).tmod 256) = UInt8.ofInt (17 * i) := by
        rw [wrap_i64 (by omega) (by omega)]; apply ofInt_eq; rw [Int.tmod_eq_emod_of_nonneg (by omega)]; omega
      rw [e, startL_succ (by omega), wrap_i64 (n := (i : Int) + 1) (by omega) (by omega)]
      simp [-List.reduceReplicate, LES]
    · obtain rfl : i = 32 := by omega
      simp [-List.reduceReplicate, LES]
end Go.Proofs.YtahnjhppkgndiaaGreat
/- Lists of bytes with room: where they lie, how they are told anew. -/
set_option linter.unusedSimpArgs false
set_option linter.unusedVariables false
namespace Go.Proofs.YtahnjhppkgndiaaGreat
open Go Go.Vc
set_option maxRecDepth 10000
set_option maxHeartbeats 4000000
/-- Bytes with room. -/
def tP (p : List UInt8 × Nat) : Prt := ⟨bs p.1 ++ List.replicate p.2 .j, p.1.length, p.1.length + p.2⟩
def tPs (D : List (List UInt8 × Nat)) : List Prt := D.map tP
/-- The same as bytes and capacities. -/
def rmD (D : List (List UInt8 × Nat)) : List (List UInt8 × Nat) := D.map fun p => (p.1, p.1.length + p.2)
theorem rmD_length (D : List (List UInt8 × Nat)) : (rmD D).length = D.length := by simp [rmD]
theorem rmD_mem {D : List (List UInt8 × Nat)} {p : List UInt8 × Nat} (h : p ∈ rmD D) : ∃ q ∈ D, p = (q.1, q.1.length + q.2) := by
  simp only [rmD, List.mem_map] at h
  obtain ⟨q, hq, e⟩ := h
  exact ⟨q, hq, e.symm⟩
theorem rmD_ok {D : List (List UInt8 × Nat)} {n : Nat} (h : ∀ p ∈ D, p.1.length ≤ n) : ∀ p ∈ rmD D, p.1.length ≤ p.2 ∧ p.1.length ≤ n := fun p hp => by
  obtain ⟨q, hq, rfl⟩ := rmD_mem hp
  have := h q hq
  exact ⟨by simp only; omega, this⟩
theorem tPs_length (D : List (List UInt8 × Nat)) : (tPs D).length = D.length := by simp [tPs]
theorem tPs_app (D E : List (List UInt8 × Nat)) : tPs (D ++ E) = tPs D ++ tPs E := by simp [tPs]
theorem tPs_get {D : List (List UInt8 × Nat)} {i : Nat} {p : List UInt8 × Nat} (h : D[i]? = some p) : (tPs D)[i]? = some (tP p) := by simp [tPs, List.getElem?_map, h]
theorem tPs_st {N : Nat} {D : List (List UInt8 × Nat)} : ∀ p ∈ tPs D, stL N p.cells := fun p hp => by
  simp only [tPs, List.mem_map] at hp
  obtain ⟨q, _, rfl⟩ := hp
  exact stL_room _ _ _
theorem tPs_ren {σ : List Nat} {D : List (List UInt8 × Nat)} : ∀ p ∈ tPs D, V.renL σ p.cells = p.cells := fun p hp => by
  simp only [tPs, List.mem_map] at hp
  obtain ⟨q, _, rfl⟩ := hp
  exact renL_room _ _ _
theorem tPs_ptr : ∀ {h : Nat} {D : List (List UInt8 × Nat)}, ptrV h (tPs D) = ptrV h (bPs (rmD D))
  | _, [] => rfl
  | h, p :: D => by
    show V.s h 0 _ _ :: ptrV (h + 1) (tPs D) = V.s h 0 _ _ :: ptrV (h + 1) (bPs (rmD D))
    rw [tPs_ptr]; rfl
/-- What is made anew: the pointers, then the parts. -/
def newT (N : Nat) (D : List (List UInt8 × Nat)) (r : Nat) : List Blk := ⟨true, ptrV (N + 1) (tPs D) ++ List.replicate r .j⟩ :: partB true (tPs D)
theorem newT_len {N r : Nat} {D : List (List UInt8 × Nat)} : (newT N D r).length = 1 + D.length := by simp [newT, partB_length, tPs_length]; omega
theorem newT_st {N r : Nat} {D : List (List UInt8 × Nat)} : ∀ x ∈ newT N D r, stL (N + (1 + D.length)) x.cells :=
  stB_cons (stL_app.2 ⟨stL_ptrV (by rw [tPs_length]; omega), stL_rep _ _⟩) (stB_part tPs_st)
theorem newT_own {N r : Nat} {D : List (List UInt8 × Nat)} : ∀ x ∈ newT N D r, x.own = true ∨ x.cells = [] := by
  intro x hx
  simp only [newT, List.mem_cons, partB, List.mem_map] at hx
  rcases hx with rfl | ⟨p, _, rfl⟩ <;> exact .inl rfl
/-- Pointers and parts, where bytes and capacities are wanted. -/
theorem nAt_t {hp : List Blk} {g b : Nat} {D : List (List UInt8 × Nat)} {own : Bool} {X : List V} (hO : hp[g]? = some ⟨own, ptrV b (tPs D) ++ X⟩) (hQ : ∀ i p, (tPs D)[i]? = some p → hp[b + i]? = some ⟨true, p.cells⟩) : nAt hp g b (bPs (rmD D)) := by
  refine ⟨⟨own, X, by rw [hO, tPs_ptr]⟩, fun i p hp => ?_⟩
  simp only [bPs, rmD, List.map_map, List.getElem?_map, Option.map_eq_some_iff] at hp
  obtain ⟨q, hq, rfl⟩ := hp
  exact ⟨true, List.replicate q.2 .j, hQ i _ (tPs_get hq)⟩
theorem seg_t {hp : List Blk} {g b : Nat} {D : List (List UInt8 × Nat)} (h : nAt hp g b (bPs (rmD D))) : segOK hp ((g, 0) :: rng b D.length) ((g, 0) :: rng b D.length) (⟨false, ptrV 1 (bPs (rmD D))⟩ :: partB false (bPs (rmD D))) := by
  have hn : (bPs (rmD D)).length = D.length := by rw [bPs_length, rmD_length]
  exact seg_nest hn h.1.lt (by have := h.1.cells; rw [ptrV_length, hn] at this; exact this) (fun i p hp => ⟨(h.2 i p hp).lt, (h.2 i p hp).cells⟩) bPs_id
theorem inst_newT {sub : List (Nat × Nat)} {k N r : Nat} {D : List (List UInt8 × Nat)} (hs : sub.length = k) : ((newT k D r).map fun b => (⟨b.own, V.instL sub N b.cells⟩ : Blk)) = newT N D r := by
  have hj : V.instL sub N (List.replicate r V.j) = List.replicate r V.j := by
    induction r with
    | zero => rfl
    | succ r ih => rw [List.replicate_succ, V.instL, ih]; rfl
  have hq : ∀ (h b : Nat) (L : List Prt), k ≤ h → b = N + (h - k) → V.instL sub N (ptrV h L) = ptrV b L := by
    intro h b L
    induction L generalizing h b with
    | nil => intro _ _; rfl
    | cons p L ih =>
      intro h1 h2
      rw [ptrV, V.instL, ptrV, ih (h + 1) (b + 1) (by omega) (by omega)]
      congr 1
      have : sub[h]? = none := List.getElem?_eq_none (by omega)
      simp [V.inst, this, hs, h2]
  unfold newT
  rw [List.map_cons, instL_app, hq (k + 1) (N + 1) _ (by omega) (by omega), hj]
  congr 1
  unfold partB
  rw [List.map_map]
  refine List.map_congr_left fun p hp => ?_
  simp only [tPs, List.mem_map] at hp
  obtain ⟨q, _, rfl⟩ := hp
  simp [tP, instL_room]
/-- Parts found anywhere, told as new ones, behind other blocks B. -/
theorem LeS_t {m o b r : Nat} {A hp B : List Blk} {τ : List Nat} {D : List (List UInt8 × Nat)} {tm tm' : List V} (hA : stM A) (x : Ext A hp) (hm : m ≤ A.length) (fO : hp[o]? = some (⟨true, ptrV b (tPs D) ++ List.replicate r .j⟩ : Blk)) (fQ : ∀ (k : Nat) (p : Prt), (tPs D)[k]? = some p → hp[b + k]? = some (⟨true, p.cells⟩ : Blk))
    (hnd : (o :: τ).Nodup) (ho : ∀ g ∈ o :: τ, A.length ≤ g ∧ (g < b ∨ b + D.length ≤ g)) (hb : A.length ≤ b) (hτ : τ.length = B.length) (hB : ∀ i c, B[i]? = some c → hp[τ.getD i 0]? = some c ∧ ∀ σ, V.renL σ c.cells = c.cells) (hBo : ∀ c ∈ B, ∀ M, okL M c.cells)
    (ht : leTm (List.range A.length ++ (o :: τ ++ List.range' b D.length)) tm tm') (hok : okL (A.length + (1 + τ.length + D.length)) tm') :
    LeS m (List.range A.length ++ (o :: τ ++ List.range' b D.length)) tm hp tm' (A ++ ((⟨true, ptrV (A.length + 1 + τ.length) (tPs D) ++ List.replicate r .j⟩ :: B) ++ partB true (tPs D))) := by
  have hn := tPs_length D
  have hr : V.renL (List.range A.length ++ (o :: τ ++ List.range' b D.length)) (ptrV (A.length + 1 + τ.length) (tPs D)) = ptrV b (tPs D) := renL_ptrV fun i hi => by
    rw [show A.length + 1 + τ.length + i = A.length + ((1 + τ.length) + i) by omega, range_getD_ge, List.getD_eq_getElem?_getD, List.getElem?_append_right (by simp; omega), ← List.getD_eq_getElem?_getD]
    have e : 1 + τ.length + i - (o :: τ).length = i := by simp; omega
    rw [e, getD_range' (by rw [hn] at hi; exact hi)]
  have hl : (o :: τ).length = 1 + τ.length := by simp; omega
  have hBl : ∀ (σ : List Nat) (gs : List Nat) (C : List Blk), gs.length = C.length → (∀ i c, C[i]? = some c → hp[gs.getD i 0]? = some c ∧ ∀ σ, V.renL σ c.cells = c.cells) → leHp σ hp gs C := fun σ gs C h1 h2 => by
    induction gs generalizing C with
    | nil => cases C with | nil => trivial | cons c C => simp at h1
    | cons g gs ih =>
      cases C with
      | nil => simp at h1
      | cons c C =>
        refine ⟨.inr ?_, ih C (by simpa using h1) fun i d hd => by simpa using h2 (i + 1) d (by simpa using hd)⟩
        have := h2 0 c rfl
        simp only [List.getD_cons_zero] at this
        rw [this.1]
        exact ⟨(this.2 σ).symm, id⟩
  refine LeS_new (τ := o :: τ) (B := ⟨true, ptrV (A.length + 1 + τ.length) (tPs D) ++ List.replicate r .j⟩ :: B) rfl x hA hm (by simp [hτ]) hnd ho hb hn fQ (fun _ => tPs_ren) (fun _ p hp => stL_ok (tPs_st p hp)) ht ?_ (by rw [hl]; exact hok) ?_
  · refine ⟨.inr ?_, hBl _ τ B hτ hB⟩
    rw [fO]
    simp only [renL_app, hr, renL_rep]
    exact ⟨trivial, fun _ => trivial⟩
  · intro c hc
    rw [hl]
    rcases List.mem_cons.1 hc with rfl | hc
    · rw [okL_app]; exact ⟨stL_ok (stL_ptrV (by rw [hn]; omega)), okL_rep _ _⟩
    · exact hBo c hc _
end Go.Proofs.YtahnjhppkgndiaaGreat

import Derived.Test.YtledcckafhpgaaaTk
import Derived.Test.YtledcckafhpgaaaEnv
/- The field's functions of the program and of the reference: what they compute. -/
set_option linter.unusedSimpArgs false
set_option linter.unusedVariables false
namespace Go.Proofs.Ytledcckafhpgaaa
open Go Go.Vc
set_option maxRecDepth 10000
theorem shl_nat (x k : Nat) (i : Int) (h : x * 2 ^ k < 9223372036854775808) (hk : k ≤ 63) (hi : i = k) : IntKind.i64.wrap ((x : Int) * 2 ^ (min i.toNat 64)) = ((x <<< k : Nat) : Int) := by
  subst hi
  rw [Int.toNat_natCast, Nat.min_eq_left (by omega), show (x : Int) * 2 ^ k = ((x * 2 ^ k : Nat) : Int) by simp, wrap_i64 (by omega) (by omega), Nat.shiftLeft_eq]
theorem bit_test (r k : Nat) (i : Int) (hi : i = k) (hk : k ≤ 63) (hr : r < 9223372036854775808) : (bitI .and .i64 ((r : Int).fdiv (2 ^ min i.toNat 64)) 1 == 1) = r.testBit k := by
  subst hi
  rw [Int.toNat_natCast, Nat.min_eq_left (by omega), shr_nat, bitI_and1 (Nat.lt_of_le_of_lt (Nat.div_le_self _ _) hr), bit_mod]
theorem bit_test8 (r : UInt8) (k : Nat) (i : Int) (hi : i = k) (hk : k ≤ 8) : (bitI .and .u8 ((r.toNat : Int).fdiv (2 ^ min i.toNat 8)) 1 == 1) = r.toNat.testBit k := by
  subst hi
  have := r.toNat_lt
  rw [Int.toNat_natCast, Nat.min_eq_left (by omega), shr_nat, bitI_and1_8 _ (Nat.lt_of_le_of_lt (Nat.div_le_self _ _) r.toNat_lt), bit_mod]
theorem stepR_lt {x m d i : Nat} (hx : x < 33554432) (hm : m < 512) (hi : i ≤ 15) : stepR m d i x < 33554432 := by
  unfold stepR
  split
  · refine Nat.xor_lt_two_pow (n := 25) hx ?_
    rw [Nat.shiftLeft_eq]
    have : 2 ^ (i - d) ≤ 2 ^ 15 := Nat.pow_le_pow_right (by decide) (by omega)
    calc m * 2 ^ (i - d) ≤ m * 2 ^ 15 := Nat.mul_le_mul_left _ this
      _ < 2 ^ 25 := by omega
  · exact hx
theorem resP_lt {x m d : Nat} (hx : x < 33554432) (hm : m < 512) : ∀ j, resP m d x j < 33554432
  | 0 => hx
  | j + 1 => stepR_lt (resP_lt hx hm j) hm (by omega)
theorem c_impl_rest (x m d : Nat) (hx : x < 33554432) (hm : m < 512) (hd : d ≤ 15) : LC Try.prog 88 [.c (.int .i64 (x)), .c (.int .i64 (m)), .c (.int .i64 (d))] [] (fun v hp => v = .c (.int .i64 ((resP m d x (16 - d) : Nat))) ∧ hp = []) := by
  refine LC_of (X := XX (fun _ => .nil) (fun _ => []) [22, 24, 25, 36, 42, 47, 90] 0) envOK Try.func88 (by kernel_rfl) (by kernel_rfl) rfl (Nat.le_of_ble_eq_true (by kernel_rfl)) ?_
  simp only [kFun, Try.f88, List.length_nil, List.length_cons, Nat.sub_zero, Nat.reduceSub, Nat.reduceAdd, List.nil_append, List.cons_append, List.replicate_succ, List.replicate_zero]
  simp only [XX, ↓VC, VP, TT, List.getElem?_toArray, Nat.reduceEqDiff, reduceCtorEq, Nat.reduceAdd, Nat.reduceSub, Nat.reduceLT, Nat.reduceMul, Nat.reducePow, Nat.reduceLeDiff, Int.reduceToNat, Int.reduceLE, Int.reduceLT, Int.reducePow]
  refine kLoop_of (fun j : Nat => ([.c (.int .i64 ((resP m d x j : Nat))), .c (.int .i64 (m)), .c (.int .i64 (d)), .j, .j, .j, .j, .c (.int .i64 ((15 : Int) - j)), .j, .j, .j, .j, .j, .j, .j, .j, .j, .j, .j, .j, .j, .j, .j, .j, .j, .j], [])) (fun j => 16 - d - j) (fun j => j ≤ 16 - d) 0 (by simp) ⟨[], by simp [-List.reduceReplicate, LES, resP]⟩ ?_
  intro j hj
  simp only [↓VC, VP, TT, List.getElem?_toArray, Nat.reduceEqDiff, reduceCtorEq, Nat.reduceAdd, Nat.reduceSub, Nat.reduceLT, Nat.reduceMul, Nat.reducePow, Nat.reduceLeDiff, Int.reduceToNat, Int.reduceLE, Int.reduceLT, Int.reducePow]
  have hlt := resP_lt (d := d) hx hm j
  refine ⟨fun h => ⟨by omega, fun hb => ?_, fun hb => ?_⟩, fun h => ?_⟩
  · rw [bit_test _ (15 - j) _ (by omega) (by omega) (by omega)] at hb
    have ew : IntKind.i64.wrap ((15 : Int) - j - d) = ((15 - j - d : Nat) : Int) := by rw [wrap_i64 (by omega) (by omega)]; omega
    have hp : 2 ^ (15 - j - d) ≤ 2 ^ 15 := Nat.pow_le_pow_right (by decide) (by omega)
    have hms : m * 2 ^ (15 - j - d) ≤ 512 * 2 ^ 15 := Nat.mul_le_mul (by omega) hp
    refine ⟨by rw [ew]; omega, j + 1, by omega, by omega, [], ?_⟩
    rw [shl_nat m (15 - j - d) _ (by omega) (by omega) ew, bitI_xor64 (by omega) (by rw [Nat.shiftLeft_eq]; omega), wrap_i64 (n := 15 - (j : Int) - 1) (by omega) (by omega)]
    have : resP m d x (j + 1) = resP m d x j ^^^ (m <<< (15 - j - d)) := by rw [resP, stepR, if_pos hb]
    simp [-List.reduceReplicate, LES, this]; omega
  · rw [bit_test _ (15 - j) _ (by omega) (by omega) (by omega)] at hb
    refine ⟨j + 1, by omega, by omega, [], ?_⟩
    rw [wrap_i64 (n := 15 - (j : Int) - 1) (by omega) (by omega)]
    have : resP m d x (j + 1) = resP m d x j := by rw [resP, stepR, if_neg (by simp [hb])]
    simp [-List.reduceReplicate, LES, this]; omega
  · obtain rfl : j = 16 - d := by omega
    refine ⟨_, _, [], ⟨rfl, rfl⟩, ?_⟩; simp [-List.reduceReplicate, LES]
theorem c_spec_l01Times (m : Nat) (a b : UInt8) (hm : 256 ≤ m) (hm' : m < 512) : LC Try.prog 85 [.c (.int .i64 (m)), .c (.int .u8 ((a).toNat : Int)), .c (.int .u8 ((b).toNat : Int))] [] (fun v hp => v = .c (.int .u8 ((tmul m a b).toNat : Int)) ∧ hp = []) := by
  have ha := a.toNat_lt
  have hb := b.toNat_lt
  refine LC_of (X := XX (fun _ => .nil) (fun _ => []) [22, 24, 25, 36, 42, 47, 90] 0) envOK Try.func85 (by kernel_rfl) (by kernel_rfl) rfl (Nat.le_of_ble_eq_true (by kernel_rfl)) ?_
  simp only [kFun, Try.f85, List.length_nil, List.length_cons, Nat.sub_zero, Nat.reduceSub, Nat.reduceAdd, List.nil_append, List.cons_append, List.replicate_succ, List.replicate_zero]
  simp only [XX, ↓VC, VP, TT, List.getElem?_toArray, Nat.reduceEqDiff, reduceCtorEq, Nat.reduceAdd, Nat.reduceSub, Nat.reduceLT, Nat.reduceMul, Nat.reducePow, Nat.reduceLeDiff, Int.reduceToNat, Int.reduceLE, Int.reduceLT, Int.reducePow]
  refine kLoop_of (fun j : Nat => ([.c (.int .i64 (m)), .j, .j, .j, .j, .j, .j, .c (.int .i64 ((tmP m a.toNat b.toNat j : Nat))), .c (.int .i64 ((nowN m a.toNat j : Nat))), .c (.int .i64 ((b.toNat / 2 ^ j : Nat))), .j, .j, .j, .j, .j, .j, .j, .j, .j, .j, .j, .j, .j, .j, .j, .j, .j, .j, .j, .j, .j, .j, .j], [])) (fun j => 8 - j) (fun j => j ≤ 8) 0 (by simp)
    ⟨[], by rw [wrap_i64 (by omega) (by omega), wrap_i64 (by omega) (by omega)]; simp [-List.reduceReplicate, LES, tmP, nowN]⟩ ?_
  intro j hj
  simp only [↓VC, VP, TT, List.getElem?_toArray, Nat.reduceEqDiff, reduceCtorEq, Nat.reduceAdd, Nat.reduceSub, Nat.reduceLT, Nat.reduceMul, Nat.reducePow, Nat.reduceLeDiff, Int.reduceToNat, Int.reduceLE, Int.reduceLT, Int.reducePow]
  have h1 := tmP_lt (b := b.toNat) hm hm' ha j
  have h2 := nowN_lt hm hm' ha j
  have ew : IntKind.i64.wrap ((nowN m a.toNat j : Int) * 2) = ((2 * nowN m a.toNat j : Nat) : Int) := by rw [wrap_i64 (by omega) (by omega)]; omega
  have eb : (((b.toNat / 2 ^ j : Nat) : Int).tmod 2 == 1) = b.toNat.testBit j := by
    rw [← bit_mod, Int.tmod_eq_emod_of_nonneg (Int.natCast_nonneg _)]; rfl
  have hj8 : 0 < b.toNat / 2 ^ j → j < 8 := fun h => by
    rcases Nat.lt_or_ge j 8 with h' | h'
    · exact h'
    · obtain rfl : j = 8 := by omega
      rw [show (2 : Nat) ^ 8 = 256 from rfl] at h; omega
  have hdone := tmP_all (m := m) (a := a.toNat) (b := b.toNat) (i := j)
  have e2 : b.toNat / 2 ^ (j + 1) = b.toNat / 2 ^ j / 2 := by rw [Nat.pow_succ, ← Nat.div_div_eq_div_mul]
  have hle := Nat.div_le_self b.toNat (2 ^ j)
  rw [eb]
  generalize hqd : b.toNat / 2 ^ j = q at *
  have eq : IntKind.i64.wrap ((q : Int).tdiv 2) = ((q / 2 : Nat) : Int) := by
    rw [Int.tdiv_eq_ediv_of_nonneg (by omega), wrap_i64 (by omega) (by omega)]; omega
  rw [ew, eq, bitI_xor64 (by omega) (by omega), bitI_xor64 (by omega) (by omega)]
  have t1 : b.toNat.testBit j = true → tmP m a.toNat b.toNat (j + 1) = tmP m a.toNat b.toNat j ^^^ nowN m a.toNat j := fun h => by rw [tmP, if_pos h]
  have t0 : b.toNat.testBit j = false → tmP m a.toNat b.toNat (j + 1) = tmP m a.toNat b.toNat j := fun h => by rw [tmP, if_neg (by simp [h])]; simp
  have r1 : 2 * nowN m a.toNat j ≥ 256 → nowN m a.toNat (j + 1) = 2 * nowN m a.toNat j ^^^ m := fun h => by rw [nowN, red, if_neg (by omega)]
  have r0 : ¬ 2 * nowN m a.toNat j ≥ 256 → nowN m a.toNat (j + 1) = 2 * nowN m a.toNat j := fun h => by rw [nowN, red, if_pos (by omega)]
  refine ⟨fun h => ⟨by omega, fun ht => ⟨fun hr => ⟨by omega, j + 1, by omega, by omega, [], ?_⟩, fun hr => ⟨by omega, j + 1, by omega, by omega, [], ?_⟩⟩,
    fun ht => ⟨fun hr => ⟨by omega, j + 1, by omega, by omega, [], ?_⟩, fun hr => ⟨by omega, j + 1, by omega, by omega, [], ?_⟩⟩⟩, fun h => ?_⟩
  · simp [-List.reduceReplicate, LES, t1 ht, r1 (by omega), e2]
  · simp [-List.reduceReplicate, LES, t1 ht, r0 (by omega), e2]
  · simp [-List.reduceReplicate, LES, t0 ht, r1 (by omega), e2]
  · simp [-List.reduceReplicate, LES, t0 ht, r0 (by omega), e2]
  · rw [hdone (by omega) hj, wrap_u8, ← tmul_nat hm hm', ofInt_toNat]
    refine ⟨_, _, [], ⟨rfl, rfl⟩, ?_⟩; simp [-List.reduceReplicate, LES]
theorem c_impl_times (m : Nat) (a b : UInt8) (hm : 256 ≤ m) (hm' : m < 512) : LC Try.prog 77 [.c (.int .i64 (m)), .c (.int .u8 ((a).toNat : Int)), .c (.int .u8 ((b).toNat : Int))] [] (fun v hp => v = .c (.int .u8 ((tmul m a b).toNat : Int)) ∧ hp = []) := by
  have ha := a.toNat_lt
  have hb := b.toNat_lt
  refine LC_of (X := XX (fun _ => .nil) (fun _ => []) [22, 24, 25, 36, 42, 47, 90] 0) envOK Try.func77 (by kernel_rfl) (by kernel_rfl) rfl (Nat.le_of_ble_eq_true (by kernel_rfl)) ?_
  simp only [kFun, Try.f77, List.length_nil, List.length_cons, Nat.sub_zero, Nat.reduceSub, Nat.reduceAdd, List.nil_append, List.cons_append, List.replicate_succ, List.replicate_zero]
  simp only [XX, ↓VC, VP, TT, List.getElem?_toArray, Nat.reduceEqDiff, reduceCtorEq, Nat.reduceAdd, Nat.reduceSub, Nat.reduceLT, Nat.reduceMul, Nat.reducePow, Nat.reduceLeDiff, Int.reduceToNat, Int.reduceLE, Int.reduceLT, Int.reducePow]
  refine kLoop_of (fun j : Nat => ([.c (.int .i64 (m)), .c (.int .u8 ((a).toNat : Int)), .c (.int .u8 ((b).toNat : Int)), .j, .j, .j, .j, .c (.int .i64 ((prodP a.toNat b.toNat j : Nat))), .j, .c (.int .i64 (j)), .j, .j, .j, .j, .j, .j, .j, .j, .j, .j, .j, .j, .j, .j, .j, .j, .j, .j], [])) (fun j => 8 - j) (fun j => j ≤ 8) 0 (by simp) ⟨[], by simp [-List.reduceReplicate, LES, prodP]⟩ ?_
  intro j hj
  simp only [↓VC, VP, TT, List.getElem?_toArray, Nat.reduceEqDiff, reduceCtorEq, Nat.reduceAdd, Nat.reduceSub, Nat.reduceLT, Nat.reduceMul, Nat.reducePow, Nat.reduceLeDiff, Int.reduceToNat, Int.reduceLE, Int.reduceLT, Int.reducePow]
  have hpl := prodP_lt (b := b.toNat) ha j hj
  have e1 := bit_test8 b j j rfl hj
  rw [Int.toNat_natCast] at e1
  rw [e1]
  refine ⟨fun h => ⟨fun ht => ?_, fun ht => ?_⟩, fun h => ?_⟩
  · have hp : 2 ^ j ≤ 2 ^ 7 := Nat.pow_le_pow_right (by decide) (by omega)
    have hms : a.toNat * 2 ^ j ≤ 256 * 2 ^ 7 := Nat.mul_le_mul (by omega) hp
    refine ⟨j + 1, by omega, by omega, [], ?_⟩
    have e2 := shl_nat a.toNat j j (by omega) (by omega) rfl
    rw [Int.toNat_natCast] at e2
    rw [wrap_i64 (n := ((a.toNat : Nat) : Int)) (by omega) (by omega), e2, bitI_xor64 (by omega) (by rw [Nat.shiftLeft_eq]; omega), wrap_i64 (by omega) (by omega)]
    have : prodP a.toNat b.toNat (j + 1) = prodP a.toNat b.toNat j ^^^ (a.toNat <<< j) := by rw [prodP, if_pos ht]
    simp [-List.reduceReplicate, LES, this]
  · refine ⟨j + 1, by omega, by omega, [], ?_⟩
    rw [wrap_i64 (by omega) (by omega)]
    have : prodP a.toNat b.toNat (j + 1) = prodP a.toNat b.toNat j := by rw [prodP, if_neg (by simp [ht])]; simp
    simp [-List.reduceReplicate, LES, this]
  · obtain rfl : j = 8 := by omega
    refine kCall_val (c_impl_rest (prodP a.toNat b.toNat 8) m 8 (by omega) (by omega) (by omega)) (by rfl) [] (by simp [CALL]) (by simp [CALL]) (by simp [CALL]) (by simp) ?_
    simp only [CALL, ↓VC, VP, TT, List.getElem?_toArray, Nat.reduceEqDiff, reduceCtorEq, Nat.reduceAdd, Nat.reduceSub, Nat.reduceLT, Nat.reduceMul, Nat.reducePow, Nat.reduceLeDiff, Int.reduceToNat, Int.reduceLE, Int.reduceLT, Int.reducePow]
    rw [times_eq hm hm' ha 8 (by omega), wrap_u8, ← tmul_nat hm hm', ofInt_toNat]
    refine ⟨_, _, [], ⟨rfl, rfl⟩, ?_⟩; simp [-List.reduceReplicate, LES]
theorem tdiv2 (n j : Nat) (h : n < 9223372036854775808) : IntKind.i64.wrap (((n / 2 ^ j : Nat) : Int).tdiv 2) = ((n / 2 ^ (j + 1) : Nat) : Int) := by
  have e2 : n / 2 ^ (j + 1) = n / 2 ^ j / 2 := by rw [Nat.pow_succ, ← Nat.div_div_eq_div_mul]
  have hle := Nat.div_le_self n (2 ^ j)
  rw [e2]
  generalize n / 2 ^ j = q at *
  rw [Int.tdiv_eq_ediv_of_nonneg (by omega), wrap_i64 (by omega) (by omega)]; omega
theorem pw254_bits : ∀ j, j ≤ 8 → (0 < 254 / 2 ^ j ↔ j < 8) := by decide
theorem c_spec_l01Power254 (m : Nat) (a : UInt8) (hm : 256 ≤ m) (hm' : m < 512) : LC Try.prog 87 [.c (.int .i64 (m)), .c (.int .u8 ((a).toNat : Int)), .c (.int .i64 (254))] [] (fun v hp => v = .c (.int .u8 ((pw254 m a).toNat : Int)) ∧ hp = []) := by
  refine LC_of (X := XX (fun _ => .nil) (fun _ => []) [22, 24, 25, 36, 42, 47, 90] 0) envOK Try.func87 (by kernel_rfl) (by kernel_rfl) rfl (Nat.le_of_ble_eq_true (by kernel_rfl)) ?_
  simp only [kFun, Try.f87, List.length_nil, List.length_cons, Nat.sub_zero, Nat.reduceSub, Nat.reduceAdd, List.nil_append, List.cons_append, List.replicate_succ, List.replicate_zero]
  simp only [XX, ↓VC, VP, TT, List.getElem?_toArray, Nat.reduceEqDiff, reduceCtorEq, Nat.reduceAdd, Nat.reduceSub, Nat.reduceLT, Nat.reduceMul, Nat.reducePow, Nat.reduceLeDiff, Int.reduceToNat, Int.reduceLE, Int.reduceLT, Int.reducePow]
  refine kLoop_of (fun j : Nat => ([.c (.int .i64 (m)), .c (.int .u8 (((pwS m 254 j (1, a)).2).toNat : Int)), .c (.int .i64 ((254 / 2 ^ j : Nat))), .j, .j, .j, .j, .c (.int .u8 (((pwS m 254 j (1, a)).1).toNat : Int)), .j, .j, .j, .j, .j, .j, .j, .j, .j, .j, .j, .j, .j, .j, .j, .j], [])) (fun j => 8 - j) (fun j => j ≤ 8) 0 (by simp) ⟨[], by simp [-List.reduceReplicate, LES, pwS]⟩ ?_
  intro j hj
  simp only [↓VC, VP, TT, List.getElem?_toArray, Nat.reduceEqDiff, reduceCtorEq, Nat.reduceAdd, Nat.reduceSub, Nat.reduceLT, Nat.reduceMul, Nat.reducePow, Nat.reduceLeDiff, Int.reduceToNat, Int.reduceLE, Int.reduceLT, Int.reducePow]
  have e1 : (((254 / 2 ^ j : Nat) : Int).tmod 2 == 1) = decide ((254 / 2 ^ j) % 2 = 1) := by
    rw [Int.tmod_eq_emod_of_nonneg (Int.natCast_nonneg _), Bool.eq_iff_iff, beq_iff_eq, decide_eq_true_eq]; omega
  have hb := pw254_bits j hj
  rw [e1]
  refine ⟨fun h => ⟨by omega, fun ht => ?_, fun ht => ?_⟩, fun h => ?_⟩
  · refine kCall_val (c_spec_l01Times m (pwS m 254 j (1, a)).1 (pwS m 254 j (1, a)).2 hm hm') (by rfl) [] (by simp [CALL]) (by simp [CALL, cellsAt]) (by simp [CALL]) (by simp [okL_bs]) ?_
    simp only [CALL, ↓VC, VP, TT, List.getElem?_toArray, Nat.reduceEqDiff, reduceCtorEq, Nat.reduceAdd, Nat.reduceSub, Nat.reduceLT, Nat.reduceMul, Nat.reducePow, Nat.reduceLeDiff, Int.reduceToNat, Int.reduceLE, Int.reduceLT, Int.reducePow]
    refine kCall_val (c_spec_l01Times m (pwS m 254 j (1, a)).2 (pwS m 254 j (1, a)).2 hm hm') (by rfl) [] (by simp [CALL]) (by simp [CALL, cellsAt]) (by simp [CALL]) (by simp [okL_bs]) ?_
    simp only [CALL, ↓VC, VP, TT, List.getElem?_toArray, Nat.reduceEqDiff, reduceCtorEq, Nat.reduceAdd, Nat.reduceSub, Nat.reduceLT, Nat.reduceMul, Nat.reducePow, Nat.reduceLeDiff, Int.reduceToNat, Int.reduceLE, Int.reduceLT, Int.reducePow]
    refine ⟨by omega, j + 1, by omega, by omega, [], ?_⟩
    rw [tdiv2 _ _ (by omega)]
    simp [-List.reduceReplicate, LES, pwS, of_decide_eq_true ht]
  · refine kCall_val (c_spec_l01Times m (pwS m 254 j (1, a)).2 (pwS m 254 j (1, a)).2 hm hm') (by rfl) [] (by simp [CALL]) (by simp [CALL, cellsAt]) (by simp [CALL]) (by simp [okL_bs]) ?_
    simp only [CALL, ↓VC, VP, TT, List.getElem?_toArray, Nat.reduceEqDiff, reduceCtorEq, Nat.reduceAdd, Nat.reduceSub, Nat.reduceLT, Nat.reduceMul, Nat.reducePow, Nat.reduceLeDiff, Int.reduceToNat, Int.reduceLE, Int.reduceLT, Int.reducePow]
    refine ⟨by omega, j + 1, by omega, by omega, [], ?_⟩
    rw [tdiv2 _ _ (by omega)]
    simp [-List.reduceReplicate, LES, pwS, of_decide_eq_false ht]
  · obtain rfl : j = 8 := by omega
    refine ⟨_, _, [], ⟨rfl, rfl⟩, ?_⟩; simp [-List.reduceReplicate, LES, pw254]
theorem c_spec_l01Inv (m : Nat) (a : UInt8) (hm : 256 ≤ m) (hm' : m < 512) : LC Try.prog 75 [.c (.int .i64 (m)), .c (.int .u8 ((a).toNat : Int))] [] (fun v hp => v = .c (.int .u8 ((pw254 m a).toNat : Int)) ∧ hp = []) := by
  refine LC_of (X := XX (fun _ => .nil) (fun _ => []) [22, 24, 25, 36, 42, 47, 90] 0) envOK Try.func75 (by kernel_rfl) (by kernel_rfl) rfl (Nat.le_of_ble_eq_true (by kernel_rfl)) ?_
  simp only [kFun, Try.f75, List.length_nil, List.length_cons, Nat.sub_zero, Nat.reduceSub, Nat.reduceAdd, List.nil_append, List.cons_append, List.replicate_succ, List.replicate_zero]
  simp only [XX, ↓VC, VP, TT, List.getElem?_toArray, Nat.reduceEqDiff, reduceCtorEq, Nat.reduceAdd, Nat.reduceSub, Nat.reduceLT, Nat.reduceMul, Nat.reducePow, Nat.reduceLeDiff, Int.reduceToNat, Int.reduceLE, Int.reduceLT, Int.reducePow]
  refine kCall_val (c_spec_l01Power254 m a hm hm') (by rfl) [] (by simp [CALL]) (by simp [CALL]) (by simp [CALL]) (by simp) ?_
  simp only [CALL, ↓VC, VP, TT, List.getElem?_toArray, Nat.reduceEqDiff, reduceCtorEq, Nat.reduceAdd, Nat.reduceSub, Nat.reduceLT, Nat.reduceMul, Nat.reducePow, Nat.reduceLeDiff, Int.reduceToNat, Int.reduceLE, Int.reduceLT, Int.reducePow]
  refine ⟨_, _, [], ⟨rfl, rfl⟩, ?_⟩; simp [-List.reduceReplicate, LES]
theorem c_impl_power254 (m : Nat) (a : UInt8) (hm : 256 ≤ m) (hm' : m < 512) : LC Try.prog 78 [.c (.int .i64 (m)), .c (.int .u8 ((a).toNat : Int)), .c (.int .i64 (254))] [] (fun v hp => v = .c (.int .u8 ((pw254 m a).toNat : Int)) ∧ hp = []) := by
  refine LC_of (X := XX (fun _ => .nil) (fun _ => []) [22, 24, 25, 36, 42, 47, 90] 0) envOK Try.func78 (by kernel_rfl) (by kernel_rfl) rfl (Nat.le_of_ble_eq_true (by kernel_rfl)) ?_
  simp only [kFun, Try.f78, List.length_nil, List.length_cons, Nat.sub_zero, Nat.reduceSub, Nat.reduceAdd, List.nil_append, List.cons_append, List.replicate_succ, List.replicate_zero]
  simp only [XX, ↓VC, VP, TT, List.getElem?_toArray, Nat.reduceEqDiff, reduceCtorEq, Nat.reduceAdd, Nat.reduceSub, Nat.reduceLT, Nat.reduceMul, Nat.reducePow, Nat.reduceLeDiff, Int.reduceToNat, Int.reduceLE, Int.reduceLT, Int.reducePow]
  refine kLoop_of (fun j : Nat => ([.c (.int .i64 (m)), .c (.int .u8 (((pwS m 254 j (1, a)).2).toNat : Int)), .c (.int .i64 ((254 / 2 ^ j : Nat))), .j, .j, .j, .j, .c (.int .u8 (((pwS m 254 j (1, a)).1).toNat : Int)), .j, .j, .j, .j, .j, .j, .j, .j, .j, .j, .j, .j, .j, .j, .j, .j], [])) (fun j => 8 - j) (fun j => j ≤ 8) 0 (by simp) ⟨[], by simp [-List.reduceReplicate, LES, pwS]⟩ ?_
  intro j hj
  simp only [↓VC, VP, TT, List.getElem?_toArray, Nat.reduceEqDiff, reduceCtorEq, Nat.reduceAdd, Nat.reduceSub, Nat.reduceLT, Nat.reduceMul, Nat.reducePow, Nat.reduceLeDiff, Int.reduceToNat, Int.reduceLE, Int.reduceLT, Int.reducePow]
  have e1 : (((254 / 2 ^ j : Nat) : Int).tmod 2 == 1) = decide ((254 / 2 ^ j) % 2 = 1) := by
    rw [Int.tmod_eq_emod_of_nonneg (Int.natCast_nonneg _), Bool.eq_iff_iff, beq_iff_eq, decide_eq_true_eq]; omega
  have hb := pw254_bits j hj
  rw [e1]
  refine ⟨fun h => ⟨by omega, fun ht => ?_, fun ht => ?_⟩, fun h => ?_⟩
  · refine kCall_val (c_impl_times m (pwS m 254 j (1, a)).1 (pwS m 254 j (1, a)).2 hm hm') (by rfl) [] (by simp [CALL]) (by simp [CALL, cellsAt]) (by simp [CALL]) (by simp [okL_bs]) ?_
    simp only [CALL, ↓VC, VP, TT, List.getElem?_toArray, Nat.reduceEqDiff, reduceCtorEq, Nat.reduceAdd, Nat.reduceSub, Nat.reduceLT, Nat.reduceMul, Nat.reducePow, Nat.reduceLeDiff, Int.reduceToNat, Int.reduceLE, Int.reduceLT, Int.reducePow]
    refine kCall_val (c_impl_times m (pwS m 254 j (1, a)).2 (pwS m 254 j (1, a)).2 hm hm') (by rfl) [] (by simp [CALL]) (by simp [CALL, cellsAt]) (by simp [CALL]) (by simp [okL_bs]) ?_
    simp only [CALL, ↓VC, VP, TT, List.getElem?_toArray, Nat.reduceEqDiff, reduceCtorEq, Nat.reduceAdd, Nat.reduceSub, Nat.reduceLT, Nat.reduceMul, Nat.reducePow, Nat.reduceLeDiff, Int.reduceToNat, Int.reduceLE, Int.reduceLT, Int.reducePow]
    refine ⟨by omega, j + 1, by omega, by omega, [], ?_⟩
    rw [tdiv2 _ _ (by omega)]
    simp [-List.reduceReplicate, LES, pwS, of_decide_eq_true ht]
  · refine kCall_val (c_impl_times m (pwS m 254 j (1, a)).2 (pwS m 254 j (1, a)).2 hm hm') (by rfl) [] (by simp [CALL]) (by simp [CALL, cellsAt]) (by simp [CALL]) (by simp [okL_bs]) ?_
    simp only [CALL, ↓VC, VP, TT, List.getElem?_toArray, Nat.reduceEqDiff, reduceCtorEq, Nat.reduceAdd, Nat.reduceSub, Nat.reduceLT, Nat.reduceMul, Nat.reducePow, Nat.reduceLeDiff, Int.reduceToNat, Int.reduceLE, Int.reduceLT, Int.reducePow]
    refine ⟨by omega, j + 1, by omega, by omega, [], ?_⟩
    rw [tdiv2 _ _ (by omega)]
    simp [-List.reduceReplicate, LES, pwS, of_decide_eq_false ht]
  · obtain rfl : j = 8 := by omega
    refine ⟨_, _, [], ⟨rfl, rfl⟩, ?_⟩; simp [-List.reduceReplicate, LES, pw254]
theorem c_impl_inverse (m : Nat) (a : UInt8) (hm : 256 ≤ m) (hm' : m < 512) : LC Try.prog 61 [.c (.int .i64 (m)), .c (.int .u8 ((a).toNat : Int))] [] (fun v hp => v = .c (.int .u8 ((pw254 m a).toNat : Int)) ∧ hp = []) := by
  refine LC_of (X := XX (fun _ => .nil) (fun _ => []) [22, 24, 25, 36, 42, 47, 90] 0) envOK Try.func61 (by kernel_rfl) (by kernel_rfl) rfl (Nat.le_of_ble_eq_true (by kernel_rfl)) ?_
  simp only [kFun, Try.f61, List.length_nil, List.length_cons, Nat.sub_zero, Nat.reduceSub, Nat.reduceAdd, List.nil_append, List.cons_append, List.replicate_succ, List.replicate_zero]
  simp only [XX, ↓VC, VP, TT, List.getElem?_toArray, Nat.reduceEqDiff, reduceCtorEq, Nat.reduceAdd, Nat.reduceSub, Nat.reduceLT, Nat.reduceMul, Nat.reducePow, Nat.reduceLeDiff, Int.reduceToNat, Int.reduceLE, Int.reduceLT, Int.reducePow]
  refine kCall_val (c_impl_power254 m a hm hm') (by rfl) [] (by simp [CALL]) (by simp [CALL]) (by simp [CALL]) (by simp) ?_
  simp only [CALL, ↓VC, VP, TT, List.getElem?_toArray, Nat.reduceEqDiff, reduceCtorEq, Nat.reduceAdd, Nat.reduceSub, Nat.reduceLT, Nat.reduceMul, Nat.reducePow, Nat.reduceLeDiff, Int.reduceToNat, Int.reduceLE, Int.reduceLT, Int.reducePow]
  refine ⟨_, _, [], ⟨rfl, rfl⟩, ?_⟩; simp [-List.reduceReplicate, LES]
end Go.Proofs.Ytledcckafhpgaaa

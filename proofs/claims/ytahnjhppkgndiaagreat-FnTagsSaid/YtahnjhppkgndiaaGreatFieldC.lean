import Derived.Test.YtahnjhppkgndiaaGreatTk
import Derived.Test.YtahnjhppkgndiaaGreatEnv
/- The field's functions of the program and of the reference: what they compute. -/
set_option linter.unusedSimpArgs false
set_option linter.unusedVariables false
namespace Go.Proofs.YtahnjhppkgndiaaGreat
open Go Go.Vc
set_option maxRecDepth 10000
theorem shl_nat (x k : Nat) (i : Int) (h : x * 2 ^ k < 9223372036854775808) (hk : k ≤ 63) (hi : i = k) : IntKind.i64.wrap ((x : Int) * 2 ^ (min i.toNat 64)) = ((x <<< k : Nat) : Int) := by
  subst hi
  rw [Int.toNat_natCast, Nat.min_eq_left (by omega), show (x : Int) * 2 ^ k = ((x * 2 ^ k : Nat) : Int) by simp, wrap_i64 (by omega) (by omega), Nat.shiftLeft_eq]
theorem bit_test (r k : Nat) (i : Int) (hi : i = k) (hk : k ≤ 63) (hr : r < 9223372036854775808) : (bitI .and .i64 ((r : Int).fdiv (2 ^ min i.toNat 64)) 1 == 1) = r.testBit k := by
  subst hi
  rw [Int.toNat_natCast, Nat.min_eq_left (by omega), shr_nat, bitI_and1 (Nat.lt_of_le_of_lt (Nat.div_le_self _ _) hr), bit_mod]
theorem bit_test8 (r : UInt8) (k : Nat) (i : Int) (hi : i = k) (hk : k ≤ 8) : (bitI .and .u8 ((r.toNat : Int).fdiv (2 ^ min i.toNat 8)) 1 == 1) = r.toNat.testBit k := by
  subst hi
  have := r.toNat_lt
  rw [Int.toNat_natCast, Nat.min_eq_left (by omega), shr_nat, bitI_and1_8 _ (Nat.lt_of_le_of_lt (Nat.div_le_self _ _) r.toNat_lt), bit_mod]
theorem stepR_lt {x m d i : Nat} (hx : x < 33554432) (hm : m < 512) (hi : i ≤ 15) : stepR m d i x < 33554432 := by
  unfold stepR
  split
  · refine Nat.xor_lt_two_pow (n := 25) hx ?_
    rw [Nat.shiftLeft_eq]
    have : 2 ^ (i - d) ≤ 2 ^ 15 := Nat.pow_le_pow_right (by decide) (by omega)
    calc m * 2 ^ (i - d) ≤ m * 2 ^ 15 := Nat.mul_le_mul_left _ this
      _ < 2 ^ 25 := by omega
  · exact hx
theorem resP_lt {x m d : Nat} (hx : x < 33554432) (hm : m < 512) : ∀ j, resP m d x j < 33554432
  | 0 => hx
  | j + 1 => stepR_lt (resP_lt hx hm j) hm (by omega)
theorem c_impl_rest (x m d : Nat) (hx : x < 33554432) (hm : m < 512) (hd : d ≤ 15) : LC Tryz.prog 183 [.c (.int .i64 (x)), .c (.int .i64 (m)), .c (.int .i64 (d))] [] (fun v hp => v = .c (.int .i64 ((resP m d x (16 - d) : Nat))) ∧ hp = []) := by
  refine LC_of (X := XX (fun _ => .nil) (fun _ => []) [15, 71, 72, 73, 79, 80, 87, 90, 91, 93, 99, 119, 137, 176, 177, 203, 204, 212, 219] 0) envOK Tryz.func183 (by kernel_rfl) (by kernel_rfl) rfl (Nat.le_of_ble_eq_true (by kernel_rfl)) ?_
  simp only [kFun, Tryz.f183, List.length_nil, List.length_cons, Nat.sub_zero, Nat.reduceSub, Nat.reduceAdd, List.nil_append, List.cons_append, List.replicate_succ, List.replicate_zero]
  simp only [XX, ↓VC, VP, TT, Nat.reduceEqDiff, reduceCtorEq, Nat.reduceAdd, Nat.reduceSub, Nat.reduceLT, Nat.reduceMul, Nat.reducePow, Nat.reduceLeDiff, Int.reduceToNat, Int.reduceLE, Int.reduceLT, Int.reducePow]
  refine kLoop_of (fun j : Nat => ([.c (.int .i64 ((resP m d x j : Nat))), .c (.int .i64 (m)), .c (.int .i64 (d)), .j, .j, .j, .j, .c (.int .i64 ((15 : Int) - j)), .j, .j, .j, .j, .j, .j, .j, .j, .j, .j, .j, .j, .j, .j, .j, .j, .j, .j], [])) (fun j => 16 - d - j) (fun j => j ≤ 16 - d) 0 (by simp) ⟨[], by simp [-List.reduceReplicate, LES, resP]⟩ ?_
  intro j hj
  simp only [↓VC, VP, TT, Nat.reduceEqDiff, reduceCtorEq, Nat.reduceAdd, Nat.reduceSub, Nat.reduceLT, Nat.reduceMul, Nat.reducePow, Nat.reduceLeDiff, Int.reduceToNat, Int.reduceLE, Int.reduceLT, Int.reducePow]
  have hlt := resP_lt (d := d) hx hm j
  refine ⟨fun h => ⟨by omega, fun hb => ?_, fun hb => ?_⟩, fun h => ?_⟩
  · rw [bit_test _ (15 - j) _ (by omega) (by omega) (by omega)] at hb
    have ew : IntKind.i64.wrap ((15 : Int) - j - d) = ((15 - j - d : Nat) : Int) := by rw [wrap_i64 (by omega) (by omega)]; omega
    have hp : 2 ^ (15 - j - d) ≤ 2 ^ 15 := Nat.pow_le_pow_right (by decide) (by omega)
    have hms : m * 2 ^ (15 - j - d) ≤ 512 * 2 ^ 15 := Nat.mul_le_mul (by omega) hp
    refine ⟨by rw [ew]; omega, j + 1, by omega, by omega, [], ?_⟩
    rw [shl_nat m (15 - j - d) _ (by omega) (by omega) ew, bitI_xor64 (by omega) (by rw [Nat.shiftLeft_eq]; omega), wrap_i64 (n := 15 - (j : Int) - 1) (by omega) (by omega)]
    have : resP m d x (j + 1) = resP m d x j ^^^ (m <<< (15 - j - d)) := by rw [resP, stepR, if_pos hb]
    simp [-List.reduceReplicate, LES, this]; omega
  · rw [bit_test _ (15 - j) _ (by omega) (by omega) (by omega)] at hb
    refine ⟨j + 1, by omega, by omega, [], ?_⟩
    rw [wrap_i64 (n := 15 - (j : Int) - 1) (by omega) (by omega)]
    have : resP m d x (j + 1) = resP m d x j := by rw [resP, stepR, if_neg (by simp [hb])]
    simp [-List.reduceReplicate, LES, this]; omega
  · obtain rfl : j = 16 - d := by omega
    refine ⟨_, _, [], ⟨rfl, rfl⟩, ?_⟩; simp [-List.reduceReplicate, LES]
theorem c_spec_l01Times (m : Nat) (a b : UInt8) (hm : 256 ≤ m) (hm' : m < 512) : LC Tryz.prog 210 [.c (.int .i64 (m)), .c (.int .u8 ((a).toNat : Int)), .c (.int .u8 ((b).toNat : Int))] [] (fun v hp => v = .c (.int .u8 ((tmul m a b).toNat : Int)) ∧ hp = []) := by
  have ha := a.toNat_lt
  have hb := b.toNat_lt
  refine LC_of (X := XX (fun _ => .nil) (fun _ => []) [15, 71, 72, 73, 79, 80, 87, 90, 91, 93, 99, 119, 137, 176, 177, 203, 204, 212, 219] 0) envOK Tryz.func210 (by kernel_rfl) (by kernel_rfl) rfl (Nat.le_of_ble_eq_true (by kernel_rfl)) ?_
  simp only [kFun, Tryz.f210, List.length_nil, List.length_cons, Nat.sub_zero, Nat.reduceSub, Nat.reduceAdd, List.nil_append, List.cons_append, List.replicate_succ, List.replicate_zero]
  simp only [XX, ↓VC, VP, TT, Nat.reduceEqDiff, reduceCtorEq, Nat.reduceAdd, Nat.reduceSub, Nat.reduceLT, Nat.reduceMul, Nat.reducePow, Nat.reduceLeDiff, Int.reduceToNat, Int.reduceLE, Int.reduceLT, Int.reducePow]
  refine kLoop_of (fun j : Nat => ([.c (.int .i64 (m)), .j, .j, .j, .j, .j, .j, .c (.int .i64 ((tmP m a.toNat b.toNat j : Nat))), .c (.int .i64 ((nowN m a.toNat j : Nat))), .c (.int .i64 ((b.toNat / 2 ^ j : Nat))), .j, .j, .j, .j, .j, .j, .j, .j, .j, .j, .j, .j, .j, .j, .j, .j, .j, .j, .j, .j, .j, .j, .j], [])) (fun j => 8 - j) (fun j => j ≤ 8) 0 (by simp)
    ⟨[], by rw [wrap_i64 (by omega) (by omega), wrap_i64 (by omega) (by omega)]; simp [-List.reduceReplicate, LES, tmP, nowN]⟩ ?_
  intro j hj
  simp only [↓VC, VP, TT, Nat.reduceEqDiff, reduceCtorEq, Nat.reduceAdd, Nat.reduceSub, Nat.reduceLT, Nat.reduceMul, Nat.reducePow, Nat.reduceLeDiff, Int.reduceToNat, Int.reduceLE, Int.reduceLT, Int.reducePow]
  have h1 := tmP_lt (b := b.toNat) hm hm' ha j
  have h2 := nowN_lt hm hm' ha j
  have ew : IntKind.i64.wrap ((nowN m a.toNat j : Int) * 2) = ((2 * nowN m a.toNat j : Nat) : Int) := by rw [wrap_i64 (by omega) (by omega)]; omega
  have eb : (((b.toNat / 2 ^ j : Nat) : Int).tmod 2 == 1) = b.toNat.testBit j := by
    rw [← bit_mod, Int.tmod_eq_emod_of_nonneg (Int.natCast_nonneg _)]; rfl
  have hj8 : 0 < b.toNat / 2 ^ j → j < 8 := fun h => by
    rcases Nat.lt_or_ge j 8 with h' | h'
    · exact h'
    · obtain rfl : j = 8 := by omega
      rw [show (2 : Nat) ^ 8 = 256 from rfl] at h; omega
  have hdone := tmP_all (m := m) (a := a.toNat) (b := b.toNat) (i := j)
  have e2 : b.toNat / 2 ^ (j + 1) = b.toNat / 2 ^ j / 2 := by rw [Nat.pow_succ, ← Nat.div_div_eq_div_mul]
  have hle := Nat.div_le_self b.toNat (2 ^ j)
  rw [eb]
  generalize hqd : b.toNat / 2 ^ j = q at *
  have eq : IntKind.i64.wrap ((q : Int).tdiv 2) = ((q / 2 : Nat) : Int) := by
    rw [Int.tdiv_eq_ediv_of_nonneg (by omega), wrap_i64 (by omega) (by omega)]; omega
  rw [ew, eq, bitI_xor64 (by omega) (by omega), bitI_xor64 (by omega) (by omega)]
  have t1 : b.toNat.testBit j = true → tmP m a.toNat b.toNat (j + 1) = tmP m a.toNat b.toNat j ^^^ nowN m a.toNat j := fun h => by rw [tmP, if_pos h]
  have t0 : b.toNat.testBit j = false → tmP m a.toNat b.toNat (j + 1) = tmP m a.toNat b.toNat j := fun h => by rw [tmP, if_neg (by simp [h])]; simp
  have r1 : 2 * nowN m a.toNat j ≥ 256 → nowN m a.toNat (j + 1) = 2 * nowN m a.toNat j ^^^ m := fun h => by rw [nowN, red, if_neg (by omega)]
  have r0 : ¬ 2 * nowN m a.toNat j ≥ 256 → nowN m a.toNat (j + 1) = 2 * nowN m a.toNat j := fun h => by rw [nowN, red, if_pos (by omega)]
  refine ⟨fun h => ⟨by omega, fun ht => ⟨fun hr => ⟨by omega, j + 1, by omega, by omega, [], ?_⟩, fun hr => ⟨by omega, j + 1, by omega, by omega, [], ?_⟩⟩,
    fun ht => ⟨fun hr => ⟨by omega, j + 1, by omega, by omega, [], ?_⟩, fun hr => ⟨by omega, j + 1, by omega, by omega, [], ?_⟩⟩⟩, fun h => ?_⟩
  · simp [-List.reduceReplicate, LES, t1 ht, r1 (by omega), e2]
  · simp [-List.reduceReplicate, LES, t1 ht, r0 (by omega), e2]
  · simp [-List.reduceReplicate, LES, t0 ht, r1 (by omega), e2]
  · simp [-List.reduceReplicate, LES, t0 ht, r0 (by omega), e2]
  · rw [hdone (by omega) hj, wrap_u8, ← tmul_nat hm hm', ofInt_toNat]
    refine ⟨_, _, [], ⟨rfl, rfl⟩, ?_⟩; simp [-List.reduceReplicate, LES]
theorem c_impl_times (m : Nat) (a b : UInt8) (hm : 256 ≤ m) (hm' : m < 512) : LC Tryz.prog 180 [.c (.int .i64 (m)), .c (.int .u8 ((a).toNat : Int)), .c (.int .u8 ((b).toNat : Int))] [] (fun v hp => v = .c (.int .u8 ((tmul m a b).toNat : Int)) ∧ hp = []) := by
  have ha := a.toNat_lt
  have hb := b.toNat_lt
  refine LC_of (X := XX (fun _ => .nil) (fun _ => []) [15, 71, 72, 73, 79, 80, 87, 90, 91, 93, 99, 119, 137, 176, 177, 203, 204, 212, 219] 0) envOK Tryz.func180 (by kernel_rfl) (by kernel_rfl) rfl (Nat.le_of_ble_eq_true (by kernel_rfl)) ?_
  simp only [kFun, Tryz.f180, List.length_nil, List.length_cons, Nat.sub_zero, Nat.reduceSub, Nat.reduceAdd, List.nil_append, List.cons_append, List.replicate_succ, List.replicate_zero]
  simp only [XX, ↓VC, VP, TT, Nat.reduceEqDiff, reduceCtorEq, Nat.reduceAdd, Nat.reduceSub, Nat.reduceLT, Nat.reduceMul, Nat.reducePow, Nat.reduceLeDiff, Int.reduceToNat, Int.reduceLE, Int.reduceLT, Int.reducePow]
  refine kLoop_of (fun j : Nat => ([.c (.int .i64 (m)), .c (.int .u8 ((a).toNat : Int)), .c (.int .u8 ((b).toNat : Int)), .j, .j, .j, .j, .c (.int .i64 ((prodP a.toNat b.toNat j : Nat))), .j, .c (.int .i64 (j)), .j, .j, .j, .j, .j, .j, .j, .j, .j, .j, .j, .j, .j, .j, .j, .j, .j, .j], [])) (fun j => 8 - j) (fun j => j ≤ 8) 0 (by simp) ⟨[], by simp [-List.reduceReplicate, LES, prodP]⟩ ?_
  intro j hj
  simp only [↓VC, VP, TT, Nat.reduceEqDiff, reduceCtorEq, Nat.reduceAdd, Nat.reduceSub, Nat.reduceLT, Nat.reduceMul, Nat.reducePow, Nat.reduceLeDiff, Int.reduceToNat, Int.reduceLE, Int.reduceLT, Int.reducePow]
  have hpl := prodP_lt (b := b.toNat) ha j hj
  have e1 := bit_test8 b j j rfl hj
  rw [Int.toNat_natCast] at e1
  rw [e1]
  refine ⟨fun h => ⟨fun ht => ?_, fun ht => ?_⟩, fun h => ?_⟩
  · have hp : 2 ^ j ≤ 2 ^ 7 := Nat.pow_le_pow_right (by decide) (by omega)
    have hms : a.toNat * 2 ^ j ≤ 256 * 2 ^ 7 := Nat.mul_le_mul (by omega) hp
    refine ⟨j + 1, by omega, by omega, [], ?_⟩
    have e2 := shl_nat a.toNat j j (by omega) (by omega) rfl
    rw [Int.toNat_natCast] at e2
    rw [wrap_i64 (n := ((a.toNat : Nat) : Int)) (by omega) (by omega), e2, bitI_xor64 (by omega) (by rw [Nat.shiftLeft_eq]; omega), wrap_i64 (by omega) (by omega)]
    have : prodP a.toNat b.toNat (j + 1) = prodP a.toNat b.toNat j ^^^ (a.toNat <<< j) := by rw [prodP, if_pos ht]
    simp [-List.reduceReplicate, LES, this]
  · refine ⟨j + 1, by omega, by omega, [], ?_⟩
    rw [wrap_i64 (by omega) (by omega)]
    have : prodP a.toNat b.toNat (j + 1) = prodP a.toNat b.toNat j := by rw [prodP, if_neg (by simp [ht])]; simp
    simp [-List.reduceReplicate, LES, this]
  · obtain rfl : j = 8 := by omega
    refine kCall_val (c_impl_rest (prodP a.toNat b.toNat 8) m 8 (by omega) (by omega) (by omega)) (by rfl) [] (by simp [CALL]) (by simp [CALL]) (by simp [CALL]) (by simp) ?_
    simp only [CALL, ↓VC, VP, TT, Nat.reduceEqDiff, reduceCtorEq, Nat.reduceAdd, Nat.reduceSub, Nat.reduceLT, Nat.reduceMul, Nat.reducePow, Nat.reduceLeDiff, Int.reduceToNat, Int.reduceLE, Int.reduceLT, Int.reducePow]
    rw [times_eq hm hm' ha 8 (by omega), wrap_u8, ← tmul_nat hm hm', ofInt_toNat]
    refine ⟨_, _, [], ⟨rfl, rfl⟩, ?_⟩; simp [-List.reduceReplicate, LES]
theorem tdiv2 (n j : Nat) (h : n < 9223372036854775808) : IntKind.i64.wrap (((n / 2 ^ j : Nat) : Int).tdiv 2) = ((n / 2 ^ (j + 1) : Nat) : Int) := by
  have e2 : n / 2 ^ (j + 1) = n / 2 ^ j / 2 := by rw [Nat.pow_succ, ← Nat.div_div_eq_div_mul]
  have hle := Nat.div_le_self n (2 ^ j)
  rw [e2]
  generalize n / 2 ^ j = q at *
  rw [Int.tdiv_eq_ediv_of_nonneg (by omega), wrap_i64 (by omega) (by omega)]; omega
theorem pw254_bits : ∀ j, j ≤ 8 → (0 < 254 / 2 ^ j ↔ j < 8) := by decide
theorem c_spec_l01Power254 (m : Nat) (a : UInt8) (hm : 256 ≤ m) (hm' : m < 512) : LC Tryz.prog 215 [.c (.int .i64 (m)), .c (.int .u8 ((a).toNat : Int)), .c (.int .i64 (254))] [] (fun v hp => v = .c (.int .u8 ((pw254 m a).toNat : Int)) ∧ hp = []) := by
  refine LC_of (X := XX (fun _ => .nil) (fun _ => []) [15, 71, 72, 73, 79, 80, 87, 90, 91, 93, 99, 119, 137, 176, 177, 203, 204, 212, 219] 0) envOK Tryz.func215 (by kernel_rfl) (by kernel_rfl) rfl (Nat.le_of_ble_eq_true (by kernel_rfl)) ?_
  simp only [kFun, Tryz.f215, List.length_nil, List.length_cons, Nat.sub_zero, Nat.reduceSub, Nat.reduceAdd, List.nil_append, List.cons_append, List.replicate_succ, List.replicate_zero]
  simp only [XX, ↓VC, VP, TT, Nat.reduceEqDiff, reduceCtorEq, Nat.reduceAdd, Nat.reduceSub, Nat.reduceLT, Nat.reduceMul, Nat.reducePow, Nat.reduceLeDiff, Int.reduceToNat, Int.reduceLE, Int.reduceLT, Int.reducePow]
  refine kLoop_of (fun j : Nat => ([.c (.int .i64 (m)), .c (.int .u8 (((pwS m 254 j (1, a)).2).toNat : Int)), .c (.int .i64 ((254 / 2 ^ j : Nat))), .j, .j, .j, .j, .c (.int .u8 (((pwS m 254 j (1, a)).1).toNat : Int)), .j, .j, .j, .j, .j, .j, .j, .j, .j, .j, .j, .j, .j, .j, .j, .j], [])) (fun j => 8 - j) (fun j => j ≤ 8) 0 (by simp) ⟨[], by simp [-List.reduceReplicate, LES, pwS]⟩ ?_
  intro j hj
  simp only [↓VC, VP, TT, Nat.reduceEqDiff, reduceCtorEq, Nat.reduceAdd, Nat.reduceSub, Nat.reduceLT, Nat.reduceMul, Nat.reducePow, Nat.reduceLeDiff, Int.reduceToNat, Int.reduceLE, Int.reduceLT, Int.reducePow]
  have e1 : (((254 / 2 ^ j : Nat) : Int).tmod 2 == 1) = decide ((254 / 2 ^ j) % 2 = 1) := by
    rw [Int.tmod_eq_emod_of_nonneg (Int.natCast_nonneg _), Bool.eq_iff_iff, beq_iff_eq, decide_eq_true_eq]; omega
  have hb := pw254_bits j hj
  rw [e1]
  refine ⟨fun h => ⟨by omega, fun ht => ?_, fun ht => ?_⟩, fun h => ?_⟩
  · refine kCall_val (c_spec_l01Times m (pwS m 254 j (1, a)).1 (pwS m 254 j (1, a)).2 hm hm') (by rfl) [] (by simp [CALL]) (by simp [CALL, cellsAt]) (by simp [CALL]) (by simp [okL_bs]) ?_
    simp only [CALL, ↓VC, VP, TT, Nat.reduceEqDiff, reduceCtorEq, Nat.reduceAdd, Nat.reduceSub, Nat.reduceLT, Nat.reduceMul, Nat.reducePow, Nat.reduceLeDiff, Int.reduceToNat, Int.reduceLE, Int.reduceLT, Int.reducePow]
    refine kCall_val (c_spec_l01Times m (pwS m 254 j (1, a)).2 (pwS m 254 j (1, a)).2 hm hm') (by rfl) [] (by simp [CALL]) (by simp [CALL, cellsAt]) (by simp [CALL]) (by simp [okL_bs]) ?_
    simp only [CALL, ↓VC, VP, TT, Nat.reduceEqDiff, reduceCtorEq, Nat.reduceAdd, Nat.reduceSub, Nat.reduceLT, Nat.reduceMul, Nat.reducePow, Nat.reduceLeDiff, Int.reduceToNat, Int.reduceLE, Int.reduceLT, Int.reducePow]
    refine ⟨by omega, j + 1, by omega, by omega, [], ?_⟩
    rw [tdiv2 _ _ (by omega)]
    simp [-List.reduceReplicate, LES, pwS, of_decide_eq_true ht]
  · refine kCall_val (c_spec_l01Times m (pwS m 254 j (1, a)).2 (pwS m 254 j (1, a)).2 hm hm') (by rfl) [] (by simp [CALL]) (by simp [CALL, cellsAt]) (by simp [CALL]) (by simp [okL_bs]) ?_
    simp only [CALL, ↓VC, VP, TT, Nat.reduceEqDiff, reduceCtorEq, Nat.reduceAdd, Nat.reduceSub, Nat.reduceLT, Nat.reduceMul, Nat.reducePow, Nat.reduceLeDiff, Int.reduceToNat, Int.reduceLE, Int.reduceLT, Int.reducePow]
    refine ⟨by omega, j + 1, by omega, by omega, [], ?_⟩
    rw [tdiv2 _ _ (by omega)]
    simp [-List.reduceReplicate, LES, pwS, of_decide_eq_false ht]
  · obtain rfl : j = 8 := by omega
    refine ⟨_, _, [], ⟨rfl, rfl⟩, ?_⟩; simp [-List.reduceReplicate, LES, pw254]
theorem c_spec_l01Inv (m : Nat) (a : UInt8) (hm : 256 ≤ m) (hm' : m < 512) : LC Tryz.prog 197 [.c (.int .i64 (m)), .c (.int .u8 ((a).toNat : Int))] [] (fun v hp => v = .c (.int .u8 ((pw254 m a).toNat : Int)) ∧ hp = []) := by
  refine LC_of (X := XX (fun _ => .nil) (fun _ => []) [15, 71, 72, 73, 79, 80, 87, 90, 91, 93, 99, 119, 137, 176, 177, 203, 204, 212, 219] 0) envOK Tryz.func197 (by kernel_rfl) (by kernel_rfl) rfl (Nat.le_of_ble_eq_true (by kernel_rfl)) ?_
  simp only [kFun, Tryz.f197, List.length_nil, List.length_cons, Nat.sub_zero, Nat.reduceSub, Nat.reduceAdd, List.nil_append, List.cons_append, List.replicate_succ, List.replicate_zero]
  simp only [XX, ↓VC, VP, TT, Nat.reduceEqDiff, reduceCtorEq, Nat.reduceAdd, Nat.reduceSub, Nat.reduceLT, Nat.reduceMul, Nat.reducePow, Nat.reduceLeDiff, Int.reduceToNat, Int.reduceLE, Int.reduceLT, Int.reducePow]
  refine kCall_val (c_spec_l01Power254 m a hm hm') (by rfl) [] (by simp [CALL]) (by simp [CALL]) (by simp [CALL]) (by simp) ?_
  simp only [CALL, ↓VC, VP, TT, Nat.reduceEqDiff, reduceCtorEq, Nat.reduceAdd, Nat.reduceSub, Nat.reduceLT, Nat.reduceMul, Nat.reducePow, Nat.reduceLeDiff, Int.reduceToNat, Int.reduceLE, Int.reduceLT, Int.reducePow]
  refine ⟨_, _, [], ⟨rfl, rfl⟩, ?_⟩; simp [-List.reduceReplicate, LES]
theorem c_impl_power254 (m : Nat) (a : UInt8) (hm : 256 ≤ m) (hm' : m < 512) : LC Tryz.prog 205 [.c (.int .i64 (m)), .c (.int .u8 ((a).toNat : Int)), .c (.int .i64 (254))] [] (fun v hp => v = .c (.int .u8 ((pw254 m a).toNat : Int)) ∧ hp = []) := by
  refine LC_of (X := XX (fun _ => .nil) (fun _ => []) [15, 71, 72, 73, 79, 80, 87, 90, 91, 93, 99, 119, 137, 176, 177, 203, 204, 212, 219] 0) envOK Tryz.func205 (by kernel_rfl) (by kernel_rfl) rfl (Nat.le_of_ble_eq_true (by kernel_rfl)) ?_
  simp only [kFun, Tryz.f205, List.length_nil, List.length_cons, Nat.sub_zero, Nat.reduceSub, Nat.reduceAdd, List.nil_append, List.cons_append, List.replicate_succ, List.replicate_zero]
  simp only [XX, ↓VC, VP, TT, Nat.reduceEqDiff, reduceCtorEq, Nat.reduceAdd, Nat.reduceSub, Nat.reduceLT, Nat.reduceMul, Nat.reducePow, Nat.reduceLeDiff, Int.reduceToNat, Int.reduceLE, Int.reduceLT, Int.reducePow]
  refine kLoop_of (fun j : Nat => ([.c (.int .i64 (m)), .c (.int .u8 (((pwS m 254 j (1, a)).2).toNat : Int)), .c (.int .i64 ((254 / 2 ^ j : Nat))), .j, .j, .j, .j, .c (.int .u8 (((pwS m 254 j (1, a)).1).toNat : Int)), .j, .j, .j, .j, .j, .j, .j, .j, .j, .j, .j, .j, .j, .j, .j, .j], [])) (fun j => 8 - j) (fun j => j ≤ 8) 0 (by simp) ⟨[], by simp [-List.reduceReplicate, LES, pwS]⟩ ?_
  intro j hj
  simp only [↓VC, VP, TT, Nat.reduceEqDiff, reduceCtorEq, Nat.reduceAdd, Nat.reduceSub, Nat.reduceLT, Nat.reduceMul, Nat.reducePow, Nat.reduceLeDiff, Int.reduceToNat, Int.reduceLE, Int.reduceLT, Int.reducePow]
  have e1 : (((254 / 2 ^ j : Nat) : Int).tmod 2 == 1) = decide ((254 / 2 ^ j) % 2 = 1) := by
    rw [Int.tmod_eq_emod_of_nonneg (Int.natCast_nonneg _), Bool.eq_iff_iff, beq_iff_eq, decide_eq_true_eq]; omega
  have hb := pw254_bits j hj
  rw [e1]
  refine ⟨fun h => ⟨by omega, fun ht => ?_, fun ht => ?_⟩, fun h => ?_⟩
  · refine kCall_val (c_impl_times m (pwS m 254 j (1, a)).1 (pwS m 254 j (1, a)).2 hm hm') (by rfl) [] (by simp [CALL]) (by simp [CALL, cellsAt]) (by simp [CALL]) (by simp [okL_bs]) ?_
    simp only [CALL, ↓VC, VP, TT, Nat.reduceEqDiff, reduceCtorEq, Nat.reduceAdd, Nat.reduceSub, Nat.reduceLT, Nat.reduceMul, Nat.reducePow, Nat.reduceLeDiff, Int.reduceToNat, Int.reduceLE, Int.reduceLT, Int.reducePow]
    refine kCall_val (c_impl_times m (pwS m 254 j (1, a)).2 (pwS m 254 j (1, a)).2 hm hm') (by rfl) [] (by simp [CALL]) (by simp [CALL, cellsAt]) (by simp [CALL]) (by simp [okL_bs]) ?_
    simp only [CALL, ↓VC, VP, TT, Nat.reduceEqDiff, reduceCtorEq, Nat.reduceAdd, Nat.reduceSub, Nat.reduceLT, Nat.reduceMul, Nat.reducePow, Nat.reduceLeDiff, Int.reduceToNat, Int.reduceLE, Int.reduceLT, Int.reducePow]
    refine ⟨by omega, j + 1, by omega, by omega, [], ?_⟩
    rw [tdiv2 _ _ (by omega)]
    simp [-List.reduceReplicate, LES, pwS, of_decide_eq_true ht]
  · refine kCall_val (c_impl_times m (pwS m 254 j (1, a)).2 (pwS m 254 j (1, a)).2 hm hm') (by rfl) [] (by simp [CALL]) (by simp [CALL, cellsAt]) (by simp [CALL]) (by simp [okL_bs]) ?_
    simp only [CALL, ↓VC, VP, TT, Nat.reduceEqDiff, reduceCtorEq, Nat.reduceAdd, Nat.reduceSub, Nat.reduceLT, Nat.reduceMul, Nat.reducePow, Nat.reduceLeDiff, Int.reduceToNat, Int.reduceLE, Int.reduceLT, Int.reducePow]
    refine ⟨by omega, j + 1, by omega, by omega, [], ?_⟩
    rw [tdiv2 _ _ (by omega)]
    simp [-List.reduceReplicate, LES, pwS, of_decide_eq_false ht]
  · obtain rfl : j = 8 := by omega
    refine ⟨_, _, [], ⟨rfl, rfl⟩, ?_⟩; simp [-List.reduceReplicate, LES, pw254]
theorem c_impl_inverse (m : Nat) (a : UInt8) (hm : 256 ≤ m) (hm' : m < 512) : LC Tryz.prog 181 [.c (.int .i64 (m)), .c (.int .u8 ((a).toNat : Int))] [] (fun v hp => v = .c (.int .u8 ((pw254 m a).toNat : Int)) ∧ hp = []) := by
  refine LC_of (X := XX (fun _ => .nil) (fun _ => []) [15, 71, 72, 73, 79, 80, 87, 90, 91, 93, 99, 119, 137, 176, 177, 203, 204, 212, 219] 0) envOK Tryz.func181 (by kernel_rfl) (by kernel_rfl) rfl (Nat.le_of_ble_eq_true (by kernel_rfl)) ?_
  simp only [kFun, Tryz.f181, List.length_nil, List.length_cons, Nat.sub_zero, Nat.reduceSub, Nat.reduceAdd, List.nil_append, List.cons_append, List.replicate_succ, List.replicate_zero]
  simp only [XX, ↓VC, VP, TT, Nat.reduceEqDiff, reduceCtorEq, Nat.reduceAdd, Nat.reduceSub, Nat.reduceLT, Nat.reduceMul, Nat.reducePow, Nat.reduceLeDiff, Int.reduceToNat, Int.reduceLE, Int.reduceLT, Int.reducePow]
  refine kCall_val (c_impl_power254 m a hm hm') (by rfl) [] (by simp [CALL]) (by simp [CALL]) (by simp [CALL]) (by simp) ?_
  simp only [CALL, ↓VC, VP, TT, Nat.reduceEqDiff, reduceCtorEq, Nat.reduceAdd, Nat.reduceSub, Nat.reduceLT, Nat.reduceMul, Nat.reducePow, Nat.reduceLeDiff, Int.reduceToNat, Int.reduceLE, Int.reduceLT, Int.reducePow]
  refine ⟨_, _, [], ⟨rfl, rfl⟩, ?_⟩; simp [-List.reduceReplicate, LES]
end Go.Proofs.YtahnjhppkgndiaaGreat
/- Which numbers are fields: both ways of looking give the same answer. -/
set_option linter.unusedSimpArgs false
set_option linter.unusedVariables false
namespace Go.Proofs.YtahnjhppkgndiaaGreat
open Go Go.Vc
set_option maxRecDepth 10000
def lenB : Nat → Nat → Nat
  | 0, _ => 0
  | k + 1, n => if n = 0 then 0 else 1 + lenB k (n / 2)
theorem lenB_zero : ∀ k, lenB k 0 = 0
  | 0 => rfl
  | k + 1 => by simp [lenB]
def restS (b : Nat) : Nat → Nat → Nat
  | 0, a => a
  | k + 1, a => if lenB 10 a < lenB 10 b then a else restS b k (a ^^^ (b <<< (lenB 10 a - lenB 10 b)))
theorem restS_tab : ((List.range 32).all fun b => (List.range 512).all fun a => decide (b < 2) || decide (lenB 10 a < lenB 10 b) ||
    (decide (lenB 10 (a ^^^ (b <<< (lenB 10 a - lenB 10 b))) < lenB 10 a) && decide (a ^^^ (b <<< (lenB 10 a - lenB 10 b)) < 512) && decide (lenB 10 a - lenB 10 b ≤ 9) && decide (b <<< (lenB 10 a - lenB 10 b) < 512))) = true := by decide +kernel
theorem restS_step (b : Nat) (hb : b < 32) (hb' : 2 ≤ b) (a : Nat) (ha : a < 512) (h : lenB 10 b ≤ lenB 10 a) : lenB 10 (a ^^^ (b <<< (lenB 10 a - lenB 10 b))) < lenB 10 a ∧ a ^^^ (b <<< (lenB 10 a - lenB 10 b)) < 512 ∧ lenB 10 a - lenB 10 b ≤ 9 ∧ b <<< (lenB 10 a - lenB 10 b) < 512 := by
  have h1 := List.all_eq_true.1 restS_tab b (by simpa using hb)
  have h2 := List.all_eq_true.1 h1 a (by simpa using ha)
  simp only [Bool.or_eq_true, Bool.and_eq_true, decide_eq_true_eq] at h2
  omega
theorem restS_done {b a : Nat} (h : lenB 10 a < lenB 10 b) : ∀ k, restS b k a = a
  | 0 => rfl
  | k + 1 => by rw [restS, if_pos h]
def fieldS (m : Nat) : Bool := (List.range 30).all fun k => restS (k + 2) 10 m != 0
def fieldI (m : Nat) : Bool := (List.range 30).all fun k => resP (k + 2) (Nat.log2 (k + 2)) m (16 - Nat.log2 (k + 2)) != 0
theorem fields_eq : ∀ m, m < 512 → 256 ≤ m → fieldI m = fieldS m := by decide +kernel
def fieldB (m : Int) : Bool := decide (256 ≤ m ∧ m ≤ 511) && fieldS m.toNat
theorem fieldB_spec {m : Int} (h : fieldB m = true) : ∃ k : Nat, m = k ∧ 256 ≤ k ∧ k < 512 := by
  unfold fieldB at h
  rw [Bool.and_eq_true, decide_eq_true_eq] at h
  exact ⟨m.toNat, by omega, by omega, by omega⟩
theorem c_spec_l01In (n lo hi : Int) : LC Tryz.prog 85 [.c (.int .i64 (n)), .c (.int .i64 (lo)), .c (.int .i64 (hi))] [] (fun v hp => v = .c (.bool (decide (lo ≤ n ∧ n ≤ hi))) ∧ hp = []) := by
  refine LC_of (X := XX (fun _ => .nil) (fun _ => []) [15, 71, 72, 73, 79, 80, 87, 90, 91, 93, 99, 119, 137, 176, 177, 203, 204, 212, 219] 0) envOK Tryz.func85 (by kernel_rfl) (by kernel_rfl) rfl (Nat.le_of_ble_eq_true (by kernel_rfl)) ?_
  simp only [kFun, Tryz.f85, List.length_nil, List.length_cons, Nat.sub_zero, Nat.reduceSub, Nat.reduceAdd, List.nil_append, List.cons_append, List.replicate_succ, List.replicate_zero]
  simp only [XX, ↓VC, VP, TT, Nat.reduceEqDiff, reduceCtorEq, Nat.reduceAdd, Nat.reduceSub, Nat.reduceLT, Nat.reduceMul, Nat.reducePow, Nat.reduceLeDiff, Int.reduceToNat, Int.reduceLE, Int.reduceLT, Int.reducePow]
  refine kGd_split rfl (fun h1 => ?_) (fun h1 => ?_) <;> simp only [decide_eq_true_eq, decide_eq_false_iff_not] at h1 <;> simp only [↓VC, VP, TT, Nat.reduceEqDiff, reduceCtorEq, Nat.reduceAdd, Nat.reduceSub, Nat.reduceLT, Nat.reduceMul, Nat.reducePow, Nat.reduceLeDiff, Int.reduceToNat, Int.reduceLE, Int.reduceLT, Int.reducePow]
  · refine ⟨_, _, [], ⟨rfl, rfl⟩, ?_⟩
    rw [show decide (n ≤ hi) = decide (lo ≤ n ∧ n ≤ hi) from decide_eq_decide.2 ⟨fun h => ⟨h1, h⟩, fun h => h.2⟩]
    simp [-List.reduceReplicate, LES]
  · refine ⟨_, _, [], ⟨rfl, rfl⟩, ?_⟩
    rw [show decide (lo ≤ n ∧ n ≤ hi) = false from decide_eq_false fun h => h1 h.1]
    simp [-List.reduceReplicate, LES]
theorem c_impl_inRange (n lo hi : Int) : LC Tryz.prog 82 [.c (.int .i64 (n)), .c (.int .i64 (lo)), .c (.int .i64 (hi))] [] (fun v hp => v = .c (.bool (decide (lo ≤ n ∧ n ≤ hi))) ∧ hp = []) := by
  refine LC_of (X := XX (fun _ => .nil) (fun _ => []) [15, 71, 72, 73, 79, 80, 87, 90, 91, 93, 99, 119, 137, 176, 177, 203, 204, 212, 219] 0) envOK Tryz.func82 (by kernel_rfl) (by kernel_rfl) rfl (Nat.le_of_ble_eq_true (by kernel_rfl)) ?_
  simp only [kFun, Tryz.f82, List.length_nil, List.length_cons, Nat.sub_zero, Nat.reduceSub, Nat.reduceAdd, List.nil_append, List.cons_append, List.replicate_succ, List.replicate_zero]
  simp only [XX, ↓VC, VP, TT, Nat.reduceEqDiff, reduceCtorEq, Nat.reduceAdd, Nat.reduceSub, Nat.reduceLT, Nat.reduceMul, Nat.reducePow, Nat.reduceLeDiff, Int.reduceToNat, Int.reduceLE, Int.reduceLT, Int.reducePow]
  refine kGd_split rfl (fun h1 => ?_) (fun h1 => ?_) <;> simp only [decide_eq_true_eq, decide_eq_false_iff_not] at h1 <;> simp only [↓VC, VP, TT, Nat.reduceEqDiff, reduceCtorEq, Nat.reduceAdd, Nat.reduceSub, Nat.reduceLT, Nat.reduceMul, Nat.reducePow, Nat.reduceLeDiff, Int.reduceToNat, Int.reduceLE, Int.reduceLT, Int.reducePow]
  · refine ⟨_, _, [], ⟨rfl, rfl⟩, ?_⟩
    rw [show decide (n ≤ hi) = decide (lo ≤ n ∧ n ≤ hi) from decide_eq_decide.2 ⟨fun h => ⟨h1, h⟩, fun h => h.2⟩]
    simp [-List.reduceReplicate, LES]
  · refine ⟨_, _, [], ⟨rfl, rfl⟩, ?_⟩
    rw [show decide (lo ≤ n ∧ n ≤ hi) = false from decide_eq_false fun h => h1 h.1]
    simp [-List.reduceReplicate, LES]
theorem c_spec_l01Length (n : Nat) (hn : n < 1024) : LC Tryz.prog 208 [.c (.int .i64 (n))] [] (fun v hp => v = .c (.int .i64 ((lenB 10 n : Nat))) ∧ hp = []) := by
  refine LC_of (X := XX (fun _ => .nil) (fun _ => []) [15, 71, 72, 73, 79, 80, 87, 90, 91, 93, 99, 119, 137, 176, 177, 203, 204, 212, 219] 0) envOK Tryz.func208 (by kernel_rfl) (by kernel_rfl) rfl (Nat.le_of_ble_eq_true (by kernel_rfl)) ?_
  simp only [kFun, Tryz.f208, List.length_nil, List.length_cons, Nat.sub_zero, Nat.reduceSub, Nat.reduceAdd, List.nil_append, List.cons_append, List.replicate_succ, List.replicate_zero]
  simp only [XX, ↓VC, VP, TT, Nat.reduceEqDiff, reduceCtorEq, Nat.reduceAdd, Nat.reduceSub, Nat.reduceLT, Nat.reduceMul, Nat.reducePow, Nat.reduceLeDiff, Int.reduceToNat, Int.reduceLE, Int.reduceLT, Int.reducePow]
  refine kLoop_of (fun j : Nat => ([.c (.int .i64 ((n / 2 ^ j : Nat))), .j, .j, .c (.int .i64 (j)), .j, .j, .j, .j, .j, .j, .j], [])) (fun j => n / 2 ^ j) (fun j => j + lenB (10 - j) (n / 2 ^ j) = lenB 10 n ∧ n / 2 ^ j < 2 ^ (10 - j) ∧ j ≤ 10) 0 ⟨by simp, by simpa using hn, by omega⟩ ⟨[], by simp [-List.reduceReplicate, LES]⟩ ?_
  rintro j ⟨h1, h2, h3⟩
  simp only [↓VC, VP, TT, Nat.reduceEqDiff, reduceCtorEq, Nat.reduceAdd, Nat.reduceSub, Nat.reduceLT, Nat.reduceMul, Nat.reducePow, Nat.reduceLeDiff, Int.reduceToNat, Int.reduceLE, Int.reduceLT, Int.reducePow]
  have e2 : n / 2 ^ (j + 1) = n / 2 ^ j / 2 := by rw [Nat.pow_succ, ← Nat.div_div_eq_div_mul]
  have ht := tdiv2 n j (by omega)
  rw [e2] at ht
  rw [ht]
  generalize hq : n / 2 ^ j = q at *
  refine ⟨fun h => ⟨by omega, j + 1, ?_, by rw [e2]; omega, [], ?_⟩, fun h => ?_⟩
  · have hj : j < 10 := by
      rcases Nat.lt_or_ge j 10 with h' | h'
      · exact h'
      · rw [show 10 - j = 0 by omega] at h2; simp at h2; omega
    obtain ⟨k, hk⟩ : ∃ k, 10 - j = k + 1 := ⟨9 - j, by omega⟩
    rw [hk, lenB, if_neg (by omega)] at h1
    rw [hk, Nat.pow_succ] at h2
    rw [e2, show 10 - (j + 1) = k by omega]
    exact ⟨by omega, by omega, by omega⟩
  · rw [wrap_i64 (by omega) (by omega)]
    simp [-List.reduceReplicate, LES, e2]
  · obtain rfl : q = 0 := by omega
    rw [lenB_zero] at h1
    refine ⟨_, _, [], ⟨rfl, rfl⟩, ?_⟩; simp [-List.reduceReplicate, LES, ← h1]
theorem c_spec_l01Rest (a b : Nat) (ha : a < 512) (hb : b < 32) (hb' : 2 ≤ b) : LC Tryz.prog 186 [.c (.int .i64 (a)), .c (.int .i64 (b))] [] (fun v hp => v = .c (.int .i64 ((restS b 10 a : Nat))) ∧ hp = []) := by
  refine LC_of (X := XX (fun _ => .nil) (fun _ => []) [15, 71, 72, 73, 79, 80, 87, 90, 91, 93, 99, 119, 137, 176, 177, 203, 204, 212, 219] 0) envOK Tryz.func186 (by kernel_rfl) (by kernel_rfl) rfl (Nat.le_of_ble_eq_true (by kernel_rfl)) ?_
  simp only [kFun, Tryz.f186, List.length_nil, List.length_cons, Nat.sub_zero, Nat.reduceSub, Nat.reduceAdd, List.nil_append, List.cons_append, List.replicate_succ, List.replicate_zero]
  simp only [XX, ↓VC, VP, TT, Nat.reduceEqDiff, reduceCtorEq, Nat.reduceAdd, Nat.reduceSub, Nat.reduceLT, Nat.reduceMul, Nat.reducePow, Nat.reduceLeDiff, Int.reduceToNat, Int.reduceLE, Int.reduceLT, Int.reducePow]
  refine kCall_val (c_spec_l01Length b (by omega)) (by rfl) [] (by simp [CALL]) (by simp [CALL, cellsAt]) (by simp [CALL]) (by simp [okL_bs]) ?_
  simp only [CALL, ↓VC, VP, TT, Nat.reduceEqDiff, reduceCtorEq, Nat.reduceAdd, Nat.reduceSub, Nat.reduceLT, Nat.reduceMul, Nat.reducePow, Nat.reduceLeDiff, Int.reduceToNat, Int.reduceLE, Int.reduceLT, Int.reducePow]
  refine kCall_val (c_spec_l01Length a (by omega)) (by rfl) [] (by simp [CALL]) (by simp [CALL, cellsAt]) (by simp [CALL]) (by simp [okL_bs]) ?_
  simp only [CALL, ↓VC, VP, TT, Nat.reduceEqDiff, reduceCtorEq, Nat.reduceAdd, Nat.reduceSub, Nat.reduceLT, Nat.reduceMul, Nat.reducePow, Nat.reduceLeDiff, Int.reduceToNat, Int.reduceLE, Int.reduceLT, Int.reducePow]
  have hlen : ∀ n, lenB 10 n ≤ 10 := by
    have : ∀ k n, lenB k n ≤ k := fun k => by
      induction k with
      | zero => intro n; simp [lenB]
      | succ k ih => intro n; rw [lenB]; split; omega; have := ih (n / 2); omega
    exact this 10
  refine kLoop_of (fun s : Nat × Nat => ([.c (.int .i64 (s.1)), .c (.int .i64 (b)), .j, .j, .j, .c (.int .i64 ((lenB 10 b : Nat))), .c (.int .i64 ((lenB 10 s.1 : Nat))), .j, .j, .j, .j, .j, .j, .j, .j, .j, .j, .j, .j, .j, .j, .j, .j, .j, .j], [])) (fun s => lenB 10 s.1) (fun s => s.1 < 512 ∧ lenB 10 s.1 ≤ s.2 ∧ restS b s.2 s.1 = restS b 10 a) (a, 10) ⟨ha, hlen a, rfl⟩ ⟨[], by simp [-List.reduceReplicate, LES]⟩ ?_
  rintro ⟨x, k⟩ ⟨h1, h2, h3⟩
  simp only at h1 h2 h3
  simp only [↓VC, VP, TT, Nat.reduceEqDiff, reduceCtorEq, Nat.reduceAdd, Nat.reduceSub, Nat.reduceLT, Nat.reduceMul, Nat.reducePow, Nat.reduceLeDiff, Int.reduceToNat, Int.reduceLE, Int.reduceLT, Int.reducePow]
  refine ⟨fun h => ?_, fun h => ?_⟩
  · obtain ⟨g1, g2, g3, g4⟩ := restS_step b hb hb' x h1 (by omega)
    have ew : IntKind.i64.wrap ((lenB 10 x : Int) - lenB 10 b) = ((lenB 10 x - lenB 10 b : Nat) : Int) := by rw [wrap_i64 (by omega) (by omega)]; omega
    have ew' : IntKind.u64.wrap (((lenB 10 x - lenB 10 b : Nat) : Int)) = ((lenB 10 x - lenB 10 b : Nat) : Int) := by rw [wrap_u64 (by omega) (by omega)]
    have hs : b * 2 ^ (lenB 10 x - lenB 10 b) < 9223372036854775808 := by rw [← Nat.shiftLeft_eq]; omega
    rw [ew, ew', shl_nat b _ _ hs (by omega) rfl, bitI_xor64 (by omega) (by omega)]
    refine ⟨by omega, ?_⟩
    refine kCall_val (c_spec_l01Length (x ^^^ (b <<< (lenB 10 x - lenB 10 b))) (by omega)) (by rfl) [] (by simp [CALL]) (by simp [CALL, cellsAt]) (by simp [CALL]) (by simp [okL_bs]) ?_
    simp only [CALL, ↓VC, VP, TT, Nat.reduceEqDiff, reduceCtorEq, Nat.reduceAdd, Nat.reduceSub, Nat.reduceLT, Nat.reduceMul, Nat.reducePow, Nat.reduceLeDiff, Int.reduceToNat, Int.reduceLE, Int.reduceLT, Int.reducePow]
    obtain ⟨k', rfl⟩ : ∃ k', k = k' + 1 := ⟨k - 1, by omega⟩
    rw [restS, if_neg (by omega)] at h3
    exact ⟨(x ^^^ (b <<< (lenB 10 x - lenB 10 b)), k'), ⟨g2, by simp only; omega, h3⟩, g1, [], by simp [-List.reduceReplicate, LES]⟩
  · rw [restS_done (by omega)] at h3
    refine ⟨_, _, [], ⟨rfl, rfl⟩, ?_⟩; simp [-List.reduceReplicate, LES, ← h3]
theorem allS {p : Nat → Bool} {n : Nat} {i : Nat} (hi : i < n) (h : p i = false) : (List.range n).all p = false := by
  rw [List.all_eq_false]; exact ⟨i, by simpa using hi, by simp [h]⟩
theorem c_spec_l01Field (m : Int) : LC Tryz.prog 151 [.c (.int .i64 (m))] [] (fun v hp => v = .c (.bool (fieldB m)) ∧ hp = []) := by
  refine LC_of (X := XX (fun _ => .nil) (fun _ => []) [15, 71, 72, 73, 79, 80, 87, 90, 91, 93, 99, 119, 137, 176, 177, 203, 204, 212, 219] 0) envOK Tryz.func151 (by kernel_rfl) (by kernel_rfl) rfl (Nat.le_of_ble_eq_true (by kernel_rfl)) ?_
  simp only [kFun, Tryz.f151, List.length_nil, List.length_cons, Nat.sub_zero, Nat.reduceSub, Nat.reduceAdd, List.nil_append, List.cons_append, List.replicate_succ, List.replicate_zero]
  simp only [XX, ↓VC, VP, TT, Nat.reduceEqDiff, reduceCtorEq, Nat.reduceAdd, Nat.reduceSub, Nat.reduceLT, Nat.reduceMul, Nat.reducePow, Nat.reduceLeDiff, Int.reduceToNat, Int.reduceLE, Int.reduceLT, Int.reducePow]
  refine kCall_val (c_spec_l01In m 256 511) (by rfl) [] (by simp [CALL]) (by simp [CALL, cellsAt]) (by simp [CALL]) (by simp [okL_bs]) ?_
  simp only [CALL, ↓VC, VP, TT, Nat.reduceEqDiff, reduceCtorEq, Nat.reduceAdd, Nat.reduceSub, Nat.reduceLT, Nat.reduceMul, Nat.reducePow, Nat.reduceLeDiff, Int.reduceToNat, Int.reduceLE, Int.reduceLT, Int.reducePow]
  refine ⟨fun h => ?_, fun h => ?_⟩
  · simp only [Bool.not_eq_true', decide_eq_false_iff_not] at h
    refine ⟨_, _, [], ⟨rfl, rfl⟩, ?_⟩
    rw [show fieldB m = false by unfold fieldB; rw [decide_eq_false h]; rfl]
    simp [-List.reduceReplicate, LES]
  · simp only [Bool.not_eq_false', decide_eq_true_eq] at h
    obtain ⟨k, rfl⟩ : ∃ k : Nat, m = k := ⟨m.toNat, by omega⟩
    have hB : fieldB (k : Int) = fieldS k := by unfold fieldB; rw [decide_eq_true h]; simp
    rw [hB]
    refine kLoop_of (fun d : Nat => ([.c (.int .i64 (k)), .j, .j, .c (.int .i64 (d)), .j, .j, .j, .j, .j, .j, .j, .j, .j, .j, .j], [])) (fun d => 32 - d) (fun d => 2 ≤ d ∧ d ≤ 32 ∧ ∀ e, e + 2 < d → restS (e + 2) 10 k ≠ 0) 2 ⟨by omega, by omega, fun e he => by omega⟩ ⟨[], by simp [-List.reduceReplicate, LES]⟩ ?_
    rintro d ⟨h1, h2, h3⟩
    simp only [↓VC, VP, TT, Nat.reduceEqDiff, reduceCtorEq, Nat.reduceAdd, Nat.reduceSub, Nat.reduceLT, Nat.reduceMul, Nat.reducePow, Nat.reduceLeDiff, Int.reduceToNat, Int.reduceLE, Int.reduceLT, Int.reducePow]
    refine ⟨fun hd => ?_, fun hd => ?_⟩
    · refine kCall_val (c_spec_l01Rest k d (by omega) (by omega) h1) (by rfl) [] (by simp [CALL]) (by simp [CALL, cellsAt]) (by simp [CALL]) (by simp [okL_bs]) ?_
      simp only [CALL, ↓VC, VP, TT, Nat.reduceEqDiff, reduceCtorEq, Nat.reduceAdd, Nat.reduceSub, Nat.reduceLT, Nat.reduceMul, Nat.reducePow, Nat.reduceLeDiff, Int.reduceToNat, Int.reduceLE, Int.reduceLT, Int.reducePow]
      refine ⟨fun hz => ?_, fun hz => ?_⟩
      · have hz' : restS d 10 k = 0 := by rw [beq_iff_eq] at hz; omega
        refine ⟨_, _, [], ⟨rfl, rfl⟩, ?_⟩
        rw [show fieldS k = false from allS (i := d - 2) (by omega) (by rw [show d - 2 + 2 = d by omega, hz']; rfl)]
        simp [-List.reduceReplicate, LES]
      · have hz' : restS d 10 k ≠ 0 := fun e => by rw [e] at hz; simp at hz
        refine ⟨d + 1, ⟨by omega, by omega, fun e he => ?_⟩, by omega, [], ?_⟩
        · rcases Nat.lt_or_ge (e + 2) d with h' | h'
          · exact h3 e h'
          · obtain rfl : d = e + 2 := by omega
            exact hz'
        · rw [wrap_i64 (by omega) (by omega)]; simp [-List.reduceReplicate, LES]
    · refine ⟨_, _, [], ⟨rfl, rfl⟩, ?_⟩
      rw [show fieldS k = true from List.all_eq_true.2 fun e he => by rw [List.mem_range] at he; simpa using h3 e (by omega)]
      simp [-List.reduceReplicate, LES]
theorem log_tab : ∀ g, g ≤ 4 → ∀ d, d < 32 → 2 ^ g ≤ d → d < 2 ^ (g + 1) → Nat.log2 d = g := by decide +kernel
theorem pow_tab : ∀ g, g ≤ 5 → 2 ^ g ≤ 32 := by decide
theorem c_impl_IsField (m : Int) : LC Tryz.prog 147 [.c (.int .i64 (m))] [] (fun v hp => v = .c (.bool (fieldB m)) ∧ hp = []) := by
  refine LC_of (X := XX (fun _ => .nil) (fun _ => []) [15, 71, 72, 73, 79, 80, 87, 90, 91, 93, 99, 119, 137, 176, 177, 203, 204, 212, 219] 0) envOK Tryz.func147 (by kernel_rfl) (by kernel_rfl) rfl (Nat.le_of_ble_eq_true (by kernel_rfl)) ?_
  simp only [kFun, Tryz.f147, List.length_nil, List.length_cons, Nat.sub_zero, Nat.reduceSub, Nat.reduceAdd, List.nil_append, List.cons_append, List.replicate_succ, List.replicate_zero]
  simp only [XX, ↓VC, VP, TT, Nat.reduceEqDiff, reduceCtorEq, Nat.reduceAdd, Nat.reduceSub, Nat.reduceLT, Nat.reduceMul, Nat.reducePow, Nat.reduceLeDiff, Int.reduceToNat, Int.reduceLE, Int.reduceLT, Int.reducePow]
  refine kCall_val (c_impl_inRange m 256 511) (by rfl) [] (by simp [CALL]) (by simp [CALL, cellsAt]) (by simp [CALL]) (by simp [okL_bs]) ?_
  simp only [CALL, ↓VC, VP, TT, Nat.reduceEqDiff, reduceCtorEq, Nat.reduceAdd, Nat.reduceSub, Nat.reduceLT, Nat.reduceMul, Nat.reducePow, Nat.reduceLeDiff, Int.reduceToNat, Int.reduceLE, Int.reduceLT, Int.reducePow]
  refine ⟨fun h => ?_, fun h => ?_⟩
  · simp only [Bool.not_eq_true', decide_eq_false_iff_not] at h
    refine ⟨_, _, [], ⟨rfl, rfl⟩, ?_⟩
    rw [show fieldB m = false by unfold fieldB; rw [decide_eq_false h]; rfl]
    simp [-List.reduceReplicate, LES]
  · simp only [Bool.not_eq_false', decide_eq_true_eq] at h
    obtain ⟨k, rfl⟩ : ∃ k : Nat, m = k := ⟨m.toNat, by omega⟩
    have hB : fieldB (k : Int) = fieldI k := by unfold fieldB; rw [decide_eq_true h, fields_eq k (by omega) (by omega)]; simp
    rw [hB]
    refine kLoop_of (fun g : Nat => ([.c (.int .i64 (k)), .j, .j, .c (.int .i64 (g)), .j, .j, .j, .j, .j, .j, .j, .j, .j, .j, .j, .j, .j, .j, .j, .j, .j, .j, .j, .j, .j], [])) (fun g => 5 - g) (fun g => 1 ≤ g ∧ g ≤ 5 ∧ ∀ e, 2 ≤ e → e < 2 ^ g → resP e (Nat.log2 e) k (16 - Nat.log2 e) ≠ 0) 1 ⟨by omega, by omega, fun e he he' => by omega⟩ ⟨[], by simp [-List.reduceReplicate, LES]⟩ ?_
    rintro g ⟨h1, h2, h3⟩
    simp only [↓VC, VP, TT, Nat.reduceEqDiff, reduceCtorEq, Nat.reduceAdd, Nat.reduceSub, Nat.reduceLT, Nat.reduceMul, Nat.reducePow, Nat.reduceLeDiff, Int.reduceToNat, Int.reduceLE, Int.reduceLT, Int.reducePow]
    refine ⟨fun hg => ?_, fun hg => ?_⟩
    · have hp := pow_tab (g + 1) (by omega)
      have hp2 : 2 ^ (g + 1) = 2 * 2 ^ g := by rw [Nat.pow_succ]; omega
      have e1 := shl_nat 1 g g (by omega) (by omega) rfl
      have e2 := shl_nat 2 g g (by omega) (by omega) rfl
      rw [Int.toNat_natCast, Nat.shiftLeft_eq] at e1 e2
      rw [show ((1 : Nat) : Int) = 1 from rfl] at e1
      rw [show ((2 : Nat) : Int) = 2 from rfl] at e2
      rw [e1, Nat.one_mul]
      refine kLoop_of (fun d : Nat => ([.c (.int .i64 (k)), .j, .j, .c (.int .i64 (g)), .c (.int .i64 (d)), .j, .j, .j, .j, .j, .j, .j, .j, .j, .j, .j, .j, .j, .j, .j, .j, .j, .j, .j, .j], [])) (fun d => 32 - d) (fun d => 2 ^ g ≤ d ∧ d ≤ 2 ^ (g + 1) ∧ ∀ e, 2 ≤ e → e < d → resP e (Nat.log2 e) k (16 - Nat.log2 e) ≠ 0) (2 ^ g) ⟨by omega, by omega, h3⟩ ⟨[], by simp [-List.reduceReplicate, LES]⟩ ?_
      rintro d ⟨g1, g2, g3⟩
      simp only [↓VC, VP, TT, Nat.reduceEqDiff, reduceCtorEq, Nat.reduceAdd, Nat.reduceSub, Nat.reduceLT, Nat.reduceMul, Nat.reducePow, Nat.reduceLeDiff, Int.reduceToNat, Int.reduceLE, Int.reduceLT, Int.reducePow]
      rw [e2]
      have hg2 : 2 ≤ 2 ^ g := by
        have : 2 ^ 1 ≤ 2 ^ g := Nat.pow_le_pow_right (by decide) h1
        omega
      refine ⟨fun hd => ?_, fun hd => ?_⟩
      · refine kCall_val (c_impl_rest k d g (by omega) (by omega) (by omega)) (by rfl) [] (by simp [CALL]) (by simp [CALL, cellsAt]) (by simp [CALL]) (by simp [okL_bs]) ?_
        simp only [CALL, ↓VC, VP, TT, Nat.reduceEqDiff, reduceCtorEq, Nat.reduceAdd, Nat.reduceSub, Nat.reduceLT, Nat.reduceMul, Nat.reducePow, Nat.reduceLeDiff, Int.reduceToNat, Int.reduceLE, Int.reduceLT, Int.reducePow]
        have hlog := log_tab g (by omega) d (by omega) (by omega) (by omega)
        refine ⟨fun hz => ?_, fun hz => ?_⟩
        · have hz' : resP d g k (16 - g) = 0 := by rw [beq_iff_eq] at hz; omega
          refine ⟨_, _, [], ⟨rfl, rfl⟩, ?_⟩
          rw [show fieldI k = false from allS (i := d - 2) (by omega) (by rw [show d - 2 + 2 = d by omega, hlog, hz']; rfl)]
          simp [-List.reduceReplicate, LES]
        · have hz' : resP d g k (16 - g) ≠ 0 := fun e => by rw [e] at hz; simp at hz
          refine ⟨d + 1, ⟨by omega, by omega, fun e he he' => ?_⟩, by omega, [], ?_⟩
          · rcases Nat.lt_or_ge e d with h' | h'
            · exact g3 e he h'
            · obtain rfl : e = d := by omega
              rw [hlog]; exact hz'
          · rw [wrap_i64 (by omega) (by omega)]; simp [-List.reduceReplicate, LES]
      · obtain rfl : d = 2 ^ (g + 1) := by omega
        refine ⟨g + 1, ⟨by omega, by omega, g3⟩, by omega, [], ?_⟩
        rw [wrap_i64 (by omega) (by omega)]; simp [-List.reduceReplicate, LES]
    · obtain rfl : g = 5 := by omega
      refine ⟨_, _, [], ⟨rfl, rfl⟩, ?_⟩
      rw [show fieldI k = true from List.all_eq_true.2 fun e he => by rw [List.mem_range] at he; simpa using h3 (e + 2) (by omega) (by omega)]
      simp [-List.reduceReplicate, LES]
end Go.Proofs.YtahnjhppkgndiaaGreat

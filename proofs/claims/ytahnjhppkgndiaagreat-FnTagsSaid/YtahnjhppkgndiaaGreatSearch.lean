import Derived.Test.YtahnjhppkgndiaaGreatDigest
import Derived.Test.YtahnjhppkgndiaaGreatHexT
/- The first number behind data whose digest has enough zeros: the program and the reference. -/
set_option linter.unusedSimpArgs false
set_option linter.unusedVariables false
namespace Go.Proofs.YtahnjhppkgndiaaGreat
open Go Go.Vc
set_option maxRecDepth 10000
set_option maxHeartbeats 4000000
theorem take1b (u : UInt8) : List.take 1 (bs [u]) = bs [u] := rfl
/-- From k on, f numbers are left. -/
def schF (c : Cip) (l : List UInt8) (zs : Int) : Nat → Nat → Int × Int
  | 0, _ => (0, 4)
  | f + 1, k => if ((zerosL (c.dig (l ++ [UInt8.ofInt (k : Int)])) : Nat) : Int) ≥ zs then ((k : Int), 0) else schF c l zs f (k + 1)
theorem c_impl_SearchDigest_k (c : Cip) (l : List UInt8) (q : Nat) (hq : l.length ≤ q) (zs : Int) (hl : l.length ≤ 100) (hz : 0 ≤ zs) (hz' : zs ≤ 8) : LC Tryz.prog 23 [.a c.cells, .s 0 0 l.length q, .c (.int .i64 (zs))] [⟨false, bs l⟩]
    (fun v hp => v = .t [.c (.int .i64 ((schF c l zs 101 0).1)), .c (.int .i64 ((schF c l zs 101 0).2))] ∧ hp = [⟨false, bs l⟩]) := by
  refine LC_of (X := XX (fun _ => .nil) (fun _ => []) [15, 71, 72, 73, 79, 80, 87, 90, 91, 93, 99, 119, 137, 176, 177, 203, 204, 212, 219] 1) envOK Tryz.func23 (by kernel_rfl) (by kernel_rfl) rfl (Nat.le_of_ble_eq_true (by kernel_rfl)) ?_
  simp only [kFun, Tryz.f23, List.length_nil, List.length_cons, Nat.sub_zero, Nat.reduceSub, Nat.reduceAdd, List.nil_append, List.cons_append, List.replicate_succ, List.replicate_zero]
  simp only [XX, ↓VC, VP, TT, Nat.reduceEqDiff, reduceCtorEq, Nat.reduceAdd, Nat.reduceSub, Nat.reduceLT, Nat.reduceMul, Nat.reducePow, Nat.reduceLeDiff, Int.reduceToNat, Int.reduceLE, Int.reduceLT, Int.reducePow, k_len, ↓k_all]
  refine kCall_val (k_impl_Is c) (by rfl) [] (by simp [CALL, SCB, instL_cip, okL_cip, k_inst, k_ok, e_inst, e_take, e_ok, Cip.bl, okL, okV, take1b]) (by simp [CALL, SCB, instL_cip, okL_cip, k_inst, k_ok, e_inst, e_take, e_ok, Cip.bl, okL, okV, take1b]) (by simp [CALL, SCB, instL_cip, okL_cip, k_inst, k_ok, e_inst, e_take, e_ok, Cip.bl, okL, okV, take1b]) (by simp [okL_bs, okL_room, okL, okV, instL_cip, okL_cip, k_inst, k_ok, e_inst, e_take, e_ok, Cip.bl, okL, okV, take1b]) ?_
  simp (config := { maxSteps := 2000000 }) only [CALL, ↓VC, VP, TT, Nat.reduceEqDiff, reduceCtorEq, Nat.reduceAdd, Nat.reduceSub, Nat.reduceLT, Nat.reduceMul, Nat.reducePow, Nat.reduceLeDiff, Int.reduceToNat, Int.reduceLE, Int.reduceLT, Int.reducePow, GOB, Cip.bl, e_inst0, k_inst, k_len, abs_len, enc_len, dig_len, ↓k_all]
  refine kGd_split rfl (fun h1 => absurd h1 (by rw [decide_eq_true_eq]; omega)) (fun h1 => ?_)
  simp only [↓VC, VP, TT, Nat.reduceEqDiff, reduceCtorEq, Nat.reduceAdd, Nat.reduceSub, Nat.reduceLT, Nat.reduceMul, Nat.reducePow, Nat.reduceLeDiff, Int.reduceToNat, Int.reduceLE, Int.reduceLT, Int.reducePow, h1]
  refine kCall_val (c_impl_inRange zs 0 8) (by rfl) [] (by simp [CALL, SCB, instL_cip, okL_cip, k_inst, k_ok, e_inst, e_take, e_ok, Cip.bl, okL, okV, take1b]) (by simp [CALL, SCB, instL_cip, okL_cip, k_inst, k_ok, e_inst, e_take, e_ok, Cip.bl, okL, okV, take1b]) (by simp [CALL, SCB, instL_cip, okL_cip, k_inst, k_ok, e_inst, e_take, e_ok, Cip.bl, okL, okV, take1b]) (by simp [okL_bs, okL_room, okL, okV, instL_cip, okL_cip, k_inst, k_ok, e_inst, e_take, e_ok, Cip.bl, okL, okV, take1b]) ?_
  simp (config := { maxSteps := 2000000 }) only [CALL, ↓VC, VP, TT, Nat.reduceEqDiff, reduceCtorEq, Nat.reduceAdd, Nat.reduceSub, Nat.reduceLT, Nat.reduceMul, Nat.reducePow, Nat.reduceLeDiff, Int.reduceToNat, Int.reduceLE, Int.reduceLT, Int.reducePow, GOB, Cip.bl, e_inst0, k_inst, k_len, abs_len, enc_len, dig_len, ↓k_all]
  have hd : decide (0 ≤ zs ∧ zs ≤ 8) = true := decide_eq_true ⟨hz, hz'⟩
  simp only [↓VC, VP, TT, Nat.reduceEqDiff, reduceCtorEq, Nat.reduceAdd, Nat.reduceSub, Nat.reduceLT, Nat.reduceMul, Nat.reducePow, Nat.reduceLeDiff, Int.reduceToNat, Int.reduceLE, Int.reduceLT, Int.reducePow, hd, Bool.not_true]
  refine kCall_Ret (k_newEngine c) (by rfl) [] (by simp [CALL, SCB, instL_cip, okL_cip, k_inst, k_ok, e_inst, e_take, e_ok, Cip.bl, okL, okV, take1b]) (by simp [CALL, SCB, instL_cip, okL_cip, k_inst, k_ok, e_inst, e_take, e_ok, Cip.bl, okL, okV, take1b]) (by simp [CALL, SCB, instL_cip, okL_cip, k_inst, k_ok, e_inst, e_take, e_ok, Cip.bl, okL, okV, take1b]) (by simp [okL_bs, okL_room, okL, okV, instL_cip, okL_cip, k_inst, k_ok, e_inst, e_take, e_ok, Cip.bl, okL, okV, take1b]) (by simp [CALL, SCB, instL_cip, okL_cip, k_inst, k_ok, e_inst, e_take, e_ok, Cip.bl, okL, okV, take1b]) fun _ _ => ?_
  simp (config := { maxSteps := 2000000 }) only [CALL, ↓VC, VP, TT, Nat.reduceEqDiff, reduceCtorEq, Nat.reduceAdd, Nat.reduceSub, Nat.reduceLT, Nat.reduceMul, Nat.reducePow, Nat.reduceLeDiff, Int.reduceToNat, Int.reduceLE, Int.reduceLT, Int.reducePow, GOB, Cip.bl, e_inst0, k_inst, k_len, abs_len, enc_len, dig_len, ↓k_all]
  refine kLoop_of (fun k : Nat => ([.j, .s 0 0 l.length q, .c (.int .i64 (zs)), .j, .j, .j, .j, .j, .p 2 0, .c (.int .i64 (k)), .j, .j, .j, .j, .j, .j, .j, .j, .j, .j, .j, .j, .j, .j, .j, .j, .j, .j, .j, .j, .j, .j, .j, .j, .j, .j, .j, .j, .j, .j], [⟨false, bs l⟩, ⟨true, c.cells⟩, ⟨true, c.eng 3 4⟩, ⟨true, bs c.t1⟩, ⟨true, bs c.t2⟩])) (fun k => 101 - k) (fun k => k ≤ 101 ∧ schF c l zs (101 - k) k = schF c l zs 101 0) 0 (by simp)
    ⟨[0, 1, 2, 3, 4], by simp [-List.reduceReplicate, LES, k_ren, k_ok, e_ren, e_ok]⟩ ?_
  rintro k ⟨hk, hF⟩
  rcases Nat.lt_or_ge k 101 with h | h
  · have hb1 : [V.c (.int .u8 (IntKind.u8.wrap (k : Int)))] = bs [UInt8.ofInt (k : Int)] := by rw [wrap_u8]; rfl
    simp only [↓VC, VP, TT, Nat.reduceEqDiff, reduceCtorEq, Nat.reduceAdd, Nat.reduceSub, Nat.reduceLT, Nat.reduceMul, Nat.reducePow, Nat.reduceLeDiff, Int.reduceToNat, Int.reduceLE, Int.reduceLT, Int.reducePow, (eq_true (by omega) : ((k : Int) ≤ 100) = True), decide_true, hb1]
    refine kCall_val (k_digest2 c l [UInt8.ofInt (k : Int)] q 1 hq (by simp) (by simp; omega)) (by rfl) [(2, 0), (3, 0), (4, 0), (6, 0), (0, 0), (5, 0)] (by simp [CALL, SCB, instL_cip, okL_cip, k_inst, k_ok, e_inst, e_take, e_ok, Cip.bl, okL, okV, take1b]) (by simp [CALL, SCB, instL_cip, okL_cip, k_inst, k_ok, e_inst, e_take, e_ok, Cip.bl, okL, okV, take1b]) (by simp [CALL, SCB, instL_cip, okL_cip, k_inst, k_ok, e_inst, e_take, e_ok, Cip.bl, okL, okV, take1b]) (by simp [okL_bs, okL_room, okL, okV, instL_cip, okL_cip, k_inst, k_ok, e_inst, e_take, e_ok, Cip.bl, okL, okV, take1b]) ?_
    simp (config := { maxSteps := 2000000 }) only [CALL, ↓VC, VP, TT, Nat.reduceEqDiff, reduceCtorEq, Nat.reduceAdd, Nat.reduceSub, Nat.reduceLT, Nat.reduceMul, Nat.reducePow, Nat.reduceLeDiff, Int.reduceToNat, Int.reduceLE, Int.reduceLT, Int.reducePow, GOB, Cip.bl, e_inst0, k_inst, k_len, abs_len, enc_len, dig_len, ↓k_all]
    refine kCall_val (c_impl_LeadingZeros (c.dig (l ++ [UInt8.ofInt (k : Int)])) (dig_len _)) (by rfl) [] (by simp [CALL, SCB, instL_cip, okL_cip, k_inst, k_ok, e_inst, e_take, e_ok, Cip.bl, okL, okV, take1b]) (by simp [CALL, SCB, instL_cip, okL_cip, k_inst, k_ok, e_inst, e_take, e_ok, Cip.bl, okL, okV, take1b]) (by simp [CALL, SCB, instL_cip, okL_cip, k_inst, k_ok, e_inst, e_take, e_ok, Cip.bl, okL, okV, take1b]) (by simp [okL_bs, okL_room, okL, okV, instL_cip, okL_cip, k_inst, k_ok, e_inst, e_take, e_ok, Cip.bl, okL, okV, take1b]) ?_
    simp (config := { maxSteps := 2000000 }) only [CALL, ↓VC, VP, TT, Nat.reduceEqDiff, reduceCtorEq, Nat.reduceAdd, Nat.reduceSub, Nat.reduceLT, Nat.reduceMul, Nat.reducePow, Nat.reduceLeDiff, Int.reduceToNat, Int.reduceLE, Int.reduceLT, Int.reducePow, GOB, Cip.bl, e_inst0, k_inst, k_len, abs_len, enc_len, dig_len, ↓k_all]
    obtain ⟨f, hf⟩ : ∃ f, 101 - k = f + 1 := ⟨100 - k, by omega⟩
    rw [hf, schF] at hF
    refine ⟨fun h2 => ?_, fun h2 => ?_⟩
    · rw [if_pos (by simpa using h2)] at hF
      rw [← hF]
      refine ⟨_, _, [0], ⟨rfl, rfl⟩, ?_⟩
      simp [-List.reduceReplicate, LES] <;> rfl
    · rw [if_neg (by simpa using h2)] at hF
      refine ⟨k + 1, ⟨by omega, by rw [← hF]; congr 1; omega⟩, by omega, [0, 1, 2, 3, 4], ?_⟩
      rw [wrap_i64 (by omega) (by omega)]
      simp [-List.reduceReplicate, LES, k_ren, k_ok, e_ren, e_ok]
  · obtain rfl : k = 101 := by omega
    rw [show 101 - 101 = 0 from rfl, schF] at hF
    simp only [↓VC, VP, TT, Nat.reduceEqDiff, reduceCtorEq, Nat.reduceAdd, Nat.reduceSub, Nat.reduceLT, Nat.reduceMul, Nat.reducePow, Nat.reduceLeDiff, Int.reduceToNat, Int.reduceLE, Int.reduceLT, Int.reducePow, show (((101 : Nat) : Int) ≤ 100) = False from eq_false (by decide), decide_false]
    rw [← hF]
    refine ⟨_, _, [0], ⟨rfl, rfl⟩, ?_⟩
    simp [-List.reduceReplicate, LES] <;> rfl
theorem c_spec_SearchDigest_k (c : Cip) (l : List UInt8) (q : Nat) (hq : l.length ≤ q) (zs : Int) (hl : l.length ≤ 100) (hz : 0 ≤ zs) (hz' : zs ≤ 8) : LC Tryz.prog 24 [.a c.cells, .s 0 0 l.length q, .c (.int .i64 (zs))] [⟨false, bs l⟩]
    (fun v hp => v = .t [.c (.int .i64 ((schF c l zs 101 0).1)), .c (.int .i64 ((schF c l zs 101 0).2))] ∧ hp = [⟨false, bs l⟩]) := by
  refine LC_of (X := XX (fun | 8 => .cut (.one 1 (.one 3 (.one 4 (.one 9 (.alt (.one 0 (.alt (.one 2 (.one 5 (.one 6 (.one 7 (.one 8 (.one 10 .nil)))))) (.one 5 (.one 2 (.one 6 (.one 7 (.one 8 (.one 10 .nil)))))))) (.alt (.one 2 (.alt (.one 0 (.one 5 (.one 6 (.one 7 (.one 8 (.one 10 .nil)))))) (.one 5 (.alt (.one 0 (.one 6 (.one 7 (.one 8 (.one 10 .nil))))) (.one 6 (.one 0 (.one 7 (.one 8 (.one 10 .nil))))))))) (.one 5 (.alt (.one 0 (.one 2 (.one 6 (.one 7 (.one 8 (.one 10 .nil)))))) (.one 2 (.alt (.one 0 (.one 6 (.one 7 (.one 8 (.one 10 .nil))))) (.one 6 (.one 0 (.one 7 (.one 8 (.one 10 .nil))))))))))))))) | _ => .nil) (fun _ => []) [15, 71, 72, 73, 79, 80, 87, 90, 91, 93, 99, 119, 137, 176, 177, 203, 204, 212, 219] 1) envOK Tryz.func24 (by kernel_rfl) (by kernel_rfl) rfl (Nat.le_of_ble_eq_true (by kernel_rfl)) ?_
  simp only [kFun, Tryz.f24, List.length_nil, List.length_cons, Nat.sub_zero, Nat.reduceSub, Nat.reduceAdd, List.nil_append, List.cons_append, List.replicate_succ, List.replicate_zero]
  simp only [XX, ↓VC, VP, TT, Nat.reduceEqDiff, reduceCtorEq, Nat.reduceAdd, Nat.reduceSub, Nat.reduceLT, Nat.reduceMul, Nat.reducePow, Nat.reduceLeDiff, Int.reduceToNat, Int.reduceLE, Int.reduceLT, Int.reducePow, k_len, ↓k_all]
  refine kCall_val (k_spec_Is c) (by rfl) [] (by simp [CALL, SCB, instL_cip, okL_cip, k_inst, k_ok, e_inst, e_take, e_ok, Cip.bl, okL, okV, take1b]) (by simp [CALL, SCB, instL_cip, okL_cip, k_inst, k_ok, e_inst, e_take, e_ok, Cip.bl, okL, okV, take1b]) (by simp [CALL, SCB, instL_cip, okL_cip, k_inst, k_ok, e_inst, e_take, e_ok, Cip.bl, okL, okV, take1b]) (by simp [okL_bs, okL_room, okL, okV, instL_cip, okL_cip, k_inst, k_ok, e_inst, e_take, e_ok, Cip.bl, okL, okV, take1b]) ?_
  simp (config := { maxSteps := 2000000 }) only [CALL, ↓VC, VP, TT, Nat.reduceEqDiff, reduceCtorEq, Nat.reduceAdd, Nat.reduceSub, Nat.reduceLT, Nat.reduceMul, Nat.reducePow, Nat.reduceLeDiff, Int.reduceToNat, Int.reduceLE, Int.reduceLT, Int.reducePow, GOB, Cip.bl, e_inst0, k_inst, k_len, abs_len, enc_len, dig_len, ↓k_all]
  refine kGd_split rfl (fun h1 => absurd h1 (by rw [decide_eq_true_eq]; omega)) (fun h1 => ?_)
  simp only [↓VC, VP, TT, Nat.reduceEqDiff, reduceCtorEq, Nat.reduceAdd, Nat.reduceSub, Nat.reduceLT, Nat.reduceMul, Nat.reducePow, Nat.reduceLeDiff, Int.reduceToNat, Int.reduceLE, Int.reduceLT, Int.reducePow, h1]
  refine kCall_val (c_spec_l01In zs 0 8) (by rfl) [] (by simp [CALL, SCB, instL_cip, okL_cip, k_inst, k_ok, e_inst, e_take, e_ok, Cip.bl, okL, okV, take1b]) (by simp [CALL, SCB, instL_cip, okL_cip, k_inst, k_ok, e_inst, e_take, e_ok, Cip.bl, okL, okV, take1b]) (by simp [CALL, SCB, instL_cip, okL_cip, k_inst, k_ok, e_inst, e_take, e_ok, Cip.bl, okL, okV, take1b]) (by simp [okL_bs, okL_room, okL, okV, instL_cip, okL_cip, k_inst, k_ok, e_inst, e_take, e_ok, Cip.bl, okL, okV, take1b]) ?_
  simp (config := { maxSteps := 2000000 }) only [CALL, ↓VC, VP, TT, Nat.reduceEqDiff, reduceCtorEq, Nat.reduceAdd, Nat.reduceSub, Nat.reduceLT, Nat.reduceMul, Nat.reducePow, Nat.reduceLeDiff, Int.reduceToNat, Int.reduceLE, Int.reduceLT, Int.reducePow, GOB, Cip.bl, e_inst0, k_inst, k_len, abs_len, enc_len, dig_len, ↓k_all]
  have hd : decide (0 ≤ zs ∧ zs ≤ 8) = true := decide_eq_true ⟨hz, hz'⟩
  simp only [↓VC, VP, TT, Nat.reduceEqDiff, reduceCtorEq, Nat.reduceAdd, Nat.reduceSub, Nat.reduceLT, Nat.reduceMul, Nat.reducePow, Nat.reduceLeDiff, Int.reduceToNat, Int.reduceLE, Int.reduceLT, Int.reducePow, hd, Bool.not_true]
  refine kLoop_of (fun k : Nat => ([.j, .s 0 0 l.length q, .c (.int .i64 (zs)), .p 1 0, .j, .j, .j, .j, .c (.int .i64 (k)), .j, .j, .j, .j, .j, .j, .j, .j, .j, .j, .j, .j, .j, .j, .j, .j, .j, .j, .j, .j, .j, .j, .j, .j, .j, .j, .j, .j, .j], [⟨false, bs l⟩, ⟨true, c.cells⟩])) (fun k => 101 - k) (fun k => k ≤ 101 ∧ schF c l zs (101 - k) k = schF c l zs 101 0) 0 (by simp)
    ⟨[0, 1], by simp [-List.reduceReplicate, LES, k_ren, k_ok]⟩ ?_
  rintro k ⟨hk, hF⟩
  rcases Nat.lt_or_ge k 101 with h | h
  · have hb1 : [V.c (.int .u8 (IntKind.u8.wrap (k : Int)))] = bs [UInt8.ofInt (k : Int)] := by rw [wrap_u8]; rfl
    simp only [↓VC, VP, TT, Nat.reduceEqDiff, reduceCtorEq, Nat.reduceAdd, Nat.reduceSub, Nat.reduceLT, Nat.reduceMul, Nat.reducePow, Nat.reduceLeDiff, Int.reduceToNat, Int.reduceLE, Int.reduceLT, Int.reducePow, (eq_true (by omega) : ((k : Int) ≤ 100) = True), decide_true, hb1]
    refine kCut_of (fun _ : Unit => ([.j, .s 0 0 l.length q, .c (.int .i64 (zs)), .p 1 0, .j, .j, .j, .j, .c (.int .i64 (k)), .j, .j, .j, .j, .j, .j, .j, .j, .j, .j, .j, .j, .j, .j, .j, .j, .j, .j, .j, .j, .j, .j, .j, .j, .j, .j, .j, .c (.bool (decide (((zerosL (c.dig (l ++ [UInt8.ofInt (k : Int)])) : Nat) : Int) ≥ zs))), .j], [⟨false, bs l⟩, ⟨true, c.cells⟩])) (fun _ => True) ?_ (fun _ _ => ?_)
    · simp only [↓VC, VP, TT, Nat.reduceEqDiff, reduceCtorEq, Nat.reduceAdd, Nat.reduceSub, Nat.reduceLT, Nat.reduceMul, Nat.reducePow, Nat.reduceLeDiff, Int.reduceToNat, Int.reduceLE, Int.reduceLT, Int.reducePow, hb1, ↓k_all, k_len]
      repeat' apply And.intro
      all_goals refine kCall_Ret (c_spec_l01Copy l q hq (by omega)) (by rfl) [(0, 0)] (by simp [CALL, SCB, instL_cip, okL_cip, k_inst, k_ok, e_inst, e_take, e_ok, Cip.bl, okL, okV, take1b]) (by simp [CALL, SCB, instL_cip, okL_cip, k_inst, k_ok, e_inst, e_take, e_ok, Cip.bl, okL, okV, take1b]) (by simp [CALL, SCB, instL_cip, okL_cip, k_inst, k_ok, e_inst, e_take, e_ok, Cip.bl, okL, okV, take1b]) (by simp [okL_bs, okL_room, okL, okV, instL_cip, okL_cip, k_inst, k_ok, e_inst, e_take, e_ok, Cip.bl, okL, okV, take1b]) (by simp [CALL, SCB, instL_cip, okL_cip, k_inst, k_ok, e_inst, e_take, e_ok, Cip.bl, okL, okV, take1b]) fun r _ => ?_
                simp (config := { maxSteps := 2000000 }) only [CALL, ↓VC, VP, TT, Nat.reduceEqDiff, reduceCtorEq, Nat.reduceAdd, Nat.reduceSub, Nat.reduceLT, Nat.reduceMul, Nat.reducePow, Nat.reduceLeDiff, Int.reduceToNat, Int.reduceLE, Int.reduceLT, Int.reducePow, GOB, Cip.bl, e_inst0, k_inst, k_len, abs_len, enc_len, dig_len, ↓k_all, hb1]
      repeat' apply And.intro
      all_goals first | omega | exact .inr trivial | exact .inr (by omega) | skip
      all_goals intro r1 c1 e1 e2
      all_goals rw [bs_append]
      all_goals refine kCall_val (k_spec_of c (l ++ [UInt8.ofInt (k : Int)]) c1 (by simp; omega) (by simp; omega)) (by rfl) [(4, 0)] (by simp [CALL, SCB, instL_cip, okL_cip, k_inst, k_ok, e_inst, e_take, e_ok, Cip.bl, okL, okV, take1b]) (by simp [CALL, SCB, instL_cip, okL_cip, k_inst, k_ok, e_inst, e_take, e_ok, Cip.bl, okL, okV, take1b]) (by simp [CALL, SCB, instL_cip, okL_cip, k_inst, k_ok, e_inst, e_take, e_ok, Cip.bl, okL, okV, take1b]) (by simp [okL_bs, okL_room, okL, okV, instL_cip, okL_cip, k_inst, k_ok, e_inst, e_take, e_ok, Cip.bl, okL, okV, take1b]) ?_
                simp (config := { maxSteps := 2000000 }) only [CALL, ↓VC, VP, TT, Nat.reduceEqDiff, reduceCtorEq, Nat.reduceAdd, Nat.reduceSub, Nat.reduceLT, Nat.reduceMul, Nat.reducePow, Nat.reduceLeDiff, Int.reduceToNat, Int.reduceLE, Int.reduceLT, Int.reducePow, GOB, Cip.bl, e_inst0, k_inst, k_len, abs_len, enc_len, dig_len, ↓k_all, ↓k_all]
      all_goals refine kCall_val (c_spec_l08Zeros (c.dig (l ++ [UInt8.ofInt (k : Int)])) (dig_len _)) (by rfl) [] (by simp [CALL, SCB, instL_cip, okL_cip, k_inst, k_ok, e_inst, e_take, e_ok, Cip.bl, okL, okV, take1b]) (by simp [CALL, SCB, instL_cip, okL_cip, k_inst, k_ok, e_inst, e_take, e_ok, Cip.bl, okL, okV, take1b]) (by simp [CALL, SCB, instL_cip, okL_cip, k_inst, k_ok, e_inst, e_take, e_ok, Cip.bl, okL, okV, take1b]) (by simp [okL_bs, okL_room, okL, okV, instL_cip, okL_cip, k_inst, k_ok, e_inst, e_take, e_ok, Cip.bl, okL, okV, take1b]) ?_
                simp (config := { maxSteps := 2000000 }) only [CALL, ↓VC, VP, TT, Nat.reduceEqDiff, reduceCtorEq, Nat.reduceAdd, Nat.reduceSub, Nat.reduceLT, Nat.reduceMul, Nat.reducePow, Nat.reduceLeDiff, Int.reduceToNat, Int.reduceLE, Int.reduceLT, Int.reducePow, GOB, Cip.bl, e_inst0, k_inst, k_len, abs_len, enc_len, dig_len, ↓k_all]
      all_goals refine ⟨(), [0, 1], ?_⟩
      all_goals simp [-List.reduceReplicate, LES, k_ren, k_ok]
    simp only [↓VC, VP, TT, Nat.reduceEqDiff, reduceCtorEq, Nat.reduceAdd, Nat.reduceSub, Nat.reduceLT, Nat.reduceMul, Nat.reducePow, Nat.reduceLeDiff, Int.reduceToNat, Int.reduceLE, Int.reduceLT, Int.reducePow]
    obtain ⟨f, hf⟩ : ∃ f, 101 - k = f + 1 := ⟨100 - k, by omega⟩
    rw [hf, schF] at hF
    refine ⟨fun h2 => ?_, fun h2 => ?_⟩
    · rw [if_pos (by simpa using h2)] at hF
      rw [← hF]
      refine ⟨_, _, [0], ⟨rfl, rfl⟩, ?_⟩
      simp [-List.reduceReplicate, LES] <;> rfl
    · rw [if_neg (by simpa using h2)] at hF
      refine ⟨k + 1, ⟨by omega, by rw [← hF]; congr 1; omega⟩, by omega, [0, 1], ?_⟩
      rw [wrap_i64 (by omega) (by omega)]
      simp [-List.reduceReplicate, LES, k_ren, k_ok]
  · obtain rfl : k = 101 := by omega
    rw [show 101 - 101 = 0 from rfl, schF] at hF
    simp only [↓VC, VP, TT, Nat.reduceEqDiff, reduceCtorEq, Nat.reduceAdd, Nat.reduceSub, Nat.reduceLT, Nat.reduceMul, Nat.reducePow, Nat.reduceLeDiff, Int.reduceToNat, Int.reduceLE, Int.reduceLT, Int.reducePow, show (((101 : Nat) : Int) ≤ 100) = False from eq_false (by decide), decide_false]
    rw [← hF]
    refine ⟨_, _, [0], ⟨rfl, rfl⟩, ?_⟩
    simp [-List.reduceReplicate, LES] <;> rfl
theorem c_spec_SearchDigest_no (z n : Int) (box A pl l : List UInt8) (q : Nat) (hb : box.length = 256) (hA : A.length = 16) (hp : pl.length = 16) (zs : Int) (hl : l.length ≤ 2097152) (hB : cipB z box A pl n = false) : LC Tryz.prog 24 [.a (cipC z box A pl n), .s 0 0 l.length q, .c (.int .i64 (zs))] [⟨false, bs l⟩]
    (fun v hp => v = .t [.c (.int .i64 (0)), .c (.int .i64 (1))] ∧ hp = [⟨false, bs l⟩]) := by
  refine LC_of (X := XX (fun | 8 => .cut (.one 1 (.one 3 (.one 4 (.one 9 (.alt (.one 0 (.alt (.one 2 (.one 5 (.one 6 (.one 7 (.one 8 (.one 10 .nil)))))) (.one 5 (.one 2 (.one 6 (.one 7 (.one 8 (.one 10 .nil)))))))) (.alt (.one 2 (.alt (.one 0 (.one 5 (.one 6 (.one 7 (.one 8 (.one 10 .nil)))))) (.one 5 (.alt (.one 0 (.one 6 (.one 7 (.one 8 (.one 10 .nil))))) (.one 6 (.one 0 (.one 7 (.one 8 (.one 10 .nil))))))))) (.one 5 (.alt (.one 0 (.one 2 (.one 6 (.one 7 (.one 8 (.one 10 .nil)))))) (.one 2 (.alt (.one 0 (.one 6 (.one 7 (.one 8 (.one 10 .nil))))) (.one 6 (.one 0 (.one 7 (.one 8 (.one 10 .nil))))))))))))))) | _ => .nil) (fun _ => []) [15, 71, 72, 73, 79, 80, 87, 90, 91, 93, 99, 119, 137, 176, 177, 203, 204, 212, 219] 1) envOK Tryz.func24 (by kernel_rfl) (by kernel_rfl) rfl (Nat.le_of_ble_eq_true (by kernel_rfl)) ?_
  simp only [kFun, Tryz.f24, List.length_nil, List.length_cons, Nat.sub_zero, Nat.reduceSub, Nat.reduceAdd, List.nil_append, List.cons_append, List.replicate_succ, List.replicate_zero]
  simp only [XX, ↓VC, VP, TT, Nat.reduceEqDiff, reduceCtorEq, Nat.reduceAdd, Nat.reduceSub, Nat.reduceLT, Nat.reduceMul, Nat.reducePow, Nat.reduceLeDiff, Int.reduceToNat, Int.reduceLE, Int.reduceLT, Int.reducePow, cipC_len hb hA hp, ↓cip_all hb hA hp]
  refine kCall_val (c_spec_l04Is z n box A pl hb hA hp) (by rfl) [] (by simp [CALL, SCB, instL_cip, okL_cip, k_inst, k_ok, e_inst, e_take, e_ok, Cip.bl, okL, okV, take1b]) (by simp [CALL, SCB, instL_cip, okL_cip, k_inst, k_ok, e_inst, e_take, e_ok, Cip.bl, okL, okV, take1b]) (by simp [CALL, SCB, instL_cip, okL_cip, k_inst, k_ok, e_inst, e_take, e_ok, Cip.bl, okL, okV, take1b]) (by simp [okL_bs, okL_room, okL, okV, instL_cip, okL_cip, k_inst, k_ok, e_inst, e_take, e_ok, Cip.bl, okL, okV, take1b]) ?_
  simp (config := { maxSteps := 2000000 }) only [CALL, ↓VC, VP, TT, Nat.reduceEqDiff, reduceCtorEq, Nat.reduceAdd, Nat.reduceSub, Nat.reduceLT, Nat.reduceMul, Nat.reducePow, Nat.reduceLeDiff, Int.reduceToNat, Int.reduceLE, Int.reduceLT, Int.reducePow, GOB, Cip.bl, e_inst0, k_inst, k_len, abs_len, enc_len, dig_len, ↓k_all, hB]
  refine ⟨_, _, [0], ⟨rfl, rfl⟩, ?_⟩
  simp [-List.reduceReplicate, LES] <;> rfl
theorem c_spec_SearchDigest_range (c : Cip) (l : List UInt8) (q : Nat) (zs : Int) (hl : l.length ≤ 2097152) (hr : ¬ (l.length ≤ 100 ∧ 0 ≤ zs ∧ zs ≤ 8)) : LC Tryz.prog 24 [.a c.cells, .s 0 0 l.length q, .c (.int .i64 (zs))] [⟨false, bs l⟩]
    (fun v hp => v = .t [.c (.int .i64 (0)), .c (.int .i64 (2))] ∧ hp = [⟨false, bs l⟩]) := by
  refine LC_of (X := XX (fun | 8 => .cut (.one 1 (.one 3 (.one 4 (.one 9 (.alt (.one 0 (.alt (.one 2 (.one 5 (.one 6 (.one 7 (.one 8 (.one 10 .nil)))))) (.one 5 (.one 2 (.one 6 (.one 7 (.one 8 (.one 10 .nil)))))))) (.alt (.one 2 (.alt (.one 0 (.one 5 (.one 6 (.one 7 (.one 8 (.one 10 .nil)))))) (.one 5 (.alt (.one 0 (.one 6 (.one 7 (.one 8 (.one 10 .nil))))) (.one 6 (.one 0 (.one 7 (.one 8 (.one 10 .nil))))))))) (.one 5 (.alt (.one 0 (.one 2 (.one 6 (.one 7 (.one 8 (.one 10 .nil)))))) (.one 2 (.alt (.one 0 (.one 6 (.one 7 (.one 8 (.one 10 .nil))))) (.one 6 (.one 0 (.one 7 (.one 8 (.one 10 .nil))))))))))))))) | _ => .nil) (fun _ => []) [15, 71, 72, 73, 79, 80, 87, 90, 91, 93, 99, 119, 137, 176, 177, 203, 204, 212, 219] 1) envOK Tryz.func24 (by kernel_rfl) (by kernel_rfl) rfl (Nat.le_of_ble_eq_true (by kernel_rfl)) ?_
  simp only [kFun, Tryz.f24, List.length_nil, List.length_cons, Nat.sub_zero, Nat.reduceSub, Nat.reduceAdd, List.nil_append, List.cons_append, List.replicate_succ, List.replicate_zero]
  simp only [XX, ↓VC, VP, TT, Nat.reduceEqDiff, reduceCtorEq, Nat.reduceAdd, Nat.reduceSub, Nat.reduceLT, Nat.reduceMul, Nat.reducePow, Nat.reduceLeDiff, Int.reduceToNat, Int.reduceLE, Int.reduceLT, Int.reducePow, k_len, ↓k_all]
  refine kCall_val (k_spec_Is c) (by rfl) [] (by simp [CALL, SCB, instL_cip, okL_cip, k_inst, k_ok, e_inst, e_take, e_ok, Cip.bl, okL, okV, take1b]) (by simp [CALL, SCB, instL_cip, okL_cip, k_inst, k_ok, e_inst, e_take, e_ok, Cip.bl, okL, okV, take1b]) (by simp [CALL, SCB, instL_cip, okL_cip, k_inst, k_ok, e_inst, e_take, e_ok, Cip.bl, okL, okV, take1b]) (by simp [okL_bs, okL_room, okL, okV, instL_cip, okL_cip, k_inst, k_ok, e_inst, e_take, e_ok, Cip.bl, okL, okV, take1b]) ?_
  simp (config := { maxSteps := 2000000 }) only [CALL, ↓VC, VP, TT, Nat.reduceEqDiff, reduceCtorEq, Nat.reduceAdd, Nat.reduceSub, Nat.reduceLT, Nat.reduceMul, Nat.reducePow, Nat.reduceLeDiff, Int.reduceToNat, Int.reduceLE, Int.reduceLT, Int.reducePow, GOB, Cip.bl, e_inst0, k_inst, k_len, abs_len, enc_len, dig_len, ↓k_all]
  refine kGd_split rfl (fun h1 => ?_) (fun h1 => ?_) <;> simp only [↓VC, VP, TT, Nat.reduceEqDiff, reduceCtorEq, Nat.reduceAdd, Nat.reduceSub, Nat.reduceLT, Nat.reduceMul, Nat.reducePow, Nat.reduceLeDiff, Int.reduceToNat, Int.reduceLE, Int.reduceLT, Int.reducePow, h1]
  · refine ⟨_, _, [0], ⟨rfl, rfl⟩, ?_⟩
    simp [-List.reduceReplicate, LES] <;> rfl
  · have h2 : l.length ≤ 100 := by have := of_decide_eq_false h1; omega
    refine kCall_val (c_spec_l01In zs 0 8) (by rfl) [] (by simp [CALL, SCB, instL_cip, okL_cip, k_inst, k_ok, e_inst, e_take, e_ok, Cip.bl, okL, okV, take1b]) (by simp [CALL, SCB, instL_cip, okL_cip, k_inst, k_ok, e_inst, e_take, e_ok, Cip.bl, okL, okV, take1b]) (by simp [CALL, SCB, instL_cip, okL_cip, k_inst, k_ok, e_inst, e_take, e_ok, Cip.bl, okL, okV, take1b]) (by simp [okL_bs, okL_room, okL, okV, instL_cip, okL_cip, k_inst, k_ok, e_inst, e_take, e_ok, Cip.bl, okL, okV, take1b]) ?_
    simp (config := { maxSteps := 2000000 }) only [CALL, ↓VC, VP, TT, Nat.reduceEqDiff, reduceCtorEq, Nat.reduceAdd, Nat.reduceSub, Nat.reduceLT, Nat.reduceMul, Nat.reducePow, Nat.reduceLeDiff, Int.reduceToNat, Int.reduceLE, Int.reduceLT, Int.reducePow, GOB, Cip.bl, e_inst0, k_inst, k_len, abs_len, enc_len, dig_len, ↓k_all]
    have hd : decide (0 ≤ zs ∧ zs ≤ 8) = false := decide_eq_false fun h => hr ⟨h2, h⟩
    simp only [↓VC, VP, TT, Nat.reduceEqDiff, reduceCtorEq, Nat.reduceAdd, Nat.reduceSub, Nat.reduceLT, Nat.reduceMul, Nat.reducePow, Nat.reduceLeDiff, Int.reduceToNat, Int.reduceLE, Int.reduceLT, Int.reducePow, hd, Bool.not_false]
    refine ⟨_, _, [0], ⟨rfl, rfl⟩, ?_⟩
    simp [-List.reduceReplicate, LES] <;> rfl
theorem c_impl_SearchDigest_no (z n : Int) (box A pl l : List UInt8) (q : Nat) (hb : box.length = 256) (hA : A.length = 16) (hp : pl.length = 16) (zs : Int) (hl : l.length ≤ 2097152) (hB : cipB z box A pl n = false) : LC Tryz.prog 23 [.a (cipC z box A pl n), .s 0 0 l.length q, .c (.int .i64 (zs))] [⟨false, bs l⟩]
    (fun v hp => v = .t [.c (.int .i64 (0)), .c (.int .i64 (1))] ∧ hp = [⟨false, bs l⟩]) := by
  refine LC_of (X := XX (fun _ => .nil) (fun _ => []) [15, 71, 72, 73, 79, 80, 87, 90, 91, 93, 99, 119, 137, 176, 177, 203, 204, 212, 219] 1) envOK Tryz.func23 (by kernel_rfl) (by kernel_rfl) rfl (Nat.le_of_ble_eq_true (by kernel_rfl)) ?_
  simp only [kFun, Tryz.f23, List.length_nil, List.length_cons, Nat.sub_zero, Nat.reduceSub, Nat.reduceAdd, List.nil_append, List.cons_append, List.replicate_succ, List.replicate_zero]
  simp only [XX, ↓VC, VP, TT, Nat.reduceEqDiff, reduceCtorEq, Nat.reduceAdd, Nat.reduceSub, Nat.reduceLT, Nat.reduceMul, Nat.reducePow, Nat.reduceLeDiff, Int.reduceToNat, Int.reduceLE, Int.reduceLT, Int.reducePow, cipC_len hb hA hp, ↓cip_all hb hA hp]
  refine kCall_val (c_impl_IsCipher z n box A pl hb hA hp) (by rfl) [] (by simp [CALL, SCB, instL_cip, okL_cip, k_inst, k_ok, e_inst, e_take, e_ok, Cip.bl, okL, okV, take1b]) (by simp [CALL, SCB, instL_cip, okL_cip, k_inst, k_ok, e_inst, e_take, e_ok, Cip.bl, okL, okV, take1b]) (by simp [CALL, SCB, instL_cip, okL_cip, k_inst, k_ok, e_inst, e_take, e_ok, Cip.bl, okL, okV, take1b]) (by simp [okL_bs, okL_room, okL, okV, instL_cip, okL_cip, k_inst, k_ok, e_inst, e_take, e_ok, Cip.bl, okL, okV, take1b]) ?_
  simp (config := { maxSteps := 2000000 }) only [CALL, ↓VC, VP, TT, Nat.reduceEqDiff, reduceCtorEq, Nat.reduceAdd, Nat.reduceSub, Nat.reduceLT, Nat.reduceMul, Nat.reducePow, Nat.reduceLeDiff, Int.reduceToNat, Int.reduceLE, Int.reduceLT, Int.reducePow, GOB, Cip.bl, e_inst0, k_inst, k_len, abs_len, enc_len, dig_len, ↓k_all, hB]
  refine ⟨_, _, [0], ⟨rfl, rfl⟩, ?_⟩
  simp [-List.reduceReplicate, LES] <;> rfl
theorem c_impl_SearchDigest_range (c : Cip) (l : List UInt8) (q : Nat) (zs : Int) (hl : l.length ≤ 2097152) (hr : ¬ (l.length ≤ 100 ∧ 0 ≤ zs ∧ zs ≤ 8)) : LC Tryz.prog 23 [.a c.cells, .s 0 0 l.length q, .c (.int .i64 (zs))] [⟨false, bs l⟩]
    (fun v hp => v = .t [.c (.int .i64 (0)), .c (.int .i64 (2))] ∧ hp = [⟨false, bs l⟩]) := by
  refine LC_of (X := XX (fun _ => .nil) (fun _ => []) [15, 71, 72, 73, 79, 80, 87, 90, 91, 93, 99, 119, 137, 176, 177, 203, 204, 212, 219] 1) envOK Tryz.func23 (by kernel_rfl) (by kernel_rfl) rfl (Nat.le_of_ble_eq_true (by kernel_rfl)) ?_
  simp only [kFun, Tryz.f23, List.length_nil, List.length_cons, Nat.sub_zero, Nat.reduceSub, Nat.reduceAdd, List.nil_append, List.cons_append, List.replicate_succ, List.replicate_zero]
  simp only [XX, ↓VC, VP, TT, Nat.reduceEqDiff, reduceCtorEq, Nat.reduceAdd, Nat.reduceSub, Nat.reduceLT, Nat.reduceMul, Nat.reducePow, Nat.reduceLeDiff, Int.reduceToNat, Int.reduceLE, Int.reduceLT, Int.reducePow, k_len, ↓k_all]
  refine kCall_val (k_impl_Is c) (by rfl) [] (by simp [CALL, SCB, instL_cip, okL_cip, k_inst, k_ok, e_inst, e_take, e_ok, Cip.bl, okL, okV, take1b]) (by simp [CALL, SCB, instL_cip, okL_cip, k_inst, k_ok, e_inst, e_take, e_ok, Cip.bl, okL, okV, take1b]) (by simp [CALL, SCB, instL_cip, okL_cip, k_inst, k_ok, e_inst, e_take, e_ok, Cip.bl, okL, okV, take1b]) (by simp [okL_bs, okL_room, okL, okV, instL_cip, okL_cip, k_inst, k_ok, e_inst, e_take, e_ok, Cip.bl, okL, okV, take1b]) ?_
  simp (config := { maxSteps := 2000000 }) only [CALL, ↓VC, VP, TT, Nat.reduceEqDiff, reduceCtorEq, Nat.reduceAdd, Nat.reduceSub, Nat.reduceLT, Nat.reduceMul, Nat.reducePow, Nat.reduceLeDiff, Int.reduceToNat, Int.reduceLE, Int.reduceLT, Int.reducePow, GOB, Cip.bl, e_inst0, k_inst, k_len, abs_len, enc_len, dig_len, ↓k_all]
  refine kGd_split rfl (fun h1 => ?_) (fun h1 => ?_) <;> simp only [↓VC, VP, TT, Nat.reduceEqDiff, reduceCtorEq, Nat.reduceAdd, Nat.reduceSub, Nat.reduceLT, Nat.reduceMul, Nat.reducePow, Nat.reduceLeDiff, Int.reduceToNat, Int.reduceLE, Int.reduceLT, Int.reducePow, h1]
  · refine ⟨_, _, [0], ⟨rfl, rfl⟩, ?_⟩
    simp [-List.reduceReplicate, LES] <;> rfl
  · have h2 : l.length ≤ 100 := by have := of_decide_eq_false h1; omega
    refine kCall_val (c_impl_inRange zs 0 8) (by rfl) [] (by simp [CALL, SCB, instL_cip, okL_cip, k_inst, k_ok, e_inst, e_take, e_ok, Cip.bl, okL, okV, take1b]) (by simp [CALL, SCB, instL_cip, okL_cip, k_inst, k_ok, e_inst, e_take, e_ok, Cip.bl, okL, okV, take1b]) (by simp [CALL, SCB, instL_cip, okL_cip, k_inst, k_ok, e_inst, e_take, e_ok, Cip.bl, okL, okV, take1b]) (by simp [okL_bs, okL_room, okL, okV, instL_cip, okL_cip, k_inst, k_ok, e_inst, e_take, e_ok, Cip.bl, okL, okV, take1b]) ?_
    simp (config := { maxSteps := 2000000 }) only [CALL, ↓VC, VP, TT, Nat.reduceEqDiff, reduceCtorEq, Nat.reduceAdd, Nat.reduceSub, Nat.reduceLT, Nat.reduceMul, Nat.reducePow, Nat.reduceLeDiff, Int.reduceToNat, Int.reduceLE, Int.reduceLT, Int.reducePow, GOB, Cip.bl, e_inst0, k_inst, k_len, abs_len, enc_len, dig_len, ↓k_all]
    have hd : decide (0 ≤ zs ∧ zs ≤ 8) = false := decide_eq_false fun h => hr ⟨h2, h⟩
    simp only [↓VC, VP, TT, Nat.reduceEqDiff, reduceCtorEq, Nat.reduceAdd, Nat.reduceSub, Nat.reduceLT, Nat.reduceMul, Nat.reducePow, Nat.reduceLeDiff, Int.reduceToNat, Int.reduceLE, Int.reduceLT, Int.reducePow, hd, Bool.not_false]
    refine ⟨_, _, [0], ⟨rfl, rfl⟩, ?_⟩
    simp [-List.reduceReplicate, LES] <;> rfl
end Go.Proofs.YtahnjhppkgndiaaGreat

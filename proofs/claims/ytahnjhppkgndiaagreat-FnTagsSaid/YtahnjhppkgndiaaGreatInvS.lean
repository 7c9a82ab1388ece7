import Derived.Test.YtahnjhppkgndiaaGreatListsM
import Derived.Test.YtahnjhppkgndiaaGreatEngE
/- A matrix reduced: the program. -/
set_option linter.unusedSimpArgs false
set_option linter.unusedVariables false
namespace Go.Proofs.YtahnjhppkgndiaaGreat
open Go Go.Vc
set_option maxRecDepth 10000
set_option maxHeartbeats 4000000
theorem eq0_iff (u : UInt8) : (((u.toNat : Int) == 0) = true) = (u = 0) := by
  apply propext
  rw [beq_iff_eq]
  constructor
  · intro h; exact UInt8.toNat_inj.1 (by show u.toNat = 0; omega)
  · rintro rfl; rfl
theorem eq0_iff' (u : UInt8) : (((u.toNat : Int) == 0) = false) = (u ≠ 0) := by
  apply propext
  rw [← Bool.not_eq_true, eq0_iff]
theorem rowG_def (a : List UInt8) (i : Nat) : (a.drop (i * 4)).take 4 = rowG a i := rfl
theorem swapR_def (a : List UInt8) (i k : Nat) : splB (splB a (i * 4) (rowG a k)) (k * 4) (rowG a i) = swapR a i k := rfl
theorem splB_row {a : List UInt8} {i k : Nat} (ha : a.length = 16) (hi : i < 4) (hk : k < 4) : (splB a (i * 4) (rowG a k)).length = 16 := by
  rw [splB_length (by rw [rowG_len ha hk]; omega)]; exact ha
theorem c_impl_invert (m : Nat) (A : List UInt8) (hm : 256 ≤ m) (hm' : m < 512) (hA : A.length = 16) : LC Tryz.prog 140 [.c (.int .i64 (m)), .a (bs A)] []
    (fun v hp => v = .t [.c (.int .u8 (((invM m A (unP 4)).1).toNat : Int)), .a (bs (invM m A (unP 4)).2)] ∧ hp = []) := by
  have hU := unP_len 4
  refine LC_of (X := XX (fun | 10 => .one 0 (.one 1 (.one 2 (.one 3 (.one 4 (.one 5 (.one 6 (.one 7 (.one 8 (.one 9 (.one 10 (.one 11 .nil))))))))))) | 11 => .one 0 (.one 1 (.one 2 (.one 3 (.one 4 (.one 5 (.one 6 (.one 7 (.one 8 (.one 9 (.one 10 (.one 11 .nil))))))))))) | 17 => .one 0 (.one 1 (.one 2 (.one 3 (.one 4 (.one 5 (.one 6 (.one 7 (.one 8 (.one 9 (.one 10 (.one 12 (.one 13 (.one 14 (.one 15 (.one 16 (.one 17 (.one 18 (.one 20 (.one 23 (.one 11 (.one 21 (.one 19 (.one 22 (.one 24 (.one 25 .nil))))))))))))))))))))))))) | 27 => .one 0 (.one 1 (.one 2 (.one 3 (.one 4 (.one 5 (.one 6 (.one 7 (.one 8 (.one 9 (.one 10 (.one 11 (.one 14 (.one 12 (.one 13 (.one 15 (.one 16 .nil)))))))))))))))) | 28 => .one 0 (.one 1 (.one 2 (.one 3 (.one 4 (.one 5 (.one 6 (.one 7 (.one 8 (.one 9 (.one 10 (.one 11 (.one 14 (.one 12 (.one 13 (.one 15 (.one 16 .nil)))))))))))))))) | 32 => .one 0 (.one 1 (.one 2 (.one 3 .nil))) | _ => .nil) (fun _ => []) [15, 71, 72, 73, 79, 80, 87, 90, 91, 93, 99, 119, 137, 176, 177, 203, 204, 212, 219] 0) envOK Tryz.func140 (by kernel_rfl) (by kernel_rfl) rfl (Nat.le_of_ble_eq_true (by kernel_rfl)) ?_
  simp only [kFun, Tryz.f140, List.length_nil, List.length_cons, Nat.sub_zero, Nat.reduceSub, Nat.reduceAdd, List.nil_append, List.cons_append, List.replicate_succ, List.replicate_zero]
  simp only [XX, ↓VC, VP, TT, Nat.reduceEqDiff, reduceCtorEq, Nat.reduceAdd, Nat.reduceSub, Nat.reduceLT, Nat.reduceMul, Nat.reducePow, Nat.reduceLeDiff, Int.reduceToNat, Int.reduceLE, Int.reduceLT, Int.reducePow, hA]
  refine kCall_val (c_impl_UnitMatrix) (by rfl) [] (by simp [CALL]) (by simp [CALL, cellsAt]) (by simp [CALL]) (by simp [okL_bs]) ?_
  simp only [CALL, ↓VC, VP, TT, Nat.reduceEqDiff, reduceCtorEq, Nat.reduceAdd, Nat.reduceSub, Nat.reduceLT, Nat.reduceMul, Nat.reducePow, Nat.reduceLeDiff, Int.reduceToNat, Int.reduceLE, Int.reduceLT, Int.reducePow, hU]
  refine kLoop_of (fun s : Nat × (List UInt8 × List UInt8 × UInt8) => ([.c (.int .i64 (m)), .j, .j, .p 0 0, .j, .p 1 0, .p 2 0, .c (.int .u8 ((s.2.2.2).toNat : Int)), .j, .j, .j, .j, .j, .j, .j, .j, .c (.int .i64 (s.1)), .j, .j, .j, .j, .j, .j, .j, .j, .j, .j, .j, .j, .j, .j, .j, .j, .j, .j, .j, .j, .j, .j, .j, .j, .j, .j, .j, .j, .j, .j, .j, .j, .j, .j, .j, .j, .j, .j, .j, .j, .j, .j, .j, .j, .j, .j, .j, .j, .j, .j, .j, .j, .j, .j, .j, .j, .j, .j, .j, .j, .j, .j, .j, .j, .j, .j, .j, .j, .j, .j, .j, .j, .j, .j, .j, .j, .j, .j, .j, .j, .j, .j, .j, .j, .j, .j, .j, .j, .j, .j, .j, .j, .j, .j, .j, .j, .j, .j, .j, .j, .j, .j, .j, .j, .j, .j, .j, .j, .j, .j, .j, .j, .j, .j, .j, .j, .j, .j, .j, .j, .j, .j, .j, .j, .j, .j, .j, .j, .j, .j, .j, .j, .j, .j, .j, .j], [⟨true, bs s.2.1⟩, ⟨true, bs (List.replicate 16 0)⟩, ⟨true, bs s.2.2.1⟩])) (fun s => 4 - s.1) (fun s => s.1 ≤ 4 ∧ redP m A (unP 4) s.1 = some s.2) (0, (A, unP 4, 1)) ⟨by simp, rfl⟩
    ⟨[0, 1, 2], by simp [-List.reduceReplicate, LES]⟩ ?_
  rintro ⟨k, a, b, d⟩ ⟨hk, hred⟩
  simp only at hk hred
  obtain ⟨hla, hlb⟩ := redP_len hA hU hk hred
  simp only at hla hlb
  rcases Nat.lt_or_ge k 4 with h | h
  · simp only [↓VC, VP, TT, Nat.reduceEqDiff, reduceCtorEq, Nat.reduceAdd, Nat.reduceSub, Nat.reduceLT, Nat.reduceMul, Nat.reducePow, Nat.reduceLeDiff, Int.reduceToNat, Int.reduceLE, Int.reduceLT, Int.reducePow, h, (eq_true (by omega) : ((k : Int) < 4) = True), (eq_true (by omega) : ((k : Int) < ((4 : Nat) : Int)) = True), wrap_i64 (n := (k : Int) + 1) (by omega) (by omega), decide_true]
    refine kLoop_of (fun i : Nat => ([.c (.int .i64 (m)), .j, .j, .p 0 0, .j, .p 1 0, .p 2 0, .c (.int .u8 ((d).toNat : Int)), .c (.int .i64 (k)), .c (.int .i64 (i)), .j, .j, .j, .j, .j, .j, .c (.int .i64 (k)), .j, .j, .j, .j, .j, .j, .j, .j, .j, .j, .j, .j, .j, .j, .j, .j, .j, .j, .j, .j, .j, .j, .j, .j, .j, .j, .j, .j, .j, .j, .j, .j, .j, .j, .j, .j, .j, .j, .j, .j, .j, .j, .j, .j, .j, .j, .j, .j, .j, .j, .j, .j, .j, .j, .j, .j, .j, .j, .j, .j, .j, .j, .j, .j, .j, .j, .j, .j, .j, .j, .j, .j, .j, .j, .j, .j, .j, .j, .j, .j, .j, .j, .j, .j, .j, .j, .j, .j, .j, .j, .j, .j, .j, .j, .j, .j, .j, .j, .j, .j, .j, .j, .j, .j, .j, .j, .j, .j, .j, .j, .j, .j, .j, .j, .j, .j, .j, .j, .j, .j, .j, .j, .j, .j, .j, .j, .j, .j, .j, .j, .j, .j, .j, .j, .j, .j], [⟨true, bs a⟩, ⟨true, bs (List.replicate 16 0)⟩, ⟨true, bs b⟩])) (fun i => 4 - i) (fun i => k ≤ i ∧ i ≤ 4 ∧ fiF a k (4 - i) i = fi a k) k ⟨by omega, by omega, rfl⟩
      ⟨[0, 1, 2], by simp [-List.reduceReplicate, LES]⟩ ?_
    rintro i ⟨hki, hi, hfi⟩
    rcases Nat.lt_or_ge i 4 with h2 | h2
    · have hkk : k * 4 + k < 16 := by omega
      have hsa := swapR_len hla h2 h
      have hsb := swapR_len hlb h2 h
      simp (config := { maxSteps := 2000000 }) only [↓VC, VP, TT, Nat.reduceEqDiff, reduceCtorEq, Nat.reduceAdd, Nat.reduceSub, Nat.reduceLT, Nat.reduceMul, Nat.reducePow, Nat.reduceLeDiff, Int.reduceToNat, Int.reduceLE, Int.reduceLT, Int.reducePow, and_self, h2, (eq_true (by omega) : ((i : Int) < 4) = True), (eq_true (by omega) : ((i : Int) < ((4 : Nat) : Int)) = True), wrap_i64 (n := (i : Int) + 1) (by omega) (by omega), decide_true, hla, hlb, rowG_def, swapR_def, hsa, hsb, hkk, splB_row hla h2 h, splB_row hlb h2 h, rowG_len hla h2, rowG_len hlb h2, rowG_len hla h, rowG_len hlb h, (eq_false (by omega) : ((i : Int) = 4) = False), (eq_true (by omega) : (i * 4 + 4 ≤ 16) = True), (eq_true (by omega) : (k * 4 + 4 ≤ 16) = True), h, (eq_true (by omega) : ((k : Int) < ((4 : Nat) : Int)) = True), (eq_true (by omega) : (i * 4 + k < 16) = True), eq0_iff, eq0_iff']
      obtain ⟨n, hn⟩ : ∃ n, 4 - i = n + 1 := ⟨3 - i, by omega⟩
      rw [hn, fiF] at hfi
      refine ⟨fun hz => ?_, fun hz => ?_⟩
      · rw [if_pos hz] at hfi
        exact ⟨i + 1, ⟨by omega, by omega, by rw [← hfi]; congr 1; omega⟩, by omega, [0, 1, 2], by simp [-List.reduceReplicate, LES]⟩
      · rw [if_neg hz] at hfi
        refine ⟨fun h4 => by rw [beq_iff_eq] at h4; omega, fun _ => ?_⟩
        have hstep : redP m A (unP 4) (k + 1) = some (redS m k (a, b, d)) := by
          rw [redP, hred]
          simp only
          rw [if_neg (by rw [← hfi]; omega)]
        unfold redS at hstep
        simp only [← hfi] at hstep
        generalize swapR a i k = a1 at *
        generalize swapR b i k = b1 at *
        refine kCall_val (c_impl_times m d (a1.getD (k * 4 + k) 0) hm hm') (by rfl) [] (by simp [CALL]) (by simp [CALL, cellsAt]) (by simp [CALL]) (by simp [okL_bs]) ?_
        simp only [CALL, ↓VC, VP, TT, Nat.reduceEqDiff, reduceCtorEq, Nat.reduceAdd, Nat.reduceSub, Nat.reduceLT, Nat.reduceMul, Nat.reducePow, Nat.reduceLeDiff, Int.reduceToNat, Int.reduceLE, Int.reduceLT, Int.reducePow, hsa, hkk, h, (eq_true (by omega) : ((k : Int) < ((4 : Nat) : Int)) = True)]
        refine kCall_val (c_impl_inverse m (a1.getD (k * 4 + k) 0) hm hm') (by rfl) [] (by simp [CALL]) (by simp [CALL, cellsAt]) (by simp [CALL]) (by simp [okL_bs]) ?_
        simp only [CALL, ↓VC, VP, TT, Nat.reduceEqDiff, reduceCtorEq, Nat.reduceAdd, Nat.reduceSub, Nat.reduceLT, Nat.reduceMul, Nat.reducePow, Nat.reduceLeDiff, Int.reduceToNat, Int.reduceLE, Int.reduceLT, Int.reducePow]
        generalize pw254 m (a1.getD (k * 4 + k) 0) = inv at *
        generalize tmul m d (a1.getD (k * 4 + k) 0) = d1 at *
        refine kLoop_of (fun j : Nat => ([.c (.int .i64 (m)), .j, .j, .p 0 0, .j, .p 1 0, .p 2 0, .c (.int .u8 ((d1).toNat : Int)), .c (.int .i64 (k)), .j, .c (.int .u8 ((inv).toNat : Int)), .j, .j, .j, .j, .j, .c (.int .i64 (k)), .j, .j, .j, .j, .j, .j, .j, .j, .j, .j, .j, .j, .j, .j, .j, .j, .j, .j, .j, .j, .j, .j, .j, .j, .j, .j, .j, .j, .j, .j, .j, .j, .j, .j, .j, .j, .j, .j, .j, .j, .j, .j, .j, .j, .j, .j, .j, .j, .j, .j, .j, .j, .j, .c (.int .i64 (j)), .j, .j, .j, .j, .j, .j, .j, .j, .j, .j, .j, .j, .j, .j, .j, .j, .j, .j, .j, .j, .j, .j, .j, .j, .j, .j, .j, .j, .j, .j, .j, .j, .j, .j, .j, .j, .j, .j, .j, .j, .j, .j, .j, .j, .j, .j, .j, .j, .j, .j, .j, .j, .j, .j, .j, .j, .j, .j, .j, .j, .j, .j, .j, .j, .j, .j, .j, .j, .j, .j, .j, .j, .j, .j, .j, .j, .j, .j, .j, .j, .j, .j], [⟨true, bs (scP m inv k a1 j)⟩, ⟨true, bs (List.replicate 16 0)⟩, ⟨true, bs (scP m inv k b1 j)⟩])) (fun j => 4 - j) (fun j => j ≤ 4) 0 (by omega)
          ⟨[0, 1, 2], by simp [-List.reduceReplicate, LES, scP]⟩ ?_
        intro j hj
        have hsc := fun j => scP_len m inv k hsa j
        have hsd := fun j => scP_len m inv k hsb j
        rcases Nat.lt_or_ge j 4 with h3 | h3
        · have hkj : k * 4 + j < 16 := by omega
          simp only [↓VC, VP, TT, Nat.reduceEqDiff, reduceCtorEq, Nat.reduceAdd, Nat.reduceSub, Nat.reduceLT, Nat.reduceMul, Nat.reducePow, Nat.reduceLeDiff, Int.reduceToNat, Int.reduceLE, Int.reduceLT, Int.reducePow, h3, (eq_true (by omega) : ((j : Int) < 4) = True), (eq_true (by omega) : ((j : Int) < ((4 : Nat) : Int)) = True), wrap_i64 (n := (j : Int) + 1) (by omega) (by omega), decide_true, hsc, hsd, hkj, h, h3, (eq_true (by omega) : ((k : Int) < ((4 : Nat) : Int)) = True)]
          refine kCall_val (c_impl_times m ((scP m inv k a1 j).getD (k * 4 + j) 0) inv hm hm') (by rfl) [] (by simp [CALL]) (by simp [CALL, cellsAt]) (by simp [CALL]) (by simp [okL_bs]) ?_
          simp only [CALL, ↓VC, VP, TT, Nat.reduceEqDiff, reduceCtorEq, Nat.reduceAdd, Nat.reduceSub, Nat.reduceLT, Nat.reduceMul, Nat.reducePow, Nat.reduceLeDiff, Int.reduceToNat, Int.reduceLE, Int.reduceLT, Int.reducePow, hsc, hsd, hkj, h, h3, (eq_true (by omega) : ((k : Int) < ((4 : Nat) : Int)) = True), (eq_true (by omega) : ((j : Int) < ((4 : Nat) : Int)) = True)]
          refine kCall_val (c_impl_times m ((scP m inv k b1 j).getD (k * 4 + j) 0) inv hm hm') (by rfl) [] (by simp [CALL]) (by simp [CALL, cellsAt]) (by simp [CALL]) (by simp [okL_bs]) ?_
          simp only [CALL, ↓VC, VP, TT, Nat.reduceEqDiff, reduceCtorEq, Nat.reduceAdd, Nat.reduceSub, Nat.reduceLT, Nat.reduceMul, Nat.reducePow, Nat.reduceLeDiff, Int.reduceToNat, Int.reduceLE, Int.reduceLT, Int.reducePow, hsc, hsd, hkj, h, h3, (eq_true (by omega) : ((k : Int) < ((4 : Nat) : Int)) = True), (eq_true (by omega) : ((j : Int) < ((4 : Nat) : Int)) = True)]
          refine ⟨j + 1, by omega, by omega, [0, 1, 2], ?_⟩
          rw [wrap_i64 (by omega) (by omega)]
          simp [-List.reduceReplicate, LES, scP]
        · obtain rfl : j = 4 := by omega
          simp only [↓VC, VP, TT, Nat.reduceEqDiff, reduceCtorEq, Nat.reduceAdd, Nat.reduceSub, Nat.reduceLT, Nat.reduceMul, Nat.reducePow, Nat.reduceLeDiff, Int.reduceToNat, Int.reduceLE, Int.reduceLT, Int.reducePow, (eq_false (by omega) : (((4 : Nat) : Int) < 4) = False), decide_false]
          have hla2 := hsc 4
          have hlb2 := hsd 4
          generalize scP m inv k a1 4 = a2 at *
          generalize scP m inv k b1 4 = b2 at *
          refine kLoop_of (fun r : Nat => ([.c (.int .i64 (m)), .j, .j, .p 0 0, .j, .p 1 0, .p 2 0, .c (.int .u8 ((d1).toNat : Int)), .c (.int .i64 (k)), .j, .j, .j, .j, .j, .j, .j, .c (.int .i64 (k)), .j, .j, .j, .j, .j, .j, .j, .j, .j, .j, .j, .j, .j, .j, .j, .j, .j, .j, .j, .j, .j, .j, .j, .j, .j, .j, .j, .j, .j, .j, .j, .j, .j, .j, .j, .j, .j, .j, .j, .j, .j, .j, .j, .j, .j, .j, .j, .j, .j, .j, .j, .j, .j, .j, .j, .j, .j, .j, .j, .j, .j, .j, .j, .j, .j, .j, .j, .j, .j, .j, .j, .j, .j, .j, .j, .j, .j, .j, .j, .j, .j, .c (.int .i64 (r)), .j, .j, .j, .j, .j, .j, .j, .j, .j, .j, .j, .j, .j, .j, .j, .j, .j, .j, .j, .j, .j, .j, .j, .j, .j, .j, .j, .j, .j, .j, .j, .j, .j, .j, .j, .j, .j, .j, .j, .j, .j, .j, .j, .j, .j, .j, .j, .j, .j, .j, .j, .j, .j, .j], [⟨true, bs (elA m k a2 b2 r).1⟩, ⟨true, bs (List.replicate 16 0)⟩, ⟨true, bs (elA m k a2 b2 r).2⟩])) (fun r => 4 - r) (fun r => r ≤ 4) 0 (by omega)
            ⟨[0, 1, 2], by simp [-List.reduceReplicate, LES, elA]⟩ ?_
          intro r hr
          obtain ⟨hea, heb⟩ := elA_len m k hla2 hlb2 r
          rcases Nat.lt_or_ge r 4 with h4 | h4
          · have hrk : r * 4 + k < 16 := by omega
            have hel : elA m k a2 b2 (r + 1) = if r = k then elA m k a2 b2 r else (elP m ((elA m k a2 b2 r).1.getD (r * 4 + k) 0) k r (elA m k a2 b2 r).1 4, elP m ((elA m k a2 b2 r).1.getD (r * 4 + k) 0) k r (elA m k a2 b2 r).2 4) := rfl
            generalize elA m k a2 b2 r = ab at *
            obtain ⟨a3, b3⟩ := ab
            simp only at hel hea heb
            by_cases hk2 : r = k
            · rw [if_pos hk2] at hel
              have hbne : ((r : Int) != (k : Int)) = false := by simp; omega
              simp only [↓VC, VP, TT, Nat.reduceEqDiff, reduceCtorEq, Nat.reduceAdd, Nat.reduceSub, Nat.reduceLT, Nat.reduceMul, Nat.reducePow, Nat.reduceLeDiff, Int.reduceToNat, Int.reduceLE, Int.reduceLT, Int.reducePow, h4, (eq_true (by omega) : ((r : Int) < 4) = True), (eq_true (by omega) : ((r : Int) < ((4 : Nat) : Int)) = True), wrap_i64 (n := (r : Int) + 1) (by omega) (by omega), decide_true, hea, hrk, h, h4, hbne, (eq_true (by omega) : ((k : Int) < ((4 : Nat) : Int)) = True)]
              refine ⟨r + 1, by omega, by omega, [0, 1, 2], ?_⟩
              rw [hel]
              simp [-List.reduceReplicate, LES]
            · rw [if_neg hk2] at hel
              have hbne : ((r : Int) != (k : Int)) = true := by simp; omega
              simp only [↓VC, VP, TT, Nat.reduceEqDiff, reduceCtorEq, Nat.reduceAdd, Nat.reduceSub, Nat.reduceLT, Nat.reduceMul, Nat.reducePow, Nat.reduceLeDiff, Int.reduceToNat, Int.reduceLE, Int.reduceLT, Int.reducePow, h4, (eq_true (by omega) : ((r : Int) < 4) = True), (eq_true (by omega) : ((r : Int) < ((4 : Nat) : Int)) = True), wrap_i64 (n := (r : Int) + 1) (by omega) (by omega), decide_true, hea, hrk, h, h4, hbne, (eq_true (by omega) : ((k : Int) < ((4 : Nat) : Int)) = True)]
              generalize a3.getD (r * 4 + k) 0 = f at *
              refine ⟨fun hf => ?_, fun hf => ?_⟩
              · refine kLoop_of (fun j : Nat => ([.c (.int .i64 (m)), .j, .j, .p 0 0, .j, .p 1 0, .p 2 0, .c (.int .u8 ((d1).toNat : Int)), .c (.int .i64 (k)), .j, .j, .j, .c (.int .i64 (r)), .c (.int .u8 ((f).toNat : Int)), .j, .j, .c (.int .i64 (k)), .j, .j, .j, .j, .j, .j, .j, .j, .j, .j, .j, .j, .j, .j, .j, .j, .j, .j, .j, .j, .j, .j, .j, .j, .j, .j, .j, .j, .j, .j, .j, .j, .j, .j, .j, .j, .j, .j, .j, .j, .j, .j, .j, .j, .j, .j, .j, .j, .j, .j, .j, .j, .j, .j, .j, .j, .j, .j, .j, .j, .j, .j, .j, .j, .j, .j, .j, .j, .j, .j, .j, .j, .j, .j, .j, .j, .j, .j, .j, .j, .j, .c (.int .i64 (r)), .j, .j, .j, .j, .j, .j, .j, .j, .j, .j, .j, .j, .j, .j, .c (.int .i64 (j)), .j, .j, .j, .j, .j, .j, .j, .j, .j, .j, .j, .j, .j, .j, .j, .j, .j, .j, .j, .j, .j, .j, .j, .j, .j, .j, .j, .j, .j, .j, .j, .j, .j, .j, .j, .j, .j, .j, .j], [⟨true, bs (elP m f k r a3 j)⟩, ⟨true, bs (List.replicate 16 0)⟩, ⟨true, bs (elP m f k r b3 j)⟩])) (fun j => 4 - j) (fun j => j ≤ 4) 0 (by omega)
                  ⟨[0, 1, 2], by simp [-List.reduceReplicate, LES, elP]⟩ ?_
                intro j hj
                have hpa := fun j => elP_len m f k r hea j
                have hpb := fun j => elP_len m f k r heb j
                rcases Nat.lt_or_ge j 4 with h5 | h5
                · have hkj : k * 4 + j < 16 := by omega
                  have hrj : r * 4 + j < 16 := by omega
                  simp only [↓VC, VP, TT, Nat.reduceEqDiff, reduceCtorEq, Nat.reduceAdd, Nat.reduceSub, Nat.reduceLT, Nat.reduceMul, Nat.reducePow, Nat.reduceLeDiff, Int.reduceToNat, Int.reduceLE, Int.reduceLT, Int.reducePow, h5, (eq_true (by omega) : ((j : Int) < 4) = True), (eq_true (by omega) : ((j : Int) < ((4 : Nat) : Int)) = True), wrap_i64 (n := (j : Int) + 1) (by omega) (by omega), decide_true, hpa, hpb, hkj, hrj, h, h4, h5, (eq_true (by omega) : ((k : Int) < ((4 : Nat) : Int)) = True), (eq_true (by omega) : ((r : Int) < ((4 : Nat) : Int)) = True)]
                  refine kCall_val (c_impl_times m f ((elP m f k r a3 j).getD (k * 4 + j) 0) hm hm') (by rfl) [] (by simp [CALL]) (by simp [CALL, cellsAt]) (by simp [CALL]) (by simp [okL_bs]) ?_
                  simp only [CALL, ↓VC, VP, TT, Nat.reduceEqDiff, reduceCtorEq, Nat.reduceAdd, Nat.reduceSub, Nat.reduceLT, Nat.reduceMul, Nat.reducePow, Nat.reduceLeDiff, Int.reduceToNat, Int.reduceLE, Int.reduceLT, Int.reducePow, List.length_set, hpa, hpb, hkj, hrj, h, h4, h5, (eq_true (by omega) : ((k : Int) < ((4 : Nat) : Int)) = True), (eq_true (by omega) : ((r : Int) < ((4 : Nat) : Int)) = True), (eq_true (by omega) : ((j : Int) < ((4 : Nat) : Int)) = True)]
                  refine kCall_val (c_impl_times m f ((elP m f k r b3 j).getD (k * 4 + j) 0) hm hm') (by rfl) [] (by simp [CALL]) (by simp [CALL, cellsAt]) (by simp [CALL]) (by simp [okL_bs]) ?_
                  simp only [CALL, ↓VC, VP, TT, Nat.reduceEqDiff, reduceCtorEq, Nat.reduceAdd, Nat.reduceSub, Nat.reduceLT, Nat.reduceMul, Nat.reducePow, Nat.reduceLeDiff, Int.reduceToNat, Int.reduceLE, Int.reduceLT, Int.reducePow, List.length_set, hpa, hpb, hkj, hrj, h, h4, h5, (eq_true (by omega) : ((k : Int) < ((4 : Nat) : Int)) = True), (eq_true (by omega) : ((r : Int) < ((4 : Nat) : Int)) = True), (eq_true (by omega) : ((j : Int) < ((4 : Nat) : Int)) = True)]
                  refine ⟨j + 1, by omega, by omega, [0, 1, 2], ?_⟩
                  rw [wrap_i64 (by omega) (by omega)]
                  simp [-List.reduceReplicate, LES, elP]
                · obtain rfl : j = 4 := by omega
                  simp only [↓VC, VP, TT, Nat.reduceEqDiff, reduceCtorEq, Nat.reduceAdd, Nat.reduceSub, Nat.reduceLT, Nat.reduceMul, Nat.reducePow, Nat.reduceLeDiff, Int.reduceToNat, Int.reduceLE, Int.reduceLT, Int.reducePow, (eq_false (by omega) : (((4 : Nat) : Int) < 4) = False), decide_false]
                  refine ⟨r + 1, by omega, by omega, [0, 1, 2], ?_⟩
                  rw [hel, wrap_i64 (by omega) (by omega)]
                  simp [-List.reduceReplicate, LES]
              · have hf0 : f = 0 := by
                  rw [bne_eq_false_iff_eq] at hf
                  exact UInt8.toNat_inj.1 (by show f.toNat = 0; omega)
                subst hf0
                rw [elP_zero, elP_zero] at hel
                refine ⟨r + 1, by omega, by omega, [0, 1, 2], ?_⟩
                rw [hel]
                simp [-List.reduceReplicate, LES]
          · obtain rfl : r = 4 := by omega
            simp only [↓VC, VP, TT, Nat.reduceEqDiff, reduceCtorEq, Nat.reduceAdd, Nat.reduceSub, Nat.reduceLT, Nat.reduceMul, Nat.reducePow, Nat.reduceLeDiff, Int.reduceToNat, Int.reduceLE, Int.reduceLT, Int.reducePow, (eq_false (by omega) : (((4 : Nat) : Int) < 4) = False), decide_false]
            refine ⟨(k + 1, ((elA m k a2 b2 4).1, (elA m k a2 b2 4).2, d1)), ⟨by simp only; omega, hstep⟩, by simp only; omega, [0, 1, 2], ?_⟩
            rw [wrap_i64 (by omega) (by omega)]
            simp [-List.reduceReplicate, LES]
    · obtain rfl : i = 4 := by omega
      simp only [↓VC, VP, TT, Nat.reduceEqDiff, reduceCtorEq, Nat.reduceAdd, Nat.reduceSub, Nat.reduceLT, Nat.reduceMul, Nat.reducePow, Nat.reduceLeDiff, Int.reduceToNat, Int.reduceLE, Int.reduceLT, Int.reducePow, (eq_false (by omega) : (((4 : Nat) : Int) < 4) = False), decide_false]
      refine ⟨fun _ => ?_, fun hf => by simp at hf⟩
      have hn : redP m A (unP 4) 4 = none := by
        have h1 : redP m A (unP 4) (k + 1) = none := by
          rw [redP, hred]
          rw [show 4 - 4 = 0 from rfl, fiF] at hfi
          simp [← hfi]
        have := redP_none h1 (3 - k)
        rwa [show k + 1 + (3 - k) = 4 by omega] at this
      refine ⟨_, _, [], ⟨rfl, rfl⟩, ?_⟩; simp [-List.reduceReplicate, LES, invM, hn]
  · obtain rfl : k = 4 := by omega
    simp only [↓VC, VP, TT, Nat.reduceEqDiff, reduceCtorEq, Nat.reduceAdd, Nat.reduceSub, Nat.reduceLT, Nat.reduceMul, Nat.reducePow, Nat.reduceLeDiff, Int.reduceToNat, Int.reduceLE, Int.reduceLT, Int.reducePow, (eq_false (by omega) : (((4 : Nat) : Int) < 4) = False), decide_false, hlb]
    refine ⟨_, _, [], ⟨rfl, rfl⟩, ?_⟩; simp [-List.reduceReplicate, LES, invM, hred]
end Go.Proofs.YtahnjhppkgndiaaGreat
/- A matrix reduced: the reference. -/
set_option linter.unusedSimpArgs false
set_option linter.unusedVariables false
namespace Go.Proofs.YtahnjhppkgndiaaGreat
open Go Go.Vc
set_option maxRecDepth 10000
set_option maxHeartbeats 4000000
theorem c_spec_l03Reduce (m : Nat) (A : List UInt8) (hm : 256 ≤ m) (hm' : m < 512) (hA : A.length = 16) : LC Tryz.prog 187 [.c (.int .i64 (m)), .a (bs A)] []
    (fun v hp => v = .t [.c (.int .u8 (((invM m A (unP 4)).1).toNat : Int)), .a (bs (invM m A (unP 4)).2)] ∧ hp = []) := by
  have hU := unP_len 4
  refine LC_of (X := XX (fun | 10 => .cut (.one 0 (.one 1 (.one 2 (.one 3 (.one 4 (.alt (.one 5 (.alt (.one 6 (.one 7 (.one 8 (.one 9 .nil)))) (.one 7 (.one 6 (.one 8 (.one 9 .nil)))))) (.alt (.one 6 (.alt (.one 5 (.one 7 (.one 8 (.one 9 .nil)))) (.one 7 (.alt (.one 5 (.one 8 (.one 9 .nil))) (.one 8 (.one 5 (.one 9 .nil))))))) (.one 7 (.alt (.one 5 (.one 6 (.one 8 (.one 9 .nil)))) (.one 6 (.alt (.one 5 (.one 8 (.one 9 .nil))) (.one 8 (.one 5 (.one 9 .nil)))))))))))))) | 20 => .one 0 (.one 1 (.one 2 (.one 3 (.one 4 (.one 5 (.one 6 (.one 7 (.one 8 (.one 10 (.one 9 (.one 11 (.one 12 .nil)))))))))))) | 21 => .one 0 (.one 1 (.one 2 (.one 3 (.one 4 (.one 5 (.one 6 (.one 7 (.one 8 (.one 10 (.one 9 (.one 11 (.one 12 .nil)))))))))))) | 29 => .one 0 (.one 1 (.one 2 (.one 3 (.one 4 (.one 5 (.one 6 (.one 7 (.one 8 (.one 9 (.one 10 (.one 11 (.one 12 (.one 13 (.one 16 (.one 14 (.one 15 (.one 17 (.one 18 .nil)))))))))))))))))) | 30 => .one 0 (.one 1 (.one 2 (.one 3 (.one 4 (.one 5 (.one 6 (.one 7 (.one 8 (.one 9 (.one 10 (.one 11 (.one 12 (.one 13 (.one 16 (.one 14 (.one 15 (.one 17 (.one 18 .nil)))))))))))))))))) | 31 => .one 0 (.one 1 (.one 2 (.one 3 .nil))) | _ => .nil) (fun _ => []) [15, 71, 72, 73, 79, 80, 87, 90, 91, 93, 99, 119, 137, 176, 177, 203, 204, 212, 219] 0) envOK Tryz.func187 (by kernel_rfl) (by kernel_rfl) rfl (Nat.le_of_ble_eq_true (by kernel_rfl)) ?_
  simp only [kFun, Tryz.f187, List.length_nil, List.length_cons, Nat.sub_zero, Nat.reduceSub, Nat.reduceAdd, List.nil_append, List.cons_append, List.replicate_succ, List.replicate_zero]
  simp only [XX, ↓VC, VP, TT, Nat.reduceEqDiff, reduceCtorEq, Nat.reduceAdd, Nat.reduceSub, Nat.reduceLT, Nat.reduceMul, Nat.reducePow, Nat.reduceLeDiff, Int.reduceToNat, Int.reduceLE, Int.reduceLT, Int.reducePow, hA]
  refine kCall_val (c_spec_UnitMatrix) (by rfl) [] (by simp [CALL]) (by simp [CALL, cellsAt]) (by simp [CALL]) (by simp [okL_bs]) ?_
  simp only [CALL, ↓VC, VP, TT, Nat.reduceEqDiff, reduceCtorEq, Nat.reduceAdd, Nat.reduceSub, Nat.reduceLT, Nat.reduceMul, Nat.reducePow, Nat.reduceLeDiff, Int.reduceToNat, Int.reduceLE, Int.reduceLT, Int.reducePow, hU]
  refine kLoop_of (fun s : Nat × (List UInt8 × List UInt8 × UInt8) => ([.c (.int .i64 (m)), .j, .j, .p 0 0, .j, .p 1 0, .p 2 0, .c (.int .u8 ((s.2.2.2).toNat : Int)), .c (.int .i64 (s.1)), .j, .j, .j, .j, .j, .j, .j, .j, .j, .j, .j, .j, .j, .j, .j, .j, .j, .j, .j, .j, .j, .j, .j, .j, .j, .j, .j, .j, .j, .j, .j, .j, .j, .j, .j, .j, .j, .j, .j, .j, .j, .j, .j, .j, .j, .j, .j, .j, .j, .j, .j, .j, .j, .j, .j, .j, .j, .j, .j, .j, .j, .j, .j, .j, .j, .j, .j, .j, .j, .j, .j, .j, .j, .j, .j, .j, .j, .j, .j, .j, .j, .j, .j, .j, .j, .j, .j, .j, .j, .j, .j, .j, .j, .j, .j, .j, .j, .j, .j, .j, .j, .j, .j, .j, .j, .j, .j, .j, .j, .j, .j, .j, .j, .j, .j, .j, .j, .j, .j, .j, .j, .j, .j, .j, .j, .j, .j, .j, .j, .j, .j, .j, .j, .j, .j, .j, .j, .j, .j, .j, .j, .j, .j, .j, .j, .j, .j, .j, .j, .j], [⟨true, bs s.2.1⟩, ⟨true, bs (List.replicate 16 0)⟩, ⟨true, bs s.2.2.1⟩])) (fun s => 4 - s.1) (fun s => s.1 ≤ 4 ∧ redP m A (unP 4) s.1 = some s.2) (0, (A, unP 4, 1)) ⟨by simp, rfl⟩
    ⟨[0, 1, 2], by simp [-List.reduceReplicate, LES]⟩ ?_
  rintro ⟨k, a, b, d⟩ ⟨hk, hred⟩
  simp only at hk hred
  obtain ⟨hla, hlb⟩ := redP_len hA hU hk hred
  simp only at hla hlb
  rcases Nat.lt_or_ge k 4 with h | h
  · simp only [↓VC, VP, TT, Nat.reduceEqDiff, reduceCtorEq, Nat.reduceAdd, Nat.reduceSub, Nat.reduceLT, Nat.reduceMul, Nat.reducePow, Nat.reduceLeDiff, Int.reduceToNat, Int.reduceLE, Int.reduceLT, Int.reducePow, h, (eq_true (by omega) : ((k : Int) < 4) = True), (eq_true (by omega) : ((k : Int) < ((4 : Nat) : Int)) = True), wrap_i64 (n := (k : Int) + 1) (by omega) (by omega), decide_true]
    refine kLoop_of (fun i : Nat => ([.c (.int .i64 (m)), .j, .j, .p 0 0, .j, .p 1 0, .p 2 0, .c (.int .u8 ((d).toNat : Int)), .c (.int .i64 (k)), .c (.int .i64 (i)), .j, .j, .j, .j, .j, .j, .j, .j, .j, .j, .j, .j, .j, .j, .j, .j, .j, .j, .j, .j, .j, .j, .j, .j, .j, .j, .j, .j, .j, .j, .j, .j, .j, .j, .j, .j, .j, .j, .j, .j, .j, .j, .j, .j, .j, .j, .j, .j, .j, .j, .j, .j, .j, .j, .j, .j, .j, .j, .j, .j, .j, .j, .j, .j, .j, .j, .j, .j, .j, .j, .j, .j, .j, .j, .j, .j, .j, .j, .j, .j, .j, .j, .j, .j, .j, .j, .j, .j, .j, .j, .j, .j, .j, .j, .j, .j, .j, .j, .j, .j, .j, .j, .j, .j, .j, .j, .j, .j, .j, .j, .j, .j, .j, .j, .j, .j, .j, .j, .j, .j, .j, .j, .j, .j, .j, .j, .j, .j, .j, .j, .j, .j, .j, .j, .j, .j, .j, .j, .j, .j, .j, .j, .j, .j, .j, .j, .j, .j, .j], [⟨true, bs a⟩, ⟨true, bs (List.replicate 16 0)⟩, ⟨true, bs b⟩])) (fun i => 4 - i) (fun i => k ≤ i ∧ i ≤ 4 ∧ fiF a k (4 - i) i = fi a k) k ⟨by omega, by omega, rfl⟩
      ⟨[0, 1, 2], by simp [-List.reduceReplicate, LES]⟩ ?_
    rintro i ⟨hki, hi, hfi⟩
    rcases Nat.lt_or_ge i 4 with h2 | h2
    · simp (config := { maxSteps := 2000000 }) only [↓VC, VP, TT, Nat.reduceEqDiff, reduceCtorEq, Nat.reduceAdd, Nat.reduceSub, Nat.reduceLT, Nat.reduceMul, Nat.reducePow, Nat.reduceLeDiff, Int.reduceToNat, Int.reduceLE, Int.reduceLT, Int.reducePow, and_self, h2, (eq_true (by omega) : ((i : Int) < 4) = True), (eq_true (by omega) : ((i : Int) < ((4 : Nat) : Int)) = True), wrap_i64 (n := (i : Int) + 1) (by omega) (by omega), decide_true, hla, hlb, rowG_def, rowG_len hla h2, rowG_len hlb h2, rowG_len hla h, rowG_len hlb h, (eq_false (by omega) : ((i : Int) = 4) = False), (eq_true (by omega) : (i * 4 + 4 ≤ 16) = True), (eq_true (by omega) : (k * 4 + 4 ≤ 16) = True), splB_length, h, (eq_true (by omega) : ((k : Int) < ((4 : Nat) : Int)) = True), (eq_true (by omega) : (i * 4 + k < 16) = True), eq0_iff, eq0_iff']
      obtain ⟨n, hn⟩ : ∃ n, 4 - i = n + 1 := ⟨3 - i, by omega⟩
      rw [hn, fiF] at hfi
      refine ⟨fun hz => ?_, fun hz => ?_⟩
      · rw [if_pos hz] at hfi
        exact ⟨i + 1, ⟨by omega, by omega, by rw [← hfi]; congr 1; omega⟩, by omega, [0, 1, 2], by simp [-List.reduceReplicate, LES]⟩
      · rw [if_neg hz] at hfi
        refine ⟨fun h4 => by rw [beq_iff_eq] at h4; omega, fun _ => ?_⟩
        refine kCut_of (fun _ : Unit => ([.c (.int .i64 (m)), .j, .j, .p 0 0, .j, .p 1 0, .p 2 0, .c (.int .u8 ((d).toNat : Int)), .c (.int .i64 (k)), .c (.int .i64 (i)), .p 3 0, .p 4 0, .j, .j, .j, .j, .j, .j, .j, .j, .j, .j, .j, .j, .j, .j, .j, .j, .j, .j, .j, .j, .j, .j, .j, .j, .j, .j, .j, .j, .j, .j, .j, .j, .j, .j, .j, .j, .j, .j, .j, .j, .j, .j, .j, .j, .j, .j, .j, .j, .j, .j, .j, .j, .j, .j, .j, .j, .j, .j, .j, .j, .j, .j, .j, .j, .j, .j, .j, .j, .j, .j, .j, .j, .j, .j, .j, .j, .j, .j, .j, .j, .j, .j, .j, .j, .j, .j, .j, .j, .j, .j, .j, .j, .j, .j, .j, .j, .j, .j, .j, .j, .j, .j, .j, .j, .j, .j, .j, .j, .j, .j, .j, .j, .j, .j, .j, .j, .j, .j, .j, .j, .j, .j, .j, .j, .j, .j, .j, .j, .j, .j, .j, .j, .j, .j, .j, .j, .j, .j, .j, .j, .j, .j, .j, .j, .j, .j, .j], [⟨true, bs a⟩, ⟨true, bs (List.replicate 16 0)⟩, ⟨true, bs b⟩, ⟨true, bs (rowG a i)⟩, ⟨true, bs (rowG b i)⟩])) (fun _ => True) ?_ (fun _ _ => ?_)
        · simp (config := { maxSteps := 2000000 }) only [↓VC, VP, TT, Nat.reduceEqDiff, reduceCtorEq, Nat.reduceAdd, Nat.reduceSub, Nat.reduceLT, Nat.reduceMul, Nat.reducePow, Nat.reduceLeDiff, Int.reduceToNat, Int.reduceLE, Int.reduceLT, Int.reducePow, and_self, hla, hlb, rowG_def, rowG_len hla h2, rowG_len hlb h2, (eq_true (by omega) : (i * 4 + 4 ≤ 16) = True)]
          repeat' apply And.intro
          all_goals first | omega | (refine ⟨(), [0, 1, 2, 3, 4], ?_⟩; simp [-List.reduceReplicate, LES]; done) | (refine ⟨(), [0, 1, 2, 4, 3], ?_⟩; simp [-List.reduceReplicate, LES]; done)
        have hkk : k * 4 + k < 16 := by omega
        have hsa := swapR_len hla h2 h
        have hsb := swapR_len hlb h2 h
        simp (config := { maxSteps := 2000000 }) only [↓VC, VP, TT, Nat.reduceEqDiff, reduceCtorEq, Nat.reduceAdd, Nat.reduceSub, Nat.reduceLT, Nat.reduceMul, Nat.reducePow, Nat.reduceLeDiff, Int.reduceToNat, Int.reduceLE, Int.reduceLT, Int.reducePow, and_self, hla, hlb, rowG_def, swapR_def, hsa, hsb, hkk, splB_row hla h2 h, splB_row hlb h2 h, rowG_len hla h2, rowG_len hlb h2, rowG_len hla h, rowG_len hlb h, (eq_true (by omega) : (i * 4 + 4 ≤ 16) = True), (eq_true (by omega) : (k * 4 + 4 ≤ 16) = True), h, h2, (eq_true (by omega) : ((k : Int) < ((4 : Nat) : Int)) = True), (eq_true (by omega) : ((i : Int) < ((4 : Nat) : Int)) = True)]
        have hstep : redP m A (unP 4) (k + 1) = some (redS m k (a, b, d)) := by
          rw [redP, hred]
          simp only
          rw [if_neg (by rw [← hfi]; omega)]
        unfold redS at hstep
        simp only [← hfi] at hstep
        generalize swapR a i k = a1 at *
        generalize swapR b i k = b1 at *
        refine kCall_val (c_spec_l01Times m d (a1.getD (k * 4 + k) 0) hm hm') (by rfl) [] (by simp [CALL]) (by simp [CALL, cellsAt]) (by simp [CALL]) (by simp [okL_bs]) ?_
        simp only [CALL, ↓VC, VP, TT, Nat.reduceEqDiff, reduceCtorEq, Nat.reduceAdd, Nat.reduceSub, Nat.reduceLT, Nat.reduceMul, Nat.reducePow, Nat.reduceLeDiff, Int.reduceToNat, Int.reduceLE, Int.reduceLT, Int.reducePow, hsa, hkk, h, (eq_true (by omega) : ((k : Int) < ((4 : Nat) : Int)) = True)]
        refine kCall_val (c_spec_l01Inv m (a1.getD (k * 4 + k) 0) hm hm') (by rfl) [] (by simp [CALL]) (by simp [CALL, cellsAt]) (by simp [CALL]) (by simp [okL_bs]) ?_
        simp only [CALL, ↓VC, VP, TT, Nat.reduceEqDiff, reduceCtorEq, Nat.reduceAdd, Nat.reduceSub, Nat.reduceLT, Nat.reduceMul, Nat.reducePow, Nat.reduceLeDiff, Int.reduceToNat, Int.reduceLE, Int.reduceLT, Int.reducePow]
        generalize pw254 m (a1.getD (k * 4 + k) 0) = inv at *
        generalize tmul m d (a1.getD (k * 4 + k) 0) = d1 at *
        refine kLoop_of (fun j : Nat => ([.c (.int .i64 (m)), .j, .j, .p 0 0, .j, .p 1 0, .p 2 0, .c (.int .u8 ((d1).toNat : Int)), .c (.int .i64 (k)), .j, .j, .j, .c (.int .u8 ((inv).toNat : Int)), .c (.int .i64 (j)), .j, .j, .j, .j, .j, .j, .j, .j, .j, .j, .j, .j, .j, .j, .j, .j, .j, .j, .j, .j, .j, .j, .j, .j, .j, .j, .j, .j, .j, .j, .j, .j, .j, .j, .j, .j, .j, .j, .j, .j, .j, .j, .j, .j, .j, .j, .j, .j, .j, .j, .j, .j, .j, .j, .j, .j, .j, .j, .j, .j, .j, .j, .j, .j, .j, .j, .j, .j, .j, .j, .j, .j, .j, .j, .j, .j, .j, .j, .j, .j, .j, .j, .j, .j, .j, .j, .j, .j, .j, .j, .j, .j, .j, .j, .j, .j, .j, .j, .j, .j, .j, .j, .j, .j, .j, .j, .j, .j, .j, .j, .j, .j, .j, .j, .j, .j, .j, .j, .j, .j, .j, .j, .j, .j, .j, .j, .j, .j, .j, .j, .j, .j, .j, .j, .j, .j, .j, .j, .j, .j, .j, .j, .j, .j, .j], [⟨true, bs (scP m inv k a1 j)⟩, ⟨true, bs (List.replicate 16 0)⟩, ⟨true, bs (scP m inv k b1 j)⟩])) (fun j => 4 - j) (fun j => j ≤ 4) 0 (by omega)
          ⟨[0, 1, 2], by simp [-List.reduceReplicate, LES, scP]⟩ ?_
        intro j hj
        have hsc := fun j => scP_len m inv k hsa j
        have hsd := fun j => scP_len m inv k hsb j
        rcases Nat.lt_or_ge j 4 with h3 | h3
        · have hkj : k * 4 + j < 16 := by omega
          simp only [↓VC, VP, TT, Nat.reduceEqDiff, reduceCtorEq, Nat.reduceAdd, Nat.reduceSub, Nat.reduceLT, Nat.reduceMul, Nat.reducePow, Nat.reduceLeDiff, Int.reduceToNat, Int.reduceLE, Int.reduceLT, Int.reducePow, h3, (eq_true (by omega) : ((j : Int) < 4) = True), (eq_true (by omega) : ((j : Int) < ((4 : Nat) : Int)) = True), wrap_i64 (n := (j : Int) + 1) (by omega) (by omega), decide_true, hsc, hsd, hkj, h, h3, (eq_true (by omega) : ((k : Int) < ((4 : Nat) : Int)) = True)]
          refine kCall_val (c_spec_l01Times m ((scP m inv k a1 j).getD (k * 4 + j) 0) inv hm hm') (by rfl) [] (by simp [CALL]) (by simp [CALL, cellsAt]) (by simp [CALL]) (by simp [okL_bs]) ?_
          simp only [CALL, ↓VC, VP, TT, Nat.reduceEqDiff, reduceCtorEq, Nat.reduceAdd, Nat.reduceSub, Nat.reduceLT, Nat.reduceMul, Nat.reducePow, Nat.reduceLeDiff, Int.reduceToNat, Int.reduceLE, Int.reduceLT, Int.reducePow, hsc, hsd, hkj, h, h3, (eq_true (by omega) : ((k : Int) < ((4 : Nat) : Int)) = True), (eq_true (by omega) : ((j : Int) < ((4 : Nat) : Int)) = True)]
          refine kCall_val (c_spec_l01Times m ((scP m inv k b1 j).getD (k * 4 + j) 0) inv hm hm') (by rfl) [] (by simp [CALL]) (by simp [CALL, cellsAt]) (by simp [CALL]) (by simp [okL_bs]) ?_
          simp only [CALL, ↓VC, VP, TT, Nat.reduceEqDiff, reduceCtorEq, Nat.reduceAdd, Nat.reduceSub, Nat.reduceLT, Nat.reduceMul, Nat.reducePow, Nat.reduceLeDiff, Int.reduceToNat, Int.reduceLE, Int.reduceLT, Int.reducePow, hsc, hsd, hkj, h, h3, (eq_true (by omega) : ((k : Int) < ((4 : Nat) : Int)) = True), (eq_true (by omega) : ((j : Int) < ((4 : Nat) : Int)) = True)]
          refine ⟨j + 1, by omega, by omega, [0, 1, 2], ?_⟩
          try rw [wrap_i64 (by omega) (by omega)]
          simp [-List.reduceReplicate, LES, scP]
        · obtain rfl : j = 4 := by omega
          simp only [↓VC, VP, TT, Nat.reduceEqDiff, reduceCtorEq, Nat.reduceAdd, Nat.reduceSub, Nat.reduceLT, Nat.reduceMul, Nat.reducePow, Nat.reduceLeDiff, Int.reduceToNat, Int.reduceLE, Int.reduceLT, Int.reducePow, (eq_false (by omega) : (((4 : Nat) : Int) < 4) = False), decide_false]
          have hla2 := hsc 4
          have hlb2 := hsd 4
          generalize scP m inv k a1 4 = a2 at *
          generalize scP m inv k b1 4 = b2 at *
          refine kLoop_of (fun r : Nat => ([.c (.int .i64 (m)), .j, .j, .p 0 0, .j, .p 1 0, .p 2 0, .c (.int .u8 ((d1).toNat : Int)), .c (.int .i64 (k)), .j, .j, .j, .j, .j, .c (.int .i64 (r)), .j, .j, .j, .j, .j, .j, .j, .j, .j, .j, .j, .j, .j, .j, .j, .j, .j, .j, .j, .j, .j, .j, .j, .j, .j, .j, .j, .j, .j, .j, .j, .j, .j, .j, .j, .j, .j, .j, .j, .j, .j, .j, .j, .j, .j, .j, .j, .j, .j, .j, .j, .j, .j, .j, .j, .j, .j, .j, .j, .j, .j, .j, .j, .j, .j, .j, .j, .j, .j, .j, .j, .j, .j, .j, .j, .j, .j, .j, .j, .j, .j, .j, .j, .j, .j, .j, .j, .j, .j, .j, .j, .j, .j, .j, .j, .j, .j, .j, .j, .j, .j, .j, .j, .j, .j, .j, .j, .j, .j, .j, .j, .j, .j, .j, .j, .j, .j, .j, .j, .j, .j, .j, .j, .j, .j, .j, .j, .j, .j, .j, .j, .j, .j, .j, .j, .j, .j, .j, .j, .j, .j, .j, .j, .j], [⟨true, bs (elA m k a2 b2 r).1⟩, ⟨true, bs (List.replicate 16 0)⟩, ⟨true, bs (elA m k a2 b2 r).2⟩])) (fun r => 4 - r) (fun r => r ≤ 4) 0 (by omega)
            ⟨[0, 1, 2], by simp [-List.reduceReplicate, LES, elA]⟩ ?_
          intro r hr
          obtain ⟨hea, heb⟩ := elA_len m k hla2 hlb2 r
          rcases Nat.lt_or_ge r 4 with h4 | h4
          · have hrk : r * 4 + k < 16 := by omega
            have hel : elA m k a2 b2 (r + 1) = if r = k then elA m k a2 b2 r else (elP m ((elA m k a2 b2 r).1.getD (r * 4 + k) 0) k r (elA m k a2 b2 r).1 4, elP m ((elA m k a2 b2 r).1.getD (r * 4 + k) 0) k r (elA m k a2 b2 r).2 4) := rfl
            generalize elA m k a2 b2 r = ab at *
            obtain ⟨a3, b3⟩ := ab
            simp only at hel hea heb
            simp only [↓VC, VP, TT, Nat.reduceEqDiff, reduceCtorEq, Nat.reduceAdd, Nat.reduceSub, Nat.reduceLT, Nat.reduceMul, Nat.reducePow, Nat.reduceLeDiff, Int.reduceToNat, Int.reduceLE, Int.reduceLT, Int.reducePow, h4, (eq_true (by omega) : ((r : Int) < 4) = True), (eq_true (by omega) : ((r : Int) < ((4 : Nat) : Int)) = True), wrap_i64 (n := (r : Int) + 1) (by omega) (by omega), decide_true, hea, hrk, h, h4, (eq_true (by omega) : ((k : Int) < ((4 : Nat) : Int)) = True)]
            generalize a3.getD (r * 4 + k) 0 = f at *
            by_cases hk2 : r = k
            · rw [if_pos hk2] at hel
              have hbne : ((r : Int) != (k : Int)) = false := by simp; omega
              refine kLoop_of (fun _ : Unit => ([.c (.int .i64 (m)), .j, .j, .p 0 0, .j, .p 1 0, .p 2 0, .c (.int .u8 ((d1).toNat : Int)), .c (.int .i64 (k)), .j, .j, .j, .j, .j, .c (.int .i64 (r)), .j, .c (.int .i64 (0)), .j, .j, .j, .j, .j, .j, .j, .j, .j, .j, .j, .j, .j, .j, .j, .j, .j, .j, .j, .j, .j, .j, .j, .j, .j, .j, .j, .j, .j, .j, .j, .j, .j, .j, .j, .j, .j, .j, .j, .j, .j, .j, .j, .j, .j, .j, .j, .j, .j, .j, .j, .j, .j, .j, .j, .j, .j, .j, .j, .j, .j, .j, .j, .j, .j, .j, .j, .j, .j, .j, .j, .j, .j, .j, .j, .j, .j, .j, .j, .j, .j, .j, .j, .j, .j, .j, .j, .j, .j, .j, .j, .j, .j, .j, .j, .j, .j, .j, .j, .j, .j, .j, .j, .j, .j, .j, .j, .j, .j, .j, .j, .j, .j, .j, .j, .j, .j, .j, .j, .j, .j, .j, .j, .j, .j, .j, .j, .j, .j, .j, .j, .j, .j, .j, .j, .j, .j, .j, .j, .j, .j, .j], [⟨true, bs a3⟩, ⟨true, bs (List.replicate 16 0)⟩, ⟨true, bs b3⟩])) (fun _ => 0) (fun _ => True) () trivial
                ⟨[0, 1, 2], by simp [-List.reduceReplicate, LES]⟩ ?_
              intro _ _
              simp only [↓VC, VP, TT, Nat.reduceEqDiff, reduceCtorEq, Nat.reduceAdd, Nat.reduceSub, Nat.reduceLT, Nat.reduceMul, Nat.reducePow, Nat.reduceLeDiff, Int.reduceToNat, Int.reduceLE, Int.reduceLT, Int.reducePow, hbne, show ((0 : Int) < 4) = True from eq_true (by decide), decide_true]
              refine ⟨r + 1, by omega, by omega, [0, 1, 2], ?_⟩
              rw [hel]
              try rw [wrap_i64 (by omega) (by omega)]
              simp [-List.reduceReplicate, LES]
            · rw [if_neg hk2] at hel
              have hbne : ((r : Int) != (k : Int)) = true := by simp; omega
              refine kLoop_of (fun j : Nat => ([.c (.int .i64 (m)), .j, .j, .p 0 0, .j, .p 1 0, .p 2 0, .c (.int .u8 ((d1).toNat : Int)), .c (.int .i64 (k)), .j, .j, .j, .j, .j, .c (.int .i64 (r)), .c (.int .u8 ((f).toNat : Int)), .c (.int .i64 (j)), .j, .j, .j, .j, .j, .j, .j, .j, .j, .j, .j, .j, .j, .j, .j, .j, .j, .j, .j, .j, .j, .j, .j, .j, .j, .j, .j, .j, .j, .j, .j, .j, .j, .j, .j, .j, .j, .j, .j, .j, .j, .j, .j, .j, .j, .j, .j, .j, .j, .j, .j, .j, .j, .j, .j, .j, .j, .j, .j, .j, .j, .j, .j, .j, .j, .j, .j, .j, .j, .j, .j, .j, .j, .j, .j, .j, .j, .j, .j, .j, .j, .j, .j, .j, .j, .j, .j, .j, .j, .j, .j, .j, .j, .j, .j, .j, .j, .j, .j, .j, .j, .j, .j, .j, .j, .j, .j, .j, .j, .j, .j, .j, .j, .j, .j, .j, .j, .j, .j, .j, .j, .j, .j, .j, .j, .j, .j, .j, .j, .j, .j, .j, .j, .j, .j, .j, .j, .j, .j, .j, .j, .j], [⟨true, bs (elP m f k r a3 j)⟩, ⟨true, bs (List.replicate 16 0)⟩, ⟨true, bs (elP m f k r b3 j)⟩])) (fun j => 4 - j) (fun j => j ≤ 4) 0 (by omega)
                ⟨[0, 1, 2], by simp [-List.reduceReplicate, LES, elP]⟩ ?_
              intro j hj
              have hpa := fun j => elP_len m f k r hea j
              have hpb := fun j => elP_len m f k r heb j
              rcases Nat.lt_or_ge j 4 with h5 | h5
              · have hkj : k * 4 + j < 16 := by omega
                have hrj : r * 4 + j < 16 := by omega
                simp only [↓VC, VP, TT, Nat.reduceEqDiff, reduceCtorEq, Nat.reduceAdd, Nat.reduceSub, Nat.reduceLT, Nat.reduceMul, Nat.reducePow, Nat.reduceLeDiff, Int.reduceToNat, Int.reduceLE, Int.reduceLT, Int.reducePow, h5, (eq_true (by omega) : ((j : Int) < 4) = True), (eq_true (by omega) : ((j : Int) < ((4 : Nat) : Int)) = True), wrap_i64 (n := (j : Int) + 1) (by omega) (by omega), decide_true, hbne, hpa, hpb, hkj, hrj, h, h4, h5, (eq_true (by omega) : ((k : Int) < ((4 : Nat) : Int)) = True), (eq_true (by omega) : ((r : Int) < ((4 : Nat) : Int)) = True)]
                refine kCall_val (c_spec_l01Times m f ((elP m f k r a3 j).getD (k * 4 + j) 0) hm hm') (by rfl) [] (by simp [CALL]) (by simp [CALL, cellsAt]) (by simp [CALL]) (by simp [okL_bs]) ?_
                simp only [CALL, ↓VC, VP, TT, Nat.reduceEqDiff, reduceCtorEq, Nat.reduceAdd, Nat.reduceSub, Nat.reduceLT, Nat.reduceMul, Nat.reducePow, Nat.reduceLeDiff, Int.reduceToNat, Int.reduceLE, Int.reduceLT, Int.reducePow, List.length_set, hpa, hpb, hkj, hrj, h, h4, h5, (eq_true (by omega) : ((k : Int) < ((4 : Nat) : Int)) = True), (eq_true (by omega) : ((r : Int) < ((4 : Nat) : Int)) = True), (eq_true (by omega) : ((j : Int) < ((4 : Nat) : Int)) = True)]
                refine kCall_val (c_spec_l01Times m f ((elP m f k r b3 j).getD (k * 4 + j) 0) hm hm') (by rfl) [] (by simp [CALL]) (by simp [CALL, cellsAt]) (by simp [CALL]) (by simp [okL_bs]) ?_
                simp only [CALL, ↓VC, VP, TT, Nat.reduceEqDiff, reduceCtorEq, Nat.reduceAdd, Nat.reduceSub, Nat.reduceLT, Nat.reduceMul, Nat.reducePow, Nat.reduceLeDiff, Int.reduceToNat, Int.reduceLE, Int.reduceLT, Int.reducePow, List.length_set, hpa, hpb, hkj, hrj, h, h4, h5, (eq_true (by omega) : ((k : Int) < ((4 : Nat) : Int)) = True), (eq_true (by omega) : ((r : Int) < ((4 : Nat) : Int)) = True), (eq_true (by omega) : ((j : Int) < ((4 : Nat) : Int)) = True)]
                refine ⟨j + 1, by omega, by omega, [0, 1, 2], ?_⟩
                try rw [wrap_i64 (by omega) (by omega)]
                simp [-List.reduceReplicate, LES, elP]
              · obtain rfl : j = 4 := by omega
                simp only [↓VC, VP, TT, Nat.reduceEqDiff, reduceCtorEq, Nat.reduceAdd, Nat.reduceSub, Nat.reduceLT, Nat.reduceMul, Nat.reducePow, Nat.reduceLeDiff, Int.reduceToNat, Int.reduceLE, Int.reduceLT, Int.reducePow, (eq_false (by omega) : (((4 : Nat) : Int) < 4) = False), decide_false, show ((4 : Int) < 4) = False from eq_false (by decide), decide_false]
                refine ⟨r + 1, by omega, by omega, [0, 1, 2], ?_⟩
                rw [hel]
                try rw [wrap_i64 (by omega) (by omega)]
                simp [-List.reduceReplicate, LES]
          · obtain rfl : r = 4 := by omega
            simp only [↓VC, VP, TT, Nat.reduceEqDiff, reduceCtorEq, Nat.reduceAdd, Nat.reduceSub, Nat.reduceLT, Nat.reduceMul, Nat.reducePow, Nat.reduceLeDiff, Int.reduceToNat, Int.reduceLE, Int.reduceLT, Int.reducePow, (eq_false (by omega) : (((4 : Nat) : Int) < 4) = False), decide_false]
            refine ⟨(k + 1, ((elA m k a2 b2 4).1, (elA m k a2 b2 4).2, d1)), ⟨by simp only; omega, hstep⟩, by simp only; omega, [0, 1, 2], ?_⟩
            try rw [wrap_i64 (by omega) (by omega)]
            simp [-List.reduceReplicate, LES]
    · obtain rfl : i = 4 := by omega
      simp only [↓VC, VP, TT, Nat.reduceEqDiff, reduceCtorEq, Nat.reduceAdd, Nat.reduceSub, Nat.reduceLT, Nat.reduceMul, Nat.reducePow, Nat.reduceLeDiff, Int.reduceToNat, Int.reduceLE, Int.reduceLT, Int.reducePow, (eq_false (by omega) : (((4 : Nat) : Int) < 4) = False), decide_false]
      refine ⟨fun _ => ?_, fun hf => by simp at hf⟩
      have hn : redP m A (unP 4) 4 = none := by
        have h1 : redP m A (unP 4) (k + 1) = none := by
          rw [redP, hred]
          rw [show 4 - 4 = 0 from rfl, fiF] at hfi
          simp [← hfi]
        have := redP_none h1 (3 - k)
        rwa [show k + 1 + (3 - k) = 4 by omega] at this
      refine ⟨_, _, [], ⟨rfl, rfl⟩, ?_⟩; simp [-List.reduceReplicate, LES, invM, hn]
  · obtain rfl : k = 4 := by omega
    simp only [↓VC, VP, TT, Nat.reduceEqDiff, reduceCtorEq, Nat.reduceAdd, Nat.reduceSub, Nat.reduceLT, Nat.reduceMul, Nat.reducePow, Nat.reduceLeDiff, Int.reduceToNat, Int.reduceLE, Int.reduceLT, Int.reducePow, (eq_false (by omega) : (((4 : Nat) : Int) < 4) = False), decide_false, hlb]
    refine ⟨_, _, [], ⟨rfl, rfl⟩, ?_⟩; simp [-List.reduceReplicate, LES, invM, hred]
end Go.Proofs.YtahnjhppkgndiaaGreat

import Derived.Test.YtapagcnipdpfiaaAbO
import Derived.Test.YtapagcnipdpfiaaProofOf
/- AbsenceOf: the program. -/
set_option linter.unusedSimpArgs false
set_option linter.unusedVariables false
namespace Go.Proofs.Ytapagcnipdpfiaa
open Go Go.Vc
set_option maxRecDepth 10000
set_option maxHeartbeats 4000000
theorem k_impl_AbsenceOf (n c : Nat) (D x : List UInt8) (hD : D.length = 32 * n) (hx : x.length = 32) (hc : n ≤ c) (hn : n ≤ 64) (hA : ascD n D = true) (hF : fdB n D x = false) : LC Try.prog 30 [.s 0 0 n c, .a (bs x)] [⟨false, bs D⟩] (Ret [⟨false, bs D⟩] (fun s : AbSt => s.k = min (plN D x n + 1) n - (plN D x n - 1)) fun s => (.t [.a (.c (.int .i64 ((plN D x n : Nat))) :: s.cells 1 n (plN D x n - 1)), .c (.int .i64 (0))], s.blks 1 n (plN D x n - 1) D)) := by
  have hpl := plN_le D x n
  have key := c_hasher_proof n
  refine LC_of (X := XX (fun | 11 => .one 0 (.one 1 (.one 2 (.one 3 (.one 4 (.one 5 (.one 6 (.one 7 (.one 8 (.one 9 .nil))))))))) | 12 => .one 0 (.one 1 (.one 2 (.one 3 (.one 4 (.one 5 (.one 6 (.one 7 (.one 8 (.one 9 .nil))))))))) | _ => .nil) (fun _ => []) [25, 33, 34, 61, 62, 82, 87, 112, 119, 141] 1) envOK Try.func30 (by kernel_rfl) (by kernel_rfl) rfl (Nat.le_of_ble_eq_true (by kernel_rfl)) ?_
  simp only [kFun, Try.f30, List.length_nil, List.length_cons, Nat.sub_zero, Nat.reduceSub, Nat.reduceAdd, List.nil_append, List.cons_append, List.replicate_succ, List.replicate_zero]
  simp only [XX, ↓VC, VP, TT, List.getElem?_toArray, Nat.reduceEqDiff, reduceCtorEq, Nat.reduceAdd, Nat.reduceSub, Nat.reduceLT, Nat.reduceMul, Nat.reducePow, Nat.reduceLeDiff, Int.reduceToNat, Int.reduceLE, Int.reduceLT, Int.reducePow, hx]
  refine kGd_split rfl (fun h => ?_) (fun h => ?_)
  · simp only [decide_eq_true_eq] at h; omega
  simp only [↓VC, VP, TT, List.getElem?_toArray, Nat.reduceEqDiff, reduceCtorEq, Nat.reduceAdd, Nat.reduceSub, Nat.reduceLT, Nat.reduceMul, Nat.reducePow, Nat.reduceLeDiff, Int.reduceToNat, Int.reduceLE, Int.reduceLT, Int.reducePow, h]
  refine kCall_val (c_impl_ascends n c D hD hc (by omega)) (by rfl) [(0, 0)] (by simp [CALL, cellsAt, tk, take_room, bs_length, bs_nil, instL_room, hB, cellsAt, instL_hEng, hEng_take, tk, okL_bs, okL_hEng]) (by simp [CALL, cellsAt, tk, take_room, bs_length, bs_nil, instL_room, hB, cellsAt, instL_hEng, hEng_take, tk, okL_bs, okL_hEng]) (by simp [CALL, cellsAt, tk, take_room, bs_length, bs_nil, instL_room, hB, cellsAt, instL_hEng, hEng_take, tk, okL_bs, okL_hEng]) (by simp [okL_bs, okL_room, okL, okV, instL_room, hB, cellsAt, instL_hEng, hEng_take, tk, okL_bs, okL_hEng]) ?_
  simp (config := { maxSteps := 2000000 }) only [CALL, ↓VC, VP, TT, List.getElem?_toArray, Nat.reduceEqDiff, reduceCtorEq, Nat.reduceAdd, Nat.reduceSub, Nat.reduceLT, Nat.reduceMul, Nat.reducePow, Nat.reduceLeDiff, Int.reduceToNat, Int.reduceLE, Int.reduceLT, Int.reducePow, instL_room, Bool.not_true, Bool.not_false, instL_room, hB, instL_hEng0, hA, Bool.not_true]
  refine ⟨by omega, ?_⟩
  simp only [tk32 hx]
  refine kCall_val (c_search n c D x hD hx hc (by omega) hA) (by rfl) [(0, 0)] (by simp [CALL, cellsAt, tk, take_room, bs_length, bs_nil, instL_room, hB, cellsAt, instL_hEng, hEng_take, tk, okL_bs, okL_hEng]) (by simp [CALL, cellsAt, tk, take_room, bs_length, bs_nil, instL_room, hB, cellsAt, instL_hEng, hEng_take, tk, okL_bs, okL_hEng]) (by simp [CALL, cellsAt, tk, take_room, bs_length, bs_nil, instL_room, hB, cellsAt, instL_hEng, hEng_take, tk, okL_bs, okL_hEng]) (by simp [okL_bs, okL_room, okL, okV, instL_room, hB, cellsAt, instL_hEng, hEng_take, tk, okL_bs, okL_hEng]) ?_
  simp (config := { maxSteps := 2000000 }) only [CALL, ↓VC, VP, TT, List.getElem?_toArray, Nat.reduceEqDiff, reduceCtorEq, Nat.reduceAdd, Nat.reduceSub, Nat.reduceLT, Nat.reduceMul, Nat.reducePow, Nat.reduceLeDiff, Int.reduceToNat, Int.reduceLE, Int.reduceLT, Int.reducePow, instL_room, Bool.not_true, Bool.not_false, instL_room, hB, instL_hEng0, hx, hF]
  refine kCall_Ret c_newHasher (by rfl) [] (by simp [CALL]) (by simp [CALL]) (by simp [CALL]) (by simp) (by simp [hB]) fun _ _ => ?_
  simp only [CALL, ↓VC, VP, TT, List.getElem?_toArray, Nat.reduceEqDiff, reduceCtorEq, Nat.reduceAdd, Nat.reduceSub, Nat.reduceLT, Nat.reduceMul, Nat.reducePow, Nat.reduceLeDiff, Int.reduceToNat, Int.reduceLE, Int.reduceLT, Int.reducePow, hB, instL_hEng0]
  refine ⟨by simp [TT], ?_⟩
  generalize plN D x n = p at *
  obtain ⟨i0, hi0⟩ : ∃ i0, i0 = p - 1 := ⟨_, rfl⟩
  have hlb : ∀ q : Nat, IntKind.i64.wrap ((q : Int) - 1) = (q : Int) - 1 ∨ 1000000 < q := fun q => by
    rcases Nat.lt_or_ge 1000000 q with h | h
    · exact .inr h
    · exact .inl (wrap_i64 (by omega) (by omega))
  have hw1 : IntKind.i64.wrap ((p : Int) - 1) = (p : Int) - 1 := by rcases hlb p with h | h; exact h; omega
  have hw2 : IntKind.i64.wrap ((n : Int) - 1) = (n : Int) - 1 := by rcases hlb n with h | h; exact h; omega
  rw [← hi0, hw1]
  refine kLoop_of (fun s : Nat × AbSt => ([.s 0 0 n c, .j, .j, .p 1 0, .p 2 0, .j, .j, .j, .p 6 0, .p 7 0, .j, .j, .j, .j, .j, .j, .j, .j, .j, .j, .j, .j, .j, .j, .j, .j, .j, .j, .j, .j, .j, .j, .j, .j, .j, .a [.c (.int .i64 ((p : Int) - 1)), .c (.int .i64 (p))], .c (.int .i64 (s.1)), .j, .j, .j, .j, .j, .j, .j, .j, .j, .j, .j, .j, .j, .j, .j, .j, .j, .j, .j, .j, .j, .j, .j, .j, .j, .j, .j], [⟨false, bs D⟩, ⟨true, bs x⟩, ⟨true, [.c (.int .i64 (0)), .c (.slice none 0 0), .c (.slice none 0 0)]⟩, ⟨true, hEng 4 5⟩, ⟨true, bs hT1⟩, ⟨true, bs hT2⟩, ⟨true, [.p 3 0]⟩, ⟨true, .c (.int .i64 (p)) :: s.2.cells 8 n i0⟩] ++ s.2.blks 8 n i0 D)) (fun s => 2 - s.1) (fun s => s.1 ≤ 2 ∧ s.2.k = (if 1 ≤ s.1 ∧ 1 ≤ p then 1 else 0) + (if 2 ≤ s.1 ∧ p < n then 1 else 0)) (0, .z) ⟨by simp, by simp [AbSt.k.eq_1]⟩ ⟨[0, 1, 2, 3, 4, 5, 6, 7], by simp [-List.reduceReplicate, LES, AbSt.k.eq_1, AbSt.k.eq_2, AbSt.k.eq_3, AbSt.cells.eq_1, AbSt.cells.eq_2, AbSt.cells.eq_3, AbSt.blks.eq_1, AbSt.blks.eq_2, AbSt.blks.eq_3, renL_hEng, okL_hEng]⟩ ?_
  rintro ⟨k, s⟩ ⟨hk, hs⟩
  simp only at hk hs
  obtain rfl | rfl | rfl : k = 0 ∨ k = 1 ∨ k = 2 := by omega
  · rcases s with _ | ⟨r, a, b⟩ | ⟨r, s, a, b⟩ <;> simp [AbSt.k.eq_2, AbSt.k.eq_3] at hs
    simp only [AbSt.k.eq_1, AbSt.k.eq_2, AbSt.k.eq_3, AbSt.cells.eq_1, AbSt.cells.eq_2, AbSt.cells.eq_3, AbSt.blks.eq_1, AbSt.blks.eq_2, AbSt.blks.eq_3, Nat.add_zero, List.append_nil, List.cons_append, List.nil_append]
    simp only [↓VC, VP, TT, List.getElem?_toArray, Nat.reduceEqDiff, reduceCtorEq, Nat.reduceAdd, Nat.reduceSub, Nat.reduceLT, Nat.reduceMul, Nat.reducePow, Nat.reduceLeDiff, Int.reduceToNat, Int.reduceLE, Int.reduceLT, Int.reducePow, (eq_true (by omega) : (((0 : Nat) : Int) < 2) = True), decide_true]
    refine ⟨by omega, ?_⟩
    refine kCall_val (c_impl_lengthD n c D) (by rfl) [(0, 0)] (by simp [CALL, cellsAt, tk, take_room, bs_length, bs_nil, instL_room, hB, cellsAt, instL_hEng, hEng_take, tk, okL_bs, okL_hEng]) (by simp [CALL, cellsAt, tk, take_room, bs_length, bs_nil, instL_room, hB, cellsAt, instL_hEng, hEng_take, tk, okL_bs, okL_hEng]) (by simp [CALL, cellsAt, tk, take_room, bs_length, bs_nil, instL_room, hB, cellsAt, instL_hEng, hEng_take, tk, okL_bs, okL_hEng]) (by simp [okL_bs, okL_room, okL, okV, instL_room, hB, cellsAt, instL_hEng, hEng_take, tk, okL_bs, okL_hEng]) ?_
    simp (config := { maxSteps := 2000000 }) only [CALL, ↓VC, VP, TT, List.getElem?_toArray, Nat.reduceEqDiff, reduceCtorEq, Nat.reduceAdd, Nat.reduceSub, Nat.reduceLT, Nat.reduceMul, Nat.reducePow, Nat.reduceLeDiff, Int.reduceToNat, Int.reduceLE, Int.reduceLT, Int.reducePow, instL_room, Bool.not_true, Bool.not_false, instL_room, hB, instL_hEng0]
    rw [hw2]
    refine kCall_val (c_impl_inRange ((p : Int) - 1) 0 ((n : Int) - 1)) (by rfl) [] (by simp [CALL]) (by simp [CALL, cellsAt]) (by simp [CALL]) (by simp [okL_bs]) ?_
    simp only [CALL, ↓VC, VP, TT, List.getElem?_toArray, Nat.reduceEqDiff, reduceCtorEq, Nat.reduceAdd, Nat.reduceSub, Nat.reduceLT, Nat.reduceMul, Nat.reducePow, Nat.reduceLeDiff, Int.reduceToNat, Int.reduceLE, Int.reduceLT, Int.reducePow]
    refine ⟨fun h1 => ?_, fun h1 => ?_⟩
    · have hin : i0 < n := by omega
      have hdl := dgA_len hD hin
      have e : (p : Int) - 1 = ((i0 : Nat) : Int) := by omega
      simp only [↓VC, VP, TT, List.getElem?_toArray, Nat.reduceEqDiff, reduceCtorEq, Nat.reduceAdd, Nat.reduceSub, Nat.reduceLT, Nat.reduceMul, Nat.reducePow, Nat.reduceLeDiff, Int.reduceToNat, Int.reduceLE, Int.reduceLT, Int.reducePow, e, hD, dgA_eq, hdl, flatZ, Nat.mul_one, bs_length, List.length_replicate, Nat.le_refl, if_true, and_self, splice_bs, splB0 (show (dgA D i0).length = (List.replicate 32 (0 : UInt8)).length by rw [hdl, List.length_replicate]), tkn hdl, true_or, false_or, true_and, and_true]
      repeat (refine ⟨by first | omega | (simp; done) | decide, ?_⟩)
      refine fun r1 c1 e1 e2 => ?_
      refine kCall_Ret (key i0 D c hD hc (by omega) (by omega) hin) (by rfl) [(3, 0), (4, 0), (5, 0), (0, 0)] (by simp [CALL, cellsAt, tk, take_room, bs_length, bs_nil, instL_room, hB, cellsAt, instL_hEng, hEng_take, tk, okL_bs, okL_hEng]) (by simp [CALL, cellsAt, tk, take_room, bs_length, bs_nil, instL_room, hB, cellsAt, instL_hEng, hEng_take, tk, okL_bs, okL_hEng]) (by simp [CALL, cellsAt, tk, take_room, bs_length, bs_nil, instL_room, hB, cellsAt, instL_hEng, hEng_take, tk, okL_bs, okL_hEng]) (by simp [okL_bs, okL_room, okL, okV, instL_room, hB, cellsAt, instL_hEng, hEng_take, tk, okL_bs, okL_hEng]) (by simp [CALL, cellsAt, tk, take_room, bs_length, bs_nil, instL_room, hB, cellsAt, instL_hEng, hEng_take, tk, okL_bs, okL_hEng]) fun r2 h2' => ?_
      simp (config := { maxSteps := 2000000 }) only [CALL, ↓VC, VP, TT, List.getElem?_toArray, Nat.reduceEqDiff, reduceCtorEq, Nat.reduceAdd, Nat.reduceSub, Nat.reduceLT, Nat.reduceMul, Nat.reducePow, Nat.reduceLeDiff, Int.reduceToNat, Int.reduceLE, Int.reduceLT, Int.reducePow, instL_room, Bool.not_true, Bool.not_false, instL_room, hB, instL_hEng0]
      refine ⟨.inl trivial, .inl trivial, .inr trivial, fun r3 c3 e3 e4 => ?_⟩
      refine ⟨(1, .one r2 (c1 - 1) (c3 - 1)), ⟨by simp, by simp only [AbSt.k.eq_1, AbSt.k.eq_2, AbSt.k.eq_3, AbSt.cells.eq_1, AbSt.cells.eq_2, AbSt.cells.eq_3, AbSt.blks.eq_1, AbSt.blks.eq_2, AbSt.blks.eq_3]; rw [if_pos (by omega), if_neg (by omega)]⟩, by simp, [0, 1, 2, 3, 4, 5, 6, 7, 9, 12, 10], ?_⟩
      rw [wrap_i64 (by omega) (by omega)]
      simp only [AbSt.k.eq_1, AbSt.k.eq_2, AbSt.k.eq_3, AbSt.cells.eq_1, AbSt.cells.eq_2, AbSt.cells.eq_3, AbSt.blks.eq_1, AbSt.blks.eq_2, AbSt.blks.eq_3, show 1 + (c1 - 1) = c1 by omega, show 1 + (c3 - 1) = c3 by omega, show 32 * (c1 - 1) = r1 by omega, show c3 - 1 = r3 by omega]
      simp [-List.reduceReplicate, LES, renL_hEng, okL_hEng]; try omega
    · refine ⟨(1, .z), ⟨by simp, by simp only [AbSt.k.eq_1, AbSt.k.eq_2, AbSt.k.eq_3, AbSt.cells.eq_1, AbSt.cells.eq_2, AbSt.cells.eq_3, AbSt.blks.eq_1, AbSt.blks.eq_2, AbSt.blks.eq_3]; rw [if_neg (by omega), if_neg (by simp)]⟩, by simp, [0, 1, 2, 3, 4, 5, 6, 7], ?_⟩
      simp only [AbSt.k.eq_1, AbSt.k.eq_2, AbSt.k.eq_3, AbSt.cells.eq_1, AbSt.cells.eq_2, AbSt.cells.eq_3, AbSt.blks.eq_1, AbSt.blks.eq_2, AbSt.blks.eq_3]
      rw [wrap_i64 (by omega) (by omega)]
      simp [-List.reduceReplicate, LES, renL_hEng, okL_hEng]
  · simp only [Nat.le_refl, true_and, (by omega : ¬ 2 ≤ 1), false_and, if_false, Nat.add_zero] at hs
    rcases s with _ | ⟨r, a, b⟩ | ⟨r, s, a, b⟩
    · rw [AbSt.k.eq_1] at hs
      have hp0 : p = 0 := by by_cases h' : 1 ≤ p; · rw [if_pos h'] at hs; cases hs
                             · omega
      subst hp0
      obtain rfl : i0 = 0 := by omega
      simp only [AbSt.k.eq_1, AbSt.k.eq_2, AbSt.k.eq_3, AbSt.cells.eq_1, AbSt.cells.eq_2, AbSt.cells.eq_3, AbSt.blks.eq_1, AbSt.blks.eq_2, AbSt.blks.eq_3, Nat.add_zero, List.append_nil, List.cons_append, List.nil_append]
      simp only [↓VC, VP, TT, List.getElem?_toArray, Nat.reduceEqDiff, reduceCtorEq, Nat.reduceAdd, Nat.reduceSub, Nat.reduceLT, Nat.reduceMul, Nat.reducePow, Nat.reduceLeDiff, Int.reduceToNat, Int.reduceLE, Int.reduceLT, Int.reducePow, (eq_true (by omega) : (((1 : Nat) : Int) < 2) = True), decide_true]
      refine ⟨by omega, ?_⟩
      refine kCall_val (c_impl_lengthD n c D) (by rfl) [(0, 0)] (by simp [CALL, cellsAt, tk, take_room, bs_length, bs_nil, instL_room, hB, cellsAt, instL_hEng, hEng_take, tk, okL_bs, okL_hEng]) (by simp [CALL, cellsAt, tk, take_room, bs_length, bs_nil, instL_room, hB, cellsAt, instL_hEng, hEng_take, tk, okL_bs, okL_hEng]) (by simp [CALL, cellsAt, tk, take_room, bs_length, bs_nil, instL_room, hB, cellsAt, instL_hEng, hEng_take, tk, okL_bs, okL_hEng]) (by simp [okL_bs, okL_room, okL, okV, instL_room, hB, cellsAt, instL_hEng, hEng_take, tk, okL_bs, okL_hEng]) ?_
      simp (config := { maxSteps := 2000000 }) only [CALL, ↓VC, VP, TT, List.getElem?_toArray, Nat.reduceEqDiff, reduceCtorEq, Nat.reduceAdd, Nat.reduceSub, Nat.reduceLT, Nat.reduceMul, Nat.reducePow, Nat.reduceLeDiff, Int.reduceToNat, Int.reduceLE, Int.reduceLT, Int.reducePow, instL_room, Bool.not_true, Bool.not_false, instL_room, hB, instL_hEng0]
      rw [hw2]
      refine kCall_val (c_impl_inRange ((0 : Nat) : Int) 0 ((n : Int) - 1)) (by rfl) [] (by simp [CALL]) (by simp [CALL, cellsAt]) (by simp [CALL]) (by simp [okL_bs]) ?_
      simp only [CALL, ↓VC, VP, TT, List.getElem?_toArray, Nat.reduceEqDiff, reduceCtorEq, Nat.reduceAdd, Nat.reduceSub, Nat.reduceLT, Nat.reduceMul, Nat.reducePow, Nat.reduceLeDiff, Int.reduceToNat, Int.reduceLE, Int.reduceLT, Int.reducePow]
      refine ⟨fun h1 => ?_, fun h1 => ?_⟩
      · have hin : 0 < n := by omega
        have hdl := dgA_len hD hin
        have e0 : List.take 32 D = dgA D 0 := by unfold dgA; rw [Nat.mul_zero, List.drop_zero]
        simp only [↓VC, VP, TT, List.getElem?_toArray, Nat.reduceEqDiff, reduceCtorEq, Nat.reduceAdd, Nat.reduceSub, Nat.reduceLT, Nat.reduceMul, Nat.reducePow, Nat.reduceLeDiff, Int.reduceToNat, Int.reduceLE, Int.reduceLT, Int.reducePow, hD, dgA_eq, e0, hdl, flatZ, Nat.mul_one, bs_length, List.length_replicate, Nat.le_refl, if_true, and_self, splice_bs, splB0 (show (dgA D 0).length = (List.replicate 32 (0 : UInt8)).length by rw [hdl, List.length_replicate]), tkn hdl, true_or, false_or, true_and, and_true]
        repeat (refine ⟨by first | omega | (simp; done) | decide, ?_⟩)
        refine fun r1 c1 e1 e2 => ?_
        refine kCall_Ret (key 0 D c hD hc (by omega) (by omega) hin) (by rfl) [(3, 0), (4, 0), (5, 0), (0, 0)] (by simp [CALL, cellsAt, tk, take_room, bs_length, bs_nil, instL_room, hB, cellsAt, instL_hEng, hEng_take, tk, okL_bs, okL_hEng]) (by simp [CALL, cellsAt, tk, take_room, bs_length, bs_nil, instL_room, hB, cellsAt, instL_hEng, hEng_take, tk, okL_bs, okL_hEng]) (by simp [CALL, cellsAt, tk, take_room, bs_length, bs_nil, instL_room, hB, cellsAt, instL_hEng, hEng_take, tk, okL_bs, okL_hEng]) (by simp [okL_bs, okL_room, okL, okV, instL_room, hB, cellsAt, instL_hEng, hEng_take, tk, okL_bs, okL_hEng]) (by simp [CALL, cellsAt, tk, take_room, bs_length, bs_nil, instL_room, hB, cellsAt, instL_hEng, hEng_take, tk, okL_bs, okL_hEng]) fun r2 h2' => ?_
        simp (config := { maxSteps := 2000000 }) only [CALL, ↓VC, VP, TT, List.getElem?_toArray, Nat.reduceEqDiff, reduceCtorEq, Nat.reduceAdd, Nat.reduceSub, Nat.reduceLT, Nat.reduceMul, Nat.reducePow, Nat.reduceLeDiff, Int.reduceToNat, Int.reduceLE, Int.reduceLT, Int.reducePow, instL_room, Bool.not_true, Bool.not_false, instL_room, hB, instL_hEng0]
        refine ⟨.inl trivial, .inl trivial, .inr trivial, fun r3 c3 e3 e4 => ?_⟩
        refine ⟨(2, .one r2 (c1 - 1) (c3 - 1)), ⟨by simp, by simp [AbSt.k.eq_2, hin]⟩, by simp, [0, 1, 2, 3, 4, 5, 6, 7, 9, 12, 10], ?_⟩
        rw [wrap_i64 (by omega) (by omega)]
        simp only [AbSt.k.eq_1, AbSt.k.eq_2, AbSt.k.eq_3, AbSt.cells.eq_1, AbSt.cells.eq_2, AbSt.cells.eq_3, AbSt.blks.eq_1, AbSt.blks.eq_2, AbSt.blks.eq_3, show 1 + (c1 - 1) = c1 by omega, show 1 + (c3 - 1) = c3 by omega, show 32 * (c1 - 1) = r1 by omega, show c3 - 1 = r3 by omega]
        simp [-List.reduceReplicate, LES, renL_hEng, okL_hEng]; try omega
      · refine ⟨(2, .z), ⟨by simp, by simp [AbSt.k.eq_1, show n = 0 by omega]⟩, by simp, [0, 1, 2, 3, 4, 5, 6, 7], ?_⟩
        simp only [AbSt.k.eq_1, AbSt.k.eq_2, AbSt.k.eq_3, AbSt.cells.eq_1, AbSt.cells.eq_2, AbSt.cells.eq_3, AbSt.blks.eq_1, AbSt.blks.eq_2, AbSt.blks.eq_3]
        rw [wrap_i64 (by omega) (by omega)]
        simp [-List.reduceReplicate, LES, renL_hEng, okL_hEng]
    · have hp0 : 1 ≤ p := by by_cases h' : 1 ≤ p; · exact h'
                             · rw [if_neg h', AbSt.k.eq_2] at hs; cases hs
      obtain rfl : p = i0 + 1 := by omega
      simp only [AbSt.k.eq_1, AbSt.k.eq_2, AbSt.k.eq_3, AbSt.cells.eq_1, AbSt.cells.eq_2, AbSt.cells.eq_3, AbSt.blks.eq_1, AbSt.blks.eq_2, AbSt.blks.eq_3, Nat.add_zero, List.append_nil, List.cons_append, List.nil_append]
      simp only [↓VC, VP, TT, List.getElem?_toArray, Nat.reduceEqDiff, reduceCtorEq, Nat.reduceAdd, Nat.reduceSub, Nat.reduceLT, Nat.reduceMul, Nat.reducePow, Nat.reduceLeDiff, Int.reduceToNat, Int.reduceLE, Int.reduceLT, Int.reducePow, (eq_true (by omega) : (((1 : Nat) : Int) < 2) = True), decide_true]
      refine ⟨by omega, ?_⟩
      refine kCall_val (c_impl_lengthD n c D) (by rfl) [(0, 0)] (by simp [CALL, cellsAt, tk, take_room, bs_length, bs_nil, instL_room, hB, cellsAt, instL_hEng, hEng_take, tk, okL_bs, okL_hEng]) (by simp [CALL, cellsAt, tk, take_room, bs_length, bs_nil, instL_room, hB, cellsAt, instL_hEng, hEng_take, tk, okL_bs, okL_hEng]) (by simp [CALL, cellsAt, tk, take_room, bs_length, bs_nil, instL_room, hB, cellsAt, instL_hEng, hEng_take, tk, okL_bs, okL_hEng]) (by simp [okL_bs, okL_room, okL, okV, instL_room, hB, cellsAt, instL_hEng, hEng_take, tk, okL_bs, okL_hEng]) ?_
      simp (config := { maxSteps := 2000000 }) only [CALL, ↓VC, VP, TT, List.getElem?_toArray, Nat.reduceEqDiff, reduceCtorEq, Nat.reduceAdd, Nat.reduceSub, Nat.reduceLT, Nat.reduceMul, Nat.reducePow, Nat.reduceLeDiff, Int.reduceToNat, Int.reduceLE, Int.reduceLT, Int.reducePow, instL_room, Bool.not_true, Bool.not_false, instL_room, hB, instL_hEng0]
      rw [hw2]
      refine kCall_val (c_impl_inRange ((i0 + 1 : Nat) : Int) 0 ((n : Int) - 1)) (by rfl) [] (by simp [CALL]) (by simp [CALL, cellsAt]) (by simp [CALL]) (by simp [okL_bs]) ?_
      simp only [CALL, ↓VC, VP, TT, List.getElem?_toArray, Nat.reduceEqDiff, reduceCtorEq, Nat.reduceAdd, Nat.reduceSub, Nat.reduceLT, Nat.reduceMul, Nat.reducePow, Nat.reduceLeDiff, Int.reduceToNat, Int.reduceLE, Int.reduceLT, Int.reducePow]
      refine ⟨fun h1 => ?_, fun h1 => ?_⟩
      · have h0 : i0 + 1 < n := by omega
        have hdl := dgA_len hD (show i0 < n by omega)
        have hdl2 := dgA_len hD h0
        have htr : ∀ X, List.take 32 (bs (dgA D i0) ++ X) = bs (dgA D i0) := fun X => by rw [List.take_left' (by rw [bs_length, hdl])]
        simp only [↓VC, VP, TT, List.getElem?_toArray, Nat.reduceEqDiff, reduceCtorEq, Nat.reduceAdd, Nat.reduceSub, Nat.reduceLT, Nat.reduceMul, Nat.reducePow, Nat.reduceLeDiff, Int.reduceToNat, Int.reduceLE, Int.reduceLT, Int.reducePow, hD, dgA_eq, hdl2, flatZ, Nat.mul_one, bs_length, List.length_replicate, Nat.le_refl, if_true, and_self, splice_bs, splB0 (show (dgA D (i0 + 1)).length = (List.replicate 32 (0 : UInt8)).length by rw [hdl2, List.length_replicate]), tkn hdl2, true_or, false_or, true_and, and_true, htr, hdl, List.length_append]
        repeat (refine ⟨by first | omega | (simp; done) | decide, ?_⟩)
        refine fun r1 c1 e1 e2 => ?_
        refine kCall_Ret (key (i0 + 1) D c hD hc (by omega) (by omega) h0) (by rfl) [(3, 0), (4, 0), (5, 0), (0, 0)] (by simp [CALL, cellsAt, tk, take_room, bs_length, bs_nil, instL_room, hB, cellsAt, instL_hEng, hEng_take, tk, okL_bs, okL_hEng]) (by simp [CALL, cellsAt, tk, take_room, bs_length, bs_nil, instL_room, hB, cellsAt, instL_hEng, hEng_take, tk, okL_bs, okL_hEng]) (by simp [CALL, cellsAt, tk, take_room, bs_length, bs_nil, instL_room, hB, cellsAt, instL_hEng, hEng_take, tk, okL_bs, okL_hEng]) (by simp [okL_bs, okL_room, okL, okV, instL_room, hB, cellsAt, instL_hEng, hEng_take, tk, okL_bs, okL_hEng]) (by simp [CALL, cellsAt, tk, take_room, bs_length, bs_nil, instL_room, hB, cellsAt, instL_hEng, hEng_take, tk, okL_bs, okL_hEng]) fun r2 h2' => ?_
        simp (config := { maxSteps := 2000000 }) only [CALL, ↓VC, VP, TT, List.getElem?_toArray, Nat.reduceEqDiff, reduceCtorEq, Nat.reduceAdd, Nat.reduceSub, Nat.reduceLT, Nat.reduceMul, Nat.reducePow, Nat.reduceLeDiff, Int.reduceToNat, Int.reduceLE, Int.reduceLT, Int.reducePow, instL_room, Bool.not_true, Bool.not_false, instL_room, hB, instL_hEng0]
        refine ⟨by omega, .inr (by omega), .inr trivial, fun r3 c3 e3 e4 => ?_⟩
        refine ⟨(2, .two r r2 (c1 - 2) (c3 - 2)), ⟨by simp, by simp only [AbSt.k.eq_1, AbSt.k.eq_2, AbSt.k.eq_3, AbSt.cells.eq_1, AbSt.cells.eq_2, AbSt.cells.eq_3, AbSt.blks.eq_1, AbSt.blks.eq_2, AbSt.blks.eq_3]; rw [if_pos (by omega), if_pos (by omega)]⟩, by simp, [0, 1, 2, 3, 4, 5, 6, 7, 12, 15, 10, 13], ?_⟩
        rw [wrap_i64 (by omega) (by omega)]
        simp only [AbSt.k.eq_1, AbSt.k.eq_2, AbSt.k.eq_3, AbSt.cells.eq_1, AbSt.cells.eq_2, AbSt.cells.eq_3, AbSt.blks.eq_1, AbSt.blks.eq_2, AbSt.blks.eq_3, show 2 + (c1 - 2) = c1 by omega, show 2 + (c3 - 2) = c3 by omega, show 32 * (c1 - 2) = r1 by omega, show c3 - 2 = r3 by omega]
        simp [-List.reduceReplicate, LES, renL_hEng, okL_hEng]; try omega
      · refine ⟨(2, .one r a b), ⟨by simp, by simp only [AbSt.k.eq_1, AbSt.k.eq_2, AbSt.k.eq_3, AbSt.cells.eq_1, AbSt.cells.eq_2, AbSt.cells.eq_3, AbSt.blks.eq_1, AbSt.blks.eq_2, AbSt.blks.eq_3]; rw [if_pos (by omega), if_neg (by omega)]⟩, by simp, [0, 1, 2, 3, 4, 5, 6, 7, 8, 9, 10], ?_⟩
        simp only [AbSt.k.eq_1, AbSt.k.eq_2, AbSt.k.eq_3, AbSt.cells.eq_1, AbSt.cells.eq_2, AbSt.cells.eq_3, AbSt.blks.eq_1, AbSt.blks.eq_2, AbSt.blks.eq_3]
        rw [wrap_i64 (by omega) (by omega)]
        simp [-List.reduceReplicate, LES, renL_hEng, okL_hEng]
    · exfalso
      rw [AbSt.k.eq_3] at hs
      rcases Nat.lt_or_ge p 1 with g1 | g1 <;> simp [g1, Nat.not_le.2, show ¬ 2 ≤ 1 by omega] at hs <;> omega
  · have hfin : s.k = min (p + 1) n - i0 := by
      rw [hs]
      clear hw1 hw2 hlb hs key
      rcases Nat.lt_or_ge p 1 with g1 | g1 <;> rcases Nat.lt_or_ge p n with g2 | g2 <;> simp only [g1, g2, (by omega : 1 ≤ 2), Nat.le_refl, true_and, if_true, (by omega : ¬ 1 ≤ 0), Nat.not_le.2 g1, Nat.not_lt.2 g2, if_false] <;> omega
    rcases s with _ | ⟨r, a, b⟩ | ⟨r, s, a, b⟩ <;> simp only [AbSt.k.eq_1, AbSt.k.eq_2, AbSt.k.eq_3, AbSt.cells.eq_1, AbSt.cells.eq_2, AbSt.cells.eq_3, AbSt.blks.eq_1, AbSt.blks.eq_2, AbSt.blks.eq_3, Nat.add_zero, List.append_nil, List.cons_append, List.nil_append] at hfin ⊢
    · simp only [↓VC, VP, TT, List.getElem?_toArray, Nat.reduceEqDiff, reduceCtorEq, Nat.reduceAdd, Nat.reduceSub, Nat.reduceLT, Nat.reduceMul, Nat.reducePow, Nat.reduceLeDiff, Int.reduceToNat, Int.reduceLE, Int.reduceLT, Int.reducePow, (eq_false (by omega) : (((2 : Nat) : Int) < 2) = False), decide_false]
      refine ⟨_, _, [0], ⟨.z, by simp only [AbSt.k.eq_1, AbSt.k.eq_2, AbSt.k.eq_3, AbSt.cells.eq_1, AbSt.cells.eq_2, AbSt.cells.eq_3, AbSt.blks.eq_1, AbSt.blks.eq_2, AbSt.blks.eq_3]; exact hfin, rfl, rfl⟩, ?_⟩
      simp [-List.reduceReplicate, LES, AbSt.k.eq_1, AbSt.k.eq_2, AbSt.k.eq_3, AbSt.cells.eq_1, AbSt.cells.eq_2, AbSt.cells.eq_3, AbSt.blks.eq_1, AbSt.blks.eq_2, AbSt.blks.eq_3]
    · simp only [↓VC, VP, TT, List.getElem?_toArray, Nat.reduceEqDiff, reduceCtorEq, Nat.reduceAdd, Nat.reduceSub, Nat.reduceLT, Nat.reduceMul, Nat.reducePow, Nat.reduceLeDiff, Int.reduceToNat, Int.reduceLE, Int.reduceLT, Int.reducePow, (eq_false (by omega) : (((2 : Nat) : Int) < 2) = False), decide_false]
      refine ⟨_, _, [0, 8, 9, 10], ⟨.one r a b, by simp only [AbSt.k.eq_1, AbSt.k.eq_2, AbSt.k.eq_3, AbSt.cells.eq_1, AbSt.cells.eq_2, AbSt.cells.eq_3, AbSt.blks.eq_1, AbSt.blks.eq_2, AbSt.blks.eq_3]; exact hfin, rfl, rfl⟩, ?_⟩
      simp [-List.reduceReplicate, LES, AbSt.k.eq_1, AbSt.k.eq_2, AbSt.k.eq_3, AbSt.cells.eq_1, AbSt.cells.eq_2, AbSt.cells.eq_3, AbSt.blks.eq_1, AbSt.blks.eq_2, AbSt.blks.eq_3]
    · simp only [↓VC, VP, TT, List.getElem?_toArray, Nat.reduceEqDiff, reduceCtorEq, Nat.reduceAdd, Nat.reduceSub, Nat.reduceLT, Nat.reduceMul, Nat.reducePow, Nat.reduceLeDiff, Int.reduceToNat, Int.reduceLE, Int.reduceLT, Int.reducePow, (eq_false (by omega) : (((2 : Nat) : Int) < 2) = False), decide_false]
      refine ⟨_, _, [0, 8, 9, 10, 11], ⟨.two r s a b, by simp only [AbSt.k.eq_1, AbSt.k.eq_2, AbSt.k.eq_3, AbSt.cells.eq_1, AbSt.cells.eq_2, AbSt.cells.eq_3, AbSt.blks.eq_1, AbSt.blks.eq_2, AbSt.blks.eq_3]; exact hfin, rfl, rfl⟩, ?_⟩
      simp [-List.reduceReplicate, LES, AbSt.k.eq_1, AbSt.k.eq_2, AbSt.k.eq_3, AbSt.cells.eq_1, AbSt.cells.eq_2, AbSt.cells.eq_3, AbSt.blks.eq_1, AbSt.blks.eq_2, AbSt.blks.eq_3]
end Go.Proofs.Ytapagcnipdpfiaa

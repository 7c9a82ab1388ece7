import Derived.Test.YtapagcnipdpfiaaPlace
import Derived.Test.YtapagcnipdpfiaaProofs
import Derived.Test.YtapagcnipdpfiaaDigSM
/- AbsenceOf: the reference. -/
set_option linter.unusedSimpArgs false
set_option linter.unusedVariables false
namespace Go.Proofs.Ytapagcnipdpfiaa
open Go Go.Vc
set_option maxRecDepth 10000
set_option maxHeartbeats 4000000
/-- A proof in memory of its own, empty where the reference hands back nil. -/
theorem c_spec_l09ProofU (n i : Nat) (D : List UInt8) (c : Nat) (hD : D.length = 32 * n) (hc : n ≤ c) (h1 : 1 ≤ n) (h2 : n ≤ 32768) (hi : i < n) : LC Try.prog 75 [.s 0 0 n c, .c (.int .i64 (i))] [⟨false, bs D⟩] (Ret [⟨false, bs D⟩] (fun _ : Nat => True) fun r => (.s 1 0 (depL n i) (depL n i + r), [⟨true, bs (proofL n i D) ++ List.replicate (32 * r) .j⟩])) := by
  refine LC_nil (c_spec_l09Proof n i D c hD hc h1 h2 hi) fun o ho => ?_
  cases o with
  | some r => exact ⟨r, trivial, by simp [nilV, nilVs], [], by simp, by simp⟩
  | none =>
    have e := ho rfl
    subst e
    exact ⟨0, trivial, by simp [nilV, nilVs, depL_one], _, by simp [proofL_one, bs_nil]; rfl, by simp⟩
/-- What is done: none, one, two neighbours (rooms of the proofs, of the digests, of the list of proofs). -/
inductive AbSt where
  | z
  | one (r a b : Nat)
  | two (r s a b : Nat)
def AbSt.k : AbSt → Nat
  | .z => 0
  | .one .. => 1
  | .two .. => 2
/-- The slices and their blocks, from handle h on. -/
def AbSt.cells (h n i : Nat) : AbSt → List V
  | .z => [.c (.slice none 0 0), .c (.slice none 0 0)]
  | .one _ a b => [.s h 0 1 (1 + a), .s (h + 1) 0 1 (1 + b)]
  | .two _ _ a b => [.s h 0 2 (2 + a), .s (h + 1) 0 2 (2 + b)]
def AbSt.blks (h n i : Nat) (D : List UInt8) : AbSt → List Blk
  | .z => []
  | .one r a b => [⟨true, bs (dgA D i) ++ List.replicate (32 * a) .j⟩, ⟨true, [.s (h + 2) 0 (depL n i) (depL n i + r)] ++ List.replicate b .j⟩, ⟨true, bs (proofL n i D) ++ List.replicate (32 * r) .j⟩]
  | .two r s a b => [⟨true, bs (dgA D i) ++ bs (dgA D (i + 1)) ++ List.replicate (32 * a) .j⟩, ⟨true, [.s (h + 2) 0 (depL n i) (depL n i + r), .s (h + 3) 0 (depL n (i + 1)) (depL n (i + 1) + s)] ++ List.replicate b .j⟩, ⟨true, bs (proofL n i D) ++ List.replicate (32 * r) .j⟩, ⟨true, bs (proofL n (i + 1) D) ++ List.replicate (32 * s) .j⟩]
theorem k_spec_AbsenceOf (n c : Nat) (D x : List UInt8) (hD : D.length = 32 * n) (hx : x.length = 32) (hc : n ≤ c) (hn : n ≤ 64) (hA : ascD n D = true) (hF : fdB n D x = false) : LC Try.prog 27 [.s 0 0 n c, .a (bs x)] [⟨false, bs D⟩] (Ret [⟨false, bs D⟩] (fun s : AbSt => s.k = min (plN D x n + 1) n - (plN D x n - 1)) fun s => (.t [.a (.c (.int .i64 ((plN D x n : Nat))) :: s.cells 1 n (plN D x n - 1)), .c (.int .i64 (0))], s.blks 1 n (plN D x n - 1) D)) := by
  have hpl := plN_le D x n
  have hfe : plN D x n < n → (dgA D (plN D x n) == x) = false := fun h => by
    unfold fdB at hF; rw [decide_eq_true h, Bool.true_and] at hF; exact hF
  refine LC_of (X := XX (fun | 4 => .one 0 (.one 1 (.one 2 (.one 3 (.one 4 (.one 5 (.one 6 (.one 7 (.one 8 (.one 9 (.one 10 (.one 11 (.one 12 .nil)))))))))))) | 9 => .one 0 (.one 1 (.one 2 (.one 3 (.one 4 (.one 5 (.one 6 (.one 7 (.one 8 (.one 9 .nil))))))))) | 10 => .one 0 (.one 1 (.one 2 (.one 3 (.one 4 (.one 5 (.one 6 (.one 7 (.one 8 .nil)))))))) | _ => .nil) (fun _ => []) [25, 33, 34, 61, 62, 82, 87, 112, 119, 141] 1) envOK Try.func27 (by kernel_rfl) (by kernel_rfl) rfl (Nat.le_of_ble_eq_true (by kernel_rfl)) ?_
  simp only [kFun, Try.f27, List.length_nil, List.length_cons, Nat.sub_zero, Nat.reduceSub, Nat.reduceAdd, List.nil_append, List.cons_append, List.replicate_succ, List.replicate_zero]
  simp only [XX, ↓VC, VP, TT, List.getElem?_toArray, Nat.reduceEqDiff, reduceCtorEq, Nat.reduceAdd, Nat.reduceSub, Nat.reduceLT, Nat.reduceMul, Nat.reducePow, Nat.reduceLeDiff, Int.reduceToNat, Int.reduceLE, Int.reduceLT, Int.reducePow, hx]
  refine kGd_split rfl (fun h => ?_) (fun h => ?_)
  · simp only [decide_eq_true_eq] at h; omega
  simp only [↓VC, VP, TT, List.getElem?_toArray, Nat.reduceEqDiff, reduceCtorEq, Nat.reduceAdd, Nat.reduceSub, Nat.reduceLT, Nat.reduceMul, Nat.reducePow, Nat.reduceLeDiff, Int.reduceToNat, Int.reduceLE, Int.reduceLT, Int.reducePow, h]
  refine kCall_val (c_spec_l09Ascending n c D hD hc (by omega)) (by rfl) [(0, 0)] (by simp [CALL, cellsAt, tk, take_room, bs_length, bs_nil, instL_room]) (by simp [CALL, cellsAt, tk, take_room, bs_length, bs_nil, instL_room]) (by simp [CALL, cellsAt, tk, take_room, bs_length, bs_nil, instL_room]) (by simp [okL_bs, okL_room, okL, okV, instL_room]) ?_
  simp (config := { maxSteps := 2000000 }) only [CALL, ↓VC, VP, TT, List.getElem?_toArray, Nat.reduceEqDiff, reduceCtorEq, Nat.reduceAdd, Nat.reduceSub, Nat.reduceLT, Nat.reduceMul, Nat.reducePow, Nat.reduceLeDiff, Int.reduceToNat, Int.reduceLE, Int.reduceLT, Int.reducePow, instL_room, Bool.not_true, Bool.not_false, instL_room, hA, Bool.not_true]
  refine ⟨by omega, ?_⟩
  simp only [tk32 hx]
  refine kCall_val (c_spec_l09Place n c D x hD hx hc (by omega)) (by rfl) [(0, 0)] (by simp [CALL, cellsAt, tk, take_room, bs_length, bs_nil, instL_room]) (by simp [CALL, cellsAt, tk, take_room, bs_length, bs_nil, instL_room]) (by simp [CALL, cellsAt, tk, take_room, bs_length, bs_nil, instL_room]) (by simp [okL_bs, okL_room, okL, okV, instL_room]) ?_
  simp (config := { maxSteps := 2000000 }) only [CALL, ↓VC, VP, TT, List.getElem?_toArray, Nat.reduceEqDiff, reduceCtorEq, Nat.reduceAdd, Nat.reduceSub, Nat.reduceLT, Nat.reduceMul, Nat.reducePow, Nat.reduceLeDiff, Int.reduceToNat, Int.reduceLE, Int.reduceLT, Int.reducePow, instL_room, Bool.not_true, Bool.not_false, instL_room, hx]
  refine ⟨by simp [TT], ?_⟩
  have hpn : ((plN D x n : Nat) : Int) < n ↔ plN D x n < n := by omega
  generalize plN D x n = p at *
  obtain ⟨i0, hi0⟩ : ∃ i0, i0 = p - 1 := ⟨_, rfl⟩
  have hmx : max 0 (IntKind.i64.wrap ((p : Int) - 1)) = ((i0 : Nat) : Int) := by rw [wrap_i64 (by omega) (by omega)]; omega
  rw [← hi0]
  refine kGd_split rfl (fun h2 => ?ga) (fun h2 => ?gb) <;> simp only [decide_eq_true_eq, decide_eq_false_iff_not, hpn] at h2
  case' ga =>
    simp only [↓VC, VP, TT, List.getElem?_toArray, Nat.reduceEqDiff, reduceCtorEq, Nat.reduceAdd, Nat.reduceSub, Nat.reduceLT, Nat.reduceMul, Nat.reducePow, Nat.reduceLeDiff, Int.reduceToNat, Int.reduceLE, Int.reduceLT, Int.reducePow, hD, hx, dgA_eq, tk32 hx, h2, hmx]
    have hne := hfe h2
    refine ⟨by omega, by omega, dgA_len hD h2, intCells_bs _, intCells_bs _, fun b hb => ⟨fun h5 => absurd (bs_inj.1 (hb.1 h5)) (by simpa using hne), fun h5 => ?_⟩⟩
  case' gb => simp only [↓VC, VP, TT, List.getElem?_toArray, Nat.reduceEqDiff, reduceCtorEq, Nat.reduceAdd, Nat.reduceSub, Nat.reduceLT, Nat.reduceMul, Nat.reducePow, Nat.reduceLeDiff, Int.reduceToNat, Int.reduceLE, Int.reduceLT, Int.reducePow, hD, hx, dgA_eq, tk32 hx, h2, hmx]
  all_goals
    clear hmx hpn hfe
    refine kLoop_of (fun s : AbSt => ([.s 0 0 n c, .j, .j, .p 1 0, .p 2 0, .j, .p 3 0, .c (.int .i64 (n)), .c (.int .i64 ((i0 + s.k : Nat))), .j, .j, .j, .j, .j, .j, .j, .j, .j, .j, .j, .j, .j, .j, .j, .j, .j, .j, .j, .j, .j, .j, .j, .j, .j, .j, .j, .j, .j, .j, .j, .j, .j, .j, .j, .j, .j, .j, .j, .j, .j, .j, .j, .j, .j, .j, .j, .j, .j, .j, .j, .j, .j, .j, .j, .j, .j, .j, .j, .j, .j, .j], [⟨false, bs D⟩, ⟨true, bs x⟩, ⟨true, [.c (.int .i64 (0)), .c (.slice none 0 0), .c (.slice none 0 0)]⟩, ⟨true, .c (.int .i64 (p)) :: s.cells 4 n i0⟩] ++ s.blks 4 n i0 D)) (fun s => 2 - s.k) (fun s => s.k ≤ min (p + 1) n - i0) .z (by simp [AbSt.k.eq_1]) ⟨[0, 1, 2, 3], by simp [-List.reduceReplicate, LES, AbSt.k.eq_1, AbSt.cells.eq_1, AbSt.blks.eq_1]⟩ ?_
    intro s hs
    rcases s with _ | ⟨r, a, b⟩ | ⟨r, s, a, b⟩ <;> simp only [AbSt.k.eq_1, AbSt.k.eq_2, AbSt.k.eq_3, AbSt.cells.eq_1, AbSt.cells.eq_2, AbSt.cells.eq_3, AbSt.blks.eq_1, AbSt.blks.eq_2, AbSt.blks.eq_3, Nat.add_zero, List.append_nil, List.cons_append, List.nil_append] at hs ⊢
    · rcases Nat.eq_zero_or_pos n with h0 | h0
      · simp only [↓VC, VP, TT, List.getElem?_toArray, Nat.reduceEqDiff, reduceCtorEq, Nat.reduceAdd, Nat.reduceSub, Nat.reduceLT, Nat.reduceMul, Nat.reducePow, Nat.reduceLeDiff, Int.reduceToNat, Int.reduceLE, Int.reduceLT, Int.reducePow, (eq_true (by omega) : ((i0 : Int) ≤ (p : Int)) = True), (eq_false (by omega) : ((i0 : Int) < (n : Int)) = False), decide_true, decide_false]
        refine ⟨_, _, [0], ⟨.z, by simp only [AbSt.k.eq_1, AbSt.k.eq_2, AbSt.k.eq_3, AbSt.cells.eq_1, AbSt.cells.eq_2, AbSt.cells.eq_3, AbSt.blks.eq_1, AbSt.blks.eq_2, AbSt.blks.eq_3]; omega, rfl, rfl⟩, ?_⟩
        simp [-List.reduceReplicate, LES, AbSt.k.eq_1, AbSt.k.eq_2, AbSt.k.eq_3, AbSt.cells.eq_1, AbSt.cells.eq_2, AbSt.cells.eq_3, AbSt.blks.eq_1, AbSt.blks.eq_2, AbSt.blks.eq_3]
      · have hin : i0 < n := by omega
        have hdl := dgA_len hD hin
        simp only [↓VC, VP, TT, List.getElem?_toArray, Nat.reduceEqDiff, reduceCtorEq, Nat.reduceAdd, Nat.reduceSub, Nat.reduceLT, Nat.reduceMul, Nat.reducePow, Nat.reduceLeDiff, Int.reduceToNat, Int.reduceLE, Int.reduceLT, Int.reducePow, (eq_true (by omega) : ((i0 : Int) ≤ (p : Int)) = True), (eq_true (by omega) : ((i0 : Int) < (n : Int)) = True), decide_true, decide_false, hD, dgA_eq, hdl, flatZ, Nat.mul_one, bs_length, List.length_replicate, Nat.le_refl, if_true, and_self, splice_bs, splB0 (show (dgA D i0).length = (List.replicate 32 (0 : UInt8)).length by rw [hdl, List.length_replicate]), tkn hdl, true_or, false_or, true_and, and_true]
        refine ⟨by omega, fun r1 c1 e1 e2 => ?_⟩
        refine kCall_Ret (c_spec_l09ProofU n i0 D c hD hc (by omega) (by omega) hin) (by rfl) [(0, 0)] (by simp [CALL, cellsAt, tk, take_room, bs_length, bs_nil, instL_room]) (by simp [CALL, cellsAt, tk, take_room, bs_length, bs_nil, instL_room]) (by simp [CALL, cellsAt, tk, take_room, bs_length, bs_nil, instL_room]) (by simp [okL_bs, okL_room, okL, okV, instL_room]) (by simp [CALL, cellsAt, tk, take_room, bs_length, bs_nil, instL_room]) fun r2 h2' => ?_
        simp (config := { maxSteps := 2000000 }) only [CALL, ↓VC, VP, TT, List.getElem?_toArray, Nat.reduceEqDiff, reduceCtorEq, Nat.reduceAdd, Nat.reduceSub, Nat.reduceLT, Nat.reduceMul, Nat.reducePow, Nat.reduceLeDiff, Int.reduceToNat, Int.reduceLE, Int.reduceLT, Int.reducePow, instL_room, Bool.not_true, Bool.not_false, instL_room]
        refine ⟨.inl trivial, .inl trivial, .inr trivial, fun r3 c3 e3 e4 => ?_⟩
        refine ⟨.one r2 (c1 - 1) (c3 - 1), by simp only [AbSt.k.eq_1, AbSt.k.eq_2, AbSt.k.eq_3, AbSt.cells.eq_1, AbSt.cells.eq_2, AbSt.cells.eq_3, AbSt.blks.eq_1, AbSt.blks.eq_2, AbSt.blks.eq_3]; omega, by simp only [AbSt.k.eq_1, AbSt.k.eq_2, AbSt.k.eq_3, AbSt.cells.eq_1, AbSt.cells.eq_2, AbSt.cells.eq_3, AbSt.blks.eq_1, AbSt.blks.eq_2, AbSt.blks.eq_3]; omega, [0, 1, 2, 3, 5, 8, 6], ?_⟩
        rw [wrap_i64 (by omega) (by omega)]
        simp only [AbSt.k.eq_1, AbSt.k.eq_2, AbSt.k.eq_3, AbSt.cells.eq_1, AbSt.cells.eq_2, AbSt.cells.eq_3, AbSt.blks.eq_1, AbSt.blks.eq_2, AbSt.blks.eq_3, show 1 + (c1 - 1) = c1 by omega, show 1 + (c3 - 1) = c3 by omega, show 32 * (c1 - 1) = r1 by omega, show c3 - 1 = r3 by omega]
        simp [-List.reduceReplicate, LES]; omega
    · rcases Nat.lt_or_ge (i0 + 1) n with h0 | h0
      · rcases Nat.lt_or_ge p (i0 + 1) with h1 | h1
        · simp only [↓VC, VP, TT, List.getElem?_toArray, Nat.reduceEqDiff, reduceCtorEq, Nat.reduceAdd, Nat.reduceSub, Nat.reduceLT, Nat.reduceMul, Nat.reducePow, Nat.reduceLeDiff, Int.reduceToNat, Int.reduceLE, Int.reduceLT, Int.reducePow, (eq_false (by omega) : (((i0 + 1 : Nat) : Int) ≤ (p : Int)) = False), decide_true, decide_false]
          refine ⟨_, _, [0, 4, 5, 6], ⟨.one r a b, by simp only [AbSt.k.eq_1, AbSt.k.eq_2, AbSt.k.eq_3, AbSt.cells.eq_1, AbSt.cells.eq_2, AbSt.cells.eq_3, AbSt.blks.eq_1, AbSt.blks.eq_2, AbSt.blks.eq_3]; omega, rfl, rfl⟩, ?_⟩
          simp [-List.reduceReplicate, LES, AbSt.k.eq_1, AbSt.k.eq_2, AbSt.k.eq_3, AbSt.cells.eq_1, AbSt.cells.eq_2, AbSt.cells.eq_3, AbSt.blks.eq_1, AbSt.blks.eq_2, AbSt.blks.eq_3]
        · have hdl := dgA_len hD (show i0 < n by omega)
          have hdl2 := dgA_len hD h0
          have htr : ∀ X, List.take 32 (bs (dgA D i0) ++ X) = bs (dgA D i0) := fun X => by rw [List.take_left' (by rw [bs_length, hdl])]
          simp only [↓VC, VP, TT, List.getElem?_toArray, Nat.reduceEqDiff, reduceCtorEq, Nat.reduceAdd, Nat.reduceSub, Nat.reduceLT, Nat.reduceMul, Nat.reducePow, Nat.reduceLeDiff, Int.reduceToNat, Int.reduceLE, Int.reduceLT, Int.reducePow, (eq_true (by omega) : (((i0 + 1 : Nat) : Int) ≤ (p : Int)) = True), (eq_true (by omega) : (((i0 + 1 : Nat) : Int) < (n : Int)) = True), decide_true, decide_false, hD, dgA_eq, hdl2, flatZ, Nat.mul_one, bs_length, List.length_replicate, Nat.le_refl, if_true, and_self, splice_bs, splB0 (show (dgA D (i0 + 1)).length = (List.replicate 32 (0 : UInt8)).length by rw [hdl2, List.length_replicate]), tkn hdl2, true_or, false_or, true_and, and_true, htr, hdl, List.length_append]
          refine ⟨by omega, by omega, by omega, fun r1 c1 e1 e2 => ?_⟩
          refine kCall_Ret (c_spec_l09ProofU n (i0 + 1) D c hD hc (by omega) (by omega) h0) (by rfl) [(0, 0)] (by simp [CALL, cellsAt, tk, take_room, bs_length, bs_nil, instL_room]) (by simp [CALL, cellsAt, tk, take_room, bs_length, bs_nil, instL_room]) (by simp [CALL, cellsAt, tk, take_room, bs_length, bs_nil, instL_room]) (by simp [okL_bs, okL_room, okL, okV, instL_room]) (by simp [CALL, cellsAt, tk, take_room, bs_length, bs_nil, instL_room]) fun r2 h2' => ?_
          simp (config := { maxSteps := 2000000 }) only [CALL, ↓VC, VP, TT, List.getElem?_toArray, Nat.reduceEqDiff, reduceCtorEq, Nat.reduceAdd, Nat.reduceSub, Nat.reduceLT, Nat.reduceMul, Nat.reducePow, Nat.reduceLeDiff, Int.reduceToNat, Int.reduceLE, Int.reduceLT, Int.reducePow, instL_room, Bool.not_true, Bool.not_false, instL_room]
          refine ⟨by omega, .inr (by omega), .inr trivial, fun r3 c3 e3 e4 => ?_⟩
          refine ⟨.two r r2 (c1 - 2) (c3 - 2), by simp only [AbSt.k.eq_1, AbSt.k.eq_2, AbSt.k.eq_3, AbSt.cells.eq_1, AbSt.cells.eq_2, AbSt.cells.eq_3, AbSt.blks.eq_1, AbSt.blks.eq_2, AbSt.blks.eq_3]; omega, by simp only [AbSt.k.eq_1, AbSt.k.eq_2, AbSt.k.eq_3, AbSt.cells.eq_1, AbSt.cells.eq_2, AbSt.cells.eq_3, AbSt.blks.eq_1, AbSt.blks.eq_2, AbSt.blks.eq_3]; omega, [0, 1, 2, 3, 8, 11, 6, 9], ?_⟩
          rw [wrap_i64 (by omega) (by omega)]
          simp only [AbSt.k.eq_1, AbSt.k.eq_2, AbSt.k.eq_3, AbSt.cells.eq_1, AbSt.cells.eq_2, AbSt.cells.eq_3, AbSt.blks.eq_1, AbSt.blks.eq_2, AbSt.blks.eq_3, show 2 + (c1 - 2) = c1 by omega, show 2 + (c3 - 2) = c3 by omega, show 32 * (c1 - 2) = r1 by omega, show c3 - 2 = r3 by omega]
          simp [-List.reduceReplicate, LES]; omega
      · simp only [↓VC, VP, TT, List.getElem?_toArray, Nat.reduceEqDiff, reduceCtorEq, Nat.reduceAdd, Nat.reduceSub, Nat.reduceLT, Nat.reduceMul, Nat.reducePow, Nat.reduceLeDiff, Int.reduceToNat, Int.reduceLE, Int.reduceLT, Int.reducePow, (eq_false (by omega) : (((i0 + 1 : Nat) : Int) < (n : Int)) = False), decide_false]
        refine kGd_split rfl (fun h3 => ?_) (fun h3 => ?_) <;> simp only [↓VC, VP, TT, List.getElem?_toArray, Nat.reduceEqDiff, reduceCtorEq, Nat.reduceAdd, Nat.reduceSub, Nat.reduceLT, Nat.reduceMul, Nat.reducePow, Nat.reduceLeDiff, Int.reduceToNat, Int.reduceLE, Int.reduceLT, Int.reducePow]
        all_goals
          first
          | (refine ⟨fun h4 => absurd h4 (by omega), fun h4 => ?_⟩; refine ⟨_, _, [0, 4, 5, 6], ⟨.one r a b, by simp only [AbSt.k.eq_1, AbSt.k.eq_2, AbSt.k.eq_3, AbSt.cells.eq_1, AbSt.cells.eq_2, AbSt.cells.eq_3, AbSt.blks.eq_1, AbSt.blks.eq_2, AbSt.blks.eq_3]; omega, rfl, rfl⟩, ?_⟩; simp [-List.reduceReplicate, LES, AbSt.k.eq_1, AbSt.k.eq_2, AbSt.k.eq_3, AbSt.cells.eq_1, AbSt.cells.eq_2, AbSt.cells.eq_3, AbSt.blks.eq_1, AbSt.blks.eq_2, AbSt.blks.eq_3]; done)
          | (refine ⟨_, _, [0, 4, 5, 6], ⟨.one r a b, by simp only [AbSt.k.eq_1, AbSt.k.eq_2, AbSt.k.eq_3, AbSt.cells.eq_1, AbSt.cells.eq_2, AbSt.cells.eq_3, AbSt.blks.eq_1, AbSt.blks.eq_2, AbSt.blks.eq_3]; omega, rfl, rfl⟩, ?_⟩; simp [-List.reduceReplicate, LES, AbSt.k.eq_1, AbSt.k.eq_2, AbSt.k.eq_3, AbSt.cells.eq_1, AbSt.cells.eq_2, AbSt.cells.eq_3, AbSt.blks.eq_1, AbSt.blks.eq_2, AbSt.blks.eq_3]; done)
    · simp only [↓VC, VP, TT, List.getElem?_toArray, Nat.reduceEqDiff, reduceCtorEq, Nat.reduceAdd, Nat.reduceSub, Nat.reduceLT, Nat.reduceMul, Nat.reducePow, Nat.reduceLeDiff, Int.reduceToNat, Int.reduceLE, Int.reduceLT, Int.reducePow, (eq_false (by omega) : (((i0 + 2 : Nat) : Int) ≤ (p : Int)) = False), decide_true, decide_false]
      refine ⟨_, _, [0, 4, 5, 6, 7], ⟨.two r s a b, by simp only [AbSt.k.eq_1, AbSt.k.eq_2, AbSt.k.eq_3, AbSt.cells.eq_1, AbSt.cells.eq_2, AbSt.cells.eq_3, AbSt.blks.eq_1, AbSt.blks.eq_2, AbSt.blks.eq_3]; omega, rfl, rfl⟩, ?_⟩
      simp [-List.reduceReplicate, LES, AbSt.k.eq_1, AbSt.k.eq_2, AbSt.k.eq_3, AbSt.cells.eq_1, AbSt.cells.eq_2, AbSt.cells.eq_3, AbSt.blks.eq_1, AbSt.blks.eq_2, AbSt.blks.eq_3]
end Go.Proofs.Ytapagcnipdpfiaa

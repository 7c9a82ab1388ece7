import Derived.Test.YtahnjhppkgndiaaGreatDrawR
import Derived.Test.YtahnjhppkgndiaaGreatPadM
/- Draws for digests and tags, each whole. -/
set_option linter.unusedSimpArgs false
set_option linter.unusedVariables false
namespace Go.Proofs.YtahnjhppkgndiaaGreat
open Go Go.Vc
set_option maxRecDepth 10000
set_option maxHeartbeats 40000000
section
variable {l : List UInt8} {c : Nat} {q : Nat × Nat}
theorem d_AbsorbBlock (hc : l.length ≤ c) (hm : l.length ≤ 4096) : LC Tryz.prog 40 [.s 0 0 l.length c] [⟨false, bs l⟩] (Ret [⟨false, bs l⟩] (fun x : DC × List UInt8 × List UInt8 => x.1.ok ∧ x.2.1.length = 32 ∧ x.2.2.length = 16) fun x => (.t [.a x.1.cells, .a (bs x.2.1), .a (bs x.2.2)], [])) := by
  refine LC_of (X := XX (fun _ => .nil) (fun _ => []) [15, 71, 72, 73, 79, 80, 87, 90, 91, 93, 99, 119, 137, 176, 177, 203, 204, 212, 219] 1) envOK Tryz.func40 (by kernel_rfl) (by kernel_rfl) rfl (Nat.le_of_ble_eq_true (by kernel_rfl)) ?_
  simp only [kFun, Tryz.f40, List.length_nil, List.length_cons, Nat.sub_zero, Nat.reduceSub, Nat.reduceAdd, List.nil_append, List.cons_append, List.replicate_succ, List.replicate_zero]
  simp only [XX, ↓VC, VP, TT, Nat.reduceEqDiff, reduceCtorEq, Nat.reduceAdd, Nat.reduceSub, Nat.reduceLT, Nat.reduceMul, Nat.reducePow, Nat.reduceLeDiff, Int.reduceToNat, Int.reduceLE, Int.reduceLT, Int.reducePow, cip_build, cipC_len z256 z16 z16]
  refine kCall_Ret (d_from hc hm) (by rfl) [(0, 0)] (by simp [CALL, SCB, SD, nsv]) (by simp [CALL, SCB, SD, nsv]) (by simp [CALL, SCB, SD, nsv]) (by simp [okL_bs, okL_room, okL, okV, SD, nsv]) (by simp [CALL, SCB, SD, nsv]) fun q hq => ?_
  simp (config := { maxSteps := 2000000 }) only [CALL, ↓VC, VP, TT, Nat.reduceEqDiff, reduceCtorEq, Nat.reduceAdd, Nat.reduceSub, Nat.reduceLT, Nat.reduceMul, Nat.reducePow, Nat.reduceLeDiff, Int.reduceToNat, Int.reduceLE, Int.reduceLT, Int.reducePow, GOB, GD, cipC_len z256 z16 z16, DC.cells]
  refine kCall_M (d_dcipher hc hm hq) (by rfl) [(4, 0), (0, 0)] (by simp [CALL, SCB, SD, nsv]) (by simp [CALL, SCB, SD, nsv]) (by simp) (by simp [CALL, SCB, SD, nsv]) (by simp [okL_bs, okL_room, okL, okV, SD, nsv]) (by intro x _; simp [keepR, bs_length, SD, nsv]) (by simp [CALL, SCB, SD, nsv]) fun x1 h1 => ?_
  obtain ⟨q1, ⟨z, b, A, pl, n⟩⟩ := x1
  obtain ⟨hq1, ⟨hb, hA, hp⟩⟩ := h1
  simp only [DC.cells] at hq1 hb hA hp ⊢
  simp (config := { maxSteps := 2000000 }) only [CALL, ↓VC, VP, TT, Nat.reduceEqDiff, reduceCtorEq, Nat.reduceAdd, Nat.reduceSub, Nat.reduceLT, Nat.reduceMul, Nat.reducePow, Nat.reduceLeDiff, Int.reduceToNat, Int.reduceLE, Int.reduceLT, Int.reducePow, GOB, GD, cipC_len z256 z16 z16, DC.cells, cipC_len hb hA hp]
  refine kCall_M (d_digest hc hm hq1) (by rfl) [(4, 0), (0, 0)] (by simp [CALL, SCB, SD, nsv]) (by simp [CALL, SCB, SD, nsv]) (by simp) (by simp [CALL, SCB, SD, nsv]) (by simp [okL_bs, okL_room, okL, okV, SD, nsv]) (by intro x _; simp [keepR, bs_length, SD, nsv]) (by simp [CALL, SCB, SD, nsv]) fun x2 h2 => ?_
  obtain ⟨q2, d⟩ := x2
  obtain ⟨hq2, hd⟩ := h2
  simp only at hq2 hd ⊢
  simp (config := { maxSteps := 2000000 }) only [CALL, ↓VC, VP, TT, Nat.reduceEqDiff, reduceCtorEq, Nat.reduceAdd, Nat.reduceSub, Nat.reduceLT, Nat.reduceMul, Nat.reducePow, Nat.reduceLeDiff, Int.reduceToNat, Int.reduceLE, Int.reduceLT, Int.reducePow, GOB, GD, cipC_len z256 z16 z16, DC.cells, hd]
  refine kCall_M (z_block hc hm hq2) (by rfl) [(4, 0), (0, 0)] (by simp [CALL, SCB, SD, nsv]) (by simp [CALL, SCB, SD, nsv]) (by simp) (by simp [CALL, SCB, SD, nsv]) (by simp [okL_bs, okL_room, okL, okV, SD, nsv]) (by intro x _; simp [keepR, bs_length, SD, nsv]) (by simp [CALL, SCB, SD, nsv]) fun x3 h3 => ?_
  obtain ⟨q3, s⟩ := x3
  obtain ⟨hq3, hs⟩ := h3
  simp only at hq3 hs ⊢
  simp (config := { maxSteps := 2000000 }) only [CALL, ↓VC, VP, TT, Nat.reduceEqDiff, reduceCtorEq, Nat.reduceAdd, Nat.reduceSub, Nat.reduceLT, Nat.reduceMul, Nat.reducePow, Nat.reduceLeDiff, Int.reduceToNat, Int.reduceLE, Int.reduceLT, Int.reducePow, GOB, GD, cipC_len z256 z16 z16, DC.cells, hd, hs, cipC_len hb hA hp, ↓cip_put_all z256 z16 z16 hb hA hp, ↓cip_all hb hA hp]
  exact ⟨_, _, [0], ⟨(⟨z, b, A, pl, n⟩, d, s), ⟨⟨hb, hA, hp⟩, hd, hs⟩, rfl, rfl⟩, by simp [-List.reduceReplicate, LES, renL_cip, okL_cip]⟩
theorem d_DigestOf (hc : l.length ≤ c) (hm : l.length ≤ 4096) : LC Tryz.prog 32 [.s 0 0 l.length c] [⟨false, bs l⟩] (Ret [⟨false, bs l⟩] (fun x : DC × List UInt8 × Nat => x.1.ok ∧ x.2.1.length ≤ 2001) fun x => (.t [.a x.1.cells, .s 1 0 x.2.1.length (x.2.1.length + x.2.2)], [⟨true, bs x.2.1 ++ List.replicate x.2.2 .j⟩])) := by
  refine LC_of (X := XX (fun _ => .nil) (fun _ => []) [15, 71, 72, 73, 79, 80, 87, 90, 91, 93, 99, 119, 137, 176, 177, 203, 204, 212, 219] 1) envOK Tryz.func32 (by kernel_rfl) (by kernel_rfl) rfl (Nat.le_of_ble_eq_true (by kernel_rfl)) ?_
  simp only [kFun, Tryz.f32, List.length_nil, List.length_cons, Nat.sub_zero, Nat.reduceSub, Nat.reduceAdd, List.nil_append, List.cons_append, List.replicate_succ, List.replicate_zero]
  simp only [XX, ↓VC, VP, TT, Nat.reduceEqDiff, reduceCtorEq, Nat.reduceAdd, Nat.reduceSub, Nat.reduceLT, Nat.reduceMul, Nat.reducePow, Nat.reduceLeDiff, Int.reduceToNat, Int.reduceLE, Int.reduceLT, Int.reducePow, cip_build, cipC_len z256 z16 z16]
  refine kCall_Ret (d_from hc hm) (by rfl) [(0, 0)] (by simp [CALL, SCB, SD, nsv]) (by simp [CALL, SCB, SD, nsv]) (by simp [CALL, SCB, SD, nsv]) (by simp [okL_bs, okL_room, okL, okV, SD, nsv]) (by simp [CALL, SCB, SD, nsv]) fun q hq => ?_
  simp (config := { maxSteps := 2000000 }) only [CALL, ↓VC, VP, TT, Nat.reduceEqDiff, reduceCtorEq, Nat.reduceAdd, Nat.reduceSub, Nat.reduceLT, Nat.reduceMul, Nat.reducePow, Nat.reduceLeDiff, Int.reduceToNat, Int.reduceLE, Int.reduceLT, Int.reducePow, GOB, GD, cipC_len z256 z16 z16, DC.cells]
  refine kCall_M (d_dcipher hc hm hq) (by rfl) [(2, 0), (0, 0)] (by simp [CALL, SCB, SD, nsv]) (by simp [CALL, SCB, SD, nsv]) (by simp) (by simp [CALL, SCB, SD, nsv]) (by simp [okL_bs, okL_room, okL, okV, SD, nsv]) (by intro x _; simp [keepR, bs_length, SD, nsv]) (by simp [CALL, SCB, SD, nsv]) fun x1 h1 => ?_
  obtain ⟨q1, ⟨z, b, A, pl, n⟩⟩ := x1
  obtain ⟨hq1, ⟨hb, hA, hp⟩⟩ := h1
  simp only [DC.cells] at hq1 hb hA hp ⊢
  simp (config := { maxSteps := 2000000 }) only [CALL, ↓VC, VP, TT, Nat.reduceEqDiff, reduceCtorEq, Nat.reduceAdd, Nat.reduceSub, Nat.reduceLT, Nat.reduceMul, Nat.reducePow, Nat.reduceLeDiff, Int.reduceToNat, Int.reduceLE, Int.reduceLT, Int.reducePow, GOB, GD, cipC_len z256 z16 z16, DC.cells, cipC_len hb hA hp]
  refine kCall_M (d_data hc hm hq1) (by rfl) [(2, 0), (0, 0)] (by simp [CALL, SCB, SD, nsv]) (by simp [CALL, SCB, SD, nsv]) (by simp) (by simp [CALL, SCB, SD, nsv]) (by simp [okL_bs, okL_room, okL, okV, SD, nsv]) (by intro x _; simp [keepR, bs_length, SD, nsv]) (by simp [CALL, SCB, SD, nsv]) fun x2 h2 => ?_
  obtain ⟨q2, D, r⟩ := x2
  obtain ⟨hq2, hD⟩ := h2
  simp only at hq2 hD ⊢
  simp (config := { maxSteps := 2000000 }) only [CALL, ↓VC, VP, TT, Nat.reduceEqDiff, reduceCtorEq, Nat.reduceAdd, Nat.reduceSub, Nat.reduceLT, Nat.reduceMul, Nat.reducePow, Nat.reduceLeDiff, Int.reduceToNat, Int.reduceLE, Int.reduceLT, Int.reducePow, GOB, GD, cipC_len z256 z16 z16, DC.cells, cipC_len hb hA hp, ↓cip_put_all z256 z16 z16 hb hA hp, ↓cip_all hb hA hp]
  exact ⟨_, _, [0, 3], ⟨(⟨z, b, A, pl, n⟩, D, r), ⟨⟨hb, hA, hp⟩, hD⟩, rfl, rfl⟩, by simp [-List.reduceReplicate, LES, renL_cip, okL_cip]⟩
theorem d_DigestText (hc : l.length ≤ c) (hm : l.length ≤ 4096) : LC Tryz.prog 47 [.s 0 0 l.length c] [⟨false, bs l⟩] (Ret [⟨false, bs l⟩] (fun x : List UInt8 => x.length = 32) fun x => (.a (bs x), [])) := by
  refine LC_of (X := XX (fun _ => .nil) (fun _ => []) [15, 71, 72, 73, 79, 80, 87, 90, 91, 93, 99, 119, 137, 176, 177, 203, 204, 212, 219] 1) envOK Tryz.func47 (by kernel_rfl) (by kernel_rfl) rfl (Nat.le_of_ble_eq_true (by kernel_rfl)) ?_
  simp only [kFun, Tryz.f47, List.length_nil, List.length_cons, Nat.sub_zero, Nat.reduceSub, Nat.reduceAdd, List.nil_append, List.cons_append, List.replicate_succ, List.replicate_zero]
  simp only [XX, ↓VC, VP, TT, Nat.reduceEqDiff, reduceCtorEq, Nat.reduceAdd, Nat.reduceSub, Nat.reduceLT, Nat.reduceMul, Nat.reducePow, Nat.reduceLeDiff, Int.reduceToNat, Int.reduceLE, Int.reduceLT, Int.reducePow]
  refine kCall_Ret (d_from hc hm) (by rfl) [(0, 0)] (by simp [CALL, SCB, SD, nsv]) (by simp [CALL, SCB, SD, nsv]) (by simp [CALL, SCB, SD, nsv]) (by simp [okL_bs, okL_room, okL, okV, SD, nsv]) (by simp [CALL, SCB, SD, nsv]) fun q hq => ?_
  simp (config := { maxSteps := 2000000 }) only [CALL, ↓VC, VP, TT, Nat.reduceEqDiff, reduceCtorEq, Nat.reduceAdd, Nat.reduceSub, Nat.reduceLT, Nat.reduceMul, Nat.reducePow, Nat.reduceLeDiff, Int.reduceToNat, Int.reduceLE, Int.reduceLT, Int.reducePow, GOB, GD, cipC_len z256 z16 z16, DC.cells]
  refine kCall_M (d_digest hc hm hq) (by rfl) [(2, 0), (0, 0)] (by simp [CALL, SCB, SD, nsv]) (by simp [CALL, SCB, SD, nsv]) (by simp) (by simp [CALL, SCB, SD, nsv]) (by simp [okL_bs, okL_room, okL, okV, SD, nsv]) (by intro x _; simp [keepR, bs_length, SD, nsv]) (by simp [CALL, SCB, SD, nsv]) fun x1 h1 => ?_
  obtain ⟨q1, d⟩ := x1
  obtain ⟨hq1, hd⟩ := h1
  simp only at hq1 hd ⊢
  simp (config := { maxSteps := 2000000 }) only [CALL, ↓VC, VP, TT, Nat.reduceEqDiff, reduceCtorEq, Nat.reduceAdd, Nat.reduceSub, Nat.reduceLT, Nat.reduceMul, Nat.reducePow, Nat.reduceLeDiff, Int.reduceToNat, Int.reduceLE, Int.reduceLT, Int.reducePow, GOB, GD, cipC_len z256 z16 z16, DC.cells, hd]
  exact ⟨_, _, [0], ⟨d, hd, rfl, rfl⟩, by simp [-List.reduceReplicate, LES]⟩
theorem d_HouseDigest (hc : l.length ≤ c) (hm : l.length ≤ 4096) : LC Tryz.prog 44 [.s 0 0 l.length c] [⟨false, bs l⟩] (Ret [⟨false, bs l⟩] (fun x : List UInt8 × Nat => x.1.length ≤ 2001) fun x => (.s 1 0 x.1.length (x.1.length + x.2), [⟨true, bs x.1 ++ List.replicate x.2 .j⟩])) := by
  refine LC_of (X := XX (fun _ => .nil) (fun _ => []) [15, 71, 72, 73, 79, 80, 87, 90, 91, 93, 99, 119, 137, 176, 177, 203, 204, 212, 219] 1) envOK Tryz.func44 (by kernel_rfl) (by kernel_rfl) rfl (Nat.le_of_ble_eq_true (by kernel_rfl)) ?_
  simp only [kFun, Tryz.f44, List.length_nil, List.length_cons, Nat.sub_zero, Nat.reduceSub, Nat.reduceAdd, List.nil_append, List.cons_append, List.replicate_succ, List.replicate_zero]
  simp only [XX, ↓VC, VP, TT, Nat.reduceEqDiff, reduceCtorEq, Nat.reduceAdd, Nat.reduceSub, Nat.reduceLT, Nat.reduceMul, Nat.reducePow, Nat.reduceLeDiff, Int.reduceToNat, Int.reduceLE, Int.reduceLT, Int.reducePow]
  refine kCall_Ret (d_from hc hm) (by rfl) [(0, 0)] (by simp [CALL, SCB, SD, nsv]) (by simp [CALL, SCB, SD, nsv]) (by simp [CALL, SCB, SD, nsv]) (by simp [okL_bs, okL_room, okL, okV, SD, nsv]) (by simp [CALL, SCB, SD, nsv]) fun q hq => ?_
  simp (config := { maxSteps := 2000000 }) only [CALL, ↓VC, VP, TT, Nat.reduceEqDiff, reduceCtorEq, Nat.reduceAdd, Nat.reduceSub, Nat.reduceLT, Nat.reduceMul, Nat.reducePow, Nat.reduceLeDiff, Int.reduceToNat, Int.reduceLE, Int.reduceLT, Int.reducePow, GOB, GD, cipC_len z256 z16 z16, DC.cells]
  refine kCall_M (d_data hc hm hq) (by rfl) [(1, 0), (0, 0)] (by simp [CALL, SCB, SD, nsv]) (by simp [CALL, SCB, SD, nsv]) (by simp) (by simp [CALL, SCB, SD, nsv]) (by simp [okL_bs, okL_room, okL, okV, SD, nsv]) (by intro x _; simp [keepR, bs_length, SD, nsv]) (by simp [CALL, SCB, SD, nsv]) fun x1 h1 => ?_
  simp (config := { maxSteps := 2000000 }) only [CALL, ↓VC, VP, TT, Nat.reduceEqDiff, reduceCtorEq, Nat.reduceAdd, Nat.reduceSub, Nat.reduceLT, Nat.reduceMul, Nat.reducePow, Nat.reduceLeDiff, Int.reduceToNat, Int.reduceLE, Int.reduceLT, Int.reducePow, GOB, GD, cipC_len z256 z16 z16, DC.cells]
  exact ⟨_, _, [0, 2], ⟨(x1.2.1, x1.2.2), h1.2, rfl, rfl⟩, by simp [-List.reduceReplicate, LES]⟩
/-- Data at the beginning of a slice's block: all that is there, how many are the slice's, the room behind. -/
theorem d_UnpadMessage (hc : l.length ≤ c) (hm : l.length ≤ 4096) : LC Tryz.prog 42 [.s 0 0 l.length c] [⟨false, bs l⟩] (Ret [⟨false, bs l⟩] (fun x : List UInt8 × Nat × Nat => x.1.length ≤ 2300 ∧ x.2.1 ≤ x.1.length) fun x => (.s 1 0 x.2.1 (x.1.length + x.2.2), [⟨true, bs x.1 ++ List.replicate x.2.2 .j⟩])) := by
  refine LC_of (X := XX (fun _ => .nil) (fun _ => []) [15, 71, 72, 73, 79, 80, 87, 90, 91, 93, 99, 119, 137, 176, 177, 203, 204, 212, 219] 1) envOK Tryz.func42 (by kernel_rfl) (by kernel_rfl) rfl (Nat.le_of_ble_eq_true (by kernel_rfl)) ?_
  simp only [kFun, Tryz.f42, List.length_nil, List.length_cons, Nat.sub_zero, Nat.reduceSub, Nat.reduceAdd, List.nil_append, List.cons_append, List.replicate_succ, List.replicate_zero]
  simp only [XX, ↓VC, VP, TT, Nat.reduceEqDiff, reduceCtorEq, Nat.reduceAdd, Nat.reduceSub, Nat.reduceLT, Nat.reduceMul, Nat.reducePow, Nat.reduceLeDiff, Int.reduceToNat, Int.reduceLE, Int.reduceLT, Int.reducePow]
  refine kCall_Ret (d_from hc hm) (by rfl) [(0, 0)] (by simp [CALL, SCB, SD, nsv]) (by simp [CALL, SCB, SD, nsv]) (by simp [CALL, SCB, SD, nsv]) (by simp [okL_bs, okL_room, okL, okV, SD, nsv]) (by simp [CALL, SCB, SD, nsv]) fun q hq => ?_
  simp (config := { maxSteps := 2000000 }) only [CALL, ↓VC, VP, TT, Nat.reduceEqDiff, reduceCtorEq, Nat.reduceAdd, Nat.reduceSub, Nat.reduceLT, Nat.reduceMul, Nat.reducePow, Nat.reduceLeDiff, Int.reduceToNat, Int.reduceLE, Int.reduceLT, Int.reducePow, GOB, GD, cipC_len z256 z16 z16, DC.cells]
  refine kCall_M (z_bytes hc hm hq 60 (by omega)) (by rfl) [(1, 0), (0, 0)] (by simp [CALL, SCB, SD, nsv]) (by simp [CALL, SCB, SD, nsv]) (by simp) (by simp [CALL, SCB, SD, nsv]) (by simp [okL_bs, okL_room, okL, okV, SD, nsv]) (by intro x _; simp [keepR, bs_length, SD, nsv]) (by simp [CALL, SCB, SD, nsv]) fun x1 h1 => ?_
  obtain ⟨q1, D, r⟩ := x1
  obtain ⟨hq1, hD⟩ := h1
  simp only at hq1 hD ⊢
  simp (config := { maxSteps := 2000000 }) only [CALL, ↓VC, VP, TT, Nat.reduceEqDiff, reduceCtorEq, Nat.reduceAdd, Nat.reduceSub, Nat.reduceLT, Nat.reduceMul, Nat.reducePow, Nat.reduceLeDiff, Int.reduceToNat, Int.reduceLE, Int.reduceLT, Int.reducePow, GOB, GD, cipC_len z256 z16 z16, DC.cells]
  have hpl := padM_len D
  have hmz : mz D ≤ 64 := by unfold mz; omega
  refine kCall_Ret (c_spec_l08Pad D (D.length + r) (by omega) (by omega)) (by rfl) [(2, 0)] (by simp [CALL, SCB, SD, nsv]) (by simp [CALL, SCB, SD, nsv]) (by simp [CALL, SCB, SD, nsv]) (by simp [okL_bs, okL_room, okL, okV, SD, nsv]) (by simp [CALL, SCB, SD, nsv]) fun r2 _ => ?_
  simp (config := { maxSteps := 2000000 }) only [CALL, ↓VC, VP, TT, Nat.reduceEqDiff, reduceCtorEq, Nat.reduceAdd, Nat.reduceSub, Nat.reduceLT, Nat.reduceMul, Nat.reducePow, Nat.reduceLeDiff, Int.reduceToNat, Int.reduceLE, Int.reduceLT, Int.reducePow, GOB, GD, cipC_len z256 z16 z16, DC.cells]
  refine kCall_M (d_next hc hm hq1 6) (by rfl) [(1, 0), (0, 0)] (by simp [CALL, SCB, SD, nsv]) (by simp [CALL, SCB, SD, nsv]) (by simp) (by simp [CALL, SCB, SD, nsv]) (by simp [okL_bs, okL_room, okL, okV, SD, nsv]) (by intro x _; simp [keepR, bs_length, SD, nsv]) (by simp [CALL, SCB, SD, nsv]) fun x2 h2 => ?_
  simp (config := { maxSteps := 2000000 }) only [CALL, ↓VC, VP, TT, Nat.reduceEqDiff, reduceCtorEq, Nat.reduceAdd, Nat.reduceSub, Nat.reduceLT, Nat.reduceMul, Nat.reducePow, Nat.reduceLeDiff, Int.reduceToNat, Int.reduceLE, Int.reduceLT, Int.reducePow, GOB, GD, cipC_len z256 z16 z16, DC.cells]
  refine ⟨fun _ => ?_, fun _ => ⟨fun _ => ?_, fun _ => ⟨fun _ => ?_, fun _ => ?_⟩⟩⟩
  · refine kCall_M (d_next hc hm h2.1 ((padM D).length : Int)) (by rfl) [(1, 0), (0, 0)] (by simp [CALL, SCB, SD, nsv]) (by simp [CALL, SCB, SD, nsv]) (by simp) (by simp [CALL, SCB, SD, nsv]) (by simp [okL_bs, okL_room, okL, okV, SD, nsv]) (by intro x _; simp [keepR, bs_length, SD, nsv]) (by simp [CALL, SCB, SD, nsv]) fun x3 h3 => ?_
    obtain ⟨q3, j⟩ := x3
    obtain ⟨hq3, a1, a2, _⟩ := h3
    simp only at hq3 a1 a2 ⊢
    have a2 := a2 (by omega)
    obtain ⟨i, rfl⟩ : ∃ i : Nat, j = i := ⟨j.toNat, by omega⟩
    have hi : i < (padM D).length := by omega
    simp (config := { maxSteps := 2000000 }) only [CALL, ↓VC, VP, TT, Nat.reduceEqDiff, reduceCtorEq, Nat.reduceAdd, Nat.reduceSub, Nat.reduceLT, Nat.reduceMul, Nat.reducePow, Nat.reduceLeDiff, Int.reduceToNat, Int.reduceLE, Int.reduceLT, Int.reducePow, GOB, GD, cipC_len z256 z16 z16, DC.cells]
    refine kCall_M (z_byte hc hm hq3) (by rfl) [(1, 0), (0, 0)] (by simp [CALL, SCB, SD, nsv]) (by simp [CALL, SCB, SD, nsv]) (by simp) (by simp [CALL, SCB, SD, nsv]) (by simp [okL_bs, okL_room, okL, okV, SD, nsv]) (by intro x _; simp [keepR, bs_length, SD, nsv]) (by simp [CALL, SCB, SD, nsv]) fun x4 h4 => ?_
    simp (config := { maxSteps := 2000000 }) only [CALL, ↓VC, VP, TT, Nat.reduceEqDiff, reduceCtorEq, Nat.reduceAdd, Nat.reduceSub, Nat.reduceLT, Nat.reduceMul, Nat.reducePow, Nat.reduceLeDiff, Int.reduceToNat, Int.reduceLE, Int.reduceLT, Int.reducePow, GOB, GD, cipC_len z256 z16 z16, DC.cells, Int.toNat_natCast, hi, ↓vPut_room hi (of_eq_true (inU8_toNat _)), ofInt_toNat]
    repeat (refine ⟨by first | omega | (simp; done) | decide, ?_⟩)
    exact ⟨_, _, [0, 3], ⟨((padM D).set i x4.2, (padM D).length, r2), ⟨by simp only [List.length_set]; omega, by simp only [List.length_set]; omega⟩, rfl, rfl⟩, by simp [-List.reduceReplicate, LES]⟩
  · refine kCall_M (d_next hc hm h2.1 ((padM D).length : Int)) (by rfl) [(1, 0), (0, 0)] (by simp [CALL, SCB, SD, nsv]) (by simp [CALL, SCB, SD, nsv]) (by simp) (by simp [CALL, SCB, SD, nsv]) (by simp [okL_bs, okL_room, okL, okV, SD, nsv]) (by intro x _; simp [keepR, bs_length, SD, nsv]) (by simp [CALL, SCB, SD, nsv]) fun x3 h3 => ?_
    obtain ⟨q3, j⟩ := x3
    obtain ⟨hq3, a1, a2, _⟩ := h3
    simp only at hq3 a1 a2 ⊢
    have a2 := a2 (by omega)
    obtain ⟨i, rfl⟩ : ∃ i : Nat, j = i := ⟨j.toNat, by omega⟩
    simp (config := { maxSteps := 2000000 }) only [CALL, ↓VC, VP, TT, Nat.reduceEqDiff, reduceCtorEq, Nat.reduceAdd, Nat.reduceSub, Nat.reduceLT, Nat.reduceMul, Nat.reducePow, Nat.reduceLeDiff, Int.reduceToNat, Int.reduceLE, Int.reduceLT, Int.reducePow, GOB, GD, cipC_len z256 z16 z16, DC.cells, Int.toNat_natCast]
    repeat (refine ⟨by first | omega | (simp; done) | decide, ?_⟩)
    exact ⟨_, _, [0, 3], ⟨(padM D, i, r2), ⟨by simp only; omega, by simp only; omega⟩, rfl, rfl⟩, by simp [-List.reduceReplicate, LES]⟩
  · refine kCall_M (d_pick hc hm h2.1 [2024, 2025, 2016, 16] 4 (by simp) (by simp)) (by rfl) [(1, 0), (0, 0), (4, 0)] (by simp [CALL, SCB, SD, nsv, splice]) (by simp [CALL, SCB, SD, nsv, splice]) (by simp) (by simp [CALL, SCB, SD, nsv, splice]) (by simp [okL_bs, okL_room, okL, okV, SD, nsv, splice]) (by intro x _; simp [keepR, bs_length, SD, nsv, splice]) (by simp [CALL, SCB, SD, nsv, splice]) fun x3 h3 => ?_
    obtain ⟨q3, k⟩ := x3
    obtain ⟨hq3, hk⟩ := h3
    simp only at hq3 hk ⊢
    have hk' : 0 ≤ k ∧ k ≤ 2025 := by
      simp only [List.mem_cons, List.not_mem_nil, or_false] at hk
      omega
    obtain ⟨m, rfl⟩ : ∃ m : Nat, k = m := ⟨k.toNat, by omega⟩
    simp (config := { maxSteps := 2000000 }) only [CALL, ↓VC, VP, TT, Nat.reduceEqDiff, reduceCtorEq, Nat.reduceAdd, Nat.reduceSub, Nat.reduceLT, Nat.reduceMul, Nat.reducePow, Nat.reduceLeDiff, Int.reduceToNat, Int.reduceLE, Int.reduceLT, Int.reducePow, GOB, GD, cipC_len z256 z16 z16, DC.cells, Int.toNat_natCast]
    repeat (refine ⟨by first | omega | (simp; done) | decide, ?_⟩)
    refine ⟨_, _, [0, 5], ⟨(List.replicate m 0, m, 0), ⟨by simp only [List.length_replicate]; omega, by simp only [List.length_replicate]; omega⟩, rfl, rfl⟩, ?_⟩
    rw [zer_flatR]
    simp [-List.reduceReplicate, LES, -List.reduceReplicate]
  · exact ⟨_, _, [0, 3], ⟨(padM D, (padM D).length, r2), ⟨by simp only; omega, by simp only; omega⟩, rfl, rfl⟩, by simp [-List.reduceReplicate, LES]⟩
end
end Go.Proofs.YtahnjhppkgndiaaGreat

import Derived.Test.YtahnjhppkgndiaaGreatDrawR
import Derived.Test.YtahnjhppkgndiaaGreatPadM
/- Draws for digests and tags, each whole. -/
set_option linter.unusedSimpArgs false
set_option linter.unusedVariables false
namespace Go.Proofs.YtahnjhppkgndiaaGreat
open Go Go.Vc
set_option maxRecDepth 10000
set_option maxHeartbeats 40000000
section
variable {l : List UInt8} {c : Nat} {q : Nat × Nat}
theorem d_TagOf (hc : l.length ≤ c) (hm : l.length ≤ 4096) : LC Tryz.prog 7 [.s 0 0 l.length c] [⟨false, bs l⟩] (Ret [⟨false, bs l⟩] (fun x : DC × List UInt8 × List UInt8 × Nat => x.1.ok ∧ x.2.1.length = 16 ∧ x.2.2.1.length ≤ 2001) fun x => (.t [.a x.1.cells, .a (bs x.2.1), .s 1 0 x.2.2.1.length (x.2.2.1.length + x.2.2.2)], [⟨true, bs x.2.2.1 ++ List.replicate x.2.2.2 .j⟩])) := by
  refine LC_of (X := XX (fun _ => .nil) (fun _ => []) [15, 71, 72, 73, 79, 80, 87, 90, 91, 93, 99, 119, 137, 176, 177, 203, 204, 212, 219] 1) envOK Tryz.func7 (by kernel_rfl) (by kernel_rfl) rfl (Nat.le_of_ble_eq_true (by kernel_rfl)) ?_
  simp only [kFun, Tryz.f7, List.length_nil, List.length_cons, Nat.sub_zero, Nat.reduceSub, Nat.reduceAdd, List.nil_append, List.cons_append, List.replicate_succ, List.replicate_zero]
  simp only [XX, ↓VC, VP, TT, Nat.reduceEqDiff, reduceCtorEq, Nat.reduceAdd, Nat.reduceSub, Nat.reduceLT, Nat.reduceMul, Nat.reducePow, Nat.reduceLeDiff, Int.reduceToNat, Int.reduceLE, Int.reduceLT, Int.reducePow, cip_build, cipC_len z256 z16 z16]
  refine kCall_Ret (d_from hc hm) (by rfl) [(0, 0)] (by simp [CALL, SCB, SD, nsv]) (by simp [CALL, SCB, SD, nsv]) (by simp [CALL, SCB, SD, nsv]) (by simp [okL_bs, okL_room, okL, okV, SD, nsv]) (by simp [CALL, SCB, SD, nsv]) fun q hq => ?_
  simp (config := { maxSteps := 2000000 }) only [CALL, ↓VC, VP, TT, Nat.reduceEqDiff, reduceCtorEq, Nat.reduceAdd, Nat.reduceSub, Nat.reduceLT, Nat.reduceMul, Nat.reducePow, Nat.reduceLeDiff, Int.reduceToNat, Int.reduceLE, Int.reduceLT, Int.reducePow, GOB, GD, cipC_len z256 z16 z16, DC.cells]
  refine kCall_M (d_dcipher hc hm hq) (by rfl) [(3, 0), (0, 0)] (by simp [CALL, SCB, SD, nsv]) (by simp [CALL, SCB, SD, nsv]) (by simp) (by simp [CALL, SCB, SD, nsv]) (by simp [okL_bs, okL_room, okL, okV, SD, nsv]) (by intro x _; simp [keepR, bs_length, SD, nsv]) (by simp [CALL, SCB, SD, nsv]) fun x1 h1 => ?_
  obtain ⟨q1, ⟨z, b, A, pl, n⟩⟩ := x1
  obtain ⟨hq1, ⟨hb, hA, hp⟩⟩ := h1
  simp only [DC.cells] at hq1 hb hA hp ⊢
  simp (config := { maxSteps := 2000000 }) only [CALL, ↓VC, VP, TT, Nat.reduceEqDiff, reduceCtorEq, Nat.reduceAdd, Nat.reduceSub, Nat.reduceLT, Nat.reduceMul, Nat.reducePow, Nat.reduceLeDiff, Int.reduceToNat, Int.reduceLE, Int.reduceLT, Int.reducePow, GOB, GD, cipC_len z256 z16 z16, DC.cells, cipC_len hb hA hp]
  refine kCall_M (z_block hc hm hq1) (by rfl) [(3, 0), (0, 0)] (by simp [CALL, SCB, SD, nsv]) (by simp [CALL, SCB, SD, nsv]) (by simp) (by simp [CALL, SCB, SD, nsv]) (by simp [okL_bs, okL_room, okL, okV, SD, nsv]) (by intro x _; simp [keepR, bs_length, SD, nsv]) (by simp [CALL, SCB, SD, nsv]) fun x3 h3 => ?_
  obtain ⟨q3, s⟩ := x3
  obtain ⟨hq3, hs⟩ := h3
  simp only at hq3 hs ⊢
  simp (config := { maxSteps := 2000000 }) only [CALL, ↓VC, VP, TT, Nat.reduceEqDiff, reduceCtorEq, Nat.reduceAdd, Nat.reduceSub, Nat.reduceLT, Nat.reduceMul, Nat.reducePow, Nat.reduceLeDiff, Int.reduceToNat, Int.reduceLE, Int.reduceLT, Int.reducePow, GOB, GD, cipC_len z256 z16 z16, DC.cells, hs]
  refine kCall_M (d_data hc hm hq3) (by rfl) [(3, 0), (0, 0)] (by simp [CALL, SCB, SD, nsv]) (by simp [CALL, SCB, SD, nsv]) (by simp) (by simp [CALL, SCB, SD, nsv]) (by simp [okL_bs, okL_room, okL, okV, SD, nsv]) (by intro x _; simp [keepR, bs_length, SD, nsv]) (by simp [CALL, SCB, SD, nsv]) fun x2 h2 => ?_
  obtain ⟨q2, D, r⟩ := x2
  obtain ⟨hq2, hD⟩ := h2
  simp only at hq2 hD ⊢
  simp (config := { maxSteps := 2000000 }) only [CALL, ↓VC, VP, TT, Nat.reduceEqDiff, reduceCtorEq, Nat.reduceAdd, Nat.reduceSub, Nat.reduceLT, Nat.reduceMul, Nat.reducePow, Nat.reduceLeDiff, Int.reduceToNat, Int.reduceLE, Int.reduceLT, Int.reducePow, GOB, GD, cipC_len z256 z16 z16, DC.cells, hs, cipC_len hb hA hp, ↓cip_put_all z256 z16 z16 hb hA hp, ↓cip_all hb hA hp]
  exact ⟨_, _, [0, 4], ⟨(⟨z, b, A, pl, n⟩, s, D, r), ⟨⟨hb, hA, hp⟩, hs, hD⟩, rfl, rfl⟩, by simp [-List.reduceReplicate, LES, renL_cip, okL_cip]⟩
theorem d_StreamOf (hc : l.length ≤ c) (hm : l.length ≤ 4096) : LC Tryz.prog 10 [.s 0 0 l.length c] [⟨false, bs l⟩] (Ret [⟨false, bs l⟩] (fun x : DC × List UInt8 × List UInt8 × Int => x.1.ok ∧ x.2.1.length = 16 ∧ x.2.2.1.length = 16) fun x => (.t [.a x.1.cells, .a (bs x.2.1), .a (bs x.2.2.1), .c (.int .i64 (x.2.2.2))], [])) := by
  refine LC_of (X := XX (fun _ => .nil) (fun _ => []) [15, 71, 72, 73, 79, 80, 87, 90, 91, 93, 99, 119, 137, 176, 177, 203, 204, 212, 219] 1) envOK Tryz.func10 (by kernel_rfl) (by kernel_rfl) rfl (Nat.le_of_ble_eq_true (by kernel_rfl)) ?_
  simp only [kFun, Tryz.f10, List.length_nil, List.length_cons, Nat.sub_zero, Nat.reduceSub, Nat.reduceAdd, List.nil_append, List.cons_append, List.replicate_succ, List.replicate_zero]
  simp only [XX, ↓VC, VP, TT, Nat.reduceEqDiff, reduceCtorEq, Nat.reduceAdd, Nat.reduceSub, Nat.reduceLT, Nat.reduceMul, Nat.reducePow, Nat.reduceLeDiff, Int.reduceToNat, Int.reduceLE, Int.reduceLT, Int.reducePow, cip_build, cipC_len z256 z16 z16]
  refine kCall_Ret (d_from hc hm) (by rfl) [(0, 0)] (by simp [CALL, SCB, SD, nsv]) (by simp [CALL, SCB, SD, nsv]) (by simp [CALL, SCB, SD, nsv]) (by simp [okL_bs, okL_room, okL, okV, SD, nsv]) (by simp [CALL, SCB, SD, nsv]) fun q hq => ?_
  simp (config := { maxSteps := 2000000 }) only [CALL, ↓VC, VP, TT, Nat.reduceEqDiff, reduceCtorEq, Nat.reduceAdd, Nat.reduceSub, Nat.reduceLT, Nat.reduceMul, Nat.reducePow, Nat.reduceLeDiff, Int.reduceToNat, Int.reduceLE, Int.reduceLT, Int.reducePow, GOB, GD, cipC_len z256 z16 z16, DC.cells]
  refine kCall_M (d_dcipher hc hm hq) (by rfl) [(4, 0), (0, 0)] (by simp [CALL, SCB, SD, nsv]) (by simp [CALL, SCB, SD, nsv]) (by simp) (by simp [CALL, SCB, SD, nsv]) (by simp [okL_bs, okL_room, okL, okV, SD, nsv]) (by intro x _; simp [keepR, bs_length, SD, nsv]) (by simp [CALL, SCB, SD, nsv]) fun x1 h1 => ?_
  obtain ⟨q1, ⟨z, b, A, pl, n⟩⟩ := x1
  obtain ⟨hq1, ⟨hb, hA, hp⟩⟩ := h1
  simp only [DC.cells] at hq1 hb hA hp ⊢
  simp (config := { maxSteps := 2000000 }) only [CALL, ↓VC, VP, TT, Nat.reduceEqDiff, reduceCtorEq, Nat.reduceAdd, Nat.reduceSub, Nat.reduceLT, Nat.reduceMul, Nat.reducePow, Nat.reduceLeDiff, Int.reduceToNat, Int.reduceLE, Int.reduceLT, Int.reducePow, GOB, GD, cipC_len z256 z16 z16, DC.cells, cipC_len hb hA hp]
  refine kCall_M (z_block hc hm hq1) (by rfl) [(4, 0), (0, 0)] (by simp [CALL, SCB, SD, nsv]) (by simp [CALL, SCB, SD, nsv]) (by simp) (by simp [CALL, SCB, SD, nsv]) (by simp [okL_bs, okL_room, okL, okV, SD, nsv]) (by intro x _; simp [keepR, bs_length, SD, nsv]) (by simp [CALL, SCB, SD, nsv]) fun x2 h2 => ?_
  obtain ⟨q2, k⟩ := x2
  obtain ⟨hq2, hk⟩ := h2
  simp only at hq2 hk ⊢
  simp (config := { maxSteps := 2000000 }) only [CALL, ↓VC, VP, TT, Nat.reduceEqDiff, reduceCtorEq, Nat.reduceAdd, Nat.reduceSub, Nat.reduceLT, Nat.reduceMul, Nat.reducePow, Nat.reduceLeDiff, Int.reduceToNat, Int.reduceLE, Int.reduceLT, Int.reducePow, GOB, GD, cipC_len z256 z16 z16, DC.cells, hk]
  refine kCall_M (z_block hc hm hq2) (by rfl) [(4, 0), (0, 0)] (by simp [CALL, SCB, SD, nsv]) (by simp [CALL, SCB, SD, nsv]) (by simp) (by simp [CALL, SCB, SD, nsv]) (by simp [okL_bs, okL_room, okL, okV, SD, nsv]) (by intro x _; simp [keepR, bs_length, SD, nsv]) (by simp [CALL, SCB, SD, nsv]) fun x3 h3 => ?_
  obtain ⟨q3, s⟩ := x3
  obtain ⟨hq3, hs⟩ := h3
  simp only at hq3 hs ⊢
  simp (config := { maxSteps := 2000000 }) only [CALL, ↓VC, VP, TT, Nat.reduceEqDiff, reduceCtorEq, Nat.reduceAdd, Nat.reduceSub, Nat.reduceLT, Nat.reduceMul, Nat.reducePow, Nat.reduceLeDiff, Int.reduceToNat, Int.reduceLE, Int.reduceLT, Int.reducePow, GOB, GD, cipC_len z256 z16 z16, DC.cells, hk, hs]
  refine kCall_M (d_next hc hm hq3 40) (by rfl) [(4, 0), (0, 0)] (by simp [CALL, SCB, SD, nsv]) (by simp [CALL, SCB, SD, nsv]) (by simp) (by simp [CALL, SCB, SD, nsv]) (by simp [okL_bs, okL_room, okL, okV, SD, nsv]) (by intro x _; simp [keepR, bs_length, SD, nsv]) (by simp [CALL, SCB, SD, nsv]) fun x4 h4 => ?_
  simp (config := { maxSteps := 2000000 }) only [CALL, ↓VC, VP, TT, Nat.reduceEqDiff, reduceCtorEq, Nat.reduceAdd, Nat.reduceSub, Nat.reduceLT, Nat.reduceMul, Nat.reducePow, Nat.reduceLeDiff, Int.reduceToNat, Int.reduceLE, Int.reduceLT, Int.reducePow, GOB, GD, cipC_len z256 z16 z16, DC.cells]
  refine kCall_M (d_next hc hm h4.1 100) (by rfl) [(4, 0), (0, 0)] (by simp [CALL, SCB, SD, nsv]) (by simp [CALL, SCB, SD, nsv]) (by simp) (by simp [CALL, SCB, SD, nsv]) (by simp [okL_bs, okL_room, okL, okV, SD, nsv]) (by intro x _; simp [keepR, bs_length, SD, nsv]) (by simp [CALL, SCB, SD, nsv]) fun x5 h5 => ?_
  simp (config := { maxSteps := 2000000 }) only [CALL, ↓VC, VP, TT, Nat.reduceEqDiff, reduceCtorEq, Nat.reduceAdd, Nat.reduceSub, Nat.reduceLT, Nat.reduceMul, Nat.reducePow, Nat.reduceLeDiff, Int.reduceToNat, Int.reduceLE, Int.reduceLT, Int.reducePow, GOB, GD, cipC_len z256 z16 z16, DC.cells]
  refine kCall_M (d_pick hc hm h5.1 [2001, -1, 300] 3 (by simp) (by simp)) (by rfl) [(4, 0), (0, 0), (5, 0)] (by simp [CALL, SCB, SD, nsv, splice]) (by simp [CALL, SCB, SD, nsv, splice]) (by simp) (by simp [CALL, SCB, SD, nsv, splice]) (by simp [okL_bs, okL_room, okL, okV, SD, nsv, splice]) (by intro x _; simp [keepR, bs_length, SD, nsv, splice]) (by simp [CALL, SCB, SD, nsv, splice]) fun x6 h6 => ?_
  simp (config := { maxSteps := 2000000 }) only [CALL, ↓VC, VP, TT, Nat.reduceEqDiff, reduceCtorEq, Nat.reduceAdd, Nat.reduceSub, Nat.reduceLT, Nat.reduceMul, Nat.reducePow, Nat.reduceLeDiff, Int.reduceToNat, Int.reduceLE, Int.reduceLT, Int.reducePow, GOB, GD, cipC_len z256 z16 z16, DC.cells]
  refine kCall_M (d_pick hc hm h6.1 [x4.2, x5.2, x6.2] 3 (by simp) (by simp)) (by rfl) [(4, 0), (0, 0), (6, 0)] (by simp [CALL, SCB, SD, nsv, splice]) (by simp [CALL, SCB, SD, nsv, splice]) (by simp) (by simp [CALL, SCB, SD, nsv, splice]) (by simp [okL_bs, okL_room, okL, okV, SD, nsv, splice]) (by intro x _; simp [keepR, bs_length, SD, nsv, splice]) (by simp [CALL, SCB, SD, nsv, splice]) fun x7 h7 => ?_
  simp (config := { maxSteps := 2000000 }) only [CALL, ↓VC, VP, TT, Nat.reduceEqDiff, reduceCtorEq, Nat.reduceAdd, Nat.reduceSub, Nat.reduceLT, Nat.reduceMul, Nat.reducePow, Nat.reduceLeDiff, Int.reduceToNat, Int.reduceLE, Int.reduceLT, Int.reducePow, GOB, GD, cipC_len z256 z16 z16, DC.cells, hk, hs, cipC_len hb hA hp, ↓cip_put_all z256 z16 z16 hb hA hp, ↓cip_all hb hA hp]
  exact ⟨_, _, [0], ⟨(⟨z, b, A, pl, n⟩, k, s, x7.2), ⟨⟨hb, hA, hp⟩, hk, hs⟩, rfl, rfl⟩, by simp [-List.reduceReplicate, LES, renL_cip, okL_cip]⟩
theorem d_SearchDigest (hc : l.length ≤ c) (hm : l.length ≤ 4096) : LC Tryz.prog 22 [.s 0 0 l.length c] [⟨false, bs l⟩] (Ret [⟨false, bs l⟩] (fun x : DC × List UInt8 × Nat × Int => x.1.ok ∧ x.2.1.length ≤ 142) fun x => (.t [.a x.1.cells, .s 1 0 x.2.1.length (x.2.1.length + x.2.2.1), .c (.int .i64 (x.2.2.2))], [⟨true, bs x.2.1 ++ List.replicate x.2.2.1 .j⟩])) := by
  refine LC_of (X := XX (fun _ => .nil) (fun _ => []) [15, 71, 72, 73, 79, 80, 87, 90, 91, 93, 99, 119, 137, 176, 177, 203, 204, 212, 219] 1) envOK Tryz.func22 (by kernel_rfl) (by kernel_rfl) rfl (Nat.le_of_ble_eq_true (by kernel_rfl)) ?_
  simp only [kFun, Tryz.f22, List.length_nil, List.length_cons, Nat.sub_zero, Nat.reduceSub, Nat.reduceAdd, List.nil_append, List.cons_append, List.replicate_succ, List.replicate_zero]
  simp only [XX, ↓VC, VP, TT, Nat.reduceEqDiff, reduceCtorEq, Nat.reduceAdd, Nat.reduceSub, Nat.reduceLT, Nat.reduceMul, Nat.reducePow, Nat.reduceLeDiff, Int.reduceToNat, Int.reduceLE, Int.reduceLT, Int.reducePow, cip_build, cipC_len z256 z16 z16]
  refine kCall_Ret (d_from hc hm) (by rfl) [(0, 0)] (by simp [CALL, SCB, SD, nsv]) (by simp [CALL, SCB, SD, nsv]) (by simp [CALL, SCB, SD, nsv]) (by simp [okL_bs, okL_room, okL, okV, SD, nsv]) (by simp [CALL, SCB, SD, nsv]) fun q hq => ?_
  simp (config := { maxSteps := 2000000 }) only [CALL, ↓VC, VP, TT, Nat.reduceEqDiff, reduceCtorEq, Nat.reduceAdd, Nat.reduceSub, Nat.reduceLT, Nat.reduceMul, Nat.reducePow, Nat.reduceLeDiff, Int.reduceToNat, Int.reduceLE, Int.reduceLT, Int.reducePow, GOB, GD, cipC_len z256 z16 z16, DC.cells]
  refine kCall_M (d_dcipher hc hm hq) (by rfl) [(2, 0), (0, 0)] (by simp [CALL, SCB, SD, nsv]) (by simp [CALL, SCB, SD, nsv]) (by simp) (by simp [CALL, SCB, SD, nsv]) (by simp [okL_bs, okL_room, okL, okV, SD, nsv]) (by intro x _; simp [keepR, bs_length, SD, nsv]) (by simp [CALL, SCB, SD, nsv]) fun x1 h1 => ?_
  obtain ⟨q1, ⟨z, b, A, pl, n⟩⟩ := x1
  obtain ⟨hq1, ⟨hb, hA, hp⟩⟩ := h1
  simp only [DC.cells] at hq1 hb hA hp ⊢
  simp (config := { maxSteps := 2000000 }) only [CALL, ↓VC, VP, TT, Nat.reduceEqDiff, reduceCtorEq, Nat.reduceAdd, Nat.reduceSub, Nat.reduceLT, Nat.reduceMul, Nat.reducePow, Nat.reduceLeDiff, Int.reduceToNat, Int.reduceLE, Int.reduceLT, Int.reducePow, GOB, GD, cipC_len z256 z16 z16, DC.cells, cipC_len hb hA hp]
  refine kCall_M (d_pick hc hm hq1 [10, 20, 101] 3 (by simp) (by simp)) (by rfl) [(2, 0), (0, 0), (3, 0)] (by simp [CALL, SCB, SD, nsv, splice]) (by simp [CALL, SCB, SD, nsv, splice]) (by simp) (by simp [CALL, SCB, SD, nsv, splice]) (by simp [okL_bs, okL_room, okL, okV, SD, nsv, splice]) (by intro x _; simp [keepR, bs_length, SD, nsv, splice]) (by simp [CALL, SCB, SD, nsv, splice]) fun x2 h2 => ?_
  obtain ⟨q2, k⟩ := x2
  obtain ⟨hq2, hk⟩ := h2
  simp only at hq2 hk ⊢
  have hk' : 0 ≤ k ∧ k ≤ 101 := by
    simp only [List.mem_cons, List.not_mem_nil, or_false] at hk
    omega
  obtain ⟨m, rfl⟩ : ∃ m : Nat, k = m := ⟨k.toNat, by omega⟩
  simp (config := { maxSteps := 2000000 }) only [CALL, ↓VC, VP, TT, Nat.reduceEqDiff, reduceCtorEq, Nat.reduceAdd, Nat.reduceSub, Nat.reduceLT, Nat.reduceMul, Nat.reducePow, Nat.reduceLeDiff, Int.reduceToNat, Int.reduceLE, Int.reduceLT, Int.reducePow, GOB, GD, cipC_len z256 z16 z16, DC.cells]
  refine kCall_M (z_bytes hc hm hq2 m (by omega)) (by rfl) [(2, 0), (0, 0)] (by simp [CALL, SCB, SD, nsv]) (by simp [CALL, SCB, SD, nsv]) (by simp) (by simp [CALL, SCB, SD, nsv]) (by simp [okL_bs, okL_room, okL, okV, SD, nsv]) (by intro x _; simp [keepR, bs_length, SD, nsv]) (by simp [CALL, SCB, SD, nsv]) fun x3 h3 => ?_
  obtain ⟨q3, D, r⟩ := x3
  obtain ⟨hq3, hD⟩ := h3
  simp only at hq3 hD ⊢
  simp (config := { maxSteps := 2000000 }) only [CALL, ↓VC, VP, TT, Nat.reduceEqDiff, reduceCtorEq, Nat.reduceAdd, Nat.reduceSub, Nat.reduceLT, Nat.reduceMul, Nat.reducePow, Nat.reduceLeDiff, Int.reduceToNat, Int.reduceLE, Int.reduceLT, Int.reducePow, GOB, GD, cipC_len z256 z16 z16, DC.cells]
  refine kCall_M (d_next hc hm hq3 4) (by rfl) [(2, 0), (0, 0)] (by simp [CALL, SCB, SD, nsv]) (by simp [CALL, SCB, SD, nsv]) (by simp) (by simp [CALL, SCB, SD, nsv]) (by simp [okL_bs, okL_room, okL, okV, SD, nsv]) (by intro x _; simp [keepR, bs_length, SD, nsv]) (by simp [CALL, SCB, SD, nsv]) fun x4 h4 => ?_
  simp (config := { maxSteps := 2000000 }) only [CALL, ↓VC, VP, TT, Nat.reduceEqDiff, reduceCtorEq, Nat.reduceAdd, Nat.reduceSub, Nat.reduceLT, Nat.reduceMul, Nat.reducePow, Nat.reduceLeDiff, Int.reduceToNat, Int.reduceLE, Int.reduceLT, Int.reducePow, GOB, GD, cipC_len z256 z16 z16, DC.cells]
  refine kCall_M (d_next hc hm h4.1 4) (by rfl) [(2, 0), (0, 0)] (by simp [CALL, SCB, SD, nsv]) (by simp [CALL, SCB, SD, nsv]) (by simp) (by simp [CALL, SCB, SD, nsv]) (by simp [okL_bs, okL_room, okL, okV, SD, nsv]) (by intro x _; simp [keepR, bs_length, SD, nsv]) (by simp [CALL, SCB, SD, nsv]) fun x5 h5 => ?_
  simp (config := { maxSteps := 2000000 }) only [CALL, ↓VC, VP, TT, Nat.reduceEqDiff, reduceCtorEq, Nat.reduceAdd, Nat.reduceSub, Nat.reduceLT, Nat.reduceMul, Nat.reducePow, Nat.reduceLeDiff, Int.reduceToNat, Int.reduceLE, Int.reduceLT, Int.reducePow, GOB, GD, cipC_len z256 z16 z16, DC.cells]
  refine kCall_M (d_near8 hc hm h5.1) (by rfl) [(2, 0), (0, 0)] (by simp [CALL, SCB, SD, nsv]) (by simp [CALL, SCB, SD, nsv]) (by simp) (by simp [CALL, SCB, SD, nsv]) (by simp [okL_bs, okL_room, okL, okV, SD, nsv]) (by intro x _; simp [keepR, bs_length, SD, nsv]) (by simp [CALL, SCB, SD, nsv]) fun x6 h6 => ?_
  simp (config := { maxSteps := 2000000 }) only [CALL, ↓VC, VP, TT, Nat.reduceEqDiff, reduceCtorEq, Nat.reduceAdd, Nat.reduceSub, Nat.reduceLT, Nat.reduceMul, Nat.reducePow, Nat.reduceLeDiff, Int.reduceToNat, Int.reduceLE, Int.reduceLT, Int.reducePow, GOB, GD, cipC_len z256 z16 z16, DC.cells]
  refine kCall_M (d_pick hc hm h6 [x4.2, x5.2, x6.2] 3 (by simp) (by simp)) (by rfl) [(2, 0), (0, 0), (5, 0)] (by simp [CALL, SCB, SD, nsv, splice]) (by simp [CALL, SCB, SD, nsv, splice]) (by simp) (by simp [CALL, SCB, SD, nsv, splice]) (by simp [okL_bs, okL_room, okL, okV, SD, nsv, splice]) (by intro x _; simp [keepR, bs_length, SD, nsv, splice]) (by simp [CALL, SCB, SD, nsv, splice]) fun x7 h7 => ?_
  simp (config := { maxSteps := 2000000 }) only [CALL, ↓VC, VP, TT, Nat.reduceEqDiff, reduceCtorEq, Nat.reduceAdd, Nat.reduceSub, Nat.reduceLT, Nat.reduceMul, Nat.reducePow, Nat.reduceLeDiff, Int.reduceToNat, Int.reduceLE, Int.reduceLT, Int.reducePow, GOB, GD, cipC_len z256 z16 z16, DC.cells, cipC_len hb hA hp, ↓cip_put_all z256 z16 z16 hb hA hp, ↓cip_all hb hA hp]
  exact ⟨_, _, [0, 4], ⟨(⟨z, b, A, pl, n⟩, D, r, x7.2), ⟨⟨hb, hA, hp⟩, by simp only; omega⟩, rfl, rfl⟩, by simp [-List.reduceReplicate, LES, renL_cip, okL_cip]⟩
theorem d_LeadingZeros (hc : l.length ≤ c) (hm : l.length ≤ 4096) : LC Tryz.prog 27 [.s 0 0 l.length c] [⟨false, bs l⟩] (Ret [⟨false, bs l⟩] (fun x : List UInt8 => x.length = 32) fun x => (.a (bs x), [])) := by
  refine LC_of (X := XX (fun _ => .nil) (fun _ => []) [15, 71, 72, 73, 79, 80, 87, 90, 91, 93, 99, 119, 137, 176, 177, 203, 204, 212, 219] 1) envOK Tryz.func27 (by kernel_rfl) (by kernel_rfl) rfl (Nat.le_of_ble_eq_true (by kernel_rfl)) ?_
  simp only [kFun, Tryz.f27, List.length_nil, List.length_cons, Nat.sub_zero, Nat.reduceSub, Nat.reduceAdd, List.nil_append, List.cons_append, List.replicate_succ, List.replicate_zero]
  simp only [XX, ↓VC, VP, TT, Nat.reduceEqDiff, reduceCtorEq, Nat.reduceAdd, Nat.reduceSub, Nat.reduceLT, Nat.reduceMul, Nat.reducePow, Nat.reduceLeDiff, Int.reduceToNat, Int.reduceLE, Int.reduceLT, Int.reducePow]
  refine kCall_Ret (d_from hc hm) (by rfl) [(0, 0)] (by simp [CALL, SCB, SD, nsv]) (by simp [CALL, SCB, SD, nsv]) (by simp [CALL, SCB, SD, nsv]) (by simp [okL_bs, okL_room, okL, okV, SD, nsv]) (by simp [CALL, SCB, SD, nsv]) fun q hq => ?_
  simp (config := { maxSteps := 2000000 }) only [CALL, ↓VC, VP, TT, Nat.reduceEqDiff, reduceCtorEq, Nat.reduceAdd, Nat.reduceSub, Nat.reduceLT, Nat.reduceMul, Nat.reducePow, Nat.reduceLeDiff, Int.reduceToNat, Int.reduceLE, Int.reduceLT, Int.reducePow, GOB, GD, cipC_len z256 z16 z16, DC.cells]
  refine kCall_M (d_next hc hm hq 12) (by rfl) [(2, 0), (0, 0)] (by simp [CALL, SCB, SD, nsv]) (by simp [CALL, SCB, SD, nsv]) (by simp) (by simp [CALL, SCB, SD, nsv]) (by simp [okL_bs, okL_room, okL, okV, SD, nsv]) (by intro x _; simp [keepR, bs_length, SD, nsv]) (by simp [CALL, SCB, SD, nsv]) fun x1 h1 => ?_
  simp (config := { maxSteps := 2000000 }) only [CALL, ↓VC, VP, TT, Nat.reduceEqDiff, reduceCtorEq, Nat.reduceAdd, Nat.reduceSub, Nat.reduceLT, Nat.reduceMul, Nat.reducePow, Nat.reduceLeDiff, Int.reduceToNat, Int.reduceLE, Int.reduceLT, Int.reducePow, GOB, GD, cipC_len z256 z16 z16, DC.cells]
  refine ⟨fun _ => ?_, fun _ => ?_⟩
  · exact ⟨_, _, [0], ⟨List.replicate 32 0, by simp, rfl, rfl⟩, by simp [-List.reduceReplicate, LES]⟩
  · refine kCall_M (d_next hc hm h1.1 32) (by rfl) [(2, 0), (0, 0)] (by simp [CALL, SCB, SD, nsv]) (by simp [CALL, SCB, SD, nsv]) (by simp) (by simp [CALL, SCB, SD, nsv]) (by simp [okL_bs, okL_room, okL, okV, SD, nsv]) (by intro x _; simp [keepR, bs_length, SD, nsv]) (by simp [CALL, SCB, SD, nsv]) fun x2 h2 => ?_
    obtain ⟨q2, j⟩ := x2
    obtain ⟨hq2, a1, a2, _⟩ := h2
    simp only at hq2 a1 a2 ⊢
    have a2 := a2 (by omega)
    obtain ⟨i, rfl⟩ : ∃ i : Nat, j = i := ⟨j.toNat, by omega⟩
    have hi : i < 32 := by omega
    simp (config := { maxSteps := 2000000 }) only [CALL, ↓VC, VP, TT, Nat.reduceEqDiff, reduceCtorEq, Nat.reduceAdd, Nat.reduceSub, Nat.reduceLT, Nat.reduceMul, Nat.reducePow, Nat.reduceLeDiff, Int.reduceToNat, Int.reduceLE, Int.reduceLT, Int.reducePow, GOB, GD, cipC_len z256 z16 z16, DC.cells]
    refine kCall_M (z_byte hc hm hq2) (by rfl) [(2, 0), (0, 0)] (by simp [CALL, SCB, SD, nsv]) (by simp [CALL, SCB, SD, nsv]) (by simp) (by simp [CALL, SCB, SD, nsv]) (by simp [okL_bs, okL_room, okL, okV, SD, nsv]) (by intro x _; simp [keepR, bs_length, SD, nsv]) (by simp [CALL, SCB, SD, nsv]) fun x3 h3 => ?_
    simp (config := { maxSteps := 2000000 }) only [CALL, ↓VC, VP, TT, Nat.reduceEqDiff, reduceCtorEq, Nat.reduceAdd, Nat.reduceSub, Nat.reduceLT, Nat.reduceMul, Nat.reducePow, Nat.reduceLeDiff, Int.reduceToNat, Int.reduceLE, Int.reduceLT, Int.reducePow, GOB, GD, cipC_len z256 z16 z16, DC.cells, Int.toNat_natCast, hi]
    repeat (refine ⟨by first | omega | (simp; done) | decide, ?_⟩)
    exact ⟨_, _, [0], ⟨(List.replicate 32 0).set i x3.2, by simp, rfl, rfl⟩, by simp [-List.reduceReplicate, LES]⟩
theorem d_AgreeingBits (hc : l.length ≤ c) (hm : l.length ≤ 4096) : LC Tryz.prog 28 [.s 0 0 l.length c] [⟨false, bs l⟩] (Ret [⟨false, bs l⟩] (fun x : List UInt8 × List UInt8 => x.1.length = 32 ∧ x.2.length = 32) fun x => (.t [.a (bs x.1), .a (bs x.2)], [])) := by
  refine LC_of (X := XX (fun | 6 => .one 0 (.alt (.one 1 (.one 2 (.one 3 .nil))) (.one 2 (.one 1 (.one 3 .nil)))) | 7 => .one 1 (.alt (.one 0 (.one 2 (.one 3 (.one 4 .nil)))) (.one 2 (.one 0 (.one 3 (.one 4 .nil))))) | _ => .nil) (fun _ => []) [15, 71, 72, 73, 79, 80, 87, 90, 91, 93, 99, 119, 137, 176, 177, 203, 204, 212, 219] 1) envOK Tryz.func28 (by kernel_rfl) (by kernel_rfl) rfl (Nat.le_of_ble_eq_true (by kernel_rfl)) ?_
  simp only [kFun, Tryz.f28, List.length_nil, List.length_cons, Nat.sub_zero, Nat.reduceSub, Nat.reduceAdd, List.nil_append, List.cons_append, List.replicate_succ, List.replicate_zero]
  simp only [XX, ↓VC, VP, TT, Nat.reduceEqDiff, reduceCtorEq, Nat.reduceAdd, Nat.reduceSub, Nat.reduceLT, Nat.reduceMul, Nat.reducePow, Nat.reduceLeDiff, Int.reduceToNat, Int.reduceLE, Int.reduceLT, Int.reducePow]
  refine kCall_Ret (d_from hc hm) (by rfl) [(0, 0)] (by simp [CALL, SCB, SD, nsv]) (by simp [CALL, SCB, SD, nsv]) (by simp [CALL, SCB, SD, nsv]) (by simp [okL_bs, okL_room, okL, okV, SD, nsv]) (by simp [CALL, SCB, SD, nsv]) fun q hq => ?_
  simp (config := { maxSteps := 2000000 }) only [CALL, ↓VC, VP, TT, Nat.reduceEqDiff, reduceCtorEq, Nat.reduceAdd, Nat.reduceSub, Nat.reduceLT, Nat.reduceMul, Nat.reducePow, Nat.reduceLeDiff, Int.reduceToNat, Int.reduceLE, Int.reduceLT, Int.reducePow, GOB, GD, cipC_len z256 z16 z16, DC.cells]
  refine kCall_M (d_digest hc hm hq) (by rfl) [(3, 0), (0, 0)] (by simp [CALL, SCB, SD, nsv]) (by simp [CALL, SCB, SD, nsv]) (by simp) (by simp [CALL, SCB, SD, nsv]) (by simp [okL_bs, okL_room, okL, okV, SD, nsv]) (by intro x _; simp [keepR, bs_length, SD, nsv]) (by simp [CALL, SCB, SD, nsv]) fun x1 h1 => ?_
  obtain ⟨q1, d⟩ := x1
  obtain ⟨hq1, hd⟩ := h1
  simp only at hq1 hd ⊢
  simp (config := { maxSteps := 2000000 }) only [CALL, ↓VC, VP, TT, Nat.reduceEqDiff, reduceCtorEq, Nat.reduceAdd, Nat.reduceSub, Nat.reduceLT, Nat.reduceMul, Nat.reducePow, Nat.reduceLeDiff, Int.reduceToNat, Int.reduceLE, Int.reduceLT, Int.reducePow, GOB, GD, cipC_len z256 z16 z16, DC.cells, hd]
  refine kCall_M (d_next hc hm hq1 4) (by rfl) [(3, 0), (0, 0)] (by simp [CALL, SCB, SD, nsv]) (by simp [CALL, SCB, SD, nsv]) (by simp) (by simp [CALL, SCB, SD, nsv]) (by simp [okL_bs, okL_room, okL, okV, SD, nsv]) (by intro x _; simp [keepR, bs_length, SD, nsv]) (by simp [CALL, SCB, SD, nsv]) fun x2 h2 => ?_
  simp (config := { maxSteps := 2000000 }) only [CALL, ↓VC, VP, TT, Nat.reduceEqDiff, reduceCtorEq, Nat.reduceAdd, Nat.reduceSub, Nat.reduceLT, Nat.reduceMul, Nat.reducePow, Nat.reduceLeDiff, Int.reduceToNat, Int.reduceLE, Int.reduceLT, Int.reducePow, GOB, GD, cipC_len z256 z16 z16, DC.cells, hd]
  refine ⟨fun _ => ?_, fun _ => ?_⟩
  · refine kCall_M (d_next hc hm h2.1 32) (by rfl) [(3, 0), (0, 0)] (by simp [CALL, SCB, SD, nsv]) (by simp [CALL, SCB, SD, nsv]) (by simp) (by simp [CALL, SCB, SD, nsv]) (by simp [okL_bs, okL_room, okL, okV, SD, nsv]) (by intro x _; simp [keepR, bs_length, SD, nsv]) (by simp [CALL, SCB, SD, nsv]) fun x3 h3 => ?_
    obtain ⟨q3, j⟩ := x3
    obtain ⟨hq3, a1, a2, _⟩ := h3
    simp only at hq3 a1 a2 ⊢
    have a2 := a2 (by omega)
    obtain ⟨i, rfl⟩ : ∃ i : Nat, j = i := ⟨j.toNat, by omega⟩
    have hi : i < 32 := by omega
    simp (config := { maxSteps := 2000000 }) only [CALL, ↓VC, VP, TT, Nat.reduceEqDiff, reduceCtorEq, Nat.reduceAdd, Nat.reduceSub, Nat.reduceLT, Nat.reduceMul, Nat.reducePow, Nat.reduceLeDiff, Int.reduceToNat, Int.reduceLE, Int.reduceLT, Int.reducePow, GOB, GD, cipC_len z256 z16 z16, DC.cells]
    refine kCall_M (z_byte hc hm hq3) (by rfl) [(3, 0), (0, 0)] (by simp [CALL, SCB, SD, nsv]) (by simp [CALL, SCB, SD, nsv]) (by simp) (by simp [CALL, SCB, SD, nsv]) (by simp [okL_bs, okL_room, okL, okV, SD, nsv]) (by intro x _; simp [keepR, bs_length, SD, nsv]) (by simp [CALL, SCB, SD, nsv]) fun x4 h4 => ?_
    simp (config := { maxSteps := 2000000 }) only [CALL, ↓VC, VP, TT, Nat.reduceEqDiff, reduceCtorEq, Nat.reduceAdd, Nat.reduceSub, Nat.reduceLT, Nat.reduceMul, Nat.reducePow, Nat.reduceLeDiff, Int.reduceToNat, Int.reduceLE, Int.reduceLT, Int.reducePow, GOB, GD, cipC_len z256 z16 z16, DC.cells, Int.toNat_natCast, hi, hd]
    repeat (refine ⟨by first | omega | (simp; done) | decide, ?_⟩)
    refine ⟨?_, ?_⟩
    all_goals exact ⟨_, _, [0], ⟨(d, d.set i x4.2), ⟨hd, by simp only [List.length_set]; exact hd⟩, rfl, rfl⟩, by simp [-List.reduceReplicate, LES]⟩
  · refine ⟨?_, ?_⟩
    all_goals
      refine kCall_M (d_digest hc hm h2.1) (by rfl) [(3, 0), (0, 0)] (by simp [CALL, SCB, SD, nsv]) (by simp [CALL, SCB, SD, nsv]) (by simp) (by simp [CALL, SCB, SD, nsv]) (by simp [okL_bs, okL_room, okL, okV, SD, nsv]) (by intro x _; simp [keepR, bs_length, SD, nsv]) (by simp [CALL, SCB, SD, nsv]) fun x3 h3 => ?_
      obtain ⟨q3, e⟩ := x3
      obtain ⟨hq3, he⟩ := h3
      simp only at hq3 he ⊢
      simp (config := { maxSteps := 2000000 }) only [CALL, ↓VC, VP, TT, Nat.reduceEqDiff, reduceCtorEq, Nat.reduceAdd, Nat.reduceSub, Nat.reduceLT, Nat.reduceMul, Nat.reducePow, Nat.reduceLeDiff, Int.reduceToNat, Int.reduceLE, Int.reduceLT, Int.reducePow, GOB, GD, cipC_len z256 z16 z16, DC.cells, hd, he]
      exact ⟨_, _, [0], ⟨(d, e), ⟨hd, he⟩, rfl, rfl⟩, by simp [-List.reduceReplicate, LES]⟩
end
end Go.Proofs.YtahnjhppkgndiaaGreat

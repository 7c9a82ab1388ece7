import Derived.Test.YtjakgjelnbpmnaaGreatDrawW
import Derived.Test.YtjakgjelnbpmnaaGreatNetV
/- Draws for the law on slides, each whole. -/
set_option linter.unusedSimpArgs false
set_option linter.unusedVariables false
namespace Go.Proofs.YtjakgjelnbpmnaaGreat
open Go Go.Vc
set_option maxRecDepth 10000
set_option maxHeartbeats 40000000
section
variable {l : List UInt8} {c : Nat} {q : Nat × Nat}
theorem d_KeysOf (hc : l.length ≤ c) (hm : l.length ≤ 4096) : LC Tryz.prog 14 [.s 0 0 l.length c] [⟨false, bs l⟩] (Ret [⟨false, bs l⟩] (fun x : DN × List UInt8 => x.1.ok ∧ x.2.length = 16) fun x => (.t [.a x.1.cells, .a (bs x.2)], [])) := by
  refine LC_of (X := XX (fun _ => .nil) (fun _ => []) [33, 34, 35, 36, 39, 45, 53, 54, 65, 75, 90, 91, 92, 104] 1) envOK Tryz.func14 (by kernel_rfl) (by kernel_rfl) rfl (Nat.le_of_ble_eq_true (by kernel_rfl)) ?_
  simp only [kFun, Tryz.f14, List.length_nil, List.length_cons, Nat.sub_zero, Nat.reduceSub, Nat.reduceAdd, List.nil_append, List.cons_append, List.replicate_succ, List.replicate_zero]
  simp only [XX, ↓VC, VP, TT, Nat.reduceEqDiff, reduceCtorEq, Nat.reduceAdd, Nat.reduceSub, Nat.reduceLT, Nat.reduceMul, Nat.reducePow, Nat.reduceLeDiff, Int.reduceToNat, Int.reduceLE, Int.reduceLT, Int.reducePow, net_zero, netC_len z256 z16]
  refine kCall_Ret (d_from hc hm) (by rfl) [(0, 0)] (by simp [CALL, SCB, SD, nsv, instL_net, okL_net]) (by simp [CALL, SCB, SD, nsv, instL_net, okL_net]) (by simp [CALL, SCB, SD, nsv, instL_net, okL_net]) (by simp [okL_bs, okL_room, okL, okV, SD, nsv, instL_net, okL_net]) (by simp [CALL, SCB, SD, nsv, instL_net, okL_net]) fun q hq => ?_
  simp (config := { maxSteps := 2000000 }) only [CALL, ↓VC, VP, TT, Nat.reduceEqDiff, reduceCtorEq, Nat.reduceAdd, Nat.reduceSub, Nat.reduceLT, Nat.reduceMul, Nat.reducePow, Nat.reduceLeDiff, Int.reduceToNat, Int.reduceLE, Int.reduceLT, Int.reducePow, GOB, GD, cipC_len z256 z16 z16, instL_net, net_zero, netC_len z256 z16]
  refine kCall_M (d_netS hc hm hq) (by rfl) [(3, 0), (0, 0)] (by simp [CALL, SCB, SD, nsv, instL_net, okL_net]) (by simp [CALL, SCB, SD, nsv, instL_net, okL_net]) (by simp) (by simp [CALL, SCB, SD, nsv, instL_net, okL_net]) (by simp [okL_bs, okL_room, okL, okV, SD, nsv, instL_net, okL_net]) (by intro x _; simp [keepR, bs_length, SD, nsv, instL_net, okL_net]) (by simp [CALL, SCB, SD, nsv, instL_net, okL_net]) fun x1 h1 => ?_
  obtain ⟨q1, ⟨z, b, A, k, n⟩⟩ := x1
  obtain ⟨hq1, hb, hA⟩ := h1
  simp only [DN.cells] at hq1 hb hA ⊢
  simp (config := { maxSteps := 2000000 }) only [CALL, ↓VC, VP, TT, Nat.reduceEqDiff, reduceCtorEq, Nat.reduceAdd, Nat.reduceSub, Nat.reduceLT, Nat.reduceMul, Nat.reducePow, Nat.reduceLeDiff, Int.reduceToNat, Int.reduceLE, Int.reduceLT, Int.reducePow, GOB, GD, cipC_len z256 z16 z16, instL_net, net_zero, netC_len z256 z16, netC_len hb hA]
  refine kCall_M (z_block hc hm hq1) (by rfl) [(3, 0), (0, 0)] (by simp [CALL, SCB, SD, nsv, instL_net, okL_net]) (by simp [CALL, SCB, SD, nsv, instL_net, okL_net]) (by simp) (by simp [CALL, SCB, SD, nsv, instL_net, okL_net]) (by simp [okL_bs, okL_room, okL, okV, SD, nsv, instL_net, okL_net]) (by intro x _; simp [keepR, bs_length, SD, nsv, instL_net, okL_net]) (by simp [CALL, SCB, SD, nsv, instL_net, okL_net]) fun x2 h2 => ?_
  obtain ⟨q2, d⟩ := x2
  obtain ⟨hq2, hd⟩ := h2
  simp only at hq2 hd ⊢
  simp (config := { maxSteps := 2000000 }) only [CALL, ↓VC, VP, TT, Nat.reduceEqDiff, reduceCtorEq, Nat.reduceAdd, Nat.reduceSub, Nat.reduceLT, Nat.reduceMul, Nat.reducePow, Nat.reduceLeDiff, Int.reduceToNat, Int.reduceLE, Int.reduceLT, Int.reducePow, GOB, GD, cipC_len z256 z16 z16, instL_net, net_zero, netC_len z256 z16, hd, netC_len hb hA, ↓net_put_all z256 z16 hb hA, ↓net_all hb hA]
  exact ⟨_, _, [0], ⟨(⟨z, b, A, k, n⟩, d), ⟨⟨hb, hA⟩, hd⟩, rfl, rfl⟩, by simp [-List.reduceReplicate, LES, renL_net, okL_net]⟩
theorem d_Exchange (hc : l.length ≤ c) (hm : l.length ≤ 4096) : LC Tryz.prog 26 [.s 0 0 l.length c] [⟨false, bs l⟩] (Ret [⟨false, bs l⟩] (fun x : List UInt8 => x.length = 16) fun x => (.a (bs x), [])) := by
  refine LC_of (X := XX (fun _ => .nil) (fun _ => []) [33, 34, 35, 36, 39, 45, 53, 54, 65, 75, 90, 91, 92, 104] 1) envOK Tryz.func26 (by kernel_rfl) (by kernel_rfl) rfl (Nat.le_of_ble_eq_true (by kernel_rfl)) ?_
  simp only [kFun, Tryz.f26, List.length_nil, List.length_cons, Nat.sub_zero, Nat.reduceSub, Nat.reduceAdd, List.nil_append, List.cons_append, List.replicate_succ, List.replicate_zero]
  simp only [XX, ↓VC, VP, TT, Nat.reduceEqDiff, reduceCtorEq, Nat.reduceAdd, Nat.reduceSub, Nat.reduceLT, Nat.reduceMul, Nat.reducePow, Nat.reduceLeDiff, Int.reduceToNat, Int.reduceLE, Int.reduceLT, Int.reducePow]
  refine kCall_Ret (d_from hc hm) (by rfl) [(0, 0)] (by simp [CALL, SCB, SD, nsv, instL_net, okL_net]) (by simp [CALL, SCB, SD, nsv, instL_net, okL_net]) (by simp [CALL, SCB, SD, nsv, instL_net, okL_net]) (by simp [okL_bs, okL_room, okL, okV, SD, nsv, instL_net, okL_net]) (by simp [CALL, SCB, SD, nsv, instL_net, okL_net]) fun q hq => ?_
  simp (config := { maxSteps := 2000000 }) only [CALL, ↓VC, VP, TT, Nat.reduceEqDiff, reduceCtorEq, Nat.reduceAdd, Nat.reduceSub, Nat.reduceLT, Nat.reduceMul, Nat.reducePow, Nat.reduceLeDiff, Int.reduceToNat, Int.reduceLE, Int.reduceLT, Int.reducePow, GOB, GD, cipC_len z256 z16 z16, instL_net, net_zero, netC_len z256 z16]
  refine kCall_M (z_block hc hm hq) (by rfl) [(2, 0), (0, 0)] (by simp [CALL, SCB, SD, nsv, instL_net, okL_net]) (by simp [CALL, SCB, SD, nsv, instL_net, okL_net]) (by simp) (by simp [CALL, SCB, SD, nsv, instL_net, okL_net]) (by simp [okL_bs, okL_room, okL, okV, SD, nsv, instL_net, okL_net]) (by intro x _; simp [keepR, bs_length, SD, nsv, instL_net, okL_net]) (by simp [CALL, SCB, SD, nsv, instL_net, okL_net]) fun x2 h2 => ?_
  obtain ⟨q2, d⟩ := x2
  obtain ⟨hq2, hd⟩ := h2
  simp only at hq2 hd ⊢
  simp (config := { maxSteps := 2000000 }) only [CALL, ↓VC, VP, TT, Nat.reduceEqDiff, reduceCtorEq, Nat.reduceAdd, Nat.reduceSub, Nat.reduceLT, Nat.reduceMul, Nat.reducePow, Nat.reduceLeDiff, Int.reduceToNat, Int.reduceLE, Int.reduceLT, Int.reducePow, GOB, GD, cipC_len z256 z16 z16, instL_net, net_zero, netC_len z256 z16, hd]
  exact ⟨_, _, [0], ⟨d, hd, rfl, rfl⟩, by simp [-List.reduceReplicate, LES]⟩
theorem d_Complement (hc : l.length ≤ c) (hm : l.length ≤ 4096) : LC Tryz.prog 27 [.s 0 0 l.length c] [⟨false, bs l⟩] (Ret [⟨false, bs l⟩] (fun x : List UInt8 => x.length = 16) fun x => (.a (bs x), [])) := by
  refine LC_of (X := XX (fun _ => .nil) (fun _ => []) [33, 34, 35, 36, 39, 45, 53, 54, 65, 75, 90, 91, 92, 104] 1) envOK Tryz.func27 (by kernel_rfl) (by kernel_rfl) rfl (Nat.le_of_ble_eq_true (by kernel_rfl)) ?_
  simp only [kFun, Tryz.f27, List.length_nil, List.length_cons, Nat.sub_zero, Nat.reduceSub, Nat.reduceAdd, List.nil_append, List.cons_append, List.replicate_succ, List.replicate_zero]
  simp only [XX, ↓VC, VP, TT, Nat.reduceEqDiff, reduceCtorEq, Nat.reduceAdd, Nat.reduceSub, Nat.reduceLT, Nat.reduceMul, Nat.reducePow, Nat.reduceLeDiff, Int.reduceToNat, Int.reduceLE, Int.reduceLT, Int.reducePow]
  refine kCall_Ret (d_from hc hm) (by rfl) [(0, 0)] (by simp [CALL, SCB, SD, nsv, instL_net, okL_net]) (by simp [CALL, SCB, SD, nsv, instL_net, okL_net]) (by simp [CALL, SCB, SD, nsv, instL_net, okL_net]) (by simp [okL_bs, okL_room, okL, okV, SD, nsv, instL_net, okL_net]) (by simp [CALL, SCB, SD, nsv, instL_net, okL_net]) fun q hq => ?_
  simp (config := { maxSteps := 2000000 }) only [CALL, ↓VC, VP, TT, Nat.reduceEqDiff, reduceCtorEq, Nat.reduceAdd, Nat.reduceSub, Nat.reduceLT, Nat.reduceMul, Nat.reducePow, Nat.reduceLeDiff, Int.reduceToNat, Int.reduceLE, Int.reduceLT, Int.reducePow, GOB, GD, cipC_len z256 z16 z16, instL_net, net_zero, netC_len z256 z16]
  refine kCall_M (z_block hc hm hq) (by rfl) [(2, 0), (0, 0)] (by simp [CALL, SCB, SD, nsv, instL_net, okL_net]) (by simp [CALL, SCB, SD, nsv, instL_net, okL_net]) (by simp) (by simp [CALL, SCB, SD, nsv, instL_net, okL_net]) (by simp [okL_bs, okL_room, okL, okV, SD, nsv, instL_net, okL_net]) (by intro x _; simp [keepR, bs_length, SD, nsv, instL_net, okL_net]) (by simp [CALL, SCB, SD, nsv, instL_net, okL_net]) fun x2 h2 => ?_
  obtain ⟨q2, d⟩ := x2
  obtain ⟨hq2, hd⟩ := h2
  simp only at hq2 hd ⊢
  simp (config := { maxSteps := 2000000 }) only [CALL, ↓VC, VP, TT, Nat.reduceEqDiff, reduceCtorEq, Nat.reduceAdd, Nat.reduceSub, Nat.reduceLT, Nat.reduceMul, Nat.reducePow, Nat.reduceLeDiff, Int.reduceToNat, Int.reduceLE, Int.reduceLT, Int.reducePow, GOB, GD, cipC_len z256 z16 z16, instL_net, net_zero, netC_len z256 z16, hd]
  exact ⟨_, _, [0], ⟨d, hd, rfl, rfl⟩, by simp [-List.reduceReplicate, LES]⟩
theorem d_ReverseK (hc : l.length ≤ c) (hm : l.length ≤ 4096) : LC Tryz.prog 18 [.s 0 0 l.length c] [⟨false, bs l⟩] (Ret [⟨false, bs l⟩] (fun x : Nat × List UInt8 × Nat => x.1 ≤ 41 ∧ x.2.1.length = 8 * x.1) fun x => (.s 1 0 x.1 (x.1 + x.2.2), [⟨true, bs x.2.1 ++ List.replicate (8 * x.2.2) .j⟩])) := by
  refine LC_of (X := XX (fun _ => .nil) (fun _ => []) [33, 34, 35, 36, 39, 45, 53, 54, 65, 75, 90, 91, 92, 104] 1) envOK Tryz.func18 (by kernel_rfl) (by kernel_rfl) rfl (Nat.le_of_ble_eq_true (by kernel_rfl)) ?_
  simp only [kFun, Tryz.f18, List.length_nil, List.length_cons, Nat.sub_zero, Nat.reduceSub, Nat.reduceAdd, List.nil_append, List.cons_append, List.replicate_succ, List.replicate_zero]
  simp only [XX, ↓VC, VP, TT, Nat.reduceEqDiff, reduceCtorEq, Nat.reduceAdd, Nat.reduceSub, Nat.reduceLT, Nat.reduceMul, Nat.reducePow, Nat.reduceLeDiff, Int.reduceToNat, Int.reduceLE, Int.reduceLT, Int.reducePow]
  refine kCall_Ret (d_from hc hm) (by rfl) [(0, 0)] (by simp [CALL, SCB, SD, nsv, instL_net, okL_net]) (by simp [CALL, SCB, SD, nsv, instL_net, okL_net]) (by simp [CALL, SCB, SD, nsv, instL_net, okL_net]) (by simp [okL_bs, okL_room, okL, okV, SD, nsv, instL_net, okL_net]) (by simp [CALL, SCB, SD, nsv, instL_net, okL_net]) fun q hq => ?_
  simp (config := { maxSteps := 2000000 }) only [CALL, ↓VC, VP, TT, Nat.reduceEqDiff, reduceCtorEq, Nat.reduceAdd, Nat.reduceSub, Nat.reduceLT, Nat.reduceMul, Nat.reducePow, Nat.reduceLeDiff, Int.reduceToNat, Int.reduceLE, Int.reduceLT, Int.reducePow, GOB, GD, cipC_len z256 z16 z16, instL_net, net_zero, netC_len z256 z16]
  refine kCall_M (d_next hc hm hq 5) (by rfl) [(1, 0), (0, 0)] (by simp [CALL, SCB, SD, nsv, instL_net, okL_net]) (by simp [CALL, SCB, SD, nsv, instL_net, okL_net]) (by simp) (by simp [CALL, SCB, SD, nsv, instL_net, okL_net]) (by simp [okL_bs, okL_room, okL, okV, SD, nsv, instL_net, okL_net]) (by intro x _; simp [keepR, bs_length, SD, nsv, instL_net, okL_net]) (by simp [CALL, SCB, SD, nsv, instL_net, okL_net]) fun x1 h1 => ?_
  simp (config := { maxSteps := 2000000 }) only [CALL, ↓VC, VP, TT, Nat.reduceEqDiff, reduceCtorEq, Nat.reduceAdd, Nat.reduceSub, Nat.reduceLT, Nat.reduceMul, Nat.reducePow, Nat.reduceLeDiff, Int.reduceToNat, Int.reduceLE, Int.reduceLT, Int.reducePow, GOB, GD, cipC_len z256 z16 z16, instL_net, net_zero, netC_len z256 z16]
  refine kCall_M (d_next hc hm h1.1 41) (by rfl) [(1, 0), (0, 0)] (by simp [CALL, SCB, SD, nsv, instL_net, okL_net]) (by simp [CALL, SCB, SD, nsv, instL_net, okL_net]) (by simp) (by simp [CALL, SCB, SD, nsv, instL_net, okL_net]) (by simp [okL_bs, okL_room, okL, okV, SD, nsv, instL_net, okL_net]) (by intro x _; simp [keepR, bs_length, SD, nsv, instL_net, okL_net]) (by simp [CALL, SCB, SD, nsv, instL_net, okL_net]) fun x2 h2 => ?_
  simp (config := { maxSteps := 2000000 }) only [CALL, ↓VC, VP, TT, Nat.reduceEqDiff, reduceCtorEq, Nat.reduceAdd, Nat.reduceSub, Nat.reduceLT, Nat.reduceMul, Nat.reducePow, Nat.reduceLeDiff, Int.reduceToNat, Int.reduceLE, Int.reduceLT, Int.reducePow, GOB, GD, cipC_len z256 z16 z16, instL_net, net_zero, netC_len z256 z16]
  refine kCall_M (d_pick hc hm h2.1 [x1.2, x2.2, 41] 3 (by simp) (by simp)) (by rfl) [(1, 0), (0, 0), (3, 0)] (by simp [CALL, SCB, SD, nsv, instL_net, okL_net, splice]) (by simp [CALL, SCB, SD, nsv, instL_net, okL_net, splice]) (by simp) (by simp [CALL, SCB, SD, nsv, instL_net, okL_net, splice]) (by simp [okL_bs, okL_room, okL, okV, SD, nsv, instL_net, okL_net, splice]) (by intro x _; simp [keepR, bs_length, SD, nsv, instL_net, okL_net, splice]) (by simp [CALL, SCB, SD, nsv, instL_net, okL_net, splice]) fun x3 h3 => ?_
  simp (config := { maxSteps := 2000000 }) only [CALL, ↓VC, VP, TT, Nat.reduceEqDiff, reduceCtorEq, Nat.reduceAdd, Nat.reduceSub, Nat.reduceLT, Nat.reduceMul, Nat.reducePow, Nat.reduceLeDiff, Int.reduceToNat, Int.reduceLE, Int.reduceLT, Int.reducePow, GOB, GD, cipC_len z256 z16 z16, instL_net, net_zero, netC_len z256 z16]
  have hk0 : x3.2 ≤ 41 := by
    have b1 := h1.2.2.1 (by omega)
    have b2 := h2.2.2.1 (by omega)
    rcases List.mem_cons.1 h3.2 with h | h
    · omega
    · rcases List.mem_cons.1 h with h | h
      · omega
      · rw [List.mem_singleton] at h; omega
  have hq3 := h3.1
  generalize x3.2 = k0 at *
  generalize x3.1 = q3 at *
  refine kLoop_of (fun s : Int × (Nat × Nat) × Nat × List UInt8 × Nat => ([.s 0 0 l.length c, .j, .j, .p 1 0, .s 2 0 s.2.2.1 (s.2.2.1 + s.2.2.2.2), .c (.int .i64 (s.1)), .j, .j, .j, .j, .j, .j, .j, .j, .j, .j, .j, .j, .j, .j, .j, .j, .j, .j, .j, .j], [⟨false, bs l⟩, ⟨true, sv 0 l.length c s.2.1⟩, ⟨true, bs s.2.2.2.1 ++ List.replicate (8 * s.2.2.2.2) .j⟩])) (fun s => s.1.toNat) (fun s => okS l s.2.1 ∧ s.1 ≤ 41 ∧ (s.2.2.1 : Int) + max s.1 0 ≤ 41 ∧ s.2.2.2.1.length = 8 * s.2.2.1) (k0, q3, 0, [], 0)
    ⟨hq3, hk0, by simp only; omega, rfl⟩ ⟨[0, 1, 2], by simp [-List.reduceReplicate, LES, sv_ren, sv_ok, bs_nil]⟩ ?_
  clear hq3 hk0 h1 h2 h3
  rintro ⟨k, q, m, D, r⟩ ⟨hq, hk1, hk2, hD⟩
  simp only at hq hk1 hk2 hD
  have hT : ∀ X, List.take (m * 8) (bs D ++ X) = bs D := fun X => by rw [List.take_append_of_le_length (by rw [bs_length]; omega), List.take_of_length_le (by rw [bs_length]; omega)]
  rcases Int.lt_or_le 0 k with h | h
  · have wk : IntKind.i64.wrap (k - 1) = k - 1 := wrap_i64 (by omega) (by omega)
    simp only [↓VC, VP, TT, Nat.reduceEqDiff, reduceCtorEq, Nat.reduceAdd, Nat.reduceSub, Nat.reduceLT, Nat.reduceMul, Nat.reducePow, Nat.reduceLeDiff, Int.reduceToNat, Int.reduceLE, Int.reduceLT, Int.reducePow, (eq_true h : (k > 0) = True), decide_true]
    refine kCall_M (d_half hc hm hq) (by rfl) [(1, 0), (0, 0)] (by simp [CALL, SCB, SD, nsv, instL_net, okL_net]) (by simp [CALL, SCB, SD, nsv, instL_net, okL_net]) (by simp) (by simp [CALL, SCB, SD, nsv, instL_net, okL_net]) (by simp [okL_bs, okL_room, okL, okV, SD, nsv, instL_net, okL_net]) (by intro x _; simp [keepR, bs_length, SD, nsv, instL_net, okL_net]) (by simp [CALL, SCB, SD, nsv, instL_net, okL_net]) fun x2 h2 => ?_
    obtain ⟨q2, w⟩ := x2
    obtain ⟨hq2, hw⟩ := h2
    simp only at hq2 hw ⊢
    have hT8 : List.take 8 (bs w) = bs w := List.take_of_length_le (by rw [bs_length]; omega)
    have eR : (List.replicate 1 (bs (List.replicate 8 0))).flatten = bs (List.replicate 8 0) := rfl
    have eS : splice (bs (List.replicate 8 0)) 0 (bs w) = bs w := splice_all (by simp [bs_length, hw])
    have eS2 : splB (List.replicate 8 0) 0 w = w := by unfold splB; simp [hw]
    simp (config := { maxSteps := 2000000 }) only [CALL, ↓VC, VP, TT, Nat.reduceEqDiff, reduceCtorEq, Nat.reduceAdd, Nat.reduceSub, Nat.reduceLT, Nat.reduceMul, Nat.reducePow, Nat.reduceLeDiff, Int.reduceToNat, Int.reduceLE, Int.reduceLT, Int.reducePow, GOB, GD, cipC_len z256 z16 z16, instL_net, net_zero, netC_len z256 z16, hw, wk, hT, hT8, eR, eS, eS2, List.length_replicate, bs_append]
    repeat (first | refine ⟨by omega, ?_⟩ | refine ⟨.inr (by omega), ?_⟩ | refine ⟨.inr trivial, ?_⟩)
    intro r1 c' e1 e2
    obtain rfl : r1 = 8 * (c' - (m + 1)) := by omega
    refine ⟨(k - 1, q2, m + 1, D ++ w, c' - (m + 1)), ⟨hq2, by simp only; omega, by simp only; omega, by simp only [List.length_append]; omega⟩, by simp only; omega, [0, 1, 4], ?_⟩
    simp [-List.reduceReplicate, LES, sv_ren, sv_ok, -List.reduceReplicate, renL_room, okL_room, show m + 1 + (c' - (m + 1)) = c' by omega]
  · simp only [↓VC, VP, TT, Nat.reduceEqDiff, reduceCtorEq, Nat.reduceAdd, Nat.reduceSub, Nat.reduceLT, Nat.reduceMul, Nat.reducePow, Nat.reduceLeDiff, Int.reduceToNat, Int.reduceLE, Int.reduceLT, Int.reducePow, (eq_false (by omega) : (k > 0) = False), decide_false]
    exact ⟨_, _, [0, 2], ⟨(m, D, r), ⟨by simp only; omega, hD⟩, rfl, rfl⟩, by simp [-List.reduceReplicate, LES, renL_room, okL_room]⟩
end
end Go.Proofs.YtjakgjelnbpmnaaGreat

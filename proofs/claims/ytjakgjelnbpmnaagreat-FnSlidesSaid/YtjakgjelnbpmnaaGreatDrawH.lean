import Derived.Test.YtjakgjelnbpmnaaGreatDrawX
import Derived.Test.YtjakgjelnbpmnaaGreatSlid
/- Draws for the law on slides: the house's network, the blocks that may be slid. -/
set_option linter.unusedSimpArgs false
set_option linter.unusedVariables false
namespace Go.Proofs.YtjakgjelnbpmnaaGreat
open Go Go.Vc
set_option maxRecDepth 10000
set_option maxHeartbeats 40000000
section
variable {l : List UInt8} {c : Nat} {q : Nat × Nat}
theorem d_nearM (hc : l.length ≤ c) (hm : l.length ≤ 4096) (hq : okS l q) (m : Int) (h0 : 0 ≤ m) (h1 : m ≤ 1000) : LC Tryz.prog 54 [.p 0 0, .c (.int .i64 (m))] [⟨true, sv 1 l.length c q⟩, ⟨false, bs l⟩] (RetM (fun x : (Nat × Nat) × Int => okS l x.1) fun x => (.c (.int .i64 (x.2)), [⟨true, sv 1 l.length c x.1⟩, ⟨false, bs l⟩], [])) := by
  refine LC_of (X := XX (fun _ => .nil) (fun _ => []) [33, 34, 35, 36, 39, 45, 53, 54, 65, 75, 90, 91, 92, 104] 2) envOK Tryz.func54 (by kernel_rfl) (by kernel_rfl) rfl (Nat.le_of_ble_eq_true (by kernel_rfl)) ?_
  simp only [kFun, Tryz.f54, List.length_nil, List.length_cons, Nat.sub_zero, Nat.reduceSub, Nat.reduceAdd, List.nil_append, List.cons_append, List.replicate_succ, List.replicate_zero]
  simp only [XX, ↓VC, VP, TT, Nat.reduceEqDiff, reduceCtorEq, Nat.reduceAdd, Nat.reduceSub, Nat.reduceLT, Nat.reduceMul, Nat.reducePow, Nat.reduceLeDiff, Int.reduceToNat, Int.reduceLE, Int.reduceLT, Int.reducePow]
  have w : IntKind.i64.wrap (m + 1) = m + 1 := wrap_i64 (by omega) (by omega)
  refine kCall_M (d_next hc hm hq 14) (by rfl) [(0, 0), (1, 0)] (by simp [CALL, SCB, SD, nsv, instL_net, okL_net]) (by simp [CALL, SCB, SD, nsv, instL_net, okL_net]) (by simp) (by simp [CALL, SCB, SD, nsv, instL_net, okL_net]) (by simp [okL_bs, okL_room, okL, okV, SD, nsv, instL_net, okL_net]) (by intro x _; simp [keepR, bs_length, SD, nsv, instL_net, okL_net]) (by simp [CALL, SCB, SD, nsv, instL_net, okL_net]) fun x1 h1 => ?_
  simp (config := { maxSteps := 2000000 }) only [CALL, ↓VC, VP, TT, Nat.reduceEqDiff, reduceCtorEq, Nat.reduceAdd, Nat.reduceSub, Nat.reduceLT, Nat.reduceMul, Nat.reducePow, Nat.reduceLeDiff, Int.reduceToNat, Int.reduceLE, Int.reduceLT, Int.reducePow, GOB, GD, cipC_len z256 z16 z16, instL_net, net_zero, netC_len z256 z16, w]
  refine ⟨fun _ => ?_, fun _ => ?_⟩
  · refine kCall_M (d_pick hc hm h1.1 [-1, m + 1, 1099511627776, -4611686018427387904] 4 (by simp) (by simp)) (by rfl) [(0, 0), (1, 0), (2, 0)] (by simp [CALL, SCB, SD, nsv, instL_net, okL_net, splice]) (by simp [CALL, SCB, SD, nsv, instL_net, okL_net, splice]) (by simp) (by simp [CALL, SCB, SD, nsv, instL_net, okL_net, splice]) (by simp [okL_bs, okL_room, okL, okV, SD, nsv, instL_net, okL_net, splice]) (by intro x _; simp [keepR, bs_length, SD, nsv, instL_net, okL_net, splice]) (by simp [CALL, SCB, SD, nsv, instL_net, okL_net, splice]) fun x2 h2 => ?_
    simp (config := { maxSteps := 2000000 }) only [CALL, ↓VC, VP, TT, Nat.reduceEqDiff, reduceCtorEq, Nat.reduceAdd, Nat.reduceSub, Nat.reduceLT, Nat.reduceMul, Nat.reducePow, Nat.reduceLeDiff, Int.reduceToNat, Int.reduceLE, Int.reduceLT, Int.reducePow, GOB, GD, cipC_len z256 z16 z16, instL_net, net_zero, netC_len z256 z16]
    exact ⟨_, _, [0, 1], ⟨(x2.1, x2.2), h2.1, rfl, rfl⟩, by simp [-List.reduceReplicate, LES, sv_ren, sv_ok]⟩
  · refine kCall_M (d_next hc hm h1.1 (m + 1)) (by rfl) [(0, 0), (1, 0)] (by simp [CALL, SCB, SD, nsv, instL_net, okL_net]) (by simp [CALL, SCB, SD, nsv, instL_net, okL_net]) (by simp) (by simp [CALL, SCB, SD, nsv, instL_net, okL_net]) (by simp [okL_bs, okL_room, okL, okV, SD, nsv, instL_net, okL_net]) (by intro x _; simp [keepR, bs_length, SD, nsv, instL_net, okL_net]) (by simp [CALL, SCB, SD, nsv, instL_net, okL_net]) fun x2 h2 => ?_
    simp (config := { maxSteps := 2000000 }) only [CALL, ↓VC, VP, TT, Nat.reduceEqDiff, reduceCtorEq, Nat.reduceAdd, Nat.reduceSub, Nat.reduceLT, Nat.reduceMul, Nat.reducePow, Nat.reduceLeDiff, Int.reduceToNat, Int.reduceLE, Int.reduceLT, Int.reducePow, GOB, GD, cipC_len z256 z16 z16, instL_net, net_zero, netC_len z256 z16]
    exact ⟨_, _, [0, 1], ⟨(x2.1, x2.2), h2.1, rfl, rfl⟩, by simp [-List.reduceReplicate, LES, sv_ren, sv_ok]⟩
theorem d_HouseN (hc : l.length ≤ c) (hm : l.length ≤ 4096) : LC Tryz.prog 21 [.s 0 0 l.length c] [⟨false, bs l⟩] (Ret [⟨false, bs l⟩] (fun _ : Int × Int => True) fun x => (.t [.c (.int .i64 (x.1)), .c (.int .i64 (x.2))], [])) := by
  refine LC_of (X := XX (fun _ => .nil) (fun _ => []) [33, 34, 35, 36, 39, 45, 53, 54, 65, 75, 90, 91, 92, 104] 1) envOK Tryz.func21 (by kernel_rfl) (by kernel_rfl) rfl (Nat.le_of_ble_eq_true (by kernel_rfl)) ?_
  simp only [kFun, Tryz.f21, List.length_nil, List.length_cons, Nat.sub_zero, Nat.reduceSub, Nat.reduceAdd, List.nil_append, List.cons_append, List.replicate_succ, List.replicate_zero]
  simp only [XX, ↓VC, VP, TT, Nat.reduceEqDiff, reduceCtorEq, Nat.reduceAdd, Nat.reduceSub, Nat.reduceLT, Nat.reduceMul, Nat.reducePow, Nat.reduceLeDiff, Int.reduceToNat, Int.reduceLE, Int.reduceLT, Int.reducePow]
  refine kCall_Ret (d_from hc hm) (by rfl) [(0, 0)] (by simp [CALL, SCB, SD, nsv, instL_net, okL_net]) (by simp [CALL, SCB, SD, nsv, instL_net, okL_net]) (by simp [CALL, SCB, SD, nsv, instL_net, okL_net]) (by simp [okL_bs, okL_room, okL, okV, SD, nsv, instL_net, okL_net]) (by simp [CALL, SCB, SD, nsv, instL_net, okL_net]) fun q hq => ?_
  simp (config := { maxSteps := 2000000 }) only [CALL, ↓VC, VP, TT, Nat.reduceEqDiff, reduceCtorEq, Nat.reduceAdd, Nat.reduceSub, Nat.reduceLT, Nat.reduceMul, Nat.reducePow, Nat.reduceLeDiff, Int.reduceToNat, Int.reduceLE, Int.reduceLT, Int.reducePow, GOB, GD, cipC_len z256 z16 z16, instL_net, net_zero, netC_len z256 z16]
  refine kCall_M (d_nearM hc hm hq 2 (by omega) (by omega)) (by rfl) [(1, 0), (0, 0)] (by simp [CALL, SCB, SD, nsv, instL_net, okL_net]) (by simp [CALL, SCB, SD, nsv, instL_net, okL_net]) (by simp) (by simp [CALL, SCB, SD, nsv, instL_net, okL_net]) (by simp [okL_bs, okL_room, okL, okV, SD, nsv, instL_net, okL_net]) (by intro x _; simp [keepR, bs_length, SD, nsv, instL_net, okL_net]) (by simp [CALL, SCB, SD, nsv, instL_net, okL_net]) fun x1 h1 => ?_
  simp (config := { maxSteps := 2000000 }) only [CALL, ↓VC, VP, TT, Nat.reduceEqDiff, reduceCtorEq, Nat.reduceAdd, Nat.reduceSub, Nat.reduceLT, Nat.reduceMul, Nat.reducePow, Nat.reduceLeDiff, Int.reduceToNat, Int.reduceLE, Int.reduceLT, Int.reducePow, GOB, GD, cipC_len z256 z16 z16, instL_net, net_zero, netC_len z256 z16]
  refine kCall_M (d_nearM hc hm h1 39 (by omega) (by omega)) (by rfl) [(1, 0), (0, 0)] (by simp [CALL, SCB, SD, nsv, instL_net, okL_net]) (by simp [CALL, SCB, SD, nsv, instL_net, okL_net]) (by simp) (by simp [CALL, SCB, SD, nsv, instL_net, okL_net]) (by simp [okL_bs, okL_room, okL, okV, SD, nsv, instL_net, okL_net]) (by intro x _; simp [keepR, bs_length, SD, nsv, instL_net, okL_net]) (by simp [CALL, SCB, SD, nsv, instL_net, okL_net]) fun x2 h2 => ?_
  simp (config := { maxSteps := 2000000 }) only [CALL, ↓VC, VP, TT, Nat.reduceEqDiff, reduceCtorEq, Nat.reduceAdd, Nat.reduceSub, Nat.reduceLT, Nat.reduceMul, Nat.reducePow, Nat.reduceLeDiff, Int.reduceToNat, Int.reduceLE, Int.reduceLT, Int.reducePow, GOB, GD, cipC_len z256 z16 z16, instL_net, net_zero, netC_len z256 z16]
  exact ⟨_, _, [0], ⟨(x1.2, IntKind.i64.wrap (1 + x2.2)), trivial, rfl, rfl⟩, by simp [-List.reduceReplicate, LES]⟩
theorem d_SlidPlaces (hc : l.length ≤ c) (hm : l.length ≤ 4096) : LC Tryz.prog 5 [.s 0 0 l.length c] [⟨false, bs l⟩] (Ret [⟨false, bs l⟩] (fun x : DN × List UInt8 × Nat × List UInt8 × Nat => x.1.ok ∧ x.2.1.length = 8 ∧ x.2.2.1 ≤ 61 ∧ x.2.2.2.1.length = 16 * x.2.2.1) fun x => (.t [.a x.1.cells, .a (bs x.2.1), .s 1 0 x.2.2.1 (x.2.2.1 + x.2.2.2.2)], [⟨true, bs x.2.2.2.1 ++ List.replicate (16 * x.2.2.2.2) .j⟩])) := by
  refine LC_of (X := XX (fun | 7 => .cut (.one 0 (.one 3 (.one 4 (.one 5 (.one 6 (.alt (.one 1 (.alt (.one 2 (.one 7 (.one 8 (.one 9 (.one 10 (.one 11 (.one 12 (.one 13 .nil)))))))) (.one 7 (.one 2 (.one 8 (.one 9 (.one 10 (.one 11 (.one 12 (.one 13 .nil)))))))))) (.alt (.one 2 (.alt (.one 1 (.one 7 (.one 8 (.one 9 (.one 10 (.one 11 (.one 12 (.one 13 .nil)))))))) (.one 7 (.one 1 (.one 8 (.one 9 (.one 10 (.one 11 (.one 12 (.one 13 .nil)))))))))) (.one 7 (.one 1 (.one 2 (.one 8 (.one 9 (.one 10 (.one 11 (.one 12 (.one 13 .nil)))))))))))))))) | 9 => .one 0 (.one 2 (.alt (.one 1 (.one 3 (.one 4 (.one 5 .nil)))) (.one 3 (.one 1 (.one 4 (.one 5 .nil)))))) | _ => .nil) (fun _ => []) [33, 34, 35, 36, 39, 45, 53, 54, 65, 75, 90, 91, 92, 104] 1) envOK Tryz.func5 (by kernel_rfl) (by kernel_rfl) rfl (Nat.le_of_ble_eq_true (by kernel_rfl)) ?_
  simp only [kFun, Tryz.f5, List.length_nil, List.length_cons, Nat.sub_zero, Nat.reduceSub, Nat.reduceAdd, List.nil_append, List.cons_append, List.replicate_succ, List.replicate_zero]
  simp only [XX, ↓VC, VP, TT, Nat.reduceEqDiff, reduceCtorEq, Nat.reduceAdd, Nat.reduceSub, Nat.reduceLT, Nat.reduceMul, Nat.reducePow, Nat.reduceLeDiff, Int.reduceToNat, Int.reduceLE, Int.reduceLT, Int.reducePow, net_zero, netC_len z256 z16]
  refine kCall_Ret (d_from hc hm) (by rfl) [(0, 0)] (by simp [CALL, SCB, SD, nsv, instL_net, okL_net]) (by simp [CALL, SCB, SD, nsv, instL_net, okL_net]) (by simp [CALL, SCB, SD, nsv, instL_net, okL_net]) (by simp [okL_bs, okL_room, okL, okV, SD, nsv, instL_net, okL_net]) (by simp [CALL, SCB, SD, nsv, instL_net, okL_net]) fun q hq => ?_
  simp (config := { maxSteps := 2000000 }) only [CALL, ↓VC, VP, TT, Nat.reduceEqDiff, reduceCtorEq, Nat.reduceAdd, Nat.reduceSub, Nat.reduceLT, Nat.reduceMul, Nat.reducePow, Nat.reduceLeDiff, Int.reduceToNat, Int.reduceLE, Int.reduceLT, Int.reducePow, GOB, GD, cipC_len z256 z16 z16, instL_net, net_zero, netC_len z256 z16]
  refine kCall_M (d_netS hc hm hq) (by rfl) [(3, 0), (0, 0)] (by simp [CALL, SCB, SD, nsv, instL_net, okL_net]) (by simp [CALL, SCB, SD, nsv, instL_net, okL_net]) (by simp) (by simp [CALL, SCB, SD, nsv, instL_net, okL_net]) (by simp [okL_bs, okL_room, okL, okV, SD, nsv, instL_net, okL_net]) (by intro x _; simp [keepR, bs_length, SD, nsv, instL_net, okL_net]) (by simp [CALL, SCB, SD, nsv, instL_net, okL_net]) fun x1 h1 => ?_
  obtain ⟨q1, ⟨z, b, A, kd, n⟩⟩ := x1
  obtain ⟨hq1, hb, hA⟩ := h1
  simp only [DN.cells] at hq1 hb hA ⊢
  simp (config := { maxSteps := 2000000 }) only [CALL, ↓VC, VP, TT, Nat.reduceEqDiff, reduceCtorEq, Nat.reduceAdd, Nat.reduceSub, Nat.reduceLT, Nat.reduceMul, Nat.reducePow, Nat.reduceLeDiff, Int.reduceToNat, Int.reduceLE, Int.reduceLT, Int.reducePow, GOB, GD, cipC_len z256 z16 z16, instL_net, net_zero, netC_len z256 z16, netC_len hb hA]
  refine kCall_M (d_half hc hm hq1) (by rfl) [(3, 0), (0, 0)] (by simp [CALL, SCB, SD, nsv, instL_net, okL_net]) (by simp [CALL, SCB, SD, nsv, instL_net, okL_net]) (by simp) (by simp [CALL, SCB, SD, nsv, instL_net, okL_net]) (by simp [okL_bs, okL_room, okL, okV, SD, nsv, instL_net, okL_net]) (by intro x _; simp [keepR, bs_length, SD, nsv, instL_net, okL_net]) (by simp [CALL, SCB, SD, nsv, instL_net, okL_net]) fun x2 h2 => ?_
  obtain ⟨q2, d⟩ := x2
  obtain ⟨hq2, hd⟩ := h2
  simp only at hq2 hd ⊢
  simp (config := { maxSteps := 2000000 }) only [CALL, ↓VC, VP, TT, Nat.reduceEqDiff, reduceCtorEq, Nat.reduceAdd, Nat.reduceSub, Nat.reduceLT, Nat.reduceMul, Nat.reducePow, Nat.reduceLeDiff, Int.reduceToNat, Int.reduceLE, Int.reduceLT, Int.reducePow, GOB, GD, cipC_len z256 z16 z16, instL_net, net_zero, netC_len z256 z16, hd, netC_len hb hA, ↓net_put_all z256 z16 hb hA, ↓net_all hb hA]
  refine kCall_M (d_next hc hm hq2 4) (by rfl) [(3, 0), (0, 0)] (by simp [CALL, SCB, SD, nsv, instL_net, okL_net]) (by simp [CALL, SCB, SD, nsv, instL_net, okL_net]) (by simp) (by simp [CALL, SCB, SD, nsv, instL_net, okL_net]) (by simp [okL_bs, okL_room, okL, okV, SD, nsv, instL_net, okL_net]) (by intro x _; simp [keepR, bs_length, SD, nsv, instL_net, okL_net]) (by simp [CALL, SCB, SD, nsv, instL_net, okL_net]) fun x3 h3 => ?_
  simp (config := { maxSteps := 2000000 }) only [CALL, ↓VC, VP, TT, Nat.reduceEqDiff, reduceCtorEq, Nat.reduceAdd, Nat.reduceSub, Nat.reduceLT, Nat.reduceMul, Nat.reducePow, Nat.reduceLeDiff, Int.reduceToNat, Int.reduceLE, Int.reduceLT, Int.reducePow, GOB, GD, cipC_len z256 z16 z16, instL_net, net_zero, netC_len z256 z16]
  refine kCall_M (d_next hc hm h3.1 12) (by rfl) [(3, 0), (0, 0)] (by simp [CALL, SCB, SD, nsv, instL_net, okL_net]) (by simp [CALL, SCB, SD, nsv, instL_net, okL_net]) (by simp) (by simp [CALL, SCB, SD, nsv, instL_net, okL_net]) (by simp [okL_bs, okL_room, okL, okV, SD, nsv, instL_net, okL_net]) (by intro x _; simp [keepR, bs_length, SD, nsv, instL_net, okL_net]) (by simp [CALL, SCB, SD, nsv, instL_net, okL_net]) fun x4 h4 => ?_
  simp (config := { maxSteps := 2000000 }) only [CALL, ↓VC, VP, TT, Nat.reduceEqDiff, reduceCtorEq, Nat.reduceAdd, Nat.reduceSub, Nat.reduceLT, Nat.reduceMul, Nat.reducePow, Nat.reduceLeDiff, Int.reduceToNat, Int.reduceLE, Int.reduceLT, Int.reducePow, GOB, GD, cipC_len z256 z16 z16, instL_net, net_zero, netC_len z256 z16]
  refine kCall_M (d_pick hc hm h4.1 [x3.2, x4.2, 61] 3 (by simp) (by simp)) (by rfl) [(3, 0), (0, 0), (7, 0)] (by simp [CALL, SCB, SD, nsv, instL_net, okL_net, splice]) (by simp [CALL, SCB, SD, nsv, instL_net, okL_net, splice]) (by simp) (by simp [CALL, SCB, SD, nsv, instL_net, okL_net, splice]) (by simp [okL_bs, okL_room, okL, okV, SD, nsv, instL_net, okL_net, splice]) (by intro x _; simp [keepR, bs_length, SD, nsv, instL_net, okL_net, splice]) (by simp [CALL, SCB, SD, nsv, instL_net, okL_net, splice]) fun x5 h5 => ?_
  simp (config := { maxSteps := 2000000 }) only [CALL, ↓VC, VP, TT, Nat.reduceEqDiff, reduceCtorEq, Nat.reduceAdd, Nat.reduceSub, Nat.reduceLT, Nat.reduceMul, Nat.reducePow, Nat.reduceLeDiff, Int.reduceToNat, Int.reduceLE, Int.reduceLT, Int.reducePow, GOB, GD, cipC_len z256 z16 z16, instL_net, net_zero, netC_len z256 z16]
  have hk0 : x5.2 ≤ 61 := by
    have b1 := h3.2.2.1 (by omega)
    have b2 := h4.2.2.1 (by omega)
    rcases List.mem_cons.1 h5.2 with h | h
    · omega
    · rcases List.mem_cons.1 h with h | h
      · omega
      · rw [List.mem_singleton] at h; omega
  have hq5 := h5.1
  generalize x5.2 = k0 at *
  generalize x5.1 = q5 at *
  refine kLoop_of (fun s : Int × (Nat × Nat) × Nat × List UInt8 × Nat => ([.s 0 0 l.length c, .j, .p 1 0, .p 2 0, .j, .p 3 0, .p 4 0, .p 5 0, .s 6 0 s.2.2.1 (s.2.2.1 + s.2.2.2.2), .c (.int .i64 (s.1)), .j, .j, .j, .j, .j, .j, .j, .j, .j, .j, .j, .j, .j, .j, .j, .j, .j, .j, .j, .j, .j, .j, .j, .j, .j, .j, .j, .j, .j, .j, .j, .j, .j, .j, .j, .j, .j, .j, .j, .j, .j, .j, .j, .j, .j, .j, .j, .j, .j, .j, .j], [⟨false, bs l⟩, ⟨true, netC 0 (List.replicate 256 0) (List.replicate 16 0) 0 0⟩, ⟨true, bs (List.replicate 8 0)⟩, ⟨true, sv 0 l.length c s.2.1⟩, ⟨true, netC z b A kd n⟩, ⟨true, bs d⟩, ⟨true, bs s.2.2.2.1 ++ List.replicate (16 * s.2.2.2.2) .j⟩])) (fun s => s.1.toNat) (fun s => okS l s.2.1 ∧ s.1 ≤ 61 ∧ (s.2.2.1 : Int) + max s.1 0 ≤ 61 ∧ s.2.2.2.1.length = 16 * s.2.2.1) (k0, q5, 0, [], 0)
    ⟨hq5, hk0, by simp only; omega, rfl⟩ ⟨[0, 1, 2, 3, 5, 6, 4], by simp [-List.reduceReplicate, LES, sv_ren, sv_ok, bs_nil, renL_net, okL_net]⟩ ?_
  clear hq5 hk0 h3 h4 h5 hq1 hq2
  rintro ⟨k, q, m, L, r⟩ ⟨hq, hk1, hk2, hL⟩
  simp only at hq hk1 hk2 hL
  have hT : ∀ X, List.take (m * 16) (bs L ++ X) = bs L := fun X => by rw [List.take_append_of_le_length (by rw [bs_length]; omega), List.take_of_length_le (by rw [bs_length]; omega)]
  have eR : (List.replicate 1 (bs (List.replicate 16 0))).flatten = bs (List.replicate 16 0) := rfl
  rcases Int.lt_or_le 0 k with h | h
  · have wk : IntKind.i64.wrap (k - 1) = k - 1 := wrap_i64 (by omega) (by omega)
    rcases Nat.eq_zero_or_pos m with h0 | h0
    · simp only [↓VC, VP, TT, Nat.reduceEqDiff, reduceCtorEq, Nat.reduceAdd, Nat.reduceSub, Nat.reduceLT, Nat.reduceMul, Nat.reducePow, Nat.reduceLeDiff, Int.reduceToNat, Int.reduceLE, Int.reduceLT, Int.reducePow, (eq_true h : (k > 0) = True), decide_true, (eq_false (by omega) : ((m : Int) > 0) = False), decide_false]
      refine kCall_M (z_block hc hm hq) (by rfl) [(3, 0), (0, 0)] (by simp [CALL, SCB, SD, nsv, instL_net, okL_net]) (by simp [CALL, SCB, SD, nsv, instL_net, okL_net]) (by simp) (by simp [CALL, SCB, SD, nsv, instL_net, okL_net]) (by simp [okL_bs, okL_room, okL, okV, SD, nsv, instL_net, okL_net]) (by intro x _; simp [keepR, bs_length, SD, nsv, instL_net, okL_net]) (by simp [CALL, SCB, SD, nsv, instL_net, okL_net]) fun x9 h9 => ?_
      obtain ⟨q9, w⟩ := x9
      obtain ⟨hq9, hw⟩ := h9
      simp only at hq9 hw ⊢
      have hT16 : List.take 16 (bs w) = bs w := List.take_of_length_le (by rw [bs_length]; omega)
      have eS : splice (bs (List.replicate 16 0)) 0 (bs w) = bs w := splice_all (by simp [bs_length, hw])
      have eS2 : splB (List.replicate 16 0) 0 w = w := by unfold splB; simp [hw]
      simp (config := { maxSteps := 2000000 }) only [CALL, ↓VC, VP, TT, Nat.reduceEqDiff, reduceCtorEq, Nat.reduceAdd, Nat.reduceSub, Nat.reduceLT, Nat.reduceMul, Nat.reducePow, Nat.reduceLeDiff, Int.reduceToNat, Int.reduceLE, Int.reduceLT, Int.reducePow, GOB, GD, cipC_len z256 z16 z16, instL_net, net_zero, netC_len z256 z16, hw, wk, hT, hT16, eR, eS, eS2, List.length_replicate, bs_append]
      repeat (first | refine ⟨by omega, ?_⟩ | refine ⟨.inr (by omega), ?_⟩ | refine ⟨.inl (by omega), ?_⟩ | refine ⟨.inr trivial, ?_⟩)
      intro r1 c' e1 e2
      obtain rfl : r1 = 16 * (c' - (m + 1)) := by omega
      refine ⟨(k - 1, q9, m + 1, L ++ w, c' - (m + 1)), ⟨hq9, by simp only; omega, by simp only; omega, by simp only [List.length_append]; omega⟩, by simp only; omega, [0, 1, 2, 3, 4, 5, 8], ?_⟩
      simp [-List.reduceReplicate, LES, sv_ren, sv_ok, -List.reduceReplicate, renL_room, okL_room, renL_net, okL_net, show m + 1 + (c' - (m + 1)) = c' by omega]
    · simp only [↓VC, VP, TT, Nat.reduceEqDiff, reduceCtorEq, Nat.reduceAdd, Nat.reduceSub, Nat.reduceLT, Nat.reduceMul, Nat.reducePow, Nat.reduceLeDiff, Int.reduceToNat, Int.reduceLE, Int.reduceLT, Int.reducePow, (eq_true h : (k > 0) = True), decide_true, (eq_true (by omega) : ((m : Int) > 0) = True), netC_len hb hA, ↓net_all hb hA]
      refine kCall_val (c_spec_l06Is z kd n b A hb hA) (by rfl) [] (by simp [CALL, SCB, SD, nsv, instL_net, okL_net]) (by simp [CALL, SCB, SD, nsv, instL_net, okL_net]) (by simp [CALL, SCB, SD, nsv, instL_net, okL_net]) (by simp [okL_bs, okL_room, okL, okV, SD, nsv, instL_net, okL_net]) ?_
      simp (config := { maxSteps := 2000000 }) only [CALL, ↓VC, VP, TT, Nat.reduceEqDiff, reduceCtorEq, Nat.reduceAdd, Nat.reduceSub, Nat.reduceLT, Nat.reduceMul, Nat.reducePow, Nat.reduceLeDiff, Int.reduceToNat, Int.reduceLE, Int.reduceLT, Int.reducePow, GOB, GD, cipC_len z256 z16 z16, instL_net, net_zero, netC_len z256 z16, hd, netC_len hb hA, ↓net_all hb hA]
      cases hB : netB z b A kd n with
      | false =>
        simp (config := { maxSteps := 2000000 }) only [CALL, ↓VC, VP, TT, Nat.reduceEqDiff, reduceCtorEq, Nat.reduceAdd, Nat.reduceSub, Nat.reduceLT, Nat.reduceMul, Nat.reducePow, Nat.reduceLeDiff, Int.reduceToNat, Int.reduceLE, Int.reduceLT, Int.reducePow, GOB, GD, cipC_len z256 z16 z16, instL_net, net_zero, netC_len z256 z16]
        refine kCall_M (z_block hc hm hq) (by rfl) [(3, 0), (0, 0)] (by simp [CALL, SCB, SD, nsv, instL_net, okL_net]) (by simp [CALL, SCB, SD, nsv, instL_net, okL_net]) (by simp) (by simp [CALL, SCB, SD, nsv, instL_net, okL_net]) (by simp [okL_bs, okL_room, okL, okV, SD, nsv, instL_net, okL_net]) (by intro x _; simp [keepR, bs_length, SD, nsv, instL_net, okL_net]) (by simp [CALL, SCB, SD, nsv, instL_net, okL_net]) fun x9 h9 => ?_
        obtain ⟨q9, w⟩ := x9
        obtain ⟨hq9, hw⟩ := h9
        simp only at hq9 hw ⊢
        have hT16 : List.take 16 (bs w) = bs w := List.take_of_length_le (by rw [bs_length]; omega)
        have eS : splice (bs (List.replicate 16 0)) 0 (bs w) = bs w := splice_all (by simp [bs_length, hw])
        have eS2 : splB (List.replicate 16 0) 0 w = w := by unfold splB; simp [hw]
        simp (config := { maxSteps := 2000000 }) only [CALL, ↓VC, VP, TT, Nat.reduceEqDiff, reduceCtorEq, Nat.reduceAdd, Nat.reduceSub, Nat.reduceLT, Nat.reduceMul, Nat.reducePow, Nat.reduceLeDiff, Int.reduceToNat, Int.reduceLE, Int.reduceLT, Int.reducePow, GOB, GD, cipC_len z256 z16 z16, instL_net, net_zero, netC_len z256 z16, hw, wk, hT, hT16, eR, eS, eS2, List.length_replicate, bs_append]
        repeat (first | refine ⟨by omega, ?_⟩ | refine ⟨.inr (by omega), ?_⟩ | refine ⟨.inl (by omega), ?_⟩ | refine ⟨.inr trivial, ?_⟩)
        intro r1 c' e1 e2
        obtain rfl : r1 = 16 * (c' - (m + 1)) := by omega
        refine ⟨(k - 1, q9, m + 1, L ++ w, c' - (m + 1)), ⟨hq9, by simp only; omega, by simp only; omega, by simp only [List.length_append]; omega⟩, by simp only; omega, [0, 1, 2, 3, 4, 5, 8], ?_⟩
        simp [-List.reduceReplicate, LES, sv_ren, sv_ok, -List.reduceReplicate, renL_room, okL_room, renL_net, okL_net, show m + 1 + (c' - (m + 1)) = c' by omega]
      | true =>
        simp (config := { maxSteps := 2000000 }) only [CALL, ↓VC, VP, TT, Nat.reduceEqDiff, reduceCtorEq, Nat.reduceAdd, Nat.reduceSub, Nat.reduceLT, Nat.reduceMul, Nat.reducePow, Nat.reduceLeDiff, Int.reduceToNat, Int.reduceLE, Int.reduceLT, Int.reducePow, GOB, GD, cipC_len z256 z16 z16, instL_net, net_zero, netC_len z256 z16]
        refine kCall_M (d_next hc hm hq 2) (by rfl) [(3, 0), (0, 0)] (by simp [CALL, SCB, SD, nsv, instL_net, okL_net]) (by simp [CALL, SCB, SD, nsv, instL_net, okL_net]) (by simp) (by simp [CALL, SCB, SD, nsv, instL_net, okL_net]) (by simp [okL_bs, okL_room, okL, okV, SD, nsv, instL_net, okL_net]) (by intro x _; simp [keepR, bs_length, SD, nsv, instL_net, okL_net]) (by simp [CALL, SCB, SD, nsv, instL_net, okL_net]) fun x6 h6 => ?_
        obtain ⟨q6, i6⟩ := x6
        obtain ⟨hq6, _⟩ := h6
        simp only at hq6 ⊢
        simp (config := { maxSteps := 2000000 }) only [CALL, ↓VC, VP, TT, Nat.reduceEqDiff, reduceCtorEq, Nat.reduceAdd, Nat.reduceSub, Nat.reduceLT, Nat.reduceMul, Nat.reducePow, Nat.reduceLeDiff, Int.reduceToNat, Int.reduceLE, Int.reduceLT, Int.reducePow, GOB, GD, cipC_len z256 z16 z16, instL_net, net_zero, netC_len z256 z16]
        refine ⟨fun _ => ?_, fun _ => ?_⟩
        · obtain ⟨e, e1, e2, e3, e4, e5⟩ := net_of hb hA hB
          have he : netC z b A kd n = e.cells := by rw [e1, e2, e3, e4, e5]; rfl
          refine kCut_of (fun s : (Nat × Nat) × List UInt8 × Nat => ([.s 0 0 l.length c, .j, .p 1 0, .p 2 0, .j, .p 3 0, .p 4 0, .p 5 0, .s 6 0 (m + 1) (m + 1 + s.2.2), .c (.int .i64 (k)), .j, .j, .j, .j, .j, .j, .j, .j, .j, .j, .j, .j, .j, .j, .j, .j, .j, .j, .j, .j, .j, .j, .j, .j, .j, .j, .j, .j, .j, .j, .j, .j, .j, .j, .j, .j, .j, .j, .j, .j, .j, .j, .j, .j, .j, .j, .j, .j, .j, .j, .j], [⟨false, bs l⟩, ⟨true, netC 0 (List.replicate 256 0) (List.replicate 16 0) 0 0⟩, ⟨true, bs (List.replicate 8 0)⟩, ⟨true, sv 0 l.length c s.1⟩, ⟨true, netC z b A kd n⟩, ⟨true, bs d⟩, ⟨true, bs (L ++ s.2.1) ++ List.replicate (16 * s.2.2) .j⟩])) (fun s => okS l s.1 ∧ s.2.1.length = 16) ?_ (fun s hs => ?_)
          · simp (config := { maxSteps := 4000000 }) only [↓VC, VP, TT, Nat.reduceEqDiff, reduceCtorEq, Nat.reduceAdd, Nat.reduceSub, Nat.reduceLT, Nat.reduceMul, Nat.reducePow, Nat.reduceLeDiff, Int.reduceToNat, Int.reduceLE, Int.reduceLT, Int.reducePow, hd, netC_len hb hA, ↓net_all hb hA, and_self]
            repeat' apply And.intro
            all_goals as_aux_lemma =>
              refine kCall_M (d_next hc hm hq6 (m : Int)) (by rfl) [(3, 0), (0, 0)] (by simp [CALL, SCB, SD, nsv, instL_net, okL_net]) (by simp [CALL, SCB, SD, nsv, instL_net, okL_net]) (by simp) (by simp [CALL, SCB, SD, nsv, instL_net, okL_net]) (by simp [okL_bs, okL_room, okL, okV, SD, nsv, instL_net, okL_net]) (by intro x _; simp [keepR, bs_length, SD, nsv, instL_net, okL_net]) (by simp [CALL, SCB, SD, nsv, instL_net, okL_net]) fun x7 h7 => ?_
              obtain ⟨q7, i7⟩ := x7
              obtain ⟨hq7, g1, g2, _⟩ := h7
              simp only at hq7 g1 g2 ⊢
              have g2 := g2 (by omega)
              obtain ⟨j, rfl⟩ : ∃ j : Nat, i7 = j := ⟨i7.toNat, by omega⟩
              have hj : j < m := by omega
              have hbk := bkA_len hL hj
              have hr := rnd_len (c := e) d (bkA L j) hbk
              have hN := k_spec_rnd e d (bkA L j) hd hbk
              rw [← he] at hN
              have hsub : ∀ (X : List V) (k : V → Prop), vSub (bs L ++ X) (j * 16) 16 k = k (.a (bs (bkA L j))) := fun X k => vSub_bkR hL hj
              have hT16 : List.take 16 (bs (e.rnd d (bkA L j))) = bs (e.rnd d (bkA L j)) := List.take_of_length_le (by rw [bs_length]; omega)
              have eS : splice (bs (List.replicate 16 0)) 0 (bs (e.rnd d (bkA L j))) = bs (e.rnd d (bkA L j)) := splice_all (by simp [bs_length, hr])
              have eS2 : splB (List.replicate 16 0) 0 (e.rnd d (bkA L j)) = e.rnd d (bkA L j) := by unfold splB; simp [hr]
              simp (config := { maxSteps := 2000000 }) only [CALL, ↓VC, VP, TT, Nat.reduceEqDiff, reduceCtorEq, Nat.reduceAdd, Nat.reduceSub, Nat.reduceLT, Nat.reduceMul, Nat.reducePow, Nat.reduceLeDiff, Int.reduceToNat, Int.reduceLE, Int.reduceLT, Int.reducePow, GOB, GD, cipC_len z256 z16 z16, instL_net, net_zero, netC_len z256 z16, hd, ↓hsub, hbk, (eq_true (by omega) : ((j : Int) < (m : Int)) = True), Int.toNat_natCast, netC_len hb hA, ↓net_all hb hA]
              refine kCall_val (hN) (by rfl) [] (by simp [CALL, SCB, SD, nsv, instL_net, okL_net]) (by simp [CALL, SCB, SD, nsv, instL_net, okL_net]) (by simp [CALL, SCB, SD, nsv, instL_net, okL_net]) (by simp [okL_bs, okL_room, okL, okV, SD, nsv, instL_net, okL_net]) ?_
              simp (config := { maxSteps := 2000000 }) only [CALL, ↓VC, VP, TT, Nat.reduceEqDiff, reduceCtorEq, Nat.reduceAdd, Nat.reduceSub, Nat.reduceLT, Nat.reduceMul, Nat.reducePow, Nat.reduceLeDiff, Int.reduceToNat, Int.reduceLE, Int.reduceLT, Int.reducePow, GOB, GD, cipC_len z256 z16 z16, instL_net, net_zero, netC_len z256 z16, hd, hr, hT, hT16, eR, eS, eS2, List.length_replicate, bs_append, netC_len hb hA, ↓net_all hb hA]
              repeat (first | refine ⟨by omega, ?_⟩ | refine ⟨.inr (by omega), ?_⟩ | refine ⟨.inl (by omega), ?_⟩ | refine ⟨.inr trivial, ?_⟩)
              intro r1 c' f1 f2
              obtain rfl : r1 = 16 * (c' - (m + 1)) := by omega
              refine ⟨(q7, e.rnd d (bkA L j), c' - (m + 1)), ⟨hq7, hr⟩, [0, 1, 2, 3, 4, 5, 8], ?_⟩
              simp [-List.reduceReplicate, LES, sv_ren, sv_ok, -List.reduceReplicate, renL_room, okL_room, renL_net, okL_net, show m + 1 + (c' - (m + 1)) = c' by omega]
          · obtain ⟨q7, w, r7⟩ := s
            obtain ⟨hq7, hw⟩ := hs
            simp only at hq7 hw ⊢
            simp only [↓VC, VP, TT, Nat.reduceEqDiff, reduceCtorEq, Nat.reduceAdd, Nat.reduceSub, Nat.reduceLT, Nat.reduceMul, Nat.reducePow, Nat.reduceLeDiff, Int.reduceToNat, Int.reduceLE, Int.reduceLT, Int.reducePow, wk]
            refine ⟨(k - 1, q7, m + 1, L ++ w, r7), ⟨hq7, by simp only; omega, by simp only; omega, by simp only [List.length_append]; omega⟩, by simp only; omega, [0, 1, 2, 3, 4, 5, 6], ?_⟩
            simp [-List.reduceReplicate, LES, sv_ren, sv_ok, -List.reduceReplicate, renL_room, okL_room, renL_net, okL_net]
        · refine kCall_M (z_block hc hm hq6) (by rfl) [(3, 0), (0, 0)] (by simp [CALL, SCB, SD, nsv, instL_net, okL_net]) (by simp [CALL, SCB, SD, nsv, instL_net, okL_net]) (by simp) (by simp [CALL, SCB, SD, nsv, instL_net, okL_net]) (by simp [okL_bs, okL_room, okL, okV, SD, nsv, instL_net, okL_net]) (by intro x _; simp [keepR, bs_length, SD, nsv, instL_net, okL_net]) (by simp [CALL, SCB, SD, nsv, instL_net, okL_net]) fun x9 h9 => ?_
          obtain ⟨q9, w⟩ := x9
          obtain ⟨hq9, hw⟩ := h9
          simp only at hq9 hw ⊢
          have hT16 : List.take 16 (bs w) = bs w := List.take_of_length_le (by rw [bs_length]; omega)
          have eS : splice (bs (List.replicate 16 0)) 0 (bs w) = bs w := splice_all (by simp [bs_length, hw])
          have eS2 : splB (List.replicate 16 0) 0 w = w := by unfold splB; simp [hw]
          simp (config := { maxSteps := 2000000 }) only [CALL, ↓VC, VP, TT, Nat.reduceEqDiff, reduceCtorEq, Nat.reduceAdd, Nat.reduceSub, Nat.reduceLT, Nat.reduceMul, Nat.reducePow, Nat.reduceLeDiff, Int.reduceToNat, Int.reduceLE, Int.reduceLT, Int.reducePow, GOB, GD, cipC_len z256 z16 z16, instL_net, net_zero, netC_len z256 z16, hw, wk, hT, hT16, eR, eS, eS2, List.length_replicate, bs_append]
          repeat (first | refine ⟨by omega, ?_⟩ | refine ⟨.inr (by omega), ?_⟩ | refine ⟨.inl (by omega), ?_⟩ | refine ⟨.inr trivial, ?_⟩)
          intro r1 c' e1 e2
          obtain rfl : r1 = 16 * (c' - (m + 1)) := by omega
          refine ⟨(k - 1, q9, m + 1, L ++ w, c' - (m + 1)), ⟨hq9, by simp only; omega, by simp only; omega, by simp only [List.length_append]; omega⟩, by simp only; omega, [0, 1, 2, 3, 4, 5, 8], ?_⟩
          simp [-List.reduceReplicate, LES, sv_ren, sv_ok, -List.reduceReplicate, renL_room, okL_room, renL_net, okL_net, show m + 1 + (c' - (m + 1)) = c' by omega]
  · simp only [↓VC, VP, TT, Nat.reduceEqDiff, reduceCtorEq, Nat.reduceAdd, Nat.reduceSub, Nat.reduceLT, Nat.reduceMul, Nat.reducePow, Nat.reduceLeDiff, Int.reduceToNat, Int.reduceLE, Int.reduceLT, Int.reducePow, (eq_false (by omega) : (k > 0) = False), decide_false, hd, netC_len hb hA, ↓net_all hb hA, ↓net_put_all z256 z16 hb hA, and_self]
    repeat' apply And.intro
    all_goals exact ⟨_, _, [0, 6], ⟨(⟨z, b, A, kd, n⟩, d, m, L, r), ⟨⟨hb, hA⟩, hd, by simp only; omega, hL⟩, rfl, rfl⟩, by simp [-List.reduceReplicate, LES, DN.cells, renL_room, okL_room, renL_net, okL_net]⟩
end
end Go.Proofs.YtjakgjelnbpmnaaGreat

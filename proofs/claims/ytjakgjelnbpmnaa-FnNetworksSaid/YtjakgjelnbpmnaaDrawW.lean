import Derived.Test.YtjakgjelnbpmnaaDrawU
import Derived.Test.YtjakgjelnbpmnaaNetB
/- Draws of networks with keys. -/
set_option linter.unusedSimpArgs false
set_option linter.unusedVariables false
namespace Go.Proofs.Ytjakgjelnbpmnaa
open Go Go.Vc
set_option maxRecDepth 10000
set_option maxHeartbeats 40000000
section
variable {f r kd : Int} {box A : List UInt8} {k : V → Prop} {kl : List V → Prop}
theorem net_at_box {x : Nat} (hb : box.length = 256) (hx : x < 256) : vGet (netC f box A kd r) (1 + x) k = k (.c (.int .u8 ((box.getD x 0).toNat : Int))) := by
  unfold netC
  rw [vGet_oneAdd, vGet_appL (by rw [bs_length, hb]; exact hx), vGet_bs]
  exact propext ⟨fun y => y.2, fun y => ⟨by omega, y⟩⟩
theorem net_put_box1 {x : Nat} {n : Int} (hb : box.length = 256) (hx : x < 256) (hn : inU8 n) : vPut (netC f box A kd r) (1 + x) [.c (.int .u8 n)] kl = kl (netC f (box.set x (UInt8.ofInt n)) A kd r) := by
  unfold netC
  rw [vPut_oneAdd, vPut_appL (by rw [bs_length, hb]; show x + 1 ≤ 256; omega), vPut_bs hn, hb]
  simp [hx]
theorem net_sub_mix {o n : Nat} (hb : box.length = 256) (hA : A.length = 16) (h : o + n ≤ 16) : vSub (netC f box A kd r) (257 + o) n k = k (.a (bs ((A.drop o).take n))) := by
  unfold netC
  rw [show 257 + o = 1 + (256 + o) by omega, vSub_oneAdd, vSub_appR (by rw [bs_length, hb]; omega), bs_length, hb, Nat.add_sub_cancel_left, vSub_appL (by rw [bs_length, hA]; exact h), vSub_bs]
  exact propext ⟨fun y => y.2, fun y => ⟨by omega, y⟩⟩
theorem net_put_mixS {o : Nat} {w : List UInt8} (hb : box.length = 256) (hA : A.length = 16) (h : o + w.length ≤ 16) : vPut (netC f box A kd r) (257 + o) (bs w) kl = kl (netC f box (splB A o w) kd r) := by
  unfold netC
  rw [show 257 + o = 1 + (256 + o) by omega, vPut_oneAdd, vPut_appR (by rw [bs_length, hb]; omega), bs_length, hb, Nat.add_sub_cancel_left, vPut_appL (by rw [bs_length, bs_length, hA]; exact h), vPut_bss]
  exact propext ⟨fun y => y.2, fun y => ⟨by omega, y⟩⟩
theorem net_put_all {f' r' kd' : Int} {box' A' : List UInt8} (hb : box.length = 256) (hA : A.length = 16) (hb' : box'.length = 256) (hA' : A'.length = 16) : vPut (netC f box A kd r) 0 (netC f' box' A' kd' r') kl = kl (netC f' box' A' kd' r') := vPut_all (by rw [netC_len hb hA, netC_len hb' hA'])
end
section
variable {l : List UInt8} {c : Nat} {q : Nat × Nat}
theorem d_netS (hc : l.length ≤ c) (hm : l.length ≤ 4096) (hq : okS l q) : LC Try.prog 27 [.p 0 0] [⟨true, sv 1 l.length c q⟩, ⟨false, bs l⟩] (RetM (fun x : (Nat × Nat) × DN => okS l x.1 ∧ x.2.ok) fun x => (.a x.2.cells, [⟨true, sv 1 l.length c x.1⟩, ⟨false, bs l⟩], [])) := by
  refine LC_of (X := XX (fun _ => .nil) (fun _ => []) [27, 28, 29, 44, 47, 52, 53, 54, 55, 74, 78, 88, 89, 99] 2) envOK Try.func27 (by kernel_rfl) (by kernel_rfl) rfl (Nat.le_of_ble_eq_true (by kernel_rfl)) ?_
  simp only [kFun, Try.f27, List.length_nil, List.length_cons, Nat.sub_zero, Nat.reduceSub, Nat.reduceAdd, List.nil_append, List.cons_append, List.replicate_succ, List.replicate_zero]
  simp only [XX, ↓VC, VP, TT, Nat.reduceEqDiff, reduceCtorEq, Nat.reduceAdd, Nat.reduceSub, Nat.reduceLT, Nat.reduceMul, Nat.reducePow, Nat.reduceLeDiff, Int.reduceToNat, Int.reduceLE, Int.reduceLT, Int.reducePow, net_zero, netC_len z256 z16]
  refine kCall_M (d_net hc hm hq) (by rfl) [(0, 0), (1, 0)] (by simp [CALL, SCB, SD, nsv, instL_net, okL_net]) (by simp [CALL, SCB, SD, nsv, instL_net, okL_net]) (by simp) (by simp [CALL, SCB, SD, nsv, instL_net, okL_net]) (by simp [okL_bs, okL_room, okL, okV, SD, nsv, instL_net, okL_net]) (by intro x _; simp [keepR, bs_length, SD, nsv, instL_net, okL_net]) (by simp [CALL, SCB, SD, nsv, instL_net, okL_net]) fun x1 h1 => ?_
  obtain ⟨q1, ⟨z, b, A, k, n⟩⟩ := x1
  obtain ⟨hq1, hb, hA⟩ := h1
  simp only [DN.cells] at hq1 hb hA ⊢
  simp (config := { maxSteps := 2000000 }) only [CALL, ↓VC, VP, TT, Nat.reduceEqDiff, reduceCtorEq, Nat.reduceAdd, Nat.reduceSub, Nat.reduceLT, Nat.reduceMul, Nat.reducePow, Nat.reduceLeDiff, Int.reduceToNat, Int.reduceLE, Int.reduceLT, Int.reducePow, GOB, GD, cipC_len z256 z16 z16, instL_net, net_zero, netC_len z256 z16, netC_len hb hA]
  have hr : ((A.drop 4).take 4).length = 4 := by simp [hA]
  have hA2 : (splB A 0 ((A.drop 4).take 4)).length = 16 := by rw [splB_length (by omega), hA]
  have hb2 : ∀ u, (b.set 0 u).length = 256 := fun u => by rw [List.length_set, hb]
  have e1 : ∀ kk : V → Prop, vGet (netC z b A k n) 2 kk = kk (.c (.int .u8 ((b.getD 1 0).toNat : Int))) := fun kk => net_at_box (x := 1) hb (by omega)
  have e2 : ∀ (u : UInt8) (kl : List V → Prop), vPut (netC z b A k n) 1 [.c (.int .u8 (u.toNat : Int))] kl = kl (netC z (b.set 0 u) A k n) := fun u kl => by
    have := net_put_box1 (f := z) (r := n) (A := A) (kd := k) (kl := kl) (x := 0) hb (by omega) (of_eq_true (inU8_toNat u))
    rw [ofInt_toNat] at this; exact this
  have e3 : ∀ kk : V → Prop, vSub (netC z b A k n) 261 4 kk = kk (.a (bs ((A.drop 4).take 4))) := fun kk => net_sub_mix (o := 4) hb hA (by omega)
  have e4 : ∀ kl : List V → Prop, vPut (netC z b A k n) 257 (bs ((A.drop 4).take 4)) kl = kl (netC z b (splB A 0 ((A.drop 4).take 4)) k n) := fun kl => net_put_mixS (o := 0) hb hA (by omega)
  refine kCall_M (d_next hc hm hq1 40) (by rfl) [(0, 0), (1, 0)] (by simp [CALL, SCB, SD, nsv, instL_net, okL_net]) (by simp [CALL, SCB, SD, nsv, instL_net, okL_net]) (by simp) (by simp [CALL, SCB, SD, nsv, instL_net, okL_net]) (by simp [okL_bs, okL_room, okL, okV, SD, nsv, instL_net, okL_net]) (by intro x _; simp [keepR, bs_length, SD, nsv, instL_net, okL_net]) (by simp [CALL, SCB, SD, nsv, instL_net, okL_net]) fun x2 h2 => ?_
  simp (config := { maxSteps := 2000000 }) only [CALL, ↓VC, VP, TT, Nat.reduceEqDiff, reduceCtorEq, Nat.reduceAdd, Nat.reduceSub, Nat.reduceLT, Nat.reduceMul, Nat.reducePow, Nat.reduceLeDiff, Int.reduceToNat, Int.reduceLE, Int.reduceLT, Int.reducePow, GOB, GD, cipC_len z256 z16 z16, instL_net, net_zero, netC_len z256 z16, netC_len hb hA, netC_len (hb2 _) hA, netC_len hb hA2, ↓e1, ↓e2, ↓e3, ↓e4, bs_length, hr, ↓netw_field, ↓net_put_all z256 z16 hb hA, ↓net_put_all z256 z16 (hb2 _) hA, ↓net_put_all z256 z16 hb hA2, ↓net_all hb hA, ↓net_all (hb2 _) hA, ↓net_all hb hA2]
  have hq2 := h2.1
  refine ⟨fun _ => ?_, fun _ => ⟨fun _ => ?_, fun _ => ⟨fun _ => ?_, fun _ => ⟨fun _ => ?_, fun _ => ⟨fun _ => ?_, fun _ => ?_⟩⟩⟩⟩⟩
  · exact ⟨_, _, [0, 1], ⟨(x2.1, ⟨256, b, A, k, n⟩), ⟨hq2, hb, hA⟩, rfl, rfl⟩, by simp [-List.reduceReplicate, LES, sv_ren, sv_ok, DN.cells, renL_net, okL_net]⟩
  · try repeat (refine ⟨by first | omega | (simp; done) | decide, ?_⟩)
    exact ⟨_, _, [0, 1], ⟨(x2.1, ⟨z, b.set 0 (b.getD 1 0), A, k, n⟩), ⟨hq2, hb2 _, hA⟩, rfl, rfl⟩, by simp [-List.reduceReplicate, LES, sv_ren, sv_ok, DN.cells, renL_net, okL_net]⟩
  · try repeat (refine ⟨by first | omega | (simp; done) | decide, ?_⟩)
    exact ⟨_, _, [0, 1], ⟨(x2.1, ⟨z, b, splB A 0 ((A.drop 4).take 4), k, n⟩), ⟨hq2, hb, hA2⟩, rfl, rfl⟩, by simp [-List.reduceReplicate, LES, sv_ren, sv_ok, DN.cells, renL_net, okL_net]⟩
  · refine kCall_M (d_pick hc hm hq2 [-1, 3] 2 (by simp) (by simp)) (by rfl) [(0, 0), (1, 0), (4, 0)] (by simp [CALL, SCB, SD, nsv, instL_net, okL_net, splice]) (by simp [CALL, SCB, SD, nsv, instL_net, okL_net, splice]) (by simp) (by simp [CALL, SCB, SD, nsv, instL_net, okL_net, splice]) (by simp [okL_bs, okL_room, okL, okV, SD, nsv, instL_net, okL_net, splice]) (by intro x _; simp [keepR, bs_length, SD, nsv, instL_net, okL_net, splice]) (by simp [CALL, SCB, SD, nsv, instL_net, okL_net, splice]) fun x3 h3 => ?_
    simp (config := { maxSteps := 2000000 }) only [CALL, ↓VC, VP, TT, Nat.reduceEqDiff, reduceCtorEq, Nat.reduceAdd, Nat.reduceSub, Nat.reduceLT, Nat.reduceMul, Nat.reducePow, Nat.reduceLeDiff, Int.reduceToNat, Int.reduceLE, Int.reduceLT, Int.reducePow, GOB, GD, cipC_len z256 z16 z16, instL_net, net_zero, netC_len z256 z16, netC_len hb hA, ↓netw_kind hb hA, ↓net_put_all z256 z16 hb hA, ↓net_all hb hA]
    exact ⟨_, _, [0, 1], ⟨(x3.1, ⟨z, b, A, x3.2, n⟩), ⟨h3.1, hb, hA⟩, rfl, rfl⟩, by simp [-List.reduceReplicate, LES, sv_ren, sv_ok, DN.cells, renL_net, okL_net]⟩
  · refine kCall_M (d_pick hc hm hq2 [0, 41] 2 (by simp) (by simp)) (by rfl) [(0, 0), (1, 0), (4, 0)] (by simp [CALL, SCB, SD, nsv, instL_net, okL_net, splice]) (by simp [CALL, SCB, SD, nsv, instL_net, okL_net, splice]) (by simp) (by simp [CALL, SCB, SD, nsv, instL_net, okL_net, splice]) (by simp [okL_bs, okL_room, okL, okV, SD, nsv, instL_net, okL_net, splice]) (by intro x _; simp [keepR, bs_length, SD, nsv, instL_net, okL_net, splice]) (by simp [CALL, SCB, SD, nsv, instL_net, okL_net, splice]) fun x3 h3 => ?_
    simp (config := { maxSteps := 2000000 }) only [CALL, ↓VC, VP, TT, Nat.reduceEqDiff, reduceCtorEq, Nat.reduceAdd, Nat.reduceSub, Nat.reduceLT, Nat.reduceMul, Nat.reducePow, Nat.reduceLeDiff, Int.reduceToNat, Int.reduceLE, Int.reduceLT, Int.reducePow, GOB, GD, cipC_len z256 z16 z16, instL_net, net_zero, netC_len z256 z16, netC_len hb hA, ↓netw_rd hb hA, ↓net_put_all z256 z16 hb hA, ↓net_all hb hA]
    exact ⟨_, _, [0, 1], ⟨(x3.1, ⟨z, b, A, k, x3.2⟩), ⟨h3.1, hb, hA⟩, rfl, rfl⟩, by simp [-List.reduceReplicate, LES, sv_ren, sv_ok, DN.cells, renL_net, okL_net]⟩
  · exact ⟨_, _, [0, 1], ⟨(x2.1, ⟨z, b, A, k, n⟩), ⟨hq2, hb, hA⟩, rfl, rfl⟩, by simp [-List.reduceReplicate, LES, sv_ren, sv_ok, DN.cells, renL_net, okL_net]⟩
theorem d_half (hc : l.length ≤ c) (hm : l.length ≤ 4096) (hq : okS l q) : LC Try.prog 47 [.p 0 0] [⟨true, sv 1 l.length c q⟩, ⟨false, bs l⟩] (RetM (fun x : (Nat × Nat) × List UInt8 => okS l x.1 ∧ x.2.length = 8) fun x => (.a (bs x.2), [⟨true, sv 1 l.length c x.1⟩, ⟨false, bs l⟩], [])) := by
  refine LC_of (X := XX (fun _ => .nil) (fun _ => []) [27, 28, 29, 44, 47, 52, 53, 54, 55, 74, 78, 88, 89, 99] 2) envOK Try.func47 (by kernel_rfl) (by kernel_rfl) rfl (Nat.le_of_ble_eq_true (by kernel_rfl)) ?_
  simp only [kFun, Try.f47, List.length_nil, List.length_cons, Nat.sub_zero, Nat.reduceSub, Nat.reduceAdd, List.nil_append, List.cons_append, List.replicate_succ, List.replicate_zero]
  simp only [XX, ↓VC, VP, TT, Nat.reduceEqDiff, reduceCtorEq, Nat.reduceAdd, Nat.reduceSub, Nat.reduceLT, Nat.reduceMul, Nat.reducePow, Nat.reduceLeDiff, Int.reduceToNat, Int.reduceLE, Int.reduceLT, Int.reducePow]
  refine kCall_M (z_block hc hm hq) (by rfl) [(0, 0), (1, 0)] (by simp [CALL, SCB, SD, nsv, instL_net, okL_net]) (by simp [CALL, SCB, SD, nsv, instL_net, okL_net]) (by simp) (by simp [CALL, SCB, SD, nsv, instL_net, okL_net]) (by simp [okL_bs, okL_room, okL, okV, SD, nsv, instL_net, okL_net]) (by intro x _; simp [keepR, bs_length, SD, nsv, instL_net, okL_net]) (by simp [CALL, SCB, SD, nsv, instL_net, okL_net]) fun x1 h1 => ?_
  obtain ⟨q1, b⟩ := x1
  obtain ⟨hq1, hb⟩ := h1
  simp only at hq1 hb ⊢
  have h1 := take8_len hb
  have h2 := drop8_len hb
  simp (config := { maxSteps := 2000000 }) only [CALL, ↓VC, VP, TT, Nat.reduceEqDiff, reduceCtorEq, Nat.reduceAdd, Nat.reduceSub, Nat.reduceLT, Nat.reduceMul, Nat.reducePow, Nat.reduceLeDiff, Int.reduceToNat, Int.reduceLE, Int.reduceLT, Int.reducePow, GOB, GD, cipC_len z256 z16 z16, instL_net, net_zero, netC_len z256 z16, hb]
  refine kCall_val (c_spec_l06Halves b hb) (by rfl) [] (by simp [CALL, SCB, SD, nsv, instL_net, okL_net, hb]) (by simp [CALL, SCB, SD, nsv, instL_net, okL_net, hb]) (by simp [CALL, SCB, SD, nsv, instL_net, okL_net, hb]) (by simp [okL_bs, okL_room, okL, okV, SD, nsv, instL_net, okL_net, hb]) ?_
  simp (config := { maxSteps := 2000000 }) only [CALL, ↓VC, VP, TT, Nat.reduceEqDiff, reduceCtorEq, Nat.reduceAdd, Nat.reduceSub, Nat.reduceLT, Nat.reduceMul, Nat.reducePow, Nat.reduceLeDiff, Int.reduceToNat, Int.reduceLE, Int.reduceLT, Int.reducePow, GOB, GD, cipC_len z256 z16 z16, instL_net, net_zero, netC_len z256 z16, h1, h2]
  exact ⟨_, _, [0, 1], ⟨(q1, b.take 8), ⟨hq1, h1⟩, rfl, rfl⟩, by simp [-List.reduceReplicate, LES, sv_ren, sv_ok]⟩
theorem hf_app {D h : List UInt8} {n r' : Nat} : bs D ++ bs h ++ List.replicate r' V.j = bs (D ++ h) ++ List.replicate r' V.j := by rw [bs_append]
theorem hf_first {D : List UInt8} {n : Nat} {X : List V} {k : V → Prop} (hD : D.length = 8 * n) (h : 0 < n) : vSub (bs D ++ X) 0 8 k = k (.a (bs (D.take 8))) := by
  rw [vSub_appL (by rw [bs_length]; omega), vSub_bs]
  exact propext ⟨fun x => x.2, fun x => ⟨by omega, x⟩⟩
/-- Keys that were drawn: all that lie there, where the slice begins, how many they are, its room. -/
theorem d_keys (hc : l.length ≤ c) (hm : l.length ≤ 4096) (hq : okS l q) (x0 : DN) (hx0 : x0.ok) : LC Try.prog 28 [.p 0 0, .a x0.cells] [⟨true, sv 1 l.length c q⟩, ⟨false, bs l⟩] (RetM (fun x : (Nat × Nat) × Nat × Nat × List UInt8 × Nat => okS l x.1 ∧ x.2.1 ≤ 1 ∧ x.2.2.1 ≤ 100 ∧ x.2.2.2.1.length = 8 * (x.2.1 + x.2.2.1)) fun x => (.s 2 (8 * x.2.1) x.2.2.1 (x.2.2.1 + x.2.2.2.2), [⟨true, sv 1 l.length c x.1⟩, ⟨false, bs l⟩], [⟨true, bs x.2.2.2.1 ++ List.replicate (8 * x.2.2.2.2) .j⟩])) := by
  obtain ⟨z, b, A, k, n⟩ := x0
  obtain ⟨hb, hA⟩ := hx0
  simp only [DN.cells] at hb hA ⊢
  refine LC_of (X := XX (fun _ => .nil) (fun _ => []) [27, 28, 29, 44, 47, 52, 53, 54, 55, 74, 78, 88, 89, 99] 2) envOK Try.func28 (by kernel_rfl) (by kernel_rfl) rfl (Nat.le_of_ble_eq_true (by kernel_rfl)) ?_
  simp only [kFun, Try.f28, List.length_nil, List.length_cons, Nat.sub_zero, Nat.reduceSub, Nat.reduceAdd, List.nil_append, List.cons_append, List.replicate_succ, List.replicate_zero]
  simp only [XX, ↓VC, VP, TT, Nat.reduceEqDiff, reduceCtorEq, Nat.reduceAdd, Nat.reduceSub, Nat.reduceLT, Nat.reduceMul, Nat.reducePow, Nat.reduceLeDiff, Int.reduceToNat, Int.reduceLE, Int.reduceLT, Int.reducePow, netC_len hb hA, ↓net_rd hb hA]
  refine kLoop_of (fun s : Int × (Nat × Nat) × Nat × List UInt8 × Nat => ([.p 0 0, .j, .j, .j, .j, .s 2 0 s.2.2.1 (s.2.2.1 + s.2.2.2.2), .c (.int .i64 (s.1)), .j, .j, .j, .j, .j, .j, .j, .j, .j, .j, .j, .j, .j, .j, .j, .j, .j, .j, .j, .j, .j, .j, .j, .j, .j, .j, .j, .j, .j, .j, .j, .j, .j, .j, .j, .j, .j, .j], [⟨true, sv 1 l.length c s.2.1⟩, ⟨false, bs l⟩, ⟨true, bs s.2.2.2.1 ++ List.replicate (8 * s.2.2.2.2) .j⟩])) (fun s => s.1.toNat) (fun s => okS l s.2.1 ∧ s.1 ≤ 41 ∧ (s.2.2.1 : Int) + max s.1 0 ≤ 41 ∧ s.2.2.2.1.length = 8 * s.2.2.1) (min n 41, q, 0, [], 0)
    ⟨hq, by simp only; omega, by simp only; omega, rfl⟩ ⟨[0, 1, 3], by simp [-List.reduceReplicate, LES, sv_ren, sv_ok, bs_nil]⟩ ?_
  rintro ⟨k, q, m, D, r⟩ ⟨hq, hk1, hk2, hD⟩
  simp only at hq hk1 hk2 hD
  have hT : ∀ X, List.take (m * 8) (bs D ++ X) = bs D := fun X => by rw [List.take_append_of_le_length (by rw [bs_length]; omega), List.take_of_length_le (by rw [bs_length]; omega)]
  rcases Int.lt_or_le 0 k with h | h
  · have wk : IntKind.i64.wrap (k - 1) = k - 1 := wrap_i64 (by omega) (by omega)
    rcases Nat.eq_zero_or_pos m with h0 | h0
    · simp only [↓VC, VP, TT, Nat.reduceEqDiff, reduceCtorEq, Nat.reduceAdd, Nat.reduceSub, Nat.reduceLT, Nat.reduceMul, Nat.reducePow, Nat.reduceLeDiff, Int.reduceToNat, Int.reduceLE, Int.reduceLT, Int.reducePow, (eq_true h : (k > 0) = True), decide_true, (eq_false (by omega) : ((m : Int) > 0) = False), decide_false]
      refine kCall_M (d_half hc hm hq) (by rfl) [(0, 0), (1, 0)] (by simp [CALL, SCB, SD, nsv, instL_net, okL_net]) (by simp [CALL, SCB, SD, nsv, instL_net, okL_net]) (by simp) (by simp [CALL, SCB, SD, nsv, instL_net, okL_net]) (by simp [okL_bs, okL_room, okL, okV, SD, nsv, instL_net, okL_net]) (by intro x _; simp [keepR, bs_length, SD, nsv, instL_net, okL_net]) (by simp [CALL, SCB, SD, nsv, instL_net, okL_net]) fun x2 h2 => ?_
      obtain ⟨q2, w⟩ := x2
      obtain ⟨hq2, hw⟩ := h2
      simp only at hq2 hw ⊢
      have hT8 : List.take 8 (bs w) = bs w := List.take_of_length_le (by rw [bs_length]; omega)
      have eR : (List.replicate 1 (bs (List.replicate 8 0))).flatten = bs (List.replicate 8 0) := rfl
      have eS : splice (bs (List.replicate 8 0)) 0 (bs w) = bs w := splice_all (by simp [bs_length, hw])
      have eS2 : splB (List.replicate 8 0) 0 w = w := by unfold splB; simp [hw]
      simp (config := { maxSteps := 2000000 }) only [CALL, ↓VC, VP, TT, Nat.reduceEqDiff, reduceCtorEq, Nat.reduceAdd, Nat.reduceSub, Nat.reduceLT, Nat.reduceMul, Nat.reducePow, Nat.reduceLeDiff, Int.reduceToNat, Int.reduceLE, Int.reduceLT, Int.reducePow, GOB, GD, cipC_len z256 z16 z16, instL_net, net_zero, netC_len z256 z16, hw, wk, hT, hT8, eR, eS, eS2, List.length_replicate, bs_append]
      repeat (first | refine ⟨by omega, ?_⟩ | refine ⟨.inr (by omega), ?_⟩ | refine ⟨.inr trivial, ?_⟩)
      intro r1 c' e1 e2
      obtain rfl : r1 = 8 * (c' - (m + 1)) := by omega
      refine ⟨(k - 1, q2, m + 1, D ++ w, c' - (m + 1)), ⟨hq2, by simp only; omega, by simp only; omega, by simp only [List.length_append]; omega⟩, by simp only; omega, [0, 1, 4], ?_⟩
      simp [-List.reduceReplicate, LES, sv_ren, sv_ok, -List.reduceReplicate, show m + 1 + (c' - (m + 1)) = c' by omega]
    · simp only [↓VC, VP, TT, Nat.reduceEqDiff, reduceCtorEq, Nat.reduceAdd, Nat.reduceSub, Nat.reduceLT, Nat.reduceMul, Nat.reducePow, Nat.reduceLeDiff, Int.reduceToNat, Int.reduceLE, Int.reduceLT, Int.reducePow, (eq_true h : (k > 0) = True), decide_true, (eq_true (by omega) : ((m : Int) > 0) = True)]
      have hw : (D.take 8).length = 8 := by rw [List.length_take]; omega
      have hT8 : List.take 8 (bs (D.take 8)) = bs (D.take 8) := List.take_of_length_le (by rw [bs_length]; omega)
      have eR : (List.replicate 1 (bs (List.replicate 8 0))).flatten = bs (List.replicate 8 0) := rfl
      have eS : splice (bs (List.replicate 8 0)) 0 (bs (D.take 8)) = bs (D.take 8) := splice_all (by simp only [bs_length, hw, List.length_replicate])
      have eS2 : splB (List.replicate 8 0) 0 (D.take 8) = D.take 8 := by unfold splB; simp [hw]
      refine kCall_M (d_next hc hm hq 3) (by rfl) [(0, 0), (1, 0)] (by simp [CALL, SCB, SD, nsv, instL_net, okL_net]) (by simp [CALL, SCB, SD, nsv, instL_net, okL_net]) (by simp) (by simp [CALL, SCB, SD, nsv, instL_net, okL_net]) (by simp [okL_bs, okL_room, okL, okV, SD, nsv, instL_net, okL_net]) (by intro x _; simp [keepR, bs_length, SD, nsv, instL_net, okL_net]) (by simp [CALL, SCB, SD, nsv, instL_net, okL_net]) fun x1 h1 => ?_
      simp (config := { maxSteps := 2000000 }) only [CALL, ↓VC, VP, TT, Nat.reduceEqDiff, reduceCtorEq, Nat.reduceAdd, Nat.reduceSub, Nat.reduceLT, Nat.reduceMul, Nat.reducePow, Nat.reduceLeDiff, Int.reduceToNat, Int.reduceLE, Int.reduceLT, Int.reducePow, GOB, GD, cipC_len z256 z16 z16, instL_net, net_zero, netC_len z256 z16, ↓hf_first hD h0, wk, hT, hw, hT8, eR, eS, eS2, List.length_replicate, bs_append]
      refine ⟨fun _ => ?_, fun _ => ?_⟩
      · try refine ⟨by omega, ?_⟩
        repeat (first | refine ⟨by omega, ?_⟩ | refine ⟨.inr (by omega), ?_⟩ | refine ⟨.inr trivial, ?_⟩)
        intro r1 c' e1 e2
        obtain rfl : r1 = 8 * (c' - (m + 1)) := by omega
        refine ⟨(k - 1, x1.1, m + 1, D ++ D.take 8, c' - (m + 1)), ⟨h1.1, by simp only; omega, by simp only; omega, by simp only [List.length_append]; omega⟩, by simp only; omega, [0, 1, 4], ?_⟩
        simp [-List.reduceReplicate, LES, sv_ren, sv_ok, -List.reduceReplicate, show m + 1 + (c' - (m + 1)) = c' by omega]
      · skip
        refine kCall_M (d_half hc hm h1.1) (by rfl) [(0, 0), (1, 0)] (by simp [CALL, SCB, SD, nsv, instL_net, okL_net]) (by simp [CALL, SCB, SD, nsv, instL_net, okL_net]) (by simp) (by simp [CALL, SCB, SD, nsv, instL_net, okL_net]) (by simp [okL_bs, okL_room, okL, okV, SD, nsv, instL_net, okL_net]) (by intro x _; simp [keepR, bs_length, SD, nsv, instL_net, okL_net]) (by simp [CALL, SCB, SD, nsv, instL_net, okL_net]) fun x2 h2 => ?_
        obtain ⟨q2, w⟩ := x2
        obtain ⟨hq2, hw⟩ := h2
        simp only at hq2 hw ⊢
        have hT8 : List.take 8 (bs w) = bs w := List.take_of_length_le (by rw [bs_length]; omega)
        have eR : (List.replicate 1 (bs (List.replicate 8 0))).flatten = bs (List.replicate 8 0) := rfl
        have eS : splice (bs (List.replicate 8 0)) 0 (bs w) = bs w := splice_all (by simp [bs_length, hw])
        have eS2 : splB (List.replicate 8 0) 0 w = w := by unfold splB; simp [hw]
        simp (config := { maxSteps := 2000000 }) only [CALL, ↓VC, VP, TT, Nat.reduceEqDiff, reduceCtorEq, Nat.reduceAdd, Nat.reduceSub, Nat.reduceLT, Nat.reduceMul, Nat.reducePow, Nat.reduceLeDiff, Int.reduceToNat, Int.reduceLE, Int.reduceLT, Int.reducePow, GOB, GD, cipC_len z256 z16 z16, instL_net, net_zero, netC_len z256 z16, hw, wk, hT, hT8, eR, eS, eS2, List.length_replicate, bs_append]
        repeat (first | refine ⟨by omega, ?_⟩ | refine ⟨.inr (by omega), ?_⟩ | refine ⟨.inr trivial, ?_⟩)
        intro r1 c' e1 e2
        obtain rfl : r1 = 8 * (c' - (m + 1)) := by omega
        refine ⟨(k - 1, q2, m + 1, D ++ w, c' - (m + 1)), ⟨hq2, by simp only; omega, by simp only; omega, by simp only [List.length_append]; omega⟩, by simp only; omega, [0, 1, 4], ?_⟩
        simp [-List.reduceReplicate, LES, sv_ren, sv_ok, -List.reduceReplicate, show m + 1 + (c' - (m + 1)) = c' by omega]
  · rcases Nat.eq_zero_or_pos m with h0 | h0
    · simp only [↓VC, VP, TT, Nat.reduceEqDiff, reduceCtorEq, Nat.reduceAdd, Nat.reduceSub, Nat.reduceLT, Nat.reduceMul, Nat.reducePow, Nat.reduceLeDiff, Int.reduceToNat, Int.reduceLE, Int.reduceLT, Int.reducePow, (eq_false (by omega) : (k > 0) = False), decide_false, (eq_false (by omega) : ((m : Int) > 0) = False)]
      exact ⟨_, _, [0, 1, 2], ⟨(q, 0, m, D, r), ⟨hq, by simp only; omega, by simp only; omega, by simp only; omega⟩, rfl, rfl⟩, by simp [-List.reduceReplicate, LES, sv_ren, sv_ok]⟩
    · simp only [↓VC, VP, TT, Nat.reduceEqDiff, reduceCtorEq, Nat.reduceAdd, Nat.reduceSub, Nat.reduceLT, Nat.reduceMul, Nat.reducePow, Nat.reduceLeDiff, Int.reduceToNat, Int.reduceLE, Int.reduceLT, Int.reducePow, (eq_false (by omega) : (k > 0) = False), decide_false, (eq_true (by omega) : ((m : Int) > 0) = True), decide_true]
      refine kCall_M (d_next hc hm hq 20) (by rfl) [(0, 0), (1, 0)] (by simp [CALL, SCB, SD, nsv, instL_net, okL_net]) (by simp [CALL, SCB, SD, nsv, instL_net, okL_net]) (by simp) (by simp [CALL, SCB, SD, nsv, instL_net, okL_net]) (by simp [okL_bs, okL_room, okL, okV, SD, nsv, instL_net, okL_net]) (by intro x _; simp [keepR, bs_length, SD, nsv, instL_net, okL_net]) (by simp [CALL, SCB, SD, nsv, instL_net, okL_net]) fun x1 h1 => ?_
      simp (config := { maxSteps := 2000000 }) only [CALL, ↓VC, VP, TT, Nat.reduceEqDiff, reduceCtorEq, Nat.reduceAdd, Nat.reduceSub, Nat.reduceLT, Nat.reduceMul, Nat.reducePow, Nat.reduceLeDiff, Int.reduceToNat, Int.reduceLE, Int.reduceLT, Int.reducePow, GOB, GD, cipC_len z256 z16 z16, instL_net, net_zero, netC_len z256 z16]
      refine ⟨fun _ => ?_, fun _ => ?_⟩
      · try repeat (refine ⟨by first | omega | (simp; done) | decide, ?_⟩)
        refine ⟨_, _, [0, 1, 2], ⟨(x1.1, 1, m - 1, D, r), ⟨h1.1, by simp only; omega, by simp only; omega, by simp only; omega⟩, rfl, rfl⟩, ?_⟩
        simp [-List.reduceReplicate, LES, sv_ren, sv_ok, show m - 1 + r = m + r - 1 by omega]
      · exact ⟨_, _, [0, 1, 2], ⟨(x1.1, 0, m, D, r), ⟨h1.1, by simp only; omega, by simp only; omega, by simp only; omega⟩, rfl, rfl⟩, by simp [-List.reduceReplicate, LES, sv_ren, sv_ok]⟩
end
end Go.Proofs.Ytjakgjelnbpmnaa
/- Draws for networks' laws, each whole. -/
set_option linter.unusedSimpArgs false
set_option linter.unusedVariables false
namespace Go.Proofs.Ytjakgjelnbpmnaa
open Go Go.Vc
set_option maxRecDepth 10000
set_option maxHeartbeats 40000000
section
variable {l : List UInt8} {c : Nat} {q : Nat × Nat}
theorem d_RoundFunction (hc : l.length ≤ c) (hm : l.length ≤ 4096) : LC Try.prog 15 [.s 0 0 l.length c] [⟨false, bs l⟩] (Ret [⟨false, bs l⟩] (fun x : DN × List UInt8 × List UInt8 => x.1.ok ∧ x.2.1.length = 8 ∧ x.2.2.length = 8) fun x => (.t [.a x.1.cells, .a (bs x.2.1), .a (bs x.2.2)], [])) := by
  refine LC_of (X := XX (fun _ => .nil) (fun _ => []) [27, 28, 29, 44, 47, 52, 53, 54, 55, 74, 78, 88, 89, 99] 1) envOK Try.func15 (by kernel_rfl) (by kernel_rfl) rfl (Nat.le_of_ble_eq_true (by kernel_rfl)) ?_
  simp only [kFun, Try.f15, List.length_nil, List.length_cons, Nat.sub_zero, Nat.reduceSub, Nat.reduceAdd, List.nil_append, List.cons_append, List.replicate_succ, List.replicate_zero]
  simp only [XX, ↓VC, VP, TT, Nat.reduceEqDiff, reduceCtorEq, Nat.reduceAdd, Nat.reduceSub, Nat.reduceLT, Nat.reduceMul, Nat.reducePow, Nat.reduceLeDiff, Int.reduceToNat, Int.reduceLE, Int.reduceLT, Int.reducePow, net_zero, netC_len z256 z16]
  refine kCall_Ret (d_from hc hm) (by rfl) [(0, 0)] (by simp [CALL, SCB, SD, nsv, instL_net, okL_net]) (by simp [CALL, SCB, SD, nsv, instL_net, okL_net]) (by simp [CALL, SCB, SD, nsv, instL_net, okL_net]) (by simp [okL_bs, okL_room, okL, okV, SD, nsv, instL_net, okL_net]) (by simp [CALL, SCB, SD, nsv, instL_net, okL_net]) fun q hq => ?_
  simp (config := { maxSteps := 2000000 }) only [CALL, ↓VC, VP, TT, Nat.reduceEqDiff, reduceCtorEq, Nat.reduceAdd, Nat.reduceSub, Nat.reduceLT, Nat.reduceMul, Nat.reducePow, Nat.reduceLeDiff, Int.reduceToNat, Int.reduceLE, Int.reduceLT, Int.reducePow, GOB, GD, cipC_len z256 z16 z16, instL_net, net_zero, netC_len z256 z16]
  refine kCall_M (d_netS hc hm hq) (by rfl) [(4, 0), (0, 0)] (by simp [CALL, SCB, SD, nsv, instL_net, okL_net]) (by simp [CALL, SCB, SD, nsv, instL_net, okL_net]) (by simp) (by simp [CALL, SCB, SD, nsv, instL_net, okL_net]) (by simp [okL_bs, okL_room, okL, okV, SD, nsv, instL_net, okL_net]) (by intro x _; simp [keepR, bs_length, SD, nsv, instL_net, okL_net]) (by simp [CALL, SCB, SD, nsv, instL_net, okL_net]) fun x1 h1 => ?_
  obtain ⟨q1, ⟨z, b, A, k, n⟩⟩ := x1
  obtain ⟨hq1, hb, hA⟩ := h1
  simp only [DN.cells] at hq1 hb hA ⊢
  simp (config := { maxSteps := 2000000 }) only [CALL, ↓VC, VP, TT, Nat.reduceEqDiff, reduceCtorEq, Nat.reduceAdd, Nat.reduceSub, Nat.reduceLT, Nat.reduceMul, Nat.reducePow, Nat.reduceLeDiff, Int.reduceToNat, Int.reduceLE, Int.reduceLT, Int.reducePow, GOB, GD, cipC_len z256 z16 z16, instL_net, net_zero, netC_len z256 z16, netC_len hb hA]
  refine kCall_M (d_half hc hm hq1) (by rfl) [(4, 0), (0, 0)] (by simp [CALL, SCB, SD, nsv, instL_net, okL_net]) (by simp [CALL, SCB, SD, nsv, instL_net, okL_net]) (by simp) (by simp [CALL, SCB, SD, nsv, instL_net, okL_net]) (by simp [okL_bs, okL_room, okL, okV, SD, nsv, instL_net, okL_net]) (by intro x _; simp [keepR, bs_length, SD, nsv, instL_net, okL_net]) (by simp [CALL, SCB, SD, nsv, instL_net, okL_net]) fun x2 h2 => ?_
  obtain ⟨q2, d⟩ := x2
  obtain ⟨hq2, hd⟩ := h2
  simp only at hq2 hd ⊢
  simp (config := { maxSteps := 2000000 }) only [CALL, ↓VC, VP, TT, Nat.reduceEqDiff, reduceCtorEq, Nat.reduceAdd, Nat.reduceSub, Nat.reduceLT, Nat.reduceMul, Nat.reducePow, Nat.reduceLeDiff, Int.reduceToNat, Int.reduceLE, Int.reduceLT, Int.reducePow, GOB, GD, cipC_len z256 z16 z16, instL_net, net_zero, netC_len z256 z16, hd]
  refine kCall_M (d_half hc hm hq2) (by rfl) [(4, 0), (0, 0)] (by simp [CALL, SCB, SD, nsv, instL_net, okL_net]) (by simp [CALL, SCB, SD, nsv, instL_net, okL_net]) (by simp) (by simp [CALL, SCB, SD, nsv, instL_net, okL_net]) (by simp [okL_bs, okL_room, okL, okV, SD, nsv, instL_net, okL_net]) (by intro x _; simp [keepR, bs_length, SD, nsv, instL_net, okL_net]) (by simp [CALL, SCB, SD, nsv, instL_net, okL_net]) fun x3 h3 => ?_
  obtain ⟨q3, s⟩ := x3
  obtain ⟨hq3, hs⟩ := h3
  simp only at hq3 hs ⊢
  simp (config := { maxSteps := 2000000 }) only [CALL, ↓VC, VP, TT, Nat.reduceEqDiff, reduceCtorEq, Nat.reduceAdd, Nat.reduceSub, Nat.reduceLT, Nat.reduceMul, Nat.reducePow, Nat.reduceLeDiff, Int.reduceToNat, Int.reduceLE, Int.reduceLT, Int.reducePow, GOB, GD, cipC_len z256 z16 z16, instL_net, net_zero, netC_len z256 z16, hd, hs, netC_len hb hA, ↓net_put_all z256 z16 hb hA, ↓net_all hb hA]
  exact ⟨_, _, [0], ⟨(⟨z, b, A, k, n⟩, d, s), ⟨⟨hb, hA⟩, hd, hs⟩, rfl, rfl⟩, by simp [-List.reduceReplicate, LES, renL_net, okL_net]⟩
theorem d_RoundOf (hc : l.length ≤ c) (hm : l.length ≤ 4096) : LC Try.prog 20 [.s 0 0 l.length c] [⟨false, bs l⟩] (Ret [⟨false, bs l⟩] (fun x : DN × List UInt8 × List UInt8 => x.1.ok ∧ x.2.1.length = 8 ∧ x.2.2.length = 16) fun x => (.t [.a x.1.cells, .a (bs x.2.1), .a (bs x.2.2)], [])) := by
  refine LC_of (X := XX (fun _ => .nil) (fun _ => []) [27, 28, 29, 44, 47, 52, 53, 54, 55, 74, 78, 88, 89, 99] 1) envOK Try.func20 (by kernel_rfl) (by kernel_rfl) rfl (Nat.le_of_ble_eq_true (by kernel_rfl)) ?_
  simp only [kFun, Try.f20, List.length_nil, List.length_cons, Nat.sub_zero, Nat.reduceSub, Nat.reduceAdd, List.nil_append, List.cons_append, List.replicate_succ, List.replicate_zero]
  simp only [XX, ↓VC, VP, TT, Nat.reduceEqDiff, reduceCtorEq, Nat.reduceAdd, Nat.reduceSub, Nat.reduceLT, Nat.reduceMul, Nat.reducePow, Nat.reduceLeDiff, Int.reduceToNat, Int.reduceLE, Int.reduceLT, Int.reducePow, net_zero, netC_len z256 z16]
  refine kCall_Ret (d_from hc hm) (by rfl) [(0, 0)] (by simp [CALL, SCB, SD, nsv, instL_net, okL_net]) (by simp [CALL, SCB, SD, nsv, instL_net, okL_net]) (by simp [CALL, SCB, SD, nsv, instL_net, okL_net]) (by simp [okL_bs, okL_room, okL, okV, SD, nsv, instL_net, okL_net]) (by simp [CALL, SCB, SD, nsv, instL_net, okL_net]) fun q hq => ?_
  simp (config := { maxSteps := 2000000 }) only [CALL, ↓VC, VP, TT, Nat.reduceEqDiff, reduceCtorEq, Nat.reduceAdd, Nat.reduceSub, Nat.reduceLT, Nat.reduceMul, Nat.reducePow, Nat.reduceLeDiff, Int.reduceToNat, Int.reduceLE, Int.reduceLT, Int.reducePow, GOB, GD, cipC_len z256 z16 z16, instL_net, net_zero, netC_len z256 z16]
  refine kCall_M (d_netS hc hm hq) (by rfl) [(4, 0), (0, 0)] (by simp [CALL, SCB, SD, nsv, instL_net, okL_net]) (by simp [CALL, SCB, SD, nsv, instL_net, okL_net]) (by simp) (by simp [CALL, SCB, SD, nsv, instL_net, okL_net]) (by simp [okL_bs, okL_room, okL, okV, SD, nsv, instL_net, okL_net]) (by intro x _; simp [keepR, bs_length, SD, nsv, instL_net, okL_net]) (by simp [CALL, SCB, SD, nsv, instL_net, okL_net]) fun x1 h1 => ?_
  obtain ⟨q1, ⟨z, b, A, k, n⟩⟩ := x1
  obtain ⟨hq1, hb, hA⟩ := h1
  simp only [DN.cells] at hq1 hb hA ⊢
  simp (config := { maxSteps := 2000000 }) only [CALL, ↓VC, VP, TT, Nat.reduceEqDiff, reduceCtorEq, Nat.reduceAdd, Nat.reduceSub, Nat.reduceLT, Nat.reduceMul, Nat.reducePow, Nat.reduceLeDiff, Int.reduceToNat, Int.reduceLE, Int.reduceLT, Int.reducePow, GOB, GD, cipC_len z256 z16 z16, instL_net, net_zero, netC_len z256 z16, netC_len hb hA]
  refine kCall_M (d_half hc hm hq1) (by rfl) [(4, 0), (0, 0)] (by simp [CALL, SCB, SD, nsv, instL_net, okL_net]) (by simp [CALL, SCB, SD, nsv, instL_net, okL_net]) (by simp) (by simp [CALL, SCB, SD, nsv, instL_net, okL_net]) (by simp [okL_bs, okL_room, okL, okV, SD, nsv, instL_net, okL_net]) (by intro x _; simp [keepR, bs_length, SD, nsv, instL_net, okL_net]) (by simp [CALL, SCB, SD, nsv, instL_net, okL_net]) fun x2 h2 => ?_
  obtain ⟨q2, d⟩ := x2
  obtain ⟨hq2, hd⟩ := h2
  simp only at hq2 hd ⊢
  simp (config := { maxSteps := 2000000 }) only [CALL, ↓VC, VP, TT, Nat.reduceEqDiff, reduceCtorEq, Nat.reduceAdd, Nat.reduceSub, Nat.reduceLT, Nat.reduceMul, Nat.reducePow, Nat.reduceLeDiff, Int.reduceToNat, Int.reduceLE, Int.reduceLT, Int.reducePow, GOB, GD, cipC_len z256 z16 z16, instL_net, net_zero, netC_len z256 z16, hd]
  refine kCall_M (z_block hc hm hq2) (by rfl) [(4, 0), (0, 0)] (by simp [CALL, SCB, SD, nsv, instL_net, okL_net]) (by simp [CALL, SCB, SD, nsv, instL_net, okL_net]) (by simp) (by simp [CALL, SCB, SD, nsv, instL_net, okL_net]) (by simp [okL_bs, okL_room, okL, okV, SD, nsv, instL_net, okL_net]) (by intro x _; simp [keepR, bs_length, SD, nsv, instL_net, okL_net]) (by simp [CALL, SCB, SD, nsv, instL_net, okL_net]) fun x3 h3 => ?_
  obtain ⟨q3, s⟩ := x3
  obtain ⟨hq3, hs⟩ := h3
  simp only at hq3 hs ⊢
  simp (config := { maxSteps := 2000000 }) only [CALL, ↓VC, VP, TT, Nat.reduceEqDiff, reduceCtorEq, Nat.reduceAdd, Nat.reduceSub, Nat.reduceLT, Nat.reduceMul, Nat.reducePow, Nat.reduceLeDiff, Int.reduceToNat, Int.reduceLE, Int.reduceLT, Int.reducePow, GOB, GD, cipC_len z256 z16 z16, instL_net, net_zero, netC_len z256 z16, hd, hs, netC_len hb hA, ↓net_put_all z256 z16 hb hA, ↓net_all hb hA]
  exact ⟨_, _, [0], ⟨(⟨z, b, A, k, n⟩, d, s), ⟨⟨hb, hA⟩, hd, hs⟩, rfl, rfl⟩, by simp [-List.reduceReplicate, LES, renL_net, okL_net]⟩
/-- A network, keys (all that lie there, where they begin, how many, the room), a block. -/
theorem d_RunNetwork (hc : l.length ≤ c) (hm : l.length ≤ 4096) : LC Try.prog 5 [.s 0 0 l.length c] [⟨false, bs l⟩] (Ret [⟨false, bs l⟩] (fun x : DN × (Nat × Nat × List UInt8 × Nat) × List UInt8 => x.1.ok ∧ (x.2.1.1 ≤ 1 ∧ x.2.1.2.1 ≤ 100 ∧ x.2.1.2.2.1.length = 8 * (x.2.1.1 + x.2.1.2.1)) ∧ x.2.2.length = 16) fun x => (.t [.a x.1.cells, .s 1 (8 * x.2.1.1) x.2.1.2.1 (x.2.1.2.1 + x.2.1.2.2.2), .a (bs x.2.2)], [⟨true, bs x.2.1.2.2.1 ++ List.replicate (8 * x.2.1.2.2.2) .j⟩])) := by
  refine LC_of (X := XX (fun | 3 => .cut (.one 1 (.one 2 (.one 4 (.alt (.one 0 (.one 3 (.one 5 (.one 6 (.one 7 (.one 8 .nil)))))) (.one 3 (.alt (.one 0 (.one 5 (.one 6 (.one 7 (.one 8 .nil))))) (.one 5 (.one 0 (.one 6 (.one 7 (.one 8 .nil))))))))))) | _ => .nil) (fun _ => []) [27, 28, 29, 44, 47, 52, 53, 54, 55, 74, 78, 88, 89, 99] 1) envOK Try.func5 (by kernel_rfl) (by kernel_rfl) rfl (Nat.le_of_ble_eq_true (by kernel_rfl)) ?_
  simp only [kFun, Try.f5, List.length_nil, List.length_cons, Nat.sub_zero, Nat.reduceSub, Nat.reduceAdd, List.nil_append, List.cons_append, List.replicate_succ, List.replicate_zero]
  simp only [XX, ↓VC, VP, TT, Nat.reduceEqDiff, reduceCtorEq, Nat.reduceAdd, Nat.reduceSub, Nat.reduceLT, Nat.reduceMul, Nat.reducePow, Nat.reduceLeDiff, Int.reduceToNat, Int.reduceLE, Int.reduceLT, Int.reducePow, net_zero, netC_len z256 z16]
  refine kCall_Ret (d_from hc hm) (by rfl) [(0, 0)] (by simp [CALL, SCB, SD, nsv, instL_net, okL_net]) (by simp [CALL, SCB, SD, nsv, instL_net, okL_net]) (by simp [CALL, SCB, SD, nsv, instL_net, okL_net]) (by simp [okL_bs, okL_room, okL, okV, SD, nsv, instL_net, okL_net]) (by simp [CALL, SCB, SD, nsv, instL_net, okL_net]) fun q hq => ?_
  simp (config := { maxSteps := 2000000 }) only [CALL, ↓VC, VP, TT, Nat.reduceEqDiff, reduceCtorEq, Nat.reduceAdd, Nat.reduceSub, Nat.reduceLT, Nat.reduceMul, Nat.reducePow, Nat.reduceLeDiff, Int.reduceToNat, Int.reduceLE, Int.reduceLT, Int.reducePow, GOB, GD, cipC_len z256 z16 z16, instL_net, net_zero, netC_len z256 z16]
  refine kCall_M (d_netS hc hm hq) (by rfl) [(3, 0), (0, 0)] (by simp [CALL, SCB, SD, nsv, instL_net, okL_net]) (by simp [CALL, SCB, SD, nsv, instL_net, okL_net]) (by simp) (by simp [CALL, SCB, SD, nsv, instL_net, okL_net]) (by simp [okL_bs, okL_room, okL, okV, SD, nsv, instL_net, okL_net]) (by intro x _; simp [keepR, bs_length, SD, nsv, instL_net, okL_net]) (by simp [CALL, SCB, SD, nsv, instL_net, okL_net]) fun x1 h1 => ?_
  obtain ⟨q1, ⟨z, b, A, k, n⟩⟩ := x1
  obtain ⟨hq1, hb, hA⟩ := h1
  simp only [DN.cells] at hq1 hb hA ⊢
  simp (config := { maxSteps := 2000000 }) only [CALL, ↓VC, VP, TT, Nat.reduceEqDiff, reduceCtorEq, Nat.reduceAdd, Nat.reduceSub, Nat.reduceLT, Nat.reduceMul, Nat.reducePow, Nat.reduceLeDiff, Int.reduceToNat, Int.reduceLE, Int.reduceLT, Int.reducePow, GOB, GD, cipC_len z256 z16 z16, instL_net, net_zero, netC_len z256 z16, netC_len hb hA, ↓net_put_all z256 z16 hb hA, ↓net_all hb hA]
  have hK := d_keys hc hm hq1 ⟨z, b, A, k, n⟩ ⟨hb, hA⟩
  simp only [DN.cells] at hK
  refine kCut_of (fun s : (Nat × Nat × List UInt8 × Nat) × List UInt8 => ([.j, .j, .p 1 0, .s 3 (8 * s.1.1) s.1.2.1 (s.1.2.1 + s.1.2.2.2), .p 2 0, .j, .j, .j, .j, .j, .j, .j, .j, .j, .j, .j, .j], [⟨false, bs l⟩, ⟨true, netC z b A k n⟩, ⟨true, bs s.2⟩, ⟨true, bs s.1.2.2.1 ++ List.replicate (8 * s.1.2.2.2) .j⟩]))
    (fun s => (s.1.1 ≤ 1 ∧ s.1.2.1 ≤ 100 ∧ s.1.2.2.1.length = 8 * (s.1.1 + s.1.2.1)) ∧ s.2.length = 16) ?_ (fun s hs => ?_)
  · simp (config := { maxSteps := 2000000 }) only [↓VC, VP, TT, Nat.reduceEqDiff, reduceCtorEq, Nat.reduceAdd, Nat.reduceSub, Nat.reduceLT, Nat.reduceMul, Nat.reducePow, Nat.reduceLeDiff, Int.reduceToNat, Int.reduceLE, Int.reduceLT, Int.reducePow, netC_len hb hA, ↓net_all hb hA, ↓net_put_all z256 z16 hb hA, and_self]
    repeat' apply And.intro
    all_goals
      refine kCall_M (hK) (by rfl) [(3, 0), (0, 0)] (by simp [CALL, SCB, SD, nsv, instL_net, okL_net]) (by simp [CALL, SCB, SD, nsv, instL_net, okL_net]) (by simp) (by simp [CALL, SCB, SD, nsv, instL_net, okL_net]) (by simp [okL_bs, okL_room, okL, okV, SD, nsv, instL_net, okL_net]) (by intro x _; simp [keepR, bs_length, SD, nsv, instL_net, okL_net]) (by simp [CALL, SCB, SD, nsv, instL_net, okL_net]) fun x2 h2 => ?_
      obtain ⟨q2, o, m, F, r⟩ := x2
      obtain ⟨hq2, ho, hm1, hF⟩ := h2
      simp only at hq2 ho hm1 hF ⊢
      simp (config := { maxSteps := 2000000 }) only [CALL, ↓VC, VP, TT, Nat.reduceEqDiff, reduceCtorEq, Nat.reduceAdd, Nat.reduceSub, Nat.reduceLT, Nat.reduceMul, Nat.reducePow, Nat.reduceLeDiff, Int.reduceToNat, Int.reduceLE, Int.reduceLT, Int.reducePow, GOB, GD, cipC_len z256 z16 z16, instL_net, net_zero, netC_len z256 z16, netC_len hb hA, ↓net_all hb hA, ↓net_put_all z256 z16 hb hA]
      repeat' apply And.intro
      all_goals
        refine kCall_M (z_block hc hm hq2) (by rfl) [(3, 0), (0, 0)] (by simp [CALL, SCB, SD, nsv, instL_net, okL_net]) (by simp [CALL, SCB, SD, nsv, instL_net, okL_net]) (by simp) (by simp [CALL, SCB, SD, nsv, instL_net, okL_net]) (by simp [okL_bs, okL_room, okL, okV, SD, nsv, instL_net, okL_net]) (by intro x _; simp [keepR, bs_length, SD, nsv, instL_net, okL_net]) (by simp [CALL, SCB, SD, nsv, instL_net, okL_net]) fun x3 h3 => ?_
        obtain ⟨q3, s⟩ := x3
        obtain ⟨hq3, hs⟩ := h3
        simp only at hq3 hs ⊢
        simp (config := { maxSteps := 2000000 }) only [CALL, ↓VC, VP, TT, Nat.reduceEqDiff, reduceCtorEq, Nat.reduceAdd, Nat.reduceSub, Nat.reduceLT, Nat.reduceMul, Nat.reducePow, Nat.reduceLeDiff, Int.reduceToNat, Int.reduceLE, Int.reduceLT, Int.reducePow, GOB, GD, cipC_len z256 z16 z16, instL_net, net_zero, netC_len z256 z16, hs, netC_len hb hA, ↓net_all hb hA, ↓net_put_all z256 z16 hb hA]
        exact ⟨((o, m, F, r), s), ⟨⟨ho, hm1, hF⟩, hs⟩, [0, 1, 2, 5], by simp [-List.reduceReplicate, LES, renL_net, okL_net, -List.reduceReplicate]⟩
  · obtain ⟨⟨o, m, F, r⟩, s⟩ := s
    obtain ⟨⟨ho, hm1, hF⟩, hs⟩ := hs
    simp only at ho hm1 hF hs ⊢
    simp only [↓VC, VP, TT, Nat.reduceEqDiff, reduceCtorEq, Nat.reduceAdd, Nat.reduceSub, Nat.reduceLT, Nat.reduceMul, Nat.reducePow, Nat.reduceLeDiff, Int.reduceToNat, Int.reduceLE, Int.reduceLT, Int.reducePow, netC_len hb hA, ↓net_all hb hA, hs]
    exact ⟨_, _, [0, 3], ⟨(⟨z, b, A, k, n⟩, (o, m, F, r), s), ⟨⟨hb, hA⟩, ⟨ho, hm1, hF⟩, hs⟩, rfl, rfl⟩, by simp [-List.reduceReplicate, LES, renL_net, okL_net, -List.reduceReplicate]⟩
end
end Go.Proofs.Ytjakgjelnbpmnaa

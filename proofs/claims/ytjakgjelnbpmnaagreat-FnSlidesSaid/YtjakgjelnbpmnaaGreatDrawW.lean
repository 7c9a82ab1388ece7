import Derived.Test.YtjakgjelnbpmnaaGreatDrawU
import Derived.Test.YtjakgjelnbpmnaaGreatNetB
/- Draws of networks with keys. -/
set_option linter.unusedSimpArgs false
set_option linter.unusedVariables false
namespace Go.Proofs.YtjakgjelnbpmnaaGreat
open Go Go.Vc
set_option maxRecDepth 10000
set_option maxHeartbeats 40000000
section
variable {f r kd : Int} {box A : List UInt8} {k : V → Prop} {kl : List V → Prop}
theorem net_at_box {x : Nat} (hb : box.length = 256) (hx : x < 256) : vGet (netC f box A kd r) (1 + x) k = k (.c (.int .u8 ((box.getD x 0).toNat : Int))) := by
  unfold netC
  rw [vGet_oneAdd, vGet_appL (by rw [bs_length, hb]; exact hx), vGet_bs]
  exact propext ⟨fun y => y.2, fun y => ⟨by omega, y⟩⟩
theorem net_put_box1 {x : Nat} {n : Int} (hb : box.length = 256) (hx : x < 256) (hn : inU8 n) : vPut (netC f box A kd r) (1 + x) [.c (.int .u8 n)] kl = kl (netC f (box.set x (UInt8.ofInt n)) A kd r) := by
  unfold netC
  rw [vPut_oneAdd, vPut_appL (by rw [bs_length, hb]; show x + 1 ≤ 256; omega), vPut_bs hn, hb]
  simp [hx]
theorem net_sub_mix {o n : Nat} (hb : box.length = 256) (hA : A.length = 16) (h : o + n ≤ 16) : vSub (netC f box A kd r) (257 + o) n k = k (.a (bs ((A.drop o).take n))) := by
  unfold netC
  rw [show 257 + o = 1 + (256 + o) by omega, vSub_oneAdd, vSub_appR (by rw [bs_length, hb]; omega), bs_length, hb, Nat.add_sub_cancel_left, vSub_appL (by rw [bs_length, hA]; exact h), vSub_bs]
  exact propext ⟨fun y => y.2, fun y => ⟨by omega, y⟩⟩
theorem net_put_mixS {o : Nat} {w : List UInt8} (hb : box.length = 256) (hA : A.length = 16) (h : o + w.length ≤ 16) : vPut (netC f box A kd r) (257 + o) (bs w) kl = kl (netC f box (splB A o w) kd r) := by
  unfold netC
  rw [show 257 + o = 1 + (256 + o) by omega, vPut_oneAdd, vPut_appR (by rw [bs_length, hb]; omega), bs_length, hb, Nat.add_sub_cancel_left, vPut_appL (by rw [bs_length, bs_length, hA]; exact h), vPut_bss]
  exact propext ⟨fun y => y.2, fun y => ⟨by omega, y⟩⟩
theorem net_put_all {f' r' kd' : Int} {box' A' : List UInt8} (hb : box.length = 256) (hA : A.length = 16) (hb' : box'.length = 256) (hA' : A'.length = 16) : vPut (netC f box A kd r) 0 (netC f' box' A' kd' r') kl = kl (netC f' box' A' kd' r') := vPut_all (by rw [netC_len hb hA, netC_len hb' hA'])
end
section
variable {l : List UInt8} {c : Nat} {q : Nat × Nat}
theorem d_netS (hc : l.length ≤ c) (hm : l.length ≤ 4096) (hq : okS l q) : LC Tryz.prog 33 [.p 0 0] [⟨true, sv 1 l.length c q⟩, ⟨false, bs l⟩] (RetM (fun x : (Nat × Nat) × DN => okS l x.1 ∧ x.2.ok) fun x => (.a x.2.cells, [⟨true, sv 1 l.length c x.1⟩, ⟨false, bs l⟩], [])) := by
  refine LC_of (X := XX (fun _ => .nil) (fun _ => []) [33, 34, 35, 36, 39, 45, 53, 54, 65, 75, 90, 91, 92, 104] 2) envOK Tryz.func33 (by kernel_rfl) (by kernel_rfl) rfl (Nat.le_of_ble_eq_true (by kernel_rfl)) ?_
  simp only [kFun, Tryz.f33, List.length_nil, List.length_cons, Nat.sub_zero, Nat.reduceSub, Nat.reduceAdd, List.nil_append, List.cons_append, List.replicate_succ, List.replicate_zero]
  simp only [XX, ↓VC, VP, TT, Nat.reduceEqDiff, reduceCtorEq, Nat.reduceAdd, Nat.reduceSub, Nat.reduceLT, Nat.reduceMul, Nat.reducePow, Nat.reduceLeDiff, Int.reduceToNat, Int.reduceLE, Int.reduceLT, Int.reducePow, net_zero, netC_len z256 z16]
  refine kCall_M (d_net hc hm hq) (by rfl) [(0, 0), (1, 0)] (by simp [CALL, SCB, SD, nsv, instL_net, okL_net]) (by simp [CALL, SCB, SD, nsv, instL_net, okL_net]) (by simp) (by simp [CALL, SCB, SD, nsv, instL_net, okL_net]) (by simp [okL_bs, okL_room, okL, okV, SD, nsv, instL_net, okL_net]) (by intro x _; simp [keepR, bs_length, SD, nsv, instL_net, okL_net]) (by simp [CALL, SCB, SD, nsv, instL_net, okL_net]) fun x1 h1 => ?_
  obtain ⟨q1, ⟨z, b, A, k, n⟩⟩ := x1
  obtain ⟨hq1, hb, hA⟩ := h1
  simp only [DN.cells] at hq1 hb hA ⊢
  simp (config := { maxSteps := 2000000 }) only [CALL, ↓VC, VP, TT, Nat.reduceEqDiff, reduceCtorEq, Nat.reduceAdd, Nat.reduceSub, Nat.reduceLT, Nat.reduceMul, Nat.reducePow, Nat.reduceLeDiff, Int.reduceToNat, Int.reduceLE, Int.reduceLT, Int.reducePow, GOB, GD, cipC_len z256 z16 z16, instL_net, net_zero, netC_len z256 z16, netC_len hb hA]
  have hr : ((A.drop 4).take 4).length = 4 := by simp [hA]
  have hA2 : (splB A 0 ((A.drop 4).take 4)).length = 16 := by rw [splB_length (by omega), hA]
  have hb2 : ∀ u, (b.set 0 u).length = 256 := fun u => by rw [List.length_set, hb]
  have e1 : ∀ kk : V → Prop, vGet (netC z b A k n) 2 kk = kk (.c (.int .u8 ((b.getD 1 0).toNat : Int))) := fun kk => net_at_box (x := 1) hb (by omega)
  have e2 : ∀ (u : UInt8) (kl : List V → Prop), vPut (netC z b A k n) 1 [.c (.int .u8 (u.toNat : Int))] kl = kl (netC z (b.set 0 u) A k n) := fun u kl => by
    have := net_put_box1 (f := z) (r := n) (A := A) (kd := k) (kl := kl) (x := 0) hb (by omega) (of_eq_true (inU8_toNat u))
    rw [ofInt_toNat] at this; exact this
  have e3 : ∀ kk : V → Prop, vSub (netC z b A k n) 261 4 kk = kk (.a (bs ((A.drop 4).take 4))) := fun kk => net_sub_mix (o := 4) hb hA (by omega)
  have e4 : ∀ kl : List V → Prop, vPut (netC z b A k n) 257 (bs ((A.drop 4).take 4)) kl = kl (netC z b (splB A 0 ((A.drop 4).take 4)) k n) := fun kl => net_put_mixS (o := 0) hb hA (by omega)
  refine kCall_M (d_next hc hm hq1 40) (by rfl) [(0, 0), (1, 0)] (by simp [CALL, SCB, SD, nsv, instL_net, okL_net]) (by simp [CALL, SCB, SD, nsv, instL_net, okL_net]) (by simp) (by simp [CALL, SCB, SD, nsv, instL_net, okL_net]) (by simp [okL_bs, okL_room, okL, okV, SD, nsv, instL_net, okL_net]) (by intro x _; simp [keepR, bs_length, SD, nsv, instL_net, okL_net]) (by simp [CALL, SCB, SD, nsv, instL_net, okL_net]) fun x2 h2 => ?_
  simp (config := { maxSteps := 2000000 }) only [CALL, ↓VC, VP, TT, Nat.reduceEqDiff, reduceCtorEq, Nat.reduceAdd, Nat.reduceSub, Nat.reduceLT, Nat.reduceMul, Nat.reducePow, Nat.reduceLeDiff, Int.reduceToNat, Int.reduceLE, Int.reduceLT, Int.reducePow, GOB, GD, cipC_len z256 z16 z16, instL_net, net_zero, netC_len z256 z16, netC_len hb hA, netC_len (hb2 _) hA, netC_len hb hA2, ↓e1, ↓e2, ↓e3, ↓e4, bs_length, hr, ↓netw_field, ↓net_put_all z256 z16 hb hA, ↓net_put_all z256 z16 (hb2 _) hA, ↓net_put_all z256 z16 hb hA2, ↓net_all hb hA, ↓net_all (hb2 _) hA, ↓net_all hb hA2]
  have hq2 := h2.1
  refine ⟨fun _ => ?_, fun _ => ⟨fun _ => ?_, fun _ => ⟨fun _ => ?_, fun _ => ⟨fun _ => ?_, fun _ => ⟨fun _ => ?_, fun _ => ?_⟩⟩⟩⟩⟩
  · exact ⟨_, _, [0, 1], ⟨(x2.1, ⟨256, b, A, k, n⟩), ⟨hq2, hb, hA⟩, rfl, rfl⟩, by simp [-List.reduceReplicate, LES, sv_ren, sv_ok, DN.cells, renL_net, okL_net]⟩
  · try repeat (refine ⟨by first | omega | (simp; done) | decide, ?_⟩)
    exact ⟨_, _, [0, 1], ⟨(x2.1, ⟨z, b.set 0 (b.getD 1 0), A, k, n⟩), ⟨hq2, hb2 _, hA⟩, rfl, rfl⟩, by simp [-List.reduceReplicate, LES, sv_ren, sv_ok, DN.cells, renL_net, okL_net]⟩
  · try repeat (refine ⟨by first | omega | (simp; done) | decide, ?_⟩)
    exact ⟨_, _, [0, 1], ⟨(x2.1, ⟨z, b, splB A 0 ((A.drop 4).take 4), k, n⟩), ⟨hq2, hb, hA2⟩, rfl, rfl⟩, by simp [-List.reduceReplicate, LES, sv_ren, sv_ok, DN.cells, renL_net, okL_net]⟩
  · refine kCall_M (d_pick hc hm hq2 [-1, 3] 2 (by simp) (by simp)) (by rfl) [(0, 0), (1, 0), (4, 0)] (by simp [CALL, SCB, SD, nsv, instL_net, okL_net, splice]) (by simp [CALL, SCB, SD, nsv, instL_net, okL_net, splice]) (by simp) (by simp [CALL, SCB, SD, nsv, instL_net, okL_net, splice]) (by simp [okL_bs, okL_room, okL, okV, SD, nsv, instL_net, okL_net, splice]) (by intro x _; simp [keepR, bs_length, SD, nsv, instL_net, okL_net, splice]) (by simp [CALL, SCB, SD, nsv, instL_net, okL_net, splice]) fun x3 h3 => ?_
    simp (config := { maxSteps := 2000000 }) only [CALL, ↓VC, VP, TT, Nat.reduceEqDiff, reduceCtorEq, Nat.reduceAdd, Nat.reduceSub, Nat.reduceLT, Nat.reduceMul, Nat.reducePow, Nat.reduceLeDiff, Int.reduceToNat, Int.reduceLE, Int.reduceLT, Int.reducePow, GOB, GD, cipC_len z256 z16 z16, instL_net, net_zero, netC_len z256 z16, netC_len hb hA, ↓netw_kind hb hA, ↓net_put_all z256 z16 hb hA, ↓net_all hb hA]
    exact ⟨_, _, [0, 1], ⟨(x3.1, ⟨z, b, A, x3.2, n⟩), ⟨h3.1, hb, hA⟩, rfl, rfl⟩, by simp [-List.reduceReplicate, LES, sv_ren, sv_ok, DN.cells, renL_net, okL_net]⟩
  · refine kCall_M (d_pick hc hm hq2 [0, 41] 2 (by simp) (by simp)) (by rfl) [(0, 0), (1, 0), (4, 0)] (by simp [CALL, SCB, SD, nsv, instL_net, okL_net, splice]) (by simp [CALL, SCB, SD, nsv, instL_net, okL_net, splice]) (by simp) (by simp [CALL, SCB, SD, nsv, instL_net, okL_net, splice]) (by simp [okL_bs, okL_room, okL, okV, SD, nsv, instL_net, okL_net, splice]) (by intro x _; simp [keepR, bs_length, SD, nsv, instL_net, okL_net, splice]) (by simp [CALL, SCB, SD, nsv, instL_net, okL_net, splice]) fun x3 h3 => ?_
    simp (config := { maxSteps := 2000000 }) only [CALL, ↓VC, VP, TT, Nat.reduceEqDiff, reduceCtorEq, Nat.reduceAdd, Nat.reduceSub, Nat.reduceLT, Nat.reduceMul, Nat.reducePow, Nat.reduceLeDiff, Int.reduceToNat, Int.reduceLE, Int.reduceLT, Int.reducePow, GOB, GD, cipC_len z256 z16 z16, instL_net, net_zero, netC_len z256 z16, netC_len hb hA, ↓netw_rd hb hA, ↓net_put_all z256 z16 hb hA, ↓net_all hb hA]
    exact ⟨_, _, [0, 1], ⟨(x3.1, ⟨z, b, A, k, x3.2⟩), ⟨h3.1, hb, hA⟩, rfl, rfl⟩, by simp [-List.reduceReplicate, LES, sv_ren, sv_ok, DN.cells, renL_net, okL_net]⟩
  · exact ⟨_, _, [0, 1], ⟨(x2.1, ⟨z, b, A, k, n⟩), ⟨hq2, hb, hA⟩, rfl, rfl⟩, by simp [-List.reduceReplicate, LES, sv_ren, sv_ok, DN.cells, renL_net, okL_net]⟩
theorem d_half (hc : l.length ≤ c) (hm : l.length ≤ 4096) (hq : okS l q) : LC Tryz.prog 34 [.p 0 0] [⟨true, sv 1 l.length c q⟩, ⟨false, bs l⟩] (RetM (fun x : (Nat × Nat) × List UInt8 => okS l x.1 ∧ x.2.length = 8) fun x => (.a (bs x.2), [⟨true, sv 1 l.length c x.1⟩, ⟨false, bs l⟩], [])) := by
  refine LC_of (X := XX (fun _ => .nil) (fun _ => []) [33, 34, 35, 36, 39, 45, 53, 54, 65, 75, 90, 91, 92, 104] 2) envOK Tryz.func34 (by kernel_rfl) (by kernel_rfl) rfl (Nat.le_of_ble_eq_true (by kernel_rfl)) ?_
  simp only [kFun, Tryz.f34, List.length_nil, List.length_cons, Nat.sub_zero, Nat.reduceSub, Nat.reduceAdd, List.nil_append, List.cons_append, List.replicate_succ, List.replicate_zero]
  simp only [XX, ↓VC, VP, TT, Nat.reduceEqDiff, reduceCtorEq, Nat.reduceAdd, Nat.reduceSub, Nat.reduceLT, Nat.reduceMul, Nat.reducePow, Nat.reduceLeDiff, Int.reduceToNat, Int.reduceLE, Int.reduceLT, Int.reducePow]
  refine kCall_M (z_block hc hm hq) (by rfl) [(0, 0), (1, 0)] (by simp [CALL, SCB, SD, nsv, instL_net, okL_net]) (by simp [CALL, SCB, SD, nsv, instL_net, okL_net]) (by simp) (by simp [CALL, SCB, SD, nsv, instL_net, okL_net]) (by simp [okL_bs, okL_room, okL, okV, SD, nsv, instL_net, okL_net]) (by intro x _; simp [keepR, bs_length, SD, nsv, instL_net, okL_net]) (by simp [CALL, SCB, SD, nsv, instL_net, okL_net]) fun x1 h1 => ?_
  obtain ⟨q1, b⟩ := x1
  obtain ⟨hq1, hb⟩ := h1
  simp only at hq1 hb ⊢
  have h1 := take8_len hb
  have h2 := drop8_len hb
  simp (config := { maxSteps := 2000000 }) only [CALL, ↓VC, VP, TT, Nat.reduceEqDiff, reduceCtorEq, Nat.reduceAdd, Nat.reduceSub, Nat.reduceLT, Nat.reduceMul, Nat.reducePow, Nat.reduceLeDiff, Int.reduceToNat, Int.reduceLE, Int.reduceLT, Int.reducePow, GOB, GD, cipC_len z256 z16 z16, instL_net, net_zero, netC_len z256 z16, hb]
  refine kCall_val (c_spec_l06Halves b hb) (by rfl) [] (by simp [CALL, SCB, SD, nsv, instL_net, okL_net, hb]) (by simp [CALL, SCB, SD, nsv, instL_net, okL_net, hb]) (by simp [CALL, SCB, SD, nsv, instL_net, okL_net, hb]) (by simp [okL_bs, okL_room, okL, okV, SD, nsv, instL_net, okL_net, hb]) ?_
  simp (config := { maxSteps := 2000000 }) only [CALL, ↓VC, VP, TT, Nat.reduceEqDiff, reduceCtorEq, Nat.reduceAdd, Nat.reduceSub, Nat.reduceLT, Nat.reduceMul, Nat.reducePow, Nat.reduceLeDiff, Int.reduceToNat, Int.reduceLE, Int.reduceLT, Int.reducePow, GOB, GD, cipC_len z256 z16 z16, instL_net, net_zero, netC_len z256 z16, h1, h2]
  exact ⟨_, _, [0, 1], ⟨(q1, b.take 8), ⟨hq1, h1⟩, rfl, rfl⟩, by simp [-List.reduceReplicate, LES, sv_ren, sv_ok]⟩
end
end Go.Proofs.YtjakgjelnbpmnaaGreat
/- Draws for networks' laws, each whole. -/
set_option linter.unusedSimpArgs false
set_option linter.unusedVariables false
namespace Go.Proofs.YtjakgjelnbpmnaaGreat
open Go Go.Vc
set_option maxRecDepth 10000
set_option maxHeartbeats 40000000
section
variable {l : List UInt8} {c : Nat} {q : Nat × Nat}
end
end Go.Proofs.YtjakgjelnbpmnaaGreat

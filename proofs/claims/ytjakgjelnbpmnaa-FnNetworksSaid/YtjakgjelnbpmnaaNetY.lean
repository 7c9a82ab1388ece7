import Derived.Test.YtjakgjelnbpmnaaNetX
import Derived.Test.YtjakgjelnbpmnaaDrawW
import Derived.Test.YtjakgjelnbpmnaaDrawC
import Derived.Test.YtjakgjelnbpmnaaNetR
import Derived.Test.YtjakgjelnbpmnaaNetS
/- FnNetworks: its sections from region 32 on: round functions and rounds. -/
set_option linter.unusedSimpArgs false
set_option linter.unusedVariables false
namespace Go.Proofs.Ytjakgjelnbpmnaa
open Go Go.Vc
set_option maxRecDepth 10000
set_option maxHeartbeats 40000000
theorem same_rbk {c c' : Net} (h1 : (c.m : Int) = c'.m) (h2 : c.box = c'.box) (h3 : c.A = c'.A) (h4 : c.k = c'.k) (key b : List UInt8) : c'.rbk key b = c.rbk key b := by
  unfold Net.rbk
  rw [show c'.m = c.m by omega, ← h2, ← h3, ← h4]
theorem same_fb {c c' : Net} (h1 : (c.m : Int) = c'.m) (h2 : c.box = c'.box) (h3 : c.A = c'.A) (key b : List UInt8) : c'.fb key b = c.fb key b := by
  unfold Net.fb
  rw [show c'.m = c.m by omega, ← h2, ← h3]
section
variable {l : List UInt8} {c : Nat}
abbrev nwS (l : List UInt8) (c : Nat) : List V := ((.s 0 0 l.length c) :: (List.replicate 350 .j))
abbrev nwR (l : List UInt8) (c : Nat) (e e2 : Int) : List V := ((.s 0 0 l.length c) :: (@HAppend.hAppend (List V) (List V) (List V) _ (List.replicate 38 V.j) ((.p 1 0) :: ((.p 2 0) :: ((.p 3 0) :: ((.p 4 0) :: ((.c (.int .i64 (e))) :: ((.p 5 0) :: ((.c (.int .i64 (e))) :: ((.p 6 0) :: ((.c (.int .i64 (e2))) :: ((.p 7 0) :: ((.c (.int .i64 (e2))) :: (List.replicate 301 .j))))))))))))))
abbrev nwRH (l : List UInt8) (z k n : Int) (b A key blk x y : List UInt8) : List Blk := [⟨false, bs l⟩, ⟨true, netC z b A k n⟩, ⟨true, bs key⟩, ⟨true, bs blk⟩, ⟨true, bs x⟩, ⟨true, bs x⟩, ⟨true, bs y⟩, ⟨true, bs y⟩]
theorem nw_cmp (hc : l.length ≤ c) (hm : l.length ≤ 4096) {z k n e e2 : Int} {b A key blk x y : List UInt8} (hb : b.length = 256) (hA : A.length = 16) (hk : key.length = 8) (hbl : blk.length = 16) (hx : x.length = 16) (hy : y.length = 16)
    (P1 : (e ≠ 0 ∧ netB z b A k n = false) ∨ (e = 0 ∧ ∃ c : Net, z = c.m ∧ b = c.box ∧ A = c.A ∧ k = c.k ∧ n = c.n ∧ x = c.rnd key blk)) : kFrom cx_FnNetworks Try.f3 [10, 14, 19, 29, 32, 37, 43, 48] 48 lawPost (nwR l c e e2) (nwRH l z k n b A key blk x y) := by
  simp only [kFrom, kFromK, kAt, Go.Vc.mark, lawPost, List.contains_cons, List.contains_nil, Nat.reduceBEq, Bool.or_false, Bool.false_or, Bool.true_or, Bool.or_true, Bool.false_eq_true, if_true, if_false, Nat.reduceAdd, Nat.reduceEqDiff, reduceCtorEq, Try.f3]
  simp only [CX_FnNetworks, SPV, lawPost, ↓VC2, ZP, VP, TT, Nat.reduceEqDiff, reduceCtorEq, Nat.reduceAdd, Nat.reduceSub, Nat.reduceLT, Nat.reduceMul, Nat.reducePow, Nat.reduceLeDiff, Int.reduceToNat, Int.reduceLE, Int.reduceLT, Int.reducePow, nwR, nwRH]
  simp (config := { maxSteps := 2000000 }) only [CALL, ↓VC2, ZP, VP, TT, Nat.reduceEqDiff, reduceCtorEq, Nat.reduceAdd, Nat.reduceSub, Nat.reduceLT, Nat.reduceMul, Nat.reducePow, Nat.reduceLeDiff, Int.reduceToNat, Int.reduceLE, Int.reduceLT, Int.reducePow, GOB, CX_FnNetworks, lawPost, SPV, instL_net, net_zero, netC_len z256 z16, DN.cells, hx, hy, bne_self_eq_false]
  refine ⟨intCells_bs _, intCells_bs _, fun b1 hb1 => ?_⟩
  obtain rfl : b1 = true := hb1.2 trivial
  simp (config := { maxSteps := 2000000 }) only [CALL, ↓VC2, ZP, VP, TT, Nat.reduceEqDiff, reduceCtorEq, Nat.reduceAdd, Nat.reduceSub, Nat.reduceLT, Nat.reduceMul, Nat.reducePow, Nat.reduceLeDiff, Int.reduceToNat, Int.reduceLE, Int.reduceLT, Int.reducePow, GOB, CX_FnNetworks, lawPost, SPV, instL_net, net_zero, netC_len z256 z16, DN.cells, hx, hy, bne_self_eq_false]
  refine ⟨intCells_bs _, intCells_bs _, fun b2 hb2 => ?_⟩
  obtain rfl : b2 = true := hb2.2 trivial
  simp (config := { maxSteps := 2000000 }) only [CALL, ↓VC2, ZP, VP, TT, Nat.reduceEqDiff, reduceCtorEq, Nat.reduceAdd, Nat.reduceSub, Nat.reduceLT, Nat.reduceMul, Nat.reducePow, Nat.reduceLeDiff, Int.reduceToNat, Int.reduceLE, Int.reduceLT, Int.reducePow, GOB, CX_FnNetworks, lawPost, SPV, instL_net, net_zero, netC_len z256 z16, DN.cells, hx, hy, hk, hbl, bne_self_eq_false, netC_len hb hA, ↓net_all hb hA]
  refine zIf (fun h => ?_) (fun h => ?_)
  · exact ⟨_, [⟨false, bs l⟩], [0], rfl, by simp [-List.reduceReplicate, LES]⟩
  · rcases P1 with ⟨he, _⟩ | ⟨rfl, d, rfl, rfl, rfl, rfl, rfl, hxe⟩
    · exact absurd (bne_iff_ne.2 he) h
    obtain ⟨o, e3, ho, _, I3, P3⟩ := two_RoundBack d.m d.k d.n d.box d.A key x hb hA hk hx
    rcases P3 with ⟨_, hF⟩ | ⟨rfl, d', g1, g2, g3, g4, _, rfl⟩
    · rw [d.is] at hF; cases hF
    rw [same_rbk g1 g2 g3 g4, hxe, d.rbk_rnd key hbl, ← hxe] at I3
    have hkt : List.take 8 key = key := List.take_of_length_le (Nat.le_of_eq hk)
    refine kCall_val (I3) (by rfl) [] (by simp [CALL, SCB, instL_net, okL_net, instL_room, okL_room, hkt]) (by simp [CALL, SCB, instL_net, okL_net, instL_room, okL_room, hkt]) (by simp [CALL, SCB, instL_net, okL_net, instL_room, okL_room, hkt]) (by simp [okL_bs, okL_room, okL, okV, instL_net, okL_net, instL_room, okL_room, hkt]) ?_
    simp (config := { maxSteps := 2000000 }) only [CALL, ↓VC2, ZP, VP, TT, Nat.reduceEqDiff, reduceCtorEq, Nat.reduceAdd, Nat.reduceSub, Nat.reduceLT, Nat.reduceMul, Nat.reducePow, Nat.reduceLeDiff, Int.reduceToNat, Int.reduceLE, Int.reduceLT, Int.reducePow, GOB, CX_FnNetworks, lawPost, SPV, instL_net, net_zero, netC_len z256 z16, DN.cells, hx, hy, hk, hbl, hkt, bne_self_eq_false, netC_len hb hA, ↓net_all hb hA]
    have hS := k_impl_IsSlid d key blk (d.rnd key blk) hk hbl (by rw [← hxe]; exact hx)
    unfold Net.cells at hS
    rw [← hxe] at hS
    refine kCall_val (hS) (by rfl) [] (by simp [CALL, SCB, instL_net, okL_net, instL_room, okL_room, hkt]) (by simp [CALL, SCB, instL_net, okL_net, instL_room, okL_room, hkt]) (by simp [CALL, SCB, instL_net, okL_net, instL_room, okL_room, hkt]) (by simp [okL_bs, okL_room, okL, okV, instL_net, okL_net, instL_room, okL_room, hkt]) ?_
    simp (config := { maxSteps := 2000000 }) only [CALL, ↓VC2, ZP, VP, TT, Nat.reduceEqDiff, reduceCtorEq, Nat.reduceAdd, Nat.reduceSub, Nat.reduceLT, Nat.reduceMul, Nat.reducePow, Nat.reduceLeDiff, Int.reduceToNat, Int.reduceLE, Int.reduceLT, Int.reducePow, GOB, CX_FnNetworks, lawPost, SPV, instL_net, net_zero, netC_len z256 z16, DN.cells, hx, hy, hk, hbl, hkt, beq_self_eq_true, netC_len hb hA, ↓net_all hb hA]
    refine ⟨intCells_bs _, intCells_bs _, fun b3 hb3 => ?_⟩
    obtain rfl : b3 = true := hb3.2 trivial
    simp (config := { maxSteps := 2000000 }) only [CALL, ↓VC2, ZP, VP, TT, Nat.reduceEqDiff, reduceCtorEq, Nat.reduceAdd, Nat.reduceSub, Nat.reduceLT, Nat.reduceMul, Nat.reducePow, Nat.reduceLeDiff, Int.reduceToNat, Int.reduceLE, Int.reduceLT, Int.reducePow, GOB, CX_FnNetworks, lawPost, SPV, instL_net, net_zero, netC_len z256 z16, DN.cells, hx, hy, hk, hbl, beq_self_eq_true]
    exact ⟨_, [⟨false, bs l⟩], [0], rfl, by simp [-List.reduceReplicate, LES]⟩
theorem nw_round (hc : l.length ≤ c) (hm : l.length ≤ 4096) : kFrom cx_FnNetworks Try.f3 [10, 14, 19, 29, 32, 37, 43, 48] 43 lawPost (nwS l c) [⟨false, bs l⟩] := by
  simp only [kFrom, kFromK, kAt, Go.Vc.mark, lawPost, List.contains_cons, List.contains_nil, Nat.reduceBEq, Bool.or_false, Bool.false_or, Bool.true_or, Bool.or_true, Bool.false_eq_true, if_true, if_false, Nat.reduceAdd, Nat.reduceEqDiff, reduceCtorEq, Try.f3]
  simp only [CX_FnNetworks, SPV, lawPost, ↓VC2, ZP, VP, TT, Nat.reduceEqDiff, reduceCtorEq, Nat.reduceAdd, Nat.reduceSub, Nat.reduceLT, Nat.reduceMul, Nat.reducePow, Nat.reduceLeDiff, Int.reduceToNat, Int.reduceLE, Int.reduceLT, Int.reducePow, nwS]
  refine kCall_Ret (d_RoundOf hc hm) (by rfl) [(0, 0)] (by simp [CALL, SCB, instL_net, okL_net, instL_room, okL_room]) (by simp [CALL, SCB, instL_net, okL_net, instL_room, okL_room]) (by simp [CALL, SCB, instL_net, okL_net, instL_room, okL_room]) (by simp [okL_bs, okL_room, okL, okV, instL_net, okL_net, instL_room, okL_room]) (by simp [CALL, SCB, instL_net, okL_net, instL_room, okL_room]) fun x1 h1 => ?_
  obtain ⟨⟨z, b, A, k, n⟩, key, blk⟩ := x1
  obtain ⟨⟨hb, hA⟩, hk, hbl⟩ := h1
  simp only [DN.cells] at hb hA hk hbl ⊢
  obtain ⟨x, e, hx, S1, I1, P1⟩ := two_RoundOf z k n b A key blk hb hA hk hbl
  obtain ⟨y, e2, hy, S2, I2, P2⟩ := two_RoundBack z k n b A key blk hb hA hk hbl
  simp (config := { maxSteps := 2000000 }) only [CALL, ↓VC2, ZP, VP, TT, Nat.reduceEqDiff, reduceCtorEq, Nat.reduceAdd, Nat.reduceSub, Nat.reduceLT, Nat.reduceMul, Nat.reducePow, Nat.reduceLeDiff, Int.reduceToNat, Int.reduceLE, Int.reduceLT, Int.reducePow, GOB, CX_FnNetworks, lawPost, SPV, instL_net, net_zero, netC_len z256 z16, DN.cells, netC_len hb hA, hk, hbl, ↓net_put_all z256 z16 hb hA, netC_len hb hA, ↓net_all hb hA]
  refine kCall_val (I1) (by rfl) [] (by simp [CALL, SCB, instL_net, okL_net, instL_room, okL_room]) (by simp [CALL, SCB, instL_net, okL_net, instL_room, okL_room]) (by simp [CALL, SCB, instL_net, okL_net, instL_room, okL_room]) (by simp [okL_bs, okL_room, okL, okV, instL_net, okL_net, instL_room, okL_room]) ?_
  simp (config := { maxSteps := 2000000 }) only [CALL, ↓VC2, ZP, VP, TT, Nat.reduceEqDiff, reduceCtorEq, Nat.reduceAdd, Nat.reduceSub, Nat.reduceLT, Nat.reduceMul, Nat.reducePow, Nat.reduceLeDiff, Int.reduceToNat, Int.reduceLE, Int.reduceLT, Int.reducePow, GOB, CX_FnNetworks, lawPost, SPV, instL_net, net_zero, netC_len z256 z16, DN.cells, hk, hbl, hx, netC_len hb hA, ↓net_all hb hA]
  refine kCall_val (S1) (by rfl) [] (by simp [CALL, SCB, instL_net, okL_net, instL_room, okL_room]) (by simp [CALL, SCB, instL_net, okL_net, instL_room, okL_room]) (by simp [CALL, SCB, instL_net, okL_net, instL_room, okL_room]) (by simp [okL_bs, okL_room, okL, okV, instL_net, okL_net, instL_room, okL_room]) ?_
  simp (config := { maxSteps := 2000000 }) only [CALL, ↓VC2, ZP, VP, TT, Nat.reduceEqDiff, reduceCtorEq, Nat.reduceAdd, Nat.reduceSub, Nat.reduceLT, Nat.reduceMul, Nat.reducePow, Nat.reduceLeDiff, Int.reduceToNat, Int.reduceLE, Int.reduceLT, Int.reducePow, GOB, CX_FnNetworks, lawPost, SPV, instL_net, net_zero, netC_len z256 z16, DN.cells, hk, hbl, hx, netC_len hb hA, ↓net_all hb hA]
  refine kCall_val (I2) (by rfl) [] (by simp [CALL, SCB, instL_net, okL_net, instL_room, okL_room]) (by simp [CALL, SCB, instL_net, okL_net, instL_room, okL_room]) (by simp [CALL, SCB, instL_net, okL_net, instL_room, okL_room]) (by simp [okL_bs, okL_room, okL, okV, instL_net, okL_net, instL_room, okL_room]) ?_
  simp (config := { maxSteps := 2000000 }) only [CALL, ↓VC2, ZP, VP, TT, Nat.reduceEqDiff, reduceCtorEq, Nat.reduceAdd, Nat.reduceSub, Nat.reduceLT, Nat.reduceMul, Nat.reducePow, Nat.reduceLeDiff, Int.reduceToNat, Int.reduceLE, Int.reduceLT, Int.reducePow, GOB, CX_FnNetworks, lawPost, SPV, instL_net, net_zero, netC_len z256 z16, DN.cells, hk, hbl, hy, netC_len hb hA, ↓net_all hb hA]
  refine kCall_val (S2) (by rfl) [] (by simp [CALL, SCB, instL_net, okL_net, instL_room, okL_room]) (by simp [CALL, SCB, instL_net, okL_net, instL_room, okL_room]) (by simp [CALL, SCB, instL_net, okL_net, instL_room, okL_room]) (by simp [okL_bs, okL_room, okL, okV, instL_net, okL_net, instL_room, okL_room]) ?_
  simp (config := { maxSteps := 2000000 }) only [CALL, ↓VC2, ZP, VP, TT, Nat.reduceEqDiff, reduceCtorEq, Nat.reduceAdd, Nat.reduceSub, Nat.reduceLT, Nat.reduceMul, Nat.reducePow, Nat.reduceLeDiff, Int.reduceToNat, Int.reduceLE, Int.reduceLT, Int.reducePow, GOB, CX_FnNetworks, lawPost, SPV, instL_net, net_zero, netC_len z256 z16, DN.cells, hk, hbl, hx, hy, netC_len hb hA, ↓net_all hb hA]
  exact kMeet (nw_cmp (e2 := e2) hc hm hb hA hk hbl hx hy P1) (by kernel_rfl) ⟨[0, 1, 2, 3, 4, 5, 6, 7], by simp [-List.reduceReplicate, LES, CX_FnNetworks, SPL, List.drop_succ_cons, List.length_append, List.length_replicate, List.length_cons, okL_app, okL_rep, nwR, nwRH, renL_net, okL_net]⟩
abbrev nwF (l : List UInt8) (c : Nat) (e e2 : Int) : List V := ((.s 0 0 l.length c) :: (@HAppend.hAppend (List V) (List V) (List V) _ (List.replicate 25 V.j) ((.p 1 0) :: ((.p 2 0) :: ((.p 3 0) :: ((.p 4 0) :: ((.c (.int .i64 (e))) :: ((.p 5 0) :: ((.c (.int .i64 (e))) :: ((.p 6 0) :: ((.c (.int .i64 (e2))) :: ((.p 7 0) :: ((.c (.int .i64 (e2))) :: (List.replicate 314 .j))))))))))))))
theorem nw_fun2 (hc : l.length ≤ c) (hm : l.length ≤ 4096) {z k n e e2 : Int} {b A key blk x y : List UInt8} (hb : b.length = 256) (hA : A.length = 16) (hk : key.length = 8) (hbl : blk.length = 8) (hx : x.length = 8) (hy : y.length = 8)
    (P1 : (e ≠ 0 ∧ netB z b A k n = false) ∨ (e = 0 ∧ ∃ c : Net, z = c.m ∧ b = c.box ∧ A = c.A ∧ k = c.k ∧ n = c.n ∧ x = c.fn key blk)) : kFrom cx_FnNetworks Try.f3 [10, 14, 19, 29, 32, 37, 43, 48] 37 lawPost (nwF l c e e2) (nwRH l z k n b A key blk x y) := by
  simp only [kFrom, kFromK, kAt, Go.Vc.mark, lawPost, List.contains_cons, List.contains_nil, Nat.reduceBEq, Bool.or_false, Bool.false_or, Bool.true_or, Bool.or_true, Bool.false_eq_true, if_true, if_false, Nat.reduceAdd, Nat.reduceEqDiff, reduceCtorEq, Try.f3]
  simp only [CX_FnNetworks, SPV, lawPost, ↓VC2, ZP, VP, TT, Nat.reduceEqDiff, reduceCtorEq, Nat.reduceAdd, Nat.reduceSub, Nat.reduceLT, Nat.reduceMul, Nat.reducePow, Nat.reduceLeDiff, Int.reduceToNat, Int.reduceLE, Int.reduceLT, Int.reducePow, nwF, nwRH]
  simp (config := { maxSteps := 2000000 }) only [CALL, ↓VC2, ZP, VP, TT, Nat.reduceEqDiff, reduceCtorEq, Nat.reduceAdd, Nat.reduceSub, Nat.reduceLT, Nat.reduceMul, Nat.reducePow, Nat.reduceLeDiff, Int.reduceToNat, Int.reduceLE, Int.reduceLT, Int.reducePow, GOB, CX_FnNetworks, lawPost, SPV, instL_net, net_zero, netC_len z256 z16, DN.cells, hx, hy, bne_self_eq_false]
  refine ⟨intCells_bs _, intCells_bs _, fun b1 hb1 => ?_⟩
  obtain rfl : b1 = true := hb1.2 trivial
  simp (config := { maxSteps := 2000000 }) only [CALL, ↓VC2, ZP, VP, TT, Nat.reduceEqDiff, reduceCtorEq, Nat.reduceAdd, Nat.reduceSub, Nat.reduceLT, Nat.reduceMul, Nat.reducePow, Nat.reduceLeDiff, Int.reduceToNat, Int.reduceLE, Int.reduceLT, Int.reducePow, GOB, CX_FnNetworks, lawPost, SPV, instL_net, net_zero, netC_len z256 z16, DN.cells, hx, hy, bne_self_eq_false]
  refine ⟨intCells_bs _, intCells_bs _, fun b2 hb2 => ?_⟩
  obtain rfl : b2 = true := hb2.2 trivial
  have hkt : List.take 8 key = key := List.take_of_length_le (Nat.le_of_eq hk)
  simp (config := { maxSteps := 2000000 }) only [CALL, ↓VC2, ZP, VP, TT, Nat.reduceEqDiff, reduceCtorEq, Nat.reduceAdd, Nat.reduceSub, Nat.reduceLT, Nat.reduceMul, Nat.reducePow, Nat.reduceLeDiff, Int.reduceToNat, Int.reduceLE, Int.reduceLT, Int.reducePow, GOB, CX_FnNetworks, lawPost, SPV, instL_net, net_zero, netC_len z256 z16, DN.cells, hx, hy, hk, hbl, hkt, bne_self_eq_false, netC_len hb hA, ↓net_all hb hA]
  refine zIf (fun h => ?_) (fun h => ?_)
  · rcases P1 with ⟨he, _⟩ | ⟨rfl, d, rfl, rfl, rfl, rfl, rfl, hxe⟩
    · exact absurd (beq_iff_eq.1 h) he
    obtain ⟨o, e3, ho, _, I3, P3⟩ := two_InverseFunction d.m d.k d.n d.box d.A key x hb hA hk hx
    rcases P3 with ⟨_, hF⟩ | ⟨rfl, d', g1, g2, g3, g4, _, rfl⟩
    · rw [d.is] at hF; cases hF
    rw [same_fb g1 g2 g3, hxe, d.fb_fn key hbl, ← hxe] at I3
    refine kCall_val (I3) (by rfl) [] (by simp [CALL, SCB, instL_net, okL_net, instL_room, okL_room, hkt]) (by simp [CALL, SCB, instL_net, okL_net, instL_room, okL_room, hkt]) (by simp [CALL, SCB, instL_net, okL_net, instL_room, okL_room, hkt]) (by simp [okL_bs, okL_room, okL, okV, instL_net, okL_net, instL_room, okL_room, hkt]) ?_
    simp (config := { maxSteps := 2000000 }) only [CALL, ↓VC2, ZP, VP, TT, Nat.reduceEqDiff, reduceCtorEq, Nat.reduceAdd, Nat.reduceSub, Nat.reduceLT, Nat.reduceMul, Nat.reducePow, Nat.reduceLeDiff, Int.reduceToNat, Int.reduceLE, Int.reduceLT, Int.reducePow, GOB, CX_FnNetworks, lawPost, SPV, instL_net, net_zero, netC_len z256 z16, DN.cells, hx, hy, hk, hbl, hkt, bne_self_eq_false, netC_len hb hA, ↓net_all hb hA]
    refine ⟨intCells_bs _, intCells_bs _, fun b3 hb3 => ?_⟩
    obtain rfl : b3 = true := hb3.2 trivial
    simp (config := { maxSteps := 2000000 }) only [CALL, ↓VC2, ZP, VP, TT, Nat.reduceEqDiff, reduceCtorEq, Nat.reduceAdd, Nat.reduceSub, Nat.reduceLT, Nat.reduceMul, Nat.reducePow, Nat.reduceLeDiff, Int.reduceToNat, Int.reduceLE, Int.reduceLT, Int.reducePow, GOB, CX_FnNetworks, lawPost, SPV, instL_net, net_zero, netC_len z256 z16, DN.cells, hx, hy, hk, hbl, beq_self_eq_true]
    exact kMeet (nw_round hc hm) (by kernel_rfl) ⟨[0], by simp [-List.reduceReplicate, LES, CX_FnNetworks, SPL, List.drop_succ_cons, List.length_append, List.length_replicate, List.length_cons, okL_app, okL_rep, nwS]⟩
  · exact kMeet (nw_round hc hm) (by kernel_rfl) ⟨[0], by simp [-List.reduceReplicate, LES, CX_FnNetworks, SPL, List.drop_succ_cons, List.length_append, List.length_replicate, List.length_cons, okL_app, okL_rep, nwS]⟩
theorem nw_fun (hc : l.length ≤ c) (hm : l.length ≤ 4096) : kFrom cx_FnNetworks Try.f3 [10, 14, 19, 29, 32, 37, 43, 48] 32 lawPost (nwS l c) [⟨false, bs l⟩] := by
  simp only [kFrom, kFromK, kAt, Go.Vc.mark, lawPost, List.contains_cons, List.contains_nil, Nat.reduceBEq, Bool.or_false, Bool.false_or, Bool.true_or, Bool.or_true, Bool.false_eq_true, if_true, if_false, Nat.reduceAdd, Nat.reduceEqDiff, reduceCtorEq, Try.f3]
  simp only [CX_FnNetworks, SPV, lawPost, ↓VC2, ZP, VP, TT, Nat.reduceEqDiff, reduceCtorEq, Nat.reduceAdd, Nat.reduceSub, Nat.reduceLT, Nat.reduceMul, Nat.reducePow, Nat.reduceLeDiff, Int.reduceToNat, Int.reduceLE, Int.reduceLT, Int.reducePow, nwS]
  refine kCall_Ret (d_RoundFunction hc hm) (by rfl) [(0, 0)] (by simp [CALL, SCB, instL_net, okL_net, instL_room, okL_room]) (by simp [CALL, SCB, instL_net, okL_net, instL_room, okL_room]) (by simp [CALL, SCB, instL_net, okL_net, instL_room, okL_room]) (by simp [okL_bs, okL_room, okL, okV, instL_net, okL_net, instL_room, okL_room]) (by simp [CALL, SCB, instL_net, okL_net, instL_room, okL_room]) fun x1 h1 => ?_
  obtain ⟨⟨z, b, A, k, n⟩, key, blk⟩ := x1
  obtain ⟨⟨hb, hA⟩, hk, hbl⟩ := h1
  simp only [DN.cells] at hb hA hk hbl ⊢
  obtain ⟨x, e, hx, S1, I1, P1⟩ := two_RoundFunction z k n b A key blk hb hA hk hbl
  obtain ⟨y, e2, hy, S2, I2, P2⟩ := two_InverseFunction z k n b A key blk hb hA hk hbl
  simp (config := { maxSteps := 2000000 }) only [CALL, ↓VC2, ZP, VP, TT, Nat.reduceEqDiff, reduceCtorEq, Nat.reduceAdd, Nat.reduceSub, Nat.reduceLT, Nat.reduceMul, Nat.reducePow, Nat.reduceLeDiff, Int.reduceToNat, Int.reduceLE, Int.reduceLT, Int.reducePow, GOB, CX_FnNetworks, lawPost, SPV, instL_net, net_zero, netC_len z256 z16, DN.cells, netC_len hb hA, hk, hbl, ↓net_put_all z256 z16 hb hA, netC_len hb hA, ↓net_all hb hA]
  refine kCall_val (I1) (by rfl) [] (by simp [CALL, SCB, instL_net, okL_net, instL_room, okL_room]) (by simp [CALL, SCB, instL_net, okL_net, instL_room, okL_room]) (by simp [CALL, SCB, instL_net, okL_net, instL_room, okL_room]) (by simp [okL_bs, okL_room, okL, okV, instL_net, okL_net, instL_room, okL_room]) ?_
  simp (config := { maxSteps := 2000000 }) only [CALL, ↓VC2, ZP, VP, TT, Nat.reduceEqDiff, reduceCtorEq, Nat.reduceAdd, Nat.reduceSub, Nat.reduceLT, Nat.reduceMul, Nat.reducePow, Nat.reduceLeDiff, Int.reduceToNat, Int.reduceLE, Int.reduceLT, Int.reducePow, GOB, CX_FnNetworks, lawPost, SPV, instL_net, net_zero, netC_len z256 z16, DN.cells, hk, hbl, hx, netC_len hb hA, ↓net_all hb hA]
  refine kCall_val (S1) (by rfl) [] (by simp [CALL, SCB, instL_net, okL_net, instL_room, okL_room]) (by simp [CALL, SCB, instL_net, okL_net, instL_room, okL_room]) (by simp [CALL, SCB, instL_net, okL_net, instL_room, okL_room]) (by simp [okL_bs, okL_room, okL, okV, instL_net, okL_net, instL_room, okL_room]) ?_
  simp (config := { maxSteps := 2000000 }) only [CALL, ↓VC2, ZP, VP, TT, Nat.reduceEqDiff, reduceCtorEq, Nat.reduceAdd, Nat.reduceSub, Nat.reduceLT, Nat.reduceMul, Nat.reducePow, Nat.reduceLeDiff, Int.reduceToNat, Int.reduceLE, Int.reduceLT, Int.reducePow, GOB, CX_FnNetworks, lawPost, SPV, instL_net, net_zero, netC_len z256 z16, DN.cells, hk, hbl, hx, netC_len hb hA, ↓net_all hb hA]
  refine kCall_val (I2) (by rfl) [] (by simp [CALL, SCB, instL_net, okL_net, instL_room, okL_room]) (by simp [CALL, SCB, instL_net, okL_net, instL_room, okL_room]) (by simp [CALL, SCB, instL_net, okL_net, instL_room, okL_room]) (by simp [okL_bs, okL_room, okL, okV, instL_net, okL_net, instL_room, okL_room]) ?_
  simp (config := { maxSteps := 2000000 }) only [CALL, ↓VC2, ZP, VP, TT, Nat.reduceEqDiff, reduceCtorEq, Nat.reduceAdd, Nat.reduceSub, Nat.reduceLT, Nat.reduceMul, Nat.reducePow, Nat.reduceLeDiff, Int.reduceToNat, Int.reduceLE, Int.reduceLT, Int.reducePow, GOB, CX_FnNetworks, lawPost, SPV, instL_net, net_zero, netC_len z256 z16, DN.cells, hk, hbl, hy, netC_len hb hA, ↓net_all hb hA]
  refine kCall_val (S2) (by rfl) [] (by simp [CALL, SCB, instL_net, okL_net, instL_room, okL_room]) (by simp [CALL, SCB, instL_net, okL_net, instL_room, okL_room]) (by simp [CALL, SCB, instL_net, okL_net, instL_room, okL_room]) (by simp [okL_bs, okL_room, okL, okV, instL_net, okL_net, instL_room, okL_room]) ?_
  simp (config := { maxSteps := 2000000 }) only [CALL, ↓VC2, ZP, VP, TT, Nat.reduceEqDiff, reduceCtorEq, Nat.reduceAdd, Nat.reduceSub, Nat.reduceLT, Nat.reduceMul, Nat.reducePow, Nat.reduceLeDiff, Int.reduceToNat, Int.reduceLE, Int.reduceLT, Int.reducePow, GOB, CX_FnNetworks, lawPost, SPV, instL_net, net_zero, netC_len z256 z16, DN.cells, hk, hbl, hx, hy, netC_len hb hA, ↓net_all hb hA]
  exact kMeet (nw_fun2 (e2 := e2) hc hm hb hA hk hbl hx hy P1) (by kernel_rfl) ⟨[0, 1, 2, 3, 4, 5, 6, 7], by simp [-List.reduceReplicate, LES, CX_FnNetworks, SPL, List.drop_succ_cons, List.length_append, List.length_replicate, List.length_cons, okL_app, okL_rep, nwF, nwRH, renL_net, okL_net]⟩
end
end Go.Proofs.Ytjakgjelnbpmnaa

import Derived.Test.YtjakgjelnbpmnaaNetN
import Derived.Test.YtjakgjelnbpmnaaNetT
import Derived.Test.YtjakgjelnbpmnaaDrawW
import Derived.Test.YtjakgjelnbpmnaaDrawC
/- FnNetworks: running back undoes running, rounds back undo rounds, round functions have inverses, and halves run back as forward with the keys in the other order. In sections. -/
set_option linter.unusedSimpArgs false
set_option linter.unusedVariables false
namespace Go.Proofs.Ytjakgjelnbpmnaa
open Go Go.Vc
set_option maxRecDepth 10000
set_option maxHeartbeats 40000000
section
variable {l : List UInt8} {c : Nat}
theorem nw_net (hc : l.length ≤ c) (hm : l.length ≤ 4096) {z k n e : Int} {b A blk x : List UInt8} (hb : b.length = 256) (hA : A.length = 16) (hbl : blk.length = 16) (hx : x.length = 16) {o m r : Nat} {F D : List UInt8} (ho : o ≤ 1) (hmm : m ≤ 100) (hF : F.length = 8 * (o + m)) (hDe : F.drop (8 * o) = D) (hD : D.length = 8 * m)
    (hT : ∀ X, List.take D.length (List.drop (8 * o) (bs F ++ X)) = bs D)
    (P1 : e ≠ 0 ∨ (e = 0 ∧ ∃ c : Net, z = c.m ∧ b = c.box ∧ A = c.A ∧ k = c.k ∧ n = c.n ∧ m = c.n ∧ x = c.run D blk m)) : kFrom cx_FnNetworks Try.f3 [10, 14, 19, 29, 32, 37, 43, 48] 10 lawPost (nwA l c o m r e) (nwAH l F r z k n b A blk x) := by
  simp only [kFrom, kFromK, kAt, Go.Vc.mark, lawPost, List.contains_cons, List.contains_nil, Nat.reduceBEq, Bool.or_false, Bool.false_or, Bool.true_or, Bool.or_true, Bool.false_eq_true, if_true, if_false, Nat.reduceAdd, Nat.reduceEqDiff, reduceCtorEq, Try.f3]
  simp only [CX_FnNetworks, SPV, lawPost, ↓VC2, ZP, VP, TT, Nat.reduceEqDiff, reduceCtorEq, Nat.reduceAdd, Nat.reduceSub, Nat.reduceLT, Nat.reduceMul, Nat.reducePow, Nat.reduceLeDiff, Int.reduceToNat, Int.reduceLE, Int.reduceLT, Int.reducePow, nwA, nwAH]
  refine zIf (fun h => ?_) (fun h => ?_)
  · rcases P1 with he | ⟨rfl, d, rfl, rfl, rfl, rfl, rfl, hq, hxe⟩
    · exact absurd (beq_iff_eq.1 h) he
    have I3 := k_impl_back d m (m + r) D x hD (by omega) (by omega) hx hq
    rw [hxe, run_back hbl, ← hxe] at I3
    unfold Net.cells at I3
    simp (config := { maxSteps := 2000000 }) only [CALL, ↓VC2, ZP, VP, TT, Nat.reduceEqDiff, reduceCtorEq, Nat.reduceAdd, Nat.reduceSub, Nat.reduceLT, Nat.reduceMul, Nat.reducePow, Nat.reduceLeDiff, Int.reduceToNat, Int.reduceLE, Int.reduceLT, Int.reducePow, GOB, CX_FnNetworks, lawPost, SPV, instL_net, net_zero, netC_len z256 z16, DN.cells, hx, hbl, netC_len hb hA, ↓net_all hb hA]
    have hxt : List.take 16 x = x := List.take_of_length_le (Nat.le_of_eq hx)
    refine kCall_val (I3) (by rfl) [(1, 8 * o)] (by simp [CALL, SCB, instL_net, okL_net, instL_room, okL_room, hT, hxt]) (by simp [CALL, SCB, instL_net, okL_net, instL_room, okL_room, hT, hxt]) (by simp [CALL, SCB, instL_net, okL_net, instL_room, okL_room, hT, hxt]) (by simp [okL_bs, okL_room, okL, okV, instL_net, okL_net, instL_room, okL_room, hT, hxt]) ?_
    simp (config := { maxSteps := 2000000 }) only [CALL, ↓VC2, ZP, VP, TT, Nat.reduceEqDiff, reduceCtorEq, Nat.reduceAdd, Nat.reduceSub, Nat.reduceLT, Nat.reduceMul, Nat.reducePow, Nat.reduceLeDiff, Int.reduceToNat, Int.reduceLE, Int.reduceLT, Int.reducePow, GOB, CX_FnNetworks, lawPost, SPV, instL_net, net_zero, netC_len z256 z16, DN.cells, hx, hbl, hxt, bne_self_eq_false, netC_len hb hA, ↓net_all hb hA]
    refine ⟨intCells_bs _, intCells_bs _, fun b3 hb3 => ?_⟩
    obtain rfl : b3 = true := hb3.2 trivial
    simp (config := { maxSteps := 2000000 }) only [CALL, ↓VC2, ZP, VP, TT, Nat.reduceEqDiff, reduceCtorEq, Nat.reduceAdd, Nat.reduceSub, Nat.reduceLT, Nat.reduceMul, Nat.reducePow, Nat.reduceLeDiff, Int.reduceToNat, Int.reduceLE, Int.reduceLT, Int.reducePow, GOB, CX_FnNetworks, lawPost, SPV, instL_net, net_zero, netC_len z256 z16, DN.cells, hx, hbl, beq_self_eq_true]
    subst hxe
    exact kMeet (nw_kind (r := r) hc hm d hbl ho hF hDe hD hq hT) (by kernel_rfl) ⟨[0, 1, 2, 3, 4], by simp [-List.reduceReplicate, LES, CX_FnNetworks, SPL, List.drop_succ_cons, List.length_append, List.length_replicate, List.length_cons, okL_app, okL_rep, nwA, nwAH, renL_net, okL_net]⟩
  · exact kMeet (nw_fun hc hm) (by kernel_rfl) ⟨[0], by simp [-List.reduceReplicate, LES, CX_FnNetworks, SPL, List.drop_succ_cons, List.length_append, List.length_replicate, List.length_cons, okL_app, okL_rep, nwS]⟩
end
theorem law_FnNetworks (l : List UInt8) (c : Nat) (hc : l.length ≤ c) (hmc : c ≤ maxLen) : LC Try.prog 3 [.s 0 0 l.length c] [⟨false, bs l⟩] (fun v _ => v = .c (.bool true)) := by
  refine LC_ofM (X := cx_FnNetworks) [10, 14, 19, 29, 32, 37, 43, 48] envOK Try.func3 (by kernel_rfl) (ord_two (by kernel_rfl)) rfl (Nat.le_of_ble_eq_true (by kernel_rfl)) ?_
  simp only [kFunM, Go.Vc.mark, List.contains_cons, List.contains_nil, Nat.reduceBEq, Bool.or_false, Bool.false_or, Bool.true_or, Bool.or_true, Bool.false_eq_true, if_true, if_false, Nat.reduceAdd, Nat.reduceEqDiff, Try.f3, List.length_nil, List.length_cons, Nat.sub_zero, Nat.reduceSub, List.nil_append, List.cons_append]
  simp only [CX_FnNetworks, SPV, ↓VC2, ZP, VP, TT, Nat.reduceEqDiff, reduceCtorEq, Nat.reduceAdd, Nat.reduceSub, Nat.reduceLT, Nat.reduceMul, Nat.reducePow, Nat.reduceLeDiff, Int.reduceToNat, Int.reduceLE, Int.reduceLT, Int.reducePow]
  refine kCall_val (d_big (l := l) (c := c) (by omega)) (by rfl) [(0, 0)] (by simp [CALL, SCB, instL_net, okL_net, instL_room, okL_room]) (by simp [CALL, SCB, instL_net, okL_net, instL_room, okL_room]) (by simp [CALL, SCB, instL_net, okL_net, instL_room, okL_room]) (by simp [okL_bs, okL_room, okL, okV, instL_net, okL_net, instL_room, okL_room]) ?_
  simp (config := { maxSteps := 2000000 }) only [CALL, ↓VC2, ZP, VP, TT, Nat.reduceEqDiff, reduceCtorEq, Nat.reduceAdd, Nat.reduceSub, Nat.reduceLT, Nat.reduceMul, Nat.reducePow, Nat.reduceLeDiff, Int.reduceToNat, Int.reduceLE, Int.reduceLT, Int.reducePow, GOB, CX_FnNetworks, lawPost, SPV, instL_net, net_zero, netC_len z256 z16, DN.cells]
  refine zIf (fun _ => ⟨_, [⟨false, bs l⟩], [0], rfl, by simp [-List.reduceReplicate, LES]⟩) (fun h => ?_)
  have hm : l.length ≤ 4096 := by simpa using h
  clear h
  refine kCall_Ret (d_RunNetwork hc hm) (by rfl) [(0, 0)] (by simp [CALL, SCB, instL_net, okL_net, instL_room, okL_room]) (by simp [CALL, SCB, instL_net, okL_net, instL_room, okL_room]) (by simp [CALL, SCB, instL_net, okL_net, instL_room, okL_room]) (by simp [okL_bs, okL_room, okL, okV, instL_net, okL_net, instL_room, okL_room]) (by simp [CALL, SCB, instL_net, okL_net, instL_room, okL_room]) fun x1 h1 => ?_
  obtain ⟨⟨z, b, A, k, n⟩, ⟨o, m, F, r⟩, blk⟩ := x1
  obtain ⟨⟨hb, hA⟩, ⟨ho, hmm, hF⟩, hbl⟩ := h1
  simp only [DN.cells] at hb hA ho hmm hF hbl ⊢
  have hD : (F.drop (8 * o)).length = 8 * m := by rw [List.length_drop]; omega
  have hT : ∀ X, List.take (F.drop (8 * o)).length (List.drop (8 * o) (bs F ++ X)) = bs (F.drop (8 * o)) := fun X => by
    rw [List.drop_append_of_le_length (by rw [bs_length]; omega), List.take_append_of_le_length (Nat.le_of_eq (by simp [bs_length])), bs_drop, List.take_of_length_le (Nat.le_of_eq (by simp [bs_length]))]
  obtain ⟨D, hDe⟩ : ∃ D, F.drop (8 * o) = D := ⟨_, rfl⟩
  rw [hDe] at hD hT
  obtain ⟨x, e, hx, S1, I1, P1⟩ := two_Run z k n b A blk hb hA hbl m (m + r) D hD (by omega) (by omega)
  obtain ⟨y, e2, hy, S2, I2⟩ := two_Bak z k n b A blk hb hA hbl m (m + r) D hD (by omega) (by omega)
  simp (config := { maxSteps := 2000000 }) only [CALL, ↓VC2, ZP, VP, TT, Nat.reduceEqDiff, reduceCtorEq, Nat.reduceAdd, Nat.reduceSub, Nat.reduceLT, Nat.reduceMul, Nat.reducePow, Nat.reduceLeDiff, Int.reduceToNat, Int.reduceLE, Int.reduceLT, Int.reducePow, GOB, CX_FnNetworks, lawPost, SPV, instL_net, net_zero, netC_len z256 z16, DN.cells, hbl, ↓net_put_all z256 z16 hb hA, netC_len hb hA, ↓net_all hb hA]
  refine kCall_val (I1) (by rfl) [(1, 8 * o)] (by simp [CALL, SCB, instL_net, okL_net, instL_room, okL_room, hT]) (by simp [CALL, SCB, instL_net, okL_net, instL_room, okL_room, hT]) (by simp [CALL, SCB, instL_net, okL_net, instL_room, okL_room, hT]) (by simp [okL_bs, okL_room, okL, okV, instL_net, okL_net, instL_room, okL_room, hT]) ?_
  simp (config := { maxSteps := 2000000 }) only [CALL, ↓VC2, ZP, VP, TT, Nat.reduceEqDiff, reduceCtorEq, Nat.reduceAdd, Nat.reduceSub, Nat.reduceLT, Nat.reduceMul, Nat.reducePow, Nat.reduceLeDiff, Int.reduceToNat, Int.reduceLE, Int.reduceLT, Int.reducePow, GOB, CX_FnNetworks, lawPost, SPV, instL_net, net_zero, netC_len z256 z16, DN.cells, hbl, hx, netC_len hb hA, ↓net_all hb hA]
  refine kCall_val (S1) (by rfl) [(1, 8 * o)] (by simp [CALL, SCB, instL_net, okL_net, instL_room, okL_room, hT]) (by simp [CALL, SCB, instL_net, okL_net, instL_room, okL_room, hT]) (by simp [CALL, SCB, instL_net, okL_net, instL_room, okL_room, hT]) (by simp [okL_bs, okL_room, okL, okV, instL_net, okL_net, instL_room, okL_room, hT]) ?_
  simp (config := { maxSteps := 2000000 }) only [CALL, ↓VC2, ZP, VP, TT, Nat.reduceEqDiff, reduceCtorEq, Nat.reduceAdd, Nat.reduceSub, Nat.reduceLT, Nat.reduceMul, Nat.reducePow, Nat.reduceLeDiff, Int.reduceToNat, Int.reduceLE, Int.reduceLT, Int.reducePow, GOB, CX_FnNetworks, lawPost, SPV, instL_net, net_zero, netC_len z256 z16, DN.cells, hbl, hx, netC_len hb hA, ↓net_all hb hA]
  refine kCall_val (I2) (by rfl) [(1, 8 * o)] (by simp [CALL, SCB, instL_net, okL_net, instL_room, okL_room, hT]) (by simp [CALL, SCB, instL_net, okL_net, instL_room, okL_room, hT]) (by simp [CALL, SCB, instL_net, okL_net, instL_room, okL_room, hT]) (by simp [okL_bs, okL_room, okL, okV, instL_net, okL_net, instL_room, okL_room, hT]) ?_
  simp (config := { maxSteps := 2000000 }) only [CALL, ↓VC2, ZP, VP, TT, Nat.reduceEqDiff, reduceCtorEq, Nat.reduceAdd, Nat.reduceSub, Nat.reduceLT, Nat.reduceMul, Nat.reducePow, Nat.reduceLeDiff, Int.reduceToNat, Int.reduceLE, Int.reduceLT, Int.reducePow, GOB, CX_FnNetworks, lawPost, SPV, instL_net, net_zero, netC_len z256 z16, DN.cells, hbl, hy, netC_len hb hA, ↓net_all hb hA]
  refine kCall_val (S2) (by rfl) [(1, 8 * o)] (by simp [CALL, SCB, instL_net, okL_net, instL_room, okL_room, hT]) (by simp [CALL, SCB, instL_net, okL_net, instL_room, okL_room, hT]) (by simp [CALL, SCB, instL_net, okL_net, instL_room, okL_room, hT]) (by simp [okL_bs, okL_room, okL, okV, instL_net, okL_net, instL_room, okL_room, hT]) ?_
  simp (config := { maxSteps := 2000000 }) only [CALL, ↓VC2, ZP, VP, TT, Nat.reduceEqDiff, reduceCtorEq, Nat.reduceAdd, Nat.reduceSub, Nat.reduceLT, Nat.reduceMul, Nat.reducePow, Nat.reduceLeDiff, Int.reduceToNat, Int.reduceLE, Int.reduceLT, Int.reducePow, GOB, CX_FnNetworks, lawPost, SPV, instL_net, net_zero, netC_len z256 z16, DN.cells, hbl, hx, hy, bne_self_eq_false, netC_len hb hA, ↓net_all hb hA]
  refine ⟨intCells_bs _, intCells_bs _, fun b1 hb1 => ?_⟩
  obtain rfl : b1 = true := hb1.2 trivial
  simp (config := { maxSteps := 2000000 }) only [CALL, ↓VC2, ZP, VP, TT, Nat.reduceEqDiff, reduceCtorEq, Nat.reduceAdd, Nat.reduceSub, Nat.reduceLT, Nat.reduceMul, Nat.reducePow, Nat.reduceLeDiff, Int.reduceToNat, Int.reduceLE, Int.reduceLT, Int.reducePow, GOB, CX_FnNetworks, lawPost, SPV, instL_net, net_zero, netC_len z256 z16, DN.cells, hx, hy, bne_self_eq_false]
  refine ⟨intCells_bs _, intCells_bs _, fun b2 hb2 => ?_⟩
  obtain rfl : b2 = true := hb2.2 trivial
  simp (config := { maxSteps := 2000000 }) only [CALL, ↓VC2, ZP, VP, TT, Nat.reduceEqDiff, reduceCtorEq, Nat.reduceAdd, Nat.reduceSub, Nat.reduceLT, Nat.reduceMul, Nat.reducePow, Nat.reduceLeDiff, Int.reduceToNat, Int.reduceLE, Int.reduceLT, Int.reducePow, GOB, CX_FnNetworks, lawPost, SPV, instL_net, net_zero, netC_len z256 z16, DN.cells, hx, hy, hbl, bne_self_eq_false, netC_len hb hA, ↓net_all hb hA]
  refine kCall_val (c_impl_IsNetwork z k n b A hb hA) (by rfl) [] (by simp [CALL, SCB, instL_net, okL_net, instL_room, okL_room, instL_net, okL_net]) (by simp [CALL, SCB, instL_net, okL_net, instL_room, okL_room, instL_net, okL_net]) (by simp [CALL, SCB, instL_net, okL_net, instL_room, okL_room, instL_net, okL_net]) (by simp [okL_bs, okL_room, okL, okV, instL_net, okL_net, instL_room, okL_room, instL_net, okL_net]) ?_
  simp (config := { maxSteps := 2000000 }) only [CALL, ↓VC2, ZP, VP, TT, Nat.reduceEqDiff, reduceCtorEq, Nat.reduceAdd, Nat.reduceSub, Nat.reduceLT, Nat.reduceMul, Nat.reducePow, Nat.reduceLeDiff, Int.reduceToNat, Int.reduceLE, Int.reduceLT, Int.reducePow, GOB, CX_FnNetworks, lawPost, SPV, instL_net, net_zero, netC_len z256 z16, DN.cells, hx, hy, hbl, bne_self_eq_false, netC_len hb hA, ↓net_all hb hA]
  refine kCall_val (c_spec_IsNetwork z k n b A hb hA) (by rfl) [] (by simp [CALL, SCB, instL_net, okL_net, instL_room, okL_room, instL_net, okL_net]) (by simp [CALL, SCB, instL_net, okL_net, instL_room, okL_room, instL_net, okL_net]) (by simp [CALL, SCB, instL_net, okL_net, instL_room, okL_room, instL_net, okL_net]) (by simp [okL_bs, okL_room, okL, okV, instL_net, okL_net, instL_room, okL_room, instL_net, okL_net]) ?_
  simp (config := { maxSteps := 2000000 }) only [CALL, ↓VC2, ZP, VP, TT, Nat.reduceEqDiff, reduceCtorEq, Nat.reduceAdd, Nat.reduceSub, Nat.reduceLT, Nat.reduceMul, Nat.reducePow, Nat.reduceLeDiff, Int.reduceToNat, Int.reduceLE, Int.reduceLT, Int.reducePow, GOB, CX_FnNetworks, lawPost, SPV, instL_net, net_zero, netC_len z256 z16, DN.cells, hx, hy, hbl, bne_self_eq_false, netC_len hb hA, ↓net_all hb hA]
  rw [if_neg (by simp)]
  exact kMeet (nw_net (r := r) hc hm hb hA hbl hx ho hmm hF hDe hD hT P1) (by kernel_rfl) ⟨[0, 1, 2, 3, 4], by simp [-List.reduceReplicate, LES, CX_FnNetworks, SPL, List.drop_succ_cons, List.length_append, List.length_replicate, List.length_cons, okL_app, okL_rep, nwA, nwAH, renL_net, okL_net]⟩
end Go.Proofs.Ytjakgjelnbpmnaa

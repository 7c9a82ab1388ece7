import Derived.Test.YtjakgjelnbpmnaaNetY
import Derived.Test.YtjakgjelnbpmnaaNetS
import Derived.Test.YtjakgjelnbpmnaaNetQ
/- FnNetworks: its sections from region 14 on: networks of halves, the keys turned and changed. -/
set_option linter.unusedSimpArgs false
set_option linter.unusedVariables false
namespace Go.Proofs.Ytjakgjelnbpmnaa
open Go Go.Vc
set_option maxRecDepth 10000
set_option maxHeartbeats 40000000
section
variable {l : List UInt8} {c : Nat}
abbrev nwA (l : List UInt8) (c o m r : Nat) (e : Int) : List V := ((.s 0 0 l.length c) :: (@HAppend.hAppend (List V) (List V) (List V) _ (List.replicate 2 V.j) ((.p 2 0) :: ((.s 1 (8 * o) m (m + r)) :: ((.p 3 0) :: ((.p 4 0) :: ((.c (.int .i64 (e))) :: (List.replicate 343 .j))))))))
abbrev nwAH (l F : List UInt8) (r : Nat) (z k n : Int) (b A blk x : List UInt8) : List Blk := [⟨false, bs l⟩, ⟨true, bs F ++ List.replicate (8 * r) .j⟩, ⟨true, netC z b A k n⟩, ⟨true, bs blk⟩, ⟨true, bs x⟩]
/-- The keys are changed: the complement's run is the run's complement. -/
abbrev nwC (l : List UInt8) (c m r : Nat) : List V := ((.s 0 0 l.length c) :: (@HAppend.hAppend (List V) (List V) (List V) _ (List.replicate 2 V.j) ((.p 1 0) :: (@HAppend.hAppend (List V) (List V) (List V) _ (List.replicate 1 V.j) ((.p 2 0) :: ((.p 3 0) :: (@HAppend.hAppend (List V) (List V) (List V) _ (List.replicate 13 V.j) ((.s 4 0 m (m + r)) :: (List.replicate 330 .j)))))))))
abbrev nwCH (l : List UInt8) (d : Net) (blk x C : List UInt8) (r : Nat) : List Blk := [⟨false, bs l⟩, ⟨true, netC d.m d.box d.A d.k d.n⟩, ⟨true, bs blk⟩, ⟨true, bs x⟩, ⟨true, bs C ++ List.replicate (8 * r) .j⟩]
theorem nw_cmpl (hc : l.length ≤ c) (hm : l.length ≤ 4096) (d : Net) (hk0 : d.k = 0) {blk : List UInt8} (hbl : blk.length = 16) {m r : Nat} {C D : List UInt8} (hC : C.length = 8 * m) (hmm : m ≤ 100) (hq : m = d.n) (hCD : ∀ i, i < m → hfA C i = cmpN 8 (hfA D i)) : kFrom cx_FnNetworks Try.f3 [10, 14, 19, 29, 32, 37, 43, 48] 29 lawPost (nwC l c m r) (nwCH l d blk (d.run D blk m) C r) := by
  have hx : (d.run D blk m).length = 16 := run_len hbl m
  have hcb := cmpN_len 16 blk
  have hcx := cmpN_len 16 (d.run D blk m)
  have I1 := k_impl_run d m (m + r) C (cmpN 16 blk) hC (by omega) (by omega) hcb hq
  rw [run_cmp hk0 hbl hCD m (Nat.le_refl _)] at I1
  unfold Net.cells at I1
  have hT : ∀ X, List.take C.length (bs C ++ X) = bs C := fun X => by rw [List.take_append_of_le_length (by rw [bs_length]; exact Nat.le_refl _), List.take_of_length_le (by rw [bs_length]; exact Nat.le_refl _)]
  simp only [kFrom, kFromK, kAt, Go.Vc.mark, lawPost, List.contains_cons, List.contains_nil, Nat.reduceBEq, Bool.or_false, Bool.false_or, Bool.true_or, Bool.or_true, Bool.false_eq_true, if_true, if_false, Nat.reduceAdd, Nat.reduceEqDiff, reduceCtorEq, Try.f3]
  simp only [CX_FnNetworks, SPV, lawPost, ↓VC2, ZP, VP, TT, Nat.reduceEqDiff, reduceCtorEq, Nat.reduceAdd, Nat.reduceSub, Nat.reduceLT, Nat.reduceMul, Nat.reducePow, Nat.reduceLeDiff, Int.reduceToNat, Int.reduceLE, Int.reduceLT, Int.reducePow, nwC, nwCH, hx, hbl, netC_len d.hb d.hA, ↓net_all d.hb d.hA]
  have hkt : List.take 16 blk = blk := List.take_of_length_le (Nat.le_of_eq hbl)
  have hxt : List.take 16 (d.run D blk m) = d.run D blk m := List.take_of_length_le (Nat.le_of_eq hx)
  have hct : List.take 16 (cmpN 16 blk) = cmpN 16 blk := List.take_of_length_le (Nat.le_of_eq hcb)
  refine kCall_val (c_impl_ComplementOf blk hbl) (by rfl) [] (by simp [CALL, SCB, instL_net, okL_net, instL_room, okL_room, hkt]) (by simp [CALL, SCB, instL_net, okL_net, instL_room, okL_room, hkt]) (by simp [CALL, SCB, instL_net, okL_net, instL_room, okL_room, hkt]) (by simp [okL_bs, okL_room, okL, okV, instL_net, okL_net, instL_room, okL_room, hkt]) ?_
  simp (config := { maxSteps := 2000000 }) only [CALL, ↓VC2, ZP, VP, TT, Nat.reduceEqDiff, reduceCtorEq, Nat.reduceAdd, Nat.reduceSub, Nat.reduceLT, Nat.reduceMul, Nat.reducePow, Nat.reduceLeDiff, Int.reduceToNat, Int.reduceLE, Int.reduceLT, Int.reducePow, GOB, CX_FnNetworks, lawPost, SPV, instL_net, net_zero, netC_len z256 z16, DN.cells, hx, hbl, hcb, hkt, hxt, hct, netC_len d.hb d.hA, ↓net_all d.hb d.hA]
  refine kCall_val (I1) (by rfl) [(4, 0)] (by simp [CALL, SCB, instL_net, okL_net, instL_room, okL_room, hT, hct]) (by simp [CALL, SCB, instL_net, okL_net, instL_room, okL_room, hT, hct]) (by simp [CALL, SCB, instL_net, okL_net, instL_room, okL_room, hT, hct]) (by simp [okL_bs, okL_room, okL, okV, instL_net, okL_net, instL_room, okL_room, hT, hct]) ?_
  simp (config := { maxSteps := 2000000 }) only [CALL, ↓VC2, ZP, VP, TT, Nat.reduceEqDiff, reduceCtorEq, Nat.reduceAdd, Nat.reduceSub, Nat.reduceLT, Nat.reduceMul, Nat.reducePow, Nat.reduceLeDiff, Int.reduceToNat, Int.reduceLE, Int.reduceLT, Int.reducePow, GOB, CX_FnNetworks, lawPost, SPV, instL_net, net_zero, netC_len z256 z16, DN.cells, hx, hbl, hcb, hcx, hkt, hxt, bne_self_eq_false, netC_len d.hb d.hA, ↓net_all d.hb d.hA]
  refine kCall_val (c_impl_ComplementOf (d.run D blk m) hx) (by rfl) [] (by simp [CALL, SCB, instL_net, okL_net, instL_room, okL_room, hxt]) (by simp [CALL, SCB, instL_net, okL_net, instL_room, okL_room, hxt]) (by simp [CALL, SCB, instL_net, okL_net, instL_room, okL_room, hxt]) (by simp [okL_bs, okL_room, okL, okV, instL_net, okL_net, instL_room, okL_room, hxt]) ?_
  simp (config := { maxSteps := 2000000 }) only [CALL, ↓VC2, ZP, VP, TT, Nat.reduceEqDiff, reduceCtorEq, Nat.reduceAdd, Nat.reduceSub, Nat.reduceLT, Nat.reduceMul, Nat.reducePow, Nat.reduceLeDiff, Int.reduceToNat, Int.reduceLE, Int.reduceLT, Int.reducePow, GOB, CX_FnNetworks, lawPost, SPV, instL_net, net_zero, netC_len z256 z16, DN.cells, hx, hbl, hcb, hcx, bne_self_eq_false]
  refine ⟨intCells_bs _, intCells_bs _, fun b3 hb3 => ?_⟩
  obtain rfl : b3 = true := hb3.2 trivial
  simp (config := { maxSteps := 2000000 }) only [CALL, ↓VC2, ZP, VP, TT, Nat.reduceEqDiff, reduceCtorEq, Nat.reduceAdd, Nat.reduceSub, Nat.reduceLT, Nat.reduceMul, Nat.reducePow, Nat.reduceLeDiff, Int.reduceToNat, Int.reduceLE, Int.reduceLT, Int.reducePow, GOB, CX_FnNetworks, lawPost, SPV, instL_net, net_zero, netC_len z256 z16, DN.cells, hx, hbl, hcx, bne_self_eq_false, beq_self_eq_true]
  exact kMeet (nw_fun hc hm) (by kernel_rfl) ⟨[0], by simp [-List.reduceReplicate, LES, CX_FnNetworks, SPL, List.drop_succ_cons, List.length_append, List.length_replicate, List.length_cons, okL_app, okL_rep, nwS]⟩
/-- The keys are changed one by one. -/
abbrev nwT (l : List UInt8) (c o m r : Nat) : List V := ((.s 0 0 l.length c) :: (@HAppend.hAppend (List V) (List V) (List V) _ (List.replicate 2 V.j) ((.p 2 0) :: ((.s 1 (8 * o) m (m + r)) :: ((.p 3 0) :: ((.p 4 0) :: (List.replicate 344 .j)))))))
abbrev nwTI (l : List UInt8) (c o m r i r2 : Nat) : List V := ((.s 0 0 l.length c) :: (@HAppend.hAppend (List V) (List V) (List V) _ (List.replicate 2 V.j) ((.p 2 0) :: ((.s 1 (8 * o) m (m + r)) :: ((.p 3 0) :: ((.p 4 0) :: (@HAppend.hAppend (List V) (List V) (List V) _ (List.replicate 13 V.j) ((.s 5 0 i (i + r2)) :: ((.c (.int .i64 (i))) :: (List.replicate 329 .j))))))))))
abbrev nwTK (l : List UInt8) (c o m r i r2 k : Nat) : List V := ((.s 0 0 l.length c) :: (@HAppend.hAppend (List V) (List V) (List V) _ (List.replicate 2 V.j) ((.p 2 0) :: ((.s 1 (8 * o) m (m + r)) :: ((.p 3 0) :: ((.p 4 0) :: (@HAppend.hAppend (List V) (List V) (List V) _ (List.replicate 13 V.j) ((.s 5 0 i (i + r2)) :: ((.c (.int .i64 (i))) :: ((.p 6 0) :: ((.c (.int .i64 (k))) :: (List.replicate 327 .j))))))))))))
abbrev nwTIH (l F : List UInt8) (r : Nat) (d : Net) (blk x C : List UInt8) (r2 : Nat) : List Blk := [⟨false, bs l⟩, ⟨true, bs F ++ List.replicate (8 * r) .j⟩, ⟨true, netC d.m d.box d.A d.k d.n⟩, ⟨true, bs blk⟩, ⟨true, bs x⟩, ⟨true, bs C ++ List.replicate (8 * r2) .j⟩]
abbrev nwTKH (l F : List UInt8) (r : Nat) (d : Net) (blk x C : List UInt8) (r2 : Nat) (w : List UInt8) : List Blk := [⟨false, bs l⟩, ⟨true, bs F ++ List.replicate (8 * r) .j⟩, ⟨true, netC d.m d.box d.A d.k d.n⟩, ⟨true, bs blk⟩, ⟨true, bs x⟩, ⟨true, bs C ++ List.replicate (8 * r2) .j⟩, ⟨true, bs w⟩]
theorem nw_turn (hc : l.length ≤ c) (hm : l.length ≤ 4096) (d : Net) (hk0 : d.k = 0) {blk : List UInt8} (hbl : blk.length = 16) {o m r : Nat} {F D : List UInt8} (ho : o ≤ 1) (hmm : m ≤ 100) (hF : F.length = 8 * (o + m)) (hDe : F.drop (8 * o) = D) (hD : D.length = 8 * m) (hq : m = d.n) : kFrom cx_FnNetworks Try.f3 [10, 14, 19, 29, 32, 37, 43, 48] 19 lawPost (nwT l c o m r) (nwAH l F r d.m d.k d.n d.box d.A blk (d.run D blk m)) := by
  simp only [kFrom, kFromK, kAt, Go.Vc.mark, lawPost, List.contains_cons, List.contains_nil, Nat.reduceBEq, Bool.or_false, Bool.false_or, Bool.true_or, Bool.or_true, Bool.false_eq_true, if_true, if_false, Nat.reduceAdd, Nat.reduceEqDiff, reduceCtorEq, Try.f3]
  simp only [CX_FnNetworks, SPV, lawPost, ↓VC2, ZP, VP, TT, Nat.reduceEqDiff, reduceCtorEq, Nat.reduceAdd, Nat.reduceSub, Nat.reduceLT, Nat.reduceMul, Nat.reducePow, Nat.reduceLeDiff, Int.reduceToNat, Int.reduceLE, Int.reduceLT, Int.reducePow, nwT, nwAH]
  refine kLoop_of (fun s : Nat × List UInt8 × Nat => (nwTI l c o m r s.1 s.2.2, nwTIH l F r d blk (d.run D blk m) s.2.1 s.2.2)) (fun s => m - s.1) (fun s => s.1 ≤ m ∧ s.2.1.length = 8 * s.1 ∧ ∀ i, i < s.1 → hfA s.2.1 i = cmpN 8 (hfA D i)) (0, [], 0) ⟨Nat.zero_le _, rfl, fun i h => by omega⟩ ⟨[0, 1, 2, 3, 4, 5], by simp [-List.reduceReplicate, LES, bs_nil, CX_FnNetworks, nwTI, nwTIH, SPL, List.drop_succ_cons, List.length_append, List.length_replicate, List.length_cons, okL_app, okL_rep, renL_net, okL_net, renL_room, okL_room]⟩ ?_
  rintro ⟨i, C, r2⟩ ⟨hi, hC, hCD⟩
  simp only at hi hC hCD
  rcases Nat.lt_or_ge i m with h | h
  · have hw : (hfA D i).length = 8 := hfA_len hD h
    have hFD : hfA F (o + i) = hfA D i := by unfold hfA; rw [← hDe, List.drop_drop, Nat.mul_add]
    have hsub : ∀ (X : List V) (k : V → Prop), vSub (bs F ++ X) (8 * o + i * 8) 8 k = k (.a (bs (hfA D i))) := fun X k => by
      rw [show 8 * o + i * 8 = (o + i) * 8 by omega, hf_sub hF (by omega), hFD]
    have hput : ∀ kl : List V → Prop, vPut (bs (List.replicate 8 0)) 0 (bs (hfA D i)) kl = kl (bs (hfA D i)) := fun kl => vPut_all (by rw [bs_length, bs_length, hw, List.length_replicate])
    simp (config := { maxSteps := 2000000 }) only [CALL, ↓VC2, ZP, VP, TT, Nat.reduceEqDiff, reduceCtorEq, Nat.reduceAdd, Nat.reduceSub, Nat.reduceLT, Nat.reduceMul, Nat.reducePow, Nat.reduceLeDiff, Int.reduceToNat, Int.reduceLE, Int.reduceLT, Int.reducePow, GOB, CX_FnNetworks, lawPost, SPV, instL_net, net_zero, netC_len z256 z16, DN.cells, nwTI, nwTIH, (eq_true (by omega) : ((i : Int) < (m : Int)) = True), decide_true, Int.toNat_natCast]
    simp (config := { maxSteps := 2000000 }) only [CALL, ↓VC2, ZP, VP, TT, Nat.reduceEqDiff, reduceCtorEq, Nat.reduceAdd, Nat.reduceSub, Nat.reduceLT, Nat.reduceMul, Nat.reducePow, Nat.reduceLeDiff, Int.reduceToNat, Int.reduceLE, Int.reduceLT, Int.reducePow, GOB, CX_FnNetworks, lawPost, SPV, instL_net, net_zero, netC_len z256 z16, DN.cells, ↓hsub, hw, bs_length, List.length_replicate, ↓hput]
    refine kLoop_of (fun k : Nat => (nwTK l c o m r i r2 k, nwTKH l F r d blk (d.run D blk m) C r2 (cmpI 8 (hfA D i) k))) (fun k => 8 - k) (fun k => k ≤ 8) 0 (by omega) ⟨[0, 1, 2, 3, 4, 5, 6], by simp [-List.reduceReplicate, LES, bs_nil, CX_FnNetworks, nwTK, nwTKH, SPL, List.drop_succ_cons, List.length_append, List.length_replicate, List.length_cons, okL_app, okL_rep, renL_net, okL_net, renL_room, okL_room, cmpI_zero hw]⟩ ?_
    intro k hk
    rcases Nat.lt_or_ge k 8 with hk8 | hk8
    · simp (config := { maxSteps := 2000000 }) only [CALL, ↓VC2, ZP, VP, TT, Nat.reduceEqDiff, reduceCtorEq, Nat.reduceAdd, Nat.reduceSub, Nat.reduceLT, Nat.reduceMul, Nat.reducePow, Nat.reduceLeDiff, Int.reduceToNat, Int.reduceLE, Int.reduceLT, Int.reducePow, GOB, CX_FnNetworks, lawPost, SPV, instL_net, net_zero, netC_len z256 z16, DN.cells, nwTK, nwTKH, hk8, (eq_true (by omega) : ((k : Int) < 8) = True), (eq_true (by omega) : ((k : Int) < ((8 : Nat) : Int)) = True), wrap_i64 (n := (k : Int) + 1) (by omega) (by omega), decide_true, decide_true, Int.toNat_natCast, cmpI_len, hk8, cmpI_at hk8]
      refine ⟨k + 1, by omega, by omega, [0, 1, 2, 3, 4, 5, 6], ?_⟩
      have e := cmpI_step (n := 8) (b := hfA D i) hk8
      rw [xor255', ofInt_toNat, e]
      simp [-List.reduceReplicate, LES, bs_nil, CX_FnNetworks, SPL, List.drop_succ_cons, List.length_append, List.length_replicate, List.length_cons, okL_app, okL_rep, renL_net, okL_net, renL_room, okL_room]
    · obtain rfl : k = 8 := by omega
      have hcl : (cmpN 8 (hfA D i)).length = 8 := cmpN_len _ _
      have hct : List.take 8 (cmpN 8 (hfA D i)) = cmpN 8 (hfA D i) := List.take_of_length_le (Nat.le_of_eq hcl)
      have hT : ∀ X, List.take (i * 8) (bs C ++ X) = bs C := fun X => by rw [List.take_append_of_le_length (by rw [bs_length]; omega), List.take_of_length_le (by rw [bs_length]; omega)]
      have eR : (List.replicate 1 (bs (List.replicate 8 0))).flatten = bs (List.replicate 8 0) := rfl
      have eS : splice (bs (List.replicate 8 0)) 0 (bs (cmpN 8 (hfA D i))) = bs (cmpN 8 (hfA D i)) := splice_all (by simp only [bs_length, hcl, List.length_replicate])
      have eS2 : splB (List.replicate 8 0) 0 (cmpN 8 (hfA D i)) = cmpN 8 (hfA D i) := by unfold splB; simp [hcl]
      have hT8 : List.take 8 (bs (cmpN 8 (hfA D i))) = bs (cmpN 8 (hfA D i)) := List.take_of_length_le (by rw [bs_length]; omega)
      have wi : IntKind.i64.wrap ((i : Int) + 1) = ((i + 1 : Nat) : Int) := by rw [wrap_i64 (by omega) (by omega)]; omega
      simp (config := { maxSteps := 2000000 }) only [CALL, ↓VC2, ZP, VP, TT, Nat.reduceEqDiff, reduceCtorEq, Nat.reduceAdd, Nat.reduceSub, Nat.reduceLT, Nat.reduceMul, Nat.reducePow, Nat.reduceLeDiff, Int.reduceToNat, Int.reduceLE, Int.reduceLT, Int.reducePow, GOB, CX_FnNetworks, lawPost, SPV, instL_net, net_zero, netC_len z256 z16, DN.cells, nwTK, nwTKH, show ((((8 : Nat) : Int)) < 8) = False from eq_false (by decide), decide_false, cmpI_len, cmpI_done, hcl, hct, hT, hT8, eR, eS, eS2, wi, bs_length, List.length_replicate, bs_append]
      repeat (first | refine ⟨by omega, ?_⟩ | refine ⟨.inr (by omega), ?_⟩ | refine ⟨.inr trivial, ?_⟩)
      intro r1 c' e1 e2
      obtain rfl : r1 = 8 * (c' - (i + 1)) := by omega
      refine ⟨(i + 1, C ++ cmpN 8 (hfA D i), c' - (i + 1)), ⟨by simp only; omega, by simp only [List.length_append]; omega, fun j hj => ?_⟩, by simp only; omega, [0, 1, 2, 3, 4, 8], ?_⟩
      · simp only at hj ⊢
        rcases Nat.lt_or_ge j i with h3 | h3
        · rw [← hCD j h3]
          unfold hfA
          rw [List.drop_append_of_le_length (by omega), List.take_append_of_le_length (by rw [List.length_drop]; omega)]
        · obtain rfl : j = i := by omega
          show List.take 8 (List.drop (8 * j) (C ++ cmpN 8 (hfA D j))) = _
          rw [List.drop_append_of_le_length (by omega), List.drop_of_length_le (by omega), List.nil_append, hct]
      · simp [-List.reduceReplicate, LES, -List.reduceReplicate, bs_nil, CX_FnNetworks, nwTI, nwTIH, SPL, List.drop_succ_cons, List.length_append, List.length_replicate, List.length_cons, okL_app, okL_rep, renL_net, okL_net, renL_room, okL_room, show i + 1 + (c' - (i + 1)) = c' by omega]
  · obtain rfl : i = m := by omega
    simp (config := { maxSteps := 2000000 }) only [CALL, ↓VC2, ZP, VP, TT, Nat.reduceEqDiff, reduceCtorEq, Nat.reduceAdd, Nat.reduceSub, Nat.reduceLT, Nat.reduceMul, Nat.reducePow, Nat.reduceLeDiff, Int.reduceToNat, Int.reduceLE, Int.reduceLT, Int.reducePow, GOB, CX_FnNetworks, lawPost, SPV, instL_net, net_zero, netC_len z256 z16, DN.cells, nwTI, nwTIH, (eq_false (by omega) : ((i : Int) < (i : Int)) = False), decide_false]
    exact kMeet (nw_cmpl (r := r2) hc hm d hk0 hbl hC hmm hq hCD) (by kernel_rfl) ⟨[0, 2, 3, 4, 5], by simp [-List.reduceReplicate, LES, CX_FnNetworks, SPL, List.drop_succ_cons, List.length_append, List.length_replicate, List.length_cons, okL_app, okL_rep, nwC, nwCH, renL_net, okL_net, renL_room, okL_room]⟩
theorem nw_kind (hc : l.length ≤ c) (hm : l.length ≤ 4096) (d : Net) {blk : List UInt8} (hbl : blk.length = 16) {o m r : Nat} {F D : List UInt8} (ho : o ≤ 1) (hF : F.length = 8 * (o + m)) (hDe : F.drop (8 * o) = D) (hD : D.length = 8 * m) (hq : m = d.n)
    (hT : ∀ X, List.take D.length (List.drop (8 * o) (bs F ++ X)) = bs D) : kFrom cx_FnNetworks Try.f3 [10, 14, 19, 29, 32, 37, 43, 48] 14 lawPost (nwA l c o m r 0) (nwAH l F r d.m d.k d.n d.box d.A blk (d.run D blk m)) := by
  have hx : (d.run D blk m).length = 16 := run_len hbl m
  have hn1 := d.hn1
  have hn2 := d.hn
  simp only [kFrom, kFromK, kAt, Go.Vc.mark, lawPost, List.contains_cons, List.contains_nil, Nat.reduceBEq, Bool.or_false, Bool.false_or, Bool.true_or, Bool.or_true, Bool.false_eq_true, if_true, if_false, Nat.reduceAdd, Nat.reduceEqDiff, reduceCtorEq, Try.f3]
  simp only [CX_FnNetworks, SPV, lawPost, ↓VC2, ZP, VP, TT, Nat.reduceEqDiff, reduceCtorEq, Nat.reduceAdd, Nat.reduceSub, Nat.reduceLT, Nat.reduceMul, Nat.reducePow, Nat.reduceLeDiff, Int.reduceToNat, Int.reduceLE, Int.reduceLT, Int.reducePow, nwA, nwAH, netC_len d.hb d.hA, ↓net_all d.hb d.hA, ↓net_kind d.hb d.hA]
  refine zIf (fun h => ?_) (fun h => ?_)
  · have hk0 : d.k = 0 := beq_iff_eq.1 h
    have hxe := exch_len hx
    have hxt : List.take 16 (d.run D blk m) = d.run D blk m := List.take_of_length_le (Nat.le_of_eq hx)
    have hxet : List.take 16 (exch (d.run D blk m)) = exch (d.run D blk m) := List.take_of_length_le (Nat.le_of_eq hxe)
    refine kCall_Ret (c_impl_ReverseKeys m (m + r) D hD (by omega) (by omega) (by omega)) (by rfl) [(1, 8 * o)] (by simp [CALL, SCB, instL_net, okL_net, instL_room, okL_room, hT]) (by simp [CALL, SCB, instL_net, okL_net, instL_room, okL_room, hT]) (by simp [CALL, SCB, instL_net, okL_net, instL_room, okL_room, hT]) (by simp [okL_bs, okL_room, okL, okV, instL_net, okL_net, instL_room, okL_room, hT]) (by simp [CALL, SCB, instL_net, okL_net, instL_room, okL_room, hT]) fun x1 h1 => ?_
    simp (config := { maxSteps := 2000000 }) only [CALL, ↓VC2, ZP, VP, TT, Nat.reduceEqDiff, reduceCtorEq, Nat.reduceAdd, Nat.reduceSub, Nat.reduceLT, Nat.reduceMul, Nat.reducePow, Nat.reduceLeDiff, Int.reduceToNat, Int.reduceLE, Int.reduceLT, Int.reducePow, GOB, CX_FnNetworks, lawPost, SPV, instL_net, net_zero, netC_len z256 z16, DN.cells, hx, hbl, netC_len d.hb d.hA, ↓net_all d.hb d.hA]
    obtain ⟨R, r2⟩ := x1
    obtain ⟨hR, hRD⟩ := h1
    simp only at hR hRD
    have hTR : ∀ X, List.take R.length (bs R ++ X) = bs R := fun X => by rw [List.take_append_of_le_length (by rw [bs_length]; exact Nat.le_refl _), List.take_of_length_le (by rw [bs_length]; exact Nat.le_refl _)]
    have I1 := k_impl_run d m (m + r2) R (exch (d.run D blk m)) hR (by omega) (by omega) hxe hq
    unfold Net.cells at I1
    have hy : (d.run R (exch (d.run D blk m)) m).length = 16 := run_len hxe m
    have hyt : List.take 16 (d.run R (exch (d.run D blk m)) m) = d.run R (exch (d.run D blk m)) m := List.take_of_length_le (Nat.le_of_eq hy)
    refine kCall_val (c_impl_ExchangeHalves (d.run D blk m) hx) (by rfl) [] (by simp [CALL, SCB, instL_net, okL_net, instL_room, okL_room, hxt]) (by simp [CALL, SCB, instL_net, okL_net, instL_room, okL_room, hxt]) (by simp [CALL, SCB, instL_net, okL_net, instL_room, okL_room, hxt]) (by simp [okL_bs, okL_room, okL, okV, instL_net, okL_net, instL_room, okL_room, hxt]) ?_
    simp (config := { maxSteps := 2000000 }) only [CALL, ↓VC2, ZP, VP, TT, Nat.reduceEqDiff, reduceCtorEq, Nat.reduceAdd, Nat.reduceSub, Nat.reduceLT, Nat.reduceMul, Nat.reducePow, Nat.reduceLeDiff, Int.reduceToNat, Int.reduceLE, Int.reduceLT, Int.reducePow, GOB, CX_FnNetworks, lawPost, SPV, instL_net, net_zero, netC_len z256 z16, DN.cells, hx, hxe, hbl, hxet, netC_len d.hb d.hA, ↓net_all d.hb d.hA]
    refine kCall_val (I1) (by rfl) [(5, 0)] (by simp [CALL, SCB, instL_net, okL_net, instL_room, okL_room, hTR, hxet]) (by simp [CALL, SCB, instL_net, okL_net, instL_room, okL_room, hTR, hxet]) (by simp [CALL, SCB, instL_net, okL_net, instL_room, okL_room, hTR, hxet]) (by simp [okL_bs, okL_room, okL, okV, instL_net, okL_net, instL_room, okL_room, hTR, hxet]) ?_
    simp (config := { maxSteps := 2000000 }) only [CALL, ↓VC2, ZP, VP, TT, Nat.reduceEqDiff, reduceCtorEq, Nat.reduceAdd, Nat.reduceSub, Nat.reduceLT, Nat.reduceMul, Nat.reducePow, Nat.reduceLeDiff, Int.reduceToNat, Int.reduceLE, Int.reduceLT, Int.reducePow, GOB, CX_FnNetworks, lawPost, SPV, instL_net, net_zero, netC_len z256 z16, DN.cells, hx, hxe, hy, hbl, hyt, bne_self_eq_false, netC_len d.hb d.hA, ↓net_all d.hb d.hA]
    refine kCall_val (c_impl_ExchangeHalves (d.run R (exch (d.run D blk m)) m) hy) (by rfl) [] (by simp [CALL, SCB, instL_net, okL_net, instL_room, okL_room, hyt]) (by simp [CALL, SCB, instL_net, okL_net, instL_room, okL_room, hyt]) (by simp [CALL, SCB, instL_net, okL_net, instL_room, okL_room, hyt]) (by simp [okL_bs, okL_room, okL, okV, instL_net, okL_net, instL_room, okL_room, hyt]) ?_
    simp (config := { maxSteps := 2000000 }) only [CALL, ↓VC2, ZP, VP, TT, Nat.reduceEqDiff, reduceCtorEq, Nat.reduceAdd, Nat.reduceSub, Nat.reduceLT, Nat.reduceMul, Nat.reducePow, Nat.reduceLeDiff, Int.reduceToNat, Int.reduceLE, Int.reduceLT, Int.reducePow, GOB, CX_FnNetworks, lawPost, SPV, instL_net, net_zero, netC_len z256 z16, DN.cells, hx, hxe, hy, hbl, hyt, exch_len hy, bne_self_eq_false]
    refine ⟨intCells_bs _, intCells_bs _, fun b3 hb3 => ?_⟩
    obtain rfl : b3 = true := hb3.2 (by rw [run_turned hk0 hbl hRD])
    simp (config := { maxSteps := 2000000 }) only [CALL, ↓VC2, ZP, VP, TT, Nat.reduceEqDiff, reduceCtorEq, Nat.reduceAdd, Nat.reduceSub, Nat.reduceLT, Nat.reduceMul, Nat.reducePow, Nat.reduceLeDiff, Int.reduceToNat, Int.reduceLE, Int.reduceLT, Int.reducePow, GOB, CX_FnNetworks, lawPost, SPV, instL_net, net_zero, netC_len z256 z16, DN.cells, hx, hxe, hbl, hyt, exch_len hy, bne_self_eq_false, beq_self_eq_true]
    exact kMeet (nw_turn (r := r) hc hm d hk0 hbl ho (by omega) hF hDe hD hq) (by kernel_rfl) ⟨[0, 1, 2, 3, 4], by simp [-List.reduceReplicate, LES, CX_FnNetworks, SPL, List.drop_succ_cons, List.length_append, List.length_replicate, List.length_cons, okL_app, okL_rep, nwT, nwAH, renL_net, okL_net, renL_room, okL_room]⟩
  · exact kMeet (nw_fun hc hm) (by kernel_rfl) ⟨[0], by simp [-List.reduceReplicate, LES, CX_FnNetworks, SPL, List.drop_succ_cons, List.length_append, List.length_replicate, List.length_cons, okL_app, okL_rep, nwS]⟩
end
end Go.Proofs.Ytjakgjelnbpmnaa

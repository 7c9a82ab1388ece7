import Derived.Test.YtahnjhppkgndiaaGreatDgsA
import Derived.Test.YtahnjhppkgndiaaGreatDigest
import Derived.Test.YtahnjhppkgndiaaGreatDrawJ
/- FnDigests: digests are the states after absorbing the padded blocks, data come back from padded data, and digests come back from their texts. In sections. -/
set_option linter.unusedSimpArgs false
set_option linter.unusedVariables false
namespace Go.Proofs.YtahnjhppkgndiaaGreat
open Go Go.Vc
set_option maxRecDepth 10000
set_option maxHeartbeats 40000000
section
variable {l : List UInt8} {c : Nat}
theorem digE_tells {z n : Int} {b A pl D : List UInt8} (h : digE z b A pl n D = 0) : cipB z b A pl n = true := by
  unfold digE at h
  split at h
  · assumption
  · cases h
abbrev dhS (l : List UInt8) (c m r : Nat) (e : Int) : List V := ((.s 0 0 l.length c) :: (@HAppend.hAppend (List V) (List V) (List V) _ (List.replicate 2 V.j) ((.p 2 0) :: ((.s 1 0 m (m + r)) :: ((.p 3 0) :: ((.c (.int .i64 (e))) :: (List.replicate 263 .j)))))))
abbrev dhH (l D : List UInt8) (r : Nat) (z n : Int) (b A pl w : List UInt8) : List Blk := [⟨false, bs l⟩, ⟨true, bs D ++ List.replicate r .j⟩, ⟨true, cipC z b A pl n⟩, ⟨true, bs w⟩]
theorem dg_eight (hc : l.length ≤ c) (hm : l.length ≤ 4096) {D : List UInt8} {r : Nat} {z n : Int} {b A pl : List UInt8} (hb : b.length = 256) (hA : A.length = 16) (hp : pl.length = 16) (hD : D.length ≤ 2001) : kFrom cx_FnDigests Tryz.f4 [8, 24, 36, 41] 8 lawPost (dhS l c D.length r (digE z b A pl n D)) (dhH l D r z n b A pl (digO z b A pl n D)) := by
  have hw := digO_len z b A pl n D
  have tw : List.take 32 (digO z b A pl n D) = digO z b A pl n D := List.take_of_length_le (Nat.le_of_eq hw)
  simp only [kFrom, kFromK, kAt, Go.Vc.mark, lawPost, List.contains_cons, List.contains_nil, Nat.reduceBEq, Bool.or_false, Bool.false_or, Bool.true_or, Bool.or_true, Bool.false_eq_true, if_true, if_false, Nat.reduceAdd, Nat.reduceEqDiff, reduceCtorEq, Tryz.f4]
  simp only [CX_FnDigests, SPV, lawPost, ↓VC2, ZP, VP, TT, Nat.reduceEqDiff, reduceCtorEq, Nat.reduceAdd, Nat.reduceSub, Nat.reduceLT, Nat.reduceMul, Nat.reducePow, Nat.reduceLeDiff, Int.reduceToNat, Int.reduceLE, Int.reduceLT, Int.reducePow, dhS, dhH]
  by_cases he : digE z b A pl n D = 0
  · rcases Nat.lt_or_ge 300 D.length with h3 | h3
    · have f3 : ((D.length : Int) ≤ 300) = False := eq_false (by omega)
      simp (config := { maxSteps := 2000000 }) only [CALL, ↓VC2, ZP, VP, TT, Nat.reduceEqDiff, reduceCtorEq, Nat.reduceAdd, Nat.reduceSub, Nat.reduceLT, Nat.reduceMul, Nat.reducePow, Nat.reduceLeDiff, Int.reduceToNat, Int.reduceLE, Int.reduceLT, Int.reducePow, GOB, CX_FnDigests, lawPost, SPV, instL_cip, instL_room, cipC_len z256 z16 z16, DC.cells, he, beq_self_eq_true, f3, decide_false]
      exact kMeet (dg_absorb hc hm) (by kernel_rfl) ⟨[0], by simp [-List.reduceReplicate, LES, CX_FnDigests, SPL, List.drop_succ_cons, List.length_append, List.length_replicate, List.length_cons, okL_app, okL_rep, dgS]⟩
    · have f3 : ((D.length : Int) ≤ 300) = True := eq_true (by omega)
      have hB := digE_tells he
      have hw2 : digO z b A pl n D = digP (absL z.toNat b A pl n.toNat) (startL 32) (padM D) ((padM D).length / 16) := by unfold digO; rw [if_pos he]; rfl
      have hAb : ∀ st ms : List UInt8, st.length = 32 → ms.length = 16 → LC Tryz.prog 38 [.a (cipC z b A pl n), .a (bs st), .a (bs ms)] [] (fun v hp => v = .t [.a (bs (absL z.toNat b A pl n.toNat st ms)), .c (.int .i64 (0))] ∧ hp = []) := fun st ms hst hms => by
        have := c_impl_AbsorbBlock z n b A pl st ms hb hA hp hst hms
        unfold absO cipE at this
        rw [hB] at this
        simpa using this
      have hdl : ∀ k, (digP (absL z.toNat b A pl n.toNat) (startL 32) (padM D) k).length = 32 := digP_len (startL_len 32)
      generalize digO z b A pl n D = w at *
      have M1 := c_impl_PadMessage D (D.length + r) (by omega)
      rw [padMR_ok (by omega)] at M1
      have M2 : LC Tryz.prog 34 [.s 0 0 D.length (D.length + r)] [⟨false, bs D⟩] (Ret [⟨false, bs D⟩] (fun _ : Nat => True) fun r => (.t [.s 1 0 (padM D).length ((padM D).length + r), .c (.int .i64 (0))], [⟨true, bs (padM D) ++ List.replicate r .j⟩])) := M1
      have hpl := padM_len D
      have hmz := mz_lt D
      obtain ⟨hp16, _⟩ := padM_len16 D
      have U1 := c_impl_UnpadMessage (padM D)
      rw [unpadMR_ok (by omega) (unpM_some rfl (by omega))] at U1
      have U2 : ∀ c', (padM D).length ≤ c' → LC Tryz.prog 39 [.s 0 0 (padM D).length c'] [⟨false, bs (padM D)⟩] (Ret [⟨false, bs (padM D)⟩] (fun _ : Nat => True) fun r => (.t [.s 1 0 D.length (D.length + r), .c (.int .i64 (0))], [⟨true, bs D ++ List.replicate r .j⟩])) := U1
      obtain ⟨K, hK⟩ : ∃ K, (padM D).length = 16 * K := ⟨(padM D).length / 16, by omega⟩
      have hKd : (padM D).length / 16 = K := by omega
      rw [hKd] at hw2
      simp (config := { maxSteps := 2000000 }) only [CALL, ↓VC2, ZP, VP, TT, Nat.reduceEqDiff, reduceCtorEq, Nat.reduceAdd, Nat.reduceSub, Nat.reduceLT, Nat.reduceMul, Nat.reducePow, Nat.reduceLeDiff, Int.reduceToNat, Int.reduceLE, Int.reduceLT, Int.reducePow, GOB, CX_FnDigests, lawPost, SPV, instL_cip, instL_room, cipC_len z256 z16 z16, DC.cells, he, beq_self_eq_true, f3, decide_true]
      refine kCall_Ret (M2) (by rfl) [(1, 0)] (by simp [CALL, SCB, instL_cip, okL_cip, instL_room, okL_room]) (by simp [CALL, SCB, instL_cip, okL_cip, instL_room, okL_room]) (by simp [CALL, SCB, instL_cip, okL_cip, instL_room, okL_room]) (by simp [okL_bs, okL_room, okL, okV, instL_cip, okL_cip, instL_room, okL_room]) (by simp [CALL, SCB, instL_cip, okL_cip, instL_room, okL_room]) fun r1 _ => ?_
      simp (config := { maxSteps := 2000000 }) only [CALL, ↓VC2, ZP, VP, TT, Nat.reduceEqDiff, reduceCtorEq, Nat.reduceAdd, Nat.reduceSub, Nat.reduceLT, Nat.reduceMul, Nat.reducePow, Nat.reduceLeDiff, Int.reduceToNat, Int.reduceLE, Int.reduceLT, Int.reducePow, GOB, CX_FnDigests, lawPost, SPV, instL_cip, instL_room, cipC_len z256 z16 z16, DC.cells]
      have B1 := c_impl_BlocksOf (padM D) ((padM D).length + r1) K (by omega) hK (by omega)
      refine kCall_Ret (B1) (by rfl) [(4, 0)] (by simp [CALL, SCB, instL_cip, okL_cip, instL_room, okL_room]) (by simp [CALL, SCB, instL_cip, okL_cip, instL_room, okL_room]) (by simp [CALL, SCB, instL_cip, okL_cip, instL_room, okL_room]) (by simp [okL_bs, okL_room, okL, okV, instL_cip, okL_cip, instL_room, okL_room]) (by simp [CALL, SCB, instL_cip, okL_cip, instL_room, okL_room]) fun r2 _ => ?_
      simp (config := { maxSteps := 2000000 }) only [CALL, ↓VC2, ZP, VP, TT, Nat.reduceEqDiff, reduceCtorEq, Nat.reduceAdd, Nat.reduceSub, Nat.reduceLT, Nat.reduceMul, Nat.reducePow, Nat.reduceLeDiff, Int.reduceToNat, Int.reduceLE, Int.reduceLT, Int.reducePow, GOB, CX_FnDigests, lawPost, SPV, instL_cip, instL_room, cipC_len z256 z16 z16, DC.cells]
      have hs32 := startL_len 32
      have ts : List.take 32 (startL 32) = startL 32 := List.take_of_length_le (Nat.le_of_eq hs32)
      generalize hP : padM D = P at *
      refine kCall_val (c_impl_StartOfDigest) (by rfl) [] (by simp [CALL, SCB, instL_cip, okL_cip, instL_room, okL_room, ts]) (by simp [CALL, SCB, instL_cip, okL_cip, instL_room, okL_room, ts]) (by simp [CALL, SCB, instL_cip, okL_cip, instL_room, okL_room, ts]) (by simp [okL_bs, okL_room, okL, okV, instL_cip, okL_cip, instL_room, okL_room, ts]) ?_
      simp (config := { maxSteps := 2000000 }) only [CALL, ↓VC2, ZP, VP, TT, Nat.reduceEqDiff, reduceCtorEq, Nat.reduceAdd, Nat.reduceSub, Nat.reduceLT, Nat.reduceMul, Nat.reducePow, Nat.reduceLeDiff, Int.reduceToNat, Int.reduceLE, Int.reduceLT, Int.reducePow, GOB, CX_FnDigests, lawPost, SPV, instL_cip, instL_room, cipC_len z256 z16 z16, DC.cells, hs32, ts, bne_self_eq_false]
      refine kCall_val (c_spec_StartOfDigest) (by rfl) [] (by simp [CALL, SCB, instL_cip, okL_cip, instL_room, okL_room, ts]) (by simp [CALL, SCB, instL_cip, okL_cip, instL_room, okL_room, ts]) (by simp [CALL, SCB, instL_cip, okL_cip, instL_room, okL_room, ts]) (by simp [okL_bs, okL_room, okL, okV, instL_cip, okL_cip, instL_room, okL_room, ts]) ?_
      simp (config := { maxSteps := 2000000 }) only [CALL, ↓VC2, ZP, VP, TT, Nat.reduceEqDiff, reduceCtorEq, Nat.reduceAdd, Nat.reduceSub, Nat.reduceLT, Nat.reduceMul, Nat.reducePow, Nat.reduceLeDiff, Int.reduceToNat, Int.reduceLE, Int.reduceLT, Int.reducePow, GOB, CX_FnDigests, lawPost, SPV, instL_cip, instL_room, cipC_len z256 z16 z16, DC.cells, hs32, ts, bne_self_eq_false]
      refine ⟨intCells_bs _, intCells_bs _, fun b1 hb1 => ?_⟩
      obtain rfl : b1 = true := hb1.2 trivial
      try simp (config := { maxSteps := 2000000 }) only [CALL, ↓VC2, ZP, VP, TT, Nat.reduceEqDiff, reduceCtorEq, Nat.reduceAdd, Nat.reduceSub, Nat.reduceLT, Nat.reduceMul, Nat.reducePow, Nat.reduceLeDiff, Int.reduceToNat, Int.reduceLE, Int.reduceLT, Int.reducePow, GOB, CX_FnDigests, lawPost, SPV, instL_cip, instL_room, cipC_len z256 z16 z16, DC.cells, hs32, ts]
      try rw [if_neg (by simp)]
      refine kLoop_of (fun i : Nat => (((.s 0 0 l.length c) :: (@HAppend.hAppend (List V) (List V) (List V) _ (List.replicate 2 V.j) ((.p 2 0) :: ((.s 1 0 D.length (D.length + r)) :: ((.p 3 0) :: (@HAppend.hAppend (List V) (List V) (List V) _ (List.replicate 3 V.j) ((.s 4 0 P.length (P.length + r1)) :: (@HAppend.hAppend (List V) (List V) (List V) _ (List.replicate 1 V.j) ((.s 5 0 K (K + r2)) :: (@HAppend.hAppend (List V) (List V) (List V) _ (List.replicate 1 V.j) ((.p 6 0) :: ((.c (.int .i64 (i))) :: (List.replicate 255 .j))))))))))))), [⟨false, bs l⟩, ⟨true, bs D ++ List.replicate r .j⟩, ⟨true, cipC z b A pl n⟩, ⟨true, bs w⟩, ⟨true, bs P ++ List.replicate r1 .j⟩, ⟨true, bs P ++ List.replicate (16 * r2) .j⟩, ⟨true, bs (digP (absL z.toNat b A pl n.toNat) (startL 32) P i)⟩])) (fun i => K - i) (fun i => i ≤ K) 0 (by omega) ⟨[0, 1, 2, 3, 4, 5, 6], by simp [-List.reduceReplicate, LES, CX_FnDigests, SPL, List.drop_succ_cons, List.length_append, List.length_replicate, List.length_cons, okL_app, okL_rep, renL_room, okL_room, renL_cip, okL_cip, digP]⟩ ?_
      intro i hi
      have hdi := hdl i
      have tdi : List.take 32 (digP (absL z.toNat b A pl n.toNat) (startL 32) P i) = digP (absL z.toNat b A pl n.toNat) (startL 32) P i := List.take_of_length_le (Nat.le_of_eq hdi)
      rcases Nat.lt_or_ge i K with h | h
      · have hms : ((P.drop (16 * i)).take 16).length = 16 := by rw [List.length_take, List.length_drop]; omega
        have hsub : ∀ (X : List V) (kk : V → Prop), vSub (bs P ++ X) (i * 16) 16 kk = kk (.a (bs ((P.drop (16 * i)).take 16))) := fun X kk => by
          rw [vSub_appL (by rw [bs_length, hK]; omega), vSub_bs, Nat.mul_comm i 16]
          simp only [eq_iff_iff]
          exact ⟨fun h => h.2, fun h => ⟨by omega, h⟩⟩
        have A1 := hAb (digP (absL z.toNat b A pl n.toNat) (startL 32) P i) ((P.drop (16 * i)).take 16) hdi hms
        have hd1 : (absL z.toNat b A pl n.toNat (digP (absL z.toNat b A pl n.toNat) (startL 32) P i) ((P.drop (16 * i)).take 16)).length = 32 := hdl (i + 1)
        simp (config := { maxSteps := 2000000 }) only [CALL, ↓VC2, ZP, VP, TT, Nat.reduceEqDiff, reduceCtorEq, Nat.reduceAdd, Nat.reduceSub, Nat.reduceLT, Nat.reduceMul, Nat.reducePow, Nat.reduceLeDiff, Int.reduceToNat, Int.reduceLE, Int.reduceLT, Int.reducePow, GOB, CX_FnDigests, lawPost, SPV, instL_cip, instL_room, cipC_len z256 z16 z16, DC.cells, (eq_true (by omega) : ((i : Int) < (K : Int)) = True), decide_true, Int.toNat_natCast, ↓hsub, hdi, tdi, hms, cipC_len hb hA hp, ↓cip_all hb hA hp]
        have t1 : List.take 32 (absL z.toNat b A pl n.toNat (digP (absL z.toNat b A pl n.toNat) (startL 32) P i) ((P.drop (16 * i)).take 16)) = absL z.toNat b A pl n.toNat (digP (absL z.toNat b A pl n.toNat) (startL 32) P i) ((P.drop (16 * i)).take 16) := List.take_of_length_le (Nat.le_of_eq hd1)
        refine kCall_val (A1) (by rfl) [] (by simp [CALL, SCB, instL_cip, okL_cip, instL_room, okL_room, tdi, t1]) (by simp [CALL, SCB, instL_cip, okL_cip, instL_room, okL_room, tdi, t1]) (by simp [CALL, SCB, instL_cip, okL_cip, instL_room, okL_room, tdi, t1]) (by simp [okL_bs, okL_room, okL, okV, instL_cip, okL_cip, instL_room, okL_room, tdi, t1]) ?_
        simp (config := { maxSteps := 2000000 }) only [CALL, ↓VC2, ZP, VP, TT, Nat.reduceEqDiff, reduceCtorEq, Nat.reduceAdd, Nat.reduceSub, Nat.reduceLT, Nat.reduceMul, Nat.reducePow, Nat.reduceLeDiff, Int.reduceToNat, Int.reduceLE, Int.reduceLT, Int.reducePow, GOB, CX_FnDigests, lawPost, SPV, instL_cip, instL_room, cipC_len z256 z16 z16, DC.cells, hdi, tdi, hms, hd1, t1, cipC_len hb hA hp, ↓cip_all hb hA hp, bne_self_eq_false]
        refine ⟨i + 1, by omega, by omega, [0, 1, 2, 3, 4, 5, 6], ?_⟩
        rw [wrap_i64 (by omega) (by omega)]
        simp [-List.reduceReplicate, LES, CX_FnDigests, SPL, List.drop_succ_cons, List.length_append, List.length_replicate, List.length_cons, okL_app, okL_rep, renL_room, okL_room, renL_cip, okL_cip, digP]
      · obtain rfl : i = K := by omega
        rw [← hw2] at hdi tdi ⊢
        simp (config := { maxSteps := 2000000 }) only [CALL, ↓VC2, ZP, VP, TT, Nat.reduceEqDiff, reduceCtorEq, Nat.reduceAdd, Nat.reduceSub, Nat.reduceLT, Nat.reduceMul, Nat.reducePow, Nat.reduceLeDiff, Int.reduceToNat, Int.reduceLE, Int.reduceLT, Int.reducePow, GOB, CX_FnDigests, lawPost, SPV, instL_cip, instL_room, cipC_len z256 z16 z16, DC.cells, (eq_false (by omega) : ((i : Int) < (i : Int)) = False), decide_false]
        refine kCall_Ret (U2 (P.length + r1) (by omega)) (by rfl) [(4, 0)] (by simp [CALL, SCB, instL_cip, okL_cip, instL_room, okL_room]) (by simp [CALL, SCB, instL_cip, okL_cip, instL_room, okL_room]) (by simp [CALL, SCB, instL_cip, okL_cip, instL_room, okL_room]) (by simp [okL_bs, okL_room, okL, okV, instL_cip, okL_cip, instL_room, okL_room]) (by simp [CALL, SCB, instL_cip, okL_cip, instL_room, okL_room]) fun r3 _ => ?_
        simp (config := { maxSteps := 2000000 }) only [CALL, ↓VC2, ZP, VP, TT, Nat.reduceEqDiff, reduceCtorEq, Nat.reduceAdd, Nat.reduceSub, Nat.reduceLT, Nat.reduceMul, Nat.reducePow, Nat.reduceLeDiff, Int.reduceToNat, Int.reduceLE, Int.reduceLT, Int.reducePow, GOB, CX_FnDigests, lawPost, SPV, instL_cip, instL_room, cipC_len z256 z16 z16, DC.cells, hw, tw, bne_self_eq_false]
        refine ⟨intCells_bs _, intCells_bs _, fun b2 hb2 => ?_⟩
        obtain rfl : b2 = true := hb2.2 trivial
        simp (config := { maxSteps := 2000000 }) only [CALL, ↓VC2, ZP, VP, TT, Nat.reduceEqDiff, reduceCtorEq, Nat.reduceAdd, Nat.reduceSub, Nat.reduceLT, Nat.reduceMul, Nat.reducePow, Nat.reduceLeDiff, Int.reduceToNat, Int.reduceLE, Int.reduceLT, Int.reducePow, GOB, CX_FnDigests, lawPost, SPV, instL_cip, instL_room, cipC_len z256 z16 z16, DC.cells, hw, tw]
        refine kCall_val (d_bytes5 D (D.length + r3) (D.length + r) (by omega) (by omega) (by omega)) (by rfl) [(7, 0), (1, 0)] (by simp [CALL, SCB, instL_cip, okL_cip, instL_room, okL_room]) (by simp [CALL, SCB, instL_cip, okL_cip, instL_room, okL_room]) (by simp [CALL, SCB, instL_cip, okL_cip, instL_room, okL_room]) (by simp [okL_bs, okL_room, okL, okV, instL_cip, okL_cip, instL_room, okL_room]) ?_
        simp (config := { maxSteps := 2000000 }) only [CALL, ↓VC2, ZP, VP, TT, Nat.reduceEqDiff, reduceCtorEq, Nat.reduceAdd, Nat.reduceSub, Nat.reduceLT, Nat.reduceMul, Nat.reducePow, Nat.reduceLeDiff, Int.reduceToNat, Int.reduceLE, Int.reduceLT, Int.reducePow, GOB, CX_FnDigests, lawPost, SPV, instL_cip, instL_room, cipC_len z256 z16 z16, DC.cells, bne_self_eq_false, Bool.not_true]
        try rw [if_neg (by simp)]
        exact kMeet (dg_absorb hc hm) (by kernel_rfl) ⟨[0], by simp [-List.reduceReplicate, LES, CX_FnDigests, SPL, List.drop_succ_cons, List.length_append, List.length_replicate, List.length_cons, okL_app, okL_rep, dgS]⟩
  · have f0 : (digE z b A pl n D == 0) = false := beq_eq_false_iff_ne.2 he
    simp (config := { maxSteps := 2000000 }) only [CALL, ↓VC2, ZP, VP, TT, Nat.reduceEqDiff, reduceCtorEq, Nat.reduceAdd, Nat.reduceSub, Nat.reduceLT, Nat.reduceMul, Nat.reducePow, Nat.reduceLeDiff, Int.reduceToNat, Int.reduceLE, Int.reduceLT, Int.reducePow, GOB, CX_FnDigests, lawPost, SPV, instL_cip, instL_room, cipC_len z256 z16 z16, DC.cells, f0]
    exact kMeet (dg_absorb hc hm) (by kernel_rfl) ⟨[0], by simp [-List.reduceReplicate, LES, CX_FnDigests, SPL, List.drop_succ_cons, List.length_append, List.length_replicate, List.length_cons, okL_app, okL_rep, dgS]⟩
theorem law_FnDigests (l : List UInt8) (c : Nat) (hc : l.length ≤ c) (hmc : c ≤ maxLen) : LC Tryz.prog 4 [.s 0 0 l.length c] [⟨false, bs l⟩] (fun v _ => v = .c (.bool true)) := by
  refine LC_ofM (X := cx_FnDigests) [8, 24, 36, 41] envOK Tryz.func4 (by kernel_rfl) (ord_two (by kernel_rfl)) rfl (Nat.le_of_ble_eq_true (by kernel_rfl)) ?_
  simp only [kFunM, Go.Vc.mark, List.contains_cons, List.contains_nil, Nat.reduceBEq, Bool.or_false, Bool.false_or, Bool.true_or, Bool.or_true, Bool.false_eq_true, if_true, if_false, Nat.reduceAdd, Nat.reduceEqDiff, Tryz.f4, List.length_nil, List.length_cons, Nat.sub_zero, Nat.reduceSub, List.nil_append, List.cons_append]
  simp only [CX_FnDigests, SPV, ↓VC2, ZP, VP, TT, Nat.reduceEqDiff, reduceCtorEq, Nat.reduceAdd, Nat.reduceSub, Nat.reduceLT, Nat.reduceMul, Nat.reducePow, Nat.reduceLeDiff, Int.reduceToNat, Int.reduceLE, Int.reduceLT, Int.reducePow]
  refine kCall_val (d_big (l := l) (c := c) (by omega)) (by rfl) [(0, 0)] (by simp [CALL, SCB, instL_cip, okL_cip, instL_room, okL_room]) (by simp [CALL, SCB, instL_cip, okL_cip, instL_room, okL_room]) (by simp [CALL, SCB, instL_cip, okL_cip, instL_room, okL_room]) (by simp [okL_bs, okL_room, okL, okV, instL_cip, okL_cip, instL_room, okL_room]) ?_
  simp (config := { maxSteps := 2000000 }) only [CALL, ↓VC2, ZP, VP, TT, Nat.reduceEqDiff, reduceCtorEq, Nat.reduceAdd, Nat.reduceSub, Nat.reduceLT, Nat.reduceMul, Nat.reducePow, Nat.reduceLeDiff, Int.reduceToNat, Int.reduceLE, Int.reduceLT, Int.reducePow, GOB, CX_FnDigests, lawPost, SPV, instL_cip, instL_room, cipC_len z256 z16 z16, DC.cells]
  refine zIf (fun _ => ⟨_, [⟨false, bs l⟩], [0], rfl, by simp [-List.reduceReplicate, LES]⟩) (fun h => ?_)
  have hm : l.length ≤ 4096 := by simpa using h
  clear h
  refine kCall_Ret (d_DigestOf hc hm) (by rfl) [(0, 0)] (by simp [CALL, SCB, instL_cip, okL_cip, instL_room, okL_room]) (by simp [CALL, SCB, instL_cip, okL_cip, instL_room, okL_room]) (by simp [CALL, SCB, instL_cip, okL_cip, instL_room, okL_room]) (by simp [okL_bs, okL_room, okL, okV, instL_cip, okL_cip, instL_room, okL_room]) (by simp [CALL, SCB, instL_cip, okL_cip, instL_room, okL_room]) fun x1 h1 => ?_
  obtain ⟨⟨z, b, A, pl, n⟩, D, r⟩ := x1
  obtain ⟨⟨hb, hA, hp⟩, hD⟩ := h1
  simp only [DC.cells] at hb hA hp hD ⊢
  have hw := digO_len z b A pl n D
  have tw : List.take 32 (digO z b A pl n D) = digO z b A pl n D := List.take_of_length_le (Nat.le_of_eq hw)
  have D1 := c_impl_DigestOf z n b A pl D (D.length + r) (by omega) hb hA hp (by omega)
  have D2 := c_spec_DigestOf z n b A pl D (D.length + r) (by omega) hb hA hp (by omega)
  simp (config := { maxSteps := 2000000 }) only [CALL, ↓VC2, ZP, VP, TT, Nat.reduceEqDiff, reduceCtorEq, Nat.reduceAdd, Nat.reduceSub, Nat.reduceLT, Nat.reduceMul, Nat.reducePow, Nat.reduceLeDiff, Int.reduceToNat, Int.reduceLE, Int.reduceLT, Int.reducePow, GOB, CX_FnDigests, lawPost, SPV, instL_cip, instL_room, cipC_len z256 z16 z16, DC.cells, cipC_len hb hA hp, ↓cip_put_all z256 z16 z16 hb hA hp, ↓cip_all hb hA hp, hw, tw]
  refine kCall_val (D1) (by rfl) [(1, 0)] (by simp [CALL, SCB, instL_cip, okL_cip, instL_room, okL_room, tw]) (by simp [CALL, SCB, instL_cip, okL_cip, instL_room, okL_room, tw]) (by simp [CALL, SCB, instL_cip, okL_cip, instL_room, okL_room, tw]) (by simp [okL_bs, okL_room, okL, okV, instL_cip, okL_cip, instL_room, okL_room, tw]) ?_
  simp (config := { maxSteps := 2000000 }) only [CALL, ↓VC2, ZP, VP, TT, Nat.reduceEqDiff, reduceCtorEq, Nat.reduceAdd, Nat.reduceSub, Nat.reduceLT, Nat.reduceMul, Nat.reducePow, Nat.reduceLeDiff, Int.reduceToNat, Int.reduceLE, Int.reduceLT, Int.reducePow, GOB, CX_FnDigests, lawPost, SPV, instL_cip, instL_room, cipC_len z256 z16 z16, DC.cells, cipC_len hb hA hp, ↓cip_all hb hA hp, hw, tw]
  refine kCall_val (D2) (by rfl) [(1, 0)] (by simp [CALL, SCB, instL_cip, okL_cip, instL_room, okL_room, tw]) (by simp [CALL, SCB, instL_cip, okL_cip, instL_room, okL_room, tw]) (by simp [CALL, SCB, instL_cip, okL_cip, instL_room, okL_room, tw]) (by simp [okL_bs, okL_room, okL, okV, instL_cip, okL_cip, instL_room, okL_room, tw]) ?_
  simp (config := { maxSteps := 2000000 }) only [CALL, ↓VC2, ZP, VP, TT, Nat.reduceEqDiff, reduceCtorEq, Nat.reduceAdd, Nat.reduceSub, Nat.reduceLT, Nat.reduceMul, Nat.reducePow, Nat.reduceLeDiff, Int.reduceToNat, Int.reduceLE, Int.reduceLT, Int.reducePow, GOB, CX_FnDigests, lawPost, SPV, instL_cip, instL_room, cipC_len z256 z16 z16, DC.cells, cipC_len hb hA hp, ↓cip_all hb hA hp, hw, tw, bne_self_eq_false]
  refine ⟨intCells_bs _, intCells_bs _, fun b1 hb1 => ?_⟩
  obtain rfl : b1 = true := hb1.2 trivial
  rw [if_neg (by simp)]
  exact kMeet (dg_eight (l := l) (c := c) (D := D) (r := r) (z := z) (n := n) hc hm hb hA hp hD) (by kernel_rfl) ⟨[0, 1, 2, 3], by simp [-List.reduceReplicate, LES, CX_FnDigests, SPL, List.drop_succ_cons, List.length_append, List.length_replicate, List.length_cons, okL_app, okL_rep, dhS, dhH, renL_room, okL_room, renL_cip, okL_cip]⟩
end
end Go.Proofs.YtahnjhppkgndiaaGreat

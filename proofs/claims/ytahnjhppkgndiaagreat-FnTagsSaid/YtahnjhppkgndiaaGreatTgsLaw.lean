import Derived.Test.YtahnjhppkgndiaaGreatTgsB
import Derived.Test.YtahnjhppkgndiaaGreatTag
/- FnTags: streams begin with shorter streams and are made of tags, chains of tags break at the first changed data, and digests that are found have as many zeros as wanted. In sections. -/
set_option linter.unusedSimpArgs false
set_option linter.unusedVariables false
namespace Go.Proofs.YtahnjhppkgndiaaGreat
open Go Go.Vc
set_option maxRecDepth 10000
set_option maxHeartbeats 40000000
section
variable {l : List UInt8} {c : Nat}
theorem t_bytes5 (A : List UInt8) (ca cb : Nat) (hca : A.length ≤ ca) (hcb : A.length ≤ cb) (hm : A.length ≤ 4194304) : LC Tryz.prog 13 [.s 0 0 A.length ca, .s 1 0 A.length cb] [⟨false, bs A⟩, ⟨false, bs A⟩] (fun v hp => v = .c (.bool (true)) ∧ hp = [⟨false, bs A⟩, ⟨false, bs A⟩]) := by
  refine LC_of (X := XX (fun | 6 => .one 0 (.one 1 (.one 2 (.one 3 (.one 4 (.one 5 (.one 6 (.one 7 (.one 8 .nil)))))))) | _ => .nil) (fun _ => []) [15, 71, 72, 73, 79, 80, 87, 90, 91, 93, 99, 119, 137, 176, 177, 203, 204, 212, 219] 2) envOK Tryz.func13 (by kernel_rfl) (by kernel_rfl) rfl (Nat.le_of_ble_eq_true (by kernel_rfl)) ?_
  simp only [kFun, Tryz.f13, List.length_nil, List.length_cons, Nat.sub_zero, Nat.reduceSub, Nat.reduceAdd, List.nil_append, List.cons_append, List.replicate_succ, List.replicate_zero]
  simp only [XX, ↓VC2, ZP, VP, TT, Nat.reduceEqDiff, reduceCtorEq, Nat.reduceAdd, Nat.reduceSub, Nat.reduceLT, Nat.reduceMul, Nat.reducePow, Nat.reduceLeDiff, Int.reduceToNat, Int.reduceLE, Int.reduceLT, Int.reducePow, bne_self_eq_false]
  refine kLoop_of (fun i : Nat => ([.s 0 0 A.length ca, .s 1 0 A.length cb, .j, .j, .j, .c (.int .i64 (i)), .j, .j, .j, .j, .j, .j, .j, .j, .j, .j, .j, .j, .j, .j, .j, .j, .j, .j, .j, .j], [⟨false, bs A⟩, ⟨false, bs A⟩])) (fun i => A.length - i) (fun i => i ≤ A.length) 0 (by omega) ⟨[0, 1], by simp [-List.reduceReplicate, LES]⟩ ?_
  intro i hi
  rcases Nat.lt_or_ge i A.length with h | h
  · simp only [↓VC2, ZP, VP, TT, Nat.reduceEqDiff, reduceCtorEq, Nat.reduceAdd, Nat.reduceSub, Nat.reduceLT, Nat.reduceMul, Nat.reducePow, Nat.reduceLeDiff, Int.reduceToNat, Int.reduceLE, Int.reduceLT, Int.reducePow, (eq_true (by omega) : ((i : Int) < (A.length : Int)) = True), decide_true, bne_self_eq_false, Int.toNat_natCast, h]
    refine ⟨i + 1, by omega, by omega, [0, 1], ?_⟩
    rw [wrap_i64 (by omega) (by omega)]
    simp [-List.reduceReplicate, LES]
  · obtain rfl : i = A.length := by omega
    simp only [↓VC2, ZP, VP, TT, Nat.reduceEqDiff, reduceCtorEq, Nat.reduceAdd, Nat.reduceSub, Nat.reduceLT, Nat.reduceMul, Nat.reducePow, Nat.reduceLeDiff, Int.reduceToNat, Int.reduceLE, Int.reduceLT, Int.reducePow, (eq_false (by omega) : ((A.length : Int) < (A.length : Int)) = False), decide_false]
    exact ⟨_, _, [0, 1], ⟨rfl, rfl⟩, by simp [-List.reduceReplicate, LES]⟩
abbrev teS (l : List UInt8) (c m r : Nat) (zs e : Int) : List V := ((.s 0 0 l.length c) :: (@HAppend.hAppend (List V) (List V) (List V) _ (List.replicate 9 V.j) ((.p 1 0) :: ((.p 2 0) :: ((.p 3 0) :: ((.c (.int .i64 (zs))) :: ((.s 4 0 m (m + r)) :: ((.c (.int .i64 (e))) :: (List.replicate 292 .j)))))))))
abbrev teH (l o key nonce : List UInt8) (r : Nat) (z n : Int) (b A pl : List UInt8) : List Blk := [⟨false, bs l⟩, ⟨true, cipC z b A pl n⟩, ⟨true, bs key⟩, ⟨true, bs nonce⟩, ⟨true, bs o ++ List.replicate r .j⟩]
theorem tg_eleven (hc : l.length ≤ c) (hm : l.length ≤ 4096) {o key nonce : List UInt8} {r : Nat} {z n zs e : Int} {b A pl : List UInt8} (hb : b.length = 256) (hA : A.length = 16) (hp : pl.length = 16) (hk : key.length = 16) (hn : nonce.length = 16) (ho : o.length ≤ 2000)
    (hT : e ≠ 0 ∨ (e = 0 ∧ zs = o.length ∧ ∀ k : Nat, k ≤ o.length → LC Tryz.prog 11 [.a (cipC z b A pl n), .a (bs key), .a (bs nonce), .c (.int .i64 (k))] [] (Ret [] (fun _ : Nat => True) fun r => (.t [.s 0 0 (o.take k).length ((o.take k).length + r), .c (.int .i64 (0))], [⟨true, bs (o.take k) ++ List.replicate r .j⟩])))) :
    kFrom cx_FnTags Tryz.f3 [11, 16, 31, 40] 11 lawPost (teS l c o.length r zs e) (teH l o key nonce r z n b A pl) := by
  simp only [kFrom, kFromK, kAt, Go.Vc.mark, lawPost, List.contains_cons, List.contains_nil, Nat.reduceBEq, Bool.or_false, Bool.false_or, Bool.true_or, Bool.or_true, Bool.false_eq_true, if_true, if_false, Nat.reduceAdd, Nat.reduceEqDiff, reduceCtorEq, Tryz.f3]
  simp only [CX_FnTags, SPV, lawPost, ↓VC2, ZP, VP, TT, Nat.reduceEqDiff, reduceCtorEq, Nat.reduceAdd, Nat.reduceSub, Nat.reduceLT, Nat.reduceMul, Nat.reducePow, Nat.reduceLeDiff, Int.reduceToNat, Int.reduceLE, Int.reduceLT, Int.reducePow, teS, teH]
  rcases hT with he | ⟨rfl, rfl, hS⟩
  · have fe : (e == 0) = false := beq_eq_false_iff_ne.2 he
    simp (config := { maxSteps := 2000000 }) only [CALL, ↓VC2, ZP, VP, TT, Nat.reduceEqDiff, reduceCtorEq, Nat.reduceAdd, Nat.reduceSub, Nat.reduceLT, Nat.reduceMul, Nat.reducePow, Nat.reduceLeDiff, Int.reduceToNat, Int.reduceLE, Int.reduceLT, Int.reducePow, GOB, CX_FnTags, lawPost, SPV, GD, instL_cip, instL_room, cipC_len z256 z16 z16, DC.cells, fe]
    exact kMeet (tg_chain hc hm) (by kernel_rfl) ⟨[0], by simp [-List.reduceReplicate, LES, CX_FnTags, SPL, List.drop_succ_cons, List.length_append, List.length_replicate, List.length_cons, okL_app, okL_rep, tgS]⟩
  · rcases Nat.eq_zero_or_pos o.length with h0 | h0
    · simp (config := { maxSteps := 2000000 }) only [CALL, ↓VC2, ZP, VP, TT, Nat.reduceEqDiff, reduceCtorEq, Nat.reduceAdd, Nat.reduceSub, Nat.reduceLT, Nat.reduceMul, Nat.reducePow, Nat.reduceLeDiff, Int.reduceToNat, Int.reduceLE, Int.reduceLT, Int.reducePow, GOB, CX_FnTags, lawPost, SPV, GD, instL_cip, instL_room, cipC_len z256 z16 z16, DC.cells, beq_self_eq_true, (eq_false (by omega) : ((o.length : Int) > 0) = False), decide_false]
      exact kMeet (tg_chain hc hm) (by kernel_rfl) ⟨[0], by simp [-List.reduceReplicate, LES, CX_FnTags, SPL, List.drop_succ_cons, List.length_append, List.length_replicate, List.length_cons, okL_app, okL_rep, tgS]⟩
    · simp (config := { maxSteps := 2000000 }) only [CALL, ↓VC2, ZP, VP, TT, Nat.reduceEqDiff, reduceCtorEq, Nat.reduceAdd, Nat.reduceSub, Nat.reduceLT, Nat.reduceMul, Nat.reducePow, Nat.reduceLeDiff, Int.reduceToNat, Int.reduceLE, Int.reduceLT, Int.reducePow, GOB, CX_FnTags, lawPost, SPV, GD, instL_cip, instL_room, cipC_len z256 z16 z16, DC.cells, beq_self_eq_true, (eq_true (by omega) : ((o.length : Int) > 0) = True), decide_true]
      refine kCall_Ret (d_roll 904 hc hm) (by rfl) [(0, 0)] (by simp [CALL, SCB, SD, nsv, instL_cip, okL_cip, instL_room, okL_room]) (by simp [CALL, SCB, SD, nsv, instL_cip, okL_cip, instL_room, okL_room]) (by simp [CALL, SCB, SD, nsv, instL_cip, okL_cip, instL_room, okL_room]) (by simp [okL_bs, okL_room, okL, okV, SD, nsv, instL_cip, okL_cip, instL_room, okL_room]) (by simp [CALL, SCB, SD, nsv, instL_cip, okL_cip, instL_room, okL_room]) fun q hq => ?_
      simp (config := { maxSteps := 2000000 }) only [CALL, ↓VC2, ZP, VP, TT, Nat.reduceEqDiff, reduceCtorEq, Nat.reduceAdd, Nat.reduceSub, Nat.reduceLT, Nat.reduceMul, Nat.reducePow, Nat.reduceLeDiff, Int.reduceToNat, Int.reduceLE, Int.reduceLT, Int.reducePow, GOB, CX_FnTags, lawPost, SPV, GD, instL_cip, instL_room, cipC_len z256 z16 z16, DC.cells]
      refine kCall_M (d_below hc hm hq (o.length : Int)) (by rfl) [(5, 0), (0, 0)] (by simp [CALL, SCB, SD, nsv, instL_cip, okL_cip, instL_room, okL_room]) (by simp [CALL, SCB, SD, nsv, instL_cip, okL_cip, instL_room, okL_room]) (by simp) (by simp [CALL, SCB, SD, nsv, instL_cip, okL_cip, instL_room, okL_room]) (by simp [okL_bs, okL_room, okL, okV, SD, nsv, instL_cip, okL_cip, instL_room, okL_room]) (by intro x _; simp [keepR, bs_length, SD, nsv, instL_cip, okL_cip, instL_room, okL_room]) (by simp [CALL, SCB, SD, nsv, instL_cip, okL_cip, instL_room, okL_room]) fun x1 h1 => ?_
      obtain ⟨q1, i1⟩ := x1
      obtain ⟨hq1, a1, a2, _⟩ := h1
      simp only at hq1 a1 a2 ⊢
      have a2 := a2 (by omega)
      obtain ⟨j, rfl⟩ : ∃ j : Nat, i1 = j := ⟨i1.toNat, by omega⟩
      have hj : j < o.length := by omega
      have S1 := hS j (by omega)
      have hl : (o.take j).length = j := by rw [List.length_take]; omega
      rw [hl] at S1
      have hx : ∀ X, List.take j (bs o ++ X) = bs (o.take j) := fun X => by rw [List.take_append_of_le_length (by rw [bs_length]; omega), bs_take]
      simp (config := { maxSteps := 2000000 }) only [CALL, ↓VC2, ZP, VP, TT, Nat.reduceEqDiff, reduceCtorEq, Nat.reduceAdd, Nat.reduceSub, Nat.reduceLT, Nat.reduceMul, Nat.reducePow, Nat.reduceLeDiff, Int.reduceToNat, Int.reduceLE, Int.reduceLT, Int.reducePow, GOB, CX_FnTags, lawPost, SPV, GD, instL_cip, instL_room, cipC_len z256 z16 z16, DC.cells, hk, hn, cipC_len hb hA hp, ↓cip_all hb hA hp]
      refine kCall_Ret (S1) (by rfl) [] (by simp [CALL, SCB, SD, nsv, instL_cip, okL_cip, instL_room, okL_room]) (by simp [CALL, SCB, SD, nsv, instL_cip, okL_cip, instL_room, okL_room]) (by simp [CALL, SCB, SD, nsv, instL_cip, okL_cip, instL_room, okL_room]) (by simp [okL_bs, okL_room, okL, okV, SD, nsv, instL_cip, okL_cip, instL_room, okL_room]) (by simp [CALL, SCB, SD, nsv, instL_cip, okL_cip, instL_room, okL_room]) fun r1 _ => ?_
      simp (config := { maxSteps := 2000000 }) only [CALL, ↓VC2, ZP, VP, TT, Nat.reduceEqDiff, reduceCtorEq, Nat.reduceAdd, Nat.reduceSub, Nat.reduceLT, Nat.reduceMul, Nat.reducePow, Nat.reduceLeDiff, Int.reduceToNat, Int.reduceLE, Int.reduceLT, Int.reducePow, GOB, CX_FnTags, lawPost, SPV, GD, instL_cip, instL_room, cipC_len z256 z16 z16, DC.cells, hk, hn, cipC_len hb hA hp, ↓cip_all hb hA hp, bne_self_eq_false, Int.toNat_natCast]
      refine ⟨by omega, ?_⟩
      rw [Nat.sub_zero, Nat.sub_zero]
      have B1 := t_bytes5 (o.take j) (j + r1) (o.length + r) (by omega) (by omega) (by omega)
      rw [hl] at B1
      refine kCall_val (B1) (by rfl) [(6, 0), (4, 0)] (by simp [CALL, SCB, SD, nsv, instL_cip, okL_cip, instL_room, okL_room, hx, hl]) (by simp [CALL, SCB, SD, nsv, instL_cip, okL_cip, instL_room, okL_room, hx, hl]) (by simp [CALL, SCB, SD, nsv, instL_cip, okL_cip, instL_room, okL_room, hx, hl]) (by simp [okL_bs, okL_room, okL, okV, SD, nsv, instL_cip, okL_cip, instL_room, okL_room, hx, hl]) ?_
      simp (config := { maxSteps := 2000000 }) only [CALL, ↓VC2, ZP, VP, TT, Nat.reduceEqDiff, reduceCtorEq, Nat.reduceAdd, Nat.reduceSub, Nat.reduceLT, Nat.reduceMul, Nat.reducePow, Nat.reduceLeDiff, Int.reduceToNat, Int.reduceLE, Int.reduceLT, Int.reducePow, GOB, CX_FnTags, lawPost, SPV, GD, instL_cip, instL_room, cipC_len z256 z16 z16, DC.cells, bne_self_eq_false, Bool.not_true]
      try rw [if_neg (by simp)]
      exact kMeet (tg_chain hc hm) (by kernel_rfl) ⟨[0], by simp [-List.reduceReplicate, LES, CX_FnTags, SPL, List.drop_succ_cons, List.length_append, List.length_replicate, List.length_cons, okL_app, okL_rep, tgS]⟩
theorem law_FnTags (l : List UInt8) (c : Nat) (hc : l.length ≤ c) (hmc : c ≤ maxLen) : LC Tryz.prog 3 [.s 0 0 l.length c] [⟨false, bs l⟩] (fun v _ => v = .c (.bool true)) := by
  refine LC_ofM (X := cx_FnTags) [11, 16, 31, 40] envOK Tryz.func3 (by kernel_rfl) (ord_two (by kernel_rfl)) rfl (Nat.le_of_ble_eq_true (by kernel_rfl)) ?_
  simp only [kFunM, Go.Vc.mark, List.contains_cons, List.contains_nil, Nat.reduceBEq, Bool.or_false, Bool.false_or, Bool.true_or, Bool.or_true, Bool.false_eq_true, if_true, if_false, Nat.reduceAdd, Nat.reduceEqDiff, Tryz.f3, List.length_nil, List.length_cons, Nat.sub_zero, Nat.reduceSub, List.nil_append, List.cons_append]
  simp only [CX_FnTags, SPV, ↓VC2, ZP, VP, TT, Nat.reduceEqDiff, reduceCtorEq, Nat.reduceAdd, Nat.reduceSub, Nat.reduceLT, Nat.reduceMul, Nat.reducePow, Nat.reduceLeDiff, Int.reduceToNat, Int.reduceLE, Int.reduceLT, Int.reducePow]
  refine kCall_val (d_big (l := l) (c := c) (by omega)) (by rfl) [(0, 0)] (by simp [CALL, SCB, SD, nsv, instL_cip, okL_cip, instL_room, okL_room]) (by simp [CALL, SCB, SD, nsv, instL_cip, okL_cip, instL_room, okL_room]) (by simp [CALL, SCB, SD, nsv, instL_cip, okL_cip, instL_room, okL_room]) (by simp [okL_bs, okL_room, okL, okV, SD, nsv, instL_cip, okL_cip, instL_room, okL_room]) ?_
  simp (config := { maxSteps := 2000000 }) only [CALL, ↓VC2, ZP, VP, TT, Nat.reduceEqDiff, reduceCtorEq, Nat.reduceAdd, Nat.reduceSub, Nat.reduceLT, Nat.reduceMul, Nat.reducePow, Nat.reduceLeDiff, Int.reduceToNat, Int.reduceLE, Int.reduceLT, Int.reducePow, GOB, CX_FnTags, lawPost, SPV, GD, instL_cip, instL_room, cipC_len z256 z16 z16, DC.cells]
  refine zIf (fun _ => ⟨_, [⟨false, bs l⟩], [0], rfl, by simp [-List.reduceReplicate, LES]⟩) (fun h => ?_)
  have hm : l.length ≤ 4096 := by simpa using h
  clear h
  refine kCall_Ret (d_TagOf hc hm) (by rfl) [(0, 0)] (by simp [CALL, SCB, SD, nsv, instL_cip, okL_cip, instL_room, okL_room]) (by simp [CALL, SCB, SD, nsv, instL_cip, okL_cip, instL_room, okL_room]) (by simp [CALL, SCB, SD, nsv, instL_cip, okL_cip, instL_room, okL_room]) (by simp [okL_bs, okL_room, okL, okV, SD, nsv, instL_cip, okL_cip, instL_room, okL_room]) (by simp [CALL, SCB, SD, nsv, instL_cip, okL_cip, instL_room, okL_room]) fun x1 h1 => ?_
  obtain ⟨⟨z, b, A, pl, n⟩, key, D, r⟩ := x1
  obtain ⟨⟨hb, hA, hp⟩, hk, hD⟩ := h1
  simp only [DC.cells] at hb hA hp hk hD ⊢
  obtain ⟨o, e, ho, S1, I1⟩ := tag_both z n b A pl key D (D.length + r) (by omega) hb hA hp hk (by omega)
  have to : List.take 32 o = o := List.take_of_length_le (Nat.le_of_eq ho)
  simp (config := { maxSteps := 2000000 }) only [CALL, ↓VC2, ZP, VP, TT, Nat.reduceEqDiff, reduceCtorEq, Nat.reduceAdd, Nat.reduceSub, Nat.reduceLT, Nat.reduceMul, Nat.reducePow, Nat.reduceLeDiff, Int.reduceToNat, Int.reduceLE, Int.reduceLT, Int.reducePow, GOB, CX_FnTags, lawPost, SPV, GD, instL_cip, instL_room, cipC_len z256 z16 z16, DC.cells, hk, cipC_len hb hA hp, ↓cip_put_all z256 z16 z16 hb hA hp, ↓cip_all hb hA hp, ho, to]
  refine kCall_val (I1) (by rfl) [(1, 0)] (by simp [CALL, SCB, SD, nsv, instL_cip, okL_cip, instL_room, okL_room, to]) (by simp [CALL, SCB, SD, nsv, instL_cip, okL_cip, instL_room, okL_room, to]) (by simp [CALL, SCB, SD, nsv, instL_cip, okL_cip, instL_room, okL_room, to]) (by simp [okL_bs, okL_room, okL, okV, SD, nsv, instL_cip, okL_cip, instL_room, okL_room, to]) ?_
  simp (config := { maxSteps := 2000000 }) only [CALL, ↓VC2, ZP, VP, TT, Nat.reduceEqDiff, reduceCtorEq, Nat.reduceAdd, Nat.reduceSub, Nat.reduceLT, Nat.reduceMul, Nat.reducePow, Nat.reduceLeDiff, Int.reduceToNat, Int.reduceLE, Int.reduceLT, Int.reducePow, GOB, CX_FnTags, lawPost, SPV, GD, instL_cip, instL_room, cipC_len z256 z16 z16, DC.cells, hk, cipC_len hb hA hp, ↓cip_all hb hA hp, ho, to]
  refine kCall_val (S1) (by rfl) [(1, 0)] (by simp [CALL, SCB, SD, nsv, instL_cip, okL_cip, instL_room, okL_room, to]) (by simp [CALL, SCB, SD, nsv, instL_cip, okL_cip, instL_room, okL_room, to]) (by simp [CALL, SCB, SD, nsv, instL_cip, okL_cip, instL_room, okL_room, to]) (by simp [okL_bs, okL_room, okL, okV, SD, nsv, instL_cip, okL_cip, instL_room, okL_room, to]) ?_
  simp (config := { maxSteps := 2000000 }) only [CALL, ↓VC2, ZP, VP, TT, Nat.reduceEqDiff, reduceCtorEq, Nat.reduceAdd, Nat.reduceSub, Nat.reduceLT, Nat.reduceMul, Nat.reducePow, Nat.reduceLeDiff, Int.reduceToNat, Int.reduceLE, Int.reduceLT, Int.reducePow, GOB, CX_FnTags, lawPost, SPV, GD, instL_cip, instL_room, cipC_len z256 z16 z16, DC.cells, hk, cipC_len hb hA hp, ↓cip_all hb hA hp, ho, to]
  refine kCall_Ret (d_StreamOf hc hm) (by rfl) [(0, 0)] (by simp [CALL, SCB, SD, nsv, instL_cip, okL_cip, instL_room, okL_room]) (by simp [CALL, SCB, SD, nsv, instL_cip, okL_cip, instL_room, okL_room]) (by simp [CALL, SCB, SD, nsv, instL_cip, okL_cip, instL_room, okL_room]) (by simp [okL_bs, okL_room, okL, okV, SD, nsv, instL_cip, okL_cip, instL_room, okL_room]) (by simp [CALL, SCB, SD, nsv, instL_cip, okL_cip, instL_room, okL_room]) fun x2 h2 => ?_
  obtain ⟨⟨z2, b2, A2, pl2, n2⟩, key2, nonce, zs⟩ := x2
  obtain ⟨⟨hb2, hA2, hp2⟩, hk2, hn2⟩ := h2
  simp only [DC.cells] at hb2 hA2 hp2 hk2 hn2 ⊢
  obtain ⟨o2, e2, ho2, S2, I2, T2⟩ := stream_two z2 n2 b2 A2 pl2 key2 nonce hb2 hA2 hp2 hk2 hn2 zs
  simp (config := { maxSteps := 2000000 }) only [CALL, ↓VC2, ZP, VP, TT, Nat.reduceEqDiff, reduceCtorEq, Nat.reduceAdd, Nat.reduceSub, Nat.reduceLT, Nat.reduceMul, Nat.reducePow, Nat.reduceLeDiff, Int.reduceToNat, Int.reduceLE, Int.reduceLT, Int.reducePow, GOB, CX_FnTags, lawPost, SPV, GD, instL_cip, instL_room, cipC_len z256 z16 z16, DC.cells, hk2, hn2, cipC_len hb2 hA2 hp2, ↓cip_put_all z256 z16 z16 hb2 hA2 hp2, ↓cip_all hb2 hA2 hp2, ho, to]
  refine kCall_Ret (I2) (by rfl) [] (by simp [CALL, SCB, SD, nsv, instL_cip, okL_cip, instL_room, okL_room, to]) (by simp [CALL, SCB, SD, nsv, instL_cip, okL_cip, instL_room, okL_room, to]) (by simp [CALL, SCB, SD, nsv, instL_cip, okL_cip, instL_room, okL_room, to]) (by simp [okL_bs, okL_room, okL, okV, SD, nsv, instL_cip, okL_cip, instL_room, okL_room, to]) (by simp [CALL, SCB, SD, nsv, instL_cip, okL_cip, instL_room, okL_room, to]) fun r2 _ => ?_
  simp (config := { maxSteps := 2000000 }) only [CALL, ↓VC2, ZP, VP, TT, Nat.reduceEqDiff, reduceCtorEq, Nat.reduceAdd, Nat.reduceSub, Nat.reduceLT, Nat.reduceMul, Nat.reducePow, Nat.reduceLeDiff, Int.reduceToNat, Int.reduceLE, Int.reduceLT, Int.reducePow, GOB, CX_FnTags, lawPost, SPV, GD, instL_cip, instL_room, cipC_len z256 z16 z16, DC.cells, hk2, hn2, cipC_len hb2 hA2 hp2, ↓cip_all hb2 hA2 hp2, ho, to]
  refine kCall_Ret (S2) (by rfl) [] (by simp [CALL, SCB, SD, nsv, instL_cip, okL_cip, instL_room, okL_room, to]) (by simp [CALL, SCB, SD, nsv, instL_cip, okL_cip, instL_room, okL_room, to]) (by simp [CALL, SCB, SD, nsv, instL_cip, okL_cip, instL_room, okL_room, to]) (by simp [okL_bs, okL_room, okL, okV, SD, nsv, instL_cip, okL_cip, instL_room, okL_room, to]) (by simp [CALL, SCB, SD, nsv, instL_cip, okL_cip, instL_room, okL_room, to]) fun r3 _ => ?_
  simp (config := { maxSteps := 2000000 }) only [CALL, ↓VC2, ZP, VP, TT, Nat.reduceEqDiff, reduceCtorEq, Nat.reduceAdd, Nat.reduceSub, Nat.reduceLT, Nat.reduceMul, Nat.reducePow, Nat.reduceLeDiff, Int.reduceToNat, Int.reduceLE, Int.reduceLT, Int.reducePow, GOB, CX_FnTags, lawPost, SPV, GD, instL_cip, instL_room, cipC_len z256 z16 z16, DC.cells, hk2, hn2, cipC_len hb2 hA2 hp2, ↓cip_all hb2 hA2 hp2, ho, to, bne_self_eq_false]
  refine ⟨intCells_bs _, intCells_bs _, fun b1 hb1 => ?_⟩
  obtain rfl : b1 = true := hb1.2 trivial
  simp (config := { maxSteps := 2000000 }) only [CALL, ↓VC2, ZP, VP, TT, Nat.reduceEqDiff, reduceCtorEq, Nat.reduceAdd, Nat.reduceSub, Nat.reduceLT, Nat.reduceMul, Nat.reducePow, Nat.reduceLeDiff, Int.reduceToNat, Int.reduceLE, Int.reduceLT, Int.reducePow, GOB, CX_FnTags, lawPost, SPV, GD, instL_cip, instL_room, cipC_len z256 z16 z16, DC.cells, ho, to, bne_self_eq_false]
  refine kCall_val (t_bytes5 o2 (o2.length + r2) (o2.length + r3) (by omega) (by omega) (by omega)) (by rfl) [(9, 0), (10, 0)] (by simp [CALL, SCB, SD, nsv, instL_cip, okL_cip, instL_room, okL_room]) (by simp [CALL, SCB, SD, nsv, instL_cip, okL_cip, instL_room, okL_room]) (by simp [CALL, SCB, SD, nsv, instL_cip, okL_cip, instL_room, okL_room]) (by simp [okL_bs, okL_room, okL, okV, SD, nsv, instL_cip, okL_cip, instL_room, okL_room]) ?_
  simp (config := { maxSteps := 2000000 }) only [CALL, ↓VC2, ZP, VP, TT, Nat.reduceEqDiff, reduceCtorEq, Nat.reduceAdd, Nat.reduceSub, Nat.reduceLT, Nat.reduceMul, Nat.reducePow, Nat.reduceLeDiff, Int.reduceToNat, Int.reduceLE, Int.reduceLT, Int.reducePow, GOB, CX_FnTags, lawPost, SPV, GD, instL_cip, instL_room, cipC_len z256 z16 z16, DC.cells, bne_self_eq_false, Bool.not_true]
  try rw [if_neg (by simp)]
  exact kMeet (tg_eleven (l := l) (c := c) (o := o2) (key := key2) (nonce := nonce) (r := r2) (z := z2) (n := n2) (zs := zs) (e := e2) hc hm hb2 hA2 hp2 hk2 hn2 ho2 T2) (by kernel_rfl) ⟨[0, 6, 7, 8, 9], by simp [-List.reduceReplicate, LES, CX_FnTags, SPL, List.drop_succ_cons, List.length_append, List.length_replicate, List.length_cons, okL_app, okL_rep, teS, teH, renL_room, okL_room, renL_cip, okL_cip]⟩
end
end Go.Proofs.YtahnjhppkgndiaaGreat

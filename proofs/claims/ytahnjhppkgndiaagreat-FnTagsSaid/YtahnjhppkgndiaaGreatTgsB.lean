import Derived.Test.YtahnjhppkgndiaaGreatTgsA
import Derived.Test.YtahnjhppkgndiaaGreatDrwF
/- FnTags: its section from region 16 on: chains of tags break at the first changed data. -/
set_option linter.unusedSimpArgs false
set_option linter.unusedVariables false
namespace Go.Proofs.YtahnjhppkgndiaaGreat
open Go Go.Vc
set_option maxRecDepth 10000
set_option maxHeartbeats 40000000
section
variable {l : List UInt8} {c : Nat}
theorem d_digests5 (n ca cb : Nat) (A : List UInt8) (hA : A.length = 32 * n) (hca : n ≤ ca) (hcb : n ≤ cb) (hm : n ≤ 1048576) : LC Tryz.prog 21 [.s 0 0 n ca, .s 1 0 n cb] [⟨false, bs A⟩, ⟨false, bs A⟩] (fun v hp => v = .c (.bool (true)) ∧ hp = [⟨false, bs A⟩, ⟨false, bs A⟩]) := by
  refine LC_of (X := XX (fun | 6 => .one 0 (.one 1 (.one 2 (.one 3 (.one 4 (.one 5 (.one 6 (.one 7 (.one 8 .nil)))))))) | _ => .nil) (fun _ => []) [15, 71, 72, 73, 79, 80, 87, 90, 91, 93, 99, 119, 137, 176, 177, 203, 204, 212, 219] 2) envOK Tryz.func21 (by kernel_rfl) (by kernel_rfl) rfl (Nat.le_of_ble_eq_true (by kernel_rfl)) ?_
  simp only [kFun, Tryz.f21, List.length_nil, List.length_cons, Nat.sub_zero, Nat.reduceSub, Nat.reduceAdd, List.nil_append, List.cons_append, List.replicate_succ, List.replicate_zero]
  simp only [XX, ↓VC2, ZP, VP, TT, Nat.reduceEqDiff, reduceCtorEq, Nat.reduceAdd, Nat.reduceSub, Nat.reduceLT, Nat.reduceMul, Nat.reducePow, Nat.reduceLeDiff, Int.reduceToNat, Int.reduceLE, Int.reduceLT, Int.reducePow, bne_self_eq_false]
  refine kLoop_of (fun i : Nat => ([.s 0 0 n ca, .s 1 0 n cb, .j, .j, .j, .c (.int .i64 (i)), .j, .j, .j, .j, .j, .j, .j, .j, .j, .j, .j, .j, .j, .j, .j, .j, .j, .j, .j, .j], [⟨false, bs A⟩, ⟨false, bs A⟩])) (fun i => n - i) (fun i => i ≤ n) 0 (by omega) ⟨[0, 1], by simp [-List.reduceReplicate, LES]⟩ ?_
  intro i hi
  rcases Nat.lt_or_ge i n with h | h
  · simp only [↓VC2, ZP, VP, TT, Nat.reduceEqDiff, reduceCtorEq, Nat.reduceAdd, Nat.reduceSub, Nat.reduceLT, Nat.reduceMul, Nat.reducePow, Nat.reduceLeDiff, Int.reduceToNat, Int.reduceLE, Int.reduceLT, Int.reducePow, (eq_true (by omega) : ((i : Int) < (n : Int)) = True), decide_true, hA]
    have hl := dgA_len hA h
    rw [dgA_eq]
    refine ⟨by omega, by omega, hl, hl, intCells_bs _, intCells_bs _, fun b hb => ?_⟩
    obtain rfl : b = true := hb.2 trivial
    rw [if_neg (by simp)]
    refine ⟨i + 1, by omega, by omega, [0, 1], ?_⟩
    rw [wrap_i64 (by omega) (by omega)]
    simp [-List.reduceReplicate, LES]
  · obtain rfl : i = n := by omega
    simp only [↓VC2, ZP, VP, TT, Nat.reduceEqDiff, reduceCtorEq, Nat.reduceAdd, Nat.reduceSub, Nat.reduceLT, Nat.reduceMul, Nat.reducePow, Nat.reduceLeDiff, Int.reduceToNat, Int.reduceLE, Int.reduceLT, Int.reducePow, (eq_false (by omega) : ((i : Int) < (i : Int)) = False), decide_false]
    exact ⟨_, _, [0, 1], ⟨rfl, rfl⟩, by simp [-List.reduceReplicate, LES]⟩
theorem fbR_own : ∀ x : FB, ∀ b ∈ (fbR x).2, b.own = true ∨ b.cells = [] := by
  intro x b hb
  simp only [fbR, List.mem_cons, partB, List.mem_map] at hb
  rcases hb with rfl | rfl | ⟨p, _, rfl⟩ <;> exact .inl rfl
theorem fbR_inst (x : FB) : ((fbR x).2.map fun b => (⟨b.own, V.instL [(0, 0)] 1 b.cells⟩ : Blk)) = (fbR x).2 := by
  have hj : ∀ r, V.instL [(0, 0)] 1 (List.replicate r V.j) = List.replicate r V.j := fun r => by
    induction r with
    | zero => rfl
    | succ r ih => rw [List.replicate_succ, V.instL, ih]; rfl
  unfold fbR
  simp only [List.map_cons, instL_app, instL_ptrN (sub := [(0, 0)]) (N := 1) (h := 3) (b := 2) rfl, hj, instL_bs]
  congr 2
  unfold partB
  rw [List.map_map]
  refine List.map_congr_left fun p hp => ?_
  simp only [tPs, List.mem_map] at hp
  obtain ⟨q, _, rfl⟩ := hp
  simp [tP, instL_room]
theorem ch_blk {n k : Nat} {T : List UInt8} {e : Int} {sub : List (Nat × Nat)} {N r : Nat} : ((chS n k T e r).2.map fun b => (⟨b.own, V.instL sub N b.cells⟩ : Blk)) = [⟨true, bs T ++ List.replicate (32 * r) .j⟩] := by simp [chS, instL_room]
theorem tg_chain (hc : l.length ≤ c) (hm : l.length ≤ 4096) : kFrom cx_FnTags Tryz.f3 [11, 16, 31, 40] 16 lawPost (tgS l c) [⟨false, bs l⟩] := by
  simp only [kFrom, kFromK, kAt, Go.Vc.mark, lawPost, List.contains_cons, List.contains_nil, Nat.reduceBEq, Bool.or_false, Bool.false_or, Bool.true_or, Bool.or_true, Bool.false_eq_true, if_true, if_false, Nat.reduceAdd, Nat.reduceEqDiff, reduceCtorEq, Tryz.f3]
  simp only [CX_FnTags, SPV, lawPost, ↓VC2, ZP, VP, TT, Nat.reduceEqDiff, reduceCtorEq, Nat.reduceAdd, Nat.reduceSub, Nat.reduceLT, Nat.reduceMul, Nat.reducePow, Nat.reduceLeDiff, Int.reduceToNat, Int.reduceLE, Int.reduceLT, Int.reducePow, tgS]
  refine kCall_Ret (d_FirstBroken hc hm) (by rfl) [(0, 0)] (by simp [CALL, SCB, instL_cip, okL_cip, instL_room, okL_room]) (by simp [CALL, SCB, instL_cip, okL_cip, instL_room, okL_room]) (by simp [CALL, SCB, instL_cip, okL_cip, instL_room, okL_room]) (by simp [okL_bs, okL_room, okL, okV, instL_cip, okL_cip, instL_room, okL_room]) (by intro x b hb; exact fbR_own x b hb) fun x hx => ?_
  simp only [List.length_cons, List.length_nil, Nat.zero_add]
  rw [fbR_inst]
  obtain ⟨z, n, b, A, pl, key, D, r, T, k, r2⟩ := x
  obtain ⟨hb, hA, hp, hk, hD, hL, hT, hkn⟩ := hx
  simp only at hb hA hp hk hD hL hT hkn
  have hPn := tPs_length D
  have hRn := rmD_length D
  have gA : ∀ (x : Blk) R, (partB true (tPs D) ++ x :: R)[D.length]? = some x := fun x R => by
    rw [List.getElem?_append_right (Nat.le_of_eq (by rw [partB_length, hPn])), partB_length, hPn, Nat.sub_self]; rfl
  have gA1 : ∀ (x y : Blk) R, (partB true (tPs D) ++ x :: y :: R)[D.length + 1]? = some y := fun x y R => by
    rw [List.getElem?_append_right (by rw [partB_length, hPn]; omega), partB_length, hPn, Nat.add_sub_cancel_left]; rfl
  have sA : ∀ (x y : Blk) R, (partB true (tPs D) ++ x :: R).set D.length y = partB true (tPs D) ++ y :: R := fun x y R => by
    rw [List.set_append_right _ _ (Nat.le_of_eq (by rw [partB_length, hPn])), partB_length, hPn, Nat.sub_self]; rfl
  have sA1 : ∀ (x y z : Blk) R, (partB true (tPs D) ++ x :: y :: R).set (D.length + 1) z = partB true (tPs D) ++ x :: z :: R := fun x y z R => by
    rw [List.set_append_right _ _ (by rw [partB_length, hPn]; omega), partB_length, hPn, Nat.add_sub_cancel_left]; rfl
  simp (config := { maxSteps := 2000000 }) only [CALL, ↓VC2, ZP, VP, TT, Nat.reduceEqDiff, reduceCtorEq, Nat.reduceAdd, Nat.reduceSub, Nat.reduceLT, Nat.reduceMul, Nat.reducePow, Nat.reduceLeDiff, Int.reduceToNat, Int.reduceLE, Int.reduceLT, Int.reducePow, GOB, CX_FnTags, lawPost, SPV, instL_cip, instL_room, cipC_len z256 z16 z16, DC.cells, fbR, gA, gA1, sA, sA1, partB_length, hPn, hk, cipC_len hb hA hp, ↓cip_put_all z256 z16 z16 hb hA hp, ↓cip_all hb hA hp, List.append_assoc, List.cons_append, List.nil_append]
  obtain ⟨hp1, e1⟩ : ∃ hp1 : List Blk, hp1 = ⟨false, bs l⟩ :: ⟨true, ptrV 3 (tPs D) ++ List.replicate r .j⟩ :: ⟨true, bs T ++ List.replicate (32 * r2) .j⟩ :: (partB true (tPs D) ++ [⟨true, cipC z b A pl n⟩, ⟨true, bs key⟩]) := ⟨_, rfl⟩
  rw [← e1]
  have f0 : hp1[0]? = some ⟨false, bs l⟩ := by rw [e1]; rfl
  have f1 : hp1[1]? = some ⟨true, ptrV 3 (tPs D) ++ List.replicate r .j⟩ := by rw [e1]; rfl
  have f2 : hp1[2]? = some ⟨true, bs T ++ List.replicate (32 * r2) .j⟩ := by rw [e1]; rfl
  have fP : ∀ (kk : Nat) (p : Prt), (tPs D)[kk]? = some p → hp1[3 + kk]? = some (⟨true, p.cells⟩ : Blk) := fun kk p hp => by
    rw [e1, show 3 + kk = kk + 1 + 1 + 1 by omega]
    exact partB_get hp
  have f3 : hp1[D.length + 1 + 1 + 1]? = some ⟨true, cipC z b A pl n⟩ := by rw [e1]; exact gA _ _
  have f4 : hp1[D.length + 1 + 1 + 1 + 1]? = some ⟨true, bs key⟩ := by rw [e1]; exact gA1 _ _ _
  have nA := nAt_t f1 fP
  have fU : bAt hp1 2 (bs T) := bAt_room f2
  have l1 : hp1.length = D.length + 5 := by rw [e1]; simp [partB_length, hPn]
  clear e1 fP
  generalize eg4 : D.length + 1 + 1 + 1 + 1 = g4 at *
  generalize eg3 : D.length + 1 + 1 + 1 = g3 at *
  obtain ⟨v, e, kk, Tc, e2, hTc, hkk, S1, I1, S2, I2, Tl⟩ := fbch z n b A pl key T hb hA hp hk (rmD D) (D.length + r) k (k + r2) (by rw [hRn]; omega) (by omega) (fun p hp => ⟨(rmD_ok hL p hp).1, by have := (rmD_ok hL p hp).2; omega⟩) hT (by omega)
  rw [hRn] at S1 I1 S2 I2
  have hBn : (bPs (rmD D)).length = D.length := by rw [bPs_length, hRn]
  have sg := fun (hp' : List Blk) (nA : nAt hp' 1 3 (bPs (rmD D))) (fU : bAt hp' 2 (bs T)) => seg_nAt (τ := [(2, 0)]) (T := [⟨false, bs T⟩]) nA hBn bPs_id (seg_bAt fU (instL_bs _ _ _) trivial)
  have ob : ∀ b' ∈ (⟨false, ptrV 1 (bPs (rmD D))⟩ : Blk) :: (partB false (bPs (rmD D)) ++ [⟨false, bs T⟩]), okL ((⟨false, ptrV 1 (bPs (rmD D))⟩ : Blk) :: (partB false (bPs (rmD D)) ++ [⟨false, bs T⟩])).length b'.cells := okB_nestT (by simp [partB_length, bPs_length, hRn])
  refine kCall_val I1 (by rfl) ((1, 0) :: (rng 3 D.length ++ [(2, 0)])) (by simp [CALL, instL_cip, instL_bs, rng_at]) (sg _ nA fU) (by simp [okL, okV, okL_cip, okL_bs, partB_length, hBn]) ob ?_
  simp (config := { maxSteps := 2000000 }) only [CALL, ↓VC2, ZP, VP, TT, Nat.reduceEqDiff, reduceCtorEq, Nat.reduceAdd, Nat.reduceSub, Nat.reduceLT, Nat.reduceMul, Nat.reducePow, Nat.reduceLeDiff, Int.reduceToNat, Int.reduceLE, Int.reduceLT, Int.reducePow, GOB, CX_FnTags, lawPost, SPV, instL_cip, instL_room, cipC_len z256 z16 z16, DC.cells, f3, f4, hk, cipC_len hb hA hp, ↓cip_all hb hA hp]
  refine kCall_val S1 (by rfl) ((1, 0) :: (rng 3 D.length ++ [(2, 0)])) (by simp [CALL, instL_cip, instL_bs, rng_at]) (sg _ nA fU) (by simp [okL, okV, okL_cip, okL_bs, partB_length, hBn]) ob ?_
  simp (config := { maxSteps := 2000000 }) only [CALL, ↓VC2, ZP, VP, TT, Nat.reduceEqDiff, reduceCtorEq, Nat.reduceAdd, Nat.reduceSub, Nat.reduceLT, Nat.reduceMul, Nat.reducePow, Nat.reduceLeDiff, Int.reduceToNat, Int.reduceLE, Int.reduceLT, Int.reducePow, GOB, CX_FnTags, lawPost, SPV, instL_cip, instL_room, cipC_len z256 z16 z16, DC.cells, f3, f4, hk, cipC_len hb hA hp, ↓cip_all hb hA hp]
  refine kA_ret I2 (by rfl) ((1, 0) :: rng 3 D.length) (by simp [CALL, instL_cip, instL_bs]) (seg_t nA) (by simp [okL, okV, okL_cip, okL_bs, partB_length, hBn]) (okB_nest (by simp [partB_length, bPs_length, hRn])) (by simp [chS]) fun r3 N3 hp3 _ eN3 e3 => ?_
  rw [ch_blk] at e3
  have x3 := new_ext e3
  have o3 : hp3[N3]? = some ⟨true, bs Tc ++ List.replicate (32 * r3) .j⟩ := new_at eN3 e3
  have l3 : hp3.length = N3 + 1 := by rw [e3, List.length_append, eN3]; rfl
  replace f0 := x3.get f0; replace f2 := x3.get f2; replace f3 := x3.get f3; replace f4 := x3.get f4; replace nA := nA.mono x3; replace fU := fU.mono x3
  clear e3
  simp (config := { maxSteps := 2000000 }) only [CALL, ↓VC2, ZP, VP, TT, Nat.reduceEqDiff, reduceCtorEq, Nat.reduceAdd, Nat.reduceSub, Nat.reduceLT, Nat.reduceMul, Nat.reducePow, Nat.reduceLeDiff, Int.reduceToNat, Int.reduceLE, Int.reduceLT, Int.reducePow, GOB, CX_FnTags, lawPost, SPV, instL_cip, instL_room, cipC_len z256 z16 z16, DC.cells, chS, rng_length, rng_end, f3, f4, hk, cipC_len hb hA hp, ↓cip_all hb hA hp]
  refine kA_ret S2 (by rfl) ((1, 0) :: rng 3 D.length) (by simp [CALL, instL_cip, instL_bs]) (seg_t nA) (by simp [okL, okV, okL_cip, okL_bs, partB_length, hBn]) (okB_nest (by simp [partB_length, bPs_length, hRn])) (by simp [chS]) fun r5 N5 hp5 _ eN5 e5 => ?_
  rw [ch_blk] at e5
  have x5 := new_ext e5
  have o5 : hp5[N5]? = some ⟨true, bs Tc ++ List.replicate (32 * r5) .j⟩ := new_at eN5 e5
  replace f0 := x5.get f0; replace f2 := x5.get f2; replace o3 := x5.get o3; replace x3 := x3.trans x5
  clear e5
  simp (config := { maxSteps := 2000000 }) only [CALL, ↓VC2, ZP, VP, TT, Nat.reduceEqDiff, reduceCtorEq, Nat.reduceAdd, Nat.reduceSub, Nat.reduceLT, Nat.reduceMul, Nat.reducePow, Nat.reduceLeDiff, Int.reduceToNat, Int.reduceLE, Int.reduceLT, Int.reducePow, GOB, CX_FnTags, lawPost, SPV, instL_cip, instL_room, cipC_len z256 z16 z16, DC.cells, chS, rng_length, rng_end, bne_self_eq_false]
  refine kCall_val (d_digests5 kk (kk + r3) (kk + r5) Tc hTc (by omega) (by omega) (by omega)) (by rfl) [(N3, 0), (N5, 0)] (by simp [CALL]) (seg_bAt (bAt_room o3) (instL_bs _ _ _) (seg_bAt (bAt_room o5) (instL_bs _ _ _) trivial)) (by simp [okL, okV]) (by simp [okL_bs]) ?_
  simp (config := { maxSteps := 2000000 }) only [CALL, ↓VC2, ZP, VP, TT, Nat.reduceEqDiff, reduceCtorEq, Nat.reduceAdd, Nat.reduceSub, Nat.reduceLT, Nat.reduceMul, Nat.reducePow, Nat.reduceLeDiff, Int.reduceToNat, Int.reduceLE, Int.reduceLT, Int.reducePow, GOB, CX_FnTags, lawPost, SPV, instL_cip, instL_room, cipC_len z256 z16 z16, DC.cells, bne_self_eq_false, Bool.not_true]
  have at0 : ∀ {h : Nat} {x : Blk}, hp5[h]? = some x → 0 < hp5.length := fun {h x} e => by have := (List.getElem?_eq_some_iff.1 e).1; omega
  have g00 : ∀ (h : 0 < hp5.length), hp5[0] = ⟨false, bs l⟩ := fun h => (List.getElem?_eq_some_iff.1 f0).2
  have l5 := at0 f0
  rcases Tl with he | ⟨rfl, rfl, w, rfl, hw, hA1, hA2⟩
  · have fe : (e == 0) = false := beq_eq_false_iff_ne.2 he
    simp (config := { maxSteps := 2000000 }) only [CALL, ↓VC2, ZP, VP, TT, Nat.reduceEqDiff, reduceCtorEq, Nat.reduceAdd, Nat.reduceSub, Nat.reduceLT, Nat.reduceMul, Nat.reducePow, Nat.reduceLeDiff, Int.reduceToNat, Int.reduceLE, Int.reduceLT, Int.reducePow, GOB, CX_FnTags, lawPost, SPV, instL_cip, instL_room, cipC_len z256 z16 z16, DC.cells, fe]
    exact kMeet (tg_search hc hm) (by kernel_rfl) ⟨[0], by simp [-List.reduceReplicate, LES, CX_FnTags, SPL, List.drop_succ_cons, List.length_append, List.length_replicate, List.length_cons, okL_app, okL_rep, tgS, f0, g00, l5]⟩
  · simp (config := { maxSteps := 2000000 }) only [CALL, ↓VC2, ZP, VP, TT, Nat.reduceEqDiff, reduceCtorEq, Nat.reduceAdd, Nat.reduceSub, Nat.reduceLT, Nat.reduceMul, Nat.reducePow, Nat.reduceLeDiff, Int.reduceToNat, Int.reduceLE, Int.reduceLT, Int.reducePow, GOB, CX_FnTags, lawPost, SPV, instL_cip, instL_room, cipC_len z256 z16 z16, DC.cells, beq_self_eq_true]
    have n3 : N3 ≠ 0 ∧ N3 ≠ 2 := by omega
    refine kLoop_of (fun i : Nat => (((.s 0 0 l.length c) :: (@HAppend.hAppend (List V) (List V) (List V) _ (List.replicate 23 V.j) ((.s 2 0 kk (kk + r2)) :: ((.c (.int .i64 (w))) :: (@HAppend.hAppend (List V) (List V) (List V) _ (List.replicate 3 V.j) ((.s 1 0 kk (kk + r3)) :: (@HAppend.hAppend (List V) (List V) (List V) _ (List.replicate 3 V.j) ((.c (.int .i64 (i))) :: (List.replicate 274 .j))))))))), [⟨false, bs l⟩, ⟨true, bs Tc ++ List.replicate (32 * r3) .j⟩, ⟨true, bs T ++ List.replicate (32 * r2) .j⟩])) (fun i => w - i) (fun i => i ≤ w) 0 (by omega) ⟨[0, N3, 2], ?_⟩ ?_
    · simp [-List.reduceReplicate, LES, CX_FnTags, SPL, List.drop_succ_cons, List.length_append, List.length_replicate, List.length_cons, okL_app, okL_rep, renL_room, okL_room, f0, g00, f2, o3, l5, n3.1, n3.2, Ne.symm n3.1, Ne.symm n3.2]
    intro i hi
    rcases Nat.lt_or_ge i w with h | h
    · have h1 : i * 32 + 32 ≤ Tc.length := by omega
      have h2 : i * 32 + 32 ≤ T.length := by omega
      have hs1 : ∀ (X : List V) (kx : V → Prop), vSub (bs Tc ++ X) (i * 32) 32 kx = kx (.a (bs (dgA Tc i))) := fun X kx => by
        rw [vSub_appL (by rw [bs_length]; exact h1), vSub_bs, dgA_eq]
        simp only [eq_iff_iff]
        exact ⟨fun h => h.2, fun h => ⟨h1, h⟩⟩
      have hs2 : ∀ (X : List V) (kx : V → Prop), vSub (bs T ++ X) (i * 32) 32 kx = kx (.a (bs (dgA T i))) := fun X kx => by
        rw [vSub_appL (by rw [bs_length]; exact h2), vSub_bs, dgA_eq]
        simp only [eq_iff_iff]
        exact ⟨fun h => h.2, fun h => ⟨h2, h⟩⟩
      simp (config := { maxSteps := 2000000 }) only [CALL, ↓VC2, ZP, VP, TT, Nat.reduceEqDiff, reduceCtorEq, Nat.reduceAdd, Nat.reduceSub, Nat.reduceLT, Nat.reduceMul, Nat.reducePow, Nat.reduceLeDiff, Int.reduceToNat, Int.reduceLE, Int.reduceLT, Int.reducePow, GOB, CX_FnTags, lawPost, SPV, instL_cip, instL_room, cipC_len z256 z16 z16, DC.cells, (eq_true (by omega) : ((i : Int) < (w : Int)) = True), decide_true, Int.toNat_natCast, ↓hs1, ↓hs2]
      refine ⟨by omega, by omega, dgA_len hTc (by omega), dgA_len hT (by omega), intCells_bs _, intCells_bs _, fun bb hb' => ?_⟩
      obtain rfl : bb = true := hb'.2 (by rw [hA1 i h])
      rw [if_neg (by simp)]
      refine ⟨i + 1, by omega, by omega, [0, 1, 2], ?_⟩
      rw [wrap_i64 (by omega) (by omega)]
      simp [-List.reduceReplicate, LES, CX_FnTags, SPL, List.drop_succ_cons, List.length_append, List.length_replicate, List.length_cons, okL_app, okL_rep, renL_room, okL_room]
    · obtain rfl : i = w := by omega
      rcases Nat.lt_or_ge i kk with h2 | h2
      · have h3 : i * 32 + 32 ≤ Tc.length := by omega
        have h4 : i * 32 + 32 ≤ T.length := by omega
        have hs1 : ∀ (X : List V) (kx : V → Prop), vSub (bs Tc ++ X) (i * 32) 32 kx = kx (.a (bs (dgA Tc i))) := fun X kx => by
          rw [vSub_appL (by rw [bs_length]; exact h3), vSub_bs, dgA_eq]
          simp only [eq_iff_iff]
          exact ⟨fun h => h.2, fun h => ⟨h3, h⟩⟩
        have hs2 : ∀ (X : List V) (kx : V → Prop), vSub (bs T ++ X) (i * 32) 32 kx = kx (.a (bs (dgA T i))) := fun X kx => by
          rw [vSub_appL (by rw [bs_length]; exact h4), vSub_bs, dgA_eq]
          simp only [eq_iff_iff]
          exact ⟨fun h => h.2, fun h => ⟨h4, h⟩⟩
        simp (config := { maxSteps := 2000000 }) only [CALL, ↓VC2, ZP, VP, TT, Nat.reduceEqDiff, reduceCtorEq, Nat.reduceAdd, Nat.reduceSub, Nat.reduceLT, Nat.reduceMul, Nat.reducePow, Nat.reduceLeDiff, Int.reduceToNat, Int.reduceLE, Int.reduceLT, Int.reducePow, GOB, CX_FnTags, lawPost, SPV, instL_cip, instL_room, cipC_len z256 z16 z16, DC.cells, (eq_false (by omega) : ((i : Int) < (i : Int)) = False), decide_false, (eq_true (by omega) : ((i : Int) < (kk : Int)) = True), decide_true, Int.toNat_natCast, ↓hs1, ↓hs2]
        refine ⟨dgA_len hTc (by omega), dgA_len hT (by omega), intCells_bs _, intCells_bs _, fun bb hb' => ?_⟩
        obtain rfl : bb = false := by
          cases bb with
          | false => rfl
          | true => exact absurd (bs_inj.1 (hb'.1 rfl)) (hA2 h2)
        rw [if_neg (by simp)]
        exact kMeet (tg_search hc hm) (by kernel_rfl) ⟨[0], by simp [-List.reduceReplicate, LES, CX_FnTags, SPL, List.drop_succ_cons, List.length_append, List.length_replicate, List.length_cons, okL_app, okL_rep, tgS]⟩
      · simp (config := { maxSteps := 2000000 }) only [CALL, ↓VC2, ZP, VP, TT, Nat.reduceEqDiff, reduceCtorEq, Nat.reduceAdd, Nat.reduceSub, Nat.reduceLT, Nat.reduceMul, Nat.reducePow, Nat.reduceLeDiff, Int.reduceToNat, Int.reduceLE, Int.reduceLT, Int.reducePow, GOB, CX_FnTags, lawPost, SPV, instL_cip, instL_room, cipC_len z256 z16 z16, DC.cells, (eq_false (by omega) : ((i : Int) < (i : Int)) = False), decide_false, (eq_false (by omega) : ((i : Int) < (kk : Int)) = False)]
        exact kMeet (tg_search hc hm) (by kernel_rfl) ⟨[0], by simp [-List.reduceReplicate, LES, CX_FnTags, SPL, List.drop_succ_cons, List.length_append, List.length_replicate, List.length_cons, okL_app, okL_rep, tgS]⟩
end
end Go.Proofs.YtahnjhppkgndiaaGreat

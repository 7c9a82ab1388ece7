import Derived.Test.YtjakgjelnbpmnaaGreatSldB
import Derived.Test.YtjakgjelnbpmnaaGreatDrawC
/- FnSlides: blocks that are slid from each other are enciphered to slid blocks if all keys are the same, two rounds of halves look like two, and keys of networks are halves of the block. In sections. -/
set_option linter.unusedSimpArgs false
set_option linter.unusedVariables false
namespace Go.Proofs.YtjakgjelnbpmnaaGreat
open Go Go.Vc
set_option maxRecDepth 10000
set_option maxHeartbeats 40000000
section
theorem newP_nAt {hp hp2 : List Blk} {N r : Nat} {P : List (Nat × Nat)} (hN : N = hp.length) (e : hp2 = hp ++ newP N P r) : nAt hp2 N (N + 1) (iPs P) ∧ ∀ i p, (iPs P)[i]? = some p → hp2[N + 1 + i]? = some ⟨true, p.cells⟩ := by
  subst hN e
  exact ⟨⟨bAt_room newP_out, fun i p hp => bAt_of (newP_part hp)⟩, fun i p hp => newP_part hp⟩
theorem stL_net {N : Nat} {z k n : Int} {b A : List UInt8} : stL N (netC z b A k n) := by unfold netC; simp [stL, stV, stL_app, stL_bs]
/-- The same key many times. -/
def keysK (key : List UInt8) : Nat → List UInt8
  | 0 => []
  | i + 1 => keysK key i ++ key
theorem keysK_len {key : List UInt8} (hk : key.length = 8) : ∀ i, (keysK key i).length = 8 * i
  | 0 => rfl
  | i + 1 => by rw [keysK, List.length_append, keysK_len hk i]; omega
theorem keysK_at {key : List UInt8} (hk : key.length = 8) : ∀ i x, x < i → hfA (keysK key i) x = key
  | 0, x, h => by omega
  | i + 1, x, h => by
    rw [keysK, hf_snoc (keysK_len hk i) hk h]
    split
    · exact keysK_at hk i x (by assumption)
    · rfl
theorem law_FnSlides (l : List UInt8) (c : Nat) (hc : l.length ≤ c) (hmc : c ≤ maxLen) : LC Tryz.prog 3 [.s 0 0 l.length c] [⟨false, bs l⟩] (fun v _ => v = .c (.bool true)) := by
  refine LC_ofM (X := cx_FnSlides) [17, 22, 25, 30, 33, 36, 39, 41] envOK Tryz.func3 (by kernel_rfl) (ord_two (by kernel_rfl)) rfl (Nat.le_of_ble_eq_true (by kernel_rfl)) ?_
  simp only [kFunM, Go.Vc.mark, List.contains_cons, List.contains_nil, Nat.reduceBEq, Bool.or_false, Bool.false_or, Bool.true_or, Bool.or_true, Bool.false_eq_true, if_true, if_false, Nat.reduceAdd, Nat.reduceEqDiff, Tryz.f3, List.length_nil, List.length_cons, Nat.sub_zero, Nat.reduceSub, List.nil_append, List.cons_append]
  simp only [CX_FnSlides, SPV, ↓VC2, ZP, VP, TT, Nat.reduceEqDiff, reduceCtorEq, Nat.reduceAdd, Nat.reduceSub, Nat.reduceLT, Nat.reduceMul, Nat.reducePow, Nat.reduceLeDiff, Int.reduceToNat, Int.reduceLE, Int.reduceLT, Int.reducePow]
  refine kCall_val (d_big (l := l) (c := c) (by omega)) (by rfl) [(0, 0)] (by simp [CALL, SCB, instL_net, okL_net, instL_room, okL_room]) (by simp [CALL, SCB, instL_net, okL_net, instL_room, okL_room]) (by simp [CALL, SCB, instL_net, okL_net, instL_room, okL_room]) (by simp [okL_bs, okL_room, okL, okV, instL_net, okL_net, instL_room, okL_room]) ?_
  simp (config := { maxSteps := 2000000 }) only [CALL, ↓VC2, ZP, VP, TT, Nat.reduceEqDiff, reduceCtorEq, Nat.reduceAdd, Nat.reduceSub, Nat.reduceLT, Nat.reduceMul, Nat.reducePow, Nat.reduceLeDiff, Int.reduceToNat, Int.reduceLE, Int.reduceLT, Int.reducePow, GOB, CX_FnSlides, lawPost, SPV, instL_net, net_zero, netC_len z256 z16, DN.cells]
  refine zIf (fun _ => ⟨_, [⟨false, bs l⟩], [0], rfl, by simp [-List.reduceReplicate, LES]⟩) (fun h => ?_)
  have hm : l.length ≤ 4096 := by simpa using h
  clear h
  refine kCall_Ret (d_SlidPlaces hc hm) (by rfl) [(0, 0)] (by simp [CALL, SCB, instL_net, okL_net, instL_room, okL_room]) (by simp [CALL, SCB, instL_net, okL_net, instL_room, okL_room]) (by simp [CALL, SCB, instL_net, okL_net, instL_room, okL_room]) (by simp [okL_bs, okL_room, okL, okV, instL_net, okL_net, instL_room, okL_room]) (by simp [CALL, SCB, instL_net, okL_net, instL_room, okL_room]) fun x1 h1 => ?_
  obtain ⟨⟨z, b, A, kd, n⟩, key, m, L, r⟩ := x1
  obtain ⟨⟨hb, hA⟩, hk, hmm, hL⟩ := h1
  simp only [DN.cells] at hb hA hk hmm hL ⊢
  obtain ⟨P, e, hP, S1, I1, T⟩ := slid_tells z kd n b A key hb hA hk m (m + r) L hL (by omega) (by omega)
  have hPn := iPs_length P
  simp (config := { maxSteps := 2000000 }) only [CALL, ↓VC2, ZP, VP, TT, Nat.reduceEqDiff, reduceCtorEq, Nat.reduceAdd, Nat.reduceSub, Nat.reduceLT, Nat.reduceMul, Nat.reducePow, Nat.reduceLeDiff, Int.reduceToNat, Int.reduceLE, Int.reduceLT, Int.reducePow, GOB, CX_FnSlides, lawPost, SPV, instL_net, net_zero, netC_len z256 z16, DN.cells, netC_len hb hA, hk, ↓net_put_all z256 z16 hb hA, ↓net_all hb hA]
  obtain ⟨hp1, e1⟩ : ∃ hp1 : List Blk, hp1 = [⟨false, bs l⟩, ⟨true, bs L ++ List.replicate (16 * r) .j⟩, ⟨true, netC z b A kd n⟩, ⟨true, bs key⟩] := ⟨_, rfl⟩
  rw [← e1]
  have f0 : hp1[0]? = some ⟨false, bs l⟩ := by rw [e1]; rfl
  have fL : bAt hp1 1 (bs L) := by rw [e1]; exact bAt_room rfl
  have fM : hp1[1]? = some ⟨true, bs L ++ List.replicate (16 * r) .j⟩ := by rw [e1]; rfl
  have st1 : stM hp1 := by rw [e1]; intro b hb; simp only [List.mem_cons, List.not_mem_nil, or_false] at hb; rcases hb with rfl | rfl | rfl | rfl <;> simp [stL_app, stL_rep, stL_bs, stL_net]
  have fC : hp1[2]? = some ⟨true, netC z b A kd n⟩ := by rw [e1]; rfl
  have fK : hp1[3]? = some ⟨true, bs key⟩ := by rw [e1]; rfl
  have hN : hp1.length = 4 := by rw [e1]; rfl
  refine kA_ret I1 (by rfl) [(1, 0)] (by simp [CALL, instL_net]) (seg_bAt fL (instL_bs _ _ _) trivial) (by simp [okL, okV, okL_net, okL_bs]) (by simp [okL_bs]) (fun r => newP_own) fun r3 N3 hp3 _ eN3 e3 => ?_
  rw [show (slR P e r3).2 = newP 1 P r3 from rfl, inst_newP rfl] at e3
  have st3 : stM hp3 := by rw [e3]; exact st1.app (eN3 ▸ newP_st)
  have x3 := new_ext e3
  have l3 : hp3.length = N3 + (1 + P.length) := by rw [e3, List.length_append, newP_len, eN3]
  obtain ⟨q3, o3⟩ := newP_nAt eN3 e3
  replace f0 := x3.get f0; replace fM := x3.get fM; replace fC := x3.get fC; replace fK := x3.get fK; replace fL := fL.mono x3
  clear e3
  simp (config := { maxSteps := 2000000 }) only [CALL, ↓VC2, ZP, VP, TT, Nat.reduceEqDiff, reduceCtorEq, Nat.reduceAdd, Nat.reduceSub, Nat.reduceLT, Nat.reduceMul, Nat.reducePow, Nat.reduceLeDiff, Int.reduceToNat, Int.reduceLE, Int.reduceLT, Int.reducePow, GOB, CX_FnSlides, lawPost, SPV, instL_net, net_zero, netC_len z256 z16, DN.cells, fC, fK, slR, netC_len hb hA, hk, ↓net_all hb hA]
  refine kA_ret S1 (by rfl) [(1, 0)] (by simp [CALL, instL_net]) (seg_bAt fL (instL_bs _ _ _) trivial) (by simp [okL, okV, okL_net, okL_bs]) (by simp [okL_bs]) (fun r => newP_own) fun r5 N5 hp5 _ eN5 e5 => ?_
  rw [show (slR P e r5).2 = newP 1 P r5 from rfl, inst_newP rfl] at e5
  have st5 : stM hp5 := by rw [e5]; exact st3.app (eN5 ▸ newP_st)
  have x5 := new_ext e5
  have d35 : N3 + 1 + P.length ≤ N5 := by omega
  obtain ⟨q5, o5⟩ := newP_nAt eN5 e5
  replace f0 := x5.get f0; replace fM := x5.get fM; replace fC := x5.get fC; replace fK := x5.get fK; replace fL := fL.mono x5; replace q3 := q3.mono x5; replace x3 := x3.trans x5
  clear e5
  simp (config := { maxSteps := 2000000 }) only [CALL, ↓VC2, ZP, VP, TT, Nat.reduceEqDiff, reduceCtorEq, Nat.reduceAdd, Nat.reduceSub, Nat.reduceLT, Nat.reduceMul, Nat.reducePow, Nat.reduceLeDiff, Int.reduceToNat, Int.reduceLE, Int.reduceLT, Int.reducePow, GOB, CX_FnSlides, lawPost, SPV, instL_net, net_zero, netC_len z256 z16, DN.cells, fC, fK, slR, bne_self_eq_false]
  refine kCall_val (c_laws_rows5 P (P.length + r3) (P.length + r5) (by omega) (by omega) (by omega)) (by rfl) ((N3, 0) :: (N5, 0) :: (rng (N3 + 1) P.length ++ rng (N5 + 1) P.length)) (by simp [CALL]) (seg_two q3 q5 hPn iPs_id) (by simp [okL, okV]) ?_ ?_
  · intro b' hb'
    refine stL_ok (stB_cons (stL_ptrV ?_) (stB_cons (stL_ptrV ?_) (stB_app (stB_part iPs_st) (stB_part iPs_st))) b' hb')
    · rw [iPs_length]; simp [partB_length, hPn]; omega
    · rw [iPs_length]; simp [partB_length, hPn]; omega
  simp (config := { maxSteps := 2000000 }) only [CALL, ↓VC2, ZP, VP, TT, Nat.reduceEqDiff, reduceCtorEq, Nat.reduceAdd, Nat.reduceSub, Nat.reduceLT, Nat.reduceMul, Nat.reducePow, Nat.reduceLeDiff, Int.reduceToNat, Int.reduceLE, Int.reduceLT, Int.reducePow, GOB, CX_FnSlides, lawPost, SPV, instL_net, net_zero, netC_len z256 z16, DN.cells, fC, fK, bne_self_eq_false, Bool.not_true]
  rcases T with ⟨he, rfl⟩ | ⟨rfl, d, rfl, rfl, rfl, rfl, rfl, hT⟩
  · have f1 : (e == 0) = false := beq_eq_false_iff_ne.2 he
    simp (config := { maxSteps := 2000000 }) only [CALL, ↓VC2, ZP, VP, TT, Nat.reduceEqDiff, reduceCtorEq, Nat.reduceAdd, Nat.reduceSub, Nat.reduceLT, Nat.reduceMul, Nat.reducePow, Nat.reduceLeDiff, Int.reduceToNat, Int.reduceLE, Int.reduceLT, Int.reducePow, GOB, CX_FnSlides, lawPost, SPV, instL_net, net_zero, netC_len z256 z16, DN.cells, f1]
    exact kMeet (sd_looks hc hm) (by kernel_rfl) ⟨[0], by simp [-List.reduceReplicate, LES, CX_FnSlides, SPL, List.drop_succ_cons, List.length_append, List.length_replicate, List.length_cons, okL_app, okL_rep, sdS, f0]⟩
  · cases P with
    | nil =>
      simp (config := { maxSteps := 2000000 }) only [CALL, ↓VC2, ZP, VP, TT, Nat.reduceEqDiff, reduceCtorEq, Nat.reduceAdd, Nat.reduceSub, Nat.reduceLT, Nat.reduceMul, Nat.reducePow, Nat.reduceLeDiff, Int.reduceToNat, Int.reduceLE, Int.reduceLT, Int.reducePow, GOB, CX_FnSlides, lawPost, SPV, instL_net, net_zero, netC_len z256 z16, DN.cells, beq_self_eq_true, List.length_nil, show (((0 : Nat) : Int) > 0) = False from eq_false (by omega), decide_false]
      exact kMeet (sd_looks hc hm) (by kernel_rfl) ⟨[0], by simp [-List.reduceReplicate, LES, CX_FnSlides, SPL, List.drop_succ_cons, List.length_append, List.length_replicate, List.length_cons, okL_app, okL_rep, sdS, f0]⟩
    | cons p Q =>
      obtain ⟨h1, h2, h3⟩ := hT p (by simp)
      obtain ⟨ow, X, fO⟩ := q3.1
      have hg : ∀ kk : V → Prop, vGet (ptrV (N3 + 1) (iPs (p :: Q)) ++ X) 0 kk = kk (.s (N3 + 1) 0 2 2) := fun kk => by
        rw [show ptrV (N3 + 1) (iPs (p :: Q)) ++ X = .s (N3 + 1) 0 2 2 :: (ptrV (N3 + 2) (iPs Q) ++ X) from rfl, vGet_zero]
      have hl : (((Q.length + 1 : Nat) : Int) > 0) = True := eq_true (by omega)
      have hl2 : ((0 : Int) < ((Q.length + 1 : Nat) : Int)) = True := eq_true (by omega)
      have h22 : (((2 : Nat) : Int) == 2) = true := rfl
      rcases Nat.lt_or_ge 12 d.n with hn | hn
      · have f12 : ((d.n : Int) ≤ 12) = False := eq_false (by omega)
        simp (config := { maxSteps := 2000000 }) only [CALL, ↓VC2, ZP, VP, TT, Nat.reduceEqDiff, reduceCtorEq, Nat.reduceAdd, Nat.reduceSub, Nat.reduceLT, Nat.reduceMul, Nat.reducePow, Nat.reduceLeDiff, Int.reduceToNat, Int.reduceLE, Int.reduceLT, Int.reducePow, GOB, CX_FnSlides, lawPost, SPV, instL_net, net_zero, netC_len z256 z16, DN.cells, beq_self_eq_true, hl, hl2, h22, f12, decide_true, decide_false, fO, fC, ↓hg, ↓net_rd d.hb d.hA]
        exact kMeet (sd_looks hc hm) (by kernel_rfl) ⟨[0], by simp [-List.reduceReplicate, LES, CX_FnSlides, SPL, List.drop_succ_cons, List.length_append, List.length_replicate, List.length_cons, okL_app, okL_rep, sdS, f0]⟩
      · have f12 : ((d.n : Int) ≤ 12) = True := eq_true (by omega)
        simp (config := { maxSteps := 2000000 }) only [CALL, ↓VC2, ZP, VP, TT, Nat.reduceEqDiff, reduceCtorEq, Nat.reduceAdd, Nat.reduceSub, Nat.reduceLT, Nat.reduceMul, Nat.reducePow, Nat.reduceLeDiff, Int.reduceToNat, Int.reduceLE, Int.reduceLT, Int.reducePow, GOB, CX_FnSlides, lawPost, SPV, instL_net, net_zero, netC_len z256 z16, DN.cells, beq_self_eq_true, hl, hl2, h22, f12, decide_true, fO, fC, ↓hg, ↓net_rd d.hb d.hA]
        have hkN : ∀ i, (keysK key i).length = 8 * i := keysK_len hk
        have o1 := x5.get (o3 0 (iP p) rfl)
        have at' : ∀ {h : Nat} {b : Blk} (R : List Blk), hp5[h]? = some b → (hp5 ++ R)[h]? = some b := fun R e => Ext.get ⟨R, rfl⟩ e
        have gC := fun R => at' R fC
        have gK := fun R => at' R fK
        have gM := fun R => at' R fM
        have gO := fun R => at' R fO
        have g1 := fun R => at' R o1
        have g0 := fun R => at' R f0
        have l5 : 4 ≤ hp5.length ∧ N3 + 1 < hp5.length := by have := x5.le; have : (p :: Q).length = Q.length + 1 := rfl; omega
        have rg : ∀ k, k < hp5.length → ∀ τ, (List.range hp5.length ++ τ)[k]?.getD 0 = k := fun k hk τ => by rw [← List.getD_eq_getElem?_getD]; exact range_getD_lt hk _
        have r0 : ∀ x (h : 0 < (List.range hp5.length ++ [x]).length), (List.range hp5.length ++ [x])[0] = 0 := fun x h => by rw [List.getElem_append_left (by simp; omega)]; simp
        have rE : ∀ x, (List.range hp5.length ++ [x])[hp5.length]?.getD 0 = x := fun x => by rw [← List.getD_eq_getElem?_getD]; exact range_getD_eq _
        have hQn : (p :: Q).length = Q.length + 1 := rfl
        have m1 : cx_FnSlides.m = 1 := rfl
        have gN : ∀ (x : Blk) R, (hp5 ++ x :: R)[hp5.length]? = some x := fun x R => at_app rfl
        have gN1 : ∀ (x y : Blk) R, (hp5 ++ x :: y :: R)[hp5.length + 1]? = some y := fun x y R => by
          rw [List.getElem?_append_right (by omega), Nat.add_sub_cancel_left]; rfl
        have gN2 : ∀ (x y z : Blk) R, (hp5 ++ x :: y :: z :: R)[hp5.length + 2]? = some z := fun x y z R => by
          rw [List.getElem?_append_right (by omega), Nat.add_sub_cancel_left]; rfl
        have gN3 : ∀ (x y z : Blk) R, (hp5 ++ x :: y :: z :: R)[hp5.length + 1 + 1]? = some z := gN2
        have tmF := fun (R : List Blk) => at' R f0
        refine kLoop_of (fun s : Nat × Nat => (((.s 0 0 l.length c) :: (@HAppend.hAppend (List V) (List V) (List V) _ (List.replicate 2 V.j) ((.p 2 0) :: ((.p 3 0) :: ((.s 1 0 m (m + r)) :: ((.s N3 0 (Q.length + 1) (Q.length + 1 + r3)) :: (@HAppend.hAppend (List V) (List V) (List V) _ (List.replicate 3 V.j) ((.s hp5.length 0 s.1 (s.1 + s.2)) :: ((.c (.int .i64 (s.1))) :: (List.replicate 325 .j)))))))))), hp5 ++ [⟨true, bs (keysK key s.1) ++ List.replicate (8 * s.2) .j⟩])) (fun s => d.n - s.1) (fun s => s.1 ≤ d.n) (0, 0) (by simp) ⟨List.range hp5.length ++ [hp5.length], ?_⟩ ?_
        · refine LeS_pre (X := [⟨true, []⟩]) rfl (by rw [m1]; omega) rfl (by simp) (by simp) rfl ?_ st5 ?_ ?_ ?_
          · simp [leTm, leV, V.ren, SPL, rg 0 (by omega), rg 1 (by omega), rg 2 (by omega), rg 3 (by omega), rg N3 (by omega), rE, r0]
          · simp [leHp, keysK, bs_nil, at_app]
          · simp [okL, okV, okL_app, okL_rep]; omega
          · simp [keysK, bs_nil, okL]
        rintro ⟨i, r2⟩ hi
        simp only at hi
        rcases Nat.lt_or_ge i d.n with h | h
        · have hki := hkN i
          have eR : (List.replicate 1 (bs (List.replicate 8 0))).flatten = bs (List.replicate 8 0) := rfl
          have eS : splice (bs (List.replicate 8 0)) 0 (bs key) = bs key := splice_all (by simp only [bs_length, hk, List.length_replicate])
          have hT8 : List.take 8 (bs key) = bs key := List.take_of_length_le (by rw [bs_length]; omega)
          have hT : ∀ X, List.take (i * 8) (bs (keysK key i) ++ X) = bs (keysK key i) := fun X => by rw [List.take_append_of_le_length (by rw [bs_length]; omega), List.take_of_length_le (by rw [bs_length]; omega)]
          simp (config := { maxSteps := 2000000 }) only [CALL, ↓VC2, ZP, VP, TT, Nat.reduceEqDiff, reduceCtorEq, Nat.reduceAdd, Nat.reduceSub, Nat.reduceLT, Nat.reduceMul, Nat.reducePow, Nat.reduceLeDiff, Int.reduceToNat, Int.reduceLE, Int.reduceLT, Int.reducePow, GOB, CX_FnSlides, lawPost, SPV, instL_net, net_zero, netC_len z256 z16, DN.cells, gC, gK, keysK, hk, ↓net_rd d.hb d.hA, (eq_true (by omega) : ((i : Int) < (d.n : Int)) = True), decide_true, eR, eS, bs_length, List.length_replicate, Nat.le_refl, if_true, List.append_assoc, List.cons_append, List.nil_append, gN, gN1, gN2, gN3, hT, hT8, bs_append, List.length_append]
          repeat (first | refine ⟨by omega, ?_⟩ | refine ⟨.inr (by omega), ?_⟩ | refine ⟨.inr trivial, ?_⟩)
          intro r1 c' e1' e2'
          refine ⟨(i + 1, c' - (i + 1)), by simp only; omega, by simp only; omega, List.range hp5.length ++ [hp5.length + 2], ?_⟩
          rw [wrap_i64 (by omega) (by omega), List.set_append_right _ _ (Nat.le_refl _), Nat.sub_self, List.set_cons_zero, List.append_assoc]
          obtain rfl : r1 = 8 * (c' - (i + 1)) := by omega
          refine LeS_pre (X := _) rfl (by omega) rfl (by simp) (by simp) rfl ?_ st5 ?_ ?_ ?_
          · simp [leTm, leV, V.ren, SPL, rg 0 (by omega), rg 1 (by omega), rg 2 (by omega), rg 3 (by omega), rg N3 (by omega), rE, r0]
            try omega
          · simp [leHp, keysK, gN2, renL_room]
          · simp [okL, okV, okL_app, okL_rep]; omega
          · simp [okL_app, okL_rep, okL_bs]
        · obtain rfl : i = d.n := by omega
          have hi0 : ((p.1 : Int) < 0) = False := eq_false (by omega)
          have hj0 : ((p.2 : Int) < 0) = False := eq_false (by omega)
          have him : ((p.1 : Int) ≥ (m : Int)) = False := eq_false (by omega)
          have hjm : ((p.2 : Int) ≥ (m : Int)) = False := eq_false (by omega)
          have hv0 : ∀ kk : V → Prop, vGet (iP p).cells 0 kk = kk (.c (.int .i64 ((p.1 : Nat)))) := fun kk => by rw [show (iP p).cells = [.c (.int .i64 ((p.1 : Nat))), .c (.int .i64 ((p.2 : Nat)))] from rfl, vGet_zero]
          have hv1 : ∀ kk : V → Prop, vGet (iP p).cells 1 kk = kk (.c (.int .i64 ((p.2 : Nat)))) := fun kk => by rw [show (iP p).cells = [.c (.int .i64 ((p.1 : Nat))), .c (.int .i64 ((p.2 : Nat)))] from rfl, vGet_succ, vGet_zero]
          simp (config := { maxSteps := 2000000 }) only [CALL, ↓VC2, ZP, VP, TT, Nat.reduceEqDiff, reduceCtorEq, Nat.reduceAdd, Nat.reduceSub, Nat.reduceLT, Nat.reduceMul, Nat.reducePow, Nat.reduceLeDiff, Int.reduceToNat, Int.reduceLE, Int.reduceLT, Int.reducePow, GOB, CX_FnSlides, lawPost, SPV, instL_net, net_zero, netC_len z256 z16, DN.cells, gC, gK, gO, g1, hk, ↓hg, ↓hv0, ↓hv1, hl2, (eq_true (by decide) : ((0 : Int) < ((2 : Nat) : Int)) = True), (eq_true (by decide) : ((1 : Int) < ((2 : Nat) : Int)) = True), true_and, ↓net_rd d.hb d.hA, (eq_false (by omega) : ((d.n : Int) < (d.n : Int)) = False), decide_false, hi0, hj0, him, hjm, Bool.or_false]
          have g00 : ∀ R (h : 0 < (hp5 ++ R).length), (hp5 ++ R)[0] = ⟨false, bs l⟩ := fun R _ => (List.getElem?_eq_some_iff.1 (g0 R)).2
          exact kMeet (se_run (r := r) (r2 := r2) hc hm d hL hk rfl (hkN d.n) (fun x hx => keysK_at hk _ x hx) h1 h2 h3) (by kernel_rfl) ⟨[0, 1, 2, 3, hp5.length], by simp [-List.reduceReplicate, LES, CX_FnSlides, SPL, List.drop_succ_cons, List.length_append, List.length_replicate, List.length_cons, okL_app, okL_rep, seS, seH, g0, g00, gM, gC, gK, at_app, renL_room, renL_net, okL_net, show ¬ 0 = hp5.length by omega, show ¬ 1 = hp5.length by omega, show ¬ 2 = hp5.length by omega, show ¬ 3 = hp5.length by omega]⟩
end
end Go.Proofs.YtjakgjelnbpmnaaGreat

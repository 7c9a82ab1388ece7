import Derived.Test.YtjakgjelnbpmnaaGreatSlid
import Derived.Test.YtjakgjelnbpmnaaGreatSldX
import Derived.Test.YtjakgjelnbpmnaaGreatFieldM
/- SlidPlaces: the program, over any memory. -/
set_option linter.unusedSimpArgs false
set_option linter.unusedVariables false
namespace Go.Proofs.YtjakgjelnbpmnaaGreat
open Go Go.Vc
set_option maxRecDepth 10000
set_option maxHeartbeats 4000000
/-- Pairs found anywhere, the last one apart, told as new ones. -/
theorem LeS_slG {m o b r g : Nat} {A hp : List Blk} {P : List (Nat × Nat)} {q : Nat × Nat} {tm tm' : List V} (hA : stM A) (x : Ext A hp) (hm : m ≤ A.length) (fO : hp[o]? = some (⟨true, ptrV b (iPs P) ++ [V.s g 0 2 2] ++ List.replicate r .j⟩ : Blk)) (fQ : ∀ (k : Nat) (p : Prt), (iPs P)[k]? = some p → hp[b + k]? = some (⟨true, p.cells⟩ : Blk)) (fg : hp[g]? = some (⟨true, nsv [(q.1 : Int), (q.2 : Int)]⟩ : Blk)) (ho : A.length ≤ o ∧ (o < b ∨ b + P.length ≤ o)) (hb : A.length ≤ b) (hg : A.length ≤ g ∧ (g < b ∨ b + P.length ≤ g) ∧ g ≠ o)
    (ht : leTm (List.range A.length ++ ([o] ++ (List.range' b P.length ++ [g]))) tm tm') (hok : okL (A.length + (1 + (P ++ [q]).length)) tm') : LeS m (List.range A.length ++ ([o] ++ (List.range' b P.length ++ [g]))) tm hp tm' (A ++ newP A.length (P ++ [q]) r) := by
  have hn := iPs_length P
  have hr : V.renL (List.range A.length ++ ([o] ++ (List.range' b P.length ++ [g]))) (ptrV (A.length + 1) (iPs (P ++ [q]))) = ptrV b (iPs P) ++ [V.s g 0 2 2] := by
    rw [iPs_app, ptrV_app, renL_app]
    congr 1
    · refine renL_ptrV fun i hi => ?_
      rw [hn] at hi
      rw [Nat.add_assoc, range_getD_ge, List.getD_eq_getElem?_getD, List.getElem?_append_right (by simp), List.getElem?_append_left (by simp; omega), ← List.getD_eq_getElem?_getD]
      have e : 1 + i - [o].length = i := by simp
      rw [e, getD_range' hi]
    · simp only [iPs, List.map_cons, List.map_nil, ptrV, V.renL, V.ren, iP]
      rw [List.length_map, Nat.add_assoc, range_getD_ge, List.getD_eq_getElem?_getD, List.getElem?_append_right (by simp), List.getElem?_append_right (by simp)]
      simp
  refine LeS_gen (B := [⟨true, ptrV (A.length + 1) (iPs (P ++ [q])) ++ List.replicate r .j⟩]) (P := iPs (P ++ [q])) rfl x hA hm rfl (by simp [iPs_length]) ?_ ?_ ?_ (fun _ => iPs_ren) (fun _ p hp => stL_ok (iPs_st p hp)) ht (by simp only [leHp, fO, renL_app, hr, renL_rep]; simp) (by rw [iPs_length]; exact hok) (by simp [okL_app, okL_rep]; exact stL_ok (stL_ptrV (by rw [iPs_length, List.length_append, List.length_singleton]; omega)))
  · rw [List.singleton_append, List.nodup_cons]
    refine ⟨by simp only [List.mem_append, List.mem_range'_1, List.mem_cons, List.not_mem_nil, or_false, not_or]; omega, List.nodup_append.2 ⟨List.nodup_range', by simp, fun y hy z hz => ?_⟩⟩
    rw [List.mem_range'_1] at hy
    simp only [List.mem_cons, List.not_mem_nil, or_false] at hz
    omega
  · intro h hh
    simp only [List.mem_append, List.mem_range'_1, List.mem_cons, List.not_mem_nil, or_false] at hh
    omega
  · intro k p hk
    rcases Nat.lt_or_ge k P.length with h9 | h9
    · rw [iPs_app, List.getElem?_append_left (by rw [iPs_length]; exact h9)] at hk
      rw [List.getD_eq_getElem?_getD, List.getElem?_append_left (by simp; omega), ← List.getD_eq_getElem?_getD, getD_range' h9]
      exact fQ k p hk
    · have hkl : k = P.length := by have := (List.getElem?_eq_some_iff.1 hk).1; rw [iPs_length, List.length_append, List.length_singleton] at this; omega
      subst hkl
      rw [iPs_app, List.getElem?_append_right (by rw [iPs_length]; exact Nat.le_refl _), iPs_length, Nat.sub_self] at hk
      simp only [iPs, List.map_cons, List.map_nil, List.getElem?_cons_zero, Option.some.injEq] at hk
      subst hk
      rw [List.getD_eq_getElem?_getD, List.getElem?_append_right (by simp)]
      simp [iP, fg]
theorem set_last1 {H : List Blk} {x y z : Blk} : ((H ++ [x]) ++ [y]).set (H.length + 1) z = (H ++ [x]) ++ [z] := by
  have := set_last (H := H ++ [x]) (x := y) (y := z)
  rwa [List.length_append, List.length_singleton] at this
section
variable {H : List Blk} {n g cc : Nat} {L key : List UInt8}
theorem k_impl_Slid (c : Net) (hst : stM H) (hk : key.length = 8) (hL : L.length = 16 * n) (hn : n ≤ 60) (hcc : n ≤ cc) (f : bAt H g (bs L)) :
    LC Tryz.prog 6 [.a c.cells, .a (bs key), .s g 0 n cc] H (Ret H (fun _ : Nat => True) fun r => (.t [.s H.length 0 (slS (slF c key L) n n).length ((slS (slF c key L) n n).length + r), .c (.int .i64 (0))], newP H.length (slS (slF c key L) n n) r)) := by
  have lg := f.lt
  have hll : ∀ x, (H ++ [x]).length = H.length + 1 := fun x => by simp
  have hll2 : ∀ x y, ((H ++ [x]) ++ [y]).length = H.length + 1 + 1 := fun x y => by simp
  refine LC_of (X := XX (fun _ => .nil) (fun _ => []) [33, 34, 35, 36, 39, 45, 53, 54, 65, 75, 90, 91, 92, 104] (H.length)) envOK Tryz.func6 (by kernel_rfl) (by kernel_rfl) (by simp [XX]) (Nat.le_of_ble_eq_true (by kernel_rfl)) ?_
  simp only [kFun, Tryz.f6, List.length_nil, List.length_cons, Nat.sub_zero, Nat.reduceSub, Nat.reduceAdd, List.nil_append, List.cons_append, List.replicate_succ, List.replicate_zero]
  simp only [XX, ↓VC, VP, TT, Nat.reduceEqDiff, reduceCtorEq, Nat.reduceAdd, Nat.reduceSub, Nat.reduceLT, Nat.reduceMul, Nat.reducePow, Nat.reduceLeDiff, Int.reduceToNat, Int.reduceLE, Int.reduceLT, Int.reducePow, n_len, ↓n_all, hk, hll, hll2, ↓app_last2, ↓app_last1]
  obtain ⟨h0, eh0⟩ : ∃ h0, h0 = H ++ [⟨true, c.cells⟩] ++ [⟨true, bs key⟩] := ⟨_, rfl⟩
  rw [← eh0]
  have lh0 : h0.length = H.length + 2 := by simp [eh0]
  have fC0 : h0[H.length]? = some ⟨true, c.cells⟩ := by rw [eh0]; exact app_last2
  refine kCall_val (k_impl_NIs c) (by rfl) [] (by simp [CALL, SCB, n_inst, n_ok, ne_inst, ne_take, ne_ok, Net.bl, t2_take, t1_take]) (by simp [CALL, SCB, n_inst, n_ok, ne_inst, ne_take, ne_ok, Net.bl, t2_take, t1_take]) (by simp [CALL, SCB, n_inst, n_ok, ne_inst, ne_take, ne_ok, Net.bl, t2_take, t1_take]) (by simp [okL_bs, okL_room, okL, okV, n_inst, n_ok, ne_inst, ne_take, ne_ok, Net.bl, t2_take, t1_take]) ?_
  simp (config := { maxSteps := 2000000 }) only [CALL, ↓VC, VP, TT, Nat.reduceEqDiff, reduceCtorEq, Nat.reduceAdd, Nat.reduceSub, Nat.reduceLT, Nat.reduceMul, Nat.reducePow, Nat.reduceLeDiff, Int.reduceToNat, Int.reduceLE, Int.reduceLT, Int.reducePow, GOB, n_inst, n_len, ↓n_all, ne_len, ne_inst0, Net.bl, fC0, n_len, ↓n_all]
  simp only [↓VC, VP, TT, Nat.reduceEqDiff, reduceCtorEq, Nat.reduceAdd, Nat.reduceSub, Nat.reduceLT, Nat.reduceMul, Nat.reducePow, Nat.reduceLeDiff, Int.reduceToNat, Int.reduceLE, Int.reduceLT, Int.reducePow, (eq_false (by omega) : ((n : Int) > 60) = False), decide_false]
  refine kCall_Ret (k_newNet c) (by rfl) [] (by simp [CALL, SCB, n_inst, n_ok, ne_inst, ne_take, ne_ok, Net.bl, t2_take, t1_take]) (by simp [CALL, SCB, n_inst, n_ok, ne_inst, ne_take, ne_ok, Net.bl, t2_take, t1_take]) (by simp [CALL, SCB, n_inst, n_ok, ne_inst, ne_take, ne_ok, Net.bl, t2_take, t1_take]) (by simp [okL_bs, okL_room, okL, okV, n_inst, n_ok, ne_inst, ne_take, ne_ok, Net.bl, t2_take, t1_take]) (by simp [CALL, SCB, n_inst, n_ok, ne_inst, ne_take, ne_ok, Net.bl, t2_take, t1_take]) fun _ _ => ?_
  simp (config := { maxSteps := 2000000 }) only [CALL, ↓VC, VP, TT, Nat.reduceEqDiff, reduceCtorEq, Nat.reduceAdd, Nat.reduceSub, Nat.reduceLT, Nat.reduceMul, Nat.reducePow, Nat.reduceLeDiff, Int.reduceToNat, Int.reduceLE, Int.reduceLT, Int.reducePow, GOB, n_inst, n_len, ↓n_all, ne_len, ne_inst0, Net.bl, fC0, n_len]
  obtain ⟨hb, eb⟩ : ∃ hb, hb = h0 ++ [(⟨true, c.eng (h0.length + 1) (h0.length + 2)⟩ : Blk), ⟨true, bs c.t1⟩, ⟨true, bs c.t2⟩] := ⟨_, rfl⟩
  rw [← eb]
  have x0 : Ext H h0 := ⟨_, by rw [eh0, List.append_assoc]⟩
  have x01 : Ext h0 hb := ⟨_, eb⟩
  have x1 : Ext H hb := x0.trans x01
  have lb : hb.length = H.length + 5 := by simp [eb, lh0]
  have fK : hb[H.length + 1]? = some ⟨true, bs key⟩ := x01.get (by rw [eh0]; exact app_last1)
  have fE : hb[H.length + 2]? = some ⟨true, c.eng (H.length + 3) (H.length + 4)⟩ := by rw [eb, List.getElem?_append_right (by omega), lh0]; simp
  have f1 : hb[H.length + 3]? = some ⟨true, bs c.t1⟩ := by rw [eb, List.getElem?_append_right (by omega), lh0]; simp
  have f2 : hb[H.length + 4]? = some ⟨true, bs c.t2⟩ := by rw [eb, List.getElem?_append_right (by omega), lh0]; simp
  have hst0 : stM h0 := by
    rw [eh0]
    exact (hst.app (stB_cons (by simp [Net.cells, netC, stL, stV, stL_app, stL_bs]) stB_nil)).app (stB_cons (stL_bs _ _) stB_nil)
  have hstb : stM hb := by
    rw [eb]
    exact hst0.app (stB_cons (by simp [Net.eng, nengC, stL, stV, stL_app, stL_bs]) (stB_cons (stL_bs _ _) (stB_cons (stL_bs _ _) stB_nil)))
  obtain ⟨o1, X1, fL⟩ := f.mono x1
  rw [lh0, show H.length + 2 + 3 = hb.length by omega]
  clear eb eh0
  generalize hF : slF c key L = F at *
  have hlb : ∀ P r, (hb ++ newP hb.length P r).length = hb.length + (1 + P.length) := fun P r => by rw [List.length_append, newP_len]
  refine kLoop_of (fun s : Nat × Nat => ([.j, .j, .s g 0 n cc, .j, .p (H.length + 1) 0, .j, .j, .j, .p (H.length + 2) 0, .s hb.length 0 (slS F n s.1).length ((slS F n s.1).length + s.2), .j, .j, .j, .j, .j, .j, .j, .j, .j, .j, .j, .j, .j, .j, .j, .j, .s g 0 n cc, .c (.int .i64 (n)), .c (.int .i64 (s.1)), .j, .j, .j, .j, .j, .j, .j, .j, .j, .j, .j, .j, .j, .j, .j, .j, .j, .j, .j, .j, .j, .j, .j, .j, .j, .j, .j], hb ++ newP hb.length (slS F n s.1) s.2)) (fun s => n - s.1) (fun s => s.1 ≤ n) (0, 0) (by simp) ⟨List.range (hb.length + (1 + (slS F n 0).length)), LeS_id (ex := []) (hlb _ _) (show H.length ≤ _ by omega) (by simp [newP, slS, iPs, ptrV, partB]) (by simp [leT, slS]) (by simp [stL, stV]; omega) (newP_all hstb)⟩ ?_
  rintro ⟨i, r0⟩ hi
  simp only at hi
  have hPl := slS_len F n i
  rcases Nat.lt_or_ge i n with h | h
  · obtain ⟨hp, ep⟩ : ∃ hp, hp = hb ++ newP hb.length (slS F n i) r0 := ⟨_, rfl⟩
    have fO : hp[hb.length]? = some ⟨true, ptrV (hb.length + 1) (iPs (slS F n i)) ++ List.replicate r0 .j⟩ := by rw [ep]; exact newP_out
    have fQ : ∀ k p, (iPs (slS F n i))[k]? = some p → hp[hb.length + 1 + k]? = some ⟨true, p.cells⟩ := fun k p hk => by rw [ep]; exact newP_part hk
    have x2 : Ext hb hp := ⟨_, ep⟩
    have lp : hp.length = hb.length + (1 + (slS F n i).length) := by rw [ep]; exact hlb _ _
    have y1 : ∀ x : Blk, Ext hb (hp ++ [x]) := fun x => x2.trans ⟨_, rfl⟩
    have gL := x2.get fL
    have gK := fun x => (y1 x).get fK; have gE := fun x => (y1 x).get fE; have g1 := fun x => (y1 x).get f1; have g2 := fun x => (y1 x).get f2
    rw [← ep]
    have hbl := bkA_len hL h
    simp only [↓VC, VP, TT, Nat.reduceEqDiff, reduceCtorEq, Nat.reduceAdd, Nat.reduceSub, Nat.reduceLT, Nat.reduceMul, Nat.reducePow, Nat.reduceLeDiff, Int.reduceToNat, Int.reduceLE, Int.reduceLT, Int.reducePow, gK, gL, n_len, ↓n_all, hk, hbl, ↓vSub_8 hk, ↓vSub_16 hbl, ↓vSub_bkR hL h, ↓app_last, set_last, repl16, (eq_true (by omega) : ((i : Int) < (n : Int)) = True), decide_true]
    repeat (refine ⟨by first | omega | (simp; done) | decide, ?_⟩)
    have hrl := rnd_len (c := c) key (bkA L i) hbl
    have q2 : H.length + 2 < hp.length + 1 := by omega
    have q3 : H.length + 3 < hp.length + 1 := by omega
    have q4' : H.length + 4 < hp.length + 1 := by omega
    refine kCall_val (k_impl_rnd c key (bkA L i) hk hbl) (by rfl) [(H.length + 2, 0), (H.length + 3, 0), (H.length + 4, 0)] (by simp [CALL, SCB, n_inst, n_ok, ne_inst, ne_take, ne_ok, Net.bl, t2_take, t1_take, ↓gE, ↓g1, ↓g2, q2, q3, q4']) (by simp [CALL, SCB, n_inst, n_ok, ne_inst, ne_take, ne_ok, Net.bl, t2_take, t1_take, ↓gE, ↓g1, ↓g2, q2, q3, q4']) (by simp [CALL, SCB, n_inst, n_ok, ne_inst, ne_take, ne_ok, Net.bl, t2_take, t1_take, ↓gE, ↓g1, ↓g2, q2, q3, q4']) (by simp [okL_bs, okL_room, okL, okV, n_inst, n_ok, ne_inst, ne_take, ne_ok, Net.bl, t2_take, t1_take, ↓gE, ↓g1, ↓g2, q2, q3, q4']) ?_
    simp (config := { maxSteps := 2000000 }) only [CALL, ↓VC, VP, TT, Nat.reduceEqDiff, reduceCtorEq, Nat.reduceAdd, Nat.reduceSub, Nat.reduceLT, Nat.reduceMul, Nat.reducePow, Nat.reduceLeDiff, Int.reduceToNat, Int.reduceLE, Int.reduceLT, Int.reducePow, GOB, n_inst, n_len, ↓n_all, ne_len, ne_inst0, Net.bl, ↓app_last, ↓app_last1, set_last, set_last1, hrl, repl16]
    have hFi : ∀ j, F i j = (bkA L j == c.rnd key (bkA L i)) := fun j => by rw [← hF]; rfl
    generalize c.rnd key (bkA L i) = nx at *
    generalize bkA L i = xi at *
    have y0 : Ext hp (hp ++ [⟨true, bs xi⟩] ++ [⟨true, bs nx⟩]) := ⟨[⟨true, bs xi⟩, ⟨true, bs nx⟩], by rw [List.append_assoc]; rfl⟩
    have g0 : (hp ++ [⟨true, bs xi⟩] ++ [⟨true, bs nx⟩])[hp.length + 1]? = some ⟨true, bs nx⟩ := app_last1
    obtain ⟨hb2, eb2⟩ : ∃ hb2, hb2 = hb ++ [⟨true, bs nx⟩] := ⟨_, rfl⟩
    have y2 : Ext hb hb2 := ⟨_, eb2⟩
    have lb2 : hb2.length = hb.length + 1 := by simp [eb2]
    have hstb2 : stM hb2 := by rw [eb2]; exact hstb.app (stB_cons (stL_bs _ _) stB_nil)
    have hlb2 : ∀ P r, (hb2 ++ newP hb2.length P r).length = hb2.length + (1 + P.length) := fun P r => by rw [List.length_append, newP_len]
    have fN2 : hb2[hb.length]? = some ⟨true, bs nx⟩ := by rw [eb2]; exact app_last
    refine kLoop_of (fun s : Nat × Nat => ([.j, .j, .s g 0 n cc, .j, .p (H.length + 1) 0, .j, .j, .j, .p (H.length + 2) 0, .s hb2.length 0 (slS F n i ++ rowS F i s.1).length ((slS F n i ++ rowS F i s.1).length + s.2), .c (.int .i64 (i)), .j, .p hb.length 0, .j, .j, .j, .j, .j, .j, .j, .j, .j, .j, .j, .j, .j, .s g 0 n cc, .c (.int .i64 (n)), .c (.int .i64 (i)), .j, .j, .j, .j, .j, .j, .j, .j, .s g 0 n cc, .c (.int .i64 (n)), .c (.int .i64 (s.1)), .j, .j, .j, .j, .j, .j, .j, .j, .j, .j, .j, .j, .j, .j, .j, .j], hb2 ++ newP hb2.length (slS F n i ++ rowS F i s.1) s.2)) (fun s => n - s.1) (fun s => s.1 ≤ n) (0, r0) (by simp) ⟨List.range hb.length ++ ([hp.length + 1, hb.length] ++ List.range' (hb.length + 1) (slS F n i).length), ?_⟩ ?_
    · simp only [rowS, List.append_nil, eb2]
      exact LeS_sl1 (nx := nx) (r := r0) hstb (x2.trans y0) (show H.length ≤ hb.length by omega) g0 (y0.get fO) (fun k p hk => y0.get (fQ k p hk)) (by omega) (by omega) (by omega) (by omega)
        (by simp only [leTm, leV, V.ren, V.renL, range_getD_lt (show H.length < hb.length by omega), range_getD_lt (show H.length + 1 < hb.length by omega), range_getD_lt (show H.length + 2 < hb.length by omega), range_getD_lt (show g < hb.length by omega), range_getD_ge, range_getD_eq, List.cons_append, List.nil_append, List.getD_cons_zero, List.getD_cons_succ]; simp) (by simp [okL, okV]; omega)
    rintro ⟨j, r1⟩ hj
    simp only at hj
    have hPl2 := rowS_len F i j
    have hPl3 : (slS F n i ++ rowS F i j).length ≤ 1000000 := by
      rw [List.length_append]
      have : i * n ≤ 60 * 60 := Nat.mul_le_mul (by omega) hn
      omega
    have eP1 : slS F n i ++ rowS F i (j + 1) = (slS F n i ++ rowS F i j) ++ (if F i j then [(i, j)] else []) := by rw [rowS, List.append_assoc]
    have eP2 : j = n → slS F n (i + 1) = slS F n i ++ rowS F i j := fun e => by rw [slS, e]
    generalize slS F n i ++ rowS F i j = P at *
    rcases Nat.lt_or_ge j n with h2 | h2
    · obtain ⟨hp2, ep2⟩ : ∃ hp2, hp2 = hb2 ++ newP hb2.length P r1 := ⟨_, rfl⟩
      have fO2 : hp2[hb2.length]? = some ⟨true, ptrV (hb2.length + 1) (iPs P) ++ List.replicate r1 .j⟩ := by rw [ep2]; exact newP_out
      have fQ2 : ∀ k p, (iPs P)[k]? = some p → hp2[hb2.length + 1 + k]? = some ⟨true, p.cells⟩ := fun k p hk => by rw [ep2]; exact newP_part hk
      have x3 : Ext hb2 hp2 := ⟨_, ep2⟩
      have lp2 : hp2.length = hb2.length + (1 + P.length) := by rw [ep2]; exact hlb2 _ _
      have gL2 := x3.get (y2.get fL); have gN2 := x3.get fN2
      have hbj := bkA_len hL h2
      have gN3 : ∀ x : Blk, (hp2 ++ [x])[hb.length]? = some ⟨true, bs nx⟩ := fun x => by rw [List.getElem?_append_left (by omega)]; exact gN2
      rw [← ep2]
      have fA1 : ∀ x y z : Blk, (((hp2 ++ [x]) ++ [y]) ++ [z])[hb2.length]? = some ⟨true, ptrV (hb2.length + 1) (iPs P) ++ List.replicate r1 .j⟩ := fun x y z => by rw [List.append_assoc, List.append_assoc, List.getElem?_append_left (by omega)]; exact fO2
      have fA3 : ∀ x y z : Blk, (((hp2 ++ [x]) ++ [y]) ++ [z])[hp2.length + 1 + 1]? = some z := fun x y z => at_app (by simp)
      simp (config := {maxSteps := 2000000}) only [↓VC, VP, TT, Nat.reduceEqDiff, reduceCtorEq, Nat.reduceAdd, Nat.reduceSub, Nat.reduceLT, Nat.reduceMul, Nat.reducePow, Nat.reduceLeDiff, Int.reduceToNat, Int.reduceLE, Int.reduceLT, Int.reducePow, gL2, ↓gN3, hrl, hbj, ↓app_last, set_last, repl16, ↓vSub_16 hrl, ↓vSub_16 hbj, ↓vSub_bkR hL h2, (eq_true (by omega) : ((j : Int) < (n : Int)) = True), decide_true, ↓fA1, ↓fA3, ↓app_last1, if_true]
      repeat (refine ⟨by first | omega | (simp; done) | decide, ?_⟩)
      refine ⟨intCells_bs _, intCells_bs _, fun b' hb' => ⟨fun h5 => ?_, fun h5 => ?_⟩⟩
      · have hFj : F i j = true := by rw [hFi, beq_iff_eq]; exact (bs_inj.1 (hb'.1 h5)).symm
        rw [hFj, if_pos rfl] at eP1
        refine ⟨by omega, by omega, by simp [ptrV_length, iPs_length], .inr (by simp [ptrV_length, iPs_length]), .inr trivial, fun r2 c2 e5 e6 => ?_⟩
        refine ⟨(j + 1, r2), by simp only; omega, by simp only; omega, List.range hb2.length ++ ([hp2.length + 1 + 1 + 1] ++ (List.range' (hb2.length + 1) P.length ++ [hp2.length + 1])), ?_⟩
        simp only [eP1]
        have ec : c2 = (P ++ [(i, j)]).length + r2 := by simp; omega
        have hlen : (slS F n i).length + (rowS F i (j + 1)).length = (P ++ [(i, j)]).length := by rw [← List.length_append, eP1]
        rw [wrap_i64 (by omega) (by omega), ec, hlen]
        have fA2 := set_upd (b := ⟨false, []⟩) (fA1 ⟨true, bs (bkA L j)⟩ ⟨true, [.c (.int .i64 (i)), .c (.int .i64 (j))]⟩ ⟨true, [V.s (hp2.length + 1) 0 2 2]⟩)
        have xE := ((x3.trans ⟨[⟨true, bs (bkA L j)⟩, ⟨true, [.c (.int .i64 (i)), .c (.int .i64 (j))]⟩, ⟨true, [V.s (hp2.length + 1) 0 2 2]⟩], by rw [List.append_assoc, List.append_assoc]; rfl⟩ : Ext hb2 (hp2 ++ [⟨true, bs (bkA L j)⟩] ++ [⟨true, [.c (.int .i64 (i)), .c (.int .i64 (j))]⟩] ++ [⟨true, [V.s (hp2.length + 1) 0 2 2]⟩]))).uext fA2 (by intro h hh; omega)
        have hcells : List.take P.length (ptrV (hb2.length + 1) (iPs P) ++ List.replicate r1 V.j) ++ [V.s (hp2.length + 1) 0 2 2] ++ List.replicate r2 V.j = ptrV (hb2.length + 1) (iPs P) ++ [V.s (hp2.length + 1) 0 2 2] ++ List.replicate r2 .j := by
          rw [List.take_left' (by rw [ptrV_length, iPs_length])]
        rw [hcells]
        have lM : ((hp2 ++ [(⟨true, bs (bkA L j)⟩ : Blk)] ++ [(⟨true, [.c (.int .i64 (i)), .c (.int .i64 (j))]⟩ : Blk)] ++ [(⟨true, [V.s (hp2.length + 1) 0 2 2]⟩ : Blk)]).set hb2.length (⟨false, []⟩ : Blk)).length = hp2.length + 1 + 1 + 1 := by simp
        refine LeS_slG (P := P) (q := (i, j)) (r := r2) (g := hp2.length + 1) hstb2 (xE.trans ⟨_, rfl⟩) (show H.length ≤ hb2.length by omega) (at_app lM) (fun k p hk => ?_) ?_ (by omega) (by omega) (by omega) ?_ (by simp [okL, okV]; omega)
        · have hkl := (List.getElem?_eq_some_iff.1 hk).1
          rw [iPs_length] at hkl
          rw [List.getElem?_append_left (by rw [lM]; omega), List.getElem?_set, if_neg (by omega), List.append_assoc, List.append_assoc, List.getElem?_append_left (by omega)]
          exact fQ2 k p hk
        · rw [List.getElem?_append_left (by rw [lM]; omega), List.getElem?_set, if_neg (by omega), List.getElem?_append_left (by simp)]
          exact app_last1
        · simp only [leTm, leV, V.ren, V.renL, range_getD_lt (show H.length < hb2.length by omega), range_getD_lt (show H.length + 1 < hb2.length by omega), range_getD_lt (show H.length + 2 < hb2.length by omega), range_getD_lt (show hb.length < hb2.length by omega), range_getD_lt (show g < hb2.length by omega), range_getD_ge, range_getD_eq, List.cons_append, List.nil_append, List.getD_cons_zero, List.getD_cons_succ]
          simp
      · have hFj : F i j = false := by
          rw [hFi, beq_eq_false_iff_ne]; intro e
          rw [hb'.2 (by rw [e])] at h5; cases h5
        rw [hFj] at eP1
        simp only [Bool.false_eq_true, if_false, List.append_nil] at eP1
        refine ⟨(j + 1, r1), by simp only; omega, by simp only; omega, List.range hb2.length ++ ([hb2.length] ++ List.range' (hb2.length + 1) P.length), ?_⟩
        have hlen : (slS F n i).length + (rowS F i (j + 1)).length = P.length := by rw [← List.length_append, eP1]
        simp only [eP1]
        rw [wrap_i64 (by omega) (by omega), hlen]
        exact LeS_sl0 hstb2 (x3.trans ⟨_, rfl⟩) (show H.length ≤ hb2.length by omega) (by rw [List.getElem?_append_left (by omega)]; exact fO2) (fun k p hk => by have hkl := (List.getElem?_eq_some_iff.1 hk).1; rw [iPs_length] at hkl; rw [List.getElem?_append_left (by omega)]; exact fQ2 k p hk) (by omega) (by omega) (by simp only [leTm, leV, V.ren, V.renL, range_getD_lt (show H.length < hb2.length by omega), range_getD_lt (show H.length + 1 < hb2.length by omega), range_getD_lt (show H.length + 2 < hb2.length by omega), range_getD_lt (show hb.length < hb2.length by omega), range_getD_lt (show g < hb2.length by omega), range_getD_ge, range_getD_eq, List.cons_append, List.nil_append, List.getD_cons_zero, List.getD_cons_succ]; simp) (by simp [okL, okV]; omega)
    · obtain rfl : j = n := by omega
      simp only [↓VC, VP, TT, Nat.reduceEqDiff, reduceCtorEq, Nat.reduceAdd, Nat.reduceSub, Nat.reduceLT, Nat.reduceMul, Nat.reducePow, Nat.reduceLeDiff, Int.reduceToNat, Int.reduceLE, Int.reduceLT, Int.reducePow, (eq_false (by omega) : ((j : Int) < (j : Int)) = False), decide_false]
      refine ⟨(i + 1, r1), by simp only; omega, by simp only; omega, List.range hb.length ++ ([hb2.length] ++ List.range' (hb2.length + 1) P.length), ?_⟩
      simp only [eP2 rfl]
      rw [wrap_i64 (by omega) (by omega)]
      exact LeS_sl0 hstb (y2.trans ⟨_, rfl⟩) (show H.length ≤ hb.length by omega) newP_out (fun k p hk => newP_part hk) (by omega) (by omega) (by simp only [leTm, leV, V.ren, V.renL, range_getD_lt (show H.length < hb.length by omega), range_getD_lt (show H.length + 1 < hb.length by omega), range_getD_lt (show H.length + 2 < hb.length by omega), range_getD_lt (show g < hb.length by omega), range_getD_ge, range_getD_eq, List.cons_append, List.nil_append, List.getD_cons_zero, List.getD_cons_succ]; simp) (by simp [okL, okV]; omega)
  · obtain rfl : i = n := by omega
    simp only [↓VC, VP, TT, Nat.reduceEqDiff, reduceCtorEq, Nat.reduceAdd, Nat.reduceSub, Nat.reduceLT, Nat.reduceMul, Nat.reducePow, Nat.reduceLeDiff, Int.reduceToNat, Int.reduceLE, Int.reduceLT, Int.reducePow, (eq_false (by omega) : ((i : Int) < (i : Int)) = False), decide_false]
    refine ⟨_, _, List.range H.length ++ ([hb.length] ++ List.range' (hb.length + 1) (slS F i i).length), ⟨r0, trivial, rfl, rfl⟩, ?_⟩
    exact LeS_sl0 hst (x1.trans ⟨_, rfl⟩) (Nat.le_refl _) newP_out (fun k p hk => newP_part hk) (by omega) (by omega) (by simp [leTm, leV, V.ren, V.renL, range_getD_ge, range_getD_eq]) (by simp [okL, okV]; omega)
end
end Go.Proofs.YtjakgjelnbpmnaaGreat
/- The laws' own helpers over slices of blocks. -/
set_option linter.unusedSimpArgs false
set_option linter.unusedVariables false
namespace Go.Proofs.YtjakgjelnbpmnaaGreat
open Go Go.Vc
set_option maxRecDepth 10000
set_option maxHeartbeats 4000000
end Go.Proofs.YtjakgjelnbpmnaaGreat
/- SlidPlaces: both functions hand back the same, in memory of their own. -/
set_option linter.unusedSimpArgs false
set_option linter.unusedVariables false
namespace Go.Proofs.YtjakgjelnbpmnaaGreat
open Go Go.Vc
set_option maxRecDepth 10000
set_option maxHeartbeats 4000000
/-- What both hand back: the pairs P, the code e, room for r more. -/
def slR (P : List (Nat × Nat)) (e : Int) (r : Nat) : V × List Blk := (.t [.s 1 0 P.length (P.length + r), .c (.int .i64 (e))], newP 1 P r)
theorem none_uniS (e : Int) : ∀ _ : Unit, True → ∃ r : Nat, True ∧ nilV ((fun _ : Unit => (V.t [.c (.slice none 0 0), .c (.int .i64 (e))], ([] : List Blk))) ()).1 (slR [] e r).1 ∧ ∃ ex, (slR [] e r).2 = ((fun _ : Unit => (V.t [.c (.slice none 0 0), .c (.int .i64 (e))], ([] : List Blk))) ()).2 ++ ex ∧ ∀ b ∈ ex, b.cells = [] :=
  fun _ _ => ⟨0, trivial, by simp [slR, nilV, nilVs], _, by simp [slR, newP, iPs, ptrV, partB]; rfl, by simp⟩
theorem inst_newP {sub : List (Nat × Nat)} {N r : Nat} {P : List (Nat × Nat)} (hs : sub.length = 1) : ((newP 1 P r).map fun b => (⟨b.own, V.instL sub N b.cells⟩ : Blk)) = newP N P r := by
  unfold newP
  rw [List.map_cons, instL_app, instL_ptrN (b := 1) (by omega)]
  congr 1
  · have : V.instL sub N (List.replicate r V.j) = List.replicate r V.j := by
      induction r with
      | zero => rfl
      | succ r ih => rw [List.replicate_succ, V.instL, ih]; rfl
    rw [this]
  · unfold partB
    rw [List.map_map]
    refine List.map_congr_left fun p hp => ?_
    show (⟨true, V.instL sub N p.cells⟩ : Blk) = ⟨true, p.cells⟩
    rw [iPs_id sub N p hp]
/-- The code when there are no pairs to look for. -/
def codeS (z : Int) (box A : List UInt8) (k n : Int) : Int := if netB z box A k n = true then 2 else 1
theorem c_spec_Slid_no (z k n : Int) (box A key : List UInt8) (hbx : box.length = 256) (hA : A.length = 16) (hk : key.length = 8) (m c : Nat) (L : List UInt8) (hL : L.length = 16 * m) (hc : m ≤ c) (hm : m ≤ 1048576) (hE : netB z box A k n = false ∨ 60 < m) :
    LC Tryz.prog 7 [.a (netC z box A k n), .a (bs key), .s 0 0 m c] [⟨false, bs L⟩] (Ret [⟨false, bs L⟩] (fun _ : Unit => True) fun _ => (.t [.c (.slice none 0 0), .c (.int .i64 (codeS z box A k n))], [])) := by
  refine LC_of (X := XX (fun | 9 => .one 0 (.one 1 (.one 2 (.one 3 (.one 4 (.one 5 (.one 6 (.one 7 (.one 8 .nil)))))))) | 13 => .one 0 (.one 1 (.one 2 (.one 3 (.one 4 (.one 5 .nil))))) | _ => .nil) (fun | 9 => [(7, 10)] | _ => []) [33, 34, 35, 36, 39, 45, 53, 54, 65, 75, 90, 91, 92, 104] 1) envOK Tryz.func7 (by kernel_rfl) (by kernel_rfl) rfl (Nat.le_of_ble_eq_true (by kernel_rfl)) ?_
  simp only [kFun, Tryz.f7, List.length_nil, List.length_cons, Nat.sub_zero, Nat.reduceSub, Nat.reduceAdd, List.nil_append, List.cons_append, List.replicate_succ, List.replicate_zero]
  simp only [XX, ↓VC, VP, TT, Nat.reduceEqDiff, reduceCtorEq, Nat.reduceAdd, Nat.reduceSub, Nat.reduceLT, Nat.reduceMul, Nat.reducePow, Nat.reduceLeDiff, Int.reduceToNat, Int.reduceLE, Int.reduceLT, Int.reducePow, netC_len hbx hA, ↓net_all hbx hA, hk]
  refine kCall_val (c_spec_l06Is z k n box A hbx hA) (by rfl) [] (by simp [CALL, SCB, instL_net, okL_net]) (by simp [CALL, SCB, instL_net, okL_net]) (by simp [CALL, SCB, instL_net, okL_net]) (by simp [okL_bs, okL_room, okL, okV, instL_net, okL_net]) ?_
  simp (config := { maxSteps := 2000000 }) only [CALL, ↓VC, VP, TT, Nat.reduceEqDiff, reduceCtorEq, Nat.reduceAdd, Nat.reduceSub, Nat.reduceLT, Nat.reduceMul, Nat.reducePow, Nat.reduceLeDiff, Int.reduceToNat, Int.reduceLE, Int.reduceLT, Int.reducePow, GOB, instL_net, netC_len hbx hA, ↓net_all hbx hA, hk]
  unfold codeS
  cases hB : netB z box A k n with
  | false =>
    simp only [↓VC, VP, TT, Nat.reduceEqDiff, reduceCtorEq, Nat.reduceAdd, Nat.reduceSub, Nat.reduceLT, Nat.reduceMul, Nat.reducePow, Nat.reduceLeDiff, Int.reduceToNat, Int.reduceLE, Int.reduceLT, Int.reducePow, hB]
    refine ⟨fun _ => ⟨_, _, [0], ⟨(), trivial, rfl, (List.append_nil _).symm⟩, ?_⟩, fun h => absurd h (by decide)⟩
    simp [-List.reduceReplicate, LES]
  | true =>
    have h60 : 60 < m := by rcases hE with h | h
                            · rw [hB] at h; cases h
                            · exact h
    simp only [↓VC, VP, TT, Nat.reduceEqDiff, reduceCtorEq, Nat.reduceAdd, Nat.reduceSub, Nat.reduceLT, Nat.reduceMul, Nat.reducePow, Nat.reduceLeDiff, Int.reduceToNat, Int.reduceLE, Int.reduceLT, Int.reducePow, hB]
    refine ⟨fun h => absurd h (by decide), fun _ => ⟨fun _ => ⟨_, _, [0], ⟨(), trivial, rfl, (List.append_nil _).symm⟩, ?_⟩, fun h => absurd (show (m : Int) > 60 by omega) h⟩⟩
    simp [-List.reduceReplicate, LES]
theorem c_impl_Slid_no (z k n : Int) (box A key : List UInt8) (hbx : box.length = 256) (hA : A.length = 16) (hk : key.length = 8) (m c : Nat) (L : List UInt8) (hL : L.length = 16 * m) (hc : m ≤ c) (hm : m ≤ 1048576) (hE : netB z box A k n = false ∨ 60 < m) :
    LC Tryz.prog 6 [.a (netC z box A k n), .a (bs key), .s 0 0 m c] [⟨false, bs L⟩] (Ret [⟨false, bs L⟩] (fun _ : Unit => True) fun _ => (.t [.c (.slice none 0 0), .c (.int .i64 (codeS z box A k n))], [])) := by
  refine LC_of (X := XX (fun _ => .nil) (fun _ => []) [33, 34, 35, 36, 39, 45, 53, 54, 65, 75, 90, 91, 92, 104] 1) envOK Tryz.func6 (by kernel_rfl) (by kernel_rfl) rfl (Nat.le_of_ble_eq_true (by kernel_rfl)) ?_
  simp only [kFun, Tryz.f6, List.length_nil, List.length_cons, Nat.sub_zero, Nat.reduceSub, Nat.reduceAdd, List.nil_append, List.cons_append, List.replicate_succ, List.replicate_zero]
  simp only [XX, ↓VC, VP, TT, Nat.reduceEqDiff, reduceCtorEq, Nat.reduceAdd, Nat.reduceSub, Nat.reduceLT, Nat.reduceMul, Nat.reducePow, Nat.reduceLeDiff, Int.reduceToNat, Int.reduceLE, Int.reduceLT, Int.reducePow, netC_len hbx hA, ↓net_all hbx hA, hk]
  refine kCall_val (c_impl_IsNetwork z k n box A hbx hA) (by rfl) [] (by simp [CALL, SCB, instL_net, okL_net]) (by simp [CALL, SCB, instL_net, okL_net]) (by simp [CALL, SCB, instL_net, okL_net]) (by simp [okL_bs, okL_room, okL, okV, instL_net, okL_net]) ?_
  simp (config := { maxSteps := 2000000 }) only [CALL, ↓VC, VP, TT, Nat.reduceEqDiff, reduceCtorEq, Nat.reduceAdd, Nat.reduceSub, Nat.reduceLT, Nat.reduceMul, Nat.reducePow, Nat.reduceLeDiff, Int.reduceToNat, Int.reduceLE, Int.reduceLT, Int.reducePow, GOB, instL_net, netC_len hbx hA, ↓net_all hbx hA, hk]
  unfold codeS
  cases hB : netB z box A k n with
  | false =>
    simp only [↓VC, VP, TT, Nat.reduceEqDiff, reduceCtorEq, Nat.reduceAdd, Nat.reduceSub, Nat.reduceLT, Nat.reduceMul, Nat.reducePow, Nat.reduceLeDiff, Int.reduceToNat, Int.reduceLE, Int.reduceLT, Int.reducePow, hB]
    refine ⟨fun _ => ⟨_, _, [0], ⟨(), trivial, rfl, (List.append_nil _).symm⟩, ?_⟩, fun h => absurd h (by decide)⟩
    simp [-List.reduceReplicate, LES]
  | true =>
    have h60 : 60 < m := by rcases hE with h | h
                            · rw [hB] at h; cases h
                            · exact h
    simp only [↓VC, VP, TT, Nat.reduceEqDiff, reduceCtorEq, Nat.reduceAdd, Nat.reduceSub, Nat.reduceLT, Nat.reduceMul, Nat.reducePow, Nat.reduceLeDiff, Int.reduceToNat, Int.reduceLE, Int.reduceLT, Int.reducePow, hB]
    refine ⟨fun h => absurd h (by decide), fun _ => ⟨fun _ => ⟨_, _, [0], ⟨(), trivial, rfl, (List.append_nil _).symm⟩, ?_⟩, fun h => absurd (show (m : Int) > 60 by omega) h⟩⟩
    simp [-List.reduceReplicate, LES]
end Go.Proofs.YtjakgjelnbpmnaaGreat

import Derived.Test.YtapagcnipdpfiaaAbU
/- The law's helpers over absences with room: equal, marked, held. -/
set_option linter.unusedSimpArgs false
set_option linter.unusedVariables false
namespace Go.Proofs.Ytapagcnipdpfiaa
open Go Go.Vc
set_option maxRecDepth 10000
set_option maxHeartbeats 4000000
theorem v_last {H : List Blk} {x : Blk} : (H ++ [x])[H.length]? = some x := at_app rfl
theorem v_last1 {H : List Blk} {x y : Blk} : ((H ++ [x]) ++ [y])[H.length + 1]? = some y := at_app (by simp)
theorem v_last2 {H : List Blk} {x y : Blk} : ((H ++ [x]) ++ [y])[H.length]? = some x := by rw [List.append_assoc]; exact at_app rfl
/-- The same parts, told without their room. -/
def rd (ps : List (List UInt8 × Nat)) : List (List UInt8 × Nat) := ps.map fun p => (p.1, p.1.length / 32 + p.2)
theorem rd_len (ps : List (List UInt8 × Nat)) : (rd ps).length = ps.length := by simp [rd]
theorem rd_ptr : ∀ (h : Nat) (ps : List (List UInt8 × Nat)), ptrV h (dPs (rd ps)) = ptrV h (rPs ps)
  | _, [] => rfl
  | h, p :: ps => by
    have := rd_ptr (h + 1) ps
    unfold dPs rd rPs at this ⊢
    rw [List.map_cons, List.map_cons, List.map_cons, ptrV, ptrV, this]
    rfl
theorem nAt_rd {H : List Blk} {g b : Nat} {ps : List (List UInt8 × Nat)} (h : nAt H g b (rPs ps)) : nAt H g b (dPs (rd ps)) := by
  refine ⟨by rw [rd_ptr]; exact h.1, fun i p hp => ?_⟩
  simp only [dPs, rd, List.map_map, List.getElem?_map, Option.map_eq_some_iff] at hp
  obtain ⟨q, hq, rfl⟩ := hp
  obtain ⟨own, X, hx⟩ := h.2 i (rP q) (rPs_get hq)
  exact ⟨own, List.replicate (32 * q.2) .j ++ X, by rw [hx]; simp [rP, dP]⟩
theorem rPs_id {ps : List (List UInt8 × Nat)} : ∀ sub N, ∀ p ∈ rPs ps, V.instL sub N p.cells = p.cells := by
  intro sub N p hp
  simp only [rPs, List.mem_map] at hp
  obtain ⟨q, _, rfl⟩ := hp
  exact instL_room _ _ _ _
theorem seg_two2 {hp : List Blk} {g1 b1 g2 b2 n : Nat} {P Q : List Prt} (h1 : nAt hp g1 b1 P) (h2 : nAt hp g2 b2 Q) (hn : P.length = n) (hq : Q.length = n) (hid : ∀ sub N, ∀ p ∈ P, V.instL sub N p.cells = p.cells) (hiq : ∀ sub N, ∀ p ∈ Q, V.instL sub N p.cells = p.cells) :
    segOK hp ((g1, 0) :: (g2, 0) :: (rng b1 n ++ rng b2 n)) ((g1, 0) :: (g2, 0) :: (rng b1 n ++ rng b2 n)) (⟨false, ptrV 2 P⟩ :: ⟨false, ptrV (n + 2) Q⟩ :: (partB false P ++ partB false Q)) := by
  have c1 := h1.1.cells
  have c2 := h2.1.cells
  rw [ptrV_length] at c1 c2
  refine ⟨⟨rfl, h1.1.lt, ?_⟩, ⟨rfl, h2.1.lt, ?_⟩, segOK_app (segOK_rng hn fun i p hp => ?_) (segOK_rng hq fun i p hp => ?_)⟩
  · rw [List.drop_zero, ptrV_length, c1, instL_ptrV]
    intro i hi
    rw [Nat.add_comm, List.getElem?_cons_succ, List.getElem?_cons_succ, List.getElem?_append_left (by rw [rng_length]; omega), rng_get b1 (by omega)]
  · rw [List.drop_zero, ptrV_length, c2, instL_ptrV]
    intro i hi
    rw [show n + 2 + i = (n + i) + 1 + 1 by omega, List.getElem?_cons_succ, List.getElem?_cons_succ, List.getElem?_append_right (by rw [rng_length]; omega), rng_length, Nat.add_sub_cancel_left, rng_get b2 (by omega)]
  · rw [hid _ _ _ (List.mem_of_getElem? hp)]
    exact ⟨(h1.2 i p hp).lt, (h1.2 i p hp).cells⟩
  · rw [hiq _ _ _ (List.mem_of_getElem? hp)]
    exact ⟨(h2.2 i p hp).lt, (h2.2 i p hp).cells⟩
section
variable {H : List Blk} {g1 g2 b k1 k2 b' k c1 c2 d1 d2 : Nat} {B : List UInt8} {ps qs : List (List UInt8 × Nat)}
theorem c_laws_eqAbsence2 (p : Nat) (hst : stM H) (hB : B.length = 32 * k) (hk : ps.length = k) (hk' : qs.length = k) (hk2 : k ≤ 2) (he : ps.map (·.1) = qs.map (·.1)) (hc1 : k ≤ c1) (hc2 : k ≤ c2) (hd1 : k ≤ d1) (hd2 : k ≤ d2)
    (hL : ∀ p ∈ ps, p.1.length = 32 * (p.1.length / 32) ∧ p.1.length ≤ 2048) (hL2 : ∀ p ∈ qs, p.1.length = 32 * (p.1.length / 32) ∧ p.1.length ≤ 2048) (f : bAt H g1 (bs B)) (f2 : nAt H g2 b (rPs ps)) (f' : bAt H k1 (bs B)) (f2' : nAt H k2 b' (rPs qs)) :
    LC Try.prog 31 [.a [.c (.int .i64 (p)), .s g1 0 k c1, .s g2 0 k c2], .a [.c (.int .i64 (p)), .s k1 0 k d1, .s k2 0 k d2]] H (fun v hp => v = .c (.bool (true)) ∧ hp = H) := by
  have hE : ∀ {l : List (List UInt8 × Nat)}, (∀ p ∈ l, p.1.length = 32 * (p.1.length / 32) ∧ p.1.length ≤ 2048) → ∀ p ∈ rd l, p.1.length = 32 * (p.1.length / 32) ∧ p.1.length / 32 ≤ p.2 ∧ p.1.length / 32 ≤ 1048576 := by
    intro l hl p hp
    simp only [rd, List.mem_map] at hp
    obtain ⟨q, hq, rfl⟩ := hp
    have := hl q hq
    exact ⟨this.1, by simp only; omega, by simp only; omega⟩
  have key := c_laws_eqDigestSS2 (rd ps) (rd qs) (by simpa [rd, List.map_map, Function.comp_def] using he) c2 d2 (by rw [rd_len]; omega) (by rw [rd_len]; omega) (by rw [rd_len]; omega) (hE hL) (hE hL2)
  rw [rd_len, hk] at key
  have hPn : (dPs (rd ps)).length = k := by rw [dPs_length, rd_len, hk]
  have hQn : (dPs (rd qs)).length = k := by rw [dPs_length, rd_len, hk']
  refine LC_of (X := XX (fun _ => .nil) (fun _ => []) [25, 33, 34, 61, 62, 82, 87, 112, 119, 141] (H.length)) envOK Try.func31 (by kernel_rfl) (by kernel_rfl) (by simp [XX]) (Nat.le_of_ble_eq_true (by kernel_rfl)) ?_
  simp only [kFun, Try.f31, List.length_nil, List.length_cons, Nat.sub_zero, Nat.reduceSub, Nat.reduceAdd, List.nil_append, List.cons_append, List.replicate_succ, List.replicate_zero]
  simp only [XX, ↓VC, VP, TT, List.getElem?_toArray, Nat.reduceEqDiff, reduceCtorEq, Nat.reduceAdd, Nat.reduceSub, Nat.reduceLT, Nat.reduceMul, Nat.reducePow, Nat.reduceLeDiff, Int.reduceToNat, Int.reduceLE, Int.reduceLT, Int.reducePow]
  have x1 : Ext H (H ++ [⟨true, [.c (.int .i64 (p)), V.s g1 0 k c1, V.s g2 0 k c2]⟩] ++ [⟨true, [.c (.int .i64 (p)), V.s k1 0 k d1, V.s k2 0 k d2]⟩]) := ⟨_, by rw [List.append_assoc]⟩
  have hll : ∀ x, (H ++ [x]).length = H.length + 1 := fun x => by simp
  simp only [↓VC, VP, TT, List.getElem?_toArray, Nat.reduceEqDiff, reduceCtorEq, Nat.reduceAdd, Nat.reduceSub, Nat.reduceLT, Nat.reduceMul, Nat.reducePow, Nat.reduceLeDiff, Int.reduceToNat, Int.reduceLE, Int.reduceLT, Int.reducePow, hll, ↓v_last2, ↓v_last1, bne_self_eq_false]
  refine kCall_val (c_laws_eqDigestS k k c1 d1 B B hB hB hc1 hd1 (by omega)) (by rfl) [(g1, 0), (k1, 0)] (by simp [CALL]) (seg_bAt (f.mono x1) (instL_bs _ _ _) (seg_bAt (f'.mono x1) (instL_bs _ _ _) trivial)) (by simp [okL, okV]) (by simp [okL_bs]) ?_
  simp only [CALL, ↓VC, VP, TT, List.getElem?_toArray, Nat.reduceEqDiff, reduceCtorEq, Nat.reduceAdd, Nat.reduceSub, Nat.reduceLT, Nat.reduceMul, Nat.reducePow, Nat.reduceLeDiff, Int.reduceToNat, Int.reduceLE, Int.reduceLT, Int.reducePow, beq_self_eq_true, Bool.not_true, ↓v_last2, ↓v_last1]
  refine kCall_val key (by rfl) ((g2, 0) :: (k2, 0) :: (rng b k ++ rng b' k)) (by simp [CALL]) (seg_two2 (nAt_rd (f2.mono x1)) (nAt_rd (f2'.mono x1)) hPn hQn dPs_id dPs_id) (by simp [okL, okV]) (fun x hx => stL_ok (stB_cons (stL_ptrV (by rw [hPn]; simp [partB_length, hPn, hQn]; omega)) (stB_cons (stL_ptrV (by rw [hQn]; simp [partB_length, hPn, hQn]; omega)) (stB_app (stB_part dPs_st) (stB_part dPs_st))) x hx)) ?_
  simp only [CALL, ↓VC, VP, TT, List.getElem?_toArray, Nat.reduceEqDiff, reduceCtorEq, Nat.reduceAdd, Nat.reduceSub, Nat.reduceLT, Nat.reduceMul, Nat.reducePow, Nat.reduceLeDiff, Int.reduceToNat, Int.reduceLE, Int.reduceLT, Int.reducePow, beq_self_eq_true, Bool.not_true, ↓v_last2, ↓v_last1]
  exact ⟨_, _, List.range H.length, ⟨rfl, rfl⟩, LeS_mem rfl x1 (by simp [leT]) (by simp [stL, stV]) hst⟩
theorem mkD_rlen (q : Nat) (hk : ps.length = k) : (rPs (mkD q ps)).length = k := by rw [rPs_length, mkD_length, hk]
theorem c_laws_heldAbsence2 (p q : Nat) (hst : stM H) (hk : ps.length = k) (hk2 : k ≤ 2) (hq : q ≤ 1000000) (hc1 : k ≤ c1) (hc2 : k ≤ c2) (hL : ∀ p ∈ ps, p.1.length = 32 * (p.1.length / 32) ∧ p.1.length ≤ 2048) (hS : sumD ps ≤ 1000000) (f : bAt H g1 (bs (markL q (32 * k)))) (f2 : nAt H g2 b (rPs (mkD (q + 32 * k) ps))) :
    LC Try.prog 35 [.a [.c (.int .i64 (p)), .s g1 0 k c1, .s g2 0 k c2], .c (.int .i64 (q))] H (fun v hp => v = .c (.int .i64 (((q + 32 * k + sumD ps : Nat) : Int))) ∧ hp = H) := by
  have key := c_laws_heldDigestSS ps c2 (q + 32 * k) (by omega) (by omega) (fun p hp => ⟨(hL p hp).1, by have := (hL p hp).2; omega⟩) (by omega)
  rw [hk] at key
  have hPn := mkD_rlen (q + 32 * k) hk
  refine LC_of (X := XX (fun _ => .nil) (fun _ => []) [25, 33, 34, 61, 62, 82, 87, 112, 119, 141] (H.length)) envOK Try.func35 (by kernel_rfl) (by kernel_rfl) (by simp [XX]) (Nat.le_of_ble_eq_true (by kernel_rfl)) ?_
  simp only [kFun, Try.f35, List.length_nil, List.length_cons, Nat.sub_zero, Nat.reduceSub, Nat.reduceAdd, List.nil_append, List.cons_append, List.replicate_succ, List.replicate_zero]
  simp only [XX, ↓VC, VP, TT, List.getElem?_toArray, Nat.reduceEqDiff, reduceCtorEq, Nat.reduceAdd, Nat.reduceSub, Nat.reduceLT, Nat.reduceMul, Nat.reducePow, Nat.reduceLeDiff, Int.reduceToNat, Int.reduceLE, Int.reduceLT, Int.reducePow]
  have x1 : Ext H (H ++ [⟨true, [.c (.int .i64 (p)), V.s g1 0 k c1, V.s g2 0 k c2]⟩]) := ⟨_, rfl⟩
  have hll : ∀ x, (H ++ [x]).length = H.length + 1 := fun x => by simp
  have nlt : ∀ x : Nat, ((x : Int) < 0) = False := fun x => eq_false (by omega)
  simp only [↓VC, VP, TT, List.getElem?_toArray, Nat.reduceEqDiff, reduceCtorEq, Nat.reduceAdd, Nat.reduceSub, Nat.reduceLT, Nat.reduceMul, Nat.reducePow, Nat.reduceLeDiff, Int.reduceToNat, Int.reduceLE, Int.reduceLT, Int.reducePow, hll, ↓v_last, ↓v_last1]
  refine kCall_val (c_laws_heldDigestS k c1 q hc1 (by omega) (by omega)) (by rfl) [(g1, 0)] (by simp [CALL]) (seg_bAt (f.mono x1) (instL_bs _ _ _) trivial) (by simp [okL, okV]) (by simp [okL_bs]) ?_
  simp only [CALL, ↓VC, VP, TT, List.getElem?_toArray, Nat.reduceEqDiff, reduceCtorEq, Nat.reduceAdd, Nat.reduceSub, Nat.reduceLT, Nat.reduceMul, Nat.reducePow, Nat.reduceLeDiff, Int.reduceToNat, Int.reduceLE, Int.reduceLT, Int.reducePow, ↓v_last, ↓v_last1, nlt, decide_false]
  refine kCall_val key (by rfl) ((g2, 0) :: rng b k) (by simp [CALL]) (seg_nAt0 (f2.mono x1) hPn rPs_id) (by simp [okL, okV]) (fun x hx => stL_ok (stB_cons (stL_ptrV (by rw [hPn]; simp [partB_length, hPn]; omega)) (stB_part rPs_st) x hx)) ?_
  simp only [CALL, ↓VC, VP, TT, List.getElem?_toArray, Nat.reduceEqDiff, reduceCtorEq, Nat.reduceAdd, Nat.reduceSub, Nat.reduceLT, Nat.reduceMul, Nat.reducePow, Nat.reduceLeDiff, Int.reduceToNat, Int.reduceLE, Int.reduceLT, Int.reducePow, ↓v_last, ↓v_last1, nlt, decide_false]
  exact ⟨_, _, List.range H.length, ⟨rfl, rfl⟩, LeS_mem rfl x1 (by simp [leT]) (by simp [stL, stV]) hst⟩
end
/-- Writing the parts of a nest behind one block. -/
theorem put_eq {x y : Blk} {R : List Blk} {n N : Nat} {P Q : List Prt} {S : List (Nat × Nat)} {y' : Blk} (hn : P.length = n) (hq : Q.length = n) (hid : ∀ q ∈ Q, V.instL S N q.cells = q.cells) :
    putSegs S N (x :: y :: (partB true P ++ R)) ((1, 0) :: rng 2 n) (⟨false, ptrV 1 P⟩ :: partB true P) (y' :: partB true Q) = x :: y :: (partB true Q ++ R) := by
  obtain ⟨h1, h2⟩ := putSegs_rng (sub := S) (N := N) (b := 2) (hp := x :: y :: (partB true P ++ R)) hn hq
  have e : putSegs S N (x :: y :: (partB true P ++ R)) ((1, 0) :: rng 2 n) (⟨false, ptrV 1 P⟩ :: partB true P) (y' :: partB true Q) = putSegs S N (x :: y :: (partB true P ++ R)) (rng 2 n) (partB true P) (partB true Q) := by
    rw [putSegs]; rfl
  rw [e]
  apply List.ext_getElem?
  intro h
  rw [h2]
  have hl : (x :: y :: (partB true P ++ R)).length = n + R.length + 2 := by simp [partB_length, hn]
  rcases h with _ | _ | h
  · rfl
  · rfl
  · rw [hl]
    simp only [List.getElem?_cons_succ]
    rcases Nat.lt_or_ge h n with hh | hh
    · rw [if_pos (by omega), show h + 1 + 1 - 2 = h by omega]
      have hQ : Q[h]? = some Q[h] := List.getElem?_eq_getElem (by omega)
      rw [List.getElem?_append_left (by rw [partB_length]; omega), partB_get0 hQ, hQ, Option.map_some, hid _ (List.mem_of_getElem? hQ)]
    · rw [if_neg (by omega), List.getElem?_append_right (by rw [partB_length]; omega), List.getElem?_append_right (by rw [partB_length]; omega), partB_length, partB_length, hn, hq]
theorem c_laws_markAbsence2 (p q k a c2 : Nat) (B : List UInt8) (ps : List (List UInt8 × Nat)) (hB : B.length = 32 * k) (hk : ps.length = k) (hk2 : k ≤ 2) (hq : q ≤ 1000000) (hc2 : k ≤ c2) (hL : ∀ p ∈ ps, p.1.length = 32 * (p.1.length / 32) ∧ p.1.length ≤ 2048) (hS : sumD ps ≤ 1000000) :
    LC Try.prog 34 [.a [.c (.int .i64 (p)), .s 0 0 k (k + a), .s 1 0 k c2], .c (.int .i64 (q))] (⟨true, bs B ++ List.replicate (32 * a) .j⟩ :: ⟨false, ptrV 2 (rPs ps)⟩ :: partB true (rPs ps))
    (RetM (fun _ : Unit => True) fun _ => (.c (.int .i64 (((q + 32 * k + sumD ps : Nat) : Int))), ⟨true, bs (markL q (32 * k)) ++ List.replicate (32 * a) .j⟩ :: ⟨false, ptrV 2 (rPs ps)⟩ :: partB true (rPs (mkD (q + 32 * k) ps)), [])) := by
  have key := c_laws_markDigestSS ps c2 (q + 32 * k) (by omega) (by omega) (fun p hp => ⟨(hL p hp).1, by have := (hL p hp).2; omega⟩) (by omega)
  rw [hk] at key
  have hPn : (rPs ps).length = k := by rw [rPs_length, hk]
  have hQn := mkD_rlen (q + 32 * k) hk
  refine LC_of (X := XX (fun _ => .nil) (fun _ => []) [25, 33, 34, 61, 62, 82, 87, 112, 119, 141] (k + 2)) envOK Try.func34 (by kernel_rfl) (by kernel_rfl) (by simp [XX, partB_length, hPn]) (Nat.le_of_ble_eq_true (by kernel_rfl)) ?_
  simp only [kFun, Try.f34, List.length_nil, List.length_cons, Nat.sub_zero, Nat.reduceSub, Nat.reduceAdd, List.nil_append, List.cons_append, List.replicate_succ, List.replicate_zero]
  simp only [XX, ↓VC, VP, TT, List.getElem?_toArray, Nat.reduceEqDiff, reduceCtorEq, Nat.reduceAdd, Nat.reduceSub, Nat.reduceLT, Nat.reduceMul, Nat.reducePow, Nat.reduceLeDiff, Int.reduceToNat, Int.reduceLE, Int.reduceLT, Int.reducePow, partB_length, hPn, List.length_append, List.length_cons, List.length_nil]
  have hb : ∀ {Q : List Prt} {x : Blk}, Q.length = k → (partB true Q ++ [x])[k]? = some x := fun hQ => by rw [partB_skip0 hQ]; rfl
  simp only [↓VC, VP, TT, List.getElem?_toArray, Nat.reduceEqDiff, reduceCtorEq, Nat.reduceAdd, Nat.reduceSub, Nat.reduceLT, Nat.reduceMul, Nat.reducePow, Nat.reduceLeDiff, Int.reduceToNat, Int.reduceLE, Int.reduceLT, Int.reducePow, ↓hb hPn]
  refine kA_M (c_laws_markDigestS k (k + a) (32 * a) q B hB (by omega) (by omega) (by omega)) (by rfl) [(0, 0)] (by simp [CALL]) ⟨.inr ⟨rfl, rfl, by rw [instL_room]; rfl⟩, trivial⟩ (by simp) (by simp [okL, okV]) (by simp [okL_room]) (by intro x _; simp [keepR, bs_length, markL_len, hB]) (fun _ => rfl) fun _ N1 hp1 _ eN1 e1 => ?_
  simp only [putSegs, if_true, instL_room, List.set_cons_zero] at e1
  subst e1
  simp (config := { maxSteps := 2000000 }) only [CALL, ↓VC, VP, TT, List.getElem?_toArray, Nat.reduceEqDiff, reduceCtorEq, Nat.reduceAdd, Nat.reduceSub, Nat.reduceLT, Nat.reduceMul, Nat.reducePow, Nat.reduceLeDiff, Int.reduceToNat, Int.reduceLE, Int.reduceLT, Int.reducePow, instL_room, Bool.not_true, Bool.not_false, ↓hb hPn]
  have q0 : nAt (⟨true, bs (markL q (32 * k)) ++ List.replicate (32 * a) V.j⟩ :: ⟨false, ptrV 2 (rPs ps)⟩ :: (partB true (rPs ps) ++ [⟨true, [.c (.int .i64 (p)), V.s 0 0 k (k + a), V.s 1 0 k c2]⟩])) 1 2 (rPs ps) := ⟨bAt_of rfl, fun i p hp => by rw [show 2 + i = i + 1 + 1 by omega]; exact bAt_of (partB_get hp)⟩
  refine kA_M key (by rfl) ((1, 0) :: rng 2 k) (by simp [CALL]) (segM_nest q0 (fun i p hp => by rw [show 2 + i = i + 1 + 1 by omega]; exact partB_get hp) hPn rPs_id) (nest_nodup (by omega)) (by simp [okL, okV]) (fun x hx => stL_ok (stB_cons (stL_ptrV (by rw [hPn]; simp [partB_length, hPn]; omega)) (stB_part rPs_st) x hx)) (fun _ _ => ⟨rfl, keepR_part (by rw [hPn, hQn]) fun i p q hp hq => ?_⟩) (fun _ => rfl) fun _ N2 hp2 _ eN2 e2 => ?_
  · simp only [rPs, List.getElem?_map, Option.map_eq_some_iff] at hp hq
    obtain ⟨u, hu, rfl⟩ := hp
    obtain ⟨v, hv, rfl⟩ := hq
    rw [mkD_get hu] at hv
    cases hv
    simp [rP, bs_length, markL_len]
  · have e3 := put_eq (x := ⟨true, bs (markL q (32 * k)) ++ List.replicate (32 * a) V.j⟩) (y := ⟨false, ptrV 2 (rPs ps)⟩) (R := [⟨true, [.c (.int .i64 (p)), V.s 0 0 k (k + a), V.s 1 0 k c2]⟩]) (N := N2) (S := (1, 0) :: rng 2 k) (y' := ⟨false, ptrV 1 (rPs ps)⟩) hPn hQn (fun x hx => rPs_id _ _ x hx)
    rw [e3] at e2
    subst e2
    simp only [CALL, ↓VC, VP, TT, List.getElem?_toArray, Nat.reduceEqDiff, reduceCtorEq, Nat.reduceAdd, Nat.reduceSub, Nat.reduceLT, Nat.reduceMul, Nat.reducePow, Nat.reduceLeDiff, Int.reduceToNat, Int.reduceLE, Int.reduceLT, Int.reducePow]
    refine ⟨_, _, List.range (k + 2), ⟨(), trivial, rfl, (List.append_nil _).symm⟩, ?_⟩
    refine LeS_id (ex := [⟨true, [.c (.int .i64 (p)), V.s 0 0 k (k + a), V.s 1 0 k c2]⟩]) (by simp [partB_length, hQn]) (by simp [partB_length, hPn]) (by simp) (by simp [leT]) (by simp [stL, stV]) ?_
    exact stB_cons (stL_room _ _ _) (stB_cons (stL_ptrV (by omega)) (stB_part rPs_st))
end Go.Proofs.Ytapagcnipdpfiaa
/- AbsenceOf: the program and the reference hand back the same, in memory of its own. -/
set_option linter.unusedSimpArgs false
set_option linter.unusedVariables false
namespace Go.Proofs.Ytapagcnipdpfiaa
open Go Go.Vc
set_option maxRecDepth 10000
set_option maxHeartbeats 4000000
theorem v_set {H : List Blk} {x y : Blk} : (H ++ [x]).set H.length y = H ++ [y] := by
  rw [List.set_append_right _ _ (Nat.le_refl _), Nat.sub_self]; rfl
/-- The blocks that a call leaves. -/
def newA (N : Nat) (B : List UInt8) (a b : Nat) (ps : List (List UInt8 × Nat)) : List Blk :=
  ⟨true, bs B ++ List.replicate (32 * a) .j⟩ :: ⟨true, ptrV (N + 2) (rPs ps) ++ List.replicate b .j⟩ :: partB true (rPs ps)
section
variable {N a b p : Nat} {B : List UInt8} {e : Int} {ps : List (List UInt8 × Nat)} {hp hp2 : List Blk}
theorem inst_newA {sub : List (Nat × Nat)} (hs : sub.length = 1) : ((abR p B e (a, b, ps)).2.map fun x => (⟨x.own, V.instL sub N x.cells⟩ : Blk)) = newA N B a b ps := by
  show List.map _ (⟨true, bs B ++ List.replicate (32 * a) .j⟩ :: ⟨true, ptrV 3 (rPs ps) ++ List.replicate b .j⟩ :: partB true (rPs ps)) = _
  unfold newA
  rw [List.map_cons, List.map_cons, instL_room, instL_app, instL_ptrN (b := 2) (by omega), instL_rep]
  congr 2
  unfold partB
  rw [List.map_map]
  refine List.map_congr_left fun q hq => ?_
  show (⟨true, V.instL sub N q.cells⟩ : Blk) = ⟨true, q.cells⟩
  rw [rPs_id sub N q hq]
theorem newA_len : (newA N B a b ps).length = 2 + ps.length := by simp [newA, partB_length, rPs_length]; omega
theorem newA_at (hN : N = hp.length) (e : hp2 = hp ++ newA N B a b ps) : hp2[N]? = some ⟨true, bs B ++ List.replicate (32 * a) .j⟩ ∧ nAt hp2 (N + 1) (N + 2) (rPs ps) ∧ ∀ i q, (rPs ps)[i]? = some q → hp2[N + 2 + i]? = some ⟨true, q.cells⟩ := by
  subst hN e
  have h3 : ∀ i q, (rPs ps)[i]? = some q → (hp ++ newA hp.length B a b ps)[hp.length + 2 + i]? = some ⟨true, q.cells⟩ := fun i q hq => by
    have e : hp ++ newA hp.length B a b ps = (hp ++ [⟨true, bs B ++ List.replicate (32 * a) .j⟩, ⟨true, ptrV (hp.length + 2) (rPs ps) ++ List.replicate b .j⟩]) ++ partB true (rPs ps) := by simp [newA]
    rw [e, List.getElem?_append_right (by simp)]
    rw [show hp.length + 2 + i - (hp ++ [(⟨true, bs B ++ List.replicate (32 * a) .j⟩ : Blk), ⟨true, ptrV (hp.length + 2) (rPs ps) ++ List.replicate b .j⟩]).length = i by simp]
    exact partB_get0 hq
  refine ⟨at_app rfl, ⟨bAt_room (X := List.replicate b .j) (own := true) ?_, fun i q hq => bAt_of (h3 i q hq)⟩, h3⟩
  have e : hp ++ newA hp.length B a b ps = (hp ++ [⟨true, bs B ++ List.replicate (32 * a) .j⟩]) ++ ⟨true, ptrV (hp.length + 2) (rPs ps) ++ List.replicate b .j⟩ :: partB true (rPs ps) := by simp [newA]
  rw [e]
  exact at_app (by simp)
theorem newA_own : ∀ x ∈ (abR p B e (a, b, ps)).2, x.own = true ∨ x.cells = [] := by
  intro x hx
  change x ∈ (_ :: _ :: partB true (rPs ps)) at hx
  rcases List.mem_cons.1 hx with rfl | hx
  · exact .inl rfl
  rcases List.mem_cons.1 hx with rfl | hx
  · exact .inl rfl
  simp only [partB, List.mem_map] at hx
  obtain ⟨q, _, rfl⟩ := hx
  exact .inl rfl
end
/-! ### The helpers, over blocks of their own -/
def eqBl (k : Nat) (B : List UInt8) (ps qs : List (List UInt8 × Nat)) : List Blk :=
  ⟨false, bs B⟩ :: ⟨false, ptrV 4 (rPs ps)⟩ :: ⟨false, bs B⟩ :: ⟨false, ptrV (k + 4) (rPs qs)⟩ :: (partB false (rPs ps) ++ partB false (rPs qs))
def hdBl (L : List UInt8) (ps : List (List UInt8 × Nat)) : List Blk := ⟨false, bs L⟩ :: ⟨false, ptrV 2 (rPs ps)⟩ :: partB false (rPs ps)
section
variable {hp : List Blk} {g1 g2 b k1 k2 b' k : Nat} {B L : List UInt8} {ps qs : List (List UInt8 × Nat)}
theorem eqBl_st (hk : ps.length = k) (hk' : qs.length = k) : ∀ x ∈ eqBl k B ps qs, stL (eqBl k B ps qs).length x.cells := by
  have l : (eqBl k B ps qs).length = 4 + k + k := by simp [eqBl, partB_length, rPs_length, hk, hk']; try omega
  rw [l]
  exact stB_cons (stL_bs _ _) (stB_cons (stL_ptrV (by rw [rPs_length]; omega)) (stB_cons (stL_bs _ _) (stB_cons (stL_ptrV (by rw [rPs_length]; omega)) (stB_app (stB_part rPs_st) (stB_part rPs_st)))))
theorem hdBl_st (hk : ps.length = k) : ∀ x ∈ hdBl L ps, stL (hdBl L ps).length x.cells := by
  have l : (hdBl L ps).length = 2 + k := by simp [hdBl, partB_length, rPs_length, hk]; try omega
  rw [l]
  exact stB_cons (stL_bs _ _) (stB_cons (stL_ptrV (by rw [rPs_length]; omega)) (stB_part rPs_st))
theorem e_laws_eqAbsence (p c1 c2 d1 d2 : Nat) (hB : B.length = 32 * k) (hk : ps.length = k) (hk' : qs.length = k) (hk2 : k ≤ 2) (he : ps.map (·.1) = qs.map (·.1)) (hc1 : k ≤ c1) (hc2 : k ≤ c2) (hd1 : k ≤ d1) (hd2 : k ≤ d2)
    (hL : ∀ p ∈ ps, p.1.length = 32 * (p.1.length / 32) ∧ p.1.length ≤ 2048) (hL2 : ∀ p ∈ qs, p.1.length = 32 * (p.1.length / 32) ∧ p.1.length ≤ 2048) :
    LC Try.prog 31 [.a [.c (.int .i64 (p)), .s 0 0 k c1, .s 1 0 k c2], .a [.c (.int .i64 (p)), .s 2 0 k d1, .s 3 0 k d2]] (eqBl k B ps qs) (fun v hp => v = .c (.bool (true)) ∧ hp = eqBl k B ps qs) := by
  refine c_laws_eqAbsence2 (b := 4) (b' := k + 4) (ps := ps) (qs := qs) p (eqBl_st hk hk') hB hk hk' hk2 he hc1 hc2 hd1 hd2 hL hL2 (bAt_of rfl) ⟨bAt_of rfl, fun i q hq => ?_⟩ (bAt_of rfl) ⟨bAt_of rfl, fun i q hq => ?_⟩
  · refine bAt_of (own := false) ?_
    rw [show 4 + i = i + 1 + 1 + 1 + 1 by omega]
    exact partB_get hq
  · refine bAt_of (own := false) ?_
    rw [show k + 4 + i = (k + i) + 1 + 1 + 1 + 1 by omega]
    show (partB false (rPs ps) ++ partB false (rPs qs))[k + i]? = _
    rw [partB_skip (by rw [rPs_length, hk])]
    exact partB_get0 hq
theorem seg_eqA (f : bAt hp g1 (bs B)) (f2 : nAt hp g2 b (rPs ps)) (f' : bAt hp k1 (bs B)) (f2' : nAt hp k2 b' (rPs qs)) (hk : ps.length = k) (hk' : qs.length = k) :
    segOK hp ((g1, 0) :: (g2, 0) :: (k1, 0) :: (k2, 0) :: (rng b k ++ rng b' k)) ((g1, 0) :: (g2, 0) :: (k1, 0) :: (k2, 0) :: (rng b k ++ rng b' k)) (eqBl k B ps qs) := by
  have c1 := f2.1.cells
  have c2 := f2'.1.cells
  rw [ptrV_length] at c1 c2
  refine ⟨⟨rfl, f.lt, by rw [List.drop_zero, instL_bs]; exact f.cells⟩, ⟨rfl, f2.1.lt, ?_⟩, ⟨rfl, f'.lt, by rw [List.drop_zero, instL_bs]; exact f'.cells⟩, ⟨rfl, f2'.1.lt, ?_⟩, segOK_app (segOK_rng (by rw [rPs_length, hk]) fun i p hp => ?_) (segOK_rng (by rw [rPs_length, hk']) fun i p hp => ?_)⟩
  · rw [List.drop_zero, ptrV_length, c1, instL_ptrV]
    intro i hi
    rw [rPs_length, hk] at hi
    rw [show 4 + i = i + 1 + 1 + 1 + 1 by omega, List.getElem?_cons_succ, List.getElem?_cons_succ, List.getElem?_cons_succ, List.getElem?_cons_succ, List.getElem?_append_left (by rw [rng_length]; omega), rng_get b (by omega)]
  · rw [List.drop_zero, ptrV_length, c2, instL_ptrV]
    intro i hi
    rw [rPs_length, hk'] at hi
    rw [show k + 4 + i = (k + i) + 1 + 1 + 1 + 1 by omega, List.getElem?_cons_succ, List.getElem?_cons_succ, List.getElem?_cons_succ, List.getElem?_cons_succ, List.getElem?_append_right (by rw [rng_length]; omega), rng_length, Nat.add_sub_cancel_left, rng_get b' (by omega)]
  · rw [rPs_id _ _ _ (List.mem_of_getElem? hp)]
    exact ⟨(f2.2 i p hp).lt, (f2.2 i p hp).cells⟩
  · rw [rPs_id _ _ _ (List.mem_of_getElem? hp)]
    exact ⟨(f2'.2 i p hp).lt, (f2'.2 i p hp).cells⟩
theorem e_laws_heldAbsence (p q c1 c2 : Nat) (hk : ps.length = k) (hk2 : k ≤ 2) (hq : q ≤ 1000000) (hc1 : k ≤ c1) (hc2 : k ≤ c2) (hL : ∀ p ∈ ps, p.1.length = 32 * (p.1.length / 32) ∧ p.1.length ≤ 2048) (hS : sumD ps ≤ 1000000) :
    LC Try.prog 35 [.a [.c (.int .i64 (p)), .s 0 0 k c1, .s 1 0 k c2], .c (.int .i64 (q))] (hdBl (markL q (32 * k)) (mkD (q + 32 * k) ps)) (fun v hp => v = .c (.int .i64 (((q + 32 * k + sumD ps : Nat) : Int))) ∧ hp = hdBl (markL q (32 * k)) (mkD (q + 32 * k) ps)) := by
  refine c_laws_heldAbsence2 (b := 2) (ps := ps) p q (hdBl_st (k := k) (by rw [mkD_length]; exact hk)) hk hk2 hq hc1 hc2 hL hS (bAt_of rfl) ⟨bAt_of rfl, fun i q hq => ?_⟩
  refine bAt_of (own := false) ?_
  rw [show 2 + i = i + 1 + 1 by omega]
  exact partB_get0 hq
theorem seg_hdA (f : bAt hp g1 (bs L)) (f2 : nAt hp g2 b (rPs ps)) (hk : ps.length = k) : segOK hp ((g1, 0) :: (g2, 0) :: rng b k) ((g1, 0) :: (g2, 0) :: rng b k) (hdBl L ps) := by
  have c1 := f2.1.cells
  rw [ptrV_length] at c1
  refine ⟨⟨rfl, f.lt, by rw [List.drop_zero, instL_bs]; exact f.cells⟩, ⟨rfl, f2.1.lt, ?_⟩, segOK_rng (by rw [rPs_length, hk]) fun i p hp => ?_⟩
  · rw [List.drop_zero, ptrV_length, c1, instL_ptrV]
    intro i hi
    rw [rPs_length, hk] at hi
    rw [show 2 + i = i + 1 + 1 by omega, List.getElem?_cons_succ, List.getElem?_cons_succ, rng_get b (by omega)]
  · rw [rPs_id _ _ _ (List.mem_of_getElem? hp)]
    exact ⟨(f2.2 i p hp).lt, (f2.2 i p hp).cells⟩
theorem segM_mkA {a : Nat} (f : hp[g1]? = some ⟨true, bs B ++ List.replicate (32 * a) .j⟩) (f2 : nAt hp g2 b (rPs ps)) (o : ∀ i q, (rPs ps)[i]? = some q → hp[b + i]? = some ⟨true, q.cells⟩) (hk : ps.length = k) :
    segM hp ((g1, 0) :: (g2, 0) :: rng b k) ((g1, 0) :: (g2, 0) :: rng b k) (⟨true, bs B ++ List.replicate (32 * a) .j⟩ :: ⟨false, ptrV 2 (rPs ps)⟩ :: partB true (rPs ps)) := by
  have c1 := f2.1.cells
  rw [ptrV_length] at c1
  refine ⟨.inr ⟨rfl, rfl, by rw [instL_room]; exact f⟩, .inl ⟨rfl, f2.1.lt, ?_⟩, segM_rng (by rw [rPs_length, hk]) fun i p hp => ?_⟩
  · rw [List.drop_zero, ptrV_length, c1, instL_ptrV]
    intro i hi
    rw [rPs_length, hk] at hi
    rw [show 2 + i = i + 1 + 1 by omega, List.getElem?_cons_succ, List.getElem?_cons_succ, rng_get b (by omega)]
  · rw [rPs_id _ _ _ (List.mem_of_getElem? hp)]; exact o i p hp
/-- What a call that marks an absence leaves. -/
theorem put_abs {a N : Nat} {y' : Blk} {L : List UInt8} {S : List (Nat × Nat)} (hl : L.length = B.length) (f : hp[g1]? = some ⟨true, bs B ++ List.replicate (32 * a) .j⟩) (f2 : nAt hp g2 b (rPs ps)) (hk : ps.length = k) (hk' : qs.length = k) (hd : g1 < b ∨ b + k ≤ g1) :
    Upd (fun h => h = g1 ∨ b ≤ h ∧ h < b + k) hp (putSegs S N hp ((g1, 0) :: (g2, 0) :: rng b k) (⟨true, bs B ++ List.replicate (32 * a) .j⟩ :: ⟨false, ptrV 2 (rPs ps)⟩ :: partB true (rPs ps)) (⟨true, bs L ++ List.replicate (32 * a) .j⟩ :: y' :: partB true (rPs qs))) ∧
    (putSegs S N hp ((g1, 0) :: (g2, 0) :: rng b k) (⟨true, bs B ++ List.replicate (32 * a) .j⟩ :: ⟨false, ptrV 2 (rPs ps)⟩ :: partB true (rPs ps)) (⟨true, bs L ++ List.replicate (32 * a) .j⟩ :: y' :: partB true (rPs qs)))[g1]? = some ⟨true, bs L ++ List.replicate (32 * a) .j⟩ ∧
    ∀ i q, (rPs qs)[i]? = some q → (putSegs S N hp ((g1, 0) :: (g2, 0) :: rng b k) (⟨true, bs B ++ List.replicate (32 * a) .j⟩ :: ⟨false, ptrV 2 (rPs ps)⟩ :: partB true (rPs ps)) (⟨true, bs L ++ List.replicate (32 * a) .j⟩ :: y' :: partB true (rPs qs)))[b + i]? = some ⟨true, q.cells⟩ := by
  have e : putSegs S N hp ((g1, 0) :: (g2, 0) :: rng b k) (⟨true, bs B ++ List.replicate (32 * a) .j⟩ :: ⟨false, ptrV 2 (rPs ps)⟩ :: partB true (rPs ps)) (⟨true, bs L ++ List.replicate (32 * a) .j⟩ :: y' :: partB true (rPs qs)) = putSegs S N (hp.set g1 ⟨true, bs L ++ List.replicate (32 * a) .j⟩) (rng b k) (partB true (rPs ps)) (partB true (rPs qs)) := by
    rw [putSegs, putSegs, instL_room]; rfl
  obtain ⟨h1, h2⟩ := putSegs_rng (sub := S) (N := N) (b := b) (hp := hp.set g1 ⟨true, bs L ++ List.replicate (32 * a) .j⟩) (P := rPs ps) (Q := rPs qs) (n := k) (by rw [rPs_length, hk]) (by rw [rPs_length, hk'])
  have hg1 : g1 < hp.length := (List.getElem?_eq_some_iff.1 f).1
  rw [e]
  refine ⟨⟨by rw [h1]; simp, fun h x hw hx => ?_⟩, ?_, fun i q hqi => ?_⟩
  · rw [h2, if_neg (by omega), List.getElem?_set, if_neg (by omega)]; exact hx
  · rw [h2, if_neg (by omega), List.getElem?_set, if_pos rfl, if_pos hg1]
  · have hi := (List.getElem?_eq_some_iff.1 hqi).1
    rw [rPs_length, hk'] at hi
    have hlt : b + i < hp.length := (f2.2 i _ (List.getElem?_eq_getElem (show i < (rPs ps).length by rw [rPs_length]; omega))).lt
    rw [h2, if_pos (by rw [List.length_set]; omega), Nat.add_sub_cancel_left, hqi, Option.map_some, rPs_id _ _ q (List.mem_of_getElem? hqi)]
end
theorem mk_cells {k : Nat} {ps : List (List UInt8 × Nat)} : ∀ (i : Nat) (p q : Prt), (rPs ps)[i]? = some p → (rPs (mkD k ps))[i]? = some q → q.cells.length = p.cells.length := by
  intro i p q hp hq
  simp only [rPs, List.getElem?_map, Option.map_eq_some_iff] at hp hq
  obtain ⟨u, hu, rfl⟩ := hp
  obtain ⟨v, hv, rfl⟩ := hq
  rw [mkD_get hu] at hv
  cases hv
  simp [rP, bs_length, markL_len]
theorem mk_ptr {h k : Nat} {ps : List (List UInt8 × Nat)} : ptrV h (rPs ps) = ptrV h (rPs (mkD k ps)) := by
  refine ptrV_same (by rw [rPs_length, rPs_length, mkD_length]) fun i p q hp hq => ?_
  simp only [rPs, List.getElem?_map, Option.map_eq_some_iff] at hp hq
  obtain ⟨u, hu, rfl⟩ := hp
  obtain ⟨v, hv, rfl⟩ := hq
  rw [mkD_get hu] at hv
  cases hv
  simp [rP, markL_len]
theorem law_FnExactAbsenceOf (n c : Nat) (D : List UInt8) (hD : D.length = 32 * n) (hc : n ≤ c) (mx : c ≤ maxLen) (x : List UInt8) (hx : x.length = 32) :
    LC Try.prog 5 [.s 0 0 n c, .a (bs x)] [⟨false, bs D⟩] (fun v _ => v = .c (.bool true)) := by
  have hst : ∀ b ∈ [(⟨false, bs D⟩ : Blk)], stL 1 b.cells := stB_cons (stL_bs _ _) stB_nil
  have hN0 : [(⟨false, bs D⟩ : Blk)].length = 1 := rfl
  have g0 : bAt [(⟨false, bs D⟩ : Blk)] 0 (bs D) := bAt_of rfl
  generalize eH : [(⟨false, bs D⟩ : Blk)] = H at *
  refine LC_of (X := XX (fun | 5 => .one 0 (.one 2 (.one 1 (.one 3 (.one 4 (.one 5 (.one 6 (.one 7 (.one 8 (.one 9 (.one 10 .nil)))))))))) | 24 => .one 0 (.one 2 (.one 1 (.one 3 (.one 4 (.one 5 (.one 6 (.one 7 (.one 8 (.one 9 (.one 10 .nil)))))))))) | _ => .nil) (fun | 5 => [(8, 6)] | 24 => [(8, 14)] | _ => []) [25, 33, 34, 61, 62, 82, 87, 112, 119, 141] (1)) envOK Try.func5 (by kernel_rfl) (by kernel_rfl) (by simp only [XX, hN0]) (Nat.le_of_ble_eq_true (by kernel_rfl)) ?_
  simp only [kFun, Try.f5, List.length_nil, List.length_cons, Nat.sub_zero, Nat.reduceSub, Nat.reduceAdd, List.nil_append, List.cons_append, List.replicate_succ, List.replicate_zero]
  simp only [XX, ↓VC, VP, TT, List.getElem?_toArray, Nat.reduceEqDiff, reduceCtorEq, Nat.reduceAdd, Nat.reduceSub, Nat.reduceLT, Nat.reduceMul, Nat.reducePow, Nat.reduceLeDiff, Int.reduceToNat, Int.reduceLE, Int.reduceLT, Int.reducePow, hx, hN0, List.length_append, List.length_cons, List.length_nil, Nat.zero_add]
  have nat_lt0X : ∀ x : Nat, ((x : Int) < 0) = False := fun x => eq_false (by omega)
  obtain ⟨hp1, e1⟩ : ∃ hp1, hp1 = H ++ [⟨true, bs x⟩] := ⟨_, rfl⟩
  rw [← e1]
  have x1 : Ext H hp1 := ⟨_, e1⟩
  have fX : hp1[1]? = some ⟨true, bs x⟩ := by rw [e1]; exact at_app hN0
  replace g0 := g0.mono x1
  refine kCall_val (c_laws_szDigestS n c 1048576 D hD hc (by omega) (by omega)) (by rfl) [(0, 0)] (by simp [CALL]) (seg_bAt g0 (instL_bs _ _ _) trivial) (by simp [okL, okV]) (by simp [okL_bs]) ?_
  simp only [CALL, ↓VC, VP, TT, List.getElem?_toArray, Nat.reduceEqDiff, reduceCtorEq, Nat.reduceAdd, Nat.reduceSub, Nat.reduceLT, Nat.reduceMul, Nat.reducePow, Nat.reduceLeDiff, Int.reduceToNat, Int.reduceLE, Int.reduceLT, Int.reducePow]
  refine ⟨fun _ => ⟨_, H, List.range 1, rfl, LeS_ext x1 hN0 (Nat.le_refl _) (by simp [leT]) (by simp [stL, stV]) hst⟩, fun h => ?_⟩
  have hn : n ≤ 1048576 := by
    by_cases h' : n ≤ 1048576
    · exact h'
    · rw [if_neg h'] at h; omega
  clear h
  obtain ⟨p, B, F, e, hF2, hB, hF, hs, hi⟩ := ab_both n D x hD hx hn
  have hPs : ∀ ps : List (List UInt8 × Nat), ps.map (·.1) = F → ps.length = F.length ∧ (∀ q ∈ ps, q.1.length = 32 * (q.1.length / 32) ∧ q.1.length ≤ 2048) ∧ sumD ps ≤ 1000000 := fun ps hps => by
    have l : ps.length = F.length := by rw [← hps, List.length_map]
    have hq : ∀ q ∈ ps, q.1.length = 32 * (q.1.length / 32) ∧ q.1.length ≤ 2048 := fun q hq => hF _ (by rw [← hps]; exact List.mem_map_of_mem hq)
    refine ⟨l, hq, ?_⟩
    match ps, l, hq with
    | [], _, _ => simp [sumD]
    | [a], _, hq => have := (hq a (by simp)).2; simp [sumD]; omega
    | [a, b], _, hq => have := (hq a (by simp)).2; have := (hq b (by simp)).2; simp [sumD]; omega
    | a :: b :: c :: r, l, _ => simp at l; omega
  obtain ⟨k, hk⟩ : ∃ k, k = F.length := ⟨_, rfl⟩
  rw [← hk] at hF2 hB hPs
  simp (config := { maxSteps := 2000000 }) only [CALL, ↓VC, VP, TT, List.getElem?_toArray, Nat.reduceEqDiff, reduceCtorEq, Nat.reduceAdd, Nat.reduceSub, Nat.reduceLT, Nat.reduceMul, Nat.reducePow, Nat.reduceLeDiff, Int.reduceToNat, Int.reduceLE, Int.reduceLT, Int.reducePow, instL_room, Bool.not_true, Bool.not_false, nat_lt0X, bne_self_eq_false, beq_self_eq_true, Bool.not_true, Bool.not_false, decide_false, List.replicate_zero, List.append_nil, hx, fX, rng_length, rng_end, abR, abU]
  refine kA_ret (c_laws_toDigestS n c D hD hc hn) (by rfl) [(0, 0)] (by simp [CALL]) (seg_bAt g0 (instL_bs _ _ _) trivial) (by simp [okL, okV]) (by simp [okL_bs]) (by simp) fun _ N2 hp2 _ eN2 e2 => ?_
  simp only [List.map_cons, List.map_nil, instL_bs] at e2
  have x2 := new_ext e2
  have f2 : hp2[N2]? = some ⟨true, bs D⟩ := new_at (R := []) eN2 e2
  have l2 : hp2.length = N2 + 1 := by rw [e2, List.length_append, eN2]; rfl
  replace fX := x2.get fX; replace g0 := g0.mono x2; replace x1 := x1.trans x2
  clear e2 x2
  simp (config := { maxSteps := 2000000 }) only [CALL, ↓VC, VP, TT, List.getElem?_toArray, Nat.reduceEqDiff, reduceCtorEq, Nat.reduceAdd, Nat.reduceSub, Nat.reduceLT, Nat.reduceMul, Nat.reducePow, Nat.reduceLeDiff, Int.reduceToNat, Int.reduceLE, Int.reduceLT, Int.reducePow, instL_room, Bool.not_true, Bool.not_false, nat_lt0X, bne_self_eq_false, beq_self_eq_true, Bool.not_true, Bool.not_false, decide_false, List.replicate_zero, List.append_nil, hx, fX, rng_length, rng_end, abR, abU, tk32 hx]
  refine kCall_val (c_laws_toDigest x hx) (by rfl) [] (by simp [CALL, cellsAt, tk, take_room, bs_length, bs_nil]) (by simp [CALL, cellsAt, tk, take_room, bs_length, bs_nil]) (by simp [CALL, cellsAt, tk, take_room, bs_length, bs_nil]) (by simp [okL_bs, okL_room, okL, okV]) ?_
  simp (config := { maxSteps := 2000000 }) only [CALL, ↓VC, VP, TT, List.getElem?_toArray, Nat.reduceEqDiff, reduceCtorEq, Nat.reduceAdd, Nat.reduceSub, Nat.reduceLT, Nat.reduceMul, Nat.reducePow, Nat.reduceLeDiff, Int.reduceToNat, Int.reduceLE, Int.reduceLT, Int.reducePow, instL_room, Bool.not_true, Bool.not_false, nat_lt0X, bne_self_eq_false, beq_self_eq_true, Bool.not_true, Bool.not_false, decide_false, List.replicate_zero, List.append_nil, hx, fX, rng_length, rng_end, abR, abU, fX, tk32 hx]
  refine kA_ret hs (by rfl) [(N2, 0)] (by simp [CALL]) (seg_bAt (bAt_of f2) (instL_bs _ _ _) trivial) (by simp [okL, okV, okL_bs]) (by simp [okL_bs]) (fun r => newA_own) ?_
  rintro ⟨a3, b3, ps3⟩ N3 hp3 G3 eN3 e3
  obtain ⟨k3, L3, S3⟩ := hPs ps3 G3
  rw [inst_newA rfl] at e3
  obtain ⟨c3, q3, o3⟩ := newA_at eN3 e3
  have l3 : hp3.length = N3 + (2 + k) := by rw [e3, List.length_append, newA_len, k3, eN3]
  have x3 := new_ext e3
  replace fX := x3.get fX; replace g0 := g0.mono x3; replace x1 := x1.trans x3
  clear e3 x3
  simp (config := { maxSteps := 2000000 }) only [CALL, ↓VC, VP, TT, List.getElem?_toArray, Nat.reduceEqDiff, reduceCtorEq, Nat.reduceAdd, Nat.reduceSub, Nat.reduceLT, Nat.reduceMul, Nat.reducePow, Nat.reduceLeDiff, Int.reduceToNat, Int.reduceLE, Int.reduceLT, Int.reducePow, instL_room, Bool.not_true, Bool.not_false, nat_lt0X, bne_self_eq_false, beq_self_eq_true, Bool.not_true, Bool.not_false, decide_false, List.replicate_zero, List.append_nil, hx, fX, rng_length, rng_end, abR, abU, k3, ↓v_last, v_set]
  obtain ⟨M4, eM4⟩ : ∃ M, M = hp3.length := ⟨_, rfl⟩
  obtain ⟨hp4, e4⟩ : ∃ hp', hp' = hp3 ++ [⟨true, [.c (.int .i64 (p)), V.s N3 0 k (k + a3), V.s (N3 + 1) 0 k (k + b3)]⟩] := ⟨_, rfl⟩
  rw [← eM4, ← e4]
  have x4 := new_ext e4
  have f4 : hp4[M4]? = some ⟨true, [.c (.int .i64 (p)), V.s N3 0 k (k + a3), V.s (N3 + 1) 0 k (k + b3)]⟩ := new_at (R := []) eM4 e4
  have l4 : hp4.length = M4 + 1 := by rw [e4, List.length_append, eM4]; rfl
  replace fX := x4.get fX; replace c3 := x4.get c3; replace g0 := g0.mono x4; replace q3 := q3.mono x4; replace x1 := x1.trans x4
  clear e4 x4
  refine kA_ret (c_laws_toDigestS n c D hD hc hn) (by rfl) [(0, 0)] (by simp [CALL]) (seg_bAt g0 (instL_bs _ _ _) trivial) (by simp [okL, okV]) (by simp [okL_bs]) (by simp) fun _ N5 hp5 _ eN5 e5 => ?_
  simp only [List.map_cons, List.map_nil, instL_bs] at e5
  have x5 := new_ext e5
  have f5 : hp5[N5]? = some ⟨true, bs D⟩ := new_at (R := []) eN5 e5
  have l5 : hp5.length = N5 + 1 := by rw [e5, List.length_append, eN5]; rfl
  replace fX := x5.get fX; replace c3 := x5.get c3; replace f4 := x5.get f4; replace g0 := g0.mono x5; replace q3 := q3.mono x5; replace x1 := x1.trans x5
  clear e5 x5
  simp (config := { maxSteps := 2000000 }) only [CALL, ↓VC, VP, TT, List.getElem?_toArray, Nat.reduceEqDiff, reduceCtorEq, Nat.reduceAdd, Nat.reduceSub, Nat.reduceLT, Nat.reduceMul, Nat.reducePow, Nat.reduceLeDiff, Int.reduceToNat, Int.reduceLE, Int.reduceLT, Int.reducePow, instL_room, Bool.not_true, Bool.not_false, nat_lt0X, bne_self_eq_false, beq_self_eq_true, Bool.not_true, Bool.not_false, decide_false, List.replicate_zero, List.append_nil, hx, fX, rng_length, rng_end, abR, abU, tk32 hx]
  refine kCall_val (c_laws_toDigest x hx) (by rfl) [] (by simp [CALL, cellsAt, tk, take_room, bs_length, bs_nil]) (by simp [CALL, cellsAt, tk, take_room, bs_length, bs_nil]) (by simp [CALL, cellsAt, tk, take_room, bs_length, bs_nil]) (by simp [okL_bs, okL_room, okL, okV]) ?_
  simp (config := { maxSteps := 2000000 }) only [CALL, ↓VC, VP, TT, List.getElem?_toArray, Nat.reduceEqDiff, reduceCtorEq, Nat.reduceAdd, Nat.reduceSub, Nat.reduceLT, Nat.reduceMul, Nat.reducePow, Nat.reduceLeDiff, Int.reduceToNat, Int.reduceLE, Int.reduceLT, Int.reducePow, instL_room, Bool.not_true, Bool.not_false, nat_lt0X, bne_self_eq_false, beq_self_eq_true, Bool.not_true, Bool.not_false, decide_false, List.replicate_zero, List.append_nil, hx, fX, rng_length, rng_end, abR, abU, fX, tk32 hx]
  refine kA_ret hi (by rfl) [(N5, 0)] (by simp [CALL]) (seg_bAt (bAt_of f5) (instL_bs _ _ _) trivial) (by simp [okL, okV, okL_bs]) (by simp [okL_bs]) (fun r => newA_own) ?_
  rintro ⟨a6, b6, ps6⟩ N6 hp6 G6 eN6 e6
  obtain ⟨k6, L6, S6⟩ := hPs ps6 G6
  rw [inst_newA rfl] at e6
  obtain ⟨c6, q6, o6⟩ := newA_at eN6 e6
  have l6 : hp6.length = N6 + (2 + k) := by rw [e6, List.length_append, newA_len, k6, eN6]
  have x6 := new_ext e6
  replace fX := x6.get fX; replace c3 := x6.get c3; replace f4 := x6.get f4; replace f5 := x6.get f5; replace g0 := g0.mono x6; replace q3 := q3.mono x6; replace x1 := x1.trans x6
  clear e6 x6
  simp only [abR, abU, CALL, ↓VC, VP, TT, List.getElem?_toArray, Nat.reduceEqDiff, reduceCtorEq, Nat.reduceAdd, Nat.reduceSub, Nat.reduceLT, Nat.reduceMul, Nat.reducePow, Nat.reduceLeDiff, Int.reduceToNat, Int.reduceLE, Int.reduceLT, Int.reducePow, nat_lt0X, bne_self_eq_false, beq_self_eq_true, Bool.not_true, Bool.not_false, decide_false, hx, k6, ↓v_last, v_set, fX, f4, ↓(fun y : Blk => show (hp6 ++ [y])[M4]? = _ from (new_ext (R := [y]) rfl).get f4)]
  obtain ⟨M7, eM7⟩ : ∃ M, M = hp6.length := ⟨_, rfl⟩
  obtain ⟨hp7, e7⟩ : ∃ hp', hp' = hp6 ++ [⟨true, [.c (.int .i64 (p)), V.s N6 0 k (k + a6), V.s (N6 + 1) 0 k (k + b6)]⟩] := ⟨_, rfl⟩
  rw [← eM7, ← e7]
  have x7 := new_ext e7
  have f7 : hp7[M7]? = some ⟨true, [.c (.int .i64 (p)), V.s N6 0 k (k + a6), V.s (N6 + 1) 0 k (k + b6)]⟩ := new_at (R := []) eM7 e7
  have l7 : hp7.length = M7 + 1 := by rw [e7, List.length_append, eM7]; rfl
  replace fX := x7.get fX; replace c3 := x7.get c3; replace f4 := x7.get f4; replace f5 := x7.get f5; replace c6 := x7.get c6; replace g0 := g0.mono x7; replace q3 := q3.mono x7; replace q6 := q6.mono x7; replace x1 := x1.trans x7
  replace o6 : ∀ i q, (rPs ps6)[i]? = some q → hp7[N6 + 2 + i]? = some ⟨true, q.cells⟩ := fun i q hq => x7.get (o6 i q hq)
  clear e7 x7
  refine kCall_val (e_laws_eqAbsence (B := B) (ps := ps6) (qs := ps3) p (k + a6) (k + b6) (k + a3) (k + b3) hB k6 k3 hF2 (G6.trans G3.symm) (by omega) (by omega) (by omega) (by omega) L6 L3) (by rfl) ((N6, 0) :: (N6 + 1, 0) :: (N3, 0) :: (N3 + 1, 0) :: (rng (N6 + 2) k ++ rng (N3 + 2) k)) (by simp [CALL]) (seg_eqA (bAt_room c6) q6 (bAt_room c3) q3 k6 k3) (by simp [okL, okV, eqBl]) (fun b hb => stL_ok (eqBl_st k6 k3 b hb)) ?_
  simp (config := { maxSteps := 2000000 }) only [CALL, ↓VC, VP, TT, List.getElem?_toArray, Nat.reduceEqDiff, reduceCtorEq, Nat.reduceAdd, Nat.reduceSub, Nat.reduceLT, Nat.reduceMul, Nat.reducePow, Nat.reduceLeDiff, Int.reduceToNat, Int.reduceLE, Int.reduceLT, Int.reducePow, instL_room, Bool.not_true, Bool.not_false, nat_lt0X, bne_self_eq_false, beq_self_eq_true, Bool.not_true, Bool.not_false, decide_false, List.replicate_zero, List.append_nil, hx, fX, rng_length, rng_end, abR, abU, f4, f7]
  refine kA_ret (c_laws_toDigestS n c D hD hc hn) (by rfl) [(0, 0)] (by simp [CALL]) (seg_bAt g0 (instL_bs _ _ _) trivial) (by simp [okL, okV]) (by simp [okL_bs]) (by simp) fun _ N8 hp8 _ eN8 e8 => ?_
  simp only [List.map_cons, List.map_nil, instL_bs] at e8
  have x8 := new_ext e8
  have f8 : hp8[N8]? = some ⟨true, bs D⟩ := new_at (R := []) eN8 e8
  have l8 : hp8.length = N8 + 1 := by rw [e8, List.length_append, eN8]; rfl
  replace fX := x8.get fX; replace c3 := x8.get c3; replace f4 := x8.get f4; replace f5 := x8.get f5; replace c6 := x8.get c6; replace f7 := x8.get f7; replace g0 := g0.mono x8; replace q3 := q3.mono x8; replace q6 := q6.mono x8; replace x1 := x1.trans x8
  replace o6 : ∀ i q, (rPs ps6)[i]? = some q → hp8[N6 + 2 + i]? = some ⟨true, q.cells⟩ := fun i q hq => x8.get (o6 i q hq)
  clear e8 x8
  simp (config := { maxSteps := 2000000 }) only [CALL, ↓VC, VP, TT, List.getElem?_toArray, Nat.reduceEqDiff, reduceCtorEq, Nat.reduceAdd, Nat.reduceSub, Nat.reduceLT, Nat.reduceMul, Nat.reducePow, Nat.reduceLeDiff, Int.reduceToNat, Int.reduceLE, Int.reduceLT, Int.reducePow, instL_room, Bool.not_true, Bool.not_false, nat_lt0X, bne_self_eq_false, beq_self_eq_true, Bool.not_true, Bool.not_false, decide_false, List.replicate_zero, List.append_nil, hx, fX, rng_length, rng_end, abR, abU, f4, f7]
  refine kCall_val (c_laws_eqDigestS n n n n D D hD hD (Nat.le_refl _) (Nat.le_refl _) hn) (by rfl) [(N5, 0), (N8, 0)] (by simp [CALL]) (seg_bAt (bAt_of f5) (instL_bs _ _ _) (seg_bAt (bAt_of f8) (instL_bs _ _ _) trivial)) (by simp [okL, okV]) (by simp [okL_bs]) ?_
  simp (config := { maxSteps := 2000000 }) only [CALL, ↓VC, VP, TT, List.getElem?_toArray, Nat.reduceEqDiff, reduceCtorEq, Nat.reduceAdd, Nat.reduceSub, Nat.reduceLT, Nat.reduceMul, Nat.reducePow, Nat.reduceLeDiff, Int.reduceToNat, Int.reduceLE, Int.reduceLT, Int.reducePow, instL_room, Bool.not_true, Bool.not_false, nat_lt0X, bne_self_eq_false, beq_self_eq_true, Bool.not_true, Bool.not_false, decide_false, List.replicate_zero, List.append_nil, hx, fX, rng_length, rng_end, abR, abU, f4, f7]
  have km := c_laws_markDigestS n n 0 1 D hD (Nat.le_refl _) hn (by omega)
  simp only [List.replicate_zero, List.append_nil] at km
  refine kA_M km (by rfl) [(N5, 0)] (by simp [CALL]) ⟨.inr ⟨rfl, rfl, by rw [f5, instL_bs]⟩, trivial⟩ (by simp) (by simp [okL, okV]) (by simp [okL_bs]) (by intro x _; simp [keepR, bs_length, markL_len, hD]) (fun _ => rfl) fun _ N9 hp9 _ eN9 e9 => ?_
  simp only [putSegs, if_true, instL_bs] at e9
  have u9 := set_upd (b := ⟨true, bs (markL 1 (32 * n))⟩) f5
  rw [← e9] at u9
  have l9 : hp9.length = hp8.length := by rw [e9, List.length_set]
  have r3 : (rPs ps3).length = k := by rw [rPs_length, k3]
  have r6 : (rPs ps6).length = k := by rw [rPs_length, k6]
  replace fX := u9.get (by omega) fX; replace c3 := u9.get (by omega) c3; replace f4 := u9.get (by omega) f4; replace c6 := u9.get (by omega) c6; replace f7 := u9.get (by omega) f7; replace g0 := g0.upd u9 (by omega); replace q3 := q3.upd u9 (by omega) (by intro i hi; omega); replace q6 := q6.upd u9 (by omega) (by intro i hi; omega); replace x1 := x1.uext u9 (by intro h hh; omega)
  replace o6 : ∀ i q, (rPs ps6)[i]? = some q → hp9[N6 + 2 + i]? = some ⟨true, q.cells⟩ := fun i q hq => u9.get (by omega) (o6 i q hq)
  clear e9 u9 f5 f8
  simp (config := { maxSteps := 2000000 }) only [CALL, ↓VC, VP, TT, List.getElem?_toArray, Nat.reduceEqDiff, reduceCtorEq, Nat.reduceAdd, Nat.reduceSub, Nat.reduceLT, Nat.reduceMul, Nat.reducePow, Nat.reduceLeDiff, Int.reduceToNat, Int.reduceLE, Int.reduceLT, Int.reducePow, instL_room, Bool.not_true, Bool.not_false, nat_lt0X, bne_self_eq_false, beq_self_eq_true, Bool.not_true, Bool.not_false, decide_false, List.replicate_zero, List.append_nil, hx, fX, rng_length, rng_end, abR, abU, f4, f7]
  refine kCall_val (e_laws_eqAbsence (B := B) (ps := ps6) (qs := ps3) p (k + a6) (k + b6) (k + a3) (k + b3) hB k6 k3 hF2 (G6.trans G3.symm) (by omega) (by omega) (by omega) (by omega) L6 L3) (by rfl) ((N6, 0) :: (N6 + 1, 0) :: (N3, 0) :: (N3 + 1, 0) :: (rng (N6 + 2) k ++ rng (N3 + 2) k)) (by simp [CALL]) (seg_eqA (bAt_room c6) q6 (bAt_room c3) q3 k6 k3) (by simp [okL, okV, eqBl]) (fun b hb => stL_ok (eqBl_st k6 k3 b hb)) ?_
  simp (config := { maxSteps := 2000000 }) only [CALL, ↓VC, VP, TT, List.getElem?_toArray, Nat.reduceEqDiff, reduceCtorEq, Nat.reduceAdd, Nat.reduceSub, Nat.reduceLT, Nat.reduceMul, Nat.reducePow, Nat.reduceLeDiff, Int.reduceToNat, Int.reduceLE, Int.reduceLT, Int.reducePow, instL_room, Bool.not_true, Bool.not_false, nat_lt0X, bne_self_eq_false, beq_self_eq_true, Bool.not_true, Bool.not_false, decide_false, List.replicate_zero, List.append_nil, hx, fX, rng_length, rng_end, abR, abU, f4, f7]
  refine kA_M (c_laws_markAbsence2 p 1 k a6 (k + b6) B ps6 hB k6 hF2 (by omega) (by omega) L6 S6) (by rfl) ((N6, 0) :: (N6 + 1, 0) :: rng (N6 + 2) k) (by simp [CALL]) (segM_mkA c6 q6 o6 k6) ?nd (by simp [okL, okV]) (fun b hb => stL_ok (stB_cons (stL_room _ _ _) (stB_cons (stL_ptrV (by rw [r6]; simp [partB_length, r6]; omega)) (stB_part rPs_st)) b hb)) (fun _ _ => ⟨by simp [bs_length, markL_len, hB], rfl, keepR_part (by rw [r6, mkD_rlen _ k6]) mk_cells⟩) (fun _ => rfl) fun _ N10 hp10 _ eN10 e10 => ?_
  case nd =>
    obtain ⟨h1, h2⟩ := rng_nodup (b := N6 + 2) k
    rw [List.map_cons, List.map_cons, List.nodup_cons, List.nodup_cons]
    refine ⟨fun hm => ?_, fun hm => ?_, h1⟩
    · rcases List.mem_cons.1 hm with h | h
      · simp at h
      · have := h2 _ h; simp only at this; omega
    · have := h2 _ hm; simp only at this; omega
  obtain ⟨u10, c10, o10⟩ := put_abs (hp := hp9) (g1 := N6) (g2 := N6 + 1) (b := N6 + 2) (B := B) (L := markL 1 (32 * k)) (a := a6) (ps := ps6) (qs := mkD (1 + 32 * k) ps6) (N := N10) (y' := ⟨false, ptrV 2 (rPs ps6)⟩) (S := (N6, 0) :: (N6 + 1, 0) :: rng (N6 + 2) k) (by rw [markL_len, hB]) c6 q6 k6 (by rw [mkD_length, k6]) (by omega)
  rw [← e10] at u10 c10 o10
  have l10 : hp9.length ≤ hp10.length := u10.1
  have b6' := q6.1
  replace fX := u10.get (by omega) fX; replace c3 := u10.get (by omega) c3; replace f4 := u10.get (by omega) f4; replace f7 := u10.get (by omega) f7; replace g0 := g0.upd u10 (by omega); replace b6' := b6'.upd u10 (by omega); replace q3 := q3.upd u10 (by omega) (by intro i hi; omega); replace x1 := x1.uext u10 (by intro h hh; omega)
  have q10 : nAt hp10 (N6 + 1) (N6 + 2) (rPs (mkD (1 + 32 * k) ps6)) := ⟨by rw [← mk_ptr]; exact b6', fun i q hq => bAt_of (o10 i q hq)⟩
  have k10 : (mkD (1 + 32 * k) ps6).length = k := by rw [mkD_length, k6]
  clear e10 u10 q6 o6 c6 b6'
  have hheld := e_laws_heldAbsence (ps := ps6) p 1 (k + a6) (k + b6) k6 hF2 (by omega) (by omega) (by omega) L6 S6
  simp (config := { maxSteps := 2000000 }) only [CALL, ↓VC, VP, TT, List.getElem?_toArray, Nat.reduceEqDiff, reduceCtorEq, Nat.reduceAdd, Nat.reduceSub, Nat.reduceLT, Nat.reduceMul, Nat.reducePow, Nat.reduceLeDiff, Int.reduceToNat, Int.reduceLE, Int.reduceLT, Int.reducePow, instL_room, Bool.not_true, Bool.not_false, nat_lt0X, bne_self_eq_false, beq_self_eq_true, Bool.not_true, Bool.not_false, decide_false, List.replicate_zero, List.append_nil, hx, fX, rng_length, rng_end, abR, abU, f4, f7]
  refine kCall_val hheld (by rfl) ((N6, 0) :: (N6 + 1, 0) :: rng (N6 + 2) k) (by simp [CALL]) (seg_hdA (bAt_room c10) q10 k10) (by simp [okL, okV, hdBl]) (fun b hb => stL_ok (hdBl_st k10 b hb)) ?_
  simp (config := { maxSteps := 2000000 }) only [CALL, ↓VC, VP, TT, List.getElem?_toArray, Nat.reduceEqDiff, reduceCtorEq, Nat.reduceAdd, Nat.reduceSub, Nat.reduceLT, Nat.reduceMul, Nat.reducePow, Nat.reduceLeDiff, Int.reduceToNat, Int.reduceLE, Int.reduceLT, Int.reducePow, instL_room, Bool.not_true, Bool.not_false, nat_lt0X, bne_self_eq_false, beq_self_eq_true, Bool.not_true, Bool.not_false, decide_false, List.replicate_zero, List.append_nil, hx, fX, rng_length, rng_end, abR, abU, f4, f7]
  refine kA_ret (c_laws_toDigestS n c D hD hc hn) (by rfl) [(0, 0)] (by simp [CALL]) (seg_bAt g0 (instL_bs _ _ _) trivial) (by simp [okL, okV]) (by simp [okL_bs]) (by simp) fun _ N11 hp11 _ eN11 e11 => ?_
  simp only [List.map_cons, List.map_nil, instL_bs] at e11
  have x11 := new_ext e11
  have f11 : hp11[N11]? = some ⟨true, bs D⟩ := new_at (R := []) eN11 e11
  have l11 : hp11.length = N11 + 1 := by rw [e11, List.length_append, eN11]; rfl
  replace fX := x11.get fX; replace c3 := x11.get c3; replace f4 := x11.get f4; replace f7 := x11.get f7; replace c10 := x11.get c10; replace g0 := g0.mono x11; replace q3 := q3.mono x11; replace q10 := q10.mono x11; replace x1 := x1.trans x11
  clear e11 x11
  simp (config := { maxSteps := 2000000 }) only [CALL, ↓VC, VP, TT, List.getElem?_toArray, Nat.reduceEqDiff, reduceCtorEq, Nat.reduceAdd, Nat.reduceSub, Nat.reduceLT, Nat.reduceMul, Nat.reducePow, Nat.reduceLeDiff, Int.reduceToNat, Int.reduceLE, Int.reduceLT, Int.reducePow, instL_room, Bool.not_true, Bool.not_false, nat_lt0X, bne_self_eq_false, beq_self_eq_true, Bool.not_true, Bool.not_false, decide_false, List.replicate_zero, List.append_nil, hx, fX, rng_length, rng_end, abR, abU, tk32 hx]
  refine kCall_val (c_laws_toDigest x hx) (by rfl) [] (by simp [CALL, cellsAt, tk, take_room, bs_length, bs_nil]) (by simp [CALL, cellsAt, tk, take_room, bs_length, bs_nil]) (by simp [CALL, cellsAt, tk, take_room, bs_length, bs_nil]) (by simp [okL_bs, okL_room, okL, okV]) ?_
  simp (config := { maxSteps := 2000000 }) only [CALL, ↓VC, VP, TT, List.getElem?_toArray, Nat.reduceEqDiff, reduceCtorEq, Nat.reduceAdd, Nat.reduceSub, Nat.reduceLT, Nat.reduceMul, Nat.reducePow, Nat.reduceLeDiff, Int.reduceToNat, Int.reduceLE, Int.reduceLT, Int.reducePow, instL_room, Bool.not_true, Bool.not_false, nat_lt0X, bne_self_eq_false, beq_self_eq_true, Bool.not_true, Bool.not_false, decide_false, List.replicate_zero, List.append_nil, hx, fX, rng_length, rng_end, abR, abU, fX, tk32 hx]
  refine kA_ret hi (by rfl) [(N11, 0)] (by simp [CALL]) (seg_bAt (bAt_of f11) (instL_bs _ _ _) trivial) (by simp [okL, okV, okL_bs]) (by simp [okL_bs]) (fun r => newA_own) ?_
  rintro ⟨a12, b12, ps12⟩ N12 hp12 G12 eN12 e12
  obtain ⟨k12, L12, S12⟩ := hPs ps12 G12
  rw [inst_newA rfl] at e12
  obtain ⟨c12, q12, o12⟩ := newA_at eN12 e12
  have l12 : hp12.length = N12 + (2 + k) := by rw [e12, List.length_append, newA_len, k12, eN12]
  have x12 := new_ext e12
  replace fX := x12.get fX; replace c3 := x12.get c3; replace f4 := x12.get f4; replace f7 := x12.get f7; replace c10 := x12.get c10; replace g0 := g0.mono x12; replace q3 := q3.mono x12; replace q10 := q10.mono x12; replace x1 := x1.trans x12
  clear e12 x12
  simp only [abR, abU, CALL, ↓VC, VP, TT, List.getElem?_toArray, Nat.reduceEqDiff, reduceCtorEq, Nat.reduceAdd, Nat.reduceSub, Nat.reduceLT, Nat.reduceMul, Nat.reducePow, Nat.reduceLeDiff, Int.reduceToNat, Int.reduceLE, Int.reduceLT, Int.reducePow, nat_lt0X, bne_self_eq_false, beq_self_eq_true, Bool.not_true, Bool.not_false, decide_false, hx, k12, ↓v_last, v_set, fX, f4, ↓(fun y : Blk => show (hp12 ++ [y])[M4]? = _ from (new_ext (R := [y]) rfl).get f4)]
  obtain ⟨M13, eM13⟩ : ∃ M, M = hp12.length := ⟨_, rfl⟩
  obtain ⟨hp13, e13⟩ : ∃ hp', hp' = hp12 ++ [⟨true, [.c (.int .i64 (p)), V.s N12 0 k (k + a12), V.s (N12 + 1) 0 k (k + b12)]⟩] := ⟨_, rfl⟩
  rw [← eM13, ← e13]
  have x13 := new_ext e13
  have f13 : hp13[M13]? = some ⟨true, [.c (.int .i64 (p)), V.s N12 0 k (k + a12), V.s (N12 + 1) 0 k (k + b12)]⟩ := new_at (R := []) eM13 e13
  have l13 : hp13.length = M13 + 1 := by rw [e13, List.length_append, eM13]; rfl
  replace fX := x13.get fX; replace c3 := x13.get c3; replace f4 := x13.get f4; replace f7 := x13.get f7; replace c10 := x13.get c10; replace c12 := x13.get c12; replace g0 := g0.mono x13; replace q3 := q3.mono x13; replace q10 := q10.mono x13; replace q12 := q12.mono x13; replace x1 := x1.trans x13
  clear e13 x13
  refine kCall_val (e_laws_eqAbsence (B := B) (ps := ps12) (qs := ps3) p (k + a12) (k + b12) (k + a3) (k + b3) hB k12 k3 hF2 (G12.trans G3.symm) (by omega) (by omega) (by omega) (by omega) L12 L3) (by rfl) ((N12, 0) :: (N12 + 1, 0) :: (N3, 0) :: (N3 + 1, 0) :: (rng (N12 + 2) k ++ rng (N3 + 2) k)) (by simp [CALL]) (seg_eqA (bAt_room c12) q12 (bAt_room c3) q3 k12 k3) (by simp [okL, okV, eqBl]) (fun b hb => stL_ok (eqBl_st k12 k3 b hb)) ?_
  simp (config := { maxSteps := 2000000 }) only [CALL, ↓VC, VP, TT, List.getElem?_toArray, Nat.reduceEqDiff, reduceCtorEq, Nat.reduceAdd, Nat.reduceSub, Nat.reduceLT, Nat.reduceMul, Nat.reducePow, Nat.reduceLeDiff, Int.reduceToNat, Int.reduceLE, Int.reduceLT, Int.reducePow, instL_room, Bool.not_true, Bool.not_false, nat_lt0X, bne_self_eq_false, beq_self_eq_true, Bool.not_true, Bool.not_false, decide_false, List.replicate_zero, List.append_nil, hx, fX, rng_length, rng_end, abR, abU, f4, f7]
  refine kCall_val hheld (by rfl) ((N6, 0) :: (N6 + 1, 0) :: rng (N6 + 2) k) (by simp [CALL]) (seg_hdA (bAt_room c10) q10 k10) (by simp [okL, okV, hdBl]) (fun b hb => stL_ok (hdBl_st k10 b hb)) ?_
  simp (config := { maxSteps := 2000000 }) only [CALL, ↓VC, VP, TT, List.getElem?_toArray, Nat.reduceEqDiff, reduceCtorEq, Nat.reduceAdd, Nat.reduceSub, Nat.reduceLT, Nat.reduceMul, Nat.reducePow, Nat.reduceLeDiff, Int.reduceToNat, Int.reduceLE, Int.reduceLT, Int.reducePow, instL_room, Bool.not_true, Bool.not_false, nat_lt0X, bne_self_eq_false, beq_self_eq_true, Bool.not_true, Bool.not_false, decide_false, List.replicate_zero, List.append_nil, hx, fX, rng_length, rng_end, abR, abU, f4, f7]
  exact ⟨_, H, List.range 1, rfl, LeS_ext x1 hN0 (Nat.le_refl _) (by simp [leT]) (by simp [stL, stV]) hst⟩
end Go.Proofs.Ytapagcnipdpfiaa

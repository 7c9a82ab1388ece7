import Derived.Test.YtahnjhppkgndiaaGreatDrawR
import Derived.Test.YtahnjhppkgndiaaGreatTk
/- The draw of a list of data. -/
set_option linter.unusedSimpArgs false
set_option linter.unusedVariables false
namespace Go.Proofs.YtahnjhppkgndiaaGreat
open Go Go.Vc
set_option maxRecDepth 10000
set_option maxHeartbeats 4000000
section
variable {l : List UInt8} {c : Nat} {q : Nat × Nat}
theorem d_list (hc : l.length ≤ c) (hm : l.length ≤ 4096) (hq : okS l q) : LC Tryz.prog 87 [.p 0 0] [⟨true, sv 1 l.length c q⟩, ⟨false, bs l⟩] (RetM (fun x : (Nat × Nat) × List (List UInt8 × Nat) × Nat => okS l x.1 ∧ x.2.1.length ≤ 21 ∧ ∀ p ∈ x.2.1, p.1.length ≤ 61) fun x => (.s 2 0 x.2.1.length (x.2.1.length + x.2.2), [⟨true, sv 1 l.length c x.1⟩, ⟨false, bs l⟩], newT 2 x.2.1 x.2.2)) := by
  refine LC_of (X := XX (fun _ => .nil) (fun _ => []) [15, 71, 72, 73, 79, 80, 87, 90, 91, 93, 99, 119, 137, 176, 177, 203, 204, 212, 219] 2) envOK Tryz.func87 (by kernel_rfl) (by kernel_rfl) rfl (Nat.le_of_ble_eq_true (by kernel_rfl)) ?_
  simp only [kFun, Tryz.f87, List.length_nil, List.length_cons, Nat.sub_zero, Nat.reduceSub, Nat.reduceAdd, List.nil_append, List.cons_append, List.replicate_succ, List.replicate_zero]
  simp only [XX, ↓VC, VP, TT, Nat.reduceEqDiff, reduceCtorEq, Nat.reduceAdd, Nat.reduceSub, Nat.reduceLT, Nat.reduceMul, Nat.reducePow, Nat.reduceLeDiff, Int.reduceToNat, Int.reduceLE, Int.reduceLT, Int.reducePow]
  refine kCall_M (d_next hc hm hq 3) (by rfl) [(0, 0), (1, 0)] (by simp [CALL, SCB, SD, nsv]) (by simp [CALL, SCB, SD, nsv]) (by simp) (by simp [CALL, SCB, SD, nsv]) (by simp [okL_bs, okL_room, okL, okV, SD, nsv]) (by intro x _; simp [keepR, bs_length, SD, nsv]) (by simp [CALL, SCB, SD, nsv]) fun x1 h1 => ?_
  simp (config := { maxSteps := 2000000 }) only [CALL, ↓VC, VP, TT, Nat.reduceEqDiff, reduceCtorEq, Nat.reduceAdd, Nat.reduceSub, Nat.reduceLT, Nat.reduceMul, Nat.reducePow, Nat.reduceLeDiff, Int.reduceToNat, Int.reduceLE, Int.reduceLT, Int.reducePow, GOB, GD]
  refine kCall_M (d_next hc hm h1.1 6) (by rfl) [(0, 0), (1, 0)] (by simp [CALL, SCB, SD, nsv]) (by simp [CALL, SCB, SD, nsv]) (by simp) (by simp [CALL, SCB, SD, nsv]) (by simp [okL_bs, okL_room, okL, okV, SD, nsv]) (by intro x _; simp [keepR, bs_length, SD, nsv]) (by simp [CALL, SCB, SD, nsv]) fun x2 h2 => ?_
  simp (config := { maxSteps := 2000000 }) only [CALL, ↓VC, VP, TT, Nat.reduceEqDiff, reduceCtorEq, Nat.reduceAdd, Nat.reduceSub, Nat.reduceLT, Nat.reduceMul, Nat.reducePow, Nat.reduceLeDiff, Int.reduceToNat, Int.reduceLE, Int.reduceLT, Int.reducePow, GOB, GD]
  refine kCall_M (d_next hc hm h2.1 6) (by rfl) [(0, 0), (1, 0)] (by simp [CALL, SCB, SD, nsv]) (by simp [CALL, SCB, SD, nsv]) (by simp) (by simp [CALL, SCB, SD, nsv]) (by simp [okL_bs, okL_room, okL, okV, SD, nsv]) (by intro x _; simp [keepR, bs_length, SD, nsv]) (by simp [CALL, SCB, SD, nsv]) fun x3 h3 => ?_
  simp (config := { maxSteps := 2000000 }) only [CALL, ↓VC, VP, TT, Nat.reduceEqDiff, reduceCtorEq, Nat.reduceAdd, Nat.reduceSub, Nat.reduceLT, Nat.reduceMul, Nat.reducePow, Nat.reduceLeDiff, Int.reduceToNat, Int.reduceLE, Int.reduceLT, Int.reducePow, GOB, GD]
  refine kCall_M (d_pick hc hm h3.1 [x1.2, x2.2, x3.2, 21] 4 (by simp) (by simp)) (by rfl) [(0, 0), (1, 0), (3, 0)] (by simp [CALL, SCB, SD, nsv]) (by simp [CALL, SCB, SD, nsv]) (by simp) (by simp [CALL, SCB, SD, nsv]) (by simp [okL_bs, okL_room, okL, okV, SD, nsv]) (by intro x _; simp [keepR, bs_length, SD, nsv]) (by simp [CALL, SCB, SD, nsv]) fun x4 h4 => ?_
  simp (config := { maxSteps := 2000000 }) only [CALL, ↓VC, VP, TT, Nat.reduceEqDiff, reduceCtorEq, Nat.reduceAdd, Nat.reduceSub, Nat.reduceLT, Nat.reduceMul, Nat.reducePow, Nat.reduceLeDiff, Int.reduceToNat, Int.reduceLE, Int.reduceLT, Int.reducePow, GOB, GD]
  obtain ⟨hq1, hin⟩ := h4
  have hk : 0 ≤ x4.2 ∧ x4.2 ≤ 21 := by
    have a1 := h1.2; have a2 := h2.2; have a3 := h3.2
    unfold inN at a1 a2 a3
    simp only [List.mem_cons, List.not_mem_nil, or_false] at hin
    rcases hin with e | e | e | e <;> rw [e] <;> omega
  obtain ⟨q1, k⟩ := x4
  obtain ⟨k, rfl⟩ : ∃ j : Nat, k = j := ⟨k.toNat, by simp only at hk; omega⟩
  simp only at hq1 hk hin ⊢
  clear h1 h2 h3 hin hq
  refine kLoop_of (fun s : Nat × (Nat × Nat) × List (List UInt8 × Nat) × Nat => ([.p 0 0, .j, .j, .s 2 0 s.2.2.1.length (s.2.2.1.length + s.2.2.2), .c (.int .i64 (s.1)), .j, .j, .j, .j, .j, .j, .j, .j, .j, .j, .j, .j, .j, .j, .j, .j, .j, .j, .j, .j], [⟨true, sv 1 l.length c s.2.1⟩, ⟨false, bs l⟩] ++ newT 2 s.2.2.1 s.2.2.2)) (fun s => s.1) (fun s => okS l s.2.1 ∧ s.1 + s.2.2.1.length ≤ 21 ∧ ∀ p ∈ s.2.2.1, p.1.length ≤ 61) (k, q1, [], 0) ⟨hq1, by simp only [List.length_nil]; omega, by simp⟩ ⟨[0, 1, 2], by simp [-List.reduceReplicate, LES, sv_ren, sv_ok, newT, tPs, ptrV, partB]⟩ ?_
  rintro ⟨k, q, D, r⟩ ⟨hq, hkn, hD⟩
  simp only at hq hkn hD
  have hPn := tPs_length D
  rcases Nat.eq_zero_or_pos k with h0 | h0
  · subst h0
    simp only [↓VC, VP, TT, Nat.reduceEqDiff, reduceCtorEq, Nat.reduceAdd, Nat.reduceSub, Nat.reduceLT, Nat.reduceMul, Nat.reducePow, Nat.reduceLeDiff, Int.reduceToNat, Int.reduceLE, Int.reduceLT, Int.reducePow, (eq_false (by omega) : (((0 : Nat) : Int) > 0) = False), decide_false]
    refine ⟨_, _, List.range (2 + (1 + D.length)), ⟨(q, D, r), ⟨hq, by simp only; omega, hD⟩, rfl, rfl⟩, ?_⟩
    exact LeS_id (ex := []) (by simp [newT_len]; omega) (by omega) (by simp) (by simp [leT]) (by simp [stL, stV] <;> omega) (stB_cons (by simp [sv, stL, stV] <;> omega) (stB_cons (stL_bs _ _) newT_st))
  · have gN1 : ∀ (x y : Blk) R, (partB true (tPs D) ++ (x :: y :: R))[D.length + 1]? = some y := fun x y R => by
      rw [List.getElem?_append_right (by rw [partB_length, hPn]; omega), partB_length, hPn, Nat.add_sub_cancel_left]; rfl
    simp only [↓VC, VP, TT, Nat.reduceEqDiff, reduceCtorEq, Nat.reduceAdd, Nat.reduceSub, Nat.reduceLT, Nat.reduceMul, Nat.reducePow, Nat.reduceLeDiff, Int.reduceToNat, Int.reduceLE, Int.reduceLT, Int.reducePow, newT, List.cons_append, List.nil_append, (eq_true (by omega) : ((k : Int) > 0) = True), decide_true]
    refine kCall_M (z_bytes hc hm hq 20 (by omega)) (by rfl) [(0, 0), (1, 0)] (by simp [CALL, SCB, SD, nsv]) (by simp [CALL, SCB, SD, nsv]) (by simp) (by simp [CALL, SCB, SD, nsv]) (by simp [okL_bs, okL_room, okL, okV, SD, nsv]) (by intro x _; simp [keepR, bs_length, SD, nsv]) (by simp [CALL, SCB, SD, nsv]) fun x5 h5 => ?_
    simp (config := { maxSteps := 2000000 }) only [CALL, ↓VC, VP, TT, Nat.reduceEqDiff, reduceCtorEq, Nat.reduceAdd, Nat.reduceSub, Nat.reduceLT, Nat.reduceMul, Nat.reducePow, Nat.reduceLeDiff, Int.reduceToNat, Int.reduceLE, Int.reduceLT, Int.reducePow, GOB, GD, partB_length, hPn, List.append_assoc, List.cons_append, List.nil_append, gN1, ptrV_length]
    obtain ⟨q5, W, rw⟩ := x5
    obtain ⟨hq5, hW⟩ := h5
    simp only at hq5 hW ⊢
    repeat (first | refine ⟨by omega, ?_⟩ | refine ⟨.inr (by omega), ?_⟩ | refine ⟨.inr trivial, ?_⟩)
    intro r1 c' e1 e2
    have hcells : ∀ X, List.take D.length (ptrV 3 (tPs D) ++ X) ++ (V.s (D.length + 3) 0 W.length (W.length + rw) :: List.replicate r1 V.j) = ptrV 3 (tPs (D ++ [(W, rw)])) ++ List.replicate r1 .j := fun X => by
      rw [List.take_left' (by rw [ptrV_length, hPn]), tPs_app, ptrV_app, hPn, List.append_assoc, Nat.add_comm 3]; rfl
    refine ⟨(k - 1, q5, D ++ [(W, rw)], r1), ⟨hq5, by simp only [List.length_append, List.length_singleton]; omega, fun p hp => ?_⟩, by simp only; omega, List.range 2 ++ ([D.length + 5] ++ List.range' 3 (D ++ [(W, rw)]).length), ?_⟩
    · rcases List.mem_append.1 hp with h | h
      · exact hD p h
      · rw [List.mem_singleton] at h; subst h; exact hW
    rw [wrap_i64 (by omega) (by omega), show (k : Int) - 1 = ((k - 1 : Nat) : Int) by omega]
    rw [hcells]
    have hl : (D ++ [(W, rw)]).length = D.length + 1 := by simp
    refine LeS_t (A := [⟨true, sv 1 l.length c q5⟩, ⟨false, bs l⟩]) (D := D ++ [(W, rw)]) (τ := []) (B := []) (r := r1) ?_ ⟨_, rfl⟩ (by simp) ?_ ?_ (by simp) ?_ (by simp) rfl (by simp) (by simp) ?_ ?_
    · intro b hb
      simp only [List.mem_cons, List.not_mem_nil, or_false] at hb
      rcases hb with rfl | rfl
      · simp [sv, stL, stV]
      · exact stL_bs _ _
    · show (partB true (tPs D) ++ _)[D.length + 2]? = _
      rw [List.getElem?_append_right (by rw [partB_length, hPn]; omega), partB_length, hPn, Nat.add_sub_cancel_left]; rfl
    · intro i p hp
      rw [show 3 + i = i + 1 + 1 + 1 by omega]
      show (partB true (tPs D) ++ _)[i]? = _
      rw [tPs_app] at hp
      rcases Nat.lt_or_ge i D.length with g | g
      · rw [List.getElem?_append_left (by rw [hPn]; exact g)] at hp
        exact partB_get hp
      · have hi : i = D.length := by
          have := (List.getElem?_eq_some_iff.1 hp).1
          rw [List.length_append, hPn] at this
          simp [tPs] at this
          omega
        subst hi
        rw [List.getElem?_append_right (by rw [hPn]; exact Nat.le_refl _), hPn, Nat.sub_self] at hp
        rw [List.getElem?_append_right (by rw [partB_length, hPn]; omega), partB_length, hPn, Nat.sub_self]
        simp only [tPs, List.map_cons, List.map_nil, List.getElem?_cons_zero, Option.some.injEq] at hp
        subst hp
        rfl
    · intro g hg
      simp only [List.mem_cons, List.not_mem_nil, or_false] at hg
      subst hg
      rw [hl]
      exact ⟨by simp, .inr (by omega)⟩
    · simp [leTm, leV, V.ren, List.range_succ]
      omega
    · simp [okL, okV]
      try omega
end
end Go.Proofs.YtahnjhppkgndiaaGreat

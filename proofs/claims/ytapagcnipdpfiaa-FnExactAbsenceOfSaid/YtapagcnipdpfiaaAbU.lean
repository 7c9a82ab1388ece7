import Derived.Test.YtapagcnipdpfiaaAbP
/- AbsenceOf: both functions hand back the same; the law's helpers over absences with room. -/
set_option linter.unusedSimpArgs false
set_option linter.unusedVariables false
namespace Go.Proofs.Ytapagcnipdpfiaa
open Go Go.Vc
set_option maxRecDepth 10000
set_option maxHeartbeats 4000000
/-- nil and an empty slice within a struct. -/
theorem nilA_rel {ρ : Vc.Loc} {N N' : Nat} (hN : N ≤ N') {cs us : List V} {x : V} (h : nilVs cs us) : (∀ z, rel ρ (.t [.a cs, x]) z → rel ρ (.t [.a us, x]) z) ∧ (okV N (.t [.a cs, x]) → okV N' (.t [.a us, x])) := by
  obtain ⟨h1, h2⟩ := nilVs_rel (ρ := ρ) hN cs us h
  refine ⟨fun z hz => ?_, fun hk => ?_⟩
  · unfold rel at hz ⊢
    obtain ⟨l, e, hr⟩ := hz
    refine ⟨l, e, ?_⟩
    unfold relL at hr ⊢
    obtain ⟨y, ys, e2, hy, hys⟩ := hr
    refine ⟨y, ys, e2, ?_, hys⟩
    unfold rel at hy ⊢
    obtain ⟨l2, e3, hr2, hone⟩ := hy
    exact ⟨l2, e3, h1 l2 hr2, hone⟩
  · simp only [okV, okL, and_true] at hk ⊢
    exact ⟨h2 hk.1, okV_mono hN hk.2⟩
theorem LC_nilA {P : Program} {f : FuncId} {args : List V} {ha : List Blk} {α β : Type} {G : α → Prop} {S : α → List V × V × List Blk} {G' : β → Prop} {S' : β → List V × V × List Blk} (h : LC P f args ha (Ret ha G fun x => (.t [.a (S x).1, (S x).2.1], (S x).2.2)))
    (hc : ∀ x, G x → ∃ y, G' y ∧ nilVs (S x).1 (S' y).1 ∧ (S' y).2.1 = (S x).2.1 ∧ ∃ ex, (S' y).2.2 = (S x).2.2 ++ ex ∧ ∀ b ∈ ex, b.cells = []) : LC P f args ha (Ret ha G' fun y => (.t [.a (S' y).1, (S' y).2.1], (S' y).2.2)) := by
  refine ⟨h.1, fun w ρ xs hd hr hk => (h.2 w ρ xs hd hr hk).mono fun e w' hR => ?_⟩
  obtain ⟨v, hp', ρ', x, rfl, ⟨a, hGa, rfl, rfl⟩, hd', hlen, hsame, hrel, hok⟩ := hR
  obtain ⟨y, hGy, hn, hv, ex, he, hz⟩ := hc a hGa
  have hN : (ha ++ (S a).2.2).length ≤ (ha ++ (S' y).2.2).length := by rw [he]; simp
  obtain ⟨n1, n2⟩ := nilA_rel (ρ := ρ') (x := (S a).2.1) hN hn
  refine ⟨_, _, ρ', x, rfl, ⟨y, hGy, rfl, rfl⟩, ?_, by simp, hsame, by dsimp only; rw [hv]; exact n1 x hrel, by dsimp only; rw [hv]; exact n2 hok⟩
  rw [he, ← List.append_assoc]
  exact hd'.empties hz
/-- What both hand back: the place p, the neighbours B, the proofs ps (with room), the code e; room of a digests, of b proofs. -/
def abU (p : Nat) (B : List UInt8) (e : Int) (s : Nat × Nat × List (List UInt8 × Nat)) : List V × V × List Blk :=
  ([.c (.int .i64 (p)), .s 1 0 s.2.2.length (s.2.2.length + s.1), .s 2 0 s.2.2.length (s.2.2.length + s.2.1)], .c (.int .i64 (e)),
    ⟨true, bs B ++ List.replicate (32 * s.1) .j⟩ :: ⟨true, ptrV 3 (rPs s.2.2) ++ List.replicate s.2.1 .j⟩ :: partB true (rPs s.2.2))
def abR (p : Nat) (B : List UInt8) (e : Int) (s : Nat × Nat × List (List UInt8 × Nat)) : V × List Blk := (.t [.a (abU p B e s).1, (abU p B e s).2.1], (abU p B e s).2.2)
/-- The neighbours' digests; their proofs. -/
def nbL (n i k : Nat) (D : List UInt8) : List UInt8 := (if 1 ≤ k then dgA D i else []) ++ if 2 ≤ k then dgA D (i + 1) else []
def pfs (n i k : Nat) (D : List UInt8) : List (List UInt8) := (if 1 ≤ k then [proofL n i D] else []) ++ if 2 ≤ k then [proofL n (i + 1) D] else []
theorem ab_uni {n p k i : Nat} {D : List UInt8} (hD : D.length = 32 * n) : ∀ s : AbSt, s.k = k → ∃ y : Nat × Nat × List (List UInt8 × Nat), y.2.2.map (·.1) = pfs n i k D ∧ nilVs (.c (.int .i64 ((p : Nat))) :: s.cells 1 n i) (abU p (nbL n i k D) 0 y).1 ∧ (abU p (nbL n i k D) 0 y).2.1 = .c (.int .i64 (0)) ∧
    ∃ ex, (abU p (nbL n i k D) 0 y).2.2 = s.blks 1 n i D ++ ex ∧ ∀ b ∈ ex, b.cells = [] := by
  have hl : ∀ j, (proofL n j D).length / 32 = depL n j := fun j => by rw [proofL_len n j D hD]; omega
  intro s hs
  subst hs
  cases s with
  | z => exact ⟨(0, 0, []), by simp [pfs, AbSt.k.eq_1], by simp [abU, AbSt.cells.eq_1, nilVs, nilV], rfl, [⟨true, []⟩, ⟨true, []⟩], by simp [abU, nbL, AbSt.k.eq_1, AbSt.blks.eq_1, rPs, ptrV, partB, bs_nil], by simp⟩
  | one r a b => exact ⟨(a, b, [(proofL n i D, r)]), by simp [pfs, AbSt.k.eq_2], by simp [abU, AbSt.cells.eq_2, nilVs, nilV], rfl, [], by simp [abU, nbL, AbSt.k.eq_2, AbSt.blks.eq_2, rPs, rP, ptrV, partB, hl], by simp⟩
  | two r s a b => exact ⟨(a, b, [(proofL n i D, r), (proofL n (i + 1) D, s)]), by simp [pfs, AbSt.k.eq_3], by simp [abU, AbSt.cells.eq_3, nilVs, nilV], rfl, [], by simp [abU, nbL, AbSt.k.eq_3, AbSt.blks.eq_3, rPs, rP, ptrV, partB, hl, bs_append], by simp⟩
/-- The code where nothing is handed back. -/
def codeA (n : Nat) (D x : List UInt8) : Int := if n ≤ 64 ∧ ascD n D = true then 5 else 2
def abNo (e : Int) (_ : Unit) : List V × V × List Blk := ([.c (.int .i64 (0)), .c (.slice none 0 0), .c (.slice none 0 0)], .c (.int .i64 (e)), [])
theorem c_spec_AbsenceOf_no (n c : Nat) (D x : List UInt8) (hD : D.length = 32 * n) (hx : x.length = 32) (hc : n ≤ c) (hm : n ≤ 1048576) (hE : ¬ (n ≤ 64 ∧ ascD n D = true ∧ fdB n D x = false)) : LC Try.prog 27 [.s 0 0 n c, .a (bs x)] [⟨false, bs D⟩] (Ret [⟨false, bs D⟩] (fun _ : Unit => True) fun u => (.t [.a (abNo (codeA n D x) u).1, (abNo (codeA n D x) u).2.1], (abNo (codeA n D x) u).2.2)) := by
  refine LC_of (X := XX (fun | 4 => .one 0 (.one 1 (.one 2 (.one 3 (.one 4 (.one 5 (.one 6 (.one 7 (.one 8 (.one 9 (.one 10 (.one 11 (.one 12 .nil)))))))))))) | 9 => .one 0 (.one 1 (.one 2 (.one 3 (.one 4 (.one 5 (.one 6 (.one 7 (.one 8 (.one 9 .nil))))))))) | 10 => .one 0 (.one 1 (.one 2 (.one 3 (.one 4 (.one 5 (.one 6 (.one 7 (.one 8 .nil)))))))) | _ => .nil) (fun _ => []) [25, 33, 34, 61, 62, 82, 87, 112, 119, 141] 1) envOK Try.func27 (by kernel_rfl) (by kernel_rfl) rfl (Nat.le_of_ble_eq_true (by kernel_rfl)) ?_
  simp only [kFun, Try.f27, List.length_nil, List.length_cons, Nat.sub_zero, Nat.reduceSub, Nat.reduceAdd, List.nil_append, List.cons_append, List.replicate_succ, List.replicate_zero]
  simp only [XX, ↓VC, VP, TT, List.getElem?_toArray, Nat.reduceEqDiff, reduceCtorEq, Nat.reduceAdd, Nat.reduceSub, Nat.reduceLT, Nat.reduceMul, Nat.reducePow, Nat.reduceLeDiff, Int.reduceToNat, Int.reduceLE, Int.reduceLT, Int.reducePow, hx]
  refine kGd_split rfl (fun h => ?_) (fun h => ?_)
  · simp only [↓VC, VP, TT, List.getElem?_toArray, Nat.reduceEqDiff, reduceCtorEq, Nat.reduceAdd, Nat.reduceSub, Nat.reduceLT, Nat.reduceMul, Nat.reducePow, Nat.reduceLeDiff, Int.reduceToNat, Int.reduceLE, Int.reduceLT, Int.reducePow, h]
    have e : codeA n D x = 2 := if_neg fun h' => by simp only [decide_eq_true_eq] at h; omega
    refine ⟨by simp [TT], ?_⟩
    refine ⟨_, _, [0], ⟨(), trivial, rfl, rfl⟩, ?_⟩
    rw [e]
    simp [-List.reduceReplicate, LES, abNo]
  have hn : n ≤ 64 := by simp only [decide_eq_false_iff_not] at h; omega
  simp only [↓VC, VP, TT, List.getElem?_toArray, Nat.reduceEqDiff, reduceCtorEq, Nat.reduceAdd, Nat.reduceSub, Nat.reduceLT, Nat.reduceMul, Nat.reducePow, Nat.reduceLeDiff, Int.reduceToNat, Int.reduceLE, Int.reduceLT, Int.reducePow, h]
  cases hA : ascD n D with
  | false =>
    refine kCall_val (c_spec_l09Ascending n c D hD hc (by omega)) (by rfl) [(0, 0)] (by simp [CALL, cellsAt, tk, take_room, bs_length, bs_nil]) (by simp [CALL, cellsAt, tk, take_room, bs_length, bs_nil]) (by simp [CALL, cellsAt, tk, take_room, bs_length, bs_nil]) (by simp [okL_bs, okL_room, okL, okV]) ?_
    simp (config := { maxSteps := 2000000 }) only [CALL, ↓VC, VP, TT, List.getElem?_toArray, Nat.reduceEqDiff, reduceCtorEq, Nat.reduceAdd, Nat.reduceSub, Nat.reduceLT, Nat.reduceMul, Nat.reducePow, Nat.reduceLeDiff, Int.reduceToNat, Int.reduceLE, Int.reduceLT, Int.reducePow, instL_room, Bool.not_true, Bool.not_false, hA, Bool.not_false]
    have e : codeA n D x = 2 := if_neg fun h' => by rw [hA] at h'; cases h'.2
    refine ⟨by simp [TT], ?_⟩
    refine ⟨_, _, [0], ⟨(), trivial, rfl, rfl⟩, ?_⟩
    rw [e]
    simp [-List.reduceReplicate, LES, abNo]
  | true =>
    refine kCall_val (c_spec_l09Ascending n c D hD hc (by omega)) (by rfl) [(0, 0)] (by simp [CALL, cellsAt, tk, take_room, bs_length, bs_nil]) (by simp [CALL, cellsAt, tk, take_room, bs_length, bs_nil]) (by simp [CALL, cellsAt, tk, take_room, bs_length, bs_nil]) (by simp [okL_bs, okL_room, okL, okV]) ?_
    simp (config := { maxSteps := 2000000 }) only [CALL, ↓VC, VP, TT, List.getElem?_toArray, Nat.reduceEqDiff, reduceCtorEq, Nat.reduceAdd, Nat.reduceSub, Nat.reduceLT, Nat.reduceMul, Nat.reducePow, Nat.reduceLeDiff, Int.reduceToNat, Int.reduceLE, Int.reduceLT, Int.reducePow, instL_room, Bool.not_true, Bool.not_false, hA, Bool.not_true]
    refine ⟨by omega, ?_⟩
    simp only [tk32 hx]
    refine kCall_val (c_spec_l09Place n c D x hD hx hc (by omega)) (by rfl) [(0, 0)] (by simp [CALL, cellsAt, tk, take_room, bs_length, bs_nil]) (by simp [CALL, cellsAt, tk, take_room, bs_length, bs_nil]) (by simp [CALL, cellsAt, tk, take_room, bs_length, bs_nil]) (by simp [okL_bs, okL_room, okL, okV]) ?_
    simp (config := { maxSteps := 2000000 }) only [CALL, ↓VC, VP, TT, List.getElem?_toArray, Nat.reduceEqDiff, reduceCtorEq, Nat.reduceAdd, Nat.reduceSub, Nat.reduceLT, Nat.reduceMul, Nat.reducePow, Nat.reduceLeDiff, Int.reduceToNat, Int.reduceLE, Int.reduceLT, Int.reducePow, instL_room, Bool.not_true, Bool.not_false, hx]
    refine ⟨by simp [TT], ?_⟩
    have hF : fdB n D x = true := by
      cases hF : fdB n D x with
      | true => rfl
      | false => exact absurd ⟨hn, hA, hF⟩ hE
    unfold fdB at hF
    rw [Bool.and_eq_true, decide_eq_true_eq] at hF
    obtain ⟨hp, he⟩ := hF
    have e : codeA n D x = 5 := if_pos ⟨hn, hA⟩
    generalize plN D x n = p at *
    refine kGd_split rfl (fun h2 => ?_) (fun h2 => ?_)
    · simp only [↓VC, VP, TT, List.getElem?_toArray, Nat.reduceEqDiff, reduceCtorEq, Nat.reduceAdd, Nat.reduceSub, Nat.reduceLT, Nat.reduceMul, Nat.reducePow, Nat.reduceLeDiff, Int.reduceToNat, Int.reduceLE, Int.reduceLT, Int.reducePow, hD, hx, dgA_eq, tk32 hx, h2]
      refine ⟨by omega, by omega, dgA_len hD hp, intCells_bs _, intCells_bs _, fun b hb => ⟨fun h5 => ?_, fun h5 => ?_⟩⟩
      · refine ⟨by simp [TT], ?_⟩
        refine ⟨_, _, [0], ⟨(), trivial, rfl, rfl⟩, ?_⟩
        rw [e]
        simp [-List.reduceReplicate, LES, abNo]
      · rw [hb.2 (by rw [eq_of_beq he])] at h5; cases h5
    · simp only [decide_eq_false_iff_not] at h2; omega
theorem c_impl_AbsenceOf_no (n c : Nat) (D x : List UInt8) (hD : D.length = 32 * n) (hx : x.length = 32) (hc : n ≤ c) (hm : n ≤ 1048576) (hE : ¬ (n ≤ 64 ∧ ascD n D = true ∧ fdB n D x = false)) : LC Try.prog 30 [.s 0 0 n c, .a (bs x)] [⟨false, bs D⟩] (Ret [⟨false, bs D⟩] (fun _ : Unit => True) fun u => (.t [.a (abNo (codeA n D x) u).1, (abNo (codeA n D x) u).2.1], (abNo (codeA n D x) u).2.2)) := by
  refine LC_of (X := XX (fun | 11 => .one 0 (.one 1 (.one 2 (.one 3 (.one 4 (.one 5 (.one 6 (.one 7 (.one 8 (.one 9 .nil))))))))) | 12 => .one 0 (.one 1 (.one 2 (.one 3 (.one 4 (.one 5 (.one 6 (.one 7 (.one 8 (.one 9 .nil))))))))) | _ => .nil) (fun _ => []) [25, 33, 34, 61, 62, 82, 87, 112, 119, 141] 1) envOK Try.func30 (by kernel_rfl) (by kernel_rfl) rfl (Nat.le_of_ble_eq_true (by kernel_rfl)) ?_
  simp only [kFun, Try.f30, List.length_nil, List.length_cons, Nat.sub_zero, Nat.reduceSub, Nat.reduceAdd, List.nil_append, List.cons_append, List.replicate_succ, List.replicate_zero]
  simp only [XX, ↓VC, VP, TT, List.getElem?_toArray, Nat.reduceEqDiff, reduceCtorEq, Nat.reduceAdd, Nat.reduceSub, Nat.reduceLT, Nat.reduceMul, Nat.reducePow, Nat.reduceLeDiff, Int.reduceToNat, Int.reduceLE, Int.reduceLT, Int.reducePow, hx]
  refine kGd_split rfl (fun h => ?_) (fun h => ?_)
  · simp only [↓VC, VP, TT, List.getElem?_toArray, Nat.reduceEqDiff, reduceCtorEq, Nat.reduceAdd, Nat.reduceSub, Nat.reduceLT, Nat.reduceMul, Nat.reducePow, Nat.reduceLeDiff, Int.reduceToNat, Int.reduceLE, Int.reduceLT, Int.reducePow, h]
    have e : codeA n D x = 2 := if_neg fun h' => by simp only [decide_eq_true_eq] at h; omega
    refine ⟨by simp [TT], ?_⟩
    refine ⟨_, _, [0], ⟨(), trivial, rfl, rfl⟩, ?_⟩
    rw [e]
    simp [-List.reduceReplicate, LES, abNo]
  have hn : n ≤ 64 := by simp only [decide_eq_false_iff_not] at h; omega
  simp only [↓VC, VP, TT, List.getElem?_toArray, Nat.reduceEqDiff, reduceCtorEq, Nat.reduceAdd, Nat.reduceSub, Nat.reduceLT, Nat.reduceMul, Nat.reducePow, Nat.reduceLeDiff, Int.reduceToNat, Int.reduceLE, Int.reduceLT, Int.reducePow, h]
  cases hA : ascD n D with
  | false =>
    refine kCall_val (c_impl_ascends n c D hD hc (by omega)) (by rfl) [(0, 0)] (by simp [CALL, cellsAt, tk, take_room, bs_length, bs_nil]) (by simp [CALL, cellsAt, tk, take_room, bs_length, bs_nil]) (by simp [CALL, cellsAt, tk, take_room, bs_length, bs_nil]) (by simp [okL_bs, okL_room, okL, okV]) ?_
    simp (config := { maxSteps := 2000000 }) only [CALL, ↓VC, VP, TT, List.getElem?_toArray, Nat.reduceEqDiff, reduceCtorEq, Nat.reduceAdd, Nat.reduceSub, Nat.reduceLT, Nat.reduceMul, Nat.reducePow, Nat.reduceLeDiff, Int.reduceToNat, Int.reduceLE, Int.reduceLT, Int.reducePow, instL_room, Bool.not_true, Bool.not_false, hA, Bool.not_false]
    have e : codeA n D x = 2 := if_neg fun h' => by rw [hA] at h'; cases h'.2
    refine ⟨by simp [TT], ?_⟩
    refine ⟨_, _, [0], ⟨(), trivial, rfl, rfl⟩, ?_⟩
    rw [e]
    simp [-List.reduceReplicate, LES, abNo]
  | true =>
    refine kCall_val (c_impl_ascends n c D hD hc (by omega)) (by rfl) [(0, 0)] (by simp [CALL, cellsAt, tk, take_room, bs_length, bs_nil]) (by simp [CALL, cellsAt, tk, take_room, bs_length, bs_nil]) (by simp [CALL, cellsAt, tk, take_room, bs_length, bs_nil]) (by simp [okL_bs, okL_room, okL, okV]) ?_
    simp (config := { maxSteps := 2000000 }) only [CALL, ↓VC, VP, TT, List.getElem?_toArray, Nat.reduceEqDiff, reduceCtorEq, Nat.reduceAdd, Nat.reduceSub, Nat.reduceLT, Nat.reduceMul, Nat.reducePow, Nat.reduceLeDiff, Int.reduceToNat, Int.reduceLE, Int.reduceLT, Int.reducePow, instL_room, Bool.not_true, Bool.not_false, hA, Bool.not_true]
    refine ⟨by omega, ?_⟩
    simp only [tk32 hx]
    have hF : fdB n D x = true := by
      cases hF : fdB n D x with
      | true => rfl
      | false => exact absurd ⟨hn, hA, hF⟩ hE
    refine kCall_val (c_search n c D x hD hx hc (by omega) hA) (by rfl) [(0, 0)] (by simp [CALL, cellsAt, tk, take_room, bs_length, bs_nil]) (by simp [CALL, cellsAt, tk, take_room, bs_length, bs_nil]) (by simp [CALL, cellsAt, tk, take_room, bs_length, bs_nil]) (by simp [okL_bs, okL_room, okL, okV]) ?_
    simp (config := { maxSteps := 2000000 }) only [CALL, ↓VC, VP, TT, List.getElem?_toArray, Nat.reduceEqDiff, reduceCtorEq, Nat.reduceAdd, Nat.reduceSub, Nat.reduceLT, Nat.reduceMul, Nat.reducePow, Nat.reduceLeDiff, Int.reduceToNat, Int.reduceLE, Int.reduceLT, Int.reducePow, instL_room, Bool.not_true, Bool.not_false, hx, hF]
    have e : codeA n D x = 5 := if_pos ⟨hn, hA⟩
    refine ⟨by simp [TT], ?_⟩
    refine ⟨_, _, [0], ⟨(), trivial, rfl, rfl⟩, ?_⟩
    rw [e]
    simp [-List.reduceReplicate, LES, abNo]
theorem ab_both (n : Nat) (D x : List UInt8) (hD : D.length = 32 * n) (hx : x.length = 32) (hm : n ≤ 1048576) : ∃ (p : Nat) (B : List UInt8) (F : List (List UInt8)) (e : Int), F.length ≤ 2 ∧ B.length = 32 * F.length ∧ (∀ f ∈ F, f.length = 32 * (f.length / 32) ∧ f.length ≤ 2048) ∧
    LC Try.prog 27 [.s 0 0 n n, .a (bs x)] [⟨false, bs D⟩] (Ret [⟨false, bs D⟩] (fun s : Nat × Nat × List (List UInt8 × Nat) => s.2.2.map (·.1) = F) (abR p B e)) ∧
    LC Try.prog 30 [.s 0 0 n n, .a (bs x)] [⟨false, bs D⟩] (Ret [⟨false, bs D⟩] (fun s : Nat × Nat × List (List UInt8 × Nat) => s.2.2.map (·.1) = F) (abR p B e)) := by
  by_cases hE : n ≤ 64 ∧ ascD n D = true ∧ fdB n D x = false
  · obtain ⟨hn, hA, hF⟩ := hE
    have hpl := plN_le D x n
    have hu : ∀ s : AbSt, s.k = min (plN D x n + 1) n - (plN D x n - 1) → _ := ab_uni (n := n) (p := plN D x n) (i := plN D x n - 1) hD
    have hk1 := k_spec_AbsenceOf n n D x hD hx (Nat.le_refl _) hn hA hF
    have hk2 := k_impl_AbsenceOf n n D x hD hx (Nat.le_refl _) hn hA hF
    obtain ⟨k, hk⟩ : ∃ k, k = min (plN D x n + 1) n - (plN D x n - 1) := ⟨_, rfl⟩
    rw [← hk] at hu hk1 hk2
    have hpf : ∀ j, (proofL n j D).length = 32 * ((proofL n j D).length / 32) ∧ (proofL n j D).length ≤ 2048 := fun j => by
      have h1 := proofL_len n j D hD
      have h2 := depL_le n j
      omega
    refine ⟨plN D x n, nbL n (plN D x n - 1) k D, pfs n (plN D x n - 1) k D, 0, ?_, ?_, ?_, LC_nilA (S := fun s : AbSt => (.c (.int .i64 ((plN D x n : Nat))) :: s.cells 1 n (plN D x n - 1), .c (.int .i64 (0)), s.blks 1 n (plN D x n - 1) D)) hk1 hu, LC_nilA (S := fun s : AbSt => (.c (.int .i64 ((plN D x n : Nat))) :: s.cells 1 n (plN D x n - 1), .c (.int .i64 (0)), s.blks 1 n (plN D x n - 1) D)) hk2 hu⟩
    · unfold pfs; split <;> split <;> simp
    · unfold pfs nbL
      have d1 : 1 ≤ k → (dgA D (plN D x n - 1)).length = 32 := fun h => dgA_len hD (by omega)
      have d2 : 2 ≤ k → (dgA D (plN D x n - 1 + 1)).length = 32 := fun h => dgA_len hD (by omega)
      rcases Nat.lt_or_ge k 1 with h1 | h1
      · rw [if_neg (by omega), if_neg (by omega), if_neg (by omega), if_neg (by omega)]; rfl
      · rcases Nat.lt_or_ge k 2 with h2 | h2
        · rw [if_pos h1, if_neg (by omega), if_pos h1, if_neg (by omega)]; simp [d1 h1]
        · rw [if_pos h1, if_pos h2, if_pos h1, if_pos h2]; simp [d1 h1, d2 h2]
    · intro f hf
      unfold pfs at hf
      rcases List.mem_append.1 hf with hf | hf
      · split at hf
        · simp only [List.mem_singleton] at hf; subst hf; exact hpf _
        · cases hf
      · split at hf
        · simp only [List.mem_singleton] at hf; subst hf; exact hpf _
        · cases hf
  · have hu : ∀ u : Unit, True → ∃ y : Nat × Nat × List (List UInt8 × Nat), y.2.2.map (·.1) = ([] : List (List UInt8)) ∧ nilVs (abNo (codeA n D x) u).1 (abU 0 [] (codeA n D x) y).1 ∧ (abU 0 [] (codeA n D x) y).2.1 = (abNo (codeA n D x) u).2.1 ∧ ∃ ex, (abU 0 [] (codeA n D x) y).2.2 = (abNo (codeA n D x) u).2.2 ++ ex ∧ ∀ b ∈ ex, b.cells = [] :=
      fun _ _ => ⟨(0, 0, []), rfl, by simp [abU, abNo, nilVs, nilV], rfl, [⟨true, []⟩, ⟨true, []⟩], by simp [abU, abNo, rPs, ptrV, partB, bs_nil], by simp⟩
    exact ⟨0, [], [], codeA n D x, by simp, by simp, by simp, LC_nilA (c_spec_AbsenceOf_no n n D x hD hx (Nat.le_refl _) hm hE) hu, LC_nilA (c_impl_AbsenceOf_no n n D x hD hx (Nat.le_refl _) hm hE) hu⟩
end Go.Proofs.Ytapagcnipdpfiaa

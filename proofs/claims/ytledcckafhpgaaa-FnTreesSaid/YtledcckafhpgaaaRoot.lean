import Derived.Test.YtledcckafhpgaaaNodeOf
/- Roots of lists of digests: the program and the reference. -/
set_option linter.unusedSimpArgs false
set_option linter.unusedVariables false
namespace Go.Proofs.Ytledcckafhpgaaa
open Go Go.Vc
set_option maxRecDepth 10000
set_option maxHeartbeats 4000000
def partF (n : Nat) : Nat → Nat → Nat
  | 0, k => k
  | f + 1, k => if 2 * k < n then partF n f (2 * k) else k
def partN (n : Nat) : Nat := partF n n 1
theorem partF_spec (n : Nat) : ∀ f k, 1 ≤ k → k < n → 1 ≤ partF n f k ∧ partF n f k < n
  | 0, k, h, h' => ⟨h, h'⟩
  | f + 1, k, h, h' => by
    rw [partF]; split
    · exact partF_spec n f (2 * k) (by omega) (by omega)
    · exact ⟨h, h'⟩
theorem partN_spec {n : Nat} (h : 2 ≤ n) : 1 ≤ partN n ∧ partN n < n := partF_spec n n 1 (by omega) (by omega)
theorem partF_done {n k : Nat} (h : ¬ 2 * k < n) : ∀ f, partF n f k = k
  | 0 => rfl
  | f + 1 => by rw [partF, if_neg h]
theorem c_spec_l09Half (n : Nat) (hn : n ≤ 1048576) : LC Try.prog 44 [.c (.int .i64 (n))] [] (fun v hp => v = .c (.int .i64 ((partN n : Nat))) ∧ hp = []) := by
  refine LC_of (X := XX (fun _ => .nil) (fun _ => []) [22, 24, 25, 36, 42, 47, 90] 0) envOK Try.func44 (by kernel_rfl) (by kernel_rfl) rfl (Nat.le_of_ble_eq_true (by kernel_rfl)) ?_
  simp only [kFun, Try.f44, List.length_nil, List.length_cons, Nat.sub_zero, Nat.reduceSub, Nat.reduceAdd, List.nil_append, List.cons_append, List.replicate_succ, List.replicate_zero]
  simp only [XX, ↓VC, VP, TT, List.getElem?_toArray, Nat.reduceEqDiff, reduceCtorEq, Nat.reduceAdd, Nat.reduceSub, Nat.reduceLT, Nat.reduceMul, Nat.reducePow, Nat.reduceLeDiff, Int.reduceToNat, Int.reduceLE, Int.reduceLT, Int.reducePow]
  refine kLoop_of (fun s : Nat × Nat => ([.c (.int .i64 (n)), .j, .j, .c (.int .i64 ((s.2 : Nat))), .j, .j, .j, .j, .j, .j, .j], [])) (fun s => s.1) (fun s => 1 ≤ s.2 ∧ s.2 ≤ 1048576 ∧ n ≤ s.2 + s.1 ∧ partF n s.1 s.2 = partN n) (n, 1) ⟨by simp, by simp, by simp, rfl⟩ ⟨[], by simp [-List.reduceReplicate, LES]⟩ ?_
  rintro ⟨f, k⟩ ⟨h1, h2, h3, h4⟩
  simp only at h1 h2 h3 h4
  have w : IntKind.i64.wrap (2 * (k : Int)) = ((2 * k : Nat) : Int) := by rw [wrap_i64 (by omega) (by omega)]; omega
  simp only [↓VC, VP, TT, List.getElem?_toArray, Nat.reduceEqDiff, reduceCtorEq, Nat.reduceAdd, Nat.reduceSub, Nat.reduceLT, Nat.reduceMul, Nat.reducePow, Nat.reduceLeDiff, Int.reduceToNat, Int.reduceLE, Int.reduceLT, Int.reducePow, w]
  refine ⟨fun h => ?_, fun h => ?_⟩
  · obtain ⟨g, rfl⟩ : ∃ g, f = g + 1 := ⟨f - 1, by omega⟩
    rw [partF, if_pos (by omega)] at h4
    exact ⟨(g, 2 * k), ⟨by simp only; omega, by simp only; omega, by simp only; omega, h4⟩, by simp only; omega, [], by simp [-List.reduceReplicate, LES]⟩
  · rw [partF_done (by omega)] at h4
    refine ⟨_, _, [], ⟨rfl, rfl⟩, ?_⟩; simp [-List.reduceReplicate, LES, h4]
theorem c_impl_part (n : Nat) (hn : n ≤ 1048576) : LC Try.prog 43 [.c (.int .i64 (n))] [] (fun v hp => v = .c (.int .i64 ((partN n : Nat))) ∧ hp = []) := by
  refine LC_of (X := XX (fun _ => .nil) (fun _ => []) [22, 24, 25, 36, 42, 47, 90] 0) envOK Try.func43 (by kernel_rfl) (by kernel_rfl) rfl (Nat.le_of_ble_eq_true (by kernel_rfl)) ?_
  simp only [kFun, Try.f43, List.length_nil, List.length_cons, Nat.sub_zero, Nat.reduceSub, Nat.reduceAdd, List.nil_append, List.cons_append, List.replicate_succ, List.replicate_zero]
  simp only [XX, ↓VC, VP, TT, List.getElem?_toArray, Nat.reduceEqDiff, reduceCtorEq, Nat.reduceAdd, Nat.reduceSub, Nat.reduceLT, Nat.reduceMul, Nat.reducePow, Nat.reduceLeDiff, Int.reduceToNat, Int.reduceLE, Int.reduceLT, Int.reducePow]
  refine kLoop_of (fun s : Nat × Nat => ([.c (.int .i64 (n)), .j, .j, .c (.int .i64 ((s.2 : Nat))), .j, .j, .j, .j, .j, .j, .j], [])) (fun s => s.1) (fun s => 1 ≤ s.2 ∧ s.2 ≤ 1048576 ∧ n ≤ s.2 + s.1 ∧ partF n s.1 s.2 = partN n) (n, 1) ⟨by simp, by simp, by simp, rfl⟩ ⟨[], by simp [-List.reduceReplicate, LES]⟩ ?_
  rintro ⟨f, k⟩ ⟨h1, h2, h3, h4⟩
  simp only at h1 h2 h3 h4
  have w : IntKind.i64.wrap (2 * (k : Int)) = ((2 * k : Nat) : Int) := by rw [wrap_i64 (by omega) (by omega)]; omega
  have w' : IntKind.i64.wrap ((k : Int) * 2) = ((2 * k : Nat) : Int) := by rw [wrap_i64 (by omega) (by omega)]; omega
  simp only [↓VC, VP, TT, List.getElem?_toArray, Nat.reduceEqDiff, reduceCtorEq, Nat.reduceAdd, Nat.reduceSub, Nat.reduceLT, Nat.reduceMul, Nat.reducePow, Nat.reduceLeDiff, Int.reduceToNat, Int.reduceLE, Int.reduceLT, Int.reducePow, w, w']
  refine ⟨fun h => ?_, fun h => ?_⟩
  · obtain ⟨g, rfl⟩ : ∃ g, f = g + 1 := ⟨f - 1, by omega⟩
    rw [partF, if_pos (by omega)] at h4
    exact ⟨(g, 2 * k), ⟨by simp only; omega, by simp only; omega, by simp only; omega, h4⟩, by simp only; omega, [], by simp [-List.reduceReplicate, LES]⟩
  · rw [partF_done (by omega)] at h4
    refine ⟨_, _, [], ⟨rfl, rfl⟩, ?_⟩; simp [-List.reduceReplicate, LES, h4]
def rootF : Nat → Nat → List UInt8 → List UInt8
  | 0, _, _ => houseD []
  | f + 1, n, D => if n = 0 then houseD [] else if n = 1 then D.take 32 else nodeL (rootF f (partN n) (D.take (32 * partN n))) (rootF f (n - partN n) (D.drop (32 * partN n)))
theorem rootF_mono : ∀ f g n D, n ≤ f → n ≤ g → rootF f n D = rootF g n D
  | 0, 0, _, _, _, _ => rfl
  | 0, g + 1, n, D, h, _ => by obtain rfl : n = 0 := by omega
                               rfl
  | f + 1, 0, n, D, _, h => by obtain rfl : n = 0 := by omega
                               rfl
  | f + 1, g + 1, n, D, h, h' => by
    rw [rootF, rootF]
    by_cases h0 : n = 0
    · rw [if_pos h0, if_pos h0]
    · rw [if_neg h0, if_neg h0]
      by_cases h1 : n = 1
      · rw [if_pos h1, if_pos h1]
      · rw [if_neg h1, if_neg h1]
        obtain ⟨p1, p2⟩ := partN_spec (n := n) (by omega)
        rw [rootF_mono f g (partN n) _ (by omega) (by omega), rootF_mono f g (n - partN n) _ (by omega) (by omega)]
def rootL (n : Nat) (D : List UInt8) : List UInt8 := rootF n n D
theorem rootL_zero (D : List UInt8) : rootL 0 D = houseD [] := rfl
theorem rootL_one (D : List UInt8) : rootL 1 D = D.take 32 := rfl
theorem rootL_two {n : Nat} (h : 2 ≤ n) (D : List UInt8) : rootL n D = nodeL (rootL (partN n) (D.take (32 * partN n))) (rootL (n - partN n) (D.drop (32 * partN n))) := by
  obtain ⟨p1, p2⟩ := partN_spec h
  obtain ⟨f, rfl⟩ : ∃ f, n = f + 1 := ⟨n - 1, by omega⟩
  unfold rootL
  rw [rootF, if_neg (by omega), if_neg (by omega), rootF_mono f (partN (f + 1)) _ _ (by omega) (by omega), rootF_mono f (f + 1 - partN (f + 1)) _ _ (by omega) (by omega)]
theorem rootL_len {n : Nat} {D : List UInt8} (h : D.length = 32 * n) : (rootL n D).length = 32 := by
  rcases (by omega : n = 0 ∨ n = 1 ∨ 2 ≤ n) with rfl | rfl | h2
  · rw [rootL_zero]; exact houseD_len _
  · rw [rootL_one, List.length_take]; omega
  · rw [rootL_two h2]; exact nodeL_len _ _
theorem splB0 {l v : List UInt8} (h : v.length = l.length) : splB l 0 v = v := by simp [splB, h]
theorem c_spec_l09Root (n : Nat) : ∀ (D : List UInt8) (c : Nat), D.length = 32 * n → n ≤ c → n ≤ 32768 → LC Try.prog 33 [.s 0 0 n c] [⟨false, bs D⟩] (fun v hp => v = .a (bs (rootL n D)) ∧ hp = [⟨false, bs D⟩]) := by
  refine Nat.strongRecOn n ?_
  clear n
  intro n ih D c hD hc hn
  refine LC_of (X := XX (fun | 7 => .one 0 (.one 1 (.one 2 (.one 4 (.one 5 (.one 6 (.one 3 (.one 7 (.one 8 (.one 9 .nil))))))))) | _ => .nil) (fun _ => []) [22, 24, 25, 36, 42, 47, 90] 1) envOK Try.func33 (by kernel_rfl) (by kernel_rfl) rfl (Nat.le_of_ble_eq_true (by kernel_rfl)) ?_
  simp only [kFun, Try.f33, List.length_nil, List.length_cons, Nat.sub_zero, Nat.reduceSub, Nat.reduceAdd, List.nil_append, List.cons_append, List.replicate_succ, List.replicate_zero]
  simp only [XX, ↓VC, VP, TT, List.getElem?_toArray, Nat.reduceEqDiff, reduceCtorEq, Nat.reduceAdd, Nat.reduceSub, Nat.reduceLT, Nat.reduceMul, Nat.reducePow, Nat.reduceLeDiff, Int.reduceToNat, Int.reduceLE, Int.reduceLT, Int.reducePow]
  rcases (by omega : n = 0 ∨ n = 1 ∨ 2 ≤ n) with rfl | rfl | h2
  · refine ⟨fun _ => ?_, fun h => by simp at h⟩
    refine kCall_val (c_spec_l08Digest [] 0 (by simp) (by simp)) (by rfl) [(0, 0)] (by simp [CALL]) (by simp [CALL, cellsAt, bs_nil]) (by simp [CALL]) (by simp [okL_bs]) ?_
    simp only [CALL, ↓VC, VP, TT, List.getElem?_toArray, Nat.reduceEqDiff, reduceCtorEq, Nat.reduceAdd, Nat.reduceSub, Nat.reduceLT, Nat.reduceMul, Nat.reducePow, Nat.reduceLeDiff, Int.reduceToNat, Int.reduceLE, Int.reduceLT, Int.reducePow, houseD_len]
    refine ⟨_, _, [0], ⟨rfl, rfl⟩, ?_⟩
    simp [-List.reduceReplicate, LES, rootL_zero]
  · refine ⟨fun h => by simp at h, fun _ => ⟨fun _ => ?_, fun h => by simp at h⟩⟩
    have hD1 : D.length = 32 := by omega
    have ht : List.take 32 D = D := List.take_of_length_le (by omega)
    simp only [ht, hD1, splB0 (show D.length = (List.replicate 32 (0 : UInt8)).length by rw [hD1, List.length_replicate]), ge_iff_le, Nat.le_refl, true_and]
    repeat (refine ⟨by first | omega | (simp; done) | decide, ?_⟩)
    refine ⟨_, _, [0], ⟨rfl, rfl⟩, ?_⟩
    simp [-List.reduceReplicate, LES, rootL_one, ht]
  · obtain ⟨p1, p2⟩ := partN_spec h2
    refine ⟨fun h => by rw [beq_iff_eq] at h; omega, fun _ => ⟨fun h => by rw [beq_iff_eq] at h; omega, fun _ => ?_⟩⟩
    refine kCall_val (c_spec_l09Half n (by omega)) (by rfl) [] (by simp [CALL]) (by simp [CALL, cellsAt]) (by simp [CALL]) (by simp [okL_bs]) ?_
    simp only [CALL, ↓VC, VP, TT, List.getElem?_toArray, Nat.reduceEqDiff, reduceCtorEq, Nat.reduceAdd, Nat.reduceSub, Nat.reduceLT, Nat.reduceMul, Nat.reducePow, Nat.reduceLeDiff, Int.reduceToNat, Int.reduceLE, Int.reduceLT, Int.reducePow]
    have hl1 : (D.take (32 * partN n)).length = 32 * partN n := by rw [List.length_take]; omega
    have hl2 : (D.drop (32 * partN n)).length = 32 * (n - partN n) := by rw [List.length_drop]; omega
    repeat (refine ⟨by first | omega | (simp; done) | decide, ?_⟩)
    refine kCall_val (ih (partN n) p2 (D.take (32 * partN n)) c hl1 (by omega) (by omega)) (by rfl) [(0, 0)] (by simp [CALL]) (by simp [CALL, cellsAt, bs_take, bs_length, hl1]) (by simp [CALL]) (by simp [okL_bs]) ?_
    simp only [CALL, ↓VC, VP, TT, List.getElem?_toArray, Nat.reduceEqDiff, reduceCtorEq, Nat.reduceAdd, Nat.reduceSub, Nat.reduceLT, Nat.reduceMul, Nat.reducePow, Nat.reduceLeDiff, Int.reduceToNat, Int.reduceLE, Int.reduceLT, Int.reducePow, rootL_len hl1]
    refine kCall_val (ih (n - partN n) (by omega) (D.drop (32 * partN n)) (c - partN n) hl2 (by omega) (by omega)) (by rfl) [(0, partN n * 32)] (by simp [CALL]) (by simp [CALL, cellsAt, bs_drop, bs_length, hl2, Nat.mul_comm, tkn hl2]) (by simp [CALL]) (by simp [okL_bs]) ?_
    simp only [CALL, ↓VC, VP, TT, List.getElem?_toArray, Nat.reduceEqDiff, reduceCtorEq, Nat.reduceAdd, Nat.reduceSub, Nat.reduceLT, Nat.reduceMul, Nat.reducePow, Nat.reduceLeDiff, Int.reduceToNat, Int.reduceLE, Int.reduceLT, Int.reducePow, rootL_len hl2]
    refine kCall_val (c_spec_l09Node (rootL (partN n) (D.take (32 * partN n))) (rootL (n - partN n) (D.drop (32 * partN n))) (rootL_len hl1) (rootL_len hl2)) (by rfl) [] (by simp [CALL]) (by simp [CALL, cellsAt]) (by simp [CALL]) (by simp [okL_bs]) ?_
    simp only [CALL, ↓VC, VP, TT, List.getElem?_toArray, Nat.reduceEqDiff, reduceCtorEq, Nat.reduceAdd, Nat.reduceSub, Nat.reduceLT, Nat.reduceMul, Nat.reducePow, Nat.reduceLeDiff, Int.reduceToNat, Int.reduceLE, Int.reduceLT, Int.reducePow, nodeL_len]
    refine ⟨_, _, [0], ⟨rfl, rfl⟩, ?_⟩
    simp [-List.reduceReplicate, LES, rootL_two h2]
theorem c_Concat0 : LC Try.prog 53 [.c (.slice none 0 0)] [] (Ret [] (fun _ : Option Nat => True) fun o => match o with | some r => (.s 0 0 0 (0 + r), [⟨true, List.replicate r .j⟩]) | none => (.c (.slice none 0 0), [])) := by
  refine LC_of (X := XX (fun _ => .nil) (fun _ => []) [22, 24, 25, 36, 42, 47, 90] 0) envOK Try.func53 (by kernel_rfl) (by kernel_rfl) rfl (Nat.le_of_ble_eq_true (by kernel_rfl)) ?_
  simp only [kFun, Try.f53, List.length_nil, List.length_cons, Nat.sub_zero, Nat.reduceSub, Nat.reduceAdd, List.nil_append, List.cons_append, List.replicate_succ, List.replicate_zero]
  simp only [XX, ↓VC, VP, TT, List.getElem?_toArray, Nat.reduceEqDiff, reduceCtorEq, Nat.reduceAdd, Nat.reduceSub, Nat.reduceLT, Nat.reduceMul, Nat.reducePow, Nat.reduceLeDiff, Int.reduceToNat, Int.reduceLE, Int.reduceLT, Int.reducePow]
  refine kLoop_of (fun _ : Unit => ([.c (.slice none 0 0), .j, .j, .c (.int .i64 (0)), .j, .j, .j, .j, .j, .c (.slice none 0 0), .c (.int .i64 (0)), .c (.int .i64 (0)), .j, .j, .j, .j, .j, .j, .j, .j, .j, .j, .j, .j, .j, .j, .j, .j, .j, .j, .j, .j, .j, .j, .j, .j], [])) (fun _ => 0) (fun _ => True) () trivial ⟨[], by simp [-List.reduceReplicate, LES]⟩ ?_
  intro _ _
  simp only [↓VC, VP, TT, List.getElem?_toArray, Nat.reduceEqDiff, reduceCtorEq, Nat.reduceAdd, Nat.reduceSub, Nat.reduceLT, Nat.reduceMul, Nat.reducePow, Nat.reduceLeDiff, Int.reduceToNat, Int.reduceLE, Int.reduceLT, Int.reducePow, show ((0 : Int) < 0) = False from eq_false (by decide), decide_false]
  refine kCall_Ret (c_Grow 0 (by omega)) (by rfl) [] (by simp [CALL]) (by simp [CALL]) (by simp [CALL]) (by simp) (by rintro (_ | r) <;> simp) fun o ho => ?_
  cases o with
  | some r =>
    simp only [CALL, ↓VC, VP, TT, List.getElem?_toArray, Nat.reduceEqDiff, reduceCtorEq, Nat.reduceAdd, Nat.reduceSub, Nat.reduceLT, Nat.reduceMul, Nat.reducePow, Nat.reduceLeDiff, Int.reduceToNat, Int.reduceLE, Int.reduceLT, Int.reducePow, instL_room, List.replicate_zero, bs_nil, List.nil_append]
    refine kLoop_of (fun _ : Unit => ([.j, .j, .j, .j, .j, .j, .s 0 0 0 (0 + r), .j, .j, .j, .j, .j, .j, .j, .j, .j, .j, .j, .j, .j, .j, .j, .j, .j, .j, .c (.slice none 0 0), .c (.int .i64 (0)), .c (.int .i64 (0)), .j, .j, .j, .j, .j, .j, .j, .j], [⟨true, List.replicate r .j⟩])) (fun _ => 0) (fun _ => True) () trivial ⟨[0], by simp [-List.reduceReplicate, LES]⟩ ?_
    intro _ _
    simp only [↓VC, VP, TT, List.getElem?_toArray, Nat.reduceEqDiff, reduceCtorEq, Nat.reduceAdd, Nat.reduceSub, Nat.reduceLT, Nat.reduceMul, Nat.reducePow, Nat.reduceLeDiff, Int.reduceToNat, Int.reduceLE, Int.reduceLT, Int.reducePow, show ((0 : Int) < 0) = False from eq_false (by decide), decide_false]
    refine ⟨_, _, [0], ⟨some r, trivial, rfl, rfl⟩, ?_⟩
    simp [-List.reduceReplicate, LES]
  | none =>
    simp only [CALL, ↓VC, VP, TT, List.getElem?_toArray, Nat.reduceEqDiff, reduceCtorEq, Nat.reduceAdd, Nat.reduceSub, Nat.reduceLT, Nat.reduceMul, Nat.reducePow, Nat.reduceLeDiff, Int.reduceToNat, Int.reduceLE, Int.reduceLT, Int.reducePow, instL_room]
    refine kLoop_of (fun _ : Unit => ([.j, .j, .j, .j, .j, .j, .c (.slice none 0 0), .j, .j, .j, .j, .j, .j, .j, .j, .j, .j, .j, .j, .j, .j, .j, .j, .j, .j, .c (.slice none 0 0), .c (.int .i64 (0)), .c (.int .i64 (0)), .j, .j, .j, .j, .j, .j, .j, .j], [])) (fun _ => 0) (fun _ => True) () trivial ⟨[], by simp [-List.reduceReplicate, LES]⟩ ?_
    intro _ _
    simp only [↓VC, VP, TT, List.getElem?_toArray, Nat.reduceEqDiff, reduceCtorEq, Nat.reduceAdd, Nat.reduceSub, Nat.reduceLT, Nat.reduceMul, Nat.reducePow, Nat.reduceLeDiff, Int.reduceToNat, Int.reduceLE, Int.reduceLT, Int.reducePow, show ((0 : Int) < 0) = False from eq_false (by decide), decide_false]
    refine ⟨_, _, [], ⟨none, trivial, rfl, rfl⟩, ?_⟩
    simp [-List.reduceReplicate, LES]
theorem c_digest0 (m : Nat) (box bb pl bp A T2 : List UInt8) (n : Nat) (hn : n ≤ 40) (hE : EngL box bb pl bp) (hA : A.length = 16) (hpl : pl16 pl) :
    LC Try.prog 38 [.p 0 0, .c (.slice none 0 0)] [⟨false, engC box bb pl bp 1 2 n⟩, ⟨false, bs (tabL m A)⟩, ⟨false, bs T2⟩] (fun v hp => v = .a (bs (digL m box A pl n (startL 32) (padM []))) ∧ hp = [⟨false, engC box bb pl bp 1 2 n⟩, ⟨false, bs (tabL m A)⟩, ⟨false, bs T2⟩]) := by
  refine LC_of (X := XX (fun _ => .nil) (fun _ => []) [22, 24, 25, 36, 42, 47, 90] 3) envOK Try.func38 (by kernel_rfl) (by kernel_rfl) rfl (Nat.le_of_ble_eq_true (by kernel_rfl)) ?_
  simp only [kFun, Try.f38, List.length_nil, List.length_cons, Nat.sub_zero, Nat.reduceSub, Nat.reduceAdd, List.nil_append, List.cons_append, List.replicate_succ, List.replicate_zero]
  simp only [XX, ↓VC, VP, TT, List.getElem?_toArray, Nat.reduceEqDiff, reduceCtorEq, Nat.reduceAdd, Nat.reduceSub, Nat.reduceLT, Nat.reduceMul, Nat.reducePow, Nat.reduceLeDiff, Int.reduceToNat, Int.reduceLE, Int.reduceLT, Int.reducePow]
  refine kCall_val (c_impl_StartOfDigest) (by rfl) [] (by simp [CALL]) (by simp [CALL, cellsAt]) (by simp [CALL]) (by simp [okL_bs]) ?_
  simp only [CALL, ↓VC, VP, TT, List.getElem?_toArray, Nat.reduceEqDiff, reduceCtorEq, Nat.reduceAdd, Nat.reduceSub, Nat.reduceLT, Nat.reduceMul, Nat.reducePow, Nat.reduceLeDiff, Int.reduceToNat, Int.reduceLE, Int.reduceLT, Int.reducePow, startL_len]
  have h16 := padM_16 []
  have hml := mz_lt []
  have hpl2 := padM_len []
  simp only [List.length_nil] at hpl2
  refine kCall_Ret c_Concat0 (by rfl) [] (by simp [CALL]) (by simp [CALL, cellsAt]) (by simp [CALL]) (by simp [okL_bs, okL, okV]) (by rintro (_ | r) <;> simp) fun o _ => ?_
  cases o with
  | some r =>
    simp only [CALL, ↓VC, VP, TT, List.getElem?_toArray, Nat.reduceEqDiff, reduceCtorEq, Nat.reduceAdd, Nat.reduceSub, Nat.reduceLT, Nat.reduceMul, Nat.reducePow, Nat.reduceLeDiff, Int.reduceToNat, Int.reduceLE, Int.reduceLT, Int.reducePow, instL_room]
    refine kCall_Ret (c_impl_padMessage [] (0 + r) (by simp) (by simp)) (by rfl) [(5, 0)] (by simp [CALL]) (by simp [CALL, cellsAt, bs_length, bs_nil]) (by simp [CALL]) (by simp [okL_bs, okL_eng]) (by simp) fun r1 _ => ?_
    simp only [CALL, ↓VC, VP, TT, List.getElem?_toArray, Nat.reduceEqDiff, reduceCtorEq, Nat.reduceAdd, Nat.reduceSub, Nat.reduceLT, Nat.reduceMul, Nat.reducePow, Nat.reduceLeDiff, Int.reduceToNat, Int.reduceLE, Int.reduceLT, Int.reducePow, instL_room]
    refine kCall_Ret (c_impl_blocksOf (padM []) ((padM []).length + r1) ((padM []).length / 16) (by omega) h16 (by omega)) (by rfl) [(6, 0)] (by simp [CALL]) (by simp [CALL, cellsAt, bs_length]) (by simp [CALL]) (by simp [okL_bs]) (by simp) fun r2 _ => ?_
    simp only [CALL, ↓VC, VP, TT, List.getElem?_toArray, Nat.reduceEqDiff, reduceCtorEq, Nat.reduceAdd, Nat.reduceSub, Nat.reduceLT, Nat.reduceMul, Nat.reducePow, Nat.reduceLeDiff, Int.reduceToNat, Int.reduceLE, Int.reduceLT, Int.reducePow, instL_room]
    generalize hK : (padM []).length / 16 = K at *
    refine kLoop_of (fun i : Nat => ([.p 0 0, .j, .j, .j, .p 3 0, .p 4 0, .j, .j, .j, .j, .j, .j, .s 5 0 K (K + r2), .c (.int .i64 (K)), .c (.int .i64 (i)), .j, .j, .j, .j, .j, .j, .j, .j, .j], [⟨false, engC box bb pl bp 1 2 n⟩, ⟨false, bs (tabL m A)⟩, ⟨false, bs T2⟩, ⟨true, bs (List.replicate 32 0)⟩, ⟨true, bs (digP (absL m box A pl n) (startL 32) (padM []) i)⟩, ⟨true, bs (padM []) ++ List.replicate (16 * r2) .j⟩])) (fun i => K - i) (fun i => i ≤ K) 0 (by omega)
      ⟨[0, 1, 2, 3, 4, 7], by simp [-List.reduceReplicate, LES, renL_eng, okL_eng, digP]⟩ ?_
    intro i hi
    have hdl := digP_len (m := m) (box := box) (A := A) (pl := pl) (n := n) (l := padM []) (startL_len 32) i
    rcases Nat.lt_or_ge i K with h | h
    · have hbl := blk_len (P := padM []) (i := i) (by omega)
      simp only [↓VC, VP, TT, List.getElem?_toArray, Nat.reduceEqDiff, reduceCtorEq, Nat.reduceAdd, Nat.reduceSub, Nat.reduceLT, Nat.reduceMul, Nat.reducePow, Nat.reduceLeDiff, Int.reduceToNat, Int.reduceLE, Int.reduceLT, Int.reducePow, hdl, hbl, (eq_true (by omega) : ((i : Int) < (K : Int)) = True), decide_true, ↓blk_load (P := padM []) (i := i) (by omega)]
      refine kCall_val (c_absorb m box bb pl bp A T2 (digP (absL m box A pl n) (startL 32) (padM []) i) (((padM []).drop (16 * i)).take 16) n hn hE hA hpl hdl hbl) (by rfl) [(0, 0), (1, 0), (2, 0)] (by simp [CALL]) (by simp [CALL, cellsAt, instL_eng]) (by simp [CALL]) (by simp [okL_bs, okL_eng]) ?_
      simp only [CALL, ↓VC, VP, TT, List.getElem?_toArray, Nat.reduceEqDiff, reduceCtorEq, Nat.reduceAdd, Nat.reduceSub, Nat.reduceLT, Nat.reduceMul, Nat.reducePow, Nat.reduceLeDiff, Int.reduceToNat, Int.reduceLE, Int.reduceLT, Int.reducePow, absL_len, hdl]
      refine ⟨i + 1, by omega, by omega, [0, 1, 2, 3, 4, 5], ?_⟩
      rw [wrap_i64 (by omega) (by omega)]
      simp [-List.reduceReplicate, LES, renL_eng, okL_eng, digP]
    · obtain rfl : i = K := by omega
      simp only [↓VC, VP, TT, List.getElem?_toArray, Nat.reduceEqDiff, reduceCtorEq, Nat.reduceAdd, Nat.reduceSub, Nat.reduceLT, Nat.reduceMul, Nat.reducePow, Nat.reduceLeDiff, Int.reduceToNat, Int.reduceLE, Int.reduceLT, Int.reducePow, hdl, (eq_false (by omega) : ((i : Int) < (i : Int)) = False), decide_false]
      refine ⟨_, _, [0, 1, 2], ⟨rfl, rfl⟩, ?_⟩
      simp [-List.reduceReplicate, LES, renL_eng, okL_eng, digL, hK]
  | none =>
    simp only [CALL, ↓VC, VP, TT, List.getElem?_toArray, Nat.reduceEqDiff, reduceCtorEq, Nat.reduceAdd, Nat.reduceSub, Nat.reduceLT, Nat.reduceMul, Nat.reducePow, Nat.reduceLeDiff, Int.reduceToNat, Int.reduceLE, Int.reduceLT, Int.reducePow, instL_room]
    refine kCall_Ret (c_impl_padMessage [] 0 (by simp) (by simp)) (by rfl) [(0, 0)] (by simp [CALL]) (by simp [CALL, cellsAt, bs_length, bs_nil]) (by simp [CALL]) (by simp [okL_bs, okL_eng]) (by simp) fun r1 _ => ?_
    simp only [CALL, ↓VC, VP, TT, List.getElem?_toArray, Nat.reduceEqDiff, reduceCtorEq, Nat.reduceAdd, Nat.reduceSub, Nat.reduceLT, Nat.reduceMul, Nat.reducePow, Nat.reduceLeDiff, Int.reduceToNat, Int.reduceLE, Int.reduceLT, Int.reducePow, instL_room]
    refine kCall_Ret (c_impl_blocksOf (padM []) ((padM []).length + r1) ((padM []).length / 16) (by omega) h16 (by omega)) (by rfl) [(5, 0)] (by simp [CALL]) (by simp [CALL, cellsAt, bs_length]) (by simp [CALL]) (by simp [okL_bs]) (by simp) fun r2 _ => ?_
    simp only [CALL, ↓VC, VP, TT, List.getElem?_toArray, Nat.reduceEqDiff, reduceCtorEq, Nat.reduceAdd, Nat.reduceSub, Nat.reduceLT, Nat.reduceMul, Nat.reducePow, Nat.reduceLeDiff, Int.reduceToNat, Int.reduceLE, Int.reduceLT, Int.reducePow, instL_room]
    generalize hK : (padM []).length / 16 = K at *
    refine kLoop_of (fun i : Nat => ([.p 0 0, .j, .j, .j, .p 3 0, .p 4 0, .j, .j, .j, .j, .j, .j, .s 5 0 K (K + r2), .c (.int .i64 (K)), .c (.int .i64 (i)), .j, .j, .j, .j, .j, .j, .j, .j, .j], [⟨false, engC box bb pl bp 1 2 n⟩, ⟨false, bs (tabL m A)⟩, ⟨false, bs T2⟩, ⟨true, bs (List.replicate 32 0)⟩, ⟨true, bs (digP (absL m box A pl n) (startL 32) (padM []) i)⟩, ⟨true, bs (padM []) ++ List.replicate (16 * r2) .j⟩])) (fun i => K - i) (fun i => i ≤ K) 0 (by omega)
      ⟨[0, 1, 2, 3, 4, 6], by simp [-List.reduceReplicate, LES, renL_eng, okL_eng, digP]⟩ ?_
    intro i hi
    have hdl := digP_len (m := m) (box := box) (A := A) (pl := pl) (n := n) (l := padM []) (startL_len 32) i
    rcases Nat.lt_or_ge i K with h | h
    · have hbl := blk_len (P := padM []) (i := i) (by omega)
      simp only [↓VC, VP, TT, List.getElem?_toArray, Nat.reduceEqDiff, reduceCtorEq, Nat.reduceAdd, Nat.reduceSub, Nat.reduceLT, Nat.reduceMul, Nat.reducePow, Nat.reduceLeDiff, Int.reduceToNat, Int.reduceLE, Int.reduceLT, Int.reducePow, hdl, hbl, (eq_true (by omega) : ((i : Int) < (K : Int)) = True), decide_true, ↓blk_load (P := padM []) (i := i) (by omega)]
      refine kCall_val (c_absorb m box bb pl bp A T2 (digP (absL m box A pl n) (startL 32) (padM []) i) (((padM []).drop (16 * i)).take 16) n hn hE hA hpl hdl hbl) (by rfl) [(0, 0), (1, 0), (2, 0)] (by simp [CALL]) (by simp [CALL, cellsAt, instL_eng]) (by simp [CALL]) (by simp [okL_bs, okL_eng]) ?_
      simp only [CALL, ↓VC, VP, TT, List.getElem?_toArray, Nat.reduceEqDiff, reduceCtorEq, Nat.reduceAdd, Nat.reduceSub, Nat.reduceLT, Nat.reduceMul, Nat.reducePow, Nat.reduceLeDiff, Int.reduceToNat, Int.reduceLE, Int.reduceLT, Int.reducePow, absL_len, hdl]
      refine ⟨i + 1, by omega, by omega, [0, 1, 2, 3, 4, 5], ?_⟩
      rw [wrap_i64 (by omega) (by omega)]
      simp [-List.reduceReplicate, LES, renL_eng, okL_eng, digP]
    · obtain rfl : i = K := by omega
      simp only [↓VC, VP, TT, List.getElem?_toArray, Nat.reduceEqDiff, reduceCtorEq, Nat.reduceAdd, Nat.reduceSub, Nat.reduceLT, Nat.reduceMul, Nat.reducePow, Nat.reduceLeDiff, Int.reduceToNat, Int.reduceLE, Int.reduceLT, Int.reducePow, hdl, (eq_false (by omega) : ((i : Int) < (i : Int)) = False), decide_false]
      refine ⟨_, _, [0, 1, 2], ⟨rfl, rfl⟩, ?_⟩
      simp [-List.reduceReplicate, LES, renL_eng, okL_eng, digL, hK]
theorem c_hasher_root (n : Nat) : ∀ (D : List UInt8) (c : Nat), D.length = 32 * n → n ≤ c → n ≤ 32768 → LC Try.prog 32 [.a [.p 0 0], .s 3 0 n c] (hB false ++ [⟨false, bs D⟩]) (fun v hp => v = .a (bs (rootL n D)) ∧ hp = hB false ++ [⟨false, bs D⟩]) := by
  refine Nat.strongRecOn n ?_
  clear n
  intro n ih D c hD hc hn
  unfold hB
  refine LC_of (X := XX (fun | 7 => .one 0 (.one 1 (.one 2 (.one 3 (.one 4 (.one 6 (.one 7 (.one 8 (.one 9 (.one 5 (.one 10 (.one 11 (.one 12 .nil)))))))))))) | _ => .nil) (fun _ => []) [22, 24, 25, 36, 42, 47, 90] 4) envOK Try.func32 (by kernel_rfl) (by kernel_rfl) rfl (Nat.le_of_ble_eq_true (by kernel_rfl)) ?_
  simp only [kFun, Try.f32, List.length_nil, List.length_cons, Nat.sub_zero, Nat.reduceSub, Nat.reduceAdd, List.nil_append, List.cons_append, List.replicate_succ, List.replicate_zero]
  simp only [XX, ↓VC, VP, TT, List.getElem?_toArray, Nat.reduceEqDiff, reduceCtorEq, Nat.reduceAdd, Nat.reduceSub, Nat.reduceLT, Nat.reduceMul, Nat.reducePow, Nat.reduceLeDiff, Int.reduceToNat, Int.reduceLE, Int.reduceLT, Int.reducePow]
  rcases (by omega : n = 0 ∨ n = 1 ∨ 2 ≤ n) with rfl | rfl | h2
  · refine ⟨fun _ => ?_, fun h => by simp at h⟩
    refine kCall_val (c_digest0 285 houseB (invL 256 houseB 256) houseP (invL 16 houseP 16) houseA hT2 8 (by omega) houseE houseA_len houseP_pl) (by rfl) [(0, 0), (1, 0), (2, 0)] (by simp [CALL]) (by simp [CALL, cellsAt, instL_eng, hEng, hT1, hT2, tk, hEng_take]) (by simp [CALL]) (by simp [okL_bs, okL_eng, okL, okV]) ?_
    rw [show digL 285 houseB houseA houseP 8 (startL 32) (padM []) = houseD [] from rfl]
    simp only [CALL, ↓VC, VP, TT, List.getElem?_toArray, Nat.reduceEqDiff, reduceCtorEq, Nat.reduceAdd, Nat.reduceSub, Nat.reduceLT, Nat.reduceMul, Nat.reducePow, Nat.reduceLeDiff, Int.reduceToNat, Int.reduceLE, Int.reduceLT, Int.reducePow, houseD_len]
    refine ⟨_, _, [0, 1, 2, 3], ⟨rfl, rfl⟩, ?_⟩
    simp [-List.reduceReplicate, LES, renL_hEng, okL_hEng, rootL_zero]
  · refine ⟨fun h => by simp at h, fun _ => ⟨fun _ => ?_, fun h => by simp at h⟩⟩
    have hD1 : D.length = 32 := by omega
    have ht : List.take 32 D = D := List.take_of_length_le (by omega)
    simp only [ht, hD1, splB0 (show D.length = (List.replicate 32 (0 : UInt8)).length by rw [hD1, List.length_replicate]), ge_iff_le, Nat.le_refl, true_and]
    repeat (refine ⟨by first | omega | (simp; done) | decide, ?_⟩)
    refine ⟨_, _, [0, 1, 2, 3], ⟨rfl, rfl⟩, ?_⟩
    simp [-List.reduceReplicate, LES, rootL_one, ht, renL_hEng, okL_hEng]
  · obtain ⟨p1, p2⟩ := partN_spec h2
    refine ⟨fun h => by rw [beq_iff_eq] at h; omega, fun _ => ⟨fun h => by rw [beq_iff_eq] at h; omega, fun _ => ?_⟩⟩
    refine kCall_val (c_impl_part n (by omega)) (by rfl) [] (by simp [CALL]) (by simp [CALL, cellsAt]) (by simp [CALL]) (by simp [okL_bs]) ?_
    simp only [CALL, ↓VC, VP, TT, List.getElem?_toArray, Nat.reduceEqDiff, reduceCtorEq, Nat.reduceAdd, Nat.reduceSub, Nat.reduceLT, Nat.reduceMul, Nat.reducePow, Nat.reduceLeDiff, Int.reduceToNat, Int.reduceLE, Int.reduceLT, Int.reducePow]
    have hl1 : (D.take (32 * partN n)).length = 32 * partN n := by rw [List.length_take]; omega
    have hl2 : (D.drop (32 * partN n)).length = 32 * (n - partN n) := by rw [List.length_drop]; omega
    repeat (refine ⟨by first | omega | (simp; done) | decide, ?_⟩)
    refine kCall_val (ih (partN n) p2 (D.take (32 * partN n)) c hl1 (by omega) (by omega)) (by rfl) [(0, 0), (1, 0), (2, 0), (3, 0)] (by simp [CALL]) (by simp [CALL, hB, cellsAt, bs_take, bs_length, hl1, instL_hEng, hEng_take, tk]) (by simp [CALL, hB]) (by simp [hB, okL_bs, okL_hEng]) ?_
    simp only [CALL, ↓VC, VP, TT, List.getElem?_toArray, Nat.reduceEqDiff, reduceCtorEq, Nat.reduceAdd, Nat.reduceSub, Nat.reduceLT, Nat.reduceMul, Nat.reducePow, Nat.reduceLeDiff, Int.reduceToNat, Int.reduceLE, Int.reduceLT, Int.reducePow, rootL_len hl1]
    refine kCall_val (ih (n - partN n) (by omega) (D.drop (32 * partN n)) (c - partN n) hl2 (by omega) (by omega)) (by rfl) [(0, 0), (1, 0), (2, 0), (3, partN n * 32)] (by simp [CALL]) (by simp [CALL, hB, cellsAt, bs_drop, bs_length, hl2, Nat.mul_comm, tkn hl2, instL_hEng, hEng_take, tk]) (by simp [CALL, hB]) (by simp [hB, okL_bs, okL_hEng]) ?_
    simp only [CALL, ↓VC, VP, TT, List.getElem?_toArray, Nat.reduceEqDiff, reduceCtorEq, Nat.reduceAdd, Nat.reduceSub, Nat.reduceLT, Nat.reduceMul, Nat.reducePow, Nat.reduceLeDiff, Int.reduceToNat, Int.reduceLE, Int.reduceLT, Int.reducePow, rootL_len hl2]
    refine kCall_val (c_hasher_node (rootL (partN n) (D.take (32 * partN n))) (rootL (n - partN n) (D.drop (32 * partN n))) (rootL_len hl1) (rootL_len hl2)) (by rfl) [(0, 0), (1, 0), (2, 0)] (by simp [CALL]) (by simp [CALL, hB, cellsAt, instL_hEng, hEng_take, tk]) (by simp [CALL, hB]) (by simp [hB, okL_bs, okL_hEng]) ?_
    simp only [CALL, ↓VC, VP, TT, List.getElem?_toArray, Nat.reduceEqDiff, reduceCtorEq, Nat.reduceAdd, Nat.reduceSub, Nat.reduceLT, Nat.reduceMul, Nat.reducePow, Nat.reduceLeDiff, Int.reduceToNat, Int.reduceLE, Int.reduceLT, Int.reducePow, nodeL_len]
    refine ⟨_, _, [0, 1, 2, 3], ⟨rfl, rfl⟩, ?_⟩
    simp [-List.reduceReplicate, LES, rootL_two h2, renL_hEng, okL_hEng]
end Go.Proofs.Ytledcckafhpgaaa

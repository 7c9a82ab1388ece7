import Derived.Test.YtledcckafhpgaaaShows
/- IsProof: the program and the reference. -/
set_option linter.unusedSimpArgs false
set_option linter.unusedVariables false
namespace Go.Proofs.Ytledcckafhpgaaa
open Go Go.Vc
set_option maxRecDepth 10000
set_option maxHeartbeats 4000000
def isProofB (r l : List UInt8) (i n : Int) (m : Nat) (P : List UInt8) : Bool :=
  decide (1 ≤ n ∧ n ≤ 64) && (decide (0 ≤ i ∧ i ≤ n - 1) && ((showL l m i.toNat n.toNat P).2 && ((showL l m i.toNat n.toNat P).1 == r)))
theorem isB {b : Bool} {x y : List UInt8} (h : b = true ↔ bs x = bs y) : b = (x == y) := by
  rw [bs_inj] at h
  cases b with
  | true => rw [eq_comm, beq_iff_eq]; exact h.1 rfl
  | false => rw [eq_comm, beq_eq_false_iff_ne]; intro e; exact absurd (h.2 e) (by simp)
theorem ip_range {r l : List UInt8} {i n : Int} {m : Nat} {P : List UInt8} (h : ¬ (0 ≤ i ∧ i ≤ n - 1)) : isProofB r l i n m P = false := by
  unfold isProofB; rw [decide_eq_false h, Bool.false_and, Bool.and_false]
theorem ip_in {r l : List UInt8} {i n m : Nat} {P : List UInt8} (h : 1 ≤ n) (h' : n ≤ 64) (hi : i < n) : isProofB r l (i : Int) (n : Int) m P = ((showL l m i n P).2 && ((showL l m i n P).1 == r)) := by
  unfold isProofB
  rw [decide_eq_true (by omega), decide_eq_true (by omega), Int.toNat_natCast, Int.toNat_natCast, Bool.true_and, Bool.true_and]
theorem ip_long {r l : List UInt8} {i n m : Nat} {P : List UInt8} (h : 1 ≤ n) (h' : n ≤ 64) (hi : i < n) (hm : 10 < m) : isProofB r l (i : Int) (n : Int) m P = false := by
  rw [ip_in h h' hi]
  cases hs : (showL l m i n P).2 with
  | false => rfl
  | true => have := showL_deep m i n P 6 h (by omega) hs; omega
theorem c_spec_l09Shows (r l : List UInt8) (hr : r.length = 32) (hl : l.length = 32) (i n : Int) (m c : Nat) (P : List UInt8) (hP : P.length = 32 * m) (hc : m ≤ c) (hm : m ≤ 1048576) : LC Try.prog 35 [.a (bs r), .a (bs l), .c (.int .i64 (i)), .c (.int .i64 (n)), .s 0 0 m c] [⟨false, bs P⟩] (fun v hp => v = .c (.bool (isProofB r l i n m P)) ∧ hp = [⟨false, bs P⟩]) := by
  refine LC_of (X := XX (fun _ => .nil) (fun _ => []) [22, 24, 25, 36, 42, 47, 90] 1) envOK Try.func35 (by kernel_rfl) (by kernel_rfl) rfl (Nat.le_of_ble_eq_true (by kernel_rfl)) ?_
  simp only [kFun, Try.f35, List.length_nil, List.length_cons, Nat.sub_zero, Nat.reduceSub, Nat.reduceAdd, List.nil_append, List.cons_append, List.replicate_succ, List.replicate_zero]
  simp only [XX, ↓VC, VP, TT, List.getElem?_toArray, Nat.reduceEqDiff, reduceCtorEq, Nat.reduceAdd, Nat.reduceSub, Nat.reduceLT, Nat.reduceMul, Nat.reducePow, Nat.reduceLeDiff, Int.reduceToNat, Int.reduceLE, Int.reduceLT, Int.reducePow, hr, hl]
  refine kCall_val (c_spec_l01In n 1 64) (by rfl) [] (by simp [CALL]) (by simp [CALL, cellsAt]) (by simp [CALL]) (by simp [okL_bs]) ?_
  simp only [CALL, ↓VC, VP, TT, List.getElem?_toArray, Nat.reduceEqDiff, reduceCtorEq, Nat.reduceAdd, Nat.reduceSub, Nat.reduceLT, Nat.reduceMul, Nat.reducePow, Nat.reduceLeDiff, Int.reduceToNat, Int.reduceLE, Int.reduceLT, Int.reducePow]
  refine kGd_split rfl (fun h1 => ?_) (fun h1 => ?_) <;> simp only [↓VC, VP, TT, List.getElem?_toArray, Nat.reduceEqDiff, reduceCtorEq, Nat.reduceAdd, Nat.reduceSub, Nat.reduceLT, Nat.reduceMul, Nat.reducePow, Nat.reduceLeDiff, Int.reduceToNat, Int.reduceLE, Int.reduceLT, Int.reducePow, h1]
  · have h1' : ¬ (1 ≤ n ∧ n ≤ 64) := by simp only [Bool.not_eq_true', decide_eq_false_iff_not] at h1; exact h1
    have e : isProofB r l i n m P = false := by unfold isProofB; rw [decide_eq_false h1', Bool.false_and]
    refine ⟨_, _, [0], ⟨rfl, rfl⟩, ?_⟩
    rw [e]; simp [-List.reduceReplicate, LES]
  · have h1' : 1 ≤ n ∧ n ≤ 64 := by simpa using h1
    rw [wrap_i64 (by omega) (by omega)]
    refine kCall_val (c_spec_l01In i 0 (n - 1)) (by rfl) [] (by simp [CALL]) (by simp [CALL, cellsAt]) (by simp [CALL]) (by simp [okL_bs]) ?_
    simp only [CALL, ↓VC, VP, TT, List.getElem?_toArray, Nat.reduceEqDiff, reduceCtorEq, Nat.reduceAdd, Nat.reduceSub, Nat.reduceLT, Nat.reduceMul, Nat.reducePow, Nat.reduceLeDiff, Int.reduceToNat, Int.reduceLE, Int.reduceLT, Int.reducePow]
    refine kGd_split rfl (fun h2 => ?_) (fun h2 => ?_) <;> simp only [↓VC, VP, TT, List.getElem?_toArray, Nat.reduceEqDiff, reduceCtorEq, Nat.reduceAdd, Nat.reduceSub, Nat.reduceLT, Nat.reduceMul, Nat.reducePow, Nat.reduceLeDiff, Int.reduceToNat, Int.reduceLE, Int.reduceLT, Int.reducePow, h2]
    · simp only [Bool.not_eq_true', decide_eq_false_iff_not] at h2
      refine ⟨_, _, [0], ⟨rfl, rfl⟩, ?_⟩
      rw [ip_range h2]; simp [-List.reduceReplicate, LES]
    · simp only [Bool.not_eq_false', decide_eq_true_eq] at h2
      obtain ⟨n, rfl⟩ : ∃ k : Nat, n = k := ⟨n.toNat, by omega⟩
      obtain ⟨i, rfl⟩ : ∃ k : Nat, i = k := ⟨i.toNat, by omega⟩
      have hin : i < n := by omega
      have hn1 : 1 ≤ n := by omega
      have hn2 : n ≤ 64 := by omega
      have hs := showL_len hl m i n P
      refine ⟨fun h3 => ?_, fun h3 => ?_⟩
      · refine ⟨_, _, [0], ⟨rfl, rfl⟩, ?_⟩
        rw [ip_long hn1 hn2 hin (by omega)]; simp [-List.reduceReplicate, LES]
      · repeat (refine ⟨by first | omega | (simp; done) | decide, ?_⟩)
        simp only [hl, tk32 hl, hr, tk32 hr]
        refine kCall_val (c_spec_l09Shown l hl m i n P c hP hc hm hn1 (by omega) hin) (by rfl) [(0, 0)] (by simp [CALL]) (by simp [CALL, cellsAt, tk]) (by simp [CALL]) (by simp [okL_bs]) ?_
        simp only [CALL, ↓VC, VP, TT, List.getElem?_toArray, Nat.reduceEqDiff, reduceCtorEq, Nat.reduceAdd, Nat.reduceSub, Nat.reduceLT, Nat.reduceMul, Nat.reducePow, Nat.reduceLeDiff, Int.reduceToNat, Int.reduceLE, Int.reduceLT, Int.reducePow, hs, hr]
        refine kGd_split rfl (fun h4 => ?_) (fun h4 => ?_) <;> simp only [↓VC, VP, TT, List.getElem?_toArray, Nat.reduceEqDiff, reduceCtorEq, Nat.reduceAdd, Nat.reduceSub, Nat.reduceLT, Nat.reduceMul, Nat.reducePow, Nat.reduceLeDiff, Int.reduceToNat, Int.reduceLE, Int.reduceLT, Int.reducePow, h4, hs, hr, tk32 hs, tk32 hr, ge_iff_le, Nat.le_refl, true_and]
        · refine ⟨intCells_bs _, intCells_bs _, fun b hb => ⟨_, _, [0], ⟨rfl, rfl⟩, ?_⟩⟩
          rw [ip_in hn1 hn2 hin, h4, Bool.true_and, isB hb]; simp [-List.reduceReplicate, LES]
        · refine ⟨_, _, [0], ⟨rfl, rfl⟩, ?_⟩
          rw [ip_in hn1 hn2 hin, h4, Bool.false_and]; simp [-List.reduceReplicate, LES]
theorem c_impl_IsProof (r l : List UInt8) (hr : r.length = 32) (hl : l.length = 32) (i n : Int) (m c : Nat) (P : List UInt8) (hP : P.length = 32 * m) (hc : m ≤ c) (hm : m ≤ 1048576) : LC Try.prog 13 [.a (bs r), .a (bs l), .c (.int .i64 (i)), .c (.int .i64 (n)), .s 0 0 m c] [⟨false, bs P⟩] (fun v hp => v = .c (.bool (isProofB r l i n m P)) ∧ hp = [⟨false, bs P⟩]) := by
  refine LC_of (X := XX (fun | 3 => .one 1 (.one 2 (.one 3 (.one 4 (.one 0 (.one 5 (.one 6 (.one 7 (.one 8 (.one 9 (.one 10 (.one 11 .nil))))))))))) | _ => .nil) (fun | 3 => [(9, 11)] | _ => []) [22, 24, 25, 36, 42, 47, 90] 1) envOK Try.func13 (by kernel_rfl) (by kernel_rfl) rfl (Nat.le_of_ble_eq_true (by kernel_rfl)) ?_
  simp only [kFun, Try.f13, List.length_nil, List.length_cons, Nat.sub_zero, Nat.reduceSub, Nat.reduceAdd, List.nil_append, List.cons_append, List.replicate_succ, List.replicate_zero]
  simp only [XX, ↓VC, VP, TT, List.getElem?_toArray, Nat.reduceEqDiff, reduceCtorEq, Nat.reduceAdd, Nat.reduceSub, Nat.reduceLT, Nat.reduceMul, Nat.reducePow, Nat.reduceLeDiff, Int.reduceToNat, Int.reduceLE, Int.reduceLT, Int.reducePow, hr, hl]
  refine kCall_val (c_impl_inRange n 1 64) (by rfl) [] (by simp [CALL]) (by simp [CALL, cellsAt]) (by simp [CALL]) (by simp [okL_bs]) ?_
  simp only [CALL, ↓VC, VP, TT, List.getElem?_toArray, Nat.reduceEqDiff, reduceCtorEq, Nat.reduceAdd, Nat.reduceSub, Nat.reduceLT, Nat.reduceMul, Nat.reducePow, Nat.reduceLeDiff, Int.reduceToNat, Int.reduceLE, Int.reduceLT, Int.reducePow]
  refine kGd_split rfl (fun h1 => ?_) (fun h1 => ?_) <;> simp only [↓VC, VP, TT, List.getElem?_toArray, Nat.reduceEqDiff, reduceCtorEq, Nat.reduceAdd, Nat.reduceSub, Nat.reduceLT, Nat.reduceMul, Nat.reducePow, Nat.reduceLeDiff, Int.reduceToNat, Int.reduceLE, Int.reduceLT, Int.reducePow, h1]
  · have h1' : ¬ (1 ≤ n ∧ n ≤ 64) := by simp only [Bool.not_eq_true', decide_eq_false_iff_not] at h1; exact h1
    have e : isProofB r l i n m P = false := by unfold isProofB; rw [decide_eq_false h1', Bool.false_and]
    refine ⟨_, _, [0], ⟨rfl, rfl⟩, ?_⟩
    rw [e]; simp [-List.reduceReplicate, LES]
  · have h1' : 1 ≤ n ∧ n ≤ 64 := by simpa using h1
    rw [wrap_i64 (by omega) (by omega)]
    refine kCall_val (c_impl_inRange i 0 (n - 1)) (by rfl) [] (by simp [CALL]) (by simp [CALL, cellsAt]) (by simp [CALL]) (by simp [okL_bs]) ?_
    simp only [CALL, ↓VC, VP, TT, List.getElem?_toArray, Nat.reduceEqDiff, reduceCtorEq, Nat.reduceAdd, Nat.reduceSub, Nat.reduceLT, Nat.reduceMul, Nat.reducePow, Nat.reduceLeDiff, Int.reduceToNat, Int.reduceLE, Int.reduceLT, Int.reducePow]
    refine ⟨fun h2 => ?_, fun h2 => ?_⟩
    · simp only [Bool.not_eq_true', decide_eq_false_iff_not] at h2
      refine ⟨_, _, [0], ⟨rfl, rfl⟩, ?_⟩
      rw [ip_range h2]; simp [-List.reduceReplicate, LES]
    · simp only [Bool.not_eq_false', decide_eq_true_eq] at h2
      obtain ⟨n, rfl⟩ : ∃ k : Nat, n = k := ⟨n.toNat, by omega⟩
      obtain ⟨i, rfl⟩ : ∃ k : Nat, i = k := ⟨i.toNat, by omega⟩
      have hin : i < n := by omega
      have hn1 : 1 ≤ n := by omega
      have hn2 : n ≤ 64 := by omega
      have hs := showL_len hl m i n P
      repeat (refine ⟨by first | omega | (simp; done) | decide, ?_⟩)
      simp only [hl, tk32 hl, hr, tk32 hr]
      refine kCall_Ret c_newHasher (by rfl) [] (by simp [CALL]) (by simp [CALL]) (by simp [CALL]) (by simp) (by simp [hB]) fun _ _ => ?_
      simp only [CALL, ↓VC, VP, TT, List.getElem?_toArray, Nat.reduceEqDiff, reduceCtorEq, Nat.reduceAdd, Nat.reduceSub, Nat.reduceLT, Nat.reduceMul, Nat.reducePow, Nat.reduceLeDiff, Int.reduceToNat, Int.reduceLE, Int.reduceLT, Int.reducePow, hB, hl, hr, instL_hEng0, tk32 hl, ge_iff_le, Nat.le_refl, true_and]
      refine kCall_val (c_hasher_shows l hl m i n P c hP hc hm hn1 (by omega) hin) (by rfl) [(3, 0), (4, 0), (5, 0), (0, 0)] (by simp [CALL]) (by simp [CALL, hB, cellsAt, instL_hEng, hEng_take, tk]) (by simp [CALL, hB]) (by simp [hB, okL_bs, okL_hEng]) ?_
      simp only [CALL, ↓VC, VP, TT, List.getElem?_toArray, Nat.reduceEqDiff, reduceCtorEq, Nat.reduceAdd, Nat.reduceSub, Nat.reduceLT, Nat.reduceMul, Nat.reducePow, Nat.reduceLeDiff, Int.reduceToNat, Int.reduceLE, Int.reduceLT, Int.reducePow, hs, hr]
      refine kGd_split rfl (fun h4 => ?_) (fun h4 => ?_) <;> simp only [↓VC, VP, TT, List.getElem?_toArray, Nat.reduceEqDiff, reduceCtorEq, Nat.reduceAdd, Nat.reduceSub, Nat.reduceLT, Nat.reduceMul, Nat.reducePow, Nat.reduceLeDiff, Int.reduceToNat, Int.reduceLE, Int.reduceLT, Int.reducePow, h4, hs, hr, tk32 hs, tk32 hr, ge_iff_le, Nat.le_refl, true_and]
      · refine ⟨intCells_bs _, intCells_bs _, fun b hb => ⟨_, _, [0], ⟨rfl, rfl⟩, ?_⟩⟩
        rw [ip_in hn1 hn2 hin, h4, Bool.true_and, isB hb]; simp [-List.reduceReplicate, LES]
      · refine ⟨_, _, [0], ⟨rfl, rfl⟩, ?_⟩
        rw [ip_in hn1 hn2 hin, h4, Bool.false_and]; simp [-List.reduceReplicate, LES]
theorem c_spec_IsProof (r l : List UInt8) (hr : r.length = 32) (hl : l.length = 32) (i n : Int) (m c : Nat) (P : List UInt8) (hP : P.length = 32 * m) (hc : m ≤ c) (hm : m ≤ 1048576) : LC Try.prog 14 [.a (bs r), .a (bs l), .c (.int .i64 (i)), .c (.int .i64 (n)), .s 0 0 m c] [⟨false, bs P⟩] (fun v hp => v = .c (.bool (isProofB r l i n m P)) ∧ hp = [⟨false, bs P⟩]) := by
  have key := c_spec_l09Shows r l hr hl i n m c P hP hc hm
  refine LC_of (X := XX (fun _ => .nil) (fun _ => []) [22, 24, 25, 36, 42, 47, 90] 1) envOK Try.func14 (by kernel_rfl) (by kernel_rfl) rfl (Nat.le_of_ble_eq_true (by kernel_rfl)) ?_
  simp only [kFun, Try.f14, List.length_nil, List.length_cons, Nat.sub_zero, Nat.reduceSub, Nat.reduceAdd, List.nil_append, List.cons_append, List.replicate_succ, List.replicate_zero]
  simp only [XX, ↓VC, VP, TT, List.getElem?_toArray, Nat.reduceEqDiff, reduceCtorEq, Nat.reduceAdd, Nat.reduceSub, Nat.reduceLT, Nat.reduceMul, Nat.reducePow, Nat.reduceLeDiff, Int.reduceToNat, Int.reduceLE, Int.reduceLT, Int.reducePow, hr, hl]
  refine kCall_val key (by rfl) [(0, 0)] (by simp [CALL]) (by simp [CALL, cellsAt, tk]) (by simp [CALL]) (by simp [okL_bs]) ?_
  simp only [CALL, ↓VC, VP, TT, List.getElem?_toArray, Nat.reduceEqDiff, reduceCtorEq, Nat.reduceAdd, Nat.reduceSub, Nat.reduceLT, Nat.reduceMul, Nat.reducePow, Nat.reduceLeDiff, Int.reduceToNat, Int.reduceLE, Int.reduceLT, Int.reducePow]
  refine ⟨_, _, [0], ⟨rfl, rfl⟩, ?_⟩
  simp [-List.reduceReplicate, LES]
end Go.Proofs.Ytledcckafhpgaaa

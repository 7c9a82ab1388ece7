import Derived.Test.YtapagcnipdpfiaaGrows
/- IsGrowth: the program and the reference. -/
set_option linter.unusedSimpArgs false
set_option linter.unusedVariables false
namespace Go.Proofs.Ytapagcnipdpfiaa
open Go Go.Vc
set_option maxRecDepth 10000
set_option maxHeartbeats 4000000
def isGrowB (pk : List UInt8 → Nat → List UInt8) (b a : List UInt8) (m n : Int) (q : Nat) (P : List UInt8) : Bool :=
  decide (1 ≤ n ∧ n ≤ 64) && (decide (1 ≤ m ∧ m ≤ n) && ((grownL pk b q m.toNat n.toNat true P).2.2 && (((grownL pk b q m.toNat n.toNat true P).1 == b) && ((grownL pk b q m.toNat n.toNat true P).2.1 == a))))
theorem ig_range1 {pk : List UInt8 → Nat → List UInt8} {b a : List UInt8} {m n : Int} {q : Nat} {P : List UInt8} (h : ¬ (1 ≤ n ∧ n ≤ 64)) : isGrowB pk b a m n q P = false := by
  unfold isGrowB; rw [decide_eq_false h, Bool.false_and]
theorem ig_range {pk : List UInt8 → Nat → List UInt8} {b a : List UInt8} {m n : Int} {q : Nat} {P : List UInt8} (h : ¬ (1 ≤ m ∧ m ≤ n)) : isGrowB pk b a m n q P = false := by
  unfold isGrowB; rw [decide_eq_false h, Bool.false_and, Bool.and_false]
theorem ig_in {pk : List UInt8 → Nat → List UInt8} {b a : List UInt8} {m n q : Nat} {P : List UInt8} (h : 1 ≤ n) (h' : n ≤ 64) (h1 : 1 ≤ m) (hi : m ≤ n) : isGrowB pk b a (m : Int) (n : Int) q P = ((grownL pk b q m n true P).2.2 && (((grownL pk b q m n true P).1 == b) && ((grownL pk b q m n true P).2.1 == a))) := by
  unfold isGrowB
  rw [decide_eq_true (by omega), decide_eq_true (by omega), Int.toNat_natCast, Int.toNat_natCast, Bool.true_and, Bool.true_and]
theorem ig_long {pk : List UInt8 → Nat → List UInt8} {b a : List UInt8} {m n q : Nat} {P : List UInt8} (h : 1 ≤ n) (h' : n ≤ 64) (h1 : 1 ≤ m) (hi : m ≤ n) (hm : 10 < q) : isGrowB pk b a (m : Int) (n : Int) q P = false := by
  rw [ig_in h h' h1 hi]
  cases hs : (grownL pk b q m n true P).2.2 with
  | false => rfl
  | true => have := grownL_deep q m n true P 6 h1 hi (by omega) hs; omega
theorem ig_same (b a : List UInt8) (m n : Int) (q : Nat) (P : List UInt8) : isGrowB pkI b a m n q P = isGrowB pkS b a m n q P := by
  unfold isGrowB
  obtain ⟨h1, h2⟩ := grownL_same (d := b) q m.toNat n.toNat true P
  cases h : (grownL pkS b q m.toNat n.toNat true P).2.2 with
  | true => rw [← h2 h, h]
  | false => rw [h] at h1; rw [← h1]; simp
theorem c_spec_IsGrowth (b a : List UInt8) (hr : b.length = 32) (hl : a.length = 32) (i n : Int) (m c : Nat) (P : List UInt8) (hP : P.length = 32 * m) (hc : m ≤ c) (hm : m ≤ 1048576) : LC Try.prog 22 [.a (bs b), .c (.int .i64 (i)), .a (bs a), .c (.int .i64 (n)), .s 0 0 m c] [⟨false, bs P⟩] (fun v hp => v = .c (.bool (isGrowB pkS b a i n m P)) ∧ hp = [⟨false, bs P⟩]) := by
  refine LC_of (X := XX (fun _ => .nil) (fun _ => []) [25, 33, 34, 61, 62, 82, 87, 112, 119, 141] 1) envOK Try.func22 (by kernel_rfl) (by kernel_rfl) rfl (Nat.le_of_ble_eq_true (by kernel_rfl)) ?_
  simp only [kFun, Try.f22, List.length_nil, List.length_cons, Nat.sub_zero, Nat.reduceSub, Nat.reduceAdd, List.nil_append, List.cons_append, List.replicate_succ, List.replicate_zero]
  simp only [XX, ↓VC, VP, TT, List.getElem?_toArray, Nat.reduceEqDiff, reduceCtorEq, Nat.reduceAdd, Nat.reduceSub, Nat.reduceLT, Nat.reduceMul, Nat.reducePow, Nat.reduceLeDiff, Int.reduceToNat, Int.reduceLE, Int.reduceLT, Int.reducePow, hr, hl]
  refine kCall_val (c_spec_l01In n 1 64) (by rfl) [] (by simp [CALL]) (by simp [CALL, cellsAt]) (by simp [CALL]) (by simp [okL_bs]) ?_
  simp only [CALL, ↓VC, VP, TT, List.getElem?_toArray, Nat.reduceEqDiff, reduceCtorEq, Nat.reduceAdd, Nat.reduceSub, Nat.reduceLT, Nat.reduceMul, Nat.reducePow, Nat.reduceLeDiff, Int.reduceToNat, Int.reduceLE, Int.reduceLT, Int.reducePow]
  refine kGd_split rfl (fun h1 => ?_) (fun h1 => ?_) <;> simp only [↓VC, VP, TT, List.getElem?_toArray, Nat.reduceEqDiff, reduceCtorEq, Nat.reduceAdd, Nat.reduceSub, Nat.reduceLT, Nat.reduceMul, Nat.reducePow, Nat.reduceLeDiff, Int.reduceToNat, Int.reduceLE, Int.reduceLT, Int.reducePow, h1]
  · have h1' : ¬ (1 ≤ n ∧ n ≤ 64) := by simp only [Bool.not_eq_true', decide_eq_false_iff_not] at h1; exact h1
    refine ⟨_, _, [0], ⟨rfl, rfl⟩, ?_⟩
    rw [ig_range1 h1']; simp [-List.reduceReplicate, LES]
  · have h1' : 1 ≤ n ∧ n ≤ 64 := by simpa using h1
    refine kCall_val (c_spec_l01In i 1 n) (by rfl) [] (by simp [CALL]) (by simp [CALL, cellsAt]) (by simp [CALL]) (by simp [okL_bs]) ?_
    simp only [CALL, ↓VC, VP, TT, List.getElem?_toArray, Nat.reduceEqDiff, reduceCtorEq, Nat.reduceAdd, Nat.reduceSub, Nat.reduceLT, Nat.reduceMul, Nat.reducePow, Nat.reduceLeDiff, Int.reduceToNat, Int.reduceLE, Int.reduceLT, Int.reducePow]
    refine kGd_split rfl (fun h2 => ?_) (fun h2 => ?_) <;> simp only [↓VC, VP, TT, List.getElem?_toArray, Nat.reduceEqDiff, reduceCtorEq, Nat.reduceAdd, Nat.reduceSub, Nat.reduceLT, Nat.reduceMul, Nat.reducePow, Nat.reduceLeDiff, Int.reduceToNat, Int.reduceLE, Int.reduceLT, Int.reducePow, h2]
    · simp only [Bool.not_eq_true', decide_eq_false_iff_not] at h2
      refine ⟨_, _, [0], ⟨rfl, rfl⟩, ?_⟩
      rw [ig_range h2]; simp [-List.reduceReplicate, LES]
    · simp only [Bool.not_eq_false', decide_eq_true_eq] at h2
      obtain ⟨n, rfl⟩ : ∃ k : Nat, n = k := ⟨n.toNat, by omega⟩
      obtain ⟨i, rfl⟩ : ∃ k : Nat, i = k := ⟨i.toNat, by omega⟩
      have hi1 : 1 ≤ i := by omega
      have hin : i ≤ n := by omega
      have hn1 : 1 ≤ n := by omega
      have hn2 : n ≤ 64 := by omega
      have hs := (grownL_len hr m i n true P hP pkS_len).1
      have hs2 := (grownL_len hr m i n true P hP pkS_len).2
      refine ⟨fun h3 => ?_, fun h3 => ?_⟩
      · refine ⟨_, _, [0], ⟨rfl, rfl⟩, ?_⟩
        rw [ig_long hn1 hn2 hi1 hin (by omega)]; simp [-List.reduceReplicate, LES]
      · skip
        repeat (refine ⟨by first | omega | (simp; done) | decide, ?_⟩)
        simp only [hl, tk32 hl, hr, tk32 hr]
        refine kCall_val (c_spec_l09Grown b hr m true i n P c hP hc hm hi1 hin (by omega)) (by rfl) [(0, 0)] (by simp [CALL]) (by simp [CALL, cellsAt, tk]) (by simp [CALL]) (by simp [okL_bs]) ?_
        simp only [growV, CALL, ↓VC, VP, TT, List.getElem?_toArray, Nat.reduceEqDiff, reduceCtorEq, Nat.reduceAdd, Nat.reduceSub, Nat.reduceLT, Nat.reduceMul, Nat.reducePow, Nat.reduceLeDiff, Int.reduceToNat, Int.reduceLE, Int.reduceLT, Int.reducePow, hs, hs2, hr, hl, tk32 hs, tk32 hs2]
        refine kGd_split rfl (fun h4 => ?_) (fun h4 => ?_) <;> simp only [↓VC, VP, TT, List.getElem?_toArray, Nat.reduceEqDiff, reduceCtorEq, Nat.reduceAdd, Nat.reduceSub, Nat.reduceLT, Nat.reduceMul, Nat.reducePow, Nat.reduceLeDiff, Int.reduceToNat, Int.reduceLE, Int.reduceLT, Int.reducePow, h4, hs, hs2, hr, hl, tk32 hs, tk32 hs2, tk32 hr, tk32 hl, ge_iff_le, Nat.le_refl, true_and]
        · refine ⟨intCells_bs _, intCells_bs _, fun b1 hb1 => ?_⟩
          refine kGd_split rfl (fun h5 => ?_) (fun h5 => ?_) <;> simp only [↓VC, VP, TT, List.getElem?_toArray, Nat.reduceEqDiff, reduceCtorEq, Nat.reduceAdd, Nat.reduceSub, Nat.reduceLT, Nat.reduceMul, Nat.reducePow, Nat.reduceLeDiff, Int.reduceToNat, Int.reduceLE, Int.reduceLT, Int.reducePow, h5, hs, hs2, hr, hl, tk32 hs, tk32 hs2, tk32 hr, tk32 hl, ge_iff_le, Nat.le_refl, true_and]
          · refine ⟨intCells_bs _, intCells_bs _, fun b2 hb2 => ⟨_, _, [0], ⟨rfl, rfl⟩, ?_⟩⟩
            rw [ig_in hn1 hn2 hi1 hin, h4, ← isB hb1, h5, ← isB hb2, Bool.true_and, Bool.true_and]; simp [-List.reduceReplicate, LES]
          · refine ⟨_, _, [0], ⟨rfl, rfl⟩, ?_⟩
            rw [ig_in hn1 hn2 hi1 hin, h4, ← isB hb1, h5, Bool.true_and, Bool.false_and]; simp [-List.reduceReplicate, LES]
        · refine ⟨_, _, [0], ⟨rfl, rfl⟩, ?_⟩
          rw [ig_in hn1 hn2 hi1 hin, h4, Bool.false_and]; simp [-List.reduceReplicate, LES]
theorem c_impl_IsGrowth (b a : List UInt8) (hr : b.length = 32) (hl : a.length = 32) (i n : Int) (m c : Nat) (P : List UInt8) (hP : P.length = 32 * m) (hc : m ≤ c) (hm : m ≤ 1048576) : LC Try.prog 21 [.a (bs b), .c (.int .i64 (i)), .a (bs a), .c (.int .i64 (n)), .s 0 0 m c] [⟨false, bs P⟩] (fun v hp => v = .c (.bool (isGrowB pkS b a i n m P)) ∧ hp = [⟨false, bs P⟩]) := by
  refine LC_of (X := XX (fun | 3 => .one 1 (.one 2 (.one 3 (.one 4 (.one 0 (.one 5 (.one 6 (.one 7 (.one 8 (.one 9 (.one 10 (.one 11 (.one 12 (.one 13 (.one 14 .nil)))))))))))))) | _ => .nil) (fun | 3 => [(10, 11), (11, 12)] | _ => []) [25, 33, 34, 61, 62, 82, 87, 112, 119, 141] 1) envOK Try.func21 (by kernel_rfl) (by kernel_rfl) rfl (Nat.le_of_ble_eq_true (by kernel_rfl)) ?_
  simp only [kFun, Try.f21, List.length_nil, List.length_cons, Nat.sub_zero, Nat.reduceSub, Nat.reduceAdd, List.nil_append, List.cons_append, List.replicate_succ, List.replicate_zero]
  simp only [XX, ↓VC, VP, TT, List.getElem?_toArray, Nat.reduceEqDiff, reduceCtorEq, Nat.reduceAdd, Nat.reduceSub, Nat.reduceLT, Nat.reduceMul, Nat.reducePow, Nat.reduceLeDiff, Int.reduceToNat, Int.reduceLE, Int.reduceLT, Int.reducePow, hr, hl]
  refine kCall_val (c_impl_inRange n 1 64) (by rfl) [] (by simp [CALL]) (by simp [CALL, cellsAt]) (by simp [CALL]) (by simp [okL_bs]) ?_
  simp only [CALL, ↓VC, VP, TT, List.getElem?_toArray, Nat.reduceEqDiff, reduceCtorEq, Nat.reduceAdd, Nat.reduceSub, Nat.reduceLT, Nat.reduceMul, Nat.reducePow, Nat.reduceLeDiff, Int.reduceToNat, Int.reduceLE, Int.reduceLT, Int.reducePow]
  refine kGd_split rfl (fun h1 => ?_) (fun h1 => ?_) <;> simp only [↓VC, VP, TT, List.getElem?_toArray, Nat.reduceEqDiff, reduceCtorEq, Nat.reduceAdd, Nat.reduceSub, Nat.reduceLT, Nat.reduceMul, Nat.reducePow, Nat.reduceLeDiff, Int.reduceToNat, Int.reduceLE, Int.reduceLT, Int.reducePow, h1]
  · have h1' : ¬ (1 ≤ n ∧ n ≤ 64) := by simp only [Bool.not_eq_true', decide_eq_false_iff_not] at h1; exact h1
    refine ⟨_, _, [0], ⟨rfl, rfl⟩, ?_⟩
    rw [ig_range1 h1']; simp [-List.reduceReplicate, LES]
  · have h1' : 1 ≤ n ∧ n ≤ 64 := by simpa using h1
    refine kCall_val (c_impl_inRange i 1 n) (by rfl) [] (by simp [CALL]) (by simp [CALL, cellsAt]) (by simp [CALL]) (by simp [okL_bs]) ?_
    simp only [CALL, ↓VC, VP, TT, List.getElem?_toArray, Nat.reduceEqDiff, reduceCtorEq, Nat.reduceAdd, Nat.reduceSub, Nat.reduceLT, Nat.reduceMul, Nat.reducePow, Nat.reduceLeDiff, Int.reduceToNat, Int.reduceLE, Int.reduceLT, Int.reducePow]
    refine ⟨fun h2 => ?_, fun h2 => ?_⟩
    · simp only [Bool.not_eq_true', decide_eq_false_iff_not] at h2
      refine ⟨_, _, [0], ⟨rfl, rfl⟩, ?_⟩
      rw [ig_range h2]; simp [-List.reduceReplicate, LES]
    · simp only [Bool.not_eq_false', decide_eq_true_eq] at h2
      obtain ⟨n, rfl⟩ : ∃ k : Nat, n = k := ⟨n.toNat, by omega⟩
      obtain ⟨i, rfl⟩ : ∃ k : Nat, i = k := ⟨i.toNat, by omega⟩
      have hi1 : 1 ≤ i := by omega
      have hin : i ≤ n := by omega
      have hn1 : 1 ≤ n := by omega
      have hn2 : n ≤ 64 := by omega
      have hs := (grownL_len hr m i n true P hP pkI_len).1
      have hs2 := (grownL_len hr m i n true P hP pkI_len).2
      rw [← ig_same]
      repeat (refine ⟨by first | omega | (simp; done) | decide, ?_⟩)
      simp only [hl, tk32 hl, hr, tk32 hr]
      refine kCall_Ret c_newHasher (by rfl) [] (by simp [CALL]) (by simp [CALL]) (by simp [CALL]) (by simp) (by simp [hB]) fun _ _ => ?_
      simp only [CALL, ↓VC, VP, TT, List.getElem?_toArray, Nat.reduceEqDiff, reduceCtorEq, Nat.reduceAdd, Nat.reduceSub, Nat.reduceLT, Nat.reduceMul, Nat.reducePow, Nat.reduceLeDiff, Int.reduceToNat, Int.reduceLE, Int.reduceLT, Int.reducePow, hB, hl, hr, instL_hEng0, tk32 hl, tk32 hr, ge_iff_le, Nat.le_refl, true_and]
      repeat (refine ⟨by first | omega | (simp; done) | decide, ?_⟩)
      refine kCall_val (c_hasher_grows b hr m true i n P c hP hc hm hi1 hin (by omega)) (by rfl) [(3, 0), (4, 0), (5, 0), (0, 0)] (by simp [CALL]) (by simp [CALL, hB, cellsAt, instL_hEng, hEng_take, tk]) (by simp [CALL, hB]) (by simp [hB, okL_bs, okL_hEng]) ?_
      simp only [growV, CALL, ↓VC, VP, TT, List.getElem?_toArray, Nat.reduceEqDiff, reduceCtorEq, Nat.reduceAdd, Nat.reduceSub, Nat.reduceLT, Nat.reduceMul, Nat.reducePow, Nat.reduceLeDiff, Int.reduceToNat, Int.reduceLE, Int.reduceLT, Int.reducePow, hs, hs2, hr, hl, tk32 hs, tk32 hs2]
      refine kGd_split rfl (fun h4 => ?_) (fun h4 => ?_) <;> simp only [↓VC, VP, TT, List.getElem?_toArray, Nat.reduceEqDiff, reduceCtorEq, Nat.reduceAdd, Nat.reduceSub, Nat.reduceLT, Nat.reduceMul, Nat.reducePow, Nat.reduceLeDiff, Int.reduceToNat, Int.reduceLE, Int.reduceLT, Int.reducePow, h4, hs, hs2, hr, hl, tk32 hs, tk32 hs2, tk32 hr, tk32 hl, ge_iff_le, Nat.le_refl, true_and]
      · refine ⟨intCells_bs _, intCells_bs _, fun b1 hb1 => ?_⟩
        refine kGd_split rfl (fun h5 => ?_) (fun h5 => ?_) <;> simp only [↓VC, VP, TT, List.getElem?_toArray, Nat.reduceEqDiff, reduceCtorEq, Nat.reduceAdd, Nat.reduceSub, Nat.reduceLT, Nat.reduceMul, Nat.reducePow, Nat.reduceLeDiff, Int.reduceToNat, Int.reduceLE, Int.reduceLT, Int.reducePow, h5, hs, hs2, hr, hl, tk32 hs, tk32 hs2, tk32 hr, tk32 hl, ge_iff_le, Nat.le_refl, true_and]
        · refine ⟨intCells_bs _, intCells_bs _, fun b2 hb2 => ⟨_, _, [0], ⟨rfl, rfl⟩, ?_⟩⟩
          rw [ig_in hn1 hn2 hi1 hin, h4, ← isB hb1, h5, ← isB hb2, Bool.true_and, Bool.true_and]; simp [-List.reduceReplicate, LES]
        · refine ⟨_, _, [0], ⟨rfl, rfl⟩, ?_⟩
          rw [ig_in hn1 hn2 hi1 hin, h4, ← isB hb1, h5, Bool.true_and, Bool.false_and]; simp [-List.reduceReplicate, LES]
      · refine ⟨_, _, [0], ⟨rfl, rfl⟩, ?_⟩
        rw [ig_in hn1 hn2 hi1 hin, h4, Bool.false_and]; simp [-List.reduceReplicate, LES]
end Go.Proofs.Ytapagcnipdpfiaa

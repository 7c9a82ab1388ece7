import Derived.Test.YtahnjhppkgndiaaGreatVcgU
import Derived.Test.YtahnjhppkgndiaaGreatTk
/- The laws' own helpers over slices of slices of bytes. -/
set_option linter.unusedSimpArgs false
set_option linter.unusedVariables false
namespace Go.Proofs.YtahnjhppkgndiaaGreat
open Go Go.Vc
set_option maxRecDepth 10000
set_option maxHeartbeats 4000000
end Go.Proofs.YtahnjhppkgndiaaGreat
/- Lists of data: the program looks for what is too long. -/
set_option linter.unusedSimpArgs false
set_option linter.unusedVariables false
namespace Go.Proofs.YtahnjhppkgndiaaGreat
open Go Go.Vc
set_option maxRecDepth 10000
set_option maxHeartbeats 4000000
/-- The first n blocks: pointers and parts. -/
theorem LeS_nest {D : List (List UInt8 × Nat)} {N : Nat} {tm tm' : List V} {hp ex : List Blk} (hN : N = D.length + 1) (he : hp = (⟨false, ptrV 1 (bPs D)⟩ :: partB false (bPs D)) ++ ex) (ht : leT tm tm') (hs : stL N tm') : LeS N (List.range N) tm hp tm' (⟨false, ptrV 1 (bPs D)⟩ :: partB false (bPs D)) :=
  LeS_id (by simp [partB_length, bPs_length, hN]) (Nat.le_refl _) he ht hs (stB_nest (by rw [bPs_length]; omega) bPs_st)
def bigB (D : List (List UInt8 × Nat)) : Bool := D.any fun p => decide (2000 < p.1.length)
theorem bigB_succ {D : List (List UInt8 × Nat)} {i : Nat} {p : List UInt8 × Nat} (h : D[i]? = some p) : bigB (D.take (i + 1)) = (bigB (D.take i) || decide (2000 < p.1.length)) := by
  unfold bigB; rw [List.take_add_one, h, List.any_append]; simp
theorem bigB_mono {D : List (List UInt8 × Nat)} {i : Nat} (h : bigB (D.take i) = true) : bigB D = true := by
  unfold bigB at h ⊢
  rw [List.any_eq_true] at h ⊢
  obtain ⟨p, hp, hb⟩ := h
  exact ⟨p, List.mem_of_mem_take hp, hb⟩
theorem bigB_get {D : List (List UInt8 × Nat)} {p : List UInt8 × Nat} (h : bigB D = false) (hp : p ∈ D) : p.1.length ≤ 2000 := by
  unfold bigB at h
  rw [List.any_eq_false] at h
  have := h p hp
  simpa using this
theorem c_impl_isDataN (l : List UInt8) (c : Nat) : LC Tryz.prog 102 [.s 0 0 l.length c] [⟨false, bs l⟩] (fun v hp => v = .c (.bool (decide (l.length ≤ 2000))) ∧ hp = [⟨false, bs l⟩]) := by
  refine LC_of (X := XX (fun _ => .nil) (fun _ => []) [15, 71, 72, 73, 79, 80, 87, 90, 91, 93, 99, 119, 137, 176, 177, 203, 204, 212, 219] 1) envOK Tryz.func102 (by kernel_rfl) (by kernel_rfl) rfl (Nat.le_of_ble_eq_true (by kernel_rfl)) ?_
  simp only [kFun, Tryz.f102, List.length_nil, List.length_cons, Nat.sub_zero, Nat.reduceSub, Nat.reduceAdd, List.nil_append, List.cons_append, List.replicate_succ, List.replicate_zero]
  simp only [XX, ↓VC, VP, TT, Nat.reduceEqDiff, reduceCtorEq, Nat.reduceAdd, Nat.reduceSub, Nat.reduceLT, Nat.reduceMul, Nat.reducePow, Nat.reduceLeDiff, Int.reduceToNat, Int.reduceLE, Int.reduceLT, Int.reducePow]
  refine ⟨_, _, [0], ⟨rfl, rfl⟩, ?_⟩
  rw [show decide ((l.length : Int) ≤ 2000) = decide (l.length ≤ 2000) from by simp only [decide_eq_decide]; omega]
  simp [-List.reduceReplicate, LES]
theorem c_checkDigestN (l : List UInt8) (q : Nat) : LC Tryz.prog 139 [.s 0 0 l.length q] [⟨false, bs l⟩] (fun v hp => v = .c (.bool (!decide (l.length ≤ 2000))) ∧ hp = [⟨false, bs l⟩]) := by
  refine LC_of (X := XX (fun _ => .nil) (fun _ => []) [15, 71, 72, 73, 79, 80, 87, 90, 91, 93, 99, 119, 137, 176, 177, 203, 204, 212, 219] 1) envOK Tryz.func139 (by kernel_rfl) (by kernel_rfl) rfl (Nat.le_of_ble_eq_true (by kernel_rfl)) ?_
  simp only [kFun, Tryz.f139, List.length_nil, List.length_cons, Nat.sub_zero, Nat.reduceSub, Nat.reduceAdd, List.nil_append, List.cons_append, List.replicate_succ, List.replicate_zero]
  simp only [XX, ↓VC, VP, TT, Nat.reduceEqDiff, reduceCtorEq, Nat.reduceAdd, Nat.reduceSub, Nat.reduceLT, Nat.reduceMul, Nat.reducePow, Nat.reduceLeDiff, Int.reduceToNat, Int.reduceLE, Int.reduceLT, Int.reducePow]
  refine kCall_val (c_impl_isDataN l q) (by rfl) [(0, 0)] (by simp [CALL, SCB, okL, okV, partB_length, bPs_length, cellsAt]) (by simp [CALL, SCB, okL, okV, partB_length, bPs_length, cellsAt]) (by simp [CALL, SCB, okL, okV, partB_length, bPs_length, cellsAt]) (by simp [okL_bs, okL_room, okL, okV, okL, okV, partB_length, bPs_length, cellsAt]) ?_
  simp (config := { maxSteps := 2000000 }) only [CALL, ↓VC, VP, TT, Nat.reduceEqDiff, reduceCtorEq, Nat.reduceAdd, Nat.reduceSub, Nat.reduceLT, Nat.reduceMul, Nat.reducePow, Nat.reduceLeDiff, Int.reduceToNat, Int.reduceLE, Int.reduceLT, Int.reducePow, GOB, partB_length, bPs_length, ptrV_length, bP]
  refine ⟨_, _, [0], ⟨rfl, rfl⟩, ?_⟩
  simp [-List.reduceReplicate, LES] <;> rfl
theorem c_IndexFuncN (D : List (List UInt8 × Nat)) (c : Nat) (hm : D.length ≤ 1048576) : LC Tryz.prog 178 [.s 0 0 D.length c, .c (.func (.func 139) #[] #[])] (⟨false, ptrV 1 (bPs D)⟩ :: partB false (bPs D))
    (Ret (⟨false, ptrV 1 (bPs D)⟩ :: partB false (bPs D)) (fun z : Int => decide (z ≥ 0) = bigB D) fun z => (.c (.int .i64 (z)), [])) := by
  have hPn := bPs_length D
  refine LC_of (X := XX (fun _ => .nil) (fun _ => []) [15, 71, 72, 73, 79, 80, 87, 90, 91, 93, 99, 119, 137, 176, 177, 203, 204, 212, 219] (D.length + 1)) envOK Tryz.func178 (by kernel_rfl) (by kernel_rfl) (by simp [XX, partB_length, bPs_length]) (Nat.le_of_ble_eq_true (by kernel_rfl)) ?_
  simp only [kFun, Tryz.f178, List.length_nil, List.length_cons, Nat.sub_zero, Nat.reduceSub, Nat.reduceAdd, List.nil_append, List.cons_append, List.replicate_succ, List.replicate_zero]
  simp only [XX, ↓VC, VP, TT, Nat.reduceEqDiff, reduceCtorEq, Nat.reduceAdd, Nat.reduceSub, Nat.reduceLT, Nat.reduceMul, Nat.reducePow, Nat.reduceLeDiff, Int.reduceToNat, Int.reduceLE, Int.reduceLT, Int.reducePow, partB_length, bPs_length]
  refine kLoop_of (fun i : Nat => ([.s 0 0 D.length c, .c (.func (.func 139) #[] #[]), .j, .j, .j, .j, .s 0 0 D.length c, .c (.int .i64 (D.length)), .c (.int .i64 (i)), .j, .j, .j, .j, .j, .j, .j, .j, .j, .j], ⟨false, ptrV 1 (bPs D)⟩ :: partB false (bPs D))) (fun i => D.length - i) (fun i => i ≤ D.length ∧ bigB (D.take i) = false) 0 ⟨by omega, by simp [bigB]⟩ ⟨List.range (D.length + 1), ?_⟩ ?_
  · exact LeS_nest rfl (List.append_nil _).symm (by simp [leT]) (by simp [stL, stV])
  rintro i ⟨hi, hs⟩
  rcases Nat.lt_or_ge i D.length with h1 | h1
  · have hpi : D[i]? = some D[i] := List.getElem?_eq_getElem h1
    generalize D[i] = p at hpi
    have hL := bPs_get hpi
    have hbs := bigB_succ hpi
    rw [hs, Bool.false_or] at hbs
    have hlk : ((⟨false, ptrV 1 (bPs D)⟩ : Blk) :: partB false (bPs D))[i + 1]? = some ⟨false, bs p.1⟩ := partB_get0 hL
    simp only [↓VC, VP, TT, Nat.reduceEqDiff, reduceCtorEq, Nat.reduceAdd, Nat.reduceSub, Nat.reduceLT, Nat.reduceMul, Nat.reducePow, Nat.reduceLeDiff, Int.reduceToNat, Int.reduceLE, Int.reduceLT, Int.reducePow, (eq_true (by omega) : ((i : Int) < (D.length : Int)) = True), decide_true, ↓vGet_ptrV0 hL, bP, ptrV_length, hPn]
    refine kCallV_of (by rfl) ?_
    refine kCall_val (c_checkDigestN p.1 p.2) (by rfl) [(1 + i, 0)] (by simp [CALL, SCB, okL, okV, partB_length, bPs_length, cellsAt, ↓hlk, Nat.add_comm 1 i, h1]) (by simp [CALL, SCB, okL, okV, partB_length, bPs_length, cellsAt, ↓hlk, Nat.add_comm 1 i, h1]) (by simp [CALL, SCB, okL, okV, partB_length, bPs_length, cellsAt, ↓hlk, Nat.add_comm 1 i, h1]) (by simp [okL_bs, okL_room, okL, okV, okL, okV, partB_length, bPs_length, cellsAt, ↓hlk, Nat.add_comm 1 i, h1]) ?_
    simp (config := { maxSteps := 2000000 }) only [CALL, ↓VC, VP, TT, Nat.reduceEqDiff, reduceCtorEq, Nat.reduceAdd, Nat.reduceSub, Nat.reduceLT, Nat.reduceMul, Nat.reducePow, Nat.reduceLeDiff, Int.reduceToNat, Int.reduceLE, Int.reduceLT, Int.reducePow, GOB, partB_length, bPs_length, ptrV_length, bP]
    refine ⟨fun h2 => ?_, fun h2 => ?_⟩
    · have hb2 : decide (2000 < p.1.length) = true := by
        simp only [Bool.not_eq_true', decide_eq_false_iff_not] at h2
        rw [decide_eq_true_eq]; omega
      refine ⟨_, _, List.range (D.length + 1), ⟨(i : Int), ?_, rfl, (List.append_nil _).symm⟩, LeS_nest rfl (List.append_nil _).symm (by simp [leT]) (by simp [stL, stV])⟩
      rw [bigB_mono (i := i + 1) (by rw [hbs, hb2])]
      simp
    · have hb2 : decide (2000 < p.1.length) = false := by
        simp only [Bool.not_eq_false', decide_eq_true_eq] at h2
        rw [decide_eq_false_iff_not]; omega
      refine ⟨i + 1, ⟨by omega, by rw [hbs, hb2]⟩, by omega, List.range (D.length + 1), ?_⟩
      rw [wrap_i64 (by omega) (by omega)]
      exact LeS_nest rfl (List.append_nil _).symm (by simp [leT]) (by simp [stL, stV])
  · obtain rfl : i = D.length := by omega
    rw [List.take_length] at hs
    simp only [↓VC, VP, TT, Nat.reduceEqDiff, reduceCtorEq, Nat.reduceAdd, Nat.reduceSub, Nat.reduceLT, Nat.reduceMul, Nat.reducePow, Nat.reduceLeDiff, Int.reduceToNat, Int.reduceLE, Int.reduceLT, Int.reducePow, (eq_false (by omega) : ((D.length : Int) < (D.length : Int)) = False), decide_false]
    refine ⟨_, _, List.range (D.length + 1), ⟨-1, by rw [hs]; rfl, rfl, (List.append_nil _).symm⟩, ?_⟩
    exact LeS_nest rfl (List.append_nil _).symm (by simp [leT]) (by simp [stL, stV])
theorem c_ContainsFuncN (D : List (List UInt8 × Nat)) (c : Nat) (hm : D.length ≤ 1048576) : LC Tryz.prog 138 [.s 0 0 D.length c, .c (.func (.func 139) #[] #[])] (⟨false, ptrV 1 (bPs D)⟩ :: partB false (bPs D))
    (fun v hp => v = .c (.bool (bigB D)) ∧ hp = (⟨false, ptrV 1 (bPs D)⟩ :: partB false (bPs D))) := by
  have hPn := bPs_length D
  refine LC_of (X := XX (fun _ => .nil) (fun _ => []) [15, 71, 72, 73, 79, 80, 87, 90, 91, 93, 99, 119, 137, 176, 177, 203, 204, 212, 219] (D.length + 1)) envOK Tryz.func138 (by kernel_rfl) (by kernel_rfl) (by simp [XX, partB_length, bPs_length]) (Nat.le_of_ble_eq_true (by kernel_rfl)) ?_
  simp only [kFun, Tryz.f138, List.length_nil, List.length_cons, Nat.sub_zero, Nat.reduceSub, Nat.reduceAdd, List.nil_append, List.cons_append, List.replicate_succ, List.replicate_zero]
  simp only [XX, ↓VC, VP, TT, Nat.reduceEqDiff, reduceCtorEq, Nat.reduceAdd, Nat.reduceSub, Nat.reduceLT, Nat.reduceMul, Nat.reducePow, Nat.reduceLeDiff, Int.reduceToNat, Int.reduceLE, Int.reduceLT, Int.reducePow, partB_length, bPs_length]
  refine kCall_Ret (c_IndexFuncN D c hm) (by rfl) ((0, 0) :: rng 1 D.length) (by simp [CALL]) (seg_nest hPn (by simp [partB_length, hPn]) (by simp [cellsAt]; rw [List.take_of_length_le (by rw [ptrV_length, hPn]; exact Nat.le_refl _)]) (fun i p hp => ?_) bPs_id) (by simp [okL, okV]) (okB_nest (by simp [partB_length, hPn])) (by simp) fun z hz => ?_
  · have hi := (List.getElem?_eq_some_iff.1 hp).1
    have hlk : ((⟨false, ptrV 1 (bPs D)⟩ : Blk) :: partB false (bPs D))[1 + i]? = some ⟨false, p.cells⟩ := by rw [Nat.add_comm]; exact partB_get0 hp
    refine ⟨by simp [partB_length]; omega, ?_⟩
    unfold cellsAt
    rw [hlk]; simp
  simp only [CALL, ↓VC, VP, TT, Nat.reduceEqDiff, reduceCtorEq, Nat.reduceAdd, Nat.reduceSub, Nat.reduceLT, Nat.reduceMul, Nat.reducePow, Nat.reduceLeDiff, Int.reduceToNat, Int.reduceLE, Int.reduceLT, Int.reducePow, hz]
  refine ⟨_, _, List.range (D.length + 1), ⟨rfl, rfl⟩, LeS_nest rfl (by simp; rfl) (by simp [leT]) (by simp [stL, stV])⟩
end Go.Proofs.YtahnjhppkgndiaaGreat

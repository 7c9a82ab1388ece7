import Derived.Test.YtahnjhppkgndiaaGreatDrawS
import Derived.Test.YtahnjhppkgndiaaGreatDrwD
import Derived.Test.YtahnjhppkgndiaaGreatDgsB
import Derived.Test.YtahnjhppkgndiaaGreatDigP
import Derived.Test.YtahnjhppkgndiaaGreatParseDigest
import Derived.Test.YtahnjhppkgndiaaGreatDigestText
import Derived.Test.YtahnjhppkgndiaaGreatEngP
import Derived.Test.YtahnjhppkgndiaaGreatAbsorb
import Derived.Test.YtahnjhppkgndiaaGreatVcgJ
import Derived.Test.YtahnjhppkgndiaaGreatVcgZV
/- FnDigests: its sections from region 24 on. -/
set_option linter.unusedSimpArgs false
set_option linter.unusedVariables false
namespace Go.Proofs.YtahnjhppkgndiaaGreat
open Go Go.Vc
set_option maxRecDepth 10000
set_option maxHeartbeats 40000000
noncomputable def cx_FnDigests : Cx := XX (fun | 12 => .one 0 (.one 1 (.one 2 (.one 3 (.one 4 (.one 5 (.one 6 (.one 7 (.one 8 (.one 9 (.one 10 .nil)))))))))) | 17 => .one 0 (.one 1 (.one 2 (.one 3 (.one 4 (.one 5 (.one 6 (.one 7 (.one 8 (.one 9 (.one 10 (.one 11 (.one 12 .nil)))))))))))) | 1000008 => .cut .nil | 1000024 => .cut .nil | 1000036 => .cut .nil | 1000041 => .cut .nil | _ => .nil) (fun | 17 => [(10, 15)] | _ => []) [15, 71, 72, 73, 79, 80, 87, 90, 91, 93, 99, 119, 137, 176, 177, 203, 204, 212, 219] 1
theorem cx_FnDigests_E : cx_FnDigests.E = E := rfl
theorem cx_FnDigests_P : cx_FnDigests.P = Tryz.prog := rfl
theorem cx_FnDigests_mu : cx_FnDigests.mu = [15, 71, 72, 73, 79, 80, 87, 90, 91, 93, 99, 119, 137, 176, 177, 203, 204, 212, 219] := rfl
theorem cx_FnDigests_m : cx_FnDigests.m = 1 := rfl
theorem cx_FnDigests_ord12 : cx_FnDigests.ord 12 = .one 0 (.one 1 (.one 2 (.one 3 (.one 4 (.one 5 (.one 6 (.one 7 (.one 8 (.one 9 (.one 10 .nil)))))))))) := rfl
theorem cx_FnDigests_ord17 : cx_FnDigests.ord 17 = .one 0 (.one 1 (.one 2 (.one 3 (.one 4 (.one 5 (.one 6 (.one 7 (.one 8 (.one 9 (.one 10 (.one 11 (.one 12 .nil)))))))))))) := rfl
theorem cx_FnDigests_ord1000008 : cx_FnDigests.ord 1000008 = .cut .nil := rfl
theorem cx_FnDigests_ord1000024 : cx_FnDigests.ord 1000024 = .cut .nil := rfl
theorem cx_FnDigests_ord1000036 : cx_FnDigests.ord 1000036 = .cut .nil := rfl
theorem cx_FnDigests_ord1000041 : cx_FnDigests.ord 1000041 = .cut .nil := rfl
theorem cx_FnDigests_flt17 : cx_FnDigests.flt 17 = [(10, 15)] := rfl
theorem cx_FnDigests_flt12 : cx_FnDigests.flt 12 = [] := rfl
theorem cx_FnDigests_flt1000008 : cx_FnDigests.flt 1000008 = [] := rfl
theorem cx_FnDigests_flt1000024 : cx_FnDigests.flt 1000024 = [] := rfl
theorem cx_FnDigests_flt1000036 : cx_FnDigests.flt 1000036 = [] := rfl
theorem cx_FnDigests_flt1000041 : cx_FnDigests.flt 1000041 = [] := rfl
theorem CX_FnDigests : type_of% (
  And.intro @cx_FnDigests_E <|
  And.intro @cx_FnDigests_P <|
  And.intro @cx_FnDigests_mu <|
  And.intro @cx_FnDigests_m <|
  And.intro @cx_FnDigests_ord12 <|
  And.intro @cx_FnDigests_ord17 <|
  And.intro @cx_FnDigests_ord1000008 <|
  And.intro @cx_FnDigests_ord1000024 <|
  And.intro @cx_FnDigests_ord1000036 <|
  And.intro @cx_FnDigests_ord1000041 <|
  And.intro @cx_FnDigests_flt17 <|
  And.intro @cx_FnDigests_flt12 <|
  And.intro @cx_FnDigests_flt1000008 <|
  And.intro @cx_FnDigests_flt1000024 <|
  And.intro @cx_FnDigests_flt1000036 <|
  @cx_FnDigests_flt1000041) :=
  And.intro @cx_FnDigests_E <|
  And.intro @cx_FnDigests_P <|
  And.intro @cx_FnDigests_mu <|
  And.intro @cx_FnDigests_m <|
  And.intro @cx_FnDigests_ord12 <|
  And.intro @cx_FnDigests_ord17 <|
  And.intro @cx_FnDigests_ord1000008 <|
  And.intro @cx_FnDigests_ord1000024 <|
  And.intro @cx_FnDigests_ord1000036 <|
  And.intro @cx_FnDigests_ord1000041 <|
  And.intro @cx_FnDigests_flt17 <|
  And.intro @cx_FnDigests_flt12 <|
  And.intro @cx_FnDigests_flt1000008 <|
  And.intro @cx_FnDigests_flt1000024 <|
  And.intro @cx_FnDigests_flt1000036 <|
  @cx_FnDigests_flt1000041
section
variable {l : List UInt8} {c : Nat}
/-- The code alone is known. -/
abbrev dgS (l : List UInt8) (c : Nat) : List V := ((.s 0 0 l.length c) :: (List.replicate 269 .j))
theorem parse_two (L : List UInt8) : ∃ (o : List UInt8) (e : Int), o.length = 32 ∧ parseV (readD L) = .t [.a (bs o), .c (.int .i64 (e))] := by
  cases h : readD L with
  | none => exact ⟨zeroD, 6, by simp [zeroD], rfl⟩
  | some o => exact ⟨o, 0, readD_len h, rfl⟩
theorem arr_of (t : ByteArray) : ∃ L : List UInt8, t = ⟨L.toArray⟩ ∧ L.length = t.size := ⟨t.data.toList, by rw [Array.toArray_toList], Array.length_toList⟩
theorem dg_text (hc : l.length ≤ c) (hm : l.length ≤ 4096) : kFrom cx_FnDigests Tryz.f4 [8, 24, 36, 41] 41 lawPost (dgS l c) [⟨false, bs l⟩] := by
  simp only [kFrom, kFromK, kAt, Go.Vc.mark, lawPost, List.contains_cons, List.contains_nil, Nat.reduceBEq, Bool.or_false, Bool.false_or, Bool.true_or, Bool.or_true, Bool.false_eq_true, if_true, if_false, Nat.reduceAdd, Nat.reduceEqDiff, reduceCtorEq, Tryz.f4]
  simp only [CX_FnDigests, SPV, lawPost, ↓VC2, ZP, VP, TT, Nat.reduceEqDiff, reduceCtorEq, Nat.reduceAdd, Nat.reduceSub, Nat.reduceLT, Nat.reduceMul, Nat.reducePow, Nat.reduceLeDiff, Int.reduceToNat, Int.reduceLE, Int.reduceLT, Int.reducePow, dgS]
  refine kCall_Ret (d_DigestText hc hm) (by rfl) [(0, 0)] (by simp [CALL, SCB, instL_cip, okL_cip, instL_room, okL_room]) (by simp [CALL, SCB, instL_cip, okL_cip, instL_room, okL_room]) (by simp [CALL, SCB, instL_cip, okL_cip, instL_room, okL_room]) (by simp [okL_bs, okL_room, okL, okV, instL_cip, okL_cip, instL_room, okL_room]) (by simp [CALL, SCB, instL_cip, okL_cip, instL_room, okL_room]) fun g hg => ?_
  have tg : List.take 32 g = g := List.take_of_length_le (Nat.le_of_eq hg)
  have P1 := c_impl_ParseDigest (hexL g) (by rw [hexL_length]; omega)
  rw [readD_hexL hg] at P1
  simp only [parseV] at P1
  simp (config := { maxSteps := 2000000 }) only [CALL, ↓VC2, ZP, VP, TT, Nat.reduceEqDiff, reduceCtorEq, Nat.reduceAdd, Nat.reduceSub, Nat.reduceLT, Nat.reduceMul, Nat.reducePow, Nat.reduceLeDiff, Int.reduceToNat, Int.reduceLE, Int.reduceLT, Int.reducePow, GOB, CX_FnDigests, lawPost, SPV, instL_cip, instL_room, cipC_len z256 z16 z16, DC.cells, hg, tg]
  refine kCall_val (c_impl_DigestText g hg) (by rfl) [] (by simp [CALL, SCB, instL_cip, okL_cip, instL_room, okL_room, tg]) (by simp [CALL, SCB, instL_cip, okL_cip, instL_room, okL_room, tg]) (by simp [CALL, SCB, instL_cip, okL_cip, instL_room, okL_room, tg]) (by simp [okL_bs, okL_room, okL, okV, instL_cip, okL_cip, instL_room, okL_room, tg]) ?_
  simp (config := { maxSteps := 2000000 }) only [CALL, ↓VC2, ZP, VP, TT, Nat.reduceEqDiff, reduceCtorEq, Nat.reduceAdd, Nat.reduceSub, Nat.reduceLT, Nat.reduceMul, Nat.reducePow, Nat.reduceLeDiff, Int.reduceToNat, Int.reduceLE, Int.reduceLT, Int.reducePow, GOB, CX_FnDigests, lawPost, SPV, instL_cip, instL_room, cipC_len z256 z16 z16, DC.cells, hg, tg]
  refine kCall_val (P1) (by rfl) [] (by simp [CALL, SCB, instL_cip, okL_cip, instL_room, okL_room, tg]) (by simp [CALL, SCB, instL_cip, okL_cip, instL_room, okL_room, tg]) (by simp [CALL, SCB, instL_cip, okL_cip, instL_room, okL_room, tg]) (by simp [okL_bs, okL_room, okL, okV, instL_cip, okL_cip, instL_room, okL_room, tg]) ?_
  simp (config := { maxSteps := 2000000 }) only [CALL, ↓VC2, ZP, VP, TT, Nat.reduceEqDiff, reduceCtorEq, Nat.reduceAdd, Nat.reduceSub, Nat.reduceLT, Nat.reduceMul, Nat.reducePow, Nat.reduceLeDiff, Int.reduceToNat, Int.reduceLE, Int.reduceLT, Int.reducePow, GOB, CX_FnDigests, lawPost, SPV, instL_cip, instL_room, cipC_len z256 z16 z16, DC.cells, hg, tg]
  refine kCall_Ret (d_ParseDigest hc hm) (by rfl) [(0, 0)] (by simp [CALL, SCB, instL_cip, okL_cip, instL_room, okL_room]) (by simp [CALL, SCB, instL_cip, okL_cip, instL_room, okL_room]) (by simp [CALL, SCB, instL_cip, okL_cip, instL_room, okL_room]) (by simp [okL_bs, okL_room, okL, okV, instL_cip, okL_cip, instL_room, okL_room]) (by simp [CALL, SCB, instL_cip, okL_cip, instL_room, okL_room]) fun t ht => ?_
  obtain ⟨L, rfl, hL⟩ := arr_of t
  obtain ⟨o, e, ho, hp⟩ := parse_two L
  have to : List.take 32 o = o := List.take_of_length_le (Nat.le_of_eq ho)
  have P2 := c_impl_ParseDigest L (by omega)
  have P3 := c_spec_ParseDigest L (by omega)
  rw [hp] at P2 P3
  simp (config := { maxSteps := 2000000 }) only [CALL, ↓VC2, ZP, VP, TT, Nat.reduceEqDiff, reduceCtorEq, Nat.reduceAdd, Nat.reduceSub, Nat.reduceLT, Nat.reduceMul, Nat.reducePow, Nat.reduceLeDiff, Int.reduceToNat, Int.reduceLE, Int.reduceLT, Int.reducePow, GOB, CX_FnDigests, lawPost, SPV, instL_cip, instL_room, cipC_len z256 z16 z16, DC.cells, hg, tg, ho, to]
  refine kCall_val (P2) (by rfl) [] (by simp [CALL, SCB, instL_cip, okL_cip, instL_room, okL_room, tg, to]) (by simp [CALL, SCB, instL_cip, okL_cip, instL_room, okL_room, tg, to]) (by simp [CALL, SCB, instL_cip, okL_cip, instL_room, okL_room, tg, to]) (by simp [okL_bs, okL_room, okL, okV, instL_cip, okL_cip, instL_room, okL_room, tg, to]) ?_
  simp (config := { maxSteps := 2000000 }) only [CALL, ↓VC2, ZP, VP, TT, Nat.reduceEqDiff, reduceCtorEq, Nat.reduceAdd, Nat.reduceSub, Nat.reduceLT, Nat.reduceMul, Nat.reducePow, Nat.reduceLeDiff, Int.reduceToNat, Int.reduceLE, Int.reduceLT, Int.reducePow, GOB, CX_FnDigests, lawPost, SPV, instL_cip, instL_room, cipC_len z256 z16 z16, DC.cells, hg, tg, ho, to]
  refine kCall_val (P3) (by rfl) [] (by simp [CALL, SCB, instL_cip, okL_cip, instL_room, okL_room, tg, to]) (by simp [CALL, SCB, instL_cip, okL_cip, instL_room, okL_room, tg, to]) (by simp [CALL, SCB, instL_cip, okL_cip, instL_room, okL_room, tg, to]) (by simp [okL_bs, okL_room, okL, okV, instL_cip, okL_cip, instL_room, okL_room, tg, to]) ?_
  simp (config := { maxSteps := 2000000 }) only [CALL, ↓VC2, ZP, VP, TT, Nat.reduceEqDiff, reduceCtorEq, Nat.reduceAdd, Nat.reduceSub, Nat.reduceLT, Nat.reduceMul, Nat.reducePow, Nat.reduceLeDiff, Int.reduceToNat, Int.reduceLE, Int.reduceLT, Int.reducePow, GOB, CX_FnDigests, lawPost, SPV, instL_cip, instL_room, cipC_len z256 z16 z16, DC.cells, hg, tg, ho, to]
  refine kCall_val (c_spec_DigestText g hg) (by rfl) [] (by simp [CALL, SCB, instL_cip, okL_cip, instL_room, okL_room, tg, to]) (by simp [CALL, SCB, instL_cip, okL_cip, instL_room, okL_room, tg, to]) (by simp [CALL, SCB, instL_cip, okL_cip, instL_room, okL_room, tg, to]) (by simp [okL_bs, okL_room, okL, okV, instL_cip, okL_cip, instL_room, okL_room, tg, to]) ?_
  simp (config := { maxSteps := 2000000 }) only [CALL, ↓VC2, ZP, VP, TT, Nat.reduceEqDiff, reduceCtorEq, Nat.reduceAdd, Nat.reduceSub, Nat.reduceLT, Nat.reduceMul, Nat.reducePow, Nat.reduceLeDiff, Int.reduceToNat, Int.reduceLE, Int.reduceLT, Int.reducePow, GOB, CX_FnDigests, lawPost, SPV, instL_cip, instL_room, cipC_len z256 z16 z16, DC.cells, hg, tg, ho, to, beq_self_eq_true]
  refine ⟨intCells_bs _, intCells_bs _, fun b1 hb1 => ?_⟩
  obtain rfl : b1 = true := hb1.2 trivial
  simp (config := { maxSteps := 2000000 }) only [CALL, ↓VC2, ZP, VP, TT, Nat.reduceEqDiff, reduceCtorEq, Nat.reduceAdd, Nat.reduceSub, Nat.reduceLT, Nat.reduceMul, Nat.reducePow, Nat.reduceLeDiff, Int.reduceToNat, Int.reduceLE, Int.reduceLT, Int.reducePow, GOB, CX_FnDigests, lawPost, SPV, instL_cip, instL_room, cipC_len z256 z16 z16, DC.cells, hg, tg, ho, to, beq_self_eq_true]
  refine ⟨intCells_bs _, intCells_bs _, fun b2 hb2 => ?_⟩
  obtain rfl : b2 = true := hb2.2 trivial
  try simp (config := { maxSteps := 2000000 }) only [CALL, ↓VC2, ZP, VP, TT, Nat.reduceEqDiff, reduceCtorEq, Nat.reduceAdd, Nat.reduceSub, Nat.reduceLT, Nat.reduceMul, Nat.reducePow, Nat.reduceLeDiff, Int.reduceToNat, Int.reduceLE, Int.reduceLT, Int.reducePow, GOB, CX_FnDigests, lawPost, SPV, instL_cip, instL_room, cipC_len z256 z16 z16, DC.cells, hg, tg, ho, to]
  exact ⟨_, [⟨false, bs l⟩], [0], rfl, by simp [-List.reduceReplicate, LES]⟩
theorem dg_house (hc : l.length ≤ c) (hm : l.length ≤ 4096) : kFrom cx_FnDigests Tryz.f4 [8, 24, 36, 41] 36 lawPost (dgS l c) [⟨false, bs l⟩] := by
  simp only [kFrom, kFromK, kAt, Go.Vc.mark, lawPost, List.contains_cons, List.contains_nil, Nat.reduceBEq, Bool.or_false, Bool.false_or, Bool.true_or, Bool.or_true, Bool.false_eq_true, if_true, if_false, Nat.reduceAdd, Nat.reduceEqDiff, reduceCtorEq, Tryz.f4]
  simp only [CX_FnDigests, SPV, lawPost, ↓VC2, ZP, VP, TT, Nat.reduceEqDiff, reduceCtorEq, Nat.reduceAdd, Nat.reduceSub, Nat.reduceLT, Nat.reduceMul, Nat.reducePow, Nat.reduceLeDiff, Int.reduceToNat, Int.reduceLE, Int.reduceLT, Int.reducePow, dgS]
  refine kCall_Ret (d_HouseDigest hc hm) (by rfl) [(0, 0)] (by simp [CALL, SCB, instL_cip, okL_cip, instL_room, okL_room]) (by simp [CALL, SCB, instL_cip, okL_cip, instL_room, okL_room]) (by simp [CALL, SCB, instL_cip, okL_cip, instL_room, okL_room]) (by simp [okL_bs, okL_room, okL, okV, instL_cip, okL_cip, instL_room, okL_room]) (by simp [CALL, SCB, instL_cip, okL_cip, instL_room, okL_room]) fun x1 h1 => ?_
  obtain ⟨D, r⟩ := x1
  simp only at h1 ⊢
  have hh := hdD_len D
  have th : List.take 32 (hdD D).1 = (hdD D).1 := List.take_of_length_le (Nat.le_of_eq hh)
  have H1 := c_impl_HouseDigest D (D.length + r) (by omega)
  have H2 := c_spec_HouseDigest D (D.length + r) (by omega)
  generalize (hdD D).1 = w at *
  generalize (hdD D).2 = e at *
  simp (config := { maxSteps := 2000000 }) only [CALL, ↓VC2, ZP, VP, TT, Nat.reduceEqDiff, reduceCtorEq, Nat.reduceAdd, Nat.reduceSub, Nat.reduceLT, Nat.reduceMul, Nat.reducePow, Nat.reduceLeDiff, Int.reduceToNat, Int.reduceLE, Int.reduceLT, Int.reducePow, GOB, CX_FnDigests, lawPost, SPV, instL_cip, instL_room, cipC_len z256 z16 z16, DC.cells, hh, th]
  refine kCall_val (H1) (by rfl) [(1, 0)] (by simp [CALL, SCB, instL_cip, okL_cip, instL_room, okL_room, th]) (by simp [CALL, SCB, instL_cip, okL_cip, instL_room, okL_room, th]) (by simp [CALL, SCB, instL_cip, okL_cip, instL_room, okL_room, th]) (by simp [okL_bs, okL_room, okL, okV, instL_cip, okL_cip, instL_room, okL_room, th]) ?_
  simp (config := { maxSteps := 2000000 }) only [CALL, ↓VC2, ZP, VP, TT, Nat.reduceEqDiff, reduceCtorEq, Nat.reduceAdd, Nat.reduceSub, Nat.reduceLT, Nat.reduceMul, Nat.reducePow, Nat.reduceLeDiff, Int.reduceToNat, Int.reduceLE, Int.reduceLT, Int.reducePow, GOB, CX_FnDigests, lawPost, SPV, instL_cip, instL_room, cipC_len z256 z16 z16, DC.cells, hh, th]
  refine kCall_val (H2) (by rfl) [(1, 0)] (by simp [CALL, SCB, instL_cip, okL_cip, instL_room, okL_room, th]) (by simp [CALL, SCB, instL_cip, okL_cip, instL_room, okL_room, th]) (by simp [CALL, SCB, instL_cip, okL_cip, instL_room, okL_room, th]) (by simp [okL_bs, okL_room, okL, okV, instL_cip, okL_cip, instL_room, okL_room, th]) ?_
  simp (config := { maxSteps := 2000000 }) only [CALL, ↓VC2, ZP, VP, TT, Nat.reduceEqDiff, reduceCtorEq, Nat.reduceAdd, Nat.reduceSub, Nat.reduceLT, Nat.reduceMul, Nat.reducePow, Nat.reduceLeDiff, Int.reduceToNat, Int.reduceLE, Int.reduceLT, Int.reducePow, GOB, CX_FnDigests, lawPost, SPV, instL_cip, instL_room, cipC_len z256 z16 z16, DC.cells, hh, th, bne_self_eq_false]
  refine ⟨intCells_bs _, intCells_bs _, fun b1 hb1 => ?_⟩
  obtain rfl : b1 = true := hb1.2 trivial
  rw [if_neg (by simp)]
  exact kMeet (dg_text hc hm) (by kernel_rfl) ⟨[0], by simp [-List.reduceReplicate, LES, CX_FnDigests, SPL, List.drop_succ_cons, List.length_append, List.length_replicate, List.length_cons, okL_app, okL_rep, dgS]⟩
theorem padMR_ok {o : List UInt8} (h : o.length ≤ 2000) : padMR o = .ok (padM o) := by unfold padMR; rw [if_pos h]
theorem dg_absorb (hc : l.length ≤ c) (hm : l.length ≤ 4096) : kFrom cx_FnDigests Tryz.f4 [8, 24, 36, 41] 24 lawPost (dgS l c) [⟨false, bs l⟩] := by
  simp only [kFrom, kFromK, kAt, Go.Vc.mark, lawPost, List.contains_cons, List.contains_nil, Nat.reduceBEq, Bool.or_false, Bool.false_or, Bool.true_or, Bool.or_true, Bool.false_eq_true, if_true, if_false, Nat.reduceAdd, Nat.reduceEqDiff, reduceCtorEq, Tryz.f4]
  simp only [CX_FnDigests, SPV, lawPost, ↓VC2, ZP, VP, TT, Nat.reduceEqDiff, reduceCtorEq, Nat.reduceAdd, Nat.reduceSub, Nat.reduceLT, Nat.reduceMul, Nat.reducePow, Nat.reduceLeDiff, Int.reduceToNat, Int.reduceLE, Int.reduceLT, Int.reducePow, dgS]
  refine kCall_Ret (d_AbsorbBlock hc hm) (by rfl) [(0, 0)] (by simp [CALL, SCB, instL_cip, okL_cip, instL_room, okL_room]) (by simp [CALL, SCB, instL_cip, okL_cip, instL_room, okL_room]) (by simp [CALL, SCB, instL_cip, okL_cip, instL_room, okL_room]) (by simp [okL_bs, okL_room, okL, okV, instL_cip, okL_cip, instL_room, okL_room]) (by simp [CALL, SCB, instL_cip, okL_cip, instL_room, okL_room]) fun x1 h1 => ?_
  obtain ⟨⟨z, b, A, pl, n⟩, st, ms⟩ := x1
  obtain ⟨⟨hb, hA, hp⟩, hst, hms⟩ := h1
  simp only [DC.cells] at hb hA hp hst hms ⊢
  have ho := absO_len z b A pl n st ms
  have to : List.take 32 (absO z b A pl n st ms) = absO z b A pl n st ms := List.take_of_length_le (Nat.le_of_eq ho)
  have A1 := c_impl_AbsorbBlock z n b A pl st ms hb hA hp hst hms
  have A2 := c_spec_AbsorbBlock z n b A pl st ms hb hA hp hst hms
  generalize absO z b A pl n st ms = w at *
  generalize cipE z b A pl n = e at *
  simp (config := { maxSteps := 2000000 }) only [CALL, ↓VC2, ZP, VP, TT, Nat.reduceEqDiff, reduceCtorEq, Nat.reduceAdd, Nat.reduceSub, Nat.reduceLT, Nat.reduceMul, Nat.reducePow, Nat.reduceLeDiff, Int.reduceToNat, Int.reduceLE, Int.reduceLT, Int.reducePow, GOB, CX_FnDigests, lawPost, SPV, instL_cip, instL_room, cipC_len z256 z16 z16, DC.cells, cipC_len hb hA hp, hst, hms, ↓cip_put_all z256 z16 z16 hb hA hp, cipC_len hb hA hp, ↓cip_all hb hA hp, ho, to]
  refine kCall_val (A1) (by rfl) [] (by simp [CALL, SCB, instL_cip, okL_cip, instL_room, okL_room, to]) (by simp [CALL, SCB, instL_cip, okL_cip, instL_room, okL_room, to]) (by simp [CALL, SCB, instL_cip, okL_cip, instL_room, okL_room, to]) (by simp [okL_bs, okL_room, okL, okV, instL_cip, okL_cip, instL_room, okL_room, to]) ?_
  simp (config := { maxSteps := 2000000 }) only [CALL, ↓VC2, ZP, VP, TT, Nat.reduceEqDiff, reduceCtorEq, Nat.reduceAdd, Nat.reduceSub, Nat.reduceLT, Nat.reduceMul, Nat.reducePow, Nat.reduceLeDiff, Int.reduceToNat, Int.reduceLE, Int.reduceLT, Int.reducePow, GOB, CX_FnDigests, lawPost, SPV, instL_cip, instL_room, cipC_len z256 z16 z16, DC.cells, cipC_len hb hA hp, hst, hms, ↓cip_all hb hA hp, ho, to]
  refine kCall_val (A2) (by rfl) [] (by simp [CALL, SCB, instL_cip, okL_cip, instL_room, okL_room, to]) (by simp [CALL, SCB, instL_cip, okL_cip, instL_room, okL_room, to]) (by simp [CALL, SCB, instL_cip, okL_cip, instL_room, okL_room, to]) (by simp [okL_bs, okL_room, okL, okV, instL_cip, okL_cip, instL_room, okL_room, to]) ?_
  simp (config := { maxSteps := 2000000 }) only [CALL, ↓VC2, ZP, VP, TT, Nat.reduceEqDiff, reduceCtorEq, Nat.reduceAdd, Nat.reduceSub, Nat.reduceLT, Nat.reduceMul, Nat.reducePow, Nat.reduceLeDiff, Int.reduceToNat, Int.reduceLE, Int.reduceLT, Int.reducePow, GOB, CX_FnDigests, lawPost, SPV, instL_cip, instL_room, cipC_len z256 z16 z16, DC.cells, cipC_len hb hA hp, hst, hms, ↓cip_all hb hA hp, ho, to]
  refine kCall_Ret (d_UnpadMessage hc hm) (by rfl) [(0, 0)] (by simp [CALL, SCB, instL_cip, okL_cip, instL_room, okL_room]) (by simp [CALL, SCB, instL_cip, okL_cip, instL_room, okL_room]) (by simp [CALL, SCB, instL_cip, okL_cip, instL_room, okL_room]) (by simp [okL_bs, okL_room, okL, okV, instL_cip, okL_cip, instL_room, okL_room]) (by simp [CALL, SCB, instL_cip, okL_cip, instL_room, okL_room]) fun x2 h2 => ?_
  obtain ⟨D, k, r⟩ := x2
  obtain ⟨hD, hk⟩ := h2
  simp only at hD hk ⊢
  have hl : (D.take k).length = k := by rw [List.length_take]; omega
  have hT : ∀ X, List.take k (bs D ++ X) = bs (D.take k) := fun X => by rw [List.take_append_of_le_length (by rw [bs_length]; omega), bs_take]
  obtain ⟨o, e2, ho2, S1, I1, Tl⟩ := two_Unpad (D.take k) (D.length + r) (by omega)
  rw [hl] at S1 I1
  simp (config := { maxSteps := 2000000 }) only [CALL, ↓VC2, ZP, VP, TT, Nat.reduceEqDiff, reduceCtorEq, Nat.reduceAdd, Nat.reduceSub, Nat.reduceLT, Nat.reduceMul, Nat.reducePow, Nat.reduceLeDiff, Int.reduceToNat, Int.reduceLE, Int.reduceLT, Int.reducePow, GOB, CX_FnDigests, lawPost, SPV, instL_cip, instL_room, cipC_len z256 z16 z16, DC.cells, ho, to]
  refine kCall_Ret (I1) (by rfl) [(6, 0)] (by simp [CALL, SCB, instL_cip, okL_cip, instL_room, okL_room, hT, hl]) (by simp [CALL, SCB, instL_cip, okL_cip, instL_room, okL_room, hT, hl]) (by simp [CALL, SCB, instL_cip, okL_cip, instL_room, okL_room, hT, hl]) (by simp [okL_bs, okL_room, okL, okV, instL_cip, okL_cip, instL_room, okL_room, hT, hl]) (by simp [CALL, SCB, instL_cip, okL_cip, instL_room, okL_room, hT, hl]) fun r1 _ => ?_
  simp (config := { maxSteps := 2000000 }) only [CALL, ↓VC2, ZP, VP, TT, Nat.reduceEqDiff, reduceCtorEq, Nat.reduceAdd, Nat.reduceSub, Nat.reduceLT, Nat.reduceMul, Nat.reducePow, Nat.reduceLeDiff, Int.reduceToNat, Int.reduceLE, Int.reduceLT, Int.reducePow, GOB, CX_FnDigests, lawPost, SPV, instL_cip, instL_room, cipC_len z256 z16 z16, DC.cells]
  refine kCall_Ret (S1) (by rfl) [(6, 0)] (by simp [CALL, SCB, instL_cip, okL_cip, instL_room, okL_room, hT, hl]) (by simp [CALL, SCB, instL_cip, okL_cip, instL_room, okL_room, hT, hl]) (by simp [CALL, SCB, instL_cip, okL_cip, instL_room, okL_room, hT, hl]) (by simp [okL_bs, okL_room, okL, okV, instL_cip, okL_cip, instL_room, okL_room, hT, hl]) (by simp [CALL, SCB, instL_cip, okL_cip, instL_room, okL_room, hT, hl]) fun r2 _ => ?_
  simp (config := { maxSteps := 2000000 }) only [CALL, ↓VC2, ZP, VP, TT, Nat.reduceEqDiff, reduceCtorEq, Nat.reduceAdd, Nat.reduceSub, Nat.reduceLT, Nat.reduceMul, Nat.reducePow, Nat.reduceLeDiff, Int.reduceToNat, Int.reduceLE, Int.reduceLT, Int.reducePow, GOB, CX_FnDigests, lawPost, SPV, instL_cip, instL_room, cipC_len z256 z16 z16, DC.cells, ho, to, bne_self_eq_false]
  refine ⟨intCells_bs _, intCells_bs _, fun b1 hb1 => ?_⟩
  obtain rfl : b1 = true := hb1.2 trivial
  simp (config := { maxSteps := 2000000 }) only [CALL, ↓VC2, ZP, VP, TT, Nat.reduceEqDiff, reduceCtorEq, Nat.reduceAdd, Nat.reduceSub, Nat.reduceLT, Nat.reduceMul, Nat.reducePow, Nat.reduceLeDiff, Int.reduceToNat, Int.reduceLE, Int.reduceLT, Int.reducePow, GOB, CX_FnDigests, lawPost, SPV, instL_cip, instL_room, cipC_len z256 z16 z16, DC.cells, ho, to, bne_self_eq_false]
  refine kCall_val (d_bytes5 o (o.length + r1) (o.length + r2) (by omega) (by omega) (by omega)) (by rfl) [(7, 0), (8, 0)] (by simp [CALL, SCB, instL_cip, okL_cip, instL_room, okL_room]) (by simp [CALL, SCB, instL_cip, okL_cip, instL_room, okL_room]) (by simp [CALL, SCB, instL_cip, okL_cip, instL_room, okL_room]) (by simp [okL_bs, okL_room, okL, okV, instL_cip, okL_cip, instL_room, okL_room]) ?_
  simp (config := { maxSteps := 2000000 }) only [CALL, ↓VC2, ZP, VP, TT, Nat.reduceEqDiff, reduceCtorEq, Nat.reduceAdd, Nat.reduceSub, Nat.reduceLT, Nat.reduceMul, Nat.reducePow, Nat.reduceLeDiff, Int.reduceToNat, Int.reduceLE, Int.reduceLT, Int.reducePow, GOB, CX_FnDigests, lawPost, SPV, instL_cip, instL_room, cipC_len z256 z16 z16, DC.cells, bne_self_eq_false, Bool.not_true]
  rcases Tl with he | ⟨rfl, hpo⟩
  · have f0 : (e2 == 0) = false := beq_eq_false_iff_ne.2 he
    simp (config := { maxSteps := 2000000 }) only [CALL, ↓VC2, ZP, VP, TT, Nat.reduceEqDiff, reduceCtorEq, Nat.reduceAdd, Nat.reduceSub, Nat.reduceLT, Nat.reduceMul, Nat.reducePow, Nat.reduceLeDiff, Int.reduceToNat, Int.reduceLE, Int.reduceLT, Int.reducePow, GOB, CX_FnDigests, lawPost, SPV, instL_cip, instL_room, cipC_len z256 z16 z16, DC.cells, f0]
    exact kMeet (dg_house hc hm) (by kernel_rfl) ⟨[0], by simp [-List.reduceReplicate, LES, CX_FnDigests, SPL, List.drop_succ_cons, List.length_append, List.length_replicate, List.length_cons, okL_app, okL_rep, dgS]⟩
  · have M1 := c_impl_PadMessage o (o.length + r1) (by omega)
    rw [padMR_ok ho2, hpo] at M1
    have M2 : LC Tryz.prog 34 [.s 0 0 o.length (o.length + r1)] [⟨false, bs o⟩] (Ret [⟨false, bs o⟩] (fun _ : Nat => True) fun r => (.t [.s 1 0 (D.take k).length ((D.take k).length + r), .c (.int .i64 (0))], [⟨true, bs (D.take k) ++ List.replicate r .j⟩])) := M1
    rw [hl] at M2
    simp (config := { maxSteps := 2000000 }) only [CALL, ↓VC2, ZP, VP, TT, Nat.reduceEqDiff, reduceCtorEq, Nat.reduceAdd, Nat.reduceSub, Nat.reduceLT, Nat.reduceMul, Nat.reducePow, Nat.reduceLeDiff, Int.reduceToNat, Int.reduceLE, Int.reduceLT, Int.reducePow, GOB, CX_FnDigests, lawPost, SPV, instL_cip, instL_room, cipC_len z256 z16 z16, DC.cells, beq_self_eq_true]
    refine kCall_Ret (M2) (by rfl) [(7, 0)] (by simp [CALL, SCB, instL_cip, okL_cip, instL_room, okL_room]) (by simp [CALL, SCB, instL_cip, okL_cip, instL_room, okL_room]) (by simp [CALL, SCB, instL_cip, okL_cip, instL_room, okL_room]) (by simp [okL_bs, okL_room, okL, okV, instL_cip, okL_cip, instL_room, okL_room]) (by simp [CALL, SCB, instL_cip, okL_cip, instL_room, okL_room]) fun r3 _ => ?_
    simp (config := { maxSteps := 2000000 }) only [CALL, ↓VC2, ZP, VP, TT, Nat.reduceEqDiff, reduceCtorEq, Nat.reduceAdd, Nat.reduceSub, Nat.reduceLT, Nat.reduceMul, Nat.reducePow, Nat.reduceLeDiff, Int.reduceToNat, Int.reduceLE, Int.reduceLT, Int.reducePow, GOB, CX_FnDigests, lawPost, SPV, instL_cip, instL_room, cipC_len z256 z16 z16, DC.cells, bne_self_eq_false]
    have B1 := d_bytes5 (D.take k) (k + r3) (D.length + r) (by omega) (by omega) (by omega)
    rw [hl] at B1
    refine kCall_val (B1) (by rfl) [(9, 0), (6, 0)] (by simp [CALL, SCB, instL_cip, okL_cip, instL_room, okL_room, hT, hl]) (by simp [CALL, SCB, instL_cip, okL_cip, instL_room, okL_room, hT, hl]) (by simp [CALL, SCB, instL_cip, okL_cip, instL_room, okL_room, hT, hl]) (by simp [okL_bs, okL_room, okL, okV, instL_cip, okL_cip, instL_room, okL_room, hT, hl]) ?_
    simp (config := { maxSteps := 2000000 }) only [CALL, ↓VC2, ZP, VP, TT, Nat.reduceEqDiff, reduceCtorEq, Nat.reduceAdd, Nat.reduceSub, Nat.reduceLT, Nat.reduceMul, Nat.reducePow, Nat.reduceLeDiff, Int.reduceToNat, Int.reduceLE, Int.reduceLT, Int.reducePow, GOB, CX_FnDigests, lawPost, SPV, instL_cip, instL_room, cipC_len z256 z16 z16, DC.cells, bne_self_eq_false, Bool.not_true]
    exact kMeet (dg_house hc hm) (by kernel_rfl) ⟨[0], by simp [-List.reduceReplicate, LES, CX_FnDigests, SPL, List.drop_succ_cons, List.length_append, List.length_replicate, List.length_cons, okL_app, okL_rep, dgS]⟩
end
end Go.Proofs.YtahnjhppkgndiaaGreat

import Derived.Test.YtahnjhppkgndiaaGreatDrawS
import Derived.Test.YtahnjhppkgndiaaGreatDrawL
import Derived.Test.YtahnjhppkgndiaaGreatTagM
import Derived.Test.YtahnjhppkgndiaaGreatTk
import Derived.Test.YtahnjhppkgndiaaGreatVcgJ
import Derived.Test.YtahnjhppkgndiaaGreatVcgZV
/- FnTags: its sections from region 31 on. -/
set_option linter.unusedSimpArgs false
set_option linter.unusedVariables false
namespace Go.Proofs.YtahnjhppkgndiaaGreat
open Go Go.Vc
set_option maxRecDepth 10000
set_option maxHeartbeats 40000000
noncomputable def cx_FnTags : Cx := XX (fun | 27 => .one 0 (.one 1 (.one 2 (.one 3 (.one 4 (.one 5 (.one 6 (.one 7 (.one 8 .nil)))))))) | 29 => .one 0 (.one 1 (.one 2 (.one 3 (.one 4 (.one 5 (.one 6 (.one 7 (.one 8 (.one 9 (.one 10 (.one 11 (.one 12 (.one 13 (.one 14 .nil)))))))))))))) | 37 => .cut (.one 2 (.one 4 (.alt (.one 0 (.alt (.one 1 (.alt (.one 3 (.one 5 (.one 6 (.one 7 (.one 8 (.one 9 (.one 10 (.one 11 (.one 12 (.one 13 (.one 14 .nil))))))))))) (.one 5 (.alt (.one 3 (.one 6 (.one 7 (.one 8 (.one 9 (.one 10 (.one 11 (.one 12 (.one 13 (.one 14 .nil)))))))))) (.one 6 (.one 3 (.one 7 (.one 8 (.one 9 (.one 10 (.one 11 (.one 12 (.one 13 (.one 14 .nil)))))))))))))) (.one 5 (.alt (.one 1 (.alt (.one 3 (.one 6 (.one 7 (.one 8 (.one 9 (.one 10 (.one 11 (.one 12 (.one 13 (.one 14 .nil)))))))))) (.one 6 (.one 3 (.one 7 (.one 8 (.one 9 (.one 10 (.one 11 (.one 12 (.one 13 (.one 14 .nil)))))))))))) (.one 6 (.one 1 (.one 3 (.one 7 (.one 8 (.one 9 (.one 10 (.one 11 (.one 12 (.one 13 (.one 14 .nil))))))))))))))) (.alt (.one 1 (.alt (.one 0 (.alt (.one 3 (.one 5 (.one 6 (.one 7 (.one 8 (.one 9 (.one 10 (.one 11 (.one 12 (.one 13 (.one 14 .nil))))))))))) (.one 5 (.alt (.one 3 (.one 6 (.one 7 (.one 8 (.one 9 (.one 10 (.one 11 (.one 12 (.one 13 (.one 14 .nil)))))))))) (.one 6 (.one 3 (.one 7 (.one 8 (.one 9 (.one 10 (.one 11 (.one 12 (.one 13 (.one 14 .nil)))))))))))))) (.alt (.one 3 (.one 5 (.alt (.one 0 (.one 6 (.one 7 (.one 8 (.one 9 (.one 10 (.one 11 (.one 12 (.one 13 (.one 14 .nil)))))))))) (.one 6 (.alt (.one 0 (.one 7 (.one 8 (.one 9 (.one 10 (.one 11 (.one 12 (.one 13 (.one 14 .nil))))))))) (.one 7 (.one 0 (.one 8 (.one 9 (.one 10 (.one 11 (.one 12 (.one 13 (.one 14 .nil)))))))))))))) (.one 5 (.alt (.one 0 (.alt (.one 3 (.one 6 (.one 7 (.one 8 (.one 9 (.one 10 (.one 11 (.one 12 (.one 13 (.one 14 .nil)))))))))) (.one 6 (.one 3 (.one 7 (.one 8 (.one 9 (.one 10 (.one 11 (.one 12 (.one 13 (.one 14 .nil)))))))))))) (.alt (.one 3 (.alt (.one 0 (.one 6 (.one 7 (.one 8 (.one 9 (.one 10 (.one 11 (.one 12 (.one 13 (.one 14 .nil)))))))))) (.one 6 (.alt (.one 0 (.one 7 (.one 8 (.one 9 (.one 10 (.one 11 (.one 12 (.one 13 (.one 14 .nil))))))))) (.one 7 (.one 0 (.one 8 (.one 9 (.one 10 (.one 11 (.one 12 (.one 13 (.one 14 .nil))))))))))))) (.one 6 (.alt (.one 0 (.one 3 (.one 7 (.one 8 (.one 9 (.one 10 (.one 11 (.one 12 (.one 13 (.one 14 .nil)))))))))) (.one 3 (.alt (.one 0 (.one 7 (.one 8 (.one 9 (.one 10 (.one 11 (.one 12 (.one 13 (.one 14 .nil))))))))) (.one 7 (.one 0 (.one 8 (.one 9 (.one 10 (.one 11 (.one 12 (.one 13 (.one 14 .nil))))))))))))))))))) (.one 5 (.alt (.one 0 (.alt (.one 1 (.alt (.one 3 (.one 6 (.one 7 (.one 8 (.one 9 (.one 10 (.one 11 (.one 12 (.one 13 (.one 14 .nil)))))))))) (.one 6 (.one 3 (.one 7 (.one 8 (.one 9 (.one 10 (.one 11 (.one 12 (.one 13 (.one 14 .nil)))))))))))) (.one 6 (.one 1 (.one 3 (.one 7 (.one 8 (.one 9 (.one 10 (.one 11 (.one 12 (.one 13 (.one 14 .nil))))))))))))) (.alt (.one 1 (.alt (.one 0 (.alt (.one 3 (.one 6 (.one 7 (.one 8 (.one 9 (.one 10 (.one 11 (.one 12 (.one 13 (.one 14 .nil)))))))))) (.one 6 (.one 3 (.one 7 (.one 8 (.one 9 (.one 10 (.one 11 (.one 12 (.one 13 (.one 14 .nil)))))))))))) (.alt (.one 3 (.alt (.one 0 (.one 6 (.one 7 (.one 8 (.one 9 (.one 10 (.one 11 (.one 12 (.one 13 (.one 14 .nil)))))))))) (.one 6 (.alt (.one 0 (.one 7 (.one 8 (.one 9 (.one 10 (.one 11 (.one 12 (.one 13 (.one 14 .nil))))))))) (.one 7 (.one 0 (.one 8 (.one 9 (.one 10 (.one 11 (.one 12 (.one 13 (.one 14 .nil))))))))))))) (.one 6 (.alt (.one 0 (.one 3 (.one 7 (.one 8 (.one 9 (.one 10 (.one 11 (.one 12 (.one 13 (.one 14 .nil)))))))))) (.one 3 (.alt (.one 0 (.one 7 (.one 8 (.one 9 (.one 10 (.one 11 (.one 12 (.one 13 (.one 14 .nil))))))))) (.one 7 (.one 0 (.one 8 (.one 9 (.one 10 (.one 11 (.one 12 (.one 13 (.one 14 .nil)))))))))))))))) (.one 6 (.alt (.one 0 (.one 1 (.one 3 (.one 7 (.one 8 (.one 9 (.one 10 (.one 11 (.one 12 (.one 13 (.one 14 .nil))))))))))) (.one 1 (.alt (.one 0 (.one 3 (.one 7 (.one 8 (.one 9 (.one 10 (.one 11 (.one 12 (.one 13 (.one 14 .nil)))))))))) (.one 3 (.alt (.one 0 (.one 7 (.one 8 (.one 9 (.one 10 (.one 11 (.one 12 (.one 13 (.one 14 .nil))))))))) (.one 7 (.one 0 (.one 8 (.one 9 (.one 10 (.one 11 (.one 12 (.one 13 (.one 14 .nil)))))))))))))))))))))) | 42 => .one 0 (.one 2 (.one 1 (.one 3 (.one 4 (.one 5 (.one 6 (.one 7 (.one 9 (.one 10 (.one 8 (.one 11 (.one 12 (.one 13 (.one 14 (.one 15 (.one 16 (.one 17 (.one 18 (.one 19 (.one 20 .nil)))))))))))))))))))) | 1000011 => .cut .nil | 1000016 => .cut .nil | 1000031 => .cut .nil | 1000040 => .cut .nil | _ => .nil) (fun | 37 => [(12, 41)] | _ => []) [15, 71, 72, 73, 79, 80, 87, 90, 91, 93, 99, 119, 137, 176, 177, 203, 204, 212, 219] 1
theorem cx_FnTags_E : cx_FnTags.E = E := rfl
theorem cx_FnTags_P : cx_FnTags.P = Tryz.prog := rfl
theorem cx_FnTags_mu : cx_FnTags.mu = [15, 71, 72, 73, 79, 80, 87, 90, 91, 93, 99, 119, 137, 176, 177, 203, 204, 212, 219] := rfl
theorem cx_FnTags_m : cx_FnTags.m = 1 := rfl
theorem cx_FnTags_ord27 : cx_FnTags.ord 27 = .one 0 (.one 1 (.one 2 (.one 3 (.one 4 (.one 5 (.one 6 (.one 7 (.one 8 .nil)))))))) := rfl
theorem cx_FnTags_ord29 : cx_FnTags.ord 29 = .one 0 (.one 1 (.one 2 (.one 3 (.one 4 (.one 5 (.one 6 (.one 7 (.one 8 (.one 9 (.one 10 (.one 11 (.one 12 (.one 13 (.one 14 .nil)))))))))))))) := rfl
theorem cx_FnTags_ord37 : cx_FnTags.ord 37 = .cut (.one 2 (.one 4 (.alt (.one 0 (.alt (.one 1 (.alt (.one 3 (.one 5 (.one 6 (.one 7 (.one 8 (.one 9 (.one 10 (.one 11 (.one 12 (.one 13 (.one 14 .nil))))))))))) (.one 5 (.alt (.one 3 (.one 6 (.one 7 (.one 8 (.one 9 (.one 10 (.one 11 (.one 12 (.one 13 (.one 14 .nil)))))))))) (.one 6 (.one 3 (.one 7 (.one 8 (.one 9 (.one 10 (.one 11 (.one 12 (.one 13 (.one 14 .nil)))))))))))))) (.one 5 (.alt (.one 1 (.alt (.one 3 (.one 6 (.one 7 (.one 8 (.one 9 (.one 10 (.one 11 (.one 12 (.one 13 (.one 14 .nil)))))))))) (.one 6 (.one 3 (.one 7 (.one 8 (.one 9 (.one 10 (.one 11 (.one 12 (.one 13 (.one 14 .nil)))))))))))) (.one 6 (.one 1 (.one 3 (.one 7 (.one 8 (.one 9 (.one 10 (.one 11 (.one 12 (.one 13 (.one 14 .nil))))))))))))))) (.alt (.one 1 (.alt (.one 0 (.alt (.one 3 (.one 5 (.one 6 (.one 7 (.one 8 (.one 9 (.one 10 (.one 11 (.one 12 (.one 13 (.one 14 .nil))))))))))) (.one 5 (.alt (.one 3 (.one 6 (.one 7 (.one 8 (.one 9 (.one 10 (.one 11 (.one 12 (.one 13 (.one 14 .nil)))))))))) (.one 6 (.one 3 (.one 7 (.one 8 (.one 9 (.one 10 (.one 11 (.one 12 (.one 13 (.one 14 .nil)))))))))))))) (.alt (.one 3 (.one 5 (.alt (.one 0 (.one 6 (.one 7 (.one 8 (.one 9 (.one 10 (.one 11 (.one 12 (.one 13 (.one 14 .nil)))))))))) (.one 6 (.alt (.one 0 (.one 7 (.one 8 (.one 9 (.one 10 (.one 11 (.one 12 (.one 13 (.one 14 .nil))))))))) (.one 7 (.one 0 (.one 8 (.one 9 (.one 10 (.one 11 (.one 12 (.one 13 (.one 14 .nil)))))))))))))) (.one 5 (.alt (.one 0 (.alt (.one 3 (.one 6 (.one 7 (.one 8 (.one 9 (.one 10 (.one 11 (.one 12 (.one 13 (.one 14 .nil)))))))))) (.one 6 (.one 3 (.one 7 (.one 8 (.one 9 (.one 10 (.one 11 (.one 12 (.one 13 (.one 14 .nil)))))))))))) (.alt (.one 3 (.alt (.one 0 (.one 6 (.one 7 (.one 8 (.one 9 (.one 10 (.one 11 (.one 12 (.one 13 (.one 14 .nil)))))))))) (.one 6 (.alt (.one 0 (.one 7 (.one 8 (.one 9 (.one 10 (.one 11 (.one 12 (.one 13 (.one 14 .nil))))))))) (.one 7 (.one 0 (.one 8 (.one 9 (.one 10 (.one 11 (.one 12 (.one 13 (.one 14 .nil))))))))))))) (.one 6 (.alt (.one 0 (.one 3 (.one 7 (.one 8 (.one 9 (.one 10 (.one 11 (.one 12 (.one 13 (.one 14 .nil)))))))))) (.one 3 (.alt (.one 0 (.one 7 (.one 8 (.one 9 (.one 10 (.one 11 (.one 12 (.one 13 (.one 14 .nil))))))))) (.one 7 (.one 0 (.one 8 (.one 9 (.one 10 (.one 11 (.one 12 (.one 13 (.one 14 .nil))))))))))))))))))) (.one 5 (.alt (.one 0 (.alt (.one 1 (.alt (.one 3 (.one 6 (.one 7 (.one 8 (.one 9 (.one 10 (.one 11 (.one 12 (.one 13 (.one 14 .nil)))))))))) (.one 6 (.one 3 (.one 7 (.one 8 (.one 9 (.one 10 (.one 11 (.one 12 (.one 13 (.one 14 .nil)))))))))))) (.one 6 (.one 1 (.one 3 (.one 7 (.one 8 (.one 9 (.one 10 (.one 11 (.one 12 (.one 13 (.one 14 .nil))))))))))))) (.alt (.one 1 (.alt (.one 0 (.alt (.one 3 (.one 6 (.one 7 (.one 8 (.one 9 (.one 10 (.one 11 (.one 12 (.one 13 (.one 14 .nil)))))))))) (.one 6 (.one 3 (.one 7 (.one 8 (.one 9 (.one 10 (.one 11 (.one 12 (.one 13 (.one 14 .nil)))))))))))) (.alt (.one 3 (.alt (.one 0 (.one 6 (.one 7 (.one 8 (.one 9 (.one 10 (.one 11 (.one 12 (.one 13 (.one 14 .nil)))))))))) (.one 6 (.alt (.one 0 (.one 7 (.one 8 (.one 9 (.one 10 (.one 11 (.one 12 (.one 13 (.one 14 .nil))))))))) (.one 7 (.one 0 (.one 8 (.one 9 (.one 10 (.one 11 (.one 12 (.one 13 (.one 14 .nil))))))))))))) (.one 6 (.alt (.one 0 (.one 3 (.one 7 (.one 8 (.one 9 (.one 10 (.one 11 (.one 12 (.one 13 (.one 14 .nil)))))))))) (.one 3 (.alt (.one 0 (.one 7 (.one 8 (.one 9 (.one 10 (.one 11 (.one 12 (.one 13 (.one 14 .nil))))))))) (.one 7 (.one 0 (.one 8 (.one 9 (.one 10 (.one 11 (.one 12 (.one 13 (.one 14 .nil)))))))))))))))) (.one 6 (.alt (.one 0 (.one 1 (.one 3 (.one 7 (.one 8 (.one 9 (.one 10 (.one 11 (.one 12 (.one 13 (.one 14 .nil))))))))))) (.one 1 (.alt (.one 0 (.one 3 (.one 7 (.one 8 (.one 9 (.one 10 (.one 11 (.one 12 (.one 13 (.one 14 .nil)))))))))) (.one 3 (.alt (.one 0 (.one 7 (.one 8 (.one 9 (.one 10 (.one 11 (.one 12 (.one 13 (.one 14 .nil))))))))) (.one 7 (.one 0 (.one 8 (.one 9 (.one 10 (.one 11 (.one 12 (.one 13 (.one 14 .nil)))))))))))))))))))))) := rfl
theorem cx_FnTags_ord42 : cx_FnTags.ord 42 = .one 0 (.one 2 (.one 1 (.one 3 (.one 4 (.one 5 (.one 6 (.one 7 (.one 9 (.one 10 (.one 8 (.one 11 (.one 12 (.one 13 (.one 14 (.one 15 (.one 16 (.one 17 (.one 18 (.one 19 (.one 20 .nil)))))))))))))))))))) := rfl
theorem cx_FnTags_ord1000011 : cx_FnTags.ord 1000011 = .cut .nil := rfl
theorem cx_FnTags_ord1000016 : cx_FnTags.ord 1000016 = .cut .nil := rfl
theorem cx_FnTags_ord1000031 : cx_FnTags.ord 1000031 = .cut .nil := rfl
theorem cx_FnTags_ord1000040 : cx_FnTags.ord 1000040 = .cut .nil := rfl
theorem cx_FnTags_flt37 : cx_FnTags.flt 37 = [(12, 41)] := rfl
theorem cx_FnTags_flt27 : cx_FnTags.flt 27 = [] := rfl
theorem cx_FnTags_flt29 : cx_FnTags.flt 29 = [] := rfl
theorem cx_FnTags_flt42 : cx_FnTags.flt 42 = [] := rfl
theorem cx_FnTags_flt1000011 : cx_FnTags.flt 1000011 = [] := rfl
theorem cx_FnTags_flt1000016 : cx_FnTags.flt 1000016 = [] := rfl
theorem cx_FnTags_flt1000031 : cx_FnTags.flt 1000031 = [] := rfl
theorem cx_FnTags_flt1000040 : cx_FnTags.flt 1000040 = [] := rfl
theorem CX_FnTags : type_of% (
  And.intro @cx_FnTags_E <|
  And.intro @cx_FnTags_P <|
  And.intro @cx_FnTags_mu <|
  And.intro @cx_FnTags_m <|
  And.intro @cx_FnTags_ord27 <|
  And.intro @cx_FnTags_ord29 <|
  And.intro @cx_FnTags_ord37 <|
  And.intro @cx_FnTags_ord42 <|
  And.intro @cx_FnTags_ord1000011 <|
  And.intro @cx_FnTags_ord1000016 <|
  And.intro @cx_FnTags_ord1000031 <|
  And.intro @cx_FnTags_ord1000040 <|
  And.intro @cx_FnTags_flt37 <|
  And.intro @cx_FnTags_flt27 <|
  And.intro @cx_FnTags_flt29 <|
  And.intro @cx_FnTags_flt42 <|
  And.intro @cx_FnTags_flt1000011 <|
  And.intro @cx_FnTags_flt1000016 <|
  And.intro @cx_FnTags_flt1000031 <|
  @cx_FnTags_flt1000040) :=
  And.intro @cx_FnTags_E <|
  And.intro @cx_FnTags_P <|
  And.intro @cx_FnTags_mu <|
  And.intro @cx_FnTags_m <|
  And.intro @cx_FnTags_ord27 <|
  And.intro @cx_FnTags_ord29 <|
  And.intro @cx_FnTags_ord37 <|
  And.intro @cx_FnTags_ord42 <|
  And.intro @cx_FnTags_ord1000011 <|
  And.intro @cx_FnTags_ord1000016 <|
  And.intro @cx_FnTags_ord1000031 <|
  And.intro @cx_FnTags_ord1000040 <|
  And.intro @cx_FnTags_flt37 <|
  And.intro @cx_FnTags_flt27 <|
  And.intro @cx_FnTags_flt29 <|
  And.intro @cx_FnTags_flt42 <|
  And.intro @cx_FnTags_flt1000011 <|
  And.intro @cx_FnTags_flt1000016 <|
  And.intro @cx_FnTags_flt1000031 <|
  @cx_FnTags_flt1000040
section
variable {l : List UInt8} {c : Nat}
theorem agree_self (a : List UInt8) : ∀ i, agree a a i = 256
  | 0 => rfl
  | i + 1 => by
    rw [agree, agree_self a i, xorPop, UInt8.xor_self]
    decide
/-- The code alone is known. -/
abbrev tgS (l : List UInt8) (c : Nat) : List V := ((.s 0 0 l.length c) :: (List.replicate 307 .j))
theorem tg_zeros (hc : l.length ≤ c) (hm : l.length ≤ 4096) : kFrom cx_FnTags Tryz.f3 [11, 16, 31, 40] 40 lawPost (tgS l c) [⟨false, bs l⟩] := by
  simp only [kFrom, kFromK, kAt, Go.Vc.mark, lawPost, List.contains_cons, List.contains_nil, Nat.reduceBEq, Bool.or_false, Bool.false_or, Bool.true_or, Bool.or_true, Bool.false_eq_true, if_true, if_false, Nat.reduceAdd, Nat.reduceEqDiff, reduceCtorEq, Tryz.f3]
  simp only [CX_FnTags, SPV, lawPost, ↓VC2, ZP, VP, TT, Nat.reduceEqDiff, reduceCtorEq, Nat.reduceAdd, Nat.reduceSub, Nat.reduceLT, Nat.reduceMul, Nat.reducePow, Nat.reduceLeDiff, Int.reduceToNat, Int.reduceLE, Int.reduceLT, Int.reducePow, tgS]
  refine kCall_Ret (d_LeadingZeros hc hm) (by rfl) [(0, 0)] (by simp [CALL, SCB, instL_cip, okL_cip, instL_room, okL_room]) (by simp [CALL, SCB, instL_cip, okL_cip, instL_room, okL_room]) (by simp [CALL, SCB, instL_cip, okL_cip, instL_room, okL_room]) (by simp [okL_bs, okL_room, okL, okV, instL_cip, okL_cip, instL_room, okL_room]) (by simp [CALL, SCB, instL_cip, okL_cip, instL_room, okL_room]) fun x hx => ?_
  simp (config := { maxSteps := 2000000 }) only [CALL, ↓VC2, ZP, VP, TT, Nat.reduceEqDiff, reduceCtorEq, Nat.reduceAdd, Nat.reduceSub, Nat.reduceLT, Nat.reduceMul, Nat.reducePow, Nat.reduceLeDiff, Int.reduceToNat, Int.reduceLE, Int.reduceLT, Int.reducePow, GOB, CX_FnTags, lawPost, SPV, instL_cip, instL_room, cipC_len z256 z16 z16, DC.cells, hx]
  refine kCall_Ret (d_AgreeingBits hc hm) (by rfl) [(0, 0)] (by simp [CALL, SCB, instL_cip, okL_cip, instL_room, okL_room]) (by simp [CALL, SCB, instL_cip, okL_cip, instL_room, okL_room]) (by simp [CALL, SCB, instL_cip, okL_cip, instL_room, okL_room]) (by simp [okL_bs, okL_room, okL, okV, instL_cip, okL_cip, instL_room, okL_room]) (by simp [CALL, SCB, instL_cip, okL_cip, instL_room, okL_room]) fun x2 h2 => ?_
  obtain ⟨y, w⟩ := x2
  obtain ⟨hy, hw⟩ := h2
  simp only at hy hw ⊢
  have tx : List.take 32 x = x := List.take_of_length_le (Nat.le_of_eq hx)
  have ty : List.take 32 y = y := List.take_of_length_le (Nat.le_of_eq hy)
  have tw : List.take 32 w = w := List.take_of_length_le (Nat.le_of_eq hw)
  simp (config := { maxSteps := 2000000 }) only [CALL, ↓VC2, ZP, VP, TT, Nat.reduceEqDiff, reduceCtorEq, Nat.reduceAdd, Nat.reduceSub, Nat.reduceLT, Nat.reduceMul, Nat.reducePow, Nat.reduceLeDiff, Int.reduceToNat, Int.reduceLE, Int.reduceLT, Int.reducePow, GOB, CX_FnTags, lawPost, SPV, instL_cip, instL_room, cipC_len z256 z16 z16, DC.cells, hx, hy, hw, tx, ty, tw]
  have ag := agree_self y 32
  have A3 := c_impl_AgreeingBits y y hy hy
  rw [ag] at A3
  refine kCall_val (c_impl_LeadingZeros x hx) (by rfl) [] (by simp [CALL, SCB, instL_cip, okL_cip, instL_room, okL_room, tx]) (by simp [CALL, SCB, instL_cip, okL_cip, instL_room, okL_room, tx]) (by simp [CALL, SCB, instL_cip, okL_cip, instL_room, okL_room, tx]) (by simp [okL_bs, okL_room, okL, okV, instL_cip, okL_cip, instL_room, okL_room, tx]) ?_
  simp (config := { maxSteps := 2000000 }) only [CALL, ↓VC2, ZP, VP, TT, Nat.reduceEqDiff, reduceCtorEq, Nat.reduceAdd, Nat.reduceSub, Nat.reduceLT, Nat.reduceMul, Nat.reducePow, Nat.reduceLeDiff, Int.reduceToNat, Int.reduceLE, Int.reduceLT, Int.reducePow, GOB, CX_FnTags, lawPost, SPV, instL_cip, instL_room, cipC_len z256 z16 z16, DC.cells, hx, hy, hw, tx, ty, tw]
  refine kCall_val (c_spec_LeadingZeros x hx) (by rfl) [] (by simp [CALL, SCB, instL_cip, okL_cip, instL_room, okL_room, tx]) (by simp [CALL, SCB, instL_cip, okL_cip, instL_room, okL_room, tx]) (by simp [CALL, SCB, instL_cip, okL_cip, instL_room, okL_room, tx]) (by simp [okL_bs, okL_room, okL, okV, instL_cip, okL_cip, instL_room, okL_room, tx]) ?_
  simp (config := { maxSteps := 2000000 }) only [CALL, ↓VC2, ZP, VP, TT, Nat.reduceEqDiff, reduceCtorEq, Nat.reduceAdd, Nat.reduceSub, Nat.reduceLT, Nat.reduceMul, Nat.reducePow, Nat.reduceLeDiff, Int.reduceToNat, Int.reduceLE, Int.reduceLT, Int.reducePow, GOB, CX_FnTags, lawPost, SPV, instL_cip, instL_room, cipC_len z256 z16 z16, DC.cells, hx, hy, hw, tx, ty, tw, beq_self_eq_true]
  refine kCall_val (c_impl_AgreeingBits y w hy hw) (by rfl) [] (by simp [CALL, SCB, instL_cip, okL_cip, instL_room, okL_room, ty, tw]) (by simp [CALL, SCB, instL_cip, okL_cip, instL_room, okL_room, ty, tw]) (by simp [CALL, SCB, instL_cip, okL_cip, instL_room, okL_room, ty, tw]) (by simp [okL_bs, okL_room, okL, okV, instL_cip, okL_cip, instL_room, okL_room, ty, tw]) ?_
  simp (config := { maxSteps := 2000000 }) only [CALL, ↓VC2, ZP, VP, TT, Nat.reduceEqDiff, reduceCtorEq, Nat.reduceAdd, Nat.reduceSub, Nat.reduceLT, Nat.reduceMul, Nat.reducePow, Nat.reduceLeDiff, Int.reduceToNat, Int.reduceLE, Int.reduceLT, Int.reducePow, GOB, CX_FnTags, lawPost, SPV, instL_cip, instL_room, cipC_len z256 z16 z16, DC.cells, hx, hy, hw, tx, ty, tw, beq_self_eq_true]
  refine kCall_val (c_spec_AgreeingBits y w hy hw) (by rfl) [] (by simp [CALL, SCB, instL_cip, okL_cip, instL_room, okL_room, ty, tw]) (by simp [CALL, SCB, instL_cip, okL_cip, instL_room, okL_room, ty, tw]) (by simp [CALL, SCB, instL_cip, okL_cip, instL_room, okL_room, ty, tw]) (by simp [okL_bs, okL_room, okL, okV, instL_cip, okL_cip, instL_room, okL_room, ty, tw]) ?_
  simp (config := { maxSteps := 2000000 }) only [CALL, ↓VC2, ZP, VP, TT, Nat.reduceEqDiff, reduceCtorEq, Nat.reduceAdd, Nat.reduceSub, Nat.reduceLT, Nat.reduceMul, Nat.reducePow, Nat.reduceLeDiff, Int.reduceToNat, Int.reduceLE, Int.reduceLT, Int.reducePow, GOB, CX_FnTags, lawPost, SPV, instL_cip, instL_room, cipC_len z256 z16 z16, DC.cells, hx, hy, hw, tx, ty, tw, beq_self_eq_true]
  refine kCall_val (A3) (by rfl) [] (by simp [CALL, SCB, instL_cip, okL_cip, instL_room, okL_room, ty, tw]) (by simp [CALL, SCB, instL_cip, okL_cip, instL_room, okL_room, ty, tw]) (by simp [CALL, SCB, instL_cip, okL_cip, instL_room, okL_room, ty, tw]) (by simp [okL_bs, okL_room, okL, okV, instL_cip, okL_cip, instL_room, okL_room, ty, tw]) ?_
  simp (config := { maxSteps := 2000000 }) only [CALL, ↓VC2, ZP, VP, TT, Nat.reduceEqDiff, reduceCtorEq, Nat.reduceAdd, Nat.reduceSub, Nat.reduceLT, Nat.reduceMul, Nat.reducePow, Nat.reduceLeDiff, Int.reduceToNat, Int.reduceLE, Int.reduceLT, Int.reducePow, GOB, CX_FnTags, lawPost, SPV, instL_cip, instL_room, cipC_len z256 z16 z16, DC.cells, hx, hy, hw, tx, ty, tw, beq_self_eq_true]
  exact ⟨_, [⟨false, bs l⟩], [0], rfl, by simp [-List.reduceReplicate, LES]⟩
theorem tg_search (hc : l.length ≤ c) (hm : l.length ≤ 4096) : kFrom cx_FnTags Tryz.f3 [11, 16, 31, 40] 31 lawPost (tgS l c) [⟨false, bs l⟩] := by
  simp only [kFrom, kFromK, kAt, Go.Vc.mark, lawPost, List.contains_cons, List.contains_nil, Nat.reduceBEq, Bool.or_false, Bool.false_or, Bool.true_or, Bool.or_true, Bool.false_eq_true, if_true, if_false, Nat.reduceAdd, Nat.reduceEqDiff, reduceCtorEq, Tryz.f3]
  simp only [CX_FnTags, SPV, lawPost, ↓VC2, ZP, VP, TT, Nat.reduceEqDiff, reduceCtorEq, Nat.reduceAdd, Nat.reduceSub, Nat.reduceLT, Nat.reduceMul, Nat.reducePow, Nat.reduceLeDiff, Int.reduceToNat, Int.reduceLE, Int.reduceLT, Int.reducePow, tgS]
  refine kCall_Ret (d_SearchDigest hc hm) (by rfl) [(0, 0)] (by simp [CALL, SCB, instL_cip, okL_cip, instL_room, okL_room]) (by simp [CALL, SCB, instL_cip, okL_cip, instL_room, okL_room]) (by simp [CALL, SCB, instL_cip, okL_cip, instL_room, okL_room]) (by simp [okL_bs, okL_room, okL, okV, instL_cip, okL_cip, instL_room, okL_room]) (by simp [CALL, SCB, instL_cip, okL_cip, instL_room, okL_room]) fun x1 h1 => ?_
  obtain ⟨⟨z, b, A, pl, n⟩, D, r, zs⟩ := x1
  obtain ⟨⟨hb, hA, hp⟩, hD⟩ := h1
  simp only [DC.cells] at hb hA hp hD ⊢
  obtain ⟨a, e, S1, I1, T1⟩ := search_two z n b A pl D (D.length + r) (by omega) hb hA hp zs (by omega)
  simp (config := { maxSteps := 2000000 }) only [CALL, ↓VC2, ZP, VP, TT, Nat.reduceEqDiff, reduceCtorEq, Nat.reduceAdd, Nat.reduceSub, Nat.reduceLT, Nat.reduceMul, Nat.reducePow, Nat.reduceLeDiff, Int.reduceToNat, Int.reduceLE, Int.reduceLT, Int.reducePow, GOB, CX_FnTags, lawPost, SPV, instL_cip, instL_room, cipC_len z256 z16 z16, DC.cells, cipC_len hb hA hp, ↓cip_put_all z256 z16 z16 hb hA hp, ↓cip_all hb hA hp]
  refine kCall_val (I1) (by rfl) [(1, 0)] (by simp [CALL, SCB, instL_cip, okL_cip, instL_room, okL_room]) (by simp [CALL, SCB, instL_cip, okL_cip, instL_room, okL_room]) (by simp [CALL, SCB, instL_cip, okL_cip, instL_room, okL_room]) (by simp [okL_bs, okL_room, okL, okV, instL_cip, okL_cip, instL_room, okL_room]) ?_
  simp (config := { maxSteps := 2000000 }) only [CALL, ↓VC2, ZP, VP, TT, Nat.reduceEqDiff, reduceCtorEq, Nat.reduceAdd, Nat.reduceSub, Nat.reduceLT, Nat.reduceMul, Nat.reducePow, Nat.reduceLeDiff, Int.reduceToNat, Int.reduceLE, Int.reduceLT, Int.reducePow, GOB, CX_FnTags, lawPost, SPV, instL_cip, instL_room, cipC_len z256 z16 z16, DC.cells, cipC_len hb hA hp, ↓cip_all hb hA hp]
  refine kCall_val (S1) (by rfl) [(1, 0)] (by simp [CALL, SCB, instL_cip, okL_cip, instL_room, okL_room]) (by simp [CALL, SCB, instL_cip, okL_cip, instL_room, okL_room]) (by simp [CALL, SCB, instL_cip, okL_cip, instL_room, okL_room]) (by simp [okL_bs, okL_room, okL, okV, instL_cip, okL_cip, instL_room, okL_room]) ?_
  simp (config := { maxSteps := 2000000 }) only [CALL, ↓VC2, ZP, VP, TT, Nat.reduceEqDiff, reduceCtorEq, Nat.reduceAdd, Nat.reduceSub, Nat.reduceLT, Nat.reduceMul, Nat.reducePow, Nat.reduceLeDiff, Int.reduceToNat, Int.reduceLE, Int.reduceLT, Int.reducePow, GOB, CX_FnTags, lawPost, SPV, instL_cip, instL_room, cipC_len z256 z16 z16, DC.cells, cipC_len hb hA hp, ↓cip_all hb hA hp, bne_self_eq_false]
  rcases T1 with he | ⟨rfl, hD1, k, j, rfl, rfl, rfl, rfl, rfl, rfl, hj, hz⟩
  · have f0 : (e == 0) = false := beq_eq_false_iff_ne.2 he
    simp (config := { maxSteps := 2000000 }) only [CALL, ↓VC2, ZP, VP, TT, Nat.reduceEqDiff, reduceCtorEq, Nat.reduceAdd, Nat.reduceSub, Nat.reduceLT, Nat.reduceMul, Nat.reducePow, Nat.reduceLeDiff, Int.reduceToNat, Int.reduceLE, Int.reduceLT, Int.reducePow, GOB, CX_FnTags, lawPost, SPV, instL_cip, instL_room, cipC_len z256 z16 z16, DC.cells, f0]
    exact kMeet (tg_zeros hc hm) (by kernel_rfl) ⟨[0], by simp [-List.reduceReplicate, LES, CX_FnTags, SPL, List.drop_succ_cons, List.length_append, List.length_replicate, List.length_cons, okL_app, okL_rep, tgS]⟩
  · have hdl := dig_len (c := k) (D ++ [UInt8.ofInt (j : Int)])
    have tdl : List.take 32 (k.dig (D ++ [UInt8.ofInt (j : Int)])) = k.dig (D ++ [UInt8.ofInt (j : Int)]) := List.take_of_length_le (Nat.le_of_eq hdl)
    have hb1 : [V.c (.int .u8 (IntKind.u8.wrap (j : Int)))] = bs [UInt8.ofInt (j : Int)] := by rw [wrap_u8]; rfl
    have hDg : ∀ q, (D ++ [UInt8.ofInt (j : Int)]).length ≤ q → LC Tryz.prog 25 [.a (cipC k.m k.box k.A k.pl k.n), .s 0 0 (D ++ [UInt8.ofInt (j : Int)]).length q] [⟨false, bs (D ++ [UInt8.ofInt (j : Int)])⟩] (fun v hp => v = .t [.a (bs (k.dig (D ++ [UInt8.ofInt (j : Int)]))), .c (.int .i64 (0))] ∧ hp = [⟨false, bs (D ++ [UInt8.ofInt (j : Int)])⟩]) := fun q hq => by
      have := c_impl_DigestOf k.m k.n k.box k.A k.pl (D ++ [UInt8.ofInt (j : Int)]) q hq k.hb k.hA k.hp (by simp; omega)
      have h2 : (D ++ [UInt8.ofInt (j : Int)]).length ≤ 2000 := by simp; omega
      rw [(digO_k k h2).1, (digO_k k h2).2] at this
      exact this
    have hDn : (D ++ [UInt8.ofInt (j : Int)]).length = D.length + 1 := by simp
    rw [hDn] at hDg
    generalize hw : k.dig (D ++ [UInt8.ofInt (j : Int)]) = w at *
    simp (config := { maxSteps := 2000000 }) only [CALL, ↓VC2, ZP, VP, TT, Nat.reduceEqDiff, reduceCtorEq, Nat.reduceAdd, Nat.reduceSub, Nat.reduceLT, Nat.reduceMul, Nat.reducePow, Nat.reduceLeDiff, Int.reduceToNat, Int.reduceLE, Int.reduceLT, Int.reducePow, GOB, CX_FnTags, lawPost, SPV, instL_cip, instL_room, cipC_len z256 z16 z16, DC.cells, beq_self_eq_true]
    refine kCut_of (fun _ : Unit => (((.s 0 0 l.length c) :: (@HAppend.hAppend (List V) (List V) (List V) _ (List.replicate 35 V.j) ((.c (.int .i64 (zs))) :: (@HAppend.hAppend (List V) (List V) (List V) _ (List.replicate 4 V.j) ((.p 1 0) :: ((.c (.int .i64 (0))) :: (List.replicate 265 .j))))))), [⟨false, bs l⟩, ⟨true, bs w⟩])) (fun _ => True) ?_ (fun _ _ => ?_)
    · simp (config := { maxSteps := 4000000 }) only [CX_FnTags, SPV, ↓VC2, ZP, VP, TT, Nat.reduceEqDiff, reduceCtorEq, Nat.reduceAdd, Nat.reduceSub, Nat.reduceLT, Nat.reduceMul, Nat.reducePow, Nat.reduceLeDiff, Int.reduceToNat, Int.reduceLE, Int.reduceLT, Int.reducePow, hb1, cipC_len hb hA hp, ↓cip_all hb hA hp, and_self]
      repeat' apply And.intro
      all_goals first | omega | exact .inr trivial | exact .inl trivial | exact .inr (by omega) | skip
      all_goals intro r1 c1 e1 e2
      all_goals repeat' apply And.intro
      all_goals first | omega | exact .inr trivial | exact .inl trivial | exact .inr (by omega) | skip
      all_goals intro r2 c2 e3 e4
      all_goals rw [bs_append]
      all_goals refine kCall_val (hDg c2 (by omega)) (by rfl) [(6, 0)] (by simp [CALL, SCB, instL_cip, okL_cip, instL_room, okL_room, hdl, tdl]) (by simp [CALL, SCB, instL_cip, okL_cip, instL_room, okL_room, hdl, tdl]) (by simp [CALL, SCB, instL_cip, okL_cip, instL_room, okL_room, hdl, tdl]) (by simp [okL_bs, okL_room, okL, okV, instL_cip, okL_cip, instL_room, okL_room, hdl, tdl]) ?_
                simp (config := { maxSteps := 2000000 }) only [CALL, ↓VC2, ZP, VP, TT, Nat.reduceEqDiff, reduceCtorEq, Nat.reduceAdd, Nat.reduceSub, Nat.reduceLT, Nat.reduceMul, Nat.reducePow, Nat.reduceLeDiff, Int.reduceToNat, Int.reduceLE, Int.reduceLT, Int.reducePow, GOB, CX_FnTags, lawPost, SPV, instL_cip, instL_room, cipC_len z256 z16 z16, DC.cells, cipC_len hb hA hp, ↓cip_all hb hA hp, hdl, tdl, and_self]
      all_goals repeat' apply And.intro
      all_goals exact ⟨(), [0, 7], by simp [-List.reduceReplicate, LES, CX_FnTags, SPL, List.drop_succ_cons, List.length_append, List.length_replicate, List.length_cons, okL_app, okL_rep, renL_room, okL_room, renL_cip, okL_cip]⟩
    · have hwl : w.length = 32 := hdl
      simp only [CX_FnTags, SPV, ↓VC2, ZP, VP, TT, Nat.reduceEqDiff, reduceCtorEq, Nat.reduceAdd, Nat.reduceSub, Nat.reduceLT, Nat.reduceMul, Nat.reducePow, Nat.reduceLeDiff, Int.reduceToNat, Int.reduceLE, Int.reduceLT, Int.reducePow, bne_self_eq_false, hwl, tdl]
      have hz0 : (((zerosL w : Nat) : Int) < zs) = False := eq_false (by omega)
      refine kCall_val (c_impl_LeadingZeros w hwl) (by rfl) [] (by simp [CALL, SCB, instL_cip, okL_cip, instL_room, okL_room]) (by simp [CALL, SCB, instL_cip, okL_cip, instL_room, okL_room]) (by simp [CALL, SCB, instL_cip, okL_cip, instL_room, okL_room]) (by simp [okL_bs, okL_room, okL, okV, instL_cip, okL_cip, instL_room, okL_room]) ?_
      simp (config := { maxSteps := 2000000 }) only [CALL, ↓VC2, ZP, VP, TT, Nat.reduceEqDiff, reduceCtorEq, Nat.reduceAdd, Nat.reduceSub, Nat.reduceLT, Nat.reduceMul, Nat.reducePow, Nat.reduceLeDiff, Int.reduceToNat, Int.reduceLE, Int.reduceLT, Int.reducePow, GOB, CX_FnTags, lawPost, SPV, instL_cip, instL_room, cipC_len z256 z16 z16, DC.cells, hwl, tdl, hz0, decide_false]
      exact kMeet (tg_zeros hc hm) (by kernel_rfl) ⟨[0], by simp [-List.reduceReplicate, LES, CX_FnTags, SPL, List.drop_succ_cons, List.length_append, List.length_replicate, List.length_cons, okL_app, okL_rep, tgS]⟩
end
end Go.Proofs.YtahnjhppkgndiaaGreat

import Derived.Test.YtledcckafhpgaaaVcgJ
import Derived.Test.YtledcckafhpgaaaDrawP
import Derived.Test.YtledcckafhpgaaaDrawL
import Derived.Test.YtledcckafhpgaaaShowP
import Derived.Test.YtledcckafhpgaaaProofOf
import Derived.Test.YtledcckafhpgaaaRoots
import Derived.Test.YtledcckafhpgaaaLeaf
/- FnTrees: proofs of a list show its root for the leaf at their place, and for a changed leaf that of the changed list; leaves and nodes are digests with a byte in front. -/
set_option linter.unusedSimpArgs false
set_option linter.unusedVariables false
namespace Go.Proofs.Ytledcckafhpgaaa
open Go Go.Vc
set_option maxRecDepth 10000
set_option maxHeartbeats 8000000
theorem tr_rootD_in {n : Nat} {D : List UInt8} (h : n ≤ 64) : rootD n D = (rootL n D, 0) := by unfold rootD; rw [if_pos h]
theorem tr_vGet {D : List UInt8} {X : List V} {i : Nat} {k : V → Prop} (h : i < D.length) : vGet (bs D ++ X) i k = k (.c (.int .u8 ((D.getD i 0).toNat : Int))) := by
  rw [vGet_appL (by rw [bs_length]; exact h), vGet_bs]
  exact propext ⟨fun x => x.2, fun x => ⟨h, x⟩⟩
theorem tr_vPut {D : List UInt8} {X : List V} {i : Nat} {u : UInt8} {k : List V → Prop} (h : i < D.length) : vPut (bs D ++ X) i [.c (.int .u8 (u.toNat : Int))] k = k (bs (D.set i u) ++ X) := by
  have e : splice (bs D ++ X) i [.c (.int .u8 (u.toNat : Int))] = bs (D.set i u) ++ X := by
    rw [← splice_bs h]
    unfold splice
    rw [List.take_append_of_le_length (by rw [bs_length]; omega), List.drop_append_of_le_length (by rw [bs_length]; simp; omega)]
    simp
  unfold vPut
  rw [e]
  exact propext ⟨fun x => x.2, fun x => ⟨by rw [List.length_append, bs_length]; simp; omega, x⟩⟩
theorem tr_vPutS {D d : List UInt8} {X : List V} {o : Nat} {k : List V → Prop} (h : o + d.length ≤ D.length) : vPut (bs D ++ X) o (bs d) k = k (bs (splB D o d) ++ X) := by
  have e : splice (bs D ++ X) o (bs d) = bs (splB D o d) ++ X := by
    rw [← splice_bss]
    unfold splice
    rw [List.take_append_of_le_length (by rw [bs_length]; omega), List.drop_append_of_le_length (by rw [bs_length, bs_length]; omega)]
    simp
  unfold vPut
  rw [e]
  exact propext ⟨fun x => x.2, fun x => ⟨by rw [List.length_append, bs_length, bs_length]; omega, x⟩⟩
noncomputable def cx_FnTrees : Cx := XX (fun | 14 => .one 0 (.one 1 (.one 2 (.one 3 (.one 4 (.one 6 (.one 7 (.one 8 (.one 9 (.one 10 (.one 5 (.one 11 (.one 12 .nil)))))))))))) | 26 => .one 1 (.one 3 (.one 0 (.one 2 (.one 4 (.one 5 (.one 6 (.one 7 (.one 8 (.one 9 (.one 10 (.one 11 .nil))))))))))) | 27 => .one 0 (.one 1 (.one 2 (.one 3 (.one 4 (.one 6 (.one 5 (.one 7 (.one 8 .nil)))))))) | 38 => .one 0 (.one 1 (.one 2 (.one 3 (.one 4 (.one 5 (.one 6 (.one 7 (.one 8 (.one 9 (.one 10 (.one 11 (.one 12 (.one 13 (.one 14 (.one 15 (.one 16 (.one 17 (.one 18 (.one 19 (.one 20 (.one 21 (.one 22 (.one 23 (.one 24 (.one 25 (.one 26 (.one 27 (.one 28 (.one 29 (.one 30 (.one 32 (.one 33 (.one 34 (.one 31 (.one 35 (.one 36 (.one 37 .nil))))))))))))))))))))))))))))))))))))) | 1000008 => .cut .nil | 1000013 => .cut .nil | 1000016 => .cut .nil | 1000025 => .cut .nil | 1000029 => .cut .nil | _ => .nil) (fun | 26 => [(9, 28)] | _ => []) [22, 24, 25, 36, 42, 47, 90] 1
theorem cx_FnTrees_E : cx_FnTrees.E = E := rfl
theorem cx_FnTrees_P : cx_FnTrees.P = Try.prog := rfl
theorem cx_FnTrees_mu : cx_FnTrees.mu = [22, 24, 25, 36, 42, 47, 90] := rfl
theorem cx_FnTrees_m : cx_FnTrees.m = 1 := rfl
theorem cx_FnTrees_ord14 : cx_FnTrees.ord 14 = .one 0 (.one 1 (.one 2 (.one 3 (.one 4 (.one 6 (.one 7 (.one 8 (.one 9 (.one 10 (.one 5 (.one 11 (.one 12 .nil)))))))))))) := rfl
theorem cx_FnTrees_ord26 : cx_FnTrees.ord 26 = .one 1 (.one 3 (.one 0 (.one 2 (.one 4 (.one 5 (.one 6 (.one 7 (.one 8 (.one 9 (.one 10 (.one 11 .nil))))))))))) := rfl
theorem cx_FnTrees_ord27 : cx_FnTrees.ord 27 = .one 0 (.one 1 (.one 2 (.one 3 (.one 4 (.one 6 (.one 5 (.one 7 (.one 8 .nil)))))))) := rfl
theorem cx_FnTrees_ord38 : cx_FnTrees.ord 38 = .one 0 (.one 1 (.one 2 (.one 3 (.one 4 (.one 5 (.one 6 (.one 7 (.one 8 (.one 9 (.one 10 (.one 11 (.one 12 (.one 13 (.one 14 (.one 15 (.one 16 (.one 17 (.one 18 (.one 19 (.one 20 (.one 21 (.one 22 (.one 23 (.one 24 (.one 25 (.one 26 (.one 27 (.one 28 (.one 29 (.one 30 (.one 32 (.one 33 (.one 34 (.one 31 (.one 35 (.one 36 (.one 37 .nil))))))))))))))))))))))))))))))))))))) := rfl
theorem cx_FnTrees_ord1000008 : cx_FnTrees.ord 1000008 = .cut .nil := rfl
theorem cx_FnTrees_ord1000013 : cx_FnTrees.ord 1000013 = .cut .nil := rfl
theorem cx_FnTrees_ord1000016 : cx_FnTrees.ord 1000016 = .cut .nil := rfl
theorem cx_FnTrees_ord1000025 : cx_FnTrees.ord 1000025 = .cut .nil := rfl
theorem cx_FnTrees_ord1000029 : cx_FnTrees.ord 1000029 = .cut .nil := rfl
theorem cx_FnTrees_flt26 : cx_FnTrees.flt 26 = [(9, 28)] := rfl
theorem cx_FnTrees_flt14 : cx_FnTrees.flt 14 = [] := rfl
theorem cx_FnTrees_flt27 : cx_FnTrees.flt 27 = [] := rfl
theorem cx_FnTrees_flt38 : cx_FnTrees.flt 38 = [] := rfl
theorem cx_FnTrees_flt1000008 : cx_FnTrees.flt 1000008 = [] := rfl
theorem cx_FnTrees_flt1000013 : cx_FnTrees.flt 1000013 = [] := rfl
theorem cx_FnTrees_flt1000016 : cx_FnTrees.flt 1000016 = [] := rfl
theorem cx_FnTrees_flt1000025 : cx_FnTrees.flt 1000025 = [] := rfl
theorem cx_FnTrees_flt1000029 : cx_FnTrees.flt 1000029 = [] := rfl
theorem CX_FnTrees : type_of% (
  And.intro @cx_FnTrees_E <|
  And.intro @cx_FnTrees_P <|
  And.intro @cx_FnTrees_mu <|
  And.intro @cx_FnTrees_m <|
  And.intro @cx_FnTrees_ord14 <|
  And.intro @cx_FnTrees_ord26 <|
  And.intro @cx_FnTrees_ord27 <|
  And.intro @cx_FnTrees_ord38 <|
  And.intro @cx_FnTrees_ord1000008 <|
  And.intro @cx_FnTrees_ord1000013 <|
  And.intro @cx_FnTrees_ord1000016 <|
  And.intro @cx_FnTrees_ord1000025 <|
  And.intro @cx_FnTrees_ord1000029 <|
  And.intro @cx_FnTrees_flt26 <|
  And.intro @cx_FnTrees_flt14 <|
  And.intro @cx_FnTrees_flt27 <|
  And.intro @cx_FnTrees_flt38 <|
  And.intro @cx_FnTrees_flt1000008 <|
  And.intro @cx_FnTrees_flt1000013 <|
  And.intro @cx_FnTrees_flt1000016 <|
  And.intro @cx_FnTrees_flt1000025 <|
  @cx_FnTrees_flt1000029) :=
  And.intro @cx_FnTrees_E <|
  And.intro @cx_FnTrees_P <|
  And.intro @cx_FnTrees_mu <|
  And.intro @cx_FnTrees_m <|
  And.intro @cx_FnTrees_ord14 <|
  And.intro @cx_FnTrees_ord26 <|
  And.intro @cx_FnTrees_ord27 <|
  And.intro @cx_FnTrees_ord38 <|
  And.intro @cx_FnTrees_ord1000008 <|
  And.intro @cx_FnTrees_ord1000013 <|
  And.intro @cx_FnTrees_ord1000016 <|
  And.intro @cx_FnTrees_ord1000025 <|
  And.intro @cx_FnTrees_ord1000029 <|
  And.intro @cx_FnTrees_flt26 <|
  And.intro @cx_FnTrees_flt14 <|
  And.intro @cx_FnTrees_flt27 <|
  And.intro @cx_FnTrees_flt38 <|
  And.intro @cx_FnTrees_flt1000008 <|
  And.intro @cx_FnTrees_flt1000013 <|
  And.intro @cx_FnTrees_flt1000016 <|
  And.intro @cx_FnTrees_flt1000025 <|
  @cx_FnTrees_flt1000029
/-- What the sections know: the code, the list, the place, its proof and code. -/
abbrev trS (l : List UInt8) (c n r : Nat) (i : Int) (r1 : Nat) : List V := [.s 0 0 l.length c, .j, .j, .s 1 0 n (n + r), .c (.int .i64 (i)), .s 2 0 (pfE n i) (pfE n i + r1), .c (.int .i64 (pfC n i)), .j, .j, .j, .j, .j, .j, .j, .j, .j, .j, .j, .j, .j, .j, .j, .j, .j, .j, .j, .j, .j, .j, .j, .j, .j, .j, .j, .j, .j, .j, .j, .j, .j, .j, .j, .j, .j, .j, .j, .j, .j, .j, .j, .j, .j, .j, .j, .j, .j, .j, .j, .j, .j, .j, .j, .j, .j, .j, .j, .j, .j, .j, .j, .j, .j, .j, .j, .j, .j, .j, .j, .j, .j, .j, .j, .j, .j, .j, .j, .j, .j, .j, .j, .j, .j, .j, .j, .j, .j, .j, .j, .j, .j, .j, .j, .j, .j, .j, .j, .j, .j, .j, .j, .j, .j, .j, .j, .j, .j, .j, .j, .j, .j, .j, .j, .j, .j, .j, .j, .j, .j, .j, .j, .j, .j, .j, .j, .j, .j, .j, .j, .j, .j, .j, .j, .j, .j, .j, .j, .j, .j, .j, .j, .j, .j, .j, .j, .j, .j, .j, .j, .j, .j, .j, .j, .j, .j, .j, .j, .j, .j, .j, .j, .j, .j, .j, .j, .j, .j, .j, .j, .j, .j, .j, .j, .j, .j, .j, .j, .j, .j, .j, .j, .j, .j, .j, .j, .j, .j, .j, .j, .j, .j, .j, .j, .j, .j, .j, .j, .j, .j, .j, .j, .j, .j, .j, .j, .j, .j, .j, .j, .j, .j, .j, .j, .j, .j, .j, .j, .j, .j, .j, .j, .j, .j, .j, .j, .j, .j, .j]
abbrev trH (l D : List UInt8) (n r : Nat) (i : Int) (r1 : Nat) : List Blk := [⟨false, bs l⟩, ⟨true, bs D ++ List.replicate (32 * r) .j⟩, ⟨true, bs (pfL n i D) ++ List.replicate (32 * r1) .j⟩]
section
variable {l D : List UInt8} {c n r r1 : Nat} {i : Int}
theorem tr_29 (hc : l.length ≤ c) (hm : l.length ≤ 4096) (hn : n ≤ 65) (hD : D.length = 32 * n) : kFrom cx_FnTrees Try.f3 [8, 13, 16, 25, 29] 29 lawPost (trS l c n r i r1) (trH l D n r i r1) := by
  have hpl := pf_len (i := i) hD
  have hps := pf_le (n := n) (i := i) (by omega)
  simp only [kFrom, kFromK, kAt, Go.Vc.mark, lawPost, List.contains_cons, List.contains_nil, Nat.reduceBEq, Bool.or_false, Bool.false_or, Bool.true_or, Bool.or_true, Bool.false_eq_true, if_true, if_false, Nat.reduceAdd, Nat.reduceEqDiff, reduceCtorEq, Try.f3]
  simp only [CX_FnTrees, lawPost, ↓VC, VP, TT, List.getElem?_toArray, Nat.reduceEqDiff, reduceCtorEq, Nat.reduceAdd, Nat.reduceSub, Nat.reduceLT, Nat.reduceMul, Nat.reducePow, Nat.reduceLeDiff, Int.reduceToNat, Int.reduceLE, Int.reduceLT, Int.reducePow, trS, trH]
  by_cases hok : okP n i
  case neg =>
    obtain ⟨f5, f6, f7⟩ := pf_no (D := D) hok
    refine ⟨fun _ => ⟨_, [⟨false, bs l⟩], [0], rfl, ?_⟩, fun h => (by rw [f7] at h; cases h)⟩
    rw [f5]
    simp [-List.reduceReplicate, LES]
  obtain ⟨hn64, hi0, hi1⟩ := hok
  obtain ⟨m, rfl⟩ : ∃ m : Nat, i = m := ⟨i.toNat, by omega⟩
  have hmn : m < n := by omega
  obtain ⟨g1, g2, g3⟩ := pf_yes (n := n) (i := m) (D := D) hn64 hmn
  rw [g1, g2, g3]
  refine ⟨fun h => (by cases h), fun _ => ?_⟩
  have ht2 : ∀ X, List.take (32 * n) (bs D ++ X) = bs D := fun X => by rw [List.take_append_of_le_length (by rw [bs_length]; omega), List.take_of_length_le (by rw [bs_length]; omega)]
  have ht4 : ∀ X, List.take (n * 32) (bs D ++ X) = bs D := fun X => by rw [Nat.mul_comm]; exact ht2 X
  have hq1 := rootL_len hD
  have hdl := dgA_len hD hmn
  have hp1 := proofL_len n m D hD
  have hp2 := depL_le n m
  have ht3 : ∀ X, List.take (32 * depL n m) (bs (proofL n m D) ++ X) = bs (proofL n m D) := fun X => by rw [List.take_append_of_le_length (by rw [bs_length]; omega), List.take_of_length_le (by rw [bs_length]; omega)]
  have hgD : ∀ X (kk : V → Prop), vSub (bs D ++ X) (m * 32) 32 kk = kk (.a (bs (dgA D m))) := fun X kk => by
    rw [vSub_appL (by rw [bs_length]; omega), vSub_bs, dgA_eq]
    exact propext ⟨fun x => x.2, fun x => ⟨by omega, x⟩⟩
  have hR1 := c_impl_RootOf n (n + r) D hD (by omega)
  rw [tr_rootD_in (by omega)] at hR1
  refine kCall_val (hR1) (by rfl) [(1, 0)] (by simp [CALL, cellsAt, tk, take_room, bs_length, bs_nil, instL_room, sv_inst, sv_inst0, sv_ok, sv_len, sv_take, okL_room, tk, tkn, take_room, bs_length, ht2, bs_length, hD]) (by simp [CALL, cellsAt, tk, take_room, bs_length, bs_nil, instL_room, sv_inst, sv_inst0, sv_ok, sv_len, sv_take, okL_room, tk, tkn, take_room, bs_length, ht2, bs_length, hD]) (by simp [CALL, cellsAt, tk, take_room, bs_length, bs_nil, instL_room, sv_inst, sv_inst0, sv_ok, sv_len, sv_take, okL_room, tk, tkn, take_room, bs_length, ht2, bs_length, hD]) (by simp [okL_bs, okL_room, okL, okV, instL_room, sv_inst, sv_inst0, sv_ok, sv_len, sv_take, okL_room, tk, tkn, take_room, bs_length, ht2, bs_length, hD]) ?_
  simp (config := { maxSteps := 2000000 }) only [CALL, ↓VC, VP, TT, List.getElem?_toArray, Nat.reduceEqDiff, reduceCtorEq, Nat.reduceAdd, Nat.reduceSub, Nat.reduceLT, Nat.reduceMul, Nat.reducePow, Nat.reduceLeDiff, Int.reduceToNat, Int.reduceLE, Int.reduceLT, Int.reducePow, instL_room, Bool.not_true, Bool.not_false, CX_FnTrees, lawPost, instL_room, sv_inst, sv_inst0, sv_len, hq1, ↓hgD, hdl]
  refine ⟨by omega, ?_⟩
  refine kCall_Ret (d_roll (9021 : Int) hc hm) (by rfl) [(0, 0)] (by simp [CALL, cellsAt, tk, take_room, bs_length, bs_nil, instL_room, sv_inst, sv_inst0, sv_ok, sv_len, sv_take, okL_room, tk, tkn, take_room, bs_length]) (by simp [CALL, cellsAt, tk, take_room, bs_length, bs_nil, instL_room, sv_inst, sv_inst0, sv_ok, sv_len, sv_take, okL_room, tk, tkn, take_room, bs_length]) (by simp [CALL, cellsAt, tk, take_room, bs_length, bs_nil, instL_room, sv_inst, sv_inst0, sv_ok, sv_len, sv_take, okL_room, tk, tkn, take_room, bs_length]) (by simp [okL_bs, okL_room, okL, okV, instL_room, sv_inst, sv_inst0, sv_ok, sv_len, sv_take, okL_room, tk, tkn, take_room, bs_length]) (by simp [CALL, cellsAt, tk, take_room, bs_length, bs_nil, instL_room, sv_inst, sv_inst0, sv_ok, sv_len, sv_take, okL_room, tk, tkn, take_room, bs_length]) fun q hq => ?_
  simp (config := { maxSteps := 2000000 }) only [CALL, ↓VC, VP, TT, List.getElem?_toArray, Nat.reduceEqDiff, reduceCtorEq, Nat.reduceAdd, Nat.reduceSub, Nat.reduceLT, Nat.reduceMul, Nat.reducePow, Nat.reduceLeDiff, Int.reduceToNat, Int.reduceLE, Int.reduceLT, Int.reducePow, instL_room, Bool.not_true, Bool.not_false, CX_FnTrees, lawPost, instL_room, sv_inst, sv_inst0, sv_len]
  refine kCall_M (d_below hc hm hq 32) (by rfl) [(5, 0), (0, 0)] (by simp [CALL, cellsAt, tk, take_room, bs_length, bs_nil, instL_room, sv_inst, sv_inst0, sv_ok, sv_len, sv_take, okL_room, tk, tkn, take_room, bs_length]) (by simp [CALL, cellsAt, tk, take_room, bs_length, bs_nil, instL_room, sv_inst, sv_inst0, sv_ok, sv_len, sv_take, okL_room, tk, tkn, take_room, bs_length]) (by simp) (by simp [CALL, cellsAt, tk, take_room, bs_length, bs_nil, instL_room, sv_inst, sv_inst0, sv_ok, sv_len, sv_take, okL_room, tk, tkn, take_room, bs_length]) (by simp [okL_bs, okL_room, okL, okV, instL_room, sv_inst, sv_inst0, sv_ok, sv_len, sv_take, okL_room, tk, tkn, take_room, bs_length]) (by intro x _; simp [keepR, bs_length, instL_room, sv_inst, sv_inst0, sv_ok, sv_len, sv_take, okL_room, tk, tkn, take_room, bs_length]) (by simp [CALL, cellsAt, tk, take_room, bs_length, bs_nil, instL_room, sv_inst, sv_inst0, sv_ok, sv_len, sv_take, okL_room, tk, tkn, take_room, bs_length]) fun x6 h6 => ?_
  simp (config := { maxSteps := 2000000 }) only [CALL, ↓VC, VP, TT, List.getElem?_toArray, Nat.reduceEqDiff, reduceCtorEq, Nat.reduceAdd, Nat.reduceSub, Nat.reduceLT, Nat.reduceMul, Nat.reducePow, Nat.reduceLeDiff, Int.reduceToNat, Int.reduceLE, Int.reduceLT, Int.reducePow, instL_room, Bool.not_true, Bool.not_false, CX_FnTrees, lawPost, instL_room, sv_inst, sv_inst0, sv_len]
  obtain ⟨q3, x⟩ := x6
  obtain ⟨h6q, h6a, h6b, _⟩ := h6
  simp only at h6q h6a h6b ⊢
  have h6b := h6b (by omega)
  obtain ⟨x, rfl⟩ : ∃ t : Nat, x = t := ⟨x.toNat, by omega⟩
  try simp only [bs_length, hD, hdl]
  have hO : ((dgA D m).set ((x : Int)).toNat (UInt8.ofInt ((((dgA D m).getD ((x : Int)).toNat 0).toNat : Int) + 1))).length = 32 := by rw [List.length_set, hdl]
  generalize (dgA D m).set ((x : Int)).toNat (UInt8.ofInt ((((dgA D m).getD ((x : Int)).toNat 0).toNat : Int) + 1)) = O at hO ⊢
  refine ⟨by omega, by omega, by omega, by omega, by omega, by omega, by omega, by omega, .inl trivial, .inr (by omega), fun r9 c9 f8 f9 => ?_⟩
  rw [List.take_of_length_le (show O.length ≤ 32 by omega), ht4]
  refine ⟨by omega, by omega, hO, ?_⟩
  rw [tr_vPutS (by omega), Nat.mul_comm m 32]
  have hD' := splB_length (D := D) (d := O) (o := 32 * m) (by omega)
  rw [hD] at hD'
  have hP1 := isProof_proofL (r := rootL n D) hdl hD (by omega) hn64 hmn
  rw [splB_dgA hD hmn, beq_self_eq_true] at hP1
  have hP2 := fun z => isProof_proofL (r := z) hO hD (by omega) hn64 hmn
  generalize splB D (32 * m) O = D' at hD' hP2 ⊢
  have hq2 := rootL_len hD'
  have ht5 : ∀ X, List.take (32 * n) (bs D' ++ X) = bs D' := fun X => by rw [List.take_append_of_le_length (by rw [bs_length]; omega), List.take_of_length_le (by rw [bs_length]; omega)]
  have hR2 := c_impl_RootOf n c9 D' hD' (by omega)
  rw [tr_rootD_in (by omega)] at hR2
  refine kCall_val (hR2) (by rfl) [(7, 0)] (by simp [CALL, cellsAt, tk, take_room, bs_length, bs_nil, instL_room, sv_inst, sv_inst0, sv_ok, sv_len, sv_take, okL_room, tk, tkn, take_room, bs_length, ht5, bs_length, hD']) (by simp [CALL, cellsAt, tk, take_room, bs_length, bs_nil, instL_room, sv_inst, sv_inst0, sv_ok, sv_len, sv_take, okL_room, tk, tkn, take_room, bs_length, ht5, bs_length, hD']) (by simp [CALL, cellsAt, tk, take_room, bs_length, bs_nil, instL_room, sv_inst, sv_inst0, sv_ok, sv_len, sv_take, okL_room, tk, tkn, take_room, bs_length, ht5, bs_length, hD']) (by simp [okL_bs, okL_room, okL, okV, instL_room, sv_inst, sv_inst0, sv_ok, sv_len, sv_take, okL_room, tk, tkn, take_room, bs_length, ht5, bs_length, hD']) ?_
  simp (config := { maxSteps := 2000000 }) only [CALL, ↓VC, VP, TT, List.getElem?_toArray, Nat.reduceEqDiff, reduceCtorEq, Nat.reduceAdd, Nat.reduceSub, Nat.reduceLT, Nat.reduceMul, Nat.reducePow, Nat.reduceLeDiff, Int.reduceToNat, Int.reduceLE, Int.reduceLT, Int.reducePow, instL_room, Bool.not_true, Bool.not_false, CX_FnTrees, lawPost, instL_room, sv_inst, sv_inst0, sv_len, hq1, hq2, beq_self_eq_true, ↓hgD, hdl]
  refine ⟨by omega, ?_⟩
  refine kCall_val (c_impl_IsProof _ _ hq1 hdl (m : Int) (n : Int) (depL n m) (depL n m + r1) (proofL n m D) hp1 (by omega) (by omega)) (by rfl) [(2, 0)] (by simp [CALL, cellsAt, tk, take_room, bs_length, bs_nil, instL_room, sv_inst, sv_inst0, sv_ok, sv_len, sv_take, okL_room, tk, tkn, take_room, bs_length, ht3, bs_length, hp1]) (by simp [CALL, cellsAt, tk, take_room, bs_length, bs_nil, instL_room, sv_inst, sv_inst0, sv_ok, sv_len, sv_take, okL_room, tk, tkn, take_room, bs_length, ht3, bs_length, hp1]) (by simp [CALL, cellsAt, tk, take_room, bs_length, bs_nil, instL_room, sv_inst, sv_inst0, sv_ok, sv_len, sv_take, okL_room, tk, tkn, take_room, bs_length, ht3, bs_length, hp1]) (by simp [okL_bs, okL_room, okL, okV, instL_room, sv_inst, sv_inst0, sv_ok, sv_len, sv_take, okL_room, tk, tkn, take_room, bs_length, ht3, bs_length, hp1]) ?_
  simp (config := { maxSteps := 2000000 }) only [CALL, ↓VC, VP, TT, List.getElem?_toArray, Nat.reduceEqDiff, reduceCtorEq, Nat.reduceAdd, Nat.reduceSub, Nat.reduceLT, Nat.reduceMul, Nat.reducePow, Nat.reduceLeDiff, Int.reduceToNat, Int.reduceLE, Int.reduceLT, Int.reducePow, instL_room, Bool.not_true, Bool.not_false, CX_FnTrees, lawPost, instL_room, sv_inst, sv_inst0, sv_len, hq1, hq2, hO, hP1, ↓hgD, hdl]
  refine kCall_val (c_impl_IsProof _ _ hq2 hO (m : Int) (n : Int) (depL n m) (depL n m + r1) (proofL n m D) hp1 (by omega) (by omega)) (by rfl) [(2, 0)] (by simp [CALL, cellsAt, tk, take_room, bs_length, bs_nil, instL_room, sv_inst, sv_inst0, sv_ok, sv_len, sv_take, okL_room, tk, tkn, take_room, bs_length, ht3, bs_length, hp1]) (by simp [CALL, cellsAt, tk, take_room, bs_length, bs_nil, instL_room, sv_inst, sv_inst0, sv_ok, sv_len, sv_take, okL_room, tk, tkn, take_room, bs_length, ht3, bs_length, hp1]) (by simp [CALL, cellsAt, tk, take_room, bs_length, bs_nil, instL_room, sv_inst, sv_inst0, sv_ok, sv_len, sv_take, okL_room, tk, tkn, take_room, bs_length, ht3, bs_length, hp1]) (by simp [okL_bs, okL_room, okL, okV, instL_room, sv_inst, sv_inst0, sv_ok, sv_len, sv_take, okL_room, tk, tkn, take_room, bs_length, ht3, bs_length, hp1]) ?_
  simp (config := { maxSteps := 2000000 }) only [CALL, ↓VC, VP, TT, List.getElem?_toArray, Nat.reduceEqDiff, reduceCtorEq, Nat.reduceAdd, Nat.reduceSub, Nat.reduceLT, Nat.reduceMul, Nat.reducePow, Nat.reduceLeDiff, Int.reduceToNat, Int.reduceLE, Int.reduceLT, Int.reducePow, instL_room, Bool.not_true, Bool.not_false, CX_FnTrees, lawPost, instL_room, sv_inst, sv_inst0, sv_len, hq1, hq2, hO, hP2, beq_self_eq_true]
  refine ⟨intCells_bs _, intCells_bs _, fun b5 hb5 => ?_⟩
  obtain rfl : b5 = (rootL n D' == rootL n D) := by
    rw [Bool.eq_iff_iff, hb5, beq_iff_eq]
    exact bs_inj
  refine kCall_val (c_impl_IsProof _ _ hq1 hO (m : Int) (n : Int) (depL n m) (depL n m + r1) (proofL n m D) hp1 (by omega) (by omega)) (by rfl) [(2, 0)] (by simp [CALL, cellsAt, tk, take_room, bs_length, bs_nil, instL_room, sv_inst, sv_inst0, sv_ok, sv_len, sv_take, okL_room, tk, tkn, take_room, bs_length, ht3, bs_length, hp1]) (by simp [CALL, cellsAt, tk, take_room, bs_length, bs_nil, instL_room, sv_inst, sv_inst0, sv_ok, sv_len, sv_take, okL_room, tk, tkn, take_room, bs_length, ht3, bs_length, hp1]) (by simp [CALL, cellsAt, tk, take_room, bs_length, bs_nil, instL_room, sv_inst, sv_inst0, sv_ok, sv_len, sv_take, okL_room, tk, tkn, take_room, bs_length, ht3, bs_length, hp1]) (by simp [okL_bs, okL_room, okL, okV, instL_room, sv_inst, sv_inst0, sv_ok, sv_len, sv_take, okL_room, tk, tkn, take_room, bs_length, ht3, bs_length, hp1]) ?_
  simp (config := { maxSteps := 2000000 }) only [CALL, ↓VC, VP, TT, List.getElem?_toArray, Nat.reduceEqDiff, reduceCtorEq, Nat.reduceAdd, Nat.reduceSub, Nat.reduceLT, Nat.reduceMul, Nat.reducePow, Nat.reduceLeDiff, Int.reduceToNat, Int.reduceLE, Int.reduceLT, Int.reducePow, instL_room, Bool.not_true, Bool.not_false, CX_FnTrees, lawPost, instL_room, sv_inst, sv_inst0, sv_len, hq1, hq2, hO, hP2, beq_self_eq_true]
  exact ⟨_, [⟨false, bs l⟩], [0], rfl, by simp [-List.reduceReplicate, LES]⟩
theorem tr_25 (hc : l.length ≤ c) (hm : l.length ≤ 4096) (hn : n ≤ 65) (hD : D.length = 32 * n) : kFrom cx_FnTrees Try.f3 [8, 13, 16, 25, 29] 25 lawPost (trS l c n r i r1) (trH l D n r i r1) := by
  have hpl := pf_len (i := i) hD
  have hps := pf_le (n := n) (i := i) (by omega)
  simp only [kFrom, kFromK, kAt, Go.Vc.mark, lawPost, List.contains_cons, List.contains_nil, Nat.reduceBEq, Bool.or_false, Bool.false_or, Bool.true_or, Bool.or_true, Bool.false_eq_true, if_true, if_false, Nat.reduceAdd, Nat.reduceEqDiff, reduceCtorEq, Try.f3]
  simp only [CX_FnTrees, lawPost, ↓VC, VP, TT, List.getElem?_toArray, Nat.reduceEqDiff, reduceCtorEq, Nat.reduceAdd, Nat.reduceSub, Nat.reduceLT, Nat.reduceMul, Nat.reducePow, Nat.reduceLeDiff, Int.reduceToNat, Int.reduceLE, Int.reduceLT, Int.reducePow, trS, trH]
  refine kCall_Ret (d_nodeOf hc hm) (by rfl) [(0, 0)] (by simp [CALL, cellsAt, tk, take_room, bs_length, bs_nil, instL_room, sv_inst, sv_inst0, sv_ok, sv_len, sv_take, okL_room, tk, tkn, take_room, bs_length]) (by simp [CALL, cellsAt, tk, take_room, bs_length, bs_nil, instL_room, sv_inst, sv_inst0, sv_ok, sv_len, sv_take, okL_room, tk, tkn, take_room, bs_length]) (by simp [CALL, cellsAt, tk, take_room, bs_length, bs_nil, instL_room, sv_inst, sv_inst0, sv_ok, sv_len, sv_take, okL_room, tk, tkn, take_room, bs_length]) (by simp [okL_bs, okL_room, okL, okV, instL_room, sv_inst, sv_inst0, sv_ok, sv_len, sv_take, okL_room, tk, tkn, take_room, bs_length]) (by simp [CALL, cellsAt, tk, take_room, bs_length, bs_nil, instL_room, sv_inst, sv_inst0, sv_ok, sv_len, sv_take, okL_room, tk, tkn, take_room, bs_length]) fun x5 h5 => ?_
  obtain ⟨a, b⟩ := x5
  obtain ⟨hna, hnb⟩ := h5
  simp only at hna hnb ⊢
  simp (config := { maxSteps := 2000000 }) only [CALL, ↓VC, VP, TT, List.getElem?_toArray, Nat.reduceEqDiff, reduceCtorEq, Nat.reduceAdd, Nat.reduceSub, Nat.reduceLT, Nat.reduceMul, Nat.reducePow, Nat.reduceLeDiff, Int.reduceToNat, Int.reduceLE, Int.reduceLT, Int.reducePow, instL_room, Bool.not_true, Bool.not_false, CX_FnTrees, lawPost, instL_room, sv_inst, sv_inst0, sv_len, hna, hnb, tk32 hna, tk32 hnb]
  refine ⟨.inr trivial, .inr trivial, fun r7 c7 f1 f2 => ⟨by omega, .inr (by omega), .inr trivial, fun r8 c8 f3 f4 => ?_⟩⟩
  have hM : (1 :: (a ++ b)).length = 65 := by rw [List.length_cons, List.length_append, hna, hnb]
  have e3 : hdD (1 :: (a ++ b)) = (nodeL a b, 0) := by unfold hdD; rw [if_pos (by omega)]; rfl
  have hNd := c_impl_HouseDigest (1 :: (a ++ b))
  rw [e3, hM] at hNd
  have hnl := nodeL_len a b
  simp only [show ∀ X, V.c (.int .u8 1) :: (bs a ++ bs b ++ X) = bs (1 :: (a ++ b)) ++ X from fun _ => by rw [bs_append]; rfl]
  refine kCall_val (hNd c8 (by omega)) (by rfl) [(7, 0)] (by simp [CALL, cellsAt, tk, take_room, bs_length, bs_nil, instL_room, sv_inst, sv_inst0, sv_ok, sv_len, sv_take, okL_room, tk, tkn, take_room, bs_length, hM]) (by simp [CALL, cellsAt, tk, take_room, bs_length, bs_nil, instL_room, sv_inst, sv_inst0, sv_ok, sv_len, sv_take, okL_room, tk, tkn, take_room, bs_length, hM]) (by simp [CALL, cellsAt, tk, take_room, bs_length, bs_nil, instL_room, sv_inst, sv_inst0, sv_ok, sv_len, sv_take, okL_room, tk, tkn, take_room, bs_length, hM]) (by simp [okL_bs, okL_room, okL, okV, instL_room, sv_inst, sv_inst0, sv_ok, sv_len, sv_take, okL_room, tk, tkn, take_room, bs_length, hM]) ?_
  simp (config := { maxSteps := 2000000 }) only [CALL, ↓VC, VP, TT, List.getElem?_toArray, Nat.reduceEqDiff, reduceCtorEq, Nat.reduceAdd, Nat.reduceSub, Nat.reduceLT, Nat.reduceMul, Nat.reducePow, Nat.reduceLeDiff, Int.reduceToNat, Int.reduceLE, Int.reduceLT, Int.reducePow, instL_room, Bool.not_true, Bool.not_false, CX_FnTrees, lawPost, instL_room, sv_inst, sv_inst0, sv_len, hnl, bne_self_eq_false]
  refine ⟨by omega, by omega, ?_⟩
  rw [List.take_of_length_le (show a.length ≤ 32 by omega), List.take_of_length_le (show b.length ≤ 32 by omega)]
  refine kCall_val (c_impl_NodeOf a b hna hnb) (by rfl) [] (by simp [CALL, cellsAt, tk, take_room, bs_length, bs_nil, instL_room, sv_inst, sv_inst0, sv_ok, sv_len, sv_take, okL_room, tk, tkn, take_room, bs_length, tk32 hna, tk32 hnb]) (by simp [CALL, cellsAt, tk, take_room, bs_length, bs_nil, instL_room, sv_inst, sv_inst0, sv_ok, sv_len, sv_take, okL_room, tk, tkn, take_room, bs_length, tk32 hna, tk32 hnb]) (by simp [CALL, cellsAt, tk, take_room, bs_length, bs_nil, instL_room, sv_inst, sv_inst0, sv_ok, sv_len, sv_take, okL_room, tk, tkn, take_room, bs_length, tk32 hna, tk32 hnb]) (by simp [okL_bs, okL_room, okL, okV, instL_room, sv_inst, sv_inst0, sv_ok, sv_len, sv_take, okL_room, tk, tkn, take_room, bs_length, tk32 hna, tk32 hnb]) ?_
  simp (config := { maxSteps := 2000000 }) only [CALL, ↓VC, VP, TT, List.getElem?_toArray, Nat.reduceEqDiff, reduceCtorEq, Nat.reduceAdd, Nat.reduceSub, Nat.reduceLT, Nat.reduceMul, Nat.reducePow, Nat.reduceLeDiff, Int.reduceToNat, Int.reduceLE, Int.reduceLT, Int.reducePow, instL_room, Bool.not_true, Bool.not_false, CX_FnTrees, lawPost, instL_room, sv_inst, sv_inst0, sv_len, hnl, bne_self_eq_false]
  refine ⟨intCells_bs _, intCells_bs _, fun b4 hb4 => ⟨fun h5 => (by rw [hb4.2 trivial] at h5; cases h5), fun _ => ?_⟩⟩
  exact kMeet (tr_29 (r := r) (r1 := r1) (i := i) hc hm hn hD) (by kernel_rfl) ⟨[0, 1, 2], by simp [-List.reduceReplicate, LES, CX_FnTrees, trS, trH]⟩
theorem tr_16 (hc : l.length ≤ c) (hm : l.length ≤ 4096) (hn : n ≤ 65) (hD : D.length = 32 * n) : kFrom cx_FnTrees Try.f3 [8, 13, 16, 25, 29] 16 lawPost (trS l c n r i r1) (trH l D n r i r1) := by
  have hpl := pf_len (i := i) hD
  have hps := pf_le (n := n) (i := i) (by omega)
  simp only [kFrom, kFromK, kAt, Go.Vc.mark, lawPost, List.contains_cons, List.contains_nil, Nat.reduceBEq, Bool.or_false, Bool.false_or, Bool.true_or, Bool.or_true, Bool.false_eq_true, if_true, if_false, Nat.reduceAdd, Nat.reduceEqDiff, reduceCtorEq, Try.f3]
  simp only [CX_FnTrees, lawPost, ↓VC, VP, TT, List.getElem?_toArray, Nat.reduceEqDiff, reduceCtorEq, Nat.reduceAdd, Nat.reduceSub, Nat.reduceLT, Nat.reduceMul, Nat.reducePow, Nat.reduceLeDiff, Int.reduceToNat, Int.reduceLE, Int.reduceLT, Int.reducePow, trS, trH]
  refine kCall_Ret (d_leafOf hc hm) (by rfl) [(0, 0)] (by simp [CALL, cellsAt, tk, take_room, bs_length, bs_nil, instL_room, sv_inst, sv_inst0, sv_ok, sv_len, sv_take, okL_room, tk, tkn, take_room, bs_length]) (by simp [CALL, cellsAt, tk, take_room, bs_length, bs_nil, instL_room, sv_inst, sv_inst0, sv_ok, sv_len, sv_take, okL_room, tk, tkn, take_room, bs_length]) (by simp [CALL, cellsAt, tk, take_room, bs_length, bs_nil, instL_room, sv_inst, sv_inst0, sv_ok, sv_len, sv_take, okL_room, tk, tkn, take_room, bs_length]) (by simp [okL_bs, okL_room, okL, okV, instL_room, sv_inst, sv_inst0, sv_ok, sv_len, sv_take, okL_room, tk, tkn, take_room, bs_length]) (by simp [CALL, cellsAt, tk, take_room, bs_length, bs_nil, instL_room, sv_inst, sv_inst0, sv_ok, sv_len, sv_take, okL_room, tk, tkn, take_room, bs_length]) fun x4 h4 => ?_
  obtain ⟨T, rt⟩ := x4
  simp only at h4 ⊢
  have hlf := leafD_len T
  simp (config := { maxSteps := 2000000 }) only [CALL, ↓VC, VP, TT, List.getElem?_toArray, Nat.reduceEqDiff, reduceCtorEq, Nat.reduceAdd, Nat.reduceSub, Nat.reduceLT, Nat.reduceMul, Nat.reducePow, Nat.reduceLeDiff, Int.reduceToNat, Int.reduceLE, Int.reduceLT, Int.reducePow, instL_room, Bool.not_true, Bool.not_false, CX_FnTrees, lawPost, instL_room, sv_inst, sv_inst0, sv_len]
  refine kCall_val (c_impl_LeafOf T (T.length + rt) (by omega)) (by rfl) [(3, 0)] (by simp [CALL, cellsAt, tk, take_room, bs_length, bs_nil, instL_room, sv_inst, sv_inst0, sv_ok, sv_len, sv_take, okL_room, tk, tkn, take_room, bs_length]) (by simp [CALL, cellsAt, tk, take_room, bs_length, bs_nil, instL_room, sv_inst, sv_inst0, sv_ok, sv_len, sv_take, okL_room, tk, tkn, take_room, bs_length]) (by simp [CALL, cellsAt, tk, take_room, bs_length, bs_nil, instL_room, sv_inst, sv_inst0, sv_ok, sv_len, sv_take, okL_room, tk, tkn, take_room, bs_length]) (by simp [okL_bs, okL_room, okL, okV, instL_room, sv_inst, sv_inst0, sv_ok, sv_len, sv_take, okL_room, tk, tkn, take_room, bs_length]) ?_
  simp (config := { maxSteps := 2000000 }) only [CALL, ↓VC, VP, TT, List.getElem?_toArray, Nat.reduceEqDiff, reduceCtorEq, Nat.reduceAdd, Nat.reduceSub, Nat.reduceLT, Nat.reduceMul, Nat.reducePow, Nat.reduceLeDiff, Int.reduceToNat, Int.reduceLE, Int.reduceLT, Int.reducePow, instL_room, Bool.not_true, Bool.not_false, CX_FnTrees, lawPost, instL_room, sv_inst, sv_inst0, sv_len, hlf]
  refine kCall_val (c_spec_LeafOf T (T.length + rt) (by omega)) (by rfl) [(3, 0)] (by simp [CALL, cellsAt, tk, take_room, bs_length, bs_nil, instL_room, sv_inst, sv_inst0, sv_ok, sv_len, sv_take, okL_room, tk, tkn, take_room, bs_length]) (by simp [CALL, cellsAt, tk, take_room, bs_length, bs_nil, instL_room, sv_inst, sv_inst0, sv_ok, sv_len, sv_take, okL_room, tk, tkn, take_room, bs_length]) (by simp [CALL, cellsAt, tk, take_room, bs_length, bs_nil, instL_room, sv_inst, sv_inst0, sv_ok, sv_len, sv_take, okL_room, tk, tkn, take_room, bs_length]) (by simp [okL_bs, okL_room, okL, okV, instL_room, sv_inst, sv_inst0, sv_ok, sv_len, sv_take, okL_room, tk, tkn, take_room, bs_length]) ?_
  simp (config := { maxSteps := 2000000 }) only [CALL, ↓VC, VP, TT, List.getElem?_toArray, Nat.reduceEqDiff, reduceCtorEq, Nat.reduceAdd, Nat.reduceSub, Nat.reduceLT, Nat.reduceMul, Nat.reducePow, Nat.reduceLeDiff, Int.reduceToNat, Int.reduceLE, Int.reduceLT, Int.reducePow, instL_room, Bool.not_true, Bool.not_false, CX_FnTrees, lawPost, instL_room, sv_inst, sv_inst0, sv_len, hlf, bne_self_eq_false]
  refine ⟨intCells_bs _, intCells_bs _, fun b2 hb2 => ⟨fun h5 => (by rw [hb2.2 trivial] at h5; cases h5), fun _ => ?_⟩⟩
  by_cases hT : T.length ≤ 1999
  case neg =>
    have e1 : leafD T = (List.replicate 32 0, 2) := by unfold leafD; rw [if_neg hT]
    rw [e1] at hlf ⊢
    refine ⟨fun h => (by cases h), fun _ => ?_⟩
    exact kMeet (tr_25 (r := r) (r1 := r1) (i := i) hc hm hn hD) (by kernel_rfl) ⟨[0, 1, 2], by simp [-List.reduceReplicate, LES, CX_FnTrees, trS, trH]⟩
  have e1 : leafD T = (houseD (0 :: T), 0) := by unfold leafD; rw [if_pos hT]; rfl
  have hL : (0 :: T).length = 1 + T.length := by rw [List.length_cons]; omega
  have e2 : hdD (0 :: T) = (houseD (0 :: T), 0) := by unfold hdD; rw [if_pos (by omega)]
  have hH := c_impl_HouseDigest (0 :: T)
  rw [e2, hL] at hH
  rw [e1] at hlf ⊢
  simp only at hlf
  generalize houseD (0 :: T) = H at hlf hH ⊢
  refine ⟨fun _ => ⟨by omega, by omega, .inr trivial, .inr (by omega), fun r6 c6 e5 e6 => ?_⟩, fun h => (by cases h)⟩
  simp only [show ∀ X, V.c (.int .u8 0) :: (bs T ++ X) = bs (0 :: T) ++ X from fun _ => rfl]
  refine kCall_val (hH c6 (by omega)) (by rfl) [(7, 0)] (by simp [CALL, cellsAt, tk, take_room, bs_length, bs_nil, instL_room, sv_inst, sv_inst0, sv_ok, sv_len, sv_take, okL_room, tk, tkn, take_room, bs_length, hL]) (by simp [CALL, cellsAt, tk, take_room, bs_length, bs_nil, instL_room, sv_inst, sv_inst0, sv_ok, sv_len, sv_take, okL_room, tk, tkn, take_room, bs_length, hL]) (by simp [CALL, cellsAt, tk, take_room, bs_length, bs_nil, instL_room, sv_inst, sv_inst0, sv_ok, sv_len, sv_take, okL_room, tk, tkn, take_room, bs_length, hL]) (by simp [okL_bs, okL_room, okL, okV, instL_room, sv_inst, sv_inst0, sv_ok, sv_len, sv_take, okL_room, tk, tkn, take_room, bs_length, hL]) ?_
  simp (config := { maxSteps := 2000000 }) only [CALL, ↓VC, VP, TT, List.getElem?_toArray, Nat.reduceEqDiff, reduceCtorEq, Nat.reduceAdd, Nat.reduceSub, Nat.reduceLT, Nat.reduceMul, Nat.reducePow, Nat.reduceLeDiff, Int.reduceToNat, Int.reduceLE, Int.reduceLT, Int.reducePow, instL_room, Bool.not_true, Bool.not_false, CX_FnTrees, lawPost, instL_room, sv_inst, sv_inst0, sv_len, hlf, bne_self_eq_false]
  refine ⟨intCells_bs _, intCells_bs _, fun b3 hb3 => ⟨fun h5 => (by rw [hb3.2 trivial] at h5; cases h5), fun _ => ?_⟩⟩
  exact kMeet (tr_25 (r := r) (r1 := r1) (i := i) hc hm hn hD) (by kernel_rfl) ⟨[0, 1, 2], by simp [-List.reduceReplicate, LES, CX_FnTrees, trS, trH]⟩
theorem tr_13 (hc : l.length ≤ c) (hm : l.length ≤ 4096) (hn : n ≤ 65) (hD : D.length = 32 * n) : kFrom cx_FnTrees Try.f3 [8, 13, 16, 25, 29] 13 lawPost (trS l c n r i r1) (trH l D n r i r1) := by
  have hpl := pf_len (i := i) hD
  have hps := pf_le (n := n) (i := i) (by omega)
  simp only [kFrom, kFromK, kAt, Go.Vc.mark, lawPost, List.contains_cons, List.contains_nil, Nat.reduceBEq, Bool.or_false, Bool.false_or, Bool.true_or, Bool.or_true, Bool.false_eq_true, if_true, if_false, Nat.reduceAdd, Nat.reduceEqDiff, reduceCtorEq, Try.f3]
  simp only [CX_FnTrees, lawPost, ↓VC, VP, TT, List.getElem?_toArray, Nat.reduceEqDiff, reduceCtorEq, Nat.reduceAdd, Nat.reduceSub, Nat.reduceLT, Nat.reduceMul, Nat.reducePow, Nat.reduceLeDiff, Int.reduceToNat, Int.reduceLE, Int.reduceLT, Int.reducePow, trS, trH]
  refine kCall_Ret (d_isProofU hc hm) (by rfl) [(0, 0)] (by simp [CALL, cellsAt, tk, take_room, bs_length, bs_nil, instL_room, sv_inst, sv_inst0, sv_ok, sv_len, sv_take, okL_room, tk, tkn, take_room, bs_length]) (by simp [CALL, cellsAt, tk, take_room, bs_length, bs_nil, instL_room, sv_inst, sv_inst0, sv_ok, sv_len, sv_take, okL_room, tk, tkn, take_room, bs_length]) (by simp [CALL, cellsAt, tk, take_room, bs_length, bs_nil, instL_room, sv_inst, sv_inst0, sv_ok, sv_len, sv_take, okL_room, tk, tkn, take_room, bs_length]) (by simp [okL_bs, okL_room, okL, okV, instL_room, sv_inst, sv_inst0, sv_ok, sv_len, sv_take, okL_room, tk, tkn, take_room, bs_length]) (by simp [CALL, cellsAt, tk, take_room, bs_length, bs_nil, instL_room, sv_inst, sv_inst0, sv_ok, sv_len, sv_take, okL_room, tk, tkn, take_room, bs_length]) fun x3 h3 => ?_
  obtain ⟨⟨ra, la, k3, n3⟩, g, G, rg⟩ := x3
  obtain ⟨ha, hl, hg, hG⟩ := h3
  simp only at ha hl hg hG ⊢
  have sa : splB (List.replicate 32 0) 0 ra = ra := splB0 (by simp [ha])
  have sl : splB (List.replicate 32 0) 0 la = la := splB0 (by simp [hl])
  simp (config := { maxSteps := 2000000 }) only [CALL, ↓VC, VP, TT, List.getElem?_toArray, Nat.reduceEqDiff, reduceCtorEq, Nat.reduceAdd, Nat.reduceSub, Nat.reduceLT, Nat.reduceMul, Nat.reducePow, Nat.reduceLeDiff, Int.reduceToNat, Int.reduceLE, Int.reduceLT, Int.reducePow, instL_room, Bool.not_true, Bool.not_false, CX_FnTrees, lawPost, instL_room, sv_inst, sv_inst0, sv_len, ha, hl, sa, sl, tk32 ha, tk32 hl]
  repeat (refine ⟨by first | omega | (simp; done) | decide, ?_⟩)
  refine kCall_val (c_impl_IsProof ra la ha hl k3 n3 g (g + rg) G hG (by omega) hg) (by rfl) [(3, 0)] (by simp [CALL, cellsAt, tk, take_room, bs_length, bs_nil, instL_room, sv_inst, sv_inst0, sv_ok, sv_len, sv_take, okL_room, tk, tkn, take_room, bs_length, hG, Nat.mul_comm]) (by simp [CALL, cellsAt, tk, take_room, bs_length, bs_nil, instL_room, sv_inst, sv_inst0, sv_ok, sv_len, sv_take, okL_room, tk, tkn, take_room, bs_length, hG, Nat.mul_comm]) (by simp [CALL, cellsAt, tk, take_room, bs_length, bs_nil, instL_room, sv_inst, sv_inst0, sv_ok, sv_len, sv_take, okL_room, tk, tkn, take_room, bs_length, hG, Nat.mul_comm]) (by simp [okL_bs, okL_room, okL, okV, instL_room, sv_inst, sv_inst0, sv_ok, sv_len, sv_take, okL_room, tk, tkn, take_room, bs_length, hG, Nat.mul_comm]) ?_
  simp (config := { maxSteps := 2000000 }) only [CALL, ↓VC, VP, TT, List.getElem?_toArray, Nat.reduceEqDiff, reduceCtorEq, Nat.reduceAdd, Nat.reduceSub, Nat.reduceLT, Nat.reduceMul, Nat.reducePow, Nat.reduceLeDiff, Int.reduceToNat, Int.reduceLE, Int.reduceLT, Int.reducePow, instL_room, Bool.not_true, Bool.not_false, CX_FnTrees, lawPost, instL_room, sv_inst, sv_inst0, sv_len, ha, hl]
  refine kCall_val (c_spec_IsProof ra la ha hl k3 n3 g (g + rg) G hG (by omega) hg) (by rfl) [(3, 0)] (by simp [CALL, cellsAt, tk, take_room, bs_length, bs_nil, instL_room, sv_inst, sv_inst0, sv_ok, sv_len, sv_take, okL_room, tk, tkn, take_room, bs_length, hG, Nat.mul_comm]) (by simp [CALL, cellsAt, tk, take_room, bs_length, bs_nil, instL_room, sv_inst, sv_inst0, sv_ok, sv_len, sv_take, okL_room, tk, tkn, take_room, bs_length, hG, Nat.mul_comm]) (by simp [CALL, cellsAt, tk, take_room, bs_length, bs_nil, instL_room, sv_inst, sv_inst0, sv_ok, sv_len, sv_take, okL_room, tk, tkn, take_room, bs_length, hG, Nat.mul_comm]) (by simp [okL_bs, okL_room, okL, okV, instL_room, sv_inst, sv_inst0, sv_ok, sv_len, sv_take, okL_room, tk, tkn, take_room, bs_length, hG, Nat.mul_comm]) ?_
  simp (config := { maxSteps := 2000000 }) only [CALL, ↓VC, VP, TT, List.getElem?_toArray, Nat.reduceEqDiff, reduceCtorEq, Nat.reduceAdd, Nat.reduceSub, Nat.reduceLT, Nat.reduceMul, Nat.reducePow, Nat.reduceLeDiff, Int.reduceToNat, Int.reduceLE, Int.reduceLT, Int.reducePow, instL_room, Bool.not_true, Bool.not_false, CX_FnTrees, lawPost, instL_room, sv_inst, sv_inst0, sv_len, ha, hl, bne_self_eq_false]
  refine ⟨fun h => by simp at h, fun _ => ?_⟩
  exact kMeet (tr_16 (r := r) (r1 := r1) (i := i) hc hm hn hD) (by kernel_rfl) ⟨[0, 1, 2], by simp [-List.reduceReplicate, LES, CX_FnTrees, trS, trH]⟩
theorem tr_8 (hc : l.length ≤ c) (hm : l.length ≤ 4096) (hn : n ≤ 65) (hD : D.length = 32 * n) : kFrom cx_FnTrees Try.f3 [8, 13, 16, 25, 29] 8 lawPost (trS l c n r i r1) (trH l D n r i r1) := by
  have hpl := pf_len (i := i) hD
  have hps := pf_le (n := n) (i := i) (by omega)
  simp only [kFrom, kFromK, kAt, Go.Vc.mark, lawPost, List.contains_cons, List.contains_nil, Nat.reduceBEq, Bool.or_false, Bool.false_or, Bool.true_or, Bool.or_true, Bool.false_eq_true, if_true, if_false, Nat.reduceAdd, Nat.reduceEqDiff, reduceCtorEq, Try.f3]
  simp only [CX_FnTrees, lawPost, ↓VC, VP, TT, List.getElem?_toArray, Nat.reduceEqDiff, reduceCtorEq, Nat.reduceAdd, Nat.reduceSub, Nat.reduceLT, Nat.reduceMul, Nat.reducePow, Nat.reduceLeDiff, Int.reduceToNat, Int.reduceLE, Int.reduceLT, Int.reducePow, trS, trH]
  refine kCall_Ret (d_rootOf hc hm) (by rfl) [(0, 0)] (by simp [CALL, cellsAt, tk, take_room, bs_length, bs_nil, instL_room, sv_inst, sv_inst0, sv_ok, sv_len, sv_take, okL_room, tk, tkn, take_room, bs_length]) (by simp [CALL, cellsAt, tk, take_room, bs_length, bs_nil, instL_room, sv_inst, sv_inst0, sv_ok, sv_len, sv_take, okL_room, tk, tkn, take_room, bs_length]) (by simp [CALL, cellsAt, tk, take_room, bs_length, bs_nil, instL_room, sv_inst, sv_inst0, sv_ok, sv_len, sv_take, okL_room, tk, tkn, take_room, bs_length]) (by simp [okL_bs, okL_room, okL, okV, instL_room, sv_inst, sv_inst0, sv_ok, sv_len, sv_take, okL_room, tk, tkn, take_room, bs_length]) (by simp [CALL, cellsAt, tk, take_room, bs_length, bs_nil, instL_room, sv_inst, sv_inst0, sv_ok, sv_len, sv_take, okL_room, tk, tkn, take_room, bs_length]) fun x2 h2 => ?_
  obtain ⟨n2, D2, rr⟩ := x2
  obtain ⟨hn2, hD2⟩ := h2
  simp only at hn2 hD2 ⊢
  have hq := rootD_len hD2
  simp (config := { maxSteps := 2000000 }) only [CALL, ↓VC, VP, TT, List.getElem?_toArray, Nat.reduceEqDiff, reduceCtorEq, Nat.reduceAdd, Nat.reduceSub, Nat.reduceLT, Nat.reduceMul, Nat.reducePow, Nat.reduceLeDiff, Int.reduceToNat, Int.reduceLE, Int.reduceLT, Int.reducePow, instL_room, Bool.not_true, Bool.not_false, CX_FnTrees, lawPost, instL_room, sv_inst, sv_inst0, sv_len]
  refine kCall_val (c_impl_RootOf n2 (n2 + rr) D2 hD2 (by omega)) (by rfl) [(3, 0)] (by simp [CALL, cellsAt, tk, take_room, bs_length, bs_nil, instL_room, sv_inst, sv_inst0, sv_ok, sv_len, sv_take, okL_room, tk, tkn, take_room, bs_length, hD2, Nat.mul_comm]) (by simp [CALL, cellsAt, tk, take_room, bs_length, bs_nil, instL_room, sv_inst, sv_inst0, sv_ok, sv_len, sv_take, okL_room, tk, tkn, take_room, bs_length, hD2, Nat.mul_comm]) (by simp [CALL, cellsAt, tk, take_room, bs_length, bs_nil, instL_room, sv_inst, sv_inst0, sv_ok, sv_len, sv_take, okL_room, tk, tkn, take_room, bs_length, hD2, Nat.mul_comm]) (by simp [okL_bs, okL_room, okL, okV, instL_room, sv_inst, sv_inst0, sv_ok, sv_len, sv_take, okL_room, tk, tkn, take_room, bs_length, hD2, Nat.mul_comm]) ?_
  simp (config := { maxSteps := 2000000 }) only [CALL, ↓VC, VP, TT, List.getElem?_toArray, Nat.reduceEqDiff, reduceCtorEq, Nat.reduceAdd, Nat.reduceSub, Nat.reduceLT, Nat.reduceMul, Nat.reducePow, Nat.reduceLeDiff, Int.reduceToNat, Int.reduceLE, Int.reduceLT, Int.reducePow, instL_room, Bool.not_true, Bool.not_false, CX_FnTrees, lawPost, instL_room, sv_inst, sv_inst0, sv_len, hq]
  refine kCall_val (c_spec_RootOf n2 (n2 + rr) D2 hD2 (by omega)) (by rfl) [(3, 0)] (by simp [CALL, cellsAt, tk, take_room, bs_length, bs_nil, instL_room, sv_inst, sv_inst0, sv_ok, sv_len, sv_take, okL_room, tk, tkn, take_room, bs_length, hD2, Nat.mul_comm]) (by simp [CALL, cellsAt, tk, take_room, bs_length, bs_nil, instL_room, sv_inst, sv_inst0, sv_ok, sv_len, sv_take, okL_room, tk, tkn, take_room, bs_length, hD2, Nat.mul_comm]) (by simp [CALL, cellsAt, tk, take_room, bs_length, bs_nil, instL_room, sv_inst, sv_inst0, sv_ok, sv_len, sv_take, okL_room, tk, tkn, take_room, bs_length, hD2, Nat.mul_comm]) (by simp [okL_bs, okL_room, okL, okV, instL_room, sv_inst, sv_inst0, sv_ok, sv_len, sv_take, okL_room, tk, tkn, take_room, bs_length, hD2, Nat.mul_comm]) ?_
  simp (config := { maxSteps := 2000000 }) only [CALL, ↓VC, VP, TT, List.getElem?_toArray, Nat.reduceEqDiff, reduceCtorEq, Nat.reduceAdd, Nat.reduceSub, Nat.reduceLT, Nat.reduceMul, Nat.reducePow, Nat.reduceLeDiff, Int.reduceToNat, Int.reduceLE, Int.reduceLT, Int.reducePow, instL_room, Bool.not_true, Bool.not_false, CX_FnTrees, lawPost, instL_room, sv_inst, sv_inst0, sv_len, hq, bne_self_eq_false]
  refine ⟨intCells_bs _, intCells_bs _, fun b1 hb1 => ⟨fun h5 => (by rw [hb1.2 trivial] at h5; cases h5), fun _ => ?_⟩⟩
  exact kMeet (tr_13 (r := r) (r1 := r1) (i := i) hc hm hn hD) (by kernel_rfl) ⟨[0, 1, 2], by simp [-List.reduceReplicate, LES, CX_FnTrees, trS, trH]⟩
end
theorem law_FnTrees (l : List UInt8) (c : Nat) (hc : l.length ≤ c) (hmc : c ≤ maxLen) : LC Try.prog 3 [.s 0 0 l.length c] [⟨false, bs l⟩] (fun v _ => v = .c (.bool true)) := by
  refine LC_ofM (X := cx_FnTrees) [8, 13, 16, 25, 29] envOK Try.func3 (by kernel_rfl) (ord_two (by kernel_rfl)) rfl (Nat.le_of_ble_eq_true (by kernel_rfl)) ?_
  simp only [kFunM, Go.Vc.mark, List.contains_cons, List.contains_nil, Nat.reduceBEq, Bool.or_false, Bool.false_or, Bool.true_or, Bool.or_true, Bool.false_eq_true, if_true, if_false, Nat.reduceAdd, Nat.reduceEqDiff, Try.f3, List.length_nil, List.length_cons, Nat.sub_zero, Nat.reduceSub, List.nil_append, List.cons_append, List.replicate_succ, List.replicate_zero]
  simp only [CX_FnTrees, ↓VC, VP, TT, List.getElem?_toArray, Nat.reduceEqDiff, reduceCtorEq, Nat.reduceAdd, Nat.reduceSub, Nat.reduceLT, Nat.reduceMul, Nat.reducePow, Nat.reduceLeDiff, Int.reduceToNat, Int.reduceLE, Int.reduceLT, Int.reducePow]
  refine kCall_val (d_big (l := l) (c := c) (by omega)) (by rfl) [(0, 0)] (by simp [CALL, cellsAt, tk, take_room, bs_length, bs_nil, instL_room, sv_inst, sv_inst0, sv_ok, sv_len, sv_take, okL_room, tk, tkn, take_room, bs_length]) (by simp [CALL, cellsAt, tk, take_room, bs_length, bs_nil, instL_room, sv_inst, sv_inst0, sv_ok, sv_len, sv_take, okL_room, tk, tkn, take_room, bs_length]) (by simp [CALL, cellsAt, tk, take_room, bs_length, bs_nil, instL_room, sv_inst, sv_inst0, sv_ok, sv_len, sv_take, okL_room, tk, tkn, take_room, bs_length]) (by simp [okL_bs, okL_room, okL, okV, instL_room, sv_inst, sv_inst0, sv_ok, sv_len, sv_take, okL_room, tk, tkn, take_room, bs_length]) ?_
  simp (config := { maxSteps := 2000000 }) only [CALL, ↓VC, VP, TT, List.getElem?_toArray, Nat.reduceEqDiff, reduceCtorEq, Nat.reduceAdd, Nat.reduceSub, Nat.reduceLT, Nat.reduceMul, Nat.reducePow, Nat.reduceLeDiff, Int.reduceToNat, Int.reduceLE, Int.reduceLT, Int.reducePow, instL_room, Bool.not_true, Bool.not_false, CX_FnTrees, lawPost, instL_room, sv_inst, sv_inst0, sv_len]
  refine ⟨fun _ => ⟨_, [⟨false, bs l⟩], [0], rfl, by simp [-List.reduceReplicate, LES]⟩, fun h => ?_⟩
  have hm : l.length ≤ 4096 := by simpa using h
  clear h
  refine kCall_Ret (d_proofOf hc hm) (by rfl) [(0, 0)] (by simp [CALL, cellsAt, tk, take_room, bs_length, bs_nil, instL_room, sv_inst, sv_inst0, sv_ok, sv_len, sv_take, okL_room, tk, tkn, take_room, bs_length]) (by simp [CALL, cellsAt, tk, take_room, bs_length, bs_nil, instL_room, sv_inst, sv_inst0, sv_ok, sv_len, sv_take, okL_room, tk, tkn, take_room, bs_length]) (by simp [CALL, cellsAt, tk, take_room, bs_length, bs_nil, instL_room, sv_inst, sv_inst0, sv_ok, sv_len, sv_take, okL_room, tk, tkn, take_room, bs_length]) (by simp [okL_bs, okL_room, okL, okV, instL_room, sv_inst, sv_inst0, sv_ok, sv_len, sv_take, okL_room, tk, tkn, take_room, bs_length]) (by simp [CALL, cellsAt, tk, take_room, bs_length, bs_nil, instL_room, sv_inst, sv_inst0, sv_ok, sv_len, sv_take, okL_room, tk, tkn, take_room, bs_length]) fun x1 h1 => ?_
  simp (config := { maxSteps := 2000000 }) only [CALL, ↓VC, VP, TT, List.getElem?_toArray, Nat.reduceEqDiff, reduceCtorEq, Nat.reduceAdd, Nat.reduceSub, Nat.reduceLT, Nat.reduceMul, Nat.reducePow, Nat.reduceLeDiff, Int.reduceToNat, Int.reduceLE, Int.reduceLT, Int.reducePow, instL_room, Bool.not_true, Bool.not_false, CX_FnTrees, lawPost, instL_room, sv_inst, sv_inst0, sv_len]
  obtain ⟨n, D, r, i⟩ := x1
  obtain ⟨hn, hD⟩ := h1
  simp only at hn hD ⊢
  have hpl := pf_len (i := i) hD
  have hps := pf_le (n := n) (i := i) (by omega)
  refine kCall_Ret (c_impl_ProofOfU n (n + r) i D hD (by omega)) (by rfl) [(1, 0)] (by simp [CALL, cellsAt, tk, take_room, bs_length, bs_nil, instL_room, sv_inst, sv_inst0, sv_ok, sv_len, sv_take, okL_room, tk, tkn, take_room, bs_length, hD, Nat.mul_comm]) (by simp [CALL, cellsAt, tk, take_room, bs_length, bs_nil, instL_room, sv_inst, sv_inst0, sv_ok, sv_len, sv_take, okL_room, tk, tkn, take_room, bs_length, hD, Nat.mul_comm]) (by simp [CALL, cellsAt, tk, take_room, bs_length, bs_nil, instL_room, sv_inst, sv_inst0, sv_ok, sv_len, sv_take, okL_room, tk, tkn, take_room, bs_length, hD, Nat.mul_comm]) (by simp [okL_bs, okL_room, okL, okV, instL_room, sv_inst, sv_inst0, sv_ok, sv_len, sv_take, okL_room, tk, tkn, take_room, bs_length, hD, Nat.mul_comm]) (by simp [CALL, cellsAt, tk, take_room, bs_length, bs_nil, instL_room, sv_inst, sv_inst0, sv_ok, sv_len, sv_take, okL_room, tk, tkn, take_room, bs_length, hD, Nat.mul_comm]) fun r1 _ => ?_
  simp (config := { maxSteps := 2000000 }) only [CALL, ↓VC, VP, TT, List.getElem?_toArray, Nat.reduceEqDiff, reduceCtorEq, Nat.reduceAdd, Nat.reduceSub, Nat.reduceLT, Nat.reduceMul, Nat.reducePow, Nat.reduceLeDiff, Int.reduceToNat, Int.reduceLE, Int.reduceLT, Int.reducePow, instL_room, Bool.not_true, Bool.not_false, CX_FnTrees, lawPost, instL_room, sv_inst, sv_inst0, sv_len]
  refine kCall_Ret (c_spec_ProofOfU n (n + r) i D hD (by omega)) (by rfl) [(1, 0)] (by simp [CALL, cellsAt, tk, take_room, bs_length, bs_nil, instL_room, sv_inst, sv_inst0, sv_ok, sv_len, sv_take, okL_room, tk, tkn, take_room, bs_length, hD, Nat.mul_comm]) (by simp [CALL, cellsAt, tk, take_room, bs_length, bs_nil, instL_room, sv_inst, sv_inst0, sv_ok, sv_len, sv_take, okL_room, tk, tkn, take_room, bs_length, hD, Nat.mul_comm]) (by simp [CALL, cellsAt, tk, take_room, bs_length, bs_nil, instL_room, sv_inst, sv_inst0, sv_ok, sv_len, sv_take, okL_room, tk, tkn, take_room, bs_length, hD, Nat.mul_comm]) (by simp [okL_bs, okL_room, okL, okV, instL_room, sv_inst, sv_inst0, sv_ok, sv_len, sv_take, okL_room, tk, tkn, take_room, bs_length, hD, Nat.mul_comm]) (by simp [CALL, cellsAt, tk, take_room, bs_length, bs_nil, instL_room, sv_inst, sv_inst0, sv_ok, sv_len, sv_take, okL_room, tk, tkn, take_room, bs_length, hD, Nat.mul_comm]) fun r2 _ => ?_
  simp (config := { maxSteps := 2000000 }) only [CALL, ↓VC, VP, TT, List.getElem?_toArray, Nat.reduceEqDiff, reduceCtorEq, Nat.reduceAdd, Nat.reduceSub, Nat.reduceLT, Nat.reduceMul, Nat.reducePow, Nat.reduceLeDiff, Int.reduceToNat, Int.reduceLE, Int.reduceLT, Int.reducePow, instL_room, Bool.not_true, Bool.not_false, CX_FnTrees, lawPost, instL_room, sv_inst, sv_inst0, sv_len, bne_self_eq_false]
  refine kCall_val (d_digests9 (pfE n i) (pfE n i + r1) (pfE n i + r2) (pfL n i D) hpl (by omega) (by omega) hps) (by rfl) [(2, 0), (3, 0)] (by simp [CALL, cellsAt, tk, take_room, bs_length, bs_nil, instL_room, sv_inst, sv_inst0, sv_ok, sv_len, sv_take, okL_room, tk, tkn, take_room, bs_length, hpl, Nat.mul_comm]) (by simp [CALL, cellsAt, tk, take_room, bs_length, bs_nil, instL_room, sv_inst, sv_inst0, sv_ok, sv_len, sv_take, okL_room, tk, tkn, take_room, bs_length, hpl, Nat.mul_comm]) (by simp [CALL, cellsAt, tk, take_room, bs_length, bs_nil, instL_room, sv_inst, sv_inst0, sv_ok, sv_len, sv_take, okL_room, tk, tkn, take_room, bs_length, hpl, Nat.mul_comm]) (by simp [okL_bs, okL_room, okL, okV, instL_room, sv_inst, sv_inst0, sv_ok, sv_len, sv_take, okL_room, tk, tkn, take_room, bs_length, hpl, Nat.mul_comm]) ?_
  simp (config := { maxSteps := 2000000 }) only [CALL, ↓VC, VP, TT, List.getElem?_toArray, Nat.reduceEqDiff, reduceCtorEq, Nat.reduceAdd, Nat.reduceSub, Nat.reduceLT, Nat.reduceMul, Nat.reducePow, Nat.reduceLeDiff, Int.reduceToNat, Int.reduceLE, Int.reduceLT, Int.reducePow, instL_room, Bool.not_true, Bool.not_false, CX_FnTrees, lawPost, instL_room, sv_inst, sv_inst0, sv_len, Bool.not_true]
  exact kMeet (tr_8 (r := r) (r1 := r1) (i := i) hc hm hn hD) (by kernel_rfl) ⟨[0, 1, 2], by simp [-List.reduceReplicate, LES, CX_FnTrees, trS, trH]⟩
end Go.Proofs.Ytledcckafhpgaaa

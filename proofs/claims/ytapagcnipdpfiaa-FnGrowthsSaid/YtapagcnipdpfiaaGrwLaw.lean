import Derived.Test.YtapagcnipdpfiaaDrawG
import Derived.Test.YtapagcnipdpfiaaDrawL
import Derived.Test.YtapagcnipdpfiaaGrowM
import Derived.Test.YtapagcnipdpfiaaGrowthOf
import Derived.Test.YtapagcnipdpfiaaRoots
/- FnGrowths: growths of a list show the roots of its first digests and of all, also after the last digest is changed. -/
set_option linter.unusedSimpArgs false
set_option linter.unusedVariables false
namespace Go.Proofs.Ytapagcnipdpfiaa
open Go Go.Vc
set_option maxRecDepth 10000
set_option maxHeartbeats 4000000
theorem rootD_in {n : Nat} {D : List UInt8} (h : n ≤ 64) : rootD n D = (rootL n D, 0) := by unfold rootD; rw [if_pos h]
theorem vGet_bsR {D : List UInt8} {X : List V} {i : Nat} {k : V → Prop} (h : i < D.length) : vGet (bs D ++ X) i k = k (.c (.int .u8 ((D.getD i 0).toNat : Int))) := by
  rw [vGet_appL (by rw [bs_length]; exact h), vGet_bs]
  exact propext ⟨fun x => x.2, fun x => ⟨h, x⟩⟩
theorem vPut_bsR {D : List UInt8} {X : List V} {i : Nat} {u : UInt8} {k : List V → Prop} (h : i < D.length) : vPut (bs D ++ X) i [.c (.int .u8 (u.toNat : Int))] k = k (bs (D.set i u) ++ X) := by
  have e : splice (bs D ++ X) i [.c (.int .u8 (u.toNat : Int))] = bs (D.set i u) ++ X := by
    rw [← splice_bs h]
    unfold splice
    rw [List.take_append_of_le_length (by rw [bs_length]; omega), List.drop_append_of_le_length (by rw [bs_length]; simp; omega)]
    simp
  unfold vPut
  rw [e]
  exact propext ⟨fun x => x.2, fun x => ⟨by rw [List.length_append, bs_length]; simp; omega, x⟩⟩
theorem law_FnGrowths (l : List UInt8) (c : Nat) (hc : l.length ≤ c) (hmc : c ≤ maxLen) : LC Try.prog 4 [.s 0 0 l.length c] [⟨false, bs l⟩] (fun v _ => v = .c (.bool true)) := by
  refine LC_of (X := XX (fun | 9 => .one 0 (.one 1 (.one 2 (.one 3 (.one 4 (.one 6 (.one 7 (.one 8 (.one 9 (.one 10 (.one 5 (.one 11 (.one 12 .nil)))))))))))) | 19 => .one 0 (.one 1 (.one 2 (.one 3 (.one 6 (.one 10 (.one 4 (.one 5 (.one 7 (.one 8 (.one 9 (.one 11 (.one 12 .nil)))))))))))) | _ => .nil) (fun _ => []) [25, 33, 34, 61, 62, 82, 87, 112, 119, 141] 1) envOK Try.func4 (by kernel_rfl) (by kernel_rfl) rfl (Nat.le_of_ble_eq_true (by kernel_rfl)) ?_
  simp only [kFun, Try.f4, List.length_nil, List.length_cons, Nat.sub_zero, Nat.reduceSub, Nat.reduceAdd, List.nil_append, List.cons_append, List.replicate_succ, List.replicate_zero]
  simp only [XX, ↓VC, VP, TT, List.getElem?_toArray, Nat.reduceEqDiff, reduceCtorEq, Nat.reduceAdd, Nat.reduceSub, Nat.reduceLT, Nat.reduceMul, Nat.reducePow, Nat.reduceLeDiff, Int.reduceToNat, Int.reduceLE, Int.reduceLT, Int.reducePow]
  refine kCall_val (d_big (l := l) (c := c) (by omega)) (by rfl) [(0, 0)] (by simp [CALL, cellsAt, tk, take_room, bs_length, bs_nil, instL_room, sv_inst, sv_inst0, sv_ok, sv_len, sv_take, okL_room, tk, tkn, take_room, bs_length]) (by simp [CALL, cellsAt, tk, take_room, bs_length, bs_nil, instL_room, sv_inst, sv_inst0, sv_ok, sv_len, sv_take, okL_room, tk, tkn, take_room, bs_length]) (by simp [CALL, cellsAt, tk, take_room, bs_length, bs_nil, instL_room, sv_inst, sv_inst0, sv_ok, sv_len, sv_take, okL_room, tk, tkn, take_room, bs_length]) (by simp [okL_bs, okL_room, okL, okV, instL_room, sv_inst, sv_inst0, sv_ok, sv_len, sv_take, okL_room, tk, tkn, take_room, bs_length]) ?_
  simp (config := { maxSteps := 2000000 }) only [CALL, ↓VC, VP, TT, List.getElem?_toArray, Nat.reduceEqDiff, reduceCtorEq, Nat.reduceAdd, Nat.reduceSub, Nat.reduceLT, Nat.reduceMul, Nat.reducePow, Nat.reduceLeDiff, Int.reduceToNat, Int.reduceLE, Int.reduceLT, Int.reducePow, instL_room, Bool.not_true, Bool.not_false, instL_room, sv_inst, sv_inst0, sv_len]
  refine ⟨fun _ => ⟨_, [⟨false, bs l⟩], [0], rfl, by simp [-List.reduceReplicate, LES]⟩, fun h => ?_⟩
  have hm : l.length ≤ 4096 := by simpa using h
  clear h
  refine kCall_Ret (d_growthOf hc hm) (by rfl) [(0, 0)] (by simp [CALL, cellsAt, tk, take_room, bs_length, bs_nil, instL_room, sv_inst, sv_inst0, sv_ok, sv_len, sv_take, okL_room, tk, tkn, take_room, bs_length]) (by simp [CALL, cellsAt, tk, take_room, bs_length, bs_nil, instL_room, sv_inst, sv_inst0, sv_ok, sv_len, sv_take, okL_room, tk, tkn, take_room, bs_length]) (by simp [CALL, cellsAt, tk, take_room, bs_length, bs_nil, instL_room, sv_inst, sv_inst0, sv_ok, sv_len, sv_take, okL_room, tk, tkn, take_room, bs_length]) (by simp [okL_bs, okL_room, okL, okV, instL_room, sv_inst, sv_inst0, sv_ok, sv_len, sv_take, okL_room, tk, tkn, take_room, bs_length]) (by simp [CALL, cellsAt, tk, take_room, bs_length, bs_nil, instL_room, sv_inst, sv_inst0, sv_ok, sv_len, sv_take, okL_room, tk, tkn, take_room, bs_length]) fun x1 h1 => ?_
  simp (config := { maxSteps := 2000000 }) only [CALL, ↓VC, VP, TT, List.getElem?_toArray, Nat.reduceEqDiff, reduceCtorEq, Nat.reduceAdd, Nat.reduceSub, Nat.reduceLT, Nat.reduceMul, Nat.reducePow, Nat.reduceLeDiff, Int.reduceToNat, Int.reduceLE, Int.reduceLT, Int.reducePow, instL_room, Bool.not_true, Bool.not_false, instL_room, sv_inst, sv_inst0, sv_len]
  obtain ⟨n, D, r, i⟩ := x1
  obtain ⟨hn, hD, hi0, hi1⟩ := h1
  simp only at hn hD hi0 hi1 ⊢
  have hgl := gw_len (i := i) hD
  have hgs := gw_le (n := n) (i := i) (by omega)
  refine kCall_Ret (c_impl_GrowthOfU n (n + r) i D hD (by omega)) (by rfl) [(1, 0)] (by simp [CALL, cellsAt, tk, take_room, bs_length, bs_nil, instL_room, sv_inst, sv_inst0, sv_ok, sv_len, sv_take, okL_room, tk, tkn, take_room, bs_length, hD, Nat.mul_comm]) (by simp [CALL, cellsAt, tk, take_room, bs_length, bs_nil, instL_room, sv_inst, sv_inst0, sv_ok, sv_len, sv_take, okL_room, tk, tkn, take_room, bs_length, hD, Nat.mul_comm]) (by simp [CALL, cellsAt, tk, take_room, bs_length, bs_nil, instL_room, sv_inst, sv_inst0, sv_ok, sv_len, sv_take, okL_room, tk, tkn, take_room, bs_length, hD, Nat.mul_comm]) (by simp [okL_bs, okL_room, okL, okV, instL_room, sv_inst, sv_inst0, sv_ok, sv_len, sv_take, okL_room, tk, tkn, take_room, bs_length, hD, Nat.mul_comm]) (by simp [CALL, cellsAt, tk, take_room, bs_length, bs_nil, instL_room, sv_inst, sv_inst0, sv_ok, sv_len, sv_take, okL_room, tk, tkn, take_room, bs_length, hD, Nat.mul_comm]) fun r1 _ => ?_
  simp (config := { maxSteps := 2000000 }) only [CALL, ↓VC, VP, TT, List.getElem?_toArray, Nat.reduceEqDiff, reduceCtorEq, Nat.reduceAdd, Nat.reduceSub, Nat.reduceLT, Nat.reduceMul, Nat.reducePow, Nat.reduceLeDiff, Int.reduceToNat, Int.reduceLE, Int.reduceLT, Int.reducePow, instL_room, Bool.not_true, Bool.not_false, instL_room, sv_inst, sv_inst0, sv_len]
  refine kCall_Ret (c_spec_GrowthOfU n (n + r) i D hD (by omega)) (by rfl) [(1, 0)] (by simp [CALL, cellsAt, tk, take_room, bs_length, bs_nil, instL_room, sv_inst, sv_inst0, sv_ok, sv_len, sv_take, okL_room, tk, tkn, take_room, bs_length, hD, Nat.mul_comm]) (by simp [CALL, cellsAt, tk, take_room, bs_length, bs_nil, instL_room, sv_inst, sv_inst0, sv_ok, sv_len, sv_take, okL_room, tk, tkn, take_room, bs_length, hD, Nat.mul_comm]) (by simp [CALL, cellsAt, tk, take_room, bs_length, bs_nil, instL_room, sv_inst, sv_inst0, sv_ok, sv_len, sv_take, okL_room, tk, tkn, take_room, bs_length, hD, Nat.mul_comm]) (by simp [okL_bs, okL_room, okL, okV, instL_room, sv_inst, sv_inst0, sv_ok, sv_len, sv_take, okL_room, tk, tkn, take_room, bs_length, hD, Nat.mul_comm]) (by simp [CALL, cellsAt, tk, take_room, bs_length, bs_nil, instL_room, sv_inst, sv_inst0, sv_ok, sv_len, sv_take, okL_room, tk, tkn, take_room, bs_length, hD, Nat.mul_comm]) fun r2 _ => ?_
  simp (config := { maxSteps := 2000000 }) only [CALL, ↓VC, VP, TT, List.getElem?_toArray, Nat.reduceEqDiff, reduceCtorEq, Nat.reduceAdd, Nat.reduceSub, Nat.reduceLT, Nat.reduceMul, Nat.reducePow, Nat.reduceLeDiff, Int.reduceToNat, Int.reduceLE, Int.reduceLT, Int.reducePow, instL_room, Bool.not_true, Bool.not_false, instL_room, sv_inst, sv_inst0, sv_len, bne_self_eq_false]
  refine kCall_val (d_digests9 (gwE n i) (gwE n i + r1) (gwE n i + r2) (gwL n i D) hgl (by omega) (by omega) hgs) (by rfl) [(2, 0), (3, 0)] (by simp [CALL, cellsAt, tk, take_room, bs_length, bs_nil, instL_room, sv_inst, sv_inst0, sv_ok, sv_len, sv_take, okL_room, tk, tkn, take_room, bs_length, hgl, Nat.mul_comm]) (by simp [CALL, cellsAt, tk, take_room, bs_length, bs_nil, instL_room, sv_inst, sv_inst0, sv_ok, sv_len, sv_take, okL_room, tk, tkn, take_room, bs_length, hgl, Nat.mul_comm]) (by simp [CALL, cellsAt, tk, take_room, bs_length, bs_nil, instL_room, sv_inst, sv_inst0, sv_ok, sv_len, sv_take, okL_room, tk, tkn, take_room, bs_length, hgl, Nat.mul_comm]) (by simp [okL_bs, okL_room, okL, okV, instL_room, sv_inst, sv_inst0, sv_ok, sv_len, sv_take, okL_room, tk, tkn, take_room, bs_length, hgl, Nat.mul_comm]) ?_
  simp (config := { maxSteps := 2000000 }) only [CALL, ↓VC, VP, TT, List.getElem?_toArray, Nat.reduceEqDiff, reduceCtorEq, Nat.reduceAdd, Nat.reduceSub, Nat.reduceLT, Nat.reduceMul, Nat.reducePow, Nat.reduceLeDiff, Int.reduceToNat, Int.reduceLE, Int.reduceLT, Int.reducePow, instL_room, Bool.not_true, Bool.not_false, instL_room, sv_inst, sv_inst0, sv_len, Bool.not_true]
  refine kCall_Ret (d_isGrowthU hc hm) (by rfl) [(0, 0)] (by simp [CALL, cellsAt, tk, take_room, bs_length, bs_nil, instL_room, sv_inst, sv_inst0, sv_ok, sv_len, sv_take, okL_room, tk, tkn, take_room, bs_length]) (by simp [CALL, cellsAt, tk, take_room, bs_length, bs_nil, instL_room, sv_inst, sv_inst0, sv_ok, sv_len, sv_take, okL_room, tk, tkn, take_room, bs_length]) (by simp [CALL, cellsAt, tk, take_room, bs_length, bs_nil, instL_room, sv_inst, sv_inst0, sv_ok, sv_len, sv_take, okL_room, tk, tkn, take_room, bs_length]) (by simp [okL_bs, okL_room, okL, okV, instL_room, sv_inst, sv_inst0, sv_ok, sv_len, sv_take, okL_room, tk, tkn, take_room, bs_length]) (by simp [CALL, cellsAt, tk, take_room, bs_length, bs_nil, instL_room, sv_inst, sv_inst0, sv_ok, sv_len, sv_take, okL_room, tk, tkn, take_room, bs_length]) fun x2 h2 => ?_
  obtain ⟨⟨a, k, b, n2⟩, g, G, rg⟩ := x2
  obtain ⟨ha, hb, hg, hG⟩ := h2
  simp only at ha hb hg hG ⊢
  have sa : splB (List.replicate 32 0) 0 a = a := splB0 (by simp [ha])
  have sb : splB (List.replicate 32 0) 0 b = b := splB0 (by simp [hb])
  simp (config := { maxSteps := 2000000 }) only [CALL, ↓VC, VP, TT, List.getElem?_toArray, Nat.reduceEqDiff, reduceCtorEq, Nat.reduceAdd, Nat.reduceSub, Nat.reduceLT, Nat.reduceMul, Nat.reducePow, Nat.reduceLeDiff, Int.reduceToNat, Int.reduceLE, Int.reduceLT, Int.reducePow, instL_room, Bool.not_true, Bool.not_false, instL_room, sv_inst, sv_inst0, sv_len, ha, hb, sa, sb, tk32 ha, tk32 hb]
  repeat (refine ⟨by first | omega | (simp; done) | decide, ?_⟩)
  refine kCall_val (c_impl_IsGrowth a b ha hb k n2 g (g + rg) G hG (by omega) hg) (by rfl) [(4, 0)] (by simp [CALL, cellsAt, tk, take_room, bs_length, bs_nil, instL_room, sv_inst, sv_inst0, sv_ok, sv_len, sv_take, okL_room, tk, tkn, take_room, bs_length, hG, Nat.mul_comm]) (by simp [CALL, cellsAt, tk, take_room, bs_length, bs_nil, instL_room, sv_inst, sv_inst0, sv_ok, sv_len, sv_take, okL_room, tk, tkn, take_room, bs_length, hG, Nat.mul_comm]) (by simp [CALL, cellsAt, tk, take_room, bs_length, bs_nil, instL_room, sv_inst, sv_inst0, sv_ok, sv_len, sv_take, okL_room, tk, tkn, take_room, bs_length, hG, Nat.mul_comm]) (by simp [okL_bs, okL_room, okL, okV, instL_room, sv_inst, sv_inst0, sv_ok, sv_len, sv_take, okL_room, tk, tkn, take_room, bs_length, hG, Nat.mul_comm]) ?_
  simp (config := { maxSteps := 2000000 }) only [CALL, ↓VC, VP, TT, List.getElem?_toArray, Nat.reduceEqDiff, reduceCtorEq, Nat.reduceAdd, Nat.reduceSub, Nat.reduceLT, Nat.reduceMul, Nat.reducePow, Nat.reduceLeDiff, Int.reduceToNat, Int.reduceLE, Int.reduceLT, Int.reducePow, instL_room, Bool.not_true, Bool.not_false, instL_room, sv_inst, sv_inst0, sv_len, ha, hb]
  refine kCall_val (c_spec_IsGrowth a b ha hb k n2 g (g + rg) G hG (by omega) hg) (by rfl) [(4, 0)] (by simp [CALL, cellsAt, tk, take_room, bs_length, bs_nil, instL_room, sv_inst, sv_inst0, sv_ok, sv_len, sv_take, okL_room, tk, tkn, take_room, bs_length, hG, Nat.mul_comm]) (by simp [CALL, cellsAt, tk, take_room, bs_length, bs_nil, instL_room, sv_inst, sv_inst0, sv_ok, sv_len, sv_take, okL_room, tk, tkn, take_room, bs_length, hG, Nat.mul_comm]) (by simp [CALL, cellsAt, tk, take_room, bs_length, bs_nil, instL_room, sv_inst, sv_inst0, sv_ok, sv_len, sv_take, okL_room, tk, tkn, take_room, bs_length, hG, Nat.mul_comm]) (by simp [okL_bs, okL_room, okL, okV, instL_room, sv_inst, sv_inst0, sv_ok, sv_len, sv_take, okL_room, tk, tkn, take_room, bs_length, hG, Nat.mul_comm]) ?_
  simp (config := { maxSteps := 2000000 }) only [CALL, ↓VC, VP, TT, List.getElem?_toArray, Nat.reduceEqDiff, reduceCtorEq, Nat.reduceAdd, Nat.reduceSub, Nat.reduceLT, Nat.reduceMul, Nat.reducePow, Nat.reduceLeDiff, Int.reduceToNat, Int.reduceLE, Int.reduceLT, Int.reducePow, instL_room, Bool.not_true, Bool.not_false, instL_room, sv_inst, sv_inst0, sv_len, ha, hb, bne_self_eq_false]
  refine ⟨fun h => by simp at h, fun _ => ?_⟩
  by_cases hok : okG n i
  case neg =>
    obtain ⟨e1, e2, e3⟩ := gw_no (D := D) hok
    refine ⟨fun _ => ⟨_, [⟨false, bs l⟩], [0], rfl, ?_⟩, fun h => by rw [e3] at h; cases h⟩
    rw [e1]
    simp [-List.reduceReplicate, LES]
  obtain ⟨hn64, hm1, hmn⟩ := hok
  obtain ⟨m, rfl⟩ : ∃ m : Nat, i = m := ⟨i.toNat, by omega⟩
  obtain ⟨e1, e2, e3⟩ := gw_yes (n := n) (i := m) (D := D) hn64 (by omega) (by omega)
  have hmt : (D.take (32 * m)).length = 32 * m := by rw [List.length_take]; omega
  have ht1 : ∀ X, List.take (32 * m) (bs D ++ X) = bs (D.take (32 * m)) := fun X => by rw [List.take_append_of_le_length (by rw [bs_length]; omega), bs_take]
  have ht2 : ∀ X, List.take (32 * n) (bs D ++ X) = bs D := fun X => by rw [List.take_append_of_le_length (by rw [bs_length]; omega), List.take_of_length_le (by rw [bs_length]; omega)]
  have hq1 := rootL_len hmt
  have hq2 := rootL_len hD
  have hgr := isGrow_growL hD (show 1 ≤ m by omega) (by omega) hn64
  have hg1 := growL_len n m true D hD
  have hg2 := gdepL_le n m true
  have ht3 : ∀ X, List.take (32 * gdepL n m true) (bs (growL n m true D) ++ X) = bs (growL n m true D) := fun X => by rw [List.take_append_of_le_length (by rw [bs_length]; omega), List.take_of_length_le (by rw [bs_length]; omega)]
  refine ⟨fun h => (by rw [e3] at h; cases h), fun _ => ⟨by omega, by omega, ?_⟩⟩
  rw [e1, e2, e3, show ((m : Int)).toNat - 0 = m by omega, show n + r - 0 = n + r by omega]
  have hR1 := c_impl_RootOf m (n + r) (D.take (32 * m)) hmt (by omega)
  have hR2 := c_impl_RootOf n (n + r) D hD (by omega)
  rw [rootD_in (by omega)] at hR1 hR2
  refine kCall_val (hR1) (by rfl) [(1, 0)] (by simp [CALL, cellsAt, tk, take_room, bs_length, bs_nil, instL_room, sv_inst, sv_inst0, sv_ok, sv_len, sv_take, okL_room, tk, tkn, take_room, bs_length, ht1, bs_length, hmt]) (by simp [CALL, cellsAt, tk, take_room, bs_length, bs_nil, instL_room, sv_inst, sv_inst0, sv_ok, sv_len, sv_take, okL_room, tk, tkn, take_room, bs_length, ht1, bs_length, hmt]) (by simp [CALL, cellsAt, tk, take_room, bs_length, bs_nil, instL_room, sv_inst, sv_inst0, sv_ok, sv_len, sv_take, okL_room, tk, tkn, take_room, bs_length, ht1, bs_length, hmt]) (by simp [okL_bs, okL_room, okL, okV, instL_room, sv_inst, sv_inst0, sv_ok, sv_len, sv_take, okL_room, tk, tkn, take_room, bs_length, ht1, bs_length, hmt]) ?_
  simp (config := { maxSteps := 2000000 }) only [CALL, ↓VC, VP, TT, List.getElem?_toArray, Nat.reduceEqDiff, reduceCtorEq, Nat.reduceAdd, Nat.reduceSub, Nat.reduceLT, Nat.reduceMul, Nat.reducePow, Nat.reduceLeDiff, Int.reduceToNat, Int.reduceLE, Int.reduceLT, Int.reducePow, instL_room, Bool.not_true, Bool.not_false, instL_room, sv_inst, sv_inst0, sv_len, hq1]
  refine kCall_val (hR2) (by rfl) [(1, 0)] (by simp [CALL, cellsAt, tk, take_room, bs_length, bs_nil, instL_room, sv_inst, sv_inst0, sv_ok, sv_len, sv_take, okL_room, tk, tkn, take_room, bs_length, ht2, bs_length, hD]) (by simp [CALL, cellsAt, tk, take_room, bs_length, bs_nil, instL_room, sv_inst, sv_inst0, sv_ok, sv_len, sv_take, okL_room, tk, tkn, take_room, bs_length, ht2, bs_length, hD]) (by simp [CALL, cellsAt, tk, take_room, bs_length, bs_nil, instL_room, sv_inst, sv_inst0, sv_ok, sv_len, sv_take, okL_room, tk, tkn, take_room, bs_length, ht2, bs_length, hD]) (by simp [okL_bs, okL_room, okL, okV, instL_room, sv_inst, sv_inst0, sv_ok, sv_len, sv_take, okL_room, tk, tkn, take_room, bs_length, ht2, bs_length, hD]) ?_
  simp (config := { maxSteps := 2000000 }) only [CALL, ↓VC, VP, TT, List.getElem?_toArray, Nat.reduceEqDiff, reduceCtorEq, Nat.reduceAdd, Nat.reduceSub, Nat.reduceLT, Nat.reduceMul, Nat.reducePow, Nat.reduceLeDiff, Int.reduceToNat, Int.reduceLE, Int.reduceLT, Int.reducePow, instL_room, Bool.not_true, Bool.not_false, instL_room, sv_inst, sv_inst0, sv_len, hq1, hq2, bne_self_eq_false]
  refine kCall_val (c_impl_IsGrowth _ _ hq1 hq2 (m : Int) (n : Int) (gdepL n m true) (gdepL n m true + r1) (growL n m true D) hg1 (by omega) (by omega)) (by rfl) [(2, 0)] (by simp [CALL, cellsAt, tk, take_room, bs_length, bs_nil, instL_room, sv_inst, sv_inst0, sv_ok, sv_len, sv_take, okL_room, tk, tkn, take_room, bs_length, ht3, bs_length, hg1]) (by simp [CALL, cellsAt, tk, take_room, bs_length, bs_nil, instL_room, sv_inst, sv_inst0, sv_ok, sv_len, sv_take, okL_room, tk, tkn, take_room, bs_length, ht3, bs_length, hg1]) (by simp [CALL, cellsAt, tk, take_room, bs_length, bs_nil, instL_room, sv_inst, sv_inst0, sv_ok, sv_len, sv_take, okL_room, tk, tkn, take_room, bs_length, ht3, bs_length, hg1]) (by simp [okL_bs, okL_room, okL, okV, instL_room, sv_inst, sv_inst0, sv_ok, sv_len, sv_take, okL_room, tk, tkn, take_room, bs_length, ht3, bs_length, hg1]) ?_
  simp (config := { maxSteps := 2000000 }) only [CALL, ↓VC, VP, TT, List.getElem?_toArray, Nat.reduceEqDiff, reduceCtorEq, Nat.reduceAdd, Nat.reduceSub, Nat.reduceLT, Nat.reduceMul, Nat.reducePow, Nat.reduceLeDiff, Int.reduceToNat, Int.reduceLE, Int.reduceLT, Int.reducePow, instL_room, Bool.not_true, Bool.not_false, instL_room, sv_inst, sv_inst0, sv_len, hq1, hq2, hgr, Bool.not_true, ht2, hD, List.take_zero, List.nil_append]
  have hw : IntKind.i64.wrap ((n : Int) - 1) = ((n - 1 : Nat) : Int) := by rw [wrap_i64 (by omega) (by omega)]; omega
  have ht4 : ∀ X, List.take (n * 32) (bs D ++ X) = bs D := fun X => by rw [Nat.mul_comm]; exact ht2 X
  refine ⟨by omega, by omega, .inl trivial, .inr (by omega), fun r3 c3 e5 e6 => ?_⟩
  rw [hw, ht4]
  refine ⟨by omega, by omega, by omega, by omega, ?_⟩
  refine kCall_Ret (d_roll (9022 : Int) hc hm) (by rfl) [(0, 0)] (by simp [CALL, cellsAt, tk, take_room, bs_length, bs_nil, instL_room, sv_inst, sv_inst0, sv_ok, sv_len, sv_take, okL_room, tk, tkn, take_room, bs_length]) (by simp [CALL, cellsAt, tk, take_room, bs_length, bs_nil, instL_room, sv_inst, sv_inst0, sv_ok, sv_len, sv_take, okL_room, tk, tkn, take_room, bs_length]) (by simp [CALL, cellsAt, tk, take_room, bs_length, bs_nil, instL_room, sv_inst, sv_inst0, sv_ok, sv_len, sv_take, okL_room, tk, tkn, take_room, bs_length]) (by simp [okL_bs, okL_room, okL, okV, instL_room, sv_inst, sv_inst0, sv_ok, sv_len, sv_take, okL_room, tk, tkn, take_room, bs_length]) (by simp [CALL, cellsAt, tk, take_room, bs_length, bs_nil, instL_room, sv_inst, sv_inst0, sv_ok, sv_len, sv_take, okL_room, tk, tkn, take_room, bs_length]) fun q hq => ?_
  simp (config := { maxSteps := 2000000 }) only [CALL, ↓VC, VP, TT, List.getElem?_toArray, Nat.reduceEqDiff, reduceCtorEq, Nat.reduceAdd, Nat.reduceSub, Nat.reduceLT, Nat.reduceMul, Nat.reducePow, Nat.reduceLeDiff, Int.reduceToNat, Int.reduceLE, Int.reduceLT, Int.reducePow, instL_room, Bool.not_true, Bool.not_false, instL_room, sv_inst, sv_inst0, sv_len]
  refine kCall_M (d_below hc hm hq 32) (by rfl) [(11, 0), (0, 0)] (by simp [CALL, cellsAt, tk, take_room, bs_length, bs_nil, instL_room, sv_inst, sv_inst0, sv_ok, sv_len, sv_take, okL_room, tk, tkn, take_room, bs_length]) (by simp [CALL, cellsAt, tk, take_room, bs_length, bs_nil, instL_room, sv_inst, sv_inst0, sv_ok, sv_len, sv_take, okL_room, tk, tkn, take_room, bs_length]) (by simp) (by simp [CALL, cellsAt, tk, take_room, bs_length, bs_nil, instL_room, sv_inst, sv_inst0, sv_ok, sv_len, sv_take, okL_room, tk, tkn, take_room, bs_length]) (by simp [okL_bs, okL_room, okL, okV, instL_room, sv_inst, sv_inst0, sv_ok, sv_len, sv_take, okL_room, tk, tkn, take_room, bs_length]) (by intro x _; simp [keepR, bs_length, instL_room, sv_inst, sv_inst0, sv_ok, sv_len, sv_take, okL_room, tk, tkn, take_room, bs_length]) (by simp [CALL, cellsAt, tk, take_room, bs_length, bs_nil, instL_room, sv_inst, sv_inst0, sv_ok, sv_len, sv_take, okL_room, tk, tkn, take_room, bs_length]) fun x3 h3 => ?_
  simp (config := { maxSteps := 2000000 }) only [CALL, ↓VC, VP, TT, List.getElem?_toArray, Nat.reduceEqDiff, reduceCtorEq, Nat.reduceAdd, Nat.reduceSub, Nat.reduceLT, Nat.reduceMul, Nat.reducePow, Nat.reduceLeDiff, Int.reduceToNat, Int.reduceLE, Int.reduceLT, Int.reducePow, instL_room, Bool.not_true, Bool.not_false, instL_room, sv_inst, sv_inst0, sv_len]
  obtain ⟨q3, x⟩ := x3
  obtain ⟨h3q, h3a, h3b, _⟩ := h3
  simp only at h3q h3a h3b ⊢
  have h3b := h3b (by omega)
  obtain ⟨x, rfl⟩ : ∃ t : Nat, x = t := ⟨x.toNat, by omega⟩
  try simp only [bs_length, hD]
  have hj : (n - 1) * 32 + x < D.length := by omega
  have ex : ((x : Int)).toNat = x := rfl
  rw [ex, vGet_bsR hj]
  simp only [wrap_u8]
  rw [vPut_bsR hj]
  refine ⟨by omega, by omega, trivial, by omega, by omega, ?_⟩
  generalize (n - 1) * 32 + x = j at hj ⊢
  have hD' : (D.set j (UInt8.ofInt (((D.getD j 0).toNat : Int) + 1))).length = 32 * n := by rw [List.length_set, hD]
  generalize D.set j (UInt8.ofInt (((D.getD j 0).toNat : Int) + 1)) = D' at hD' ⊢
  clear hgr hR1 hR2 ht1 ht2 ht3 ht4 hmt hq1 hq2 hg1 e1 e2 e3
  obtain ⟨e1, e2, e3⟩ := gw_yes (n := n) (i := m) (D := D') hn64 (by omega) (by omega)
  have hmt : (D'.take (32 * m)).length = 32 * m := by rw [List.length_take]; omega
  have ht1 : ∀ X, List.take (32 * m) (bs D' ++ X) = bs (D'.take (32 * m)) := fun X => by rw [List.take_append_of_le_length (by rw [bs_length]; omega), bs_take]
  have ht2 : ∀ X, List.take (32 * n) (bs D' ++ X) = bs D' := fun X => by rw [List.take_append_of_le_length (by rw [bs_length]; omega), List.take_of_length_le (by rw [bs_length]; omega)]
  have hq1 := rootL_len hmt
  have hq2 := rootL_len hD'
  have hgr := isGrow_growL hD' (show 1 ≤ m by omega) (by omega) hn64
  have hg1 := growL_len n m true D' hD'
  have ht3 : ∀ X, List.take (32 * gdepL n m true) (bs (growL n m true D') ++ X) = bs (growL n m true D') := fun X => by rw [List.take_append_of_le_length (by rw [bs_length]; omega), List.take_of_length_le (by rw [bs_length]; omega)]
  have hR1 := c_impl_RootOf m c3 (D'.take (32 * m)) hmt (by omega)
  have hR2 := c_impl_RootOf n c3 D' hD' (by omega)
  have hG' := c_impl_GrowthOfU n c3 (m : Int) D' hD' (by omega)
  rw [rootD_in (by omega)] at hR1 hR2
  rw [e1, e2, e3] at hG'
  refine kCall_Ret (hG') (by rfl) [(10, 0)] (by simp [CALL, cellsAt, tk, take_room, bs_length, bs_nil, instL_room, sv_inst, sv_inst0, sv_ok, sv_len, sv_take, okL_room, tk, tkn, take_room, bs_length, ht2, bs_length, hD']) (by simp [CALL, cellsAt, tk, take_room, bs_length, bs_nil, instL_room, sv_inst, sv_inst0, sv_ok, sv_len, sv_take, okL_room, tk, tkn, take_room, bs_length, ht2, bs_length, hD']) (by simp [CALL, cellsAt, tk, take_room, bs_length, bs_nil, instL_room, sv_inst, sv_inst0, sv_ok, sv_len, sv_take, okL_room, tk, tkn, take_room, bs_length, ht2, bs_length, hD']) (by simp [okL_bs, okL_room, okL, okV, instL_room, sv_inst, sv_inst0, sv_ok, sv_len, sv_take, okL_room, tk, tkn, take_room, bs_length, ht2, bs_length, hD']) (by simp [CALL, cellsAt, tk, take_room, bs_length, bs_nil, instL_room, sv_inst, sv_inst0, sv_ok, sv_len, sv_take, okL_room, tk, tkn, take_room, bs_length, ht2, bs_length, hD']) fun r4 _ => ?_
  simp (config := { maxSteps := 2000000 }) only [CALL, ↓VC, VP, TT, List.getElem?_toArray, Nat.reduceEqDiff, reduceCtorEq, Nat.reduceAdd, Nat.reduceSub, Nat.reduceLT, Nat.reduceMul, Nat.reducePow, Nat.reduceLeDiff, Int.reduceToNat, Int.reduceLE, Int.reduceLT, Int.reducePow, instL_room, Bool.not_true, Bool.not_false, instL_room, sv_inst, sv_inst0, sv_len]
  refine ⟨by omega, ?_⟩
  rw [show m - 0 = m by omega, show c3 - 0 = c3 by omega]
  refine kCall_val (hR1) (by rfl) [(10, 0)] (by simp [CALL, cellsAt, tk, take_room, bs_length, bs_nil, instL_room, sv_inst, sv_inst0, sv_ok, sv_len, sv_take, okL_room, tk, tkn, take_room, bs_length, ht1, bs_length, hmt]) (by simp [CALL, cellsAt, tk, take_room, bs_length, bs_nil, instL_room, sv_inst, sv_inst0, sv_ok, sv_len, sv_take, okL_room, tk, tkn, take_room, bs_length, ht1, bs_length, hmt]) (by simp [CALL, cellsAt, tk, take_room, bs_length, bs_nil, instL_room, sv_inst, sv_inst0, sv_ok, sv_len, sv_take, okL_room, tk, tkn, take_room, bs_length, ht1, bs_length, hmt]) (by simp [okL_bs, okL_room, okL, okV, instL_room, sv_inst, sv_inst0, sv_ok, sv_len, sv_take, okL_room, tk, tkn, take_room, bs_length, ht1, bs_length, hmt]) ?_
  simp (config := { maxSteps := 2000000 }) only [CALL, ↓VC, VP, TT, List.getElem?_toArray, Nat.reduceEqDiff, reduceCtorEq, Nat.reduceAdd, Nat.reduceSub, Nat.reduceLT, Nat.reduceMul, Nat.reducePow, Nat.reduceLeDiff, Int.reduceToNat, Int.reduceLE, Int.reduceLT, Int.reducePow, instL_room, Bool.not_true, Bool.not_false, instL_room, sv_inst, sv_inst0, sv_len, hq1]
  refine kCall_val (hR2) (by rfl) [(10, 0)] (by simp [CALL, cellsAt, tk, take_room, bs_length, bs_nil, instL_room, sv_inst, sv_inst0, sv_ok, sv_len, sv_take, okL_room, tk, tkn, take_room, bs_length, ht2, bs_length, hD']) (by simp [CALL, cellsAt, tk, take_room, bs_length, bs_nil, instL_room, sv_inst, sv_inst0, sv_ok, sv_len, sv_take, okL_room, tk, tkn, take_room, bs_length, ht2, bs_length, hD']) (by simp [CALL, cellsAt, tk, take_room, bs_length, bs_nil, instL_room, sv_inst, sv_inst0, sv_ok, sv_len, sv_take, okL_room, tk, tkn, take_room, bs_length, ht2, bs_length, hD']) (by simp [okL_bs, okL_room, okL, okV, instL_room, sv_inst, sv_inst0, sv_ok, sv_len, sv_take, okL_room, tk, tkn, take_room, bs_length, ht2, bs_length, hD']) ?_
  simp (config := { maxSteps := 2000000 }) only [CALL, ↓VC, VP, TT, List.getElem?_toArray, Nat.reduceEqDiff, reduceCtorEq, Nat.reduceAdd, Nat.reduceSub, Nat.reduceLT, Nat.reduceMul, Nat.reducePow, Nat.reduceLeDiff, Int.reduceToNat, Int.reduceLE, Int.reduceLT, Int.reducePow, instL_room, Bool.not_true, Bool.not_false, instL_room, sv_inst, sv_inst0, sv_len, hq1, hq2, beq_self_eq_true]
  refine kCall_val (c_impl_IsGrowth _ _ hq1 hq2 (m : Int) (n : Int) (gdepL n m true) (gdepL n m true + r4) (growL n m true D') hg1 (by omega) (by omega)) (by rfl) [(12, 0)] (by simp [CALL, cellsAt, tk, take_room, bs_length, bs_nil, instL_room, sv_inst, sv_inst0, sv_ok, sv_len, sv_take, okL_room, tk, tkn, take_room, bs_length, ht3, bs_length, hg1]) (by simp [CALL, cellsAt, tk, take_room, bs_length, bs_nil, instL_room, sv_inst, sv_inst0, sv_ok, sv_len, sv_take, okL_room, tk, tkn, take_room, bs_length, ht3, bs_length, hg1]) (by simp [CALL, cellsAt, tk, take_room, bs_length, bs_nil, instL_room, sv_inst, sv_inst0, sv_ok, sv_len, sv_take, okL_room, tk, tkn, take_room, bs_length, ht3, bs_length, hg1]) (by simp [okL_bs, okL_room, okL, okV, instL_room, sv_inst, sv_inst0, sv_ok, sv_len, sv_take, okL_room, tk, tkn, take_room, bs_length, ht3, bs_length, hg1]) ?_
  simp (config := { maxSteps := 2000000 }) only [CALL, ↓VC, VP, TT, List.getElem?_toArray, Nat.reduceEqDiff, reduceCtorEq, Nat.reduceAdd, Nat.reduceSub, Nat.reduceLT, Nat.reduceMul, Nat.reducePow, Nat.reduceLeDiff, Int.reduceToNat, Int.reduceLE, Int.reduceLT, Int.reducePow, instL_room, Bool.not_true, Bool.not_false, instL_room, sv_inst, sv_inst0, sv_len, hq1, hq2, hgr]
  exact ⟨_, [⟨false, bs l⟩], [0], rfl, by simp [-List.reduceReplicate, LES]⟩
end Go.Proofs.Ytapagcnipdpfiaa

import Derived.Test.YtledcckafhpgaaaEngL
import Derived.Test.YtledcckafhpgaaaEngO
import Derived.Test.YtledcckafhpgaaaConcatB
/- Digests of parts by the program's engine. -/
set_option linter.unusedSimpArgs false
set_option linter.unusedVariables false
namespace Go.Proofs.Ytledcckafhpgaaa
open Go Go.Vc
set_option maxRecDepth 10000
set_option maxHeartbeats 4000000
theorem c_digest1 (m : Nat) (box bb pl bp A T2 : List UInt8) (n : Nat) (l1 : List UInt8) (c1 : Nat) (hc1 : l1.length ≤ c1) (htot : l1.length ≤ 2097152) (hn : n ≤ 40) (hE : EngL box bb pl bp) (hA : A.length = 16) (hpl : pl16 pl) :
    LC Try.prog 38 [.p 0 0, .s 3 0 1 1] [⟨false, engC box bb pl bp 1 2 n⟩, ⟨false, bs (tabL m A)⟩, ⟨false, bs T2⟩, ⟨false, [.s 4 0 l1.length c1]⟩, ⟨false, bs l1⟩] (fun v hp => v = .a (bs (digL m box A pl n (startL 32) (padM (l1)))) ∧ hp = [⟨false, engC box bb pl bp 1 2 n⟩, ⟨false, bs (tabL m A)⟩, ⟨false, bs T2⟩, ⟨false, [.s 4 0 l1.length c1]⟩, ⟨false, bs l1⟩]) := by
  have hL : (l1).length = l1.length := by simp; try omega
  refine LC_of (X := XX (fun _ => .nil) (fun _ => []) [22, 24, 25, 36, 42, 47, 90] 5) envOK Try.func38 (by kernel_rfl) (by kernel_rfl) rfl (Nat.le_of_ble_eq_true (by kernel_rfl)) ?_
  simp only [kFun, Try.f38, List.length_nil, List.length_cons, Nat.sub_zero, Nat.reduceSub, Nat.reduceAdd, List.nil_append, List.cons_append, List.replicate_succ, List.replicate_zero]
  simp only [XX, ↓VC, VP, TT, List.getElem?_toArray, Nat.reduceEqDiff, reduceCtorEq, Nat.reduceAdd, Nat.reduceSub, Nat.reduceLT, Nat.reduceMul, Nat.reducePow, Nat.reduceLeDiff, Int.reduceToNat, Int.reduceLE, Int.reduceLT, Int.reducePow]
  refine kCall_val (c_impl_StartOfDigest) (by rfl) [] (by simp [CALL]) (by simp [CALL, cellsAt]) (by simp [CALL]) (by simp [okL_bs]) ?_
  simp only [CALL, ↓VC, VP, TT, List.getElem?_toArray, Nat.reduceEqDiff, reduceCtorEq, Nat.reduceAdd, Nat.reduceSub, Nat.reduceLT, Nat.reduceMul, Nat.reducePow, Nat.reduceLeDiff, Int.reduceToNat, Int.reduceLE, Int.reduceLT, Int.reducePow, startL_len]
  refine kCall_Ret (c_Concat1 l1 c1 hc1 (by omega)) (by rfl) [(3, 0), (4, 0)] (by simp [CALL]) (by simp [CALL, cellsAt]) (by simp [CALL]) (by simp [okL_bs, okL, okV]) (by simp) fun r _ => ?_
  simp only [CALL, ↓VC, VP, TT, List.getElem?_toArray, Nat.reduceEqDiff, reduceCtorEq, Nat.reduceAdd, Nat.reduceSub, Nat.reduceLT, Nat.reduceMul, Nat.reducePow, Nat.reduceLeDiff, Int.reduceToNat, Int.reduceLE, Int.reduceLT, Int.reducePow, instL_room]
  have h16 := padM_16 l1
  have hml := mz_lt l1
  have hpl2 := padM_len l1
  refine kCall_Ret (c_impl_padMessage l1 (l1.length + r) (by omega) (by omega)) (by rfl) [(7, 0)] (by simp [CALL]) (by simp [CALL, cellsAt, bs_length]) (by simp [CALL]) (by simp [okL_bs]) (by simp) fun r1 _ => ?_
  simp only [CALL, ↓VC, VP, TT, List.getElem?_toArray, Nat.reduceEqDiff, reduceCtorEq, Nat.reduceAdd, Nat.reduceSub, Nat.reduceLT, Nat.reduceMul, Nat.reducePow, Nat.reduceLeDiff, Int.reduceToNat, Int.reduceLE, Int.reduceLT, Int.reducePow, instL_room]
  refine kCall_Ret (c_impl_blocksOf (padM l1) ((padM l1).length + r1) ((padM l1).length / 16) (by omega) h16 (by omega)) (by rfl) [(8, 0)] (by simp [CALL]) (by simp [CALL, cellsAt, bs_length]) (by simp [CALL]) (by simp [okL_bs]) (by simp) fun r2 _ => ?_
  simp only [CALL, ↓VC, VP, TT, List.getElem?_toArray, Nat.reduceEqDiff, reduceCtorEq, Nat.reduceAdd, Nat.reduceSub, Nat.reduceLT, Nat.reduceMul, Nat.reducePow, Nat.reduceLeDiff, Int.reduceToNat, Int.reduceLE, Int.reduceLT, Int.reducePow, instL_room]
  generalize hK : (padM l1).length / 16 = K at *
  refine kLoop_of (fun i : Nat => ([.p 0 0, .j, .j, .j, .p 5 0, .p 6 0, .j, .j, .j, .j, .j, .j, .s 7 0 K (K + r2), .c (.int .i64 (K)), .c (.int .i64 (i)), .j, .j, .j, .j, .j, .j, .j, .j, .j], [⟨false, engC box bb pl bp 1 2 n⟩, ⟨false, bs (tabL m A)⟩, ⟨false, bs T2⟩, ⟨false, [.s 4 0 l1.length c1]⟩, ⟨false, bs l1⟩, ⟨true, bs (List.replicate 32 0)⟩, ⟨true, bs (digP (absL m box A pl n) (startL 32) (padM l1) i)⟩, ⟨true, bs (padM l1) ++ List.replicate (16 * r2) .j⟩])) (fun i => K - i) (fun i => i ≤ K) 0 (by omega)
    ⟨[0, 1, 2, 3, 4, 5, 6, 9], by simp [-List.reduceReplicate, LES, renL_eng, okL_eng, digP]⟩ ?_
  intro i hi
  have hdl := digP_len (m := m) (box := box) (A := A) (pl := pl) (n := n) (l := padM l1) (startL_len 32) i
  rcases Nat.lt_or_ge i K with h | h
  · have hbl := blk_len (P := padM l1) (i := i) (by omega)
    simp only [↓VC, VP, TT, List.getElem?_toArray, Nat.reduceEqDiff, reduceCtorEq, Nat.reduceAdd, Nat.reduceSub, Nat.reduceLT, Nat.reduceMul, Nat.reducePow, Nat.reduceLeDiff, Int.reduceToNat, Int.reduceLE, Int.reduceLT, Int.reducePow, hdl, hbl, (eq_true (by omega) : ((i : Int) < (K : Int)) = True), decide_true, ↓blk_load (P := padM l1) (i := i) (by omega)]
    refine kCall_val (c_absorb m box bb pl bp A T2 (digP (absL m box A pl n) (startL 32) (padM l1) i) (((padM l1).drop (16 * i)).take 16) n hn hE hA hpl hdl hbl) (by rfl) [(0, 0), (1, 0), (2, 0)] (by simp [CALL]) (by simp [CALL, cellsAt, instL_eng]) (by simp [CALL]) (by simp [okL_bs, okL_eng]) ?_
    simp only [CALL, ↓VC, VP, TT, List.getElem?_toArray, Nat.reduceEqDiff, reduceCtorEq, Nat.reduceAdd, Nat.reduceSub, Nat.reduceLT, Nat.reduceMul, Nat.reducePow, Nat.reduceLeDiff, Int.reduceToNat, Int.reduceLE, Int.reduceLT, Int.reducePow, absL_len, hdl]
    refine ⟨i + 1, by omega, by omega, [0, 1, 2, 3, 4, 5, 6, 7], ?_⟩
    rw [wrap_i64 (by omega) (by omega)]
    simp [-List.reduceReplicate, LES, renL_eng, okL_eng, digP]
  · obtain rfl : i = K := by omega
    simp only [↓VC, VP, TT, List.getElem?_toArray, Nat.reduceEqDiff, reduceCtorEq, Nat.reduceAdd, Nat.reduceSub, Nat.reduceLT, Nat.reduceMul, Nat.reducePow, Nat.reduceLeDiff, Int.reduceToNat, Int.reduceLE, Int.reduceLT, Int.reducePow, hdl, (eq_false (by omega) : ((i : Int) < (i : Int)) = False), decide_false]
    refine ⟨_, _, [0, 1, 2, 3, 4], ⟨rfl, rfl⟩, ?_⟩
    simp [-List.reduceReplicate, LES, renL_eng, okL_eng, digL, hK]
theorem c_digest2 (m : Nat) (box bb pl bp A T2 : List UInt8) (n : Nat) (l1 l2 : List UInt8) (c1 c2 : Nat) (hc1 : l1.length ≤ c1) (hc2 : l2.length ≤ c2) (htot : l1.length + l2.length ≤ 2097152) (hn : n ≤ 40) (hE : EngL box bb pl bp) (hA : A.length = 16) (hpl : pl16 pl) :
    LC Try.prog 38 [.p 0 0, .s 3 0 2 2] [⟨false, engC box bb pl bp 1 2 n⟩, ⟨false, bs (tabL m A)⟩, ⟨false, bs T2⟩, ⟨false, [.s 4 0 l1.length c1, .s 5 0 l2.length c2]⟩, ⟨false, bs l1⟩, ⟨false, bs l2⟩] (fun v hp => v = .a (bs (digL m box A pl n (startL 32) (padM (l1 ++ l2)))) ∧ hp = [⟨false, engC box bb pl bp 1 2 n⟩, ⟨false, bs (tabL m A)⟩, ⟨false, bs T2⟩, ⟨false, [.s 4 0 l1.length c1, .s 5 0 l2.length c2]⟩, ⟨false, bs l1⟩, ⟨false, bs l2⟩]) := by
  have hL : (l1 ++ l2).length = l1.length + l2.length := by simp; try omega
  refine LC_of (X := XX (fun _ => .nil) (fun _ => []) [22, 24, 25, 36, 42, 47, 90] 6) envOK Try.func38 (by kernel_rfl) (by kernel_rfl) rfl (Nat.le_of_ble_eq_true (by kernel_rfl)) ?_
  simp only [kFun, Try.f38, List.length_nil, List.length_cons, Nat.sub_zero, Nat.reduceSub, Nat.reduceAdd, List.nil_append, List.cons_append, List.replicate_succ, List.replicate_zero]
  simp only [XX, ↓VC, VP, TT, List.getElem?_toArray, Nat.reduceEqDiff, reduceCtorEq, Nat.reduceAdd, Nat.reduceSub, Nat.reduceLT, Nat.reduceMul, Nat.reducePow, Nat.reduceLeDiff, Int.reduceToNat, Int.reduceLE, Int.reduceLT, Int.reducePow]
  refine kCall_val (c_impl_StartOfDigest) (by rfl) [] (by simp [CALL]) (by simp [CALL, cellsAt]) (by simp [CALL]) (by simp [okL_bs]) ?_
  simp only [CALL, ↓VC, VP, TT, List.getElem?_toArray, Nat.reduceEqDiff, reduceCtorEq, Nat.reduceAdd, Nat.reduceSub, Nat.reduceLT, Nat.reduceMul, Nat.reducePow, Nat.reduceLeDiff, Int.reduceToNat, Int.reduceLE, Int.reduceLT, Int.reducePow, startL_len]
  refine kCall_Ret (c_Concat2 l1 l2 c1 c2 hc1 hc2 (by omega)) (by rfl) [(3, 0), (4, 0), (5, 0)] (by simp [CALL]) (by simp [CALL, cellsAt]) (by simp [CALL]) (by simp [okL_bs, okL, okV]) (by simp) fun r _ => ?_
  generalize hgL : l1 ++ l2 = L at *
  simp only [CALL, ↓VC, VP, TT, List.getElem?_toArray, Nat.reduceEqDiff, reduceCtorEq, Nat.reduceAdd, Nat.reduceSub, Nat.reduceLT, Nat.reduceMul, Nat.reducePow, Nat.reduceLeDiff, Int.reduceToNat, Int.reduceLE, Int.reduceLT, Int.reducePow, instL_room]
  have h16 := padM_16 L
  have hml := mz_lt L
  have hpl2 := padM_len L
  refine kCall_Ret (c_impl_padMessage L (L.length + r) (by omega) (by omega)) (by rfl) [(8, 0)] (by simp [CALL]) (by simp [CALL, cellsAt, bs_length]) (by simp [CALL]) (by simp [okL_bs]) (by simp) fun r1 _ => ?_
  simp only [CALL, ↓VC, VP, TT, List.getElem?_toArray, Nat.reduceEqDiff, reduceCtorEq, Nat.reduceAdd, Nat.reduceSub, Nat.reduceLT, Nat.reduceMul, Nat.reducePow, Nat.reduceLeDiff, Int.reduceToNat, Int.reduceLE, Int.reduceLT, Int.reducePow, instL_room]
  refine kCall_Ret (c_impl_blocksOf (padM L) ((padM L).length + r1) ((padM L).length / 16) (by omega) h16 (by omega)) (by rfl) [(9, 0)] (by simp [CALL]) (by simp [CALL, cellsAt, bs_length]) (by simp [CALL]) (by simp [okL_bs]) (by simp) fun r2 _ => ?_
  simp only [CALL, ↓VC, VP, TT, List.getElem?_toArray, Nat.reduceEqDiff, reduceCtorEq, Nat.reduceAdd, Nat.reduceSub, Nat.reduceLT, Nat.reduceMul, Nat.reducePow, Nat.reduceLeDiff, Int.reduceToNat, Int.reduceLE, Int.reduceLT, Int.reducePow, instL_room]
  generalize hK : (padM L).length / 16 = K at *
  refine kLoop_of (fun i : Nat => ([.p 0 0, .j, .j, .j, .p 6 0, .p 7 0, .j, .j, .j, .j, .j, .j, .s 8 0 K (K + r2), .c (.int .i64 (K)), .c (.int .i64 (i)), .j, .j, .j, .j, .j, .j, .j, .j, .j], [⟨false, engC box bb pl bp 1 2 n⟩, ⟨false, bs (tabL m A)⟩, ⟨false, bs T2⟩, ⟨false, [.s 4 0 l1.length c1, .s 5 0 l2.length c2]⟩, ⟨false, bs l1⟩, ⟨false, bs l2⟩, ⟨true, bs (List.replicate 32 0)⟩, ⟨true, bs (digP (absL m box A pl n) (startL 32) (padM L) i)⟩, ⟨true, bs (padM L) ++ List.replicate (16 * r2) .j⟩])) (fun i => K - i) (fun i => i ≤ K) 0 (by omega)
    ⟨[0, 1, 2, 3, 4, 5, 6, 7, 10], by simp [-List.reduceReplicate, LES, renL_eng, okL_eng, digP]⟩ ?_
  intro i hi
  have hdl := digP_len (m := m) (box := box) (A := A) (pl := pl) (n := n) (l := padM L) (startL_len 32) i
  rcases Nat.lt_or_ge i K with h | h
  · have hbl := blk_len (P := padM L) (i := i) (by omega)
    simp only [↓VC, VP, TT, List.getElem?_toArray, Nat.reduceEqDiff, reduceCtorEq, Nat.reduceAdd, Nat.reduceSub, Nat.reduceLT, Nat.reduceMul, Nat.reducePow, Nat.reduceLeDiff, Int.reduceToNat, Int.reduceLE, Int.reduceLT, Int.reducePow, hdl, hbl, (eq_true (by omega) : ((i : Int) < (K : Int)) = True), decide_true, ↓blk_load (P := padM L) (i := i) (by omega)]
    refine kCall_val (c_absorb m box bb pl bp A T2 (digP (absL m box A pl n) (startL 32) (padM L) i) (((padM L).drop (16 * i)).take 16) n hn hE hA hpl hdl hbl) (by rfl) [(0, 0), (1, 0), (2, 0)] (by simp [CALL]) (by simp [CALL, cellsAt, instL_eng]) (by simp [CALL]) (by simp [okL_bs, okL_eng]) ?_
    simp only [CALL, ↓VC, VP, TT, List.getElem?_toArray, Nat.reduceEqDiff, reduceCtorEq, Nat.reduceAdd, Nat.reduceSub, Nat.reduceLT, Nat.reduceMul, Nat.reducePow, Nat.reduceLeDiff, Int.reduceToNat, Int.reduceLE, Int.reduceLT, Int.reducePow, absL_len, hdl]
    refine ⟨i + 1, by omega, by omega, [0, 1, 2, 3, 4, 5, 6, 7, 8], ?_⟩
    rw [wrap_i64 (by omega) (by omega)]
    simp [-List.reduceReplicate, LES, renL_eng, okL_eng, digP]
  · obtain rfl : i = K := by omega
    simp only [↓VC, VP, TT, List.getElem?_toArray, Nat.reduceEqDiff, reduceCtorEq, Nat.reduceAdd, Nat.reduceSub, Nat.reduceLT, Nat.reduceMul, Nat.reducePow, Nat.reduceLeDiff, Int.reduceToNat, Int.reduceLE, Int.reduceLT, Int.reducePow, hdl, (eq_false (by omega) : ((i : Int) < (i : Int)) = False), decide_false]
    refine ⟨_, _, [0, 1, 2, 3, 4, 5], ⟨rfl, rfl⟩, ?_⟩
    simp [-List.reduceReplicate, LES, renL_eng, okL_eng, digL, hK]
theorem c_digest3 (m : Nat) (box bb pl bp A T2 : List UInt8) (n : Nat) (l1 l2 l3 : List UInt8) (c1 c2 c3 : Nat) (hc1 : l1.length ≤ c1) (hc2 : l2.length ≤ c2) (hc3 : l3.length ≤ c3) (htot : l1.length + l2.length + l3.length ≤ 2097152) (hn : n ≤ 40) (hE : EngL box bb pl bp) (hA : A.length = 16) (hpl : pl16 pl) :
    LC Try.prog 38 [.p 0 0, .s 3 0 3 3] [⟨false, engC box bb pl bp 1 2 n⟩, ⟨false, bs (tabL m A)⟩, ⟨false, bs T2⟩, ⟨false, [.s 4 0 l1.length c1, .s 5 0 l2.length c2, .s 6 0 l3.length c3]⟩, ⟨false, bs l1⟩, ⟨false, bs l2⟩, ⟨false, bs l3⟩] (fun v hp => v = .a (bs (digL m box A pl n (startL 32) (padM (l1 ++ l2 ++ l3)))) ∧ hp = [⟨false, engC box bb pl bp 1 2 n⟩, ⟨false, bs (tabL m A)⟩, ⟨false, bs T2⟩, ⟨false, [.s 4 0 l1.length c1, .s 5 0 l2.length c2, .s 6 0 l3.length c3]⟩, ⟨false, bs l1⟩, ⟨false, bs l2⟩, ⟨false, bs l3⟩]) := by
  have hL : (l1 ++ l2 ++ l3).length = l1.length + l2.length + l3.length := by simp; try omega
  refine LC_of (X := XX (fun _ => .nil) (fun _ => []) [22, 24, 25, 36, 42, 47, 90] 7) envOK Try.func38 (by kernel_rfl) (by kernel_rfl) rfl (Nat.le_of_ble_eq_true (by kernel_rfl)) ?_
  simp only [kFun, Try.f38, List.length_nil, List.length_cons, Nat.sub_zero, Nat.reduceSub, Nat.reduceAdd, List.nil_append, List.cons_append, List.replicate_succ, List.replicate_zero]
  simp only [XX, ↓VC, VP, TT, List.getElem?_toArray, Nat.reduceEqDiff, reduceCtorEq, Nat.reduceAdd, Nat.reduceSub, Nat.reduceLT, Nat.reduceMul, Nat.reducePow, Nat.reduceLeDiff, Int.reduceToNat, Int.reduceLE, Int.reduceLT, Int.reducePow]
  refine kCall_val (c_impl_StartOfDigest) (by rfl) [] (by simp [CALL]) (by simp [CALL, cellsAt]) (by simp [CALL]) (by simp [okL_bs]) ?_
  simp only [CALL, ↓VC, VP, TT, List.getElem?_toArray, Nat.reduceEqDiff, reduceCtorEq, Nat.reduceAdd, Nat.reduceSub, Nat.reduceLT, Nat.reduceMul, Nat.reducePow, Nat.reduceLeDiff, Int.reduceToNat, Int.reduceLE, Int.reduceLT, Int.reducePow, startL_len]
  refine kCall_Ret (c_Concat3 l1 l2 l3 c1 c2 c3 hc1 hc2 hc3 (by omega)) (by rfl) [(3, 0), (4, 0), (5, 0), (6, 0)] (by simp [CALL]) (by simp [CALL, cellsAt]) (by simp [CALL]) (by simp [okL_bs, okL, okV]) (by simp) fun r _ => ?_
  generalize hgL : l1 ++ l2 ++ l3 = L at *
  simp only [CALL, ↓VC, VP, TT, List.getElem?_toArray, Nat.reduceEqDiff, reduceCtorEq, Nat.reduceAdd, Nat.reduceSub, Nat.reduceLT, Nat.reduceMul, Nat.reducePow, Nat.reduceLeDiff, Int.reduceToNat, Int.reduceLE, Int.reduceLT, Int.reducePow, instL_room]
  have h16 := padM_16 L
  have hml := mz_lt L
  have hpl2 := padM_len L
  refine kCall_Ret (c_impl_padMessage L (L.length + r) (by omega) (by omega)) (by rfl) [(9, 0)] (by simp [CALL]) (by simp [CALL, cellsAt, bs_length]) (by simp [CALL]) (by simp [okL_bs]) (by simp) fun r1 _ => ?_
  simp only [CALL, ↓VC, VP, TT, List.getElem?_toArray, Nat.reduceEqDiff, reduceCtorEq, Nat.reduceAdd, Nat.reduceSub, Nat.reduceLT, Nat.reduceMul, Nat.reducePow, Nat.reduceLeDiff, Int.reduceToNat, Int.reduceLE, Int.reduceLT, Int.reducePow, instL_room]
  refine kCall_Ret (c_impl_blocksOf (padM L) ((padM L).length + r1) ((padM L).length / 16) (by omega) h16 (by omega)) (by rfl) [(10, 0)] (by simp [CALL]) (by simp [CALL, cellsAt, bs_length]) (by simp [CALL]) (by simp [okL_bs]) (by simp) fun r2 _ => ?_
  simp only [CALL, ↓VC, VP, TT, List.getElem?_toArray, Nat.reduceEqDiff, reduceCtorEq, Nat.reduceAdd, Nat.reduceSub, Nat.reduceLT, Nat.reduceMul, Nat.reducePow, Nat.reduceLeDiff, Int.reduceToNat, Int.reduceLE, Int.reduceLT, Int.reducePow, instL_room]
  generalize hK : (padM L).length / 16 = K at *
  refine kLoop_of (fun i : Nat => ([.p 0 0, .j, .j, .j, .p 7 0, .p 8 0, .j, .j, .j, .j, .j, .j, .s 9 0 K (K + r2), .c (.int .i64 (K)), .c (.int .i64 (i)), .j, .j, .j, .j, .j, .j, .j, .j, .j], [⟨false, engC box bb pl bp 1 2 n⟩, ⟨false, bs (tabL m A)⟩, ⟨false, bs T2⟩, ⟨false, [.s 4 0 l1.length c1, .s 5 0 l2.length c2, .s 6 0 l3.length c3]⟩, ⟨false, bs l1⟩, ⟨false, bs l2⟩, ⟨false, bs l3⟩, ⟨true, bs (List.replicate 32 0)⟩, ⟨true, bs (digP (absL m box A pl n) (startL 32) (padM L) i)⟩, ⟨true, bs (padM L) ++ List.replicate (16 * r2) .j⟩])) (fun i => K - i) (fun i => i ≤ K) 0 (by omega)
    ⟨[0, 1, 2, 3, 4, 5, 6, 7, 8, 11], by simp [-List.reduceReplicate, LES, renL_eng, okL_eng, digP]⟩ ?_
  intro i hi
  have hdl := digP_len (m := m) (box := box) (A := A) (pl := pl) (n := n) (l := padM L) (startL_len 32) i
  rcases Nat.lt_or_ge i K with h | h
  · have hbl := blk_len (P := padM L) (i := i) (by omega)
    simp only [↓VC, VP, TT, List.getElem?_toArray, Nat.reduceEqDiff, reduceCtorEq, Nat.reduceAdd, Nat.reduceSub, Nat.reduceLT, Nat.reduceMul, Nat.reducePow, Nat.reduceLeDiff, Int.reduceToNat, Int.reduceLE, Int.reduceLT, Int.reducePow, hdl, hbl, (eq_true (by omega) : ((i : Int) < (K : Int)) = True), decide_true, ↓blk_load (P := padM L) (i := i) (by omega)]
    refine kCall_val (c_absorb m box bb pl bp A T2 (digP (absL m box A pl n) (startL 32) (padM L) i) (((padM L).drop (16 * i)).take 16) n hn hE hA hpl hdl hbl) (by rfl) [(0, 0), (1, 0), (2, 0)] (by simp [CALL]) (by simp [CALL, cellsAt, instL_eng]) (by simp [CALL]) (by simp [okL_bs, okL_eng]) ?_
    simp only [CALL, ↓VC, VP, TT, List.getElem?_toArray, Nat.reduceEqDiff, reduceCtorEq, Nat.reduceAdd, Nat.reduceSub, Nat.reduceLT, Nat.reduceMul, Nat.reducePow, Nat.reduceLeDiff, Int.reduceToNat, Int.reduceLE, Int.reduceLT, Int.reducePow, absL_len, hdl]
    refine ⟨i + 1, by omega, by omega, [0, 1, 2, 3, 4, 5, 6, 7, 8, 9], ?_⟩
    rw [wrap_i64 (by omega) (by omega)]
    simp [-List.reduceReplicate, LES, renL_eng, okL_eng, digP]
  · obtain rfl : i = K := by omega
    simp only [↓VC, VP, TT, List.getElem?_toArray, Nat.reduceEqDiff, reduceCtorEq, Nat.reduceAdd, Nat.reduceSub, Nat.reduceLT, Nat.reduceMul, Nat.reducePow, Nat.reduceLeDiff, Int.reduceToNat, Int.reduceLE, Int.reduceLT, Int.reducePow, hdl, (eq_false (by omega) : ((i : Int) < (i : Int)) = False), decide_false]
    refine ⟨_, _, [0, 1, 2, 3, 4, 5, 6], ⟨rfl, rfl⟩, ?_⟩
    simp [-List.reduceReplicate, LES, renL_eng, okL_eng, digL, hK]
end Go.Proofs.Ytledcckafhpgaaa

import Derived.Test.YtledcckafhpgaaaEngK
import Derived.Test.YtledcckafhpgaaaEngN
import Derived.Test.YtledcckafhpgaaaEngI
import Derived.Test.YtledcckafhpgaaaPadM
import Derived.Test.YtledcckafhpgaaaTk
/- Digests: the reference. -/
set_option linter.unusedSimpArgs false
set_option linter.unusedVariables false
namespace Go.Proofs.Ytledcckafhpgaaa
open Go Go.Vc
set_option maxRecDepth 10000
set_option maxHeartbeats 4000000
theorem padM_16 (l : List UInt8) : (padM l).length = 16 * ((padM l).length / 16) := by
  rw [padM_len]
  have : (l.length + 1 + mz l) % 16 = 8 := by unfold mz; omega
  omega
theorem blk_load {P : List UInt8} {i : Nat} {R : List V} {k : V → Prop} (h : 16 * i + 16 ≤ P.length) : vSub (bs P ++ R) (i * 16) 16 k = k (.a (bs ((P.drop (16 * i)).take 16))) := by
  rw [vSub_appL (by rw [bs_length]; omega), vSub_bs, show i * 16 = 16 * i by omega]
  simp; omega
theorem blk_len {P : List UInt8} {i : Nat} (h : 16 * i + 16 ≤ P.length) : ((P.drop (16 * i)).take 16).length = 16 := by
  rw [List.length_take, List.length_drop]; omega
theorem c_spec_l08Of (m : Nat) (box A pl l : List UInt8) (n c : Nat) (hc : l.length ≤ c) (hl : l.length ≤ 2097152) (hn : n ≤ 40) (hm : 256 ≤ m) (hm' : m < 512) (hb : box.length = 256) (hA : A.length = 16) (hp : pl.length = 16) (hpl : pl16 pl) :
    LC Try.prog 55 [.a (cipC m box A pl n), .s 0 0 l.length c] [⟨false, bs l⟩] (fun v hp => v = .a (bs (digL m box A pl n (startL 32) (padM l))) ∧ hp = [⟨false, bs l⟩]) := by
  have h16 := padM_16 l
  have hml := mz_lt l
  have hpl2 := padM_len l
  refine LC_of (X := XX (fun | 5 => .one 0 (.one 1 (.one 2 (.one 3 (.one 4 (.one 5 (.one 6 (.one 7 .nil))))))) | _ => .nil) (fun _ => []) [22, 24, 25, 36, 42, 47, 90] 1) envOK Try.func55 (by kernel_rfl) (by kernel_rfl) rfl (Nat.le_of_ble_eq_true (by kernel_rfl)) ?_
  simp only [kFun, Try.f55, List.length_nil, List.length_cons, Nat.sub_zero, Nat.reduceSub, Nat.reduceAdd, List.nil_append, List.cons_append, List.replicate_succ, List.replicate_zero]
  simp only [XX, ↓VC, VP, TT, List.getElem?_toArray, Nat.reduceEqDiff, reduceCtorEq, Nat.reduceAdd, Nat.reduceSub, Nat.reduceLT, Nat.reduceMul, Nat.reducePow, Nat.reduceLeDiff, Int.reduceToNat, Int.reduceLE, Int.reduceLT, Int.reducePow, cipC_len hb hA hp, ↓cip_all hb hA hp]
  refine kCall_Ret (c_spec_l08Pad l c hc hl) (by rfl) [(0, 0)] (by simp [CALL]) (by simp [CALL, cellsAt]) (by simp [CALL]) (by simp [okL_bs]) (by simp) fun r _ => ?_
  simp only [CALL, ↓VC, VP, TT, List.getElem?_toArray, Nat.reduceEqDiff, reduceCtorEq, Nat.reduceAdd, Nat.reduceSub, Nat.reduceLT, Nat.reduceMul, Nat.reducePow, Nat.reduceLeDiff, Int.reduceToNat, Int.reduceLE, Int.reduceLT, Int.reducePow, instL_room]
  refine kCall_Ret (c_spec_l01Blocks (padM l) ((padM l).length + r) ((padM l).length / 16) (by omega) h16 (by omega)) (by rfl) [(3, 0)] (by simp [CALL]) (by simp [CALL, cellsAt, bs_length]) (by simp [CALL]) (by simp [okL_bs]) (by simp) fun r2 _ => ?_
  simp only [CALL, ↓VC, VP, TT, List.getElem?_toArray, Nat.reduceEqDiff, reduceCtorEq, Nat.reduceAdd, Nat.reduceSub, Nat.reduceLT, Nat.reduceMul, Nat.reducePow, Nat.reduceLeDiff, Int.reduceToNat, Int.reduceLE, Int.reduceLT, Int.reducePow, instL_room]
  refine kCall_val (c_spec_l08Start) (by rfl) [] (by simp [CALL]) (by simp [CALL, cellsAt]) (by simp [CALL]) (by simp [okL_bs]) ?_
  simp only [CALL, ↓VC, VP, TT, List.getElem?_toArray, Nat.reduceEqDiff, reduceCtorEq, Nat.reduceAdd, Nat.reduceSub, Nat.reduceLT, Nat.reduceMul, Nat.reducePow, Nat.reduceLeDiff, Int.reduceToNat, Int.reduceLE, Int.reduceLT, Int.reducePow, startL_len]
  generalize hK : (padM l).length / 16 = K at *
  refine kLoop_of (fun i : Nat => ([.j, .j, .p 1 0, .j, .p 2 0, .s 3 0 K (K + r2), .p 4 0, .c (.int .i64 (i)), .j, .j, .j, .j, .j, .j, .j, .j, .j, .j, .j, .j, .j, .j, .j, .j, .j, .j], [⟨false, bs l⟩, ⟨true, cipC m box A pl n⟩, ⟨true, bs (List.replicate 32 0)⟩, ⟨true, bs (padM l) ++ List.replicate (16 * r2) .j⟩, ⟨true, bs (digP (absL m box A pl n) (startL 32) (padM l) i)⟩])) (fun i => K - i) (fun i => i ≤ K) 0 (by omega)
    ⟨[0, 1, 2, 4, 5], by simp [-List.reduceReplicate, LES, renL_cip, okL_cip, digP]⟩ ?_
  intro i hi
  have hdl := digP_len (m := m) (box := box) (A := A) (pl := pl) (n := n) (l := padM l) (startL_len 32) i
  rcases Nat.lt_or_ge i K with h | h
  · simp only [↓VC, VP, TT, List.getElem?_toArray, Nat.reduceEqDiff, reduceCtorEq, Nat.reduceAdd, Nat.reduceSub, Nat.reduceLT, Nat.reduceMul, Nat.reducePow, Nat.reduceLeDiff, Int.reduceToNat, Int.reduceLE, Int.reduceLT, Int.reducePow, hdl, (eq_true (by omega) : ((i : Int) < (K : Int)) = True), decide_true, ↓cip_all hb hA hp, ↓blk_load (P := padM l) (i := i) (by omega)]
    refine kCall_val (c_spec_l08Absorb m box A pl (digP (absL m box A pl n) (startL 32) (padM l) i) (((padM l).drop (16 * i)).take 16) n hn hm hm' hb hA hp hpl hdl (blk_len (by omega))) (by rfl) [] (by simp [CALL, instL_cip]) (by simp [CALL]) (by simp [CALL, okL_cip]) (by simp) ?_
    simp only [CALL, ↓VC, VP, TT, List.getElem?_toArray, Nat.reduceEqDiff, reduceCtorEq, Nat.reduceAdd, Nat.reduceSub, Nat.reduceLT, Nat.reduceMul, Nat.reducePow, Nat.reduceLeDiff, Int.reduceToNat, Int.reduceLE, Int.reduceLT, Int.reducePow, absL_len, hdl]
    refine ⟨i + 1, by omega, by omega, [0, 1, 2, 3, 4], ?_⟩
    rw [wrap_i64 (by omega) (by omega)]
    simp [-List.reduceReplicate, LES, renL_cip, okL_cip, digP]
  · obtain rfl : i = K := by omega
    simp only [↓VC, VP, TT, List.getElem?_toArray, Nat.reduceEqDiff, reduceCtorEq, Nat.reduceAdd, Nat.reduceSub, Nat.reduceLT, Nat.reduceMul, Nat.reducePow, Nat.reduceLeDiff, Int.reduceToNat, Int.reduceLE, Int.reduceLT, Int.reducePow, hdl, (eq_false (by omega) : ((i : Int) < (i : Int)) = False), decide_false]
    refine ⟨_, _, [0], ⟨rfl, rfl⟩, ?_⟩
    simp [-List.reduceReplicate, LES, digL, hK]
/-- The house's digest. -/
def houseD (l : List UInt8) : List UInt8 := digL 285 houseB houseA houseP 8 (startL 32) (padM l)
theorem houseD_len (l : List UInt8) : (houseD l).length = 32 := digL_len (startL_len 32)
theorem c_spec_l08Digest (l : List UInt8) (c : Nat) (hc : l.length ≤ c) (hl : l.length ≤ 2097152) : LC Try.prog 39 [.s 0 0 l.length c] [⟨false, bs l⟩] (fun v hp => v = .a (bs (houseD l)) ∧ hp = [⟨false, bs l⟩]) := by
  refine LC_of (X := XX (fun _ => .nil) (fun _ => []) [22, 24, 25, 36, 42, 47, 90] 1) envOK Try.func39 (by kernel_rfl) (by kernel_rfl) rfl (Nat.le_of_ble_eq_true (by kernel_rfl)) ?_
  simp only [kFun, Try.f39, List.length_nil, List.length_cons, Nat.sub_zero, Nat.reduceSub, Nat.reduceAdd, List.nil_append, List.cons_append, List.replicate_succ, List.replicate_zero]
  simp only [XX, ↓VC, VP, TT, List.getElem?_toArray, Nat.reduceEqDiff, reduceCtorEq, Nat.reduceAdd, Nat.reduceSub, Nat.reduceLT, Nat.reduceMul, Nat.reducePow, Nat.reduceLeDiff, Int.reduceToNat, Int.reduceLE, Int.reduceLT, Int.reducePow]
  refine kCall_val (c_spec_l04House 8) (by rfl) [] (by simp [CALL]) (by simp [CALL]) (by simp [CALL]) (by simp) ?_
  simp only [CALL, ↓VC, VP, TT, List.getElem?_toArray, Nat.reduceEqDiff, reduceCtorEq, Nat.reduceAdd, Nat.reduceSub, Nat.reduceLT, Nat.reduceMul, Nat.reducePow, Nat.reduceLeDiff, Int.reduceToNat, Int.reduceLE, Int.reduceLT, Int.reducePow]
  refine kCall_val (c_spec_l08Of 285 houseB houseA houseP l 8 c hc hl (by omega) (by omega) (by omega) houseB_len houseA_len houseP_len houseP_pl) (by rfl) [(0, 0)] (by simp [CALL, houseC, instL_cip]) (by simp [CALL, cellsAt]) (by simp [CALL, okL_cip]) (by simp [okL_bs]) ?_
  have hd := houseD_len l
  unfold houseD at hd
  simp only [CALL, ↓VC, VP, TT, List.getElem?_toArray, Nat.reduceEqDiff, reduceCtorEq, Nat.reduceAdd, Nat.reduceSub, Nat.reduceLT, Nat.reduceMul, Nat.reducePow, Nat.reduceLeDiff, Int.reduceToNat, Int.reduceLE, Int.reduceLT, Int.reducePow, hd, houseC, V.inst, instL_bs]
  refine ⟨_, _, [0], ⟨rfl, rfl⟩, ?_⟩
  simp [-List.reduceReplicate, LES, houseD]
end Go.Proofs.Ytledcckafhpgaaa

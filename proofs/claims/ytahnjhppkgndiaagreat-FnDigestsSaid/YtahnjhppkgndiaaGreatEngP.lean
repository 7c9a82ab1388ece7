import Derived.Test.YtahnjhppkgndiaaGreatEngK
import Derived.Test.YtahnjhppkgndiaaGreatEngN
import Derived.Test.YtahnjhppkgndiaaGreatEngI
import Derived.Test.YtahnjhppkgndiaaGreatPadM
import Derived.Test.YtahnjhppkgndiaaGreatTk
import Derived.Test.YtahnjhppkgndiaaGreatEngL
import Derived.Test.YtahnjhppkgndiaaGreatConcatB
/- Digests: the reference. -/
set_option linter.unusedSimpArgs false
set_option linter.unusedVariables false
namespace Go.Proofs.YtahnjhppkgndiaaGreat
open Go Go.Vc
set_option maxRecDepth 10000
set_option maxHeartbeats 4000000
theorem padM_16 (l : List UInt8) : (padM l).length = 16 * ((padM l).length / 16) := by
  rw [padM_len]
  have : (l.length + 1 + mz l) % 16 = 8 := by unfold mz; omega
  omega
theorem blk_load {P : List UInt8} {i : Nat} {R : List V} {k : V → Prop} (h : 16 * i + 16 ≤ P.length) : vSub (bs P ++ R) (i * 16) 16 k = k (.a (bs ((P.drop (16 * i)).take 16))) := by
  rw [vSub_appL (by rw [bs_length]; omega), vSub_bs, show i * 16 = 16 * i by omega]
  simp; omega
theorem blk_len {P : List UInt8} {i : Nat} (h : 16 * i + 16 ≤ P.length) : ((P.drop (16 * i)).take 16).length = 16 := by
  rw [List.length_take, List.length_drop]; omega
theorem c_spec_l08Of (m : Nat) (box A pl l : List UInt8) (n c : Nat) (hc : l.length ≤ c) (hl : l.length ≤ 2097152) (hn : n ≤ 40) (hm : 256 ≤ m) (hm' : m < 512) (hb : box.length = 256) (hA : A.length = 16) (hp : pl.length = 16) (hpl : pl16 pl) :
    LC Tryz.prog 96 [.a (cipC m box A pl n), .s 0 0 l.length c] [⟨false, bs l⟩] (fun v hp => v = .a (bs (digL m box A pl n (startL 32) (padM l))) ∧ hp = [⟨false, bs l⟩]) := by
  have h16 := padM_16 l
  have hml := mz_lt l
  have hpl2 := padM_len l
  refine LC_of (X := XX (fun | 5 => .one 0 (.one 1 (.one 2 (.one 3 (.one 4 (.one 5 (.one 6 (.one 7 .nil))))))) | _ => .nil) (fun _ => []) [15, 71, 72, 73, 79, 80, 87, 90, 91, 93, 99, 119, 137, 176, 177, 203, 204, 212, 219] 1) envOK Tryz.func96 (by kernel_rfl) (by kernel_rfl) rfl (Nat.le_of_ble_eq_true (by kernel_rfl)) ?_
  simp only [kFun, Tryz.f96, List.length_nil, List.length_cons, Nat.sub_zero, Nat.reduceSub, Nat.reduceAdd, List.nil_append, List.cons_append, List.replicate_succ, List.replicate_zero]
  simp only [XX, ↓VC, VP, TT, Nat.reduceEqDiff, reduceCtorEq, Nat.reduceAdd, Nat.reduceSub, Nat.reduceLT, Nat.reduceMul, Nat.reducePow, Nat.reduceLeDiff, Int.reduceToNat, Int.reduceLE, Int.reduceLT, Int.reducePow, cipC_len hb hA hp, ↓cip_all hb hA hp]
  refine kCall_Ret (c_spec_l08Pad l c hc hl) (by rfl) [(0, 0)] (by simp [CALL]) (by simp [CALL, cellsAt]) (by simp [CALL]) (by simp [okL_bs]) (by simp) fun r _ => ?_
  simp only [CALL, ↓VC, VP, TT, Nat.reduceEqDiff, reduceCtorEq, Nat.reduceAdd, Nat.reduceSub, Nat.reduceLT, Nat.reduceMul, Nat.reducePow, Nat.reduceLeDiff, Int.reduceToNat, Int.reduceLE, Int.reduceLT, Int.reducePow, instL_room]
  refine kCall_Ret (c_spec_l01Blocks (padM l) ((padM l).length + r) ((padM l).length / 16) (by omega) h16 (by omega)) (by rfl) [(3, 0)] (by simp [CALL]) (by simp [CALL, cellsAt, bs_length]) (by simp [CALL]) (by simp [okL_bs]) (by simp) fun r2 _ => ?_
  simp only [CALL, ↓VC, VP, TT, Nat.reduceEqDiff, reduceCtorEq, Nat.reduceAdd, Nat.reduceSub, Nat.reduceLT, Nat.reduceMul, Nat.reducePow, Nat.reduceLeDiff, Int.reduceToNat, Int.reduceLE, Int.reduceLT, Int.reducePow, instL_room]
  refine kCall_val (c_spec_l08Start) (by rfl) [] (by simp [CALL]) (by simp [CALL, cellsAt]) (by simp [CALL]) (by simp [okL_bs]) ?_
  simp only [CALL, ↓VC, VP, TT, Nat.reduceEqDiff, reduceCtorEq, Nat.reduceAdd, Nat.reduceSub, Nat.reduceLT, Nat.reduceMul, Nat.reducePow, Nat.reduceLeDiff, Int.reduceToNat, Int.reduceLE, Int.reduceLT, Int.reducePow, startL_len]
  generalize hK : (padM l).length / 16 = K at *
  refine kLoop_of (fun i : Nat => ([.j, .j, .p 1 0, .j, .p 2 0, .s 3 0 K (K + r2), .p 4 0, .c (.int .i64 (i)), .j, .j, .j, .j, .j, .j, .j, .j, .j, .j, .j, .j, .j, .j, .j, .j, .j, .j], [⟨false, bs l⟩, ⟨true, cipC m box A pl n⟩, ⟨true, bs (List.replicate 32 0)⟩, ⟨true, bs (padM l) ++ List.replicate (16 * r2) .j⟩, ⟨true, bs (digP (absL m box A pl n) (startL 32) (padM l) i)⟩])) (fun i => K - i) (fun i => i ≤ K) 0 (by omega)
    ⟨[0, 1, 2, 4, 5], by simp [-List.reduceReplicate, LES, renL_cip, okL_cip, digP]⟩ ?_
  intro i hi
  have hdl := digP_len (m := m) (box := box) (A := A) (pl := pl) (n := n) (l := padM l) (startL_len 32) i
  rcases Nat.lt_or_ge i K with h | h
  · simp only [↓VC, VP, TT, Nat.reduceEqDiff, reduceCtorEq, Nat.reduceAdd, Nat.reduceSub, Nat.reduceLT, Nat.reduceMul, Nat.reducePow, Nat.reduceLeDiff, Int.reduceToNat, Int.reduceLE, Int.reduceLT, Int.reducePow, hdl, (eq_true (by omega) : ((i : Int) < (K : Int)) = True), decide_true, ↓cip_all hb hA hp, ↓blk_load (P := padM l) (i := i) (by omega)]
    refine kCall_val (c_spec_l08Absorb m box A pl (digP (absL m box A pl n) (startL 32) (padM l) i) (((padM l).drop (16 * i)).take 16) n hn hm hm' hb hA hp hpl hdl (blk_len (by omega))) (by rfl) [] (by simp [CALL, instL_cip]) (by simp [CALL]) (by simp [CALL, okL_cip]) (by simp) ?_
    simp only [CALL, ↓VC, VP, TT, Nat.reduceEqDiff, reduceCtorEq, Nat.reduceAdd, Nat.reduceSub, Nat.reduceLT, Nat.reduceMul, Nat.reducePow, Nat.reduceLeDiff, Int.reduceToNat, Int.reduceLE, Int.reduceLT, Int.reducePow, absL_len, hdl]
    refine ⟨i + 1, by omega, by omega, [0, 1, 2, 3, 4], ?_⟩
    rw [wrap_i64 (by omega) (by omega)]
    simp [-List.reduceReplicate, LES, renL_cip, okL_cip, digP]
  · obtain rfl : i = K := by omega
    simp only [↓VC, VP, TT, Nat.reduceEqDiff, reduceCtorEq, Nat.reduceAdd, Nat.reduceSub, Nat.reduceLT, Nat.reduceMul, Nat.reducePow, Nat.reduceLeDiff, Int.reduceToNat, Int.reduceLE, Int.reduceLT, Int.reducePow, hdl, (eq_false (by omega) : ((i : Int) < (i : Int)) = False), decide_false]
    refine ⟨_, _, [0], ⟨rfl, rfl⟩, ?_⟩
    simp [-List.reduceReplicate, LES, digL, hK]
/-- The house's digest. -/
def houseD (l : List UInt8) : List UInt8 := digL 285 houseB houseA houseP 8 (startL 32) (padM l)
theorem houseD_len (l : List UInt8) : (houseD l).length = 32 := digL_len (startL_len 32)
theorem c_spec_l08Digest (l : List UInt8) (c : Nat) (hc : l.length ≤ c) (hl : l.length ≤ 2097152) : LC Tryz.prog 114 [.s 0 0 l.length c] [⟨false, bs l⟩] (fun v hp => v = .a (bs (houseD l)) ∧ hp = [⟨false, bs l⟩]) := by
  refine LC_of (X := XX (fun _ => .nil) (fun _ => []) [15, 71, 72, 73, 79, 80, 87, 90, 91, 93, 99, 119, 137, 176, 177, 203, 204, 212, 219] 1) envOK Tryz.func114 (by kernel_rfl) (by kernel_rfl) rfl (Nat.le_of_ble_eq_true (by kernel_rfl)) ?_
  simp only [kFun, Tryz.f114, List.length_nil, List.length_cons, Nat.sub_zero, Nat.reduceSub, Nat.reduceAdd, List.nil_append, List.cons_append, List.replicate_succ, List.replicate_zero]
  simp only [XX, ↓VC, VP, TT, Nat.reduceEqDiff, reduceCtorEq, Nat.reduceAdd, Nat.reduceSub, Nat.reduceLT, Nat.reduceMul, Nat.reducePow, Nat.reduceLeDiff, Int.reduceToNat, Int.reduceLE, Int.reduceLT, Int.reducePow]
  refine kCall_val (c_spec_l04House 8) (by rfl) [] (by simp [CALL]) (by simp [CALL]) (by simp [CALL]) (by simp) ?_
  simp only [CALL, ↓VC, VP, TT, Nat.reduceEqDiff, reduceCtorEq, Nat.reduceAdd, Nat.reduceSub, Nat.reduceLT, Nat.reduceMul, Nat.reducePow, Nat.reduceLeDiff, Int.reduceToNat, Int.reduceLE, Int.reduceLT, Int.reducePow]
  refine kCall_val (c_spec_l08Of 285 houseB houseA houseP l 8 c hc hl (by omega) (by omega) (by omega) houseB_len houseA_len houseP_len houseP_pl) (by rfl) [(0, 0)] (by simp [CALL, houseC, instL_cip]) (by simp [CALL, cellsAt]) (by simp [CALL, okL_cip]) (by simp [okL_bs]) ?_
  have hd := houseD_len l
  unfold houseD at hd
  simp only [CALL, ↓VC, VP, TT, Nat.reduceEqDiff, reduceCtorEq, Nat.reduceAdd, Nat.reduceSub, Nat.reduceLT, Nat.reduceMul, Nat.reducePow, Nat.reduceLeDiff, Int.reduceToNat, Int.reduceLE, Int.reduceLT, Int.reducePow, hd, houseC, V.inst, instL_bs]
  refine ⟨_, _, [0], ⟨rfl, rfl⟩, ?_⟩
  simp [-List.reduceReplicate, LES, houseD]
end Go.Proofs.YtahnjhppkgndiaaGreat
/- Digests of parts by the program's engine. -/
set_option linter.unusedSimpArgs false
set_option linter.unusedVariables false
namespace Go.Proofs.YtahnjhppkgndiaaGreat
open Go Go.Vc
set_option maxRecDepth 10000
set_option maxHeartbeats 4000000
theorem c_digest1 (m : Nat) (box bb pl bp A T2 : List UInt8) (n : Nat) (l1 : List UInt8) (c1 : Nat) (hc1 : l1.length ≤ c1) (htot : l1.length ≤ 2097152) (hn : n ≤ 40) (hE : EngL box bb pl bp) (hA : A.length = 16) (hpl : pl16 pl) :
    LC Tryz.prog 94 [.p 0 0, .s 3 0 1 1] [⟨false, engC box bb pl bp 1 2 n⟩, ⟨false, bs (tabL m A)⟩, ⟨false, bs T2⟩, ⟨false, [.s 4 0 l1.length c1]⟩, ⟨false, bs l1⟩] (fun v hp => v = .a (bs (digL m box A pl n (startL 32) (padM (l1)))) ∧ hp = [⟨false, engC box bb pl bp 1 2 n⟩, ⟨false, bs (tabL m A)⟩, ⟨false, bs T2⟩, ⟨false, [.s 4 0 l1.length c1]⟩, ⟨false, bs l1⟩]) := by
  have hL : (l1).length = l1.length := by simp; try omega
  refine LC_of (X := XX (fun _ => .nil) (fun _ => []) [15, 71, 72, 73, 79, 80, 87, 90, 91, 93, 99, 119, 137, 176, 177, 203, 204, 212, 219] 5) envOK Tryz.func94 (by kernel_rfl) (by kernel_rfl) rfl (Nat.le_of_ble_eq_true (by kernel_rfl)) ?_
  simp only [kFun, Tryz.f94, List.length_nil, List.length_cons, Nat.sub_zero, Nat.reduceSub, Nat.reduceAdd, List.nil_append, List.cons_append, List.replicate_succ, List.replicate_zero]
  simp only [XX, ↓VC, VP, TT, Nat.reduceEqDiff, reduceCtorEq, Nat.reduceAdd, Nat.reduceSub, Nat.reduceLT, Nat.reduceMul, Nat.reducePow, Nat.reduceLeDiff, Int.reduceToNat, Int.reduceLE, Int.reduceLT, Int.reducePow]
  refine kCall_val (c_impl_StartOfDigest) (by rfl) [] (by simp [CALL]) (by simp [CALL, cellsAt]) (by simp [CALL]) (by simp [okL_bs]) ?_
  simp only [CALL, ↓VC, VP, TT, Nat.reduceEqDiff, reduceCtorEq, Nat.reduceAdd, Nat.reduceSub, Nat.reduceLT, Nat.reduceMul, Nat.reducePow, Nat.reduceLeDiff, Int.reduceToNat, Int.reduceLE, Int.reduceLT, Int.reducePow, startL_len]
  refine kCall_Ret (c_Concat1 l1 c1 hc1 (by omega)) (by rfl) [(3, 0), (4, 0)] (by simp [CALL]) (by simp [CALL, cellsAt]) (by simp [CALL]) (by simp [okL_bs, okL, okV]) (by simp) fun r _ => ?_
  simp only [CALL, ↓VC, VP, TT, Nat.reduceEqDiff, reduceCtorEq, Nat.reduceAdd, Nat.reduceSub, Nat.reduceLT, Nat.reduceMul, Nat.reducePow, Nat.reduceLeDiff, Int.reduceToNat, Int.reduceLE, Int.reduceLT, Int.reducePow, instL_room]
  have h16 := padM_16 l1
  have hml := mz_lt l1
  have hpl2 := padM_len l1
  refine kCall_Ret (c_impl_padMessage l1 (l1.length + r) (by omega) (by omega)) (by rfl) [(7, 0)] (by simp [CALL]) (by simp [CALL, cellsAt, bs_length]) (by simp [CALL]) (by simp [okL_bs]) (by simp) fun r1 _ => ?_
  simp only [CALL, ↓VC, VP, TT, Nat.reduceEqDiff, reduceCtorEq, Nat.reduceAdd, Nat.reduceSub, Nat.reduceLT, Nat.reduceMul, Nat.reducePow, Nat.reduceLeDiff, Int.reduceToNat, Int.reduceLE, Int.reduceLT, Int.reducePow, instL_room]
  refine kCall_Ret (c_impl_blocksOf (padM l1) ((padM l1).length + r1) ((padM l1).length / 16) (by omega) h16 (by omega)) (by rfl) [(8, 0)] (by simp [CALL]) (by simp [CALL, cellsAt, bs_length]) (by simp [CALL]) (by simp [okL_bs]) (by simp) fun r2 _ => ?_
  simp only [CALL, ↓VC, VP, TT, Nat.reduceEqDiff, reduceCtorEq, Nat.reduceAdd, Nat.reduceSub, Nat.reduceLT, Nat.reduceMul, Nat.reducePow, Nat.reduceLeDiff, Int.reduceToNat, Int.reduceLE, Int.reduceLT, Int.reducePow, instL_room]
  generalize hK : (padM l1).length / 16 = K at *
  refine kLoop_of (fun i : Nat => ([.p 0 0, .j, .j, .j, .p 5 0, .p 6 0, .j, .j, .j, .j, .j, .j, .s 7 0 K (K + r2), .c (.int .i64 (K)), .c (.int .i64 (i)), .j, .j, .j, .j, .j, .j, .j, .j, .j], [⟨false, engC box bb pl bp 1 2 n⟩, ⟨false, bs (tabL m A)⟩, ⟨false, bs T2⟩, ⟨false, [.s 4 0 l1.length c1]⟩, ⟨false, bs l1⟩, ⟨true, bs (List.replicate 32 0)⟩, ⟨true, bs (digP (absL m box A pl n) (startL 32) (padM l1) i)⟩, ⟨true, bs (padM l1) ++ List.replicate (16 * r2) .j⟩])) (fun i => K - i) (fun i => i ≤ K) 0 (by omega)
    ⟨[0, 1, 2, 3, 4, 5, 6, 9], by simp [-List.reduceReplicate, LES, renL_eng, okL_eng, digP]⟩ ?_
  intro i hi
  have hdl := digP_len (m := m) (box := box) (A := A) (pl := pl) (n := n) (l := padM l1) (startL_len 32) i
  rcases Nat.lt_or_ge i K with h | h
  · have hbl := blk_len (P := padM l1) (i := i) (by omega)
    simp only [↓VC, VP, TT, Nat.reduceEqDiff, reduceCtorEq, Nat.reduceAdd, Nat.reduceSub, Nat.reduceLT, Nat.reduceMul, Nat.reducePow, Nat.reduceLeDiff, Int.reduceToNat, Int.reduceLE, Int.reduceLT, Int.reducePow, hdl, hbl, (eq_true (by omega) : ((i : Int) < (K : Int)) = True), decide_true, ↓blk_load (P := padM l1) (i := i) (by omega)]
    refine kCall_val (c_absorb m box bb pl bp A T2 (digP (absL m box A pl n) (startL 32) (padM l1) i) (((padM l1).drop (16 * i)).take 16) n hn hE hA hpl hdl hbl) (by rfl) [(0, 0), (1, 0), (2, 0)] (by simp [CALL]) (by simp [CALL, cellsAt, instL_eng]) (by simp [CALL]) (by simp [okL_bs, okL_eng]) ?_
    simp only [CALL, ↓VC, VP, TT, Nat.reduceEqDiff, reduceCtorEq, Nat.reduceAdd, Nat.reduceSub, Nat.reduceLT, Nat.reduceMul, Nat.reducePow, Nat.reduceLeDiff, Int.reduceToNat, Int.reduceLE, Int.reduceLT, Int.reducePow, absL_len, hdl]
    refine ⟨i + 1, by omega, by omega, [0, 1, 2, 3, 4, 5, 6, 7], ?_⟩
    rw [wrap_i64 (by omega) (by omega)]
    simp [-List.reduceReplicate, LES, renL_eng, okL_eng, digP]
  · obtain rfl : i = K := by omega
    simp only [↓VC, VP, TT, Nat.reduceEqDiff, reduceCtorEq, Nat.reduceAdd, Nat.reduceSub, Nat.reduceLT, Nat.reduceMul, Nat.reducePow, Nat.reduceLeDiff, Int.reduceToNat, Int.reduceLE, Int.reduceLT, Int.reducePow, hdl, (eq_false (by omega) : ((i : Int) < (i : Int)) = False), decide_false]
    refine ⟨_, _, [0, 1, 2, 3, 4], ⟨rfl, rfl⟩, ?_⟩
    simp [-List.reduceReplicate, LES, renL_eng, okL_eng, digL, hK]
end Go.Proofs.YtahnjhppkgndiaaGreat
/- Leaves, nodes, digests of the house: the program and the reference. -/
set_option linter.unusedSimpArgs false
set_option linter.unusedVariables false
namespace Go.Proofs.YtahnjhppkgndiaaGreat
open Go Go.Vc
set_option maxRecDepth 10000
set_option maxHeartbeats 4000000
theorem houseE : EngL houseB (invL 256 houseB 256) houseP (invL 16 houseP 16) := ⟨houseB_len, invL_len _ _ _, houseP_len, invL_len _ _ _⟩
/-- The engine of the house, at some handle. -/
def hEng (h1 h2 : Nat) : List V := engC houseB (invL 256 houseB 256) houseP (invL 16 houseP 16) h1 h2 8
def hT1 : List UInt8 := tabL 285 houseA
def hT2 : List UInt8 := tabL 285 (invM 285 houseA (unP 4)).2
theorem instL_hEng {a b c : Nat} {R : List (Nat × Nat)} (N : Nat) : V.instL ((a, 0) :: (b, 0) :: (c, 0) :: R) N (hEng 1 2) = hEng b c := instL_eng N
theorem instL_hEng0 {h1 h2 : Nat} (N : Nat) : V.instL [] N (hEng h1 h2) = hEng (N + h1) (N + h2) := instL_eng0 N
theorem okL_hEng {h1 h2 : Nat} (N : Nat) : okL N (hEng h1 h2) = (h1 < N ∧ h2 < N) := okL_eng N
def hB (own : Bool) : List Blk := [⟨own, hEng 1 2⟩, ⟨own, bs hT1⟩, ⟨own, bs hT2⟩]
theorem engH_house (own : Bool) : engH 285 houseB houseA houseP 8 own = hB own := rfl
theorem h_digest1 (l1 : List UInt8) (c1 : Nat) (hc1 : l1.length ≤ c1) (htot : l1.length ≤ 2097152) : LC Tryz.prog 94 [.p 0 0, .s 3 0 1 1] [⟨false, hEng 1 2⟩, ⟨false, bs hT1⟩, ⟨false, bs hT2⟩, ⟨false, [.s 4 0 l1.length c1]⟩, ⟨false, bs l1⟩] (fun v hp => v = .a (bs (houseD (l1))) ∧ hp = [⟨false, hEng 1 2⟩, ⟨false, bs hT1⟩, ⟨false, bs hT2⟩, ⟨false, [.s 4 0 l1.length c1]⟩, ⟨false, bs l1⟩]) :=
  c_digest1 285 houseB (invL 256 houseB 256) houseP (invL 16 houseP 16) houseA hT2 8 l1 c1 hc1 htot (by omega) houseE houseA_len houseP_pl
theorem hEng_len (a b : Nat) : (hEng a b).length = 547 := engC_len houseE
theorem hEng_take {a b c d : Nat} : List.take (hEng a b).length (hEng c d) = hEng c d := take_all (by rw [hEng_len, hEng_len])
end Go.Proofs.YtahnjhppkgndiaaGreat
/- Leaves and digests of the house: the program and the reference hand back the same. -/
set_option linter.unusedSimpArgs false
set_option linter.unusedVariables false
namespace Go.Proofs.YtahnjhppkgndiaaGreat
open Go Go.Vc
set_option maxRecDepth 10000
set_option maxHeartbeats 4000000
def hdD (l : List UInt8) : List UInt8 × Int := if l.length ≤ 2000 then (houseD l, 0) else (List.replicate 32 0, 2)
theorem hdD_len (l : List UInt8) : (hdD l).1.length = 32 := by unfold hdD; split; exact houseD_len _; simp
theorem c_spec_HouseDigest (l : List UInt8) (c : Nat) (hc : l.length ≤ c) : LC Tryz.prog 46 [.s 0 0 l.length c] [⟨false, bs l⟩] (fun v hp => v = .t [.a (bs (hdD l).1), .c (.int .i64 ((hdD l).2))] ∧ hp = [⟨false, bs l⟩]) := by
  refine LC_of (X := XX (fun _ => .nil) (fun _ => []) [15, 71, 72, 73, 79, 80, 87, 90, 91, 93, 99, 119, 137, 176, 177, 203, 204, 212, 219] 1) envOK Tryz.func46 (by kernel_rfl) (by kernel_rfl) rfl (Nat.le_of_ble_eq_true (by kernel_rfl)) ?_
  simp only [kFun, Tryz.f46, List.length_nil, List.length_cons, Nat.sub_zero, Nat.reduceSub, Nat.reduceAdd, List.nil_append, List.cons_append, List.replicate_succ, List.replicate_zero]
  simp only [XX, ↓VC, VP, TT, Nat.reduceEqDiff, reduceCtorEq, Nat.reduceAdd, Nat.reduceSub, Nat.reduceLT, Nat.reduceMul, Nat.reducePow, Nat.reduceLeDiff, Int.reduceToNat, Int.reduceLE, Int.reduceLT, Int.reducePow]
  refine ⟨fun h => ?_, fun h => ?_⟩
  · refine ⟨_, _, [0], ⟨rfl, rfl⟩, ?_⟩
    unfold hdD; rw [if_neg (by omega)]; simp [-List.reduceReplicate, LES]
  · refine kCall_val (c_spec_l08Digest l c hc (by omega)) (by rfl) [(0, 0)] (by simp [CALL]) (by simp [CALL, cellsAt]) (by simp [CALL]) (by simp [okL_bs]) ?_
    simp only [CALL, ↓VC, VP, TT, Nat.reduceEqDiff, reduceCtorEq, Nat.reduceAdd, Nat.reduceSub, Nat.reduceLT, Nat.reduceMul, Nat.reducePow, Nat.reduceLeDiff, Int.reduceToNat, Int.reduceLE, Int.reduceLT, Int.reducePow, houseD_len]
    refine ⟨_, _, [0], ⟨rfl, rfl⟩, ?_⟩
    unfold hdD; rw [if_pos (by omega)]; simp [-List.reduceReplicate, LES]
theorem c_impl_HouseDigest (l : List UInt8) (c : Nat) (hc : l.length ≤ c) : LC Tryz.prog 45 [.s 0 0 l.length c] [⟨false, bs l⟩] (fun v hp => v = .t [.a (bs (hdD l).1), .c (.int .i64 ((hdD l).2))] ∧ hp = [⟨false, bs l⟩]) := by
  refine LC_of (X := XX (fun _ => .nil) (fun _ => []) [15, 71, 72, 73, 79, 80, 87, 90, 91, 93, 99, 119, 137, 176, 177, 203, 204, 212, 219] 1) envOK Tryz.func45 (by kernel_rfl) (by kernel_rfl) rfl (Nat.le_of_ble_eq_true (by kernel_rfl)) ?_
  simp only [kFun, Tryz.f45, List.length_nil, List.length_cons, Nat.sub_zero, Nat.reduceSub, Nat.reduceAdd, List.nil_append, List.cons_append, List.replicate_succ, List.replicate_zero]
  simp only [XX, ↓VC, VP, TT, Nat.reduceEqDiff, reduceCtorEq, Nat.reduceAdd, Nat.reduceSub, Nat.reduceLT, Nat.reduceMul, Nat.reducePow, Nat.reduceLeDiff, Int.reduceToNat, Int.reduceLE, Int.reduceLT, Int.reducePow]
  refine kCall_val (c_impl_isData l c) (by rfl) [(0, 0)] (by simp [CALL]) (by simp [CALL, cellsAt]) (by simp [CALL]) (by simp [okL_bs]) ?_
  simp only [CALL, ↓VC, VP, TT, Nat.reduceEqDiff, reduceCtorEq, Nat.reduceAdd, Nat.reduceSub, Nat.reduceLT, Nat.reduceMul, Nat.reducePow, Nat.reduceLeDiff, Int.reduceToNat, Int.reduceLE, Int.reduceLT, Int.reducePow]
  refine ⟨fun h => ?_, fun h => ?_⟩
  · simp only [Bool.not_eq_true', decide_eq_false_iff_not] at h
    refine ⟨_, _, [0], ⟨rfl, rfl⟩, ?_⟩
    unfold hdD; rw [if_neg h]; simp [-List.reduceReplicate, LES]
  · simp only [Bool.not_eq_false', decide_eq_true_eq] at h
    refine kCall_Ret c_house (by rfl) [] (by simp [CALL]) (by simp [CALL]) (by simp [CALL]) (by simp) (by simp [engH]) fun _ _ => ?_
    rw [engH_house]
    simp only [CALL, ↓VC, VP, TT, Nat.reduceEqDiff, reduceCtorEq, Nat.reduceAdd, Nat.reduceSub, Nat.reduceLT, Nat.reduceMul, Nat.reducePow, Nat.reduceLeDiff, Int.reduceToNat, Int.reduceLE, Int.reduceLT, Int.reducePow, hB, instL_hEng0, repl1]
    refine kCall_val (h_digest1 l c hc (by omega)) (by rfl) [(2, 0), (3, 0), (4, 0), (5, 0), (0, 0)] (by simp [CALL]) (by simp [CALL, cellsAt, instL_hEng, hEng_take, tk]) (by simp [CALL]) (by simp [okL_bs, okL_hEng, okL, okV]) ?_
    simp only [CALL, ↓VC, VP, TT, Nat.reduceEqDiff, reduceCtorEq, Nat.reduceAdd, Nat.reduceSub, Nat.reduceLT, Nat.reduceMul, Nat.reducePow, Nat.reduceLeDiff, Int.reduceToNat, Int.reduceLE, Int.reduceLT, Int.reducePow, houseD_len]
    refine ⟨_, _, [0], ⟨rfl, rfl⟩, ?_⟩
    unfold hdD; rw [if_pos h]; simp [-List.reduceReplicate, LES]
end Go.Proofs.YtahnjhppkgndiaaGreat

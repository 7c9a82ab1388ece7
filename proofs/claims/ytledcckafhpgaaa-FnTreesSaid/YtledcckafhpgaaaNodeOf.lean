import Derived.Test.YtledcckafhpgaaaEngP
import Derived.Test.YtledcckafhpgaaaTk
/- Leaves, nodes, digests of the house: the program and the reference. -/
set_option linter.unusedSimpArgs false
set_option linter.unusedVariables false
namespace Go.Proofs.Ytledcckafhpgaaa
open Go Go.Vc
set_option maxRecDepth 10000
set_option maxHeartbeats 4000000
theorem houseE : EngL houseB (invL 256 houseB 256) houseP (invL 16 houseP 16) := ⟨houseB_len, invL_len _ _ _, houseP_len, invL_len _ _ _⟩
/-- The engine of the house, at some handle. -/
def hEng (h1 h2 : Nat) : List V := engC houseB (invL 256 houseB 256) houseP (invL 16 houseP 16) h1 h2 8
def hT1 : List UInt8 := tabL 285 houseA
def hT2 : List UInt8 := tabL 285 (invM 285 houseA (unP 4)).2
theorem renL_hEng {h1 h2 : Nat} (σ : List Nat) : V.renL σ (hEng h1 h2) = hEng (σ.getD h1 0) (σ.getD h2 0) := renL_eng σ
theorem instL_hEng {a b c : Nat} {R : List (Nat × Nat)} (N : Nat) : V.instL ((a, 0) :: (b, 0) :: (c, 0) :: R) N (hEng 1 2) = hEng b c := instL_eng N
theorem instL_hEng0 {h1 h2 : Nat} (N : Nat) : V.instL [] N (hEng h1 h2) = hEng (N + h1) (N + h2) := instL_eng0 N
theorem okL_hEng {h1 h2 : Nat} (N : Nat) : okL N (hEng h1 h2) = (h1 < N ∧ h2 < N) := okL_eng N
def hB (own : Bool) : List Blk := [⟨own, hEng 1 2⟩, ⟨own, bs hT1⟩, ⟨own, bs hT2⟩]
theorem engH_house (own : Bool) : engH 285 houseB houseA houseP 8 own = hB own := rfl
theorem c_newHasher : LC Try.prog 28 [] [] (Ret [] (fun _ : Unit => True) fun _ => (.a [.p 0 0], hB true)) := by
  refine LC_of (X := XX (fun _ => .nil) (fun _ => []) [22, 24, 25, 36, 42, 47, 90] 0) envOK Try.func28 (by kernel_rfl) (by kernel_rfl) rfl (Nat.le_of_ble_eq_true (by kernel_rfl)) ?_
  simp only [kFun, Try.f28, List.length_nil, List.length_cons, Nat.sub_zero, Nat.reduceSub, Nat.reduceAdd, List.nil_append, List.cons_append, List.replicate_succ, List.replicate_zero]
  simp only [XX, ↓VC, VP, TT, List.getElem?_toArray, Nat.reduceEqDiff, reduceCtorEq, Nat.reduceAdd, Nat.reduceSub, Nat.reduceLT, Nat.reduceMul, Nat.reducePow, Nat.reduceLeDiff, Int.reduceToNat, Int.reduceLE, Int.reduceLT, Int.reducePow]
  refine kCall_Ret c_house (by rfl) [] (by simp [CALL]) (by simp [CALL]) (by simp [CALL]) (by simp) (by simp [engH]) fun _ _ => ?_
  rw [engH_house]
  simp only [CALL, ↓VC, VP, TT, List.getElem?_toArray, Nat.reduceEqDiff, reduceCtorEq, Nat.reduceAdd, Nat.reduceSub, Nat.reduceLT, Nat.reduceMul, Nat.reducePow, Nat.reduceLeDiff, Int.reduceToNat, Int.reduceLE, Int.reduceLT, Int.reducePow, hB, instL_hEng0]
  refine ⟨by simp [TT], _, _, [1, 2, 3], ⟨(), trivial, rfl, rfl⟩, ?_⟩
  simp [-List.reduceReplicate, LES, hB, renL_hEng, okL_hEng]
theorem h_digest1 (l1 : List UInt8) (c1 : Nat) (hc1 : l1.length ≤ c1) (htot : l1.length ≤ 2097152) : LC Try.prog 38 [.p 0 0, .s 3 0 1 1] [⟨false, hEng 1 2⟩, ⟨false, bs hT1⟩, ⟨false, bs hT2⟩, ⟨false, [.s 4 0 l1.length c1]⟩, ⟨false, bs l1⟩] (fun v hp => v = .a (bs (houseD (l1))) ∧ hp = [⟨false, hEng 1 2⟩, ⟨false, bs hT1⟩, ⟨false, bs hT2⟩, ⟨false, [.s 4 0 l1.length c1]⟩, ⟨false, bs l1⟩]) :=
  c_digest1 285 houseB (invL 256 houseB 256) houseP (invL 16 houseP 16) houseA hT2 8 l1 c1 hc1 htot (by omega) houseE houseA_len houseP_pl
theorem h_digest2 (l1 l2 : List UInt8) (c1 c2 : Nat) (hc1 : l1.length ≤ c1) (hc2 : l2.length ≤ c2) (htot : l1.length + l2.length ≤ 2097152) : LC Try.prog 38 [.p 0 0, .s 3 0 2 2] [⟨false, hEng 1 2⟩, ⟨false, bs hT1⟩, ⟨false, bs hT2⟩, ⟨false, [.s 4 0 l1.length c1, .s 5 0 l2.length c2]⟩, ⟨false, bs l1⟩, ⟨false, bs l2⟩] (fun v hp => v = .a (bs (houseD (l1 ++ l2))) ∧ hp = [⟨false, hEng 1 2⟩, ⟨false, bs hT1⟩, ⟨false, bs hT2⟩, ⟨false, [.s 4 0 l1.length c1, .s 5 0 l2.length c2]⟩, ⟨false, bs l1⟩, ⟨false, bs l2⟩]) :=
  c_digest2 285 houseB (invL 256 houseB 256) houseP (invL 16 houseP 16) houseA hT2 8 l1 l2 c1 c2 hc1 hc2 htot (by omega) houseE houseA_len houseP_pl
theorem h_digest3 (l1 l2 l3 : List UInt8) (c1 c2 c3 : Nat) (hc1 : l1.length ≤ c1) (hc2 : l2.length ≤ c2) (hc3 : l3.length ≤ c3) (htot : l1.length + l2.length + l3.length ≤ 2097152) : LC Try.prog 38 [.p 0 0, .s 3 0 3 3] [⟨false, hEng 1 2⟩, ⟨false, bs hT1⟩, ⟨false, bs hT2⟩, ⟨false, [.s 4 0 l1.length c1, .s 5 0 l2.length c2, .s 6 0 l3.length c3]⟩, ⟨false, bs l1⟩, ⟨false, bs l2⟩, ⟨false, bs l3⟩] (fun v hp => v = .a (bs (houseD (l1 ++ l2 ++ l3))) ∧ hp = [⟨false, hEng 1 2⟩, ⟨false, bs hT1⟩, ⟨false, bs hT2⟩, ⟨false, [.s 4 0 l1.length c1, .s 5 0 l2.length c2, .s 6 0 l3.length c3]⟩, ⟨false, bs l1⟩, ⟨false, bs l2⟩, ⟨false, bs l3⟩]) :=
  c_digest3 285 houseB (invL 256 houseB 256) houseP (invL 16 houseP 16) houseA hT2 8 l1 l2 l3 c1 c2 c3 hc1 hc2 hc3 htot (by omega) houseE houseA_len houseP_pl
theorem hEng_len (a b : Nat) : (hEng a b).length = 547 := engC_len houseE
theorem hEng_take {a b c d : Nat} : List.take (hEng a b).length (hEng c d) = hEng c d := take_all (by rw [hEng_len, hEng_len])
theorem bs1 : [V.c (.int .u8 1)] = bs [1] := rfl
theorem bs0 : [V.c (.int .u8 0)] = bs [0] := rfl
def nodeL (l r : List UInt8) : List UInt8 := houseD (([1] ++ l) ++ r)
theorem nodeL_len (l r : List UInt8) : (nodeL l r).length = 32 := houseD_len _
theorem c_hasher_node (l r : List UInt8) (hl : l.length = 32) (hr : r.length = 32) : LC Try.prog 41 [.a [.p 0 0], .a (bs l), .a (bs r)] (hB false) (fun v hp => v = .a (bs (nodeL l r)) ∧ hp = hB false) := by
  unfold hB
  refine LC_of (X := XX (fun | 1 => .one 0 (.one 1 (.one 3 (.one 4 (.one 2 (.one 5 (.one 6 (.one 7 .nil))))))) | _ => .nil) (fun _ => []) [22, 24, 25, 36, 42, 47, 90] 3) envOK Try.func41 (by kernel_rfl) (by kernel_rfl) rfl (Nat.le_of_ble_eq_true (by kernel_rfl)) ?_
  simp only [kFun, Try.f41, List.length_nil, List.length_cons, Nat.sub_zero, Nat.reduceSub, Nat.reduceAdd, List.nil_append, List.cons_append, List.replicate_succ, List.replicate_zero]
  simp only [XX, ↓VC, VP, TT, List.getElem?_toArray, Nat.reduceEqDiff, reduceCtorEq, Nat.reduceAdd, Nat.reduceSub, Nat.reduceLT, Nat.reduceMul, Nat.reducePow, Nat.reduceLeDiff, Int.reduceToNat, Int.reduceLE, Int.reduceLT, Int.reducePow, hl, hr, bs1]
  refine kCall_val (h_digest3 [1] l r 1 32 32 (by simp) (by omega) (by omega) (by simp; omega)) (by rfl) [(0, 0), (1, 0), (2, 0), (8, 0), (7, 0), (4, 0), (5, 0)] (by simp [CALL]) (by simp [CALL, cellsAt, instL_hEng, hl, hr, bs_length, tk, tkn hl, tkn hr, show List.take 1 (bs [1]) = bs [1] from rfl]) (by simp [CALL]) (by simp [okL_bs, okL_hEng, okL, okV]) ?_
  simp only [CALL, ↓VC, VP, TT, List.getElem?_toArray, Nat.reduceEqDiff, reduceCtorEq, Nat.reduceAdd, Nat.reduceSub, Nat.reduceLT, Nat.reduceMul, Nat.reducePow, Nat.reduceLeDiff, Int.reduceToNat, Int.reduceLE, Int.reduceLT, Int.reducePow, houseD_len]
  refine ⟨_, _, [0, 1, 2], ⟨rfl, rfl⟩, ?_⟩
  simp [-List.reduceReplicate, LES, renL_hEng, okL_hEng, nodeL]
theorem c_impl_NodeOf (l r : List UInt8) (hl : l.length = 32) (hr : r.length = 32) : LC Try.prog 20 [.a (bs l), .a (bs r)] [] (fun v hp => v = .a (bs (nodeL l r)) ∧ hp = []) := by
  refine LC_of (X := XX (fun | 1 => .one 1 (.one 2 (.one 0 (.one 3 (.one 4 .nil)))) | _ => .nil) (fun _ => []) [22, 24, 25, 36, 42, 47, 90] 0) envOK Try.func20 (by kernel_rfl) (by kernel_rfl) rfl (Nat.le_of_ble_eq_true (by kernel_rfl)) ?_
  simp only [kFun, Try.f20, List.length_nil, List.length_cons, Nat.sub_zero, Nat.reduceSub, Nat.reduceAdd, List.nil_append, List.cons_append, List.replicate_succ, List.replicate_zero]
  simp only [XX, ↓VC, VP, TT, List.getElem?_toArray, Nat.reduceEqDiff, reduceCtorEq, Nat.reduceAdd, Nat.reduceSub, Nat.reduceLT, Nat.reduceMul, Nat.reducePow, Nat.reduceLeDiff, Int.reduceToNat, Int.reduceLE, Int.reduceLT, Int.reducePow, hl, hr]
  refine kCall_Ret c_newHasher (by rfl) [] (by simp [CALL]) (by simp [CALL]) (by simp [CALL]) (by simp) (by simp [hB]) fun _ _ => ?_
  simp only [CALL, ↓VC, VP, TT, List.getElem?_toArray, Nat.reduceEqDiff, reduceCtorEq, Nat.reduceAdd, Nat.reduceSub, Nat.reduceLT, Nat.reduceMul, Nat.reducePow, Nat.reduceLeDiff, Int.reduceToNat, Int.reduceLE, Int.reduceLT, Int.reducePow, hB, hl, hr, instL_hEng0]
  refine kCall_val (c_hasher_node l r hl hr) (by rfl) [(3, 0), (4, 0), (5, 0)] (by simp [CALL]) (by simp [CALL, hB, cellsAt, instL_hEng, hEng_take, tk]) (by simp [CALL, hB]) (by simp [hB, okL_bs, okL_hEng]) ?_
  simp only [CALL, ↓VC, VP, TT, List.getElem?_toArray, Nat.reduceEqDiff, reduceCtorEq, Nat.reduceAdd, Nat.reduceSub, Nat.reduceLT, Nat.reduceMul, Nat.reducePow, Nat.reduceLeDiff, Int.reduceToNat, Int.reduceLE, Int.reduceLT, Int.reducePow, nodeL_len]
  refine ⟨_, _, [], ⟨rfl, rfl⟩, ?_⟩; simp [-List.reduceReplicate, LES]
theorem c_spec_l09Node (l r : List UInt8) (hl : l.length = 32) (hr : r.length = 32) : LC Try.prog 45 [.a (bs l), .a (bs r)] [] (fun v hp => v = .a (bs (nodeL l r)) ∧ hp = []) := by
  refine LC_of (X := XX (fun _ => .nil) (fun _ => []) [22, 24, 25, 36, 42, 47, 90] 0) envOK Try.func45 (by kernel_rfl) (by kernel_rfl) rfl (Nat.le_of_ble_eq_true (by kernel_rfl)) ?_
  simp only [kFun, Try.f45, List.length_nil, List.length_cons, Nat.sub_zero, Nat.reduceSub, Nat.reduceAdd, List.nil_append, List.cons_append, List.replicate_succ, List.replicate_zero]
  simp only [XX, ↓VC, VP, TT, List.getElem?_toArray, Nat.reduceEqDiff, reduceCtorEq, Nat.reduceAdd, Nat.reduceSub, Nat.reduceLT, Nat.reduceMul, Nat.reducePow, Nat.reduceLeDiff, Int.reduceToNat, Int.reduceLE, Int.reduceLT, Int.reducePow, hl, hr, bs1]
  refine ⟨.inr trivial, .inr trivial, fun r1 c1 h1 h1' => ⟨by omega, .inr (by omega), .inr trivial, fun r2 c2 h2 h2' => ?_⟩⟩
  have hL : (([1] ++ l) ++ r).length = 65 := by simp [hl, hr]
  rw [bs_append, take_room (n := 33) (by simp [hl]), bs_append]
  refine kCall_val (c_spec_l08Digest (([1] ++ l) ++ r) c2 (by omega) (by omega)) (by rfl) [(5, 0)] (by simp [CALL, hL, hl, hr]) (by simp [CALL, cellsAt, hL, tkn hL]) (by simp [CALL]) (by simp [okL_bs]) ?_
  simp only [CALL, ↓VC, VP, TT, List.getElem?_toArray, Nat.reduceEqDiff, reduceCtorEq, Nat.reduceAdd, Nat.reduceSub, Nat.reduceLT, Nat.reduceMul, Nat.reducePow, Nat.reduceLeDiff, Int.reduceToNat, Int.reduceLE, Int.reduceLT, Int.reducePow, houseD_len]
  refine ⟨_, _, [], ⟨rfl, rfl⟩, ?_⟩; simp [-List.reduceReplicate, LES, nodeL]
end Go.Proofs.Ytledcckafhpgaaa

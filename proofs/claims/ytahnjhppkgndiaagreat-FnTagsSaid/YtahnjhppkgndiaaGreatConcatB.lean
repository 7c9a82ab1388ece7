import Derived.Test.YtahnjhppkgndiaaGreatListsM
import Derived.Test.YtahnjhppkgndiaaGreatPadM
import Derived.Test.YtahnjhppkgndiaaGreatEnv
/- Bytes joined: slices.Concat of one, two or three parts. -/
set_option linter.unusedSimpArgs false
set_option linter.unusedVariables false
namespace Go.Proofs.YtahnjhppkgndiaaGreat
open Go Go.Vc
set_option maxRecDepth 10000
set_option maxHeartbeats 4000000
theorem c_Grow (n : Nat) (hn : n ≤ 8388608) : LC Tryz.prog 182 [.c (.slice none 0 0), .c (.int .i64 (n))] []
    (Ret [] (fun o : Option Nat => o = none → n = 0) fun o => match o with | some r => (.s 0 0 0 (n + r), [⟨true, bs (List.replicate n 0) ++ List.replicate r .j⟩]) | none => (.c (.slice none 0 0), [])) := by
  refine LC_of (X := XX (fun _ => .nil) (fun _ => []) [15, 71, 72, 73, 79, 80, 87, 90, 91, 93, 99, 119, 137, 176, 177, 203, 204, 212, 219] 0) envOK Tryz.func182 (by kernel_rfl) (by kernel_rfl) rfl (Nat.le_of_ble_eq_true (by kernel_rfl)) ?_
  simp only [kFun, Tryz.f182, List.length_nil, List.length_cons, Nat.sub_zero, Nat.reduceSub, Nat.reduceAdd, List.nil_append, List.cons_append, List.replicate_succ, List.replicate_zero]
  simp only [XX, ↓VC, VP, TT, Nat.reduceEqDiff, reduceCtorEq, Nat.reduceAdd, Nat.reduceSub, Nat.reduceLT, Nat.reduceMul, Nat.reducePow, Nat.reduceLeDiff, Int.reduceToNat, Int.reduceLE, Int.reduceLT, Int.reducePow]
  have w : IntKind.i64.wrap ((n : Int) - IntKind.i64.wrap (((0 : Nat) : Int) - ((0 : Nat) : Int))) = (n : Int) := by
    rw [wrap_i64 (n := ((0 : Nat) : Int) - ((0 : Nat) : Int)) (by omega) (by omega), wrap_i64 (by omega) (by omega)]; omega
  rw [w]
  refine ⟨fun h => by omega, fun _ => ⟨fun h => ⟨by omega, by omega, by omega, by omega, fun r c' hc hc' => ?_⟩, fun h => ⟨_, _, [], ⟨none, fun _ => by omega, rfl, rfl⟩, by simp [-List.reduceReplicate, LES]⟩⟩⟩
  rw [Int.toNat_natCast] at hc hc' ⊢
  refine ⟨by omega, _, _, [0], ⟨some r, by simp, rfl, rfl⟩, ?_⟩
  rw [flat_zeros, show c' - 0 = n + r by omega]
  simp [-List.reduceReplicate, LES]
def tot2 (l1 l2 : List UInt8) : Nat → Nat
  | 0 => 0
  | 1 => 0 + l1.length
  | _ => 0 + l1.length + l2.length
def cat2 (l1 l2 : List UInt8) : Nat → List UInt8
  | 0 => []
  | 1 => [] ++ l1
  | _ => [] ++ l1 ++ l2
def SC2 (l1 l2 : List UInt8) (c1 c2 : Nat) (n : Nat) (s : Nat × Nat × Nat) : List V × List Blk := match s.1 with
  | 0 => ([.j, .j, .j, .j, .j, .j, .c (.slice none 0 0), .j, .j, .j, .j, .j, .j, .j, .j, .j, .j, .j, .j, .j, .j, .j, .j, .j, .j, .s 0 0 2 2, .c (.int .i64 (2)), .c (.int .i64 (s.2.1)), .j, .j, .j, .j, .j, .j, .j, .j], [⟨false, [.s 1 0 l1.length c1, .s 2 0 l2.length c2]⟩, ⟨false, bs l1⟩, ⟨false, bs l2⟩])
  | 1 => ([.j, .j, .j, .j, .j, .j, .s 3 0 0 (n + s.2.2), .j, .j, .j, .j, .j, .j, .j, .j, .j, .j, .j, .j, .j, .j, .j, .j, .j, .j, .s 0 0 2 2, .c (.int .i64 (2)), .c (.int .i64 (s.2.1)), .j, .j, .j, .j, .j, .j, .j, .j], [⟨false, [.s 1 0 l1.length c1, .s 2 0 l2.length c2]⟩, ⟨false, bs l1⟩, ⟨false, bs l2⟩, ⟨true, bs (List.replicate n 0) ++ List.replicate s.2.2 .j⟩])
  | _ => ([.j, .j, .j, .j, .j, .j, .s 3 0 (cat2 l1 l2 s.2.1).length ((cat2 l1 l2 s.2.1).length + s.2.2), .j, .j, .j, .j, .j, .j, .j, .j, .j, .j, .j, .j, .j, .j, .j, .j, .j, .j, .s 0 0 2 2, .c (.int .i64 (2)), .c (.int .i64 (s.2.1)), .j, .j, .j, .j, .j, .j, .j, .j], [⟨false, [.s 1 0 l1.length c1, .s 2 0 l2.length c2]⟩, ⟨false, bs l1⟩, ⟨false, bs l2⟩, ⟨true, bs (cat2 l1 l2 s.2.1) ++ List.replicate s.2.2 .j⟩])
theorem c_Concat2 (l1 l2 : List UInt8) (c1 c2 : Nat) (hc1 : l1.length ≤ c1) (hc2 : l2.length ≤ c2) (hm : l1.length + l2.length ≤ 8388608) : LC Tryz.prog 145 [.s 0 0 2 2] [⟨false, [.s 1 0 l1.length c1, .s 2 0 l2.length c2]⟩, ⟨false, bs l1⟩, ⟨false, bs l2⟩]
    (Ret [⟨false, [.s 1 0 l1.length c1, .s 2 0 l2.length c2]⟩, ⟨false, bs l1⟩, ⟨false, bs l2⟩] (fun _ : Nat => True) fun r => (.s 3 0 (l1 ++ l2).length ((l1 ++ l2).length + r), [⟨true, bs (l1 ++ l2) ++ List.replicate r .j⟩])) := by
  refine LC_of (X := XX (fun _ => .nil) (fun _ => []) [15, 71, 72, 73, 79, 80, 87, 90, 91, 93, 99, 119, 137, 176, 177, 203, 204, 212, 219] 3) envOK Tryz.func145 (by kernel_rfl) (by kernel_rfl) rfl (Nat.le_of_ble_eq_true (by kernel_rfl)) ?_
  simp only [kFun, Tryz.f145, List.length_nil, List.length_cons, Nat.sub_zero, Nat.reduceSub, Nat.reduceAdd, List.nil_append, List.cons_append, List.replicate_succ, List.replicate_zero]
  simp only [XX, ↓VC, VP, TT, Nat.reduceEqDiff, reduceCtorEq, Nat.reduceAdd, Nat.reduceSub, Nat.reduceLT, Nat.reduceMul, Nat.reducePow, Nat.reduceLeDiff, Int.reduceToNat, Int.reduceLE, Int.reduceLT, Int.reducePow]
  refine kLoop_of (fun i : Nat => ([.s 0 0 2 2, .j, .j, .c (.int .i64 ((tot2 l1 l2 i : Nat))), .j, .j, .j, .j, .j, .s 0 0 2 2, .c (.int .i64 (2)), .c (.int .i64 (i)), .j, .j, .j, .j, .j, .j, .j, .j, .j, .j, .j, .j, .j, .j, .j, .j, .j, .j, .j, .j, .j, .j, .j, .j], [⟨false, [.s 1 0 l1.length c1, .s 2 0 l2.length c2]⟩, ⟨false, bs l1⟩, ⟨false, bs l2⟩])) (fun i => 2 - i) (fun i => i ≤ 2) 0 (by omega) ⟨[0, 1, 2], by simp [-List.reduceReplicate, LES, tot2]⟩ ?_
  intro i hi
  rcases (by omega : i = 0 ∨ i = 1 ∨ i = 2) with rfl | rfl | rfl
  · have w : IntKind.i64.wrap (((tot2 l1 l2 0 : Nat) : Int) + (l1.length : Int)) = ((tot2 l1 l2 1 : Nat) : Int) := by
      rw [wrap_i64 (by simp only [tot2]; omega) (by simp only [tot2]; omega)]; simp only [tot2]; omega
    simp only [↓VC, VP, TT, Nat.reduceEqDiff, reduceCtorEq, Nat.reduceAdd, Nat.reduceSub, Nat.reduceLT, Nat.reduceMul, Nat.reducePow, Nat.reduceLeDiff, Int.reduceToNat, Int.reduceLE, Int.reduceLT, Int.reducePow, (eq_true (by decide) : (((0 : Nat) : Int) < 2) = True), (eq_true (by decide) : (((0 : Nat) : Int) < ((2 : Nat) : Int)) = True), decide_true, w]
    repeat (refine ⟨by first | omega | (simp; done) | decide, ?_⟩)
    refine fun _ => ⟨1, by omega, by omega, [0, 1, 2], ?_⟩
    rw [wrap_i64 (by omega) (by omega)]
    simp [-List.reduceReplicate, LES]
  · have w : IntKind.i64.wrap (((tot2 l1 l2 1 : Nat) : Int) + (l2.length : Int)) = ((tot2 l1 l2 2 : Nat) : Int) := by
      rw [wrap_i64 (by simp only [tot2]; omega) (by simp only [tot2]; omega)]; simp only [tot2]; omega
    simp only [↓VC, VP, TT, Nat.reduceEqDiff, reduceCtorEq, Nat.reduceAdd, Nat.reduceSub, Nat.reduceLT, Nat.reduceMul, Nat.reducePow, Nat.reduceLeDiff, Int.reduceToNat, Int.reduceLE, Int.reduceLT, Int.reducePow, (eq_true (by decide) : (((1 : Nat) : Int) < 2) = True), (eq_true (by decide) : (((1 : Nat) : Int) < ((2 : Nat) : Int)) = True), decide_true, w]
    repeat (refine ⟨by first | omega | (simp; done) | decide, ?_⟩)
    refine fun _ => ⟨2, by omega, by omega, [0, 1, 2], ?_⟩
    rw [wrap_i64 (by omega) (by omega)]
    simp [-List.reduceReplicate, LES]
  · simp only [↓VC, VP, TT, Nat.reduceEqDiff, reduceCtorEq, Nat.reduceAdd, Nat.reduceSub, Nat.reduceLT, Nat.reduceMul, Nat.reducePow, Nat.reduceLeDiff, Int.reduceToNat, Int.reduceLE, Int.reduceLT, Int.reducePow, (eq_false (by decide) : (((2 : Nat) : Int) < 2) = False), decide_false]
    refine kCall_Ret (c_Grow (tot2 l1 l2 2) (by simp only [tot2]; omega)) (by rfl) [] (by simp [CALL]) (by simp [CALL]) (by simp [CALL]) (by simp) (by rintro (_ | r) <;> simp) fun o ho => ?_
    cases o with
    | some r0 =>
      simp only [CALL, ↓VC, VP, TT, Nat.reduceEqDiff, reduceCtorEq, Nat.reduceAdd, Nat.reduceSub, Nat.reduceLT, Nat.reduceMul, Nat.reducePow, Nat.reduceLeDiff, Int.reduceToNat, Int.reduceLE, Int.reduceLT, Int.reducePow, instL_room]
      refine kLoop_of (SC2 l1 l2 c1 c2 (tot2 l1 l2 2)) (fun s => 2 - s.2.1) (fun s => s.1 ≤ 2 ∧ (s.1 < 2 → s.2.1 = 0) ∧ s.2.1 ≤ 2 ∧ (s.1 = 2 → 1 ≤ s.2.1)) (1, 0, r0) ⟨by simp, by simp, by simp, by simp⟩ ⟨[0, 1, 2, 3], by simp [-List.reduceReplicate, LES, SC2]⟩ ?_
      rintro ⟨v, i, r⟩ ⟨hv, h0, hi, h1⟩
      simp only at hv h0 hi h1
      rcases (by omega : v = 0 ∨ v = 1 ∨ v = 2) with rfl | rfl | rfl
      · obtain rfl := h0 (by omega)
        · simp only [SC2, ↓VC, VP, TT, Nat.reduceEqDiff, reduceCtorEq, Nat.reduceAdd, Nat.reduceSub, Nat.reduceLT, Nat.reduceMul, Nat.reducePow, Nat.reduceLeDiff, Int.reduceToNat, Int.reduceLE, Int.reduceLT, Int.reducePow, (eq_true (by decide) : (((0 : Nat) : Int) < 2) = True), (eq_true (by decide) : (((0 : Nat) : Int) < ((2 : Nat) : Int)) = True), decide_true]
          repeat (refine ⟨by first | omega | (simp; done) | decide, ?_⟩)
          refine fun r' c' hc hc' => ⟨(2, 1, r'), ⟨by simp, by simp, by simp, by simp⟩, by simp, [0, 1, 2, 3], ?_⟩
          subst hc
          try rw [take_room rfl]
          try rw [bs_append]
          rw [wrap_i64 (by omega) (by omega)]
          simp [-List.reduceReplicate, LES, SC2, cat2]
      · obtain rfl := h0 (by omega)
        · simp only [SC2, ↓VC, VP, TT, Nat.reduceEqDiff, reduceCtorEq, Nat.reduceAdd, Nat.reduceSub, Nat.reduceLT, Nat.reduceMul, Nat.reducePow, Nat.reduceLeDiff, Int.reduceToNat, Int.reduceLE, Int.reduceLT, Int.reducePow, (eq_true (by decide) : (((0 : Nat) : Int) < 2) = True), (eq_true (by decide) : (((0 : Nat) : Int) < ((2 : Nat) : Int)) = True), decide_true]
          repeat (refine ⟨by first | omega | (simp; done) | decide, ?_⟩)
          refine fun r' c' hc hc' => ⟨(2, 1, r'), ⟨by simp, by simp, by simp, by simp⟩, by simp, [0, 1, 2, 4], ?_⟩
          subst hc
          try rw [take_room rfl]
          try rw [bs_append]
          rw [wrap_i64 (by omega) (by omega)]
          simp [-List.reduceReplicate, LES, SC2, cat2]
      · have h1 := h1 rfl
        rcases (by omega : i = 1 ∨ i = 2) with rfl | rfl
        · simp only [SC2, ↓VC, VP, TT, Nat.reduceEqDiff, reduceCtorEq, Nat.reduceAdd, Nat.reduceSub, Nat.reduceLT, Nat.reduceMul, Nat.reducePow, Nat.reduceLeDiff, Int.reduceToNat, Int.reduceLE, Int.reduceLT, Int.reducePow, cat2, List.length_append, List.nil_append, (eq_true (by decide) : (((1 : Nat) : Int) < 2) = True), (eq_true (by decide) : (((1 : Nat) : Int) < ((2 : Nat) : Int)) = True), decide_true]
          repeat (refine ⟨by first | omega | (simp; done) | decide, ?_⟩)
          refine fun r' c' hc hc' => ⟨(2, 2, r'), ⟨by simp, by simp, by simp, by simp⟩, by simp, [0, 1, 2, 4], ?_⟩
          subst hc
          try rw [take_room rfl]
          try rw [bs_append]
          rw [wrap_i64 (by omega) (by omega)]
          simp [-List.reduceReplicate, LES, SC2, cat2]
        · simp only [SC2, ↓VC, VP, TT, Nat.reduceEqDiff, reduceCtorEq, Nat.reduceAdd, Nat.reduceSub, Nat.reduceLT, Nat.reduceMul, Nat.reducePow, Nat.reduceLeDiff, Int.reduceToNat, Int.reduceLE, Int.reduceLT, Int.reducePow, (eq_false (by decide) : (((2 : Nat) : Int) < 2) = False), decide_false]
          refine ⟨_, _, [0, 1, 2, 3], ⟨r, trivial, rfl, rfl⟩, ?_⟩
          simp [-List.reduceReplicate, LES, cat2]
    | none =>
      simp only [CALL, ↓VC, VP, TT, Nat.reduceEqDiff, reduceCtorEq, Nat.reduceAdd, Nat.reduceSub, Nat.reduceLT, Nat.reduceMul, Nat.reducePow, Nat.reduceLeDiff, Int.reduceToNat, Int.reduceLE, Int.reduceLT, Int.reducePow, instL_room]
      refine kLoop_of (SC2 l1 l2 c1 c2 (tot2 l1 l2 2)) (fun s => 2 - s.2.1) (fun s => s.1 ≤ 2 ∧ (s.1 < 2 → s.2.1 = 0) ∧ s.2.1 ≤ 2 ∧ (s.1 = 2 → 1 ≤ s.2.1)) (0, 0, 0) ⟨by simp, by simp, by simp, by simp⟩ ⟨[0, 1, 2], by simp [-List.reduceReplicate, LES, SC2]⟩ ?_
      rintro ⟨v, i, r⟩ ⟨hv, h0, hi, h1⟩
      simp only at hv h0 hi h1
      rcases (by omega : v = 0 ∨ v = 1 ∨ v = 2) with rfl | rfl | rfl
      · obtain rfl := h0 (by omega)
        · simp only [SC2, ↓VC, VP, TT, Nat.reduceEqDiff, reduceCtorEq, Nat.reduceAdd, Nat.reduceSub, Nat.reduceLT, Nat.reduceMul, Nat.reducePow, Nat.reduceLeDiff, Int.reduceToNat, Int.reduceLE, Int.reduceLT, Int.reducePow, (eq_true (by decide) : (((0 : Nat) : Int) < 2) = True), (eq_true (by decide) : (((0 : Nat) : Int) < ((2 : Nat) : Int)) = True), decide_true]
          repeat (refine ⟨by first | omega | (simp; done) | decide, ?_⟩)
          refine fun r' c' hc hc' => ⟨(2, 1, r'), ⟨by simp, by simp, by simp, by simp⟩, by simp, [0, 1, 2, 3], ?_⟩
          subst hc
          try rw [take_room rfl]
          try rw [bs_append]
          rw [wrap_i64 (by omega) (by omega)]
          simp [-List.reduceReplicate, LES, SC2, cat2]
      · obtain rfl := h0 (by omega)
        · simp only [SC2, ↓VC, VP, TT, Nat.reduceEqDiff, reduceCtorEq, Nat.reduceAdd, Nat.reduceSub, Nat.reduceLT, Nat.reduceMul, Nat.reducePow, Nat.reduceLeDiff, Int.reduceToNat, Int.reduceLE, Int.reduceLT, Int.reducePow, (eq_true (by decide) : (((0 : Nat) : Int) < 2) = True), (eq_true (by decide) : (((0 : Nat) : Int) < ((2 : Nat) : Int)) = True), decide_true]
          repeat (refine ⟨by first | omega | (simp; done) | decide, ?_⟩)
          refine fun r' c' hc hc' => ⟨(2, 1, r'), ⟨by simp, by simp, by simp, by simp⟩, by simp, [0, 1, 2, 4], ?_⟩
          subst hc
          try rw [take_room rfl]
          try rw [bs_append]
          rw [wrap_i64 (by omega) (by omega)]
          simp [-List.reduceReplicate, LES, SC2, cat2]
      · have h1 := h1 rfl
        rcases (by omega : i = 1 ∨ i = 2) with rfl | rfl
        · simp only [SC2, ↓VC, VP, TT, Nat.reduceEqDiff, reduceCtorEq, Nat.reduceAdd, Nat.reduceSub, Nat.reduceLT, Nat.reduceMul, Nat.reducePow, Nat.reduceLeDiff, Int.reduceToNat, Int.reduceLE, Int.reduceLT, Int.reducePow, cat2, List.length_append, List.nil_append, (eq_true (by decide) : (((1 : Nat) : Int) < 2) = True), (eq_true (by decide) : (((1 : Nat) : Int) < ((2 : Nat) : Int)) = True), decide_true]
          repeat (refine ⟨by first | omega | (simp; done) | decide, ?_⟩)
          refine fun r' c' hc hc' => ⟨(2, 2, r'), ⟨by simp, by simp, by simp, by simp⟩, by simp, [0, 1, 2, 4], ?_⟩
          subst hc
          try rw [take_room rfl]
          try rw [bs_append]
          rw [wrap_i64 (by omega) (by omega)]
          simp [-List.reduceReplicate, LES, SC2, cat2]
        · simp only [SC2, ↓VC, VP, TT, Nat.reduceEqDiff, reduceCtorEq, Nat.reduceAdd, Nat.reduceSub, Nat.reduceLT, Nat.reduceMul, Nat.reducePow, Nat.reduceLeDiff, Int.reduceToNat, Int.reduceLE, Int.reduceLT, Int.reducePow, (eq_false (by decide) : (((2 : Nat) : Int) < 2) = False), decide_false]
          refine ⟨_, _, [0, 1, 2, 3], ⟨r, trivial, rfl, rfl⟩, ?_⟩
          simp [-List.reduceReplicate, LES, cat2]
end Go.Proofs.YtahnjhppkgndiaaGreat
/- Bytes joined: slices.Concat of one, two or three parts. -/
set_option linter.unusedSimpArgs false
set_option linter.unusedVariables false
namespace Go.Proofs.YtahnjhppkgndiaaGreat
open Go Go.Vc
set_option maxRecDepth 10000
set_option maxHeartbeats 4000000
def tot1 (l1 : List UInt8) : Nat → Nat
  | 0 => 0
  | _ => 0 + l1.length
def cat1 (l1 : List UInt8) : Nat → List UInt8
  | 0 => []
  | _ => [] ++ l1
def SC1 (l1 : List UInt8) (c1 : Nat) (n : Nat) (s : Nat × Nat × Nat) : List V × List Blk := match s.1 with
  | 0 => ([.j, .j, .j, .j, .j, .j, .c (.slice none 0 0), .j, .j, .j, .j, .j, .j, .j, .j, .j, .j, .j, .j, .j, .j, .j, .j, .j, .j, .s 0 0 1 1, .c (.int .i64 (1)), .c (.int .i64 (s.2.1)), .j, .j, .j, .j, .j, .j, .j, .j], [⟨false, [.s 1 0 l1.length c1]⟩, ⟨false, bs l1⟩])
  | 1 => ([.j, .j, .j, .j, .j, .j, .s 2 0 0 (n + s.2.2), .j, .j, .j, .j, .j, .j, .j, .j, .j, .j, .j, .j, .j, .j, .j, .j, .j, .j, .s 0 0 1 1, .c (.int .i64 (1)), .c (.int .i64 (s.2.1)), .j, .j, .j, .j, .j, .j, .j, .j], [⟨false, [.s 1 0 l1.length c1]⟩, ⟨false, bs l1⟩, ⟨true, bs (List.replicate n 0) ++ List.replicate s.2.2 .j⟩])
  | _ => ([.j, .j, .j, .j, .j, .j, .s 2 0 (cat1 l1 s.2.1).length ((cat1 l1 s.2.1).length + s.2.2), .j, .j, .j, .j, .j, .j, .j, .j, .j, .j, .j, .j, .j, .j, .j, .j, .j, .j, .s 0 0 1 1, .c (.int .i64 (1)), .c (.int .i64 (s.2.1)), .j, .j, .j, .j, .j, .j, .j, .j], [⟨false, [.s 1 0 l1.length c1]⟩, ⟨false, bs l1⟩, ⟨true, bs (cat1 l1 s.2.1) ++ List.replicate s.2.2 .j⟩])
theorem c_Concat1 (l1 : List UInt8) (c1 : Nat) (hc1 : l1.length ≤ c1) (hm : l1.length ≤ 8388608) : LC Tryz.prog 145 [.s 0 0 1 1] [⟨false, [.s 1 0 l1.length c1]⟩, ⟨false, bs l1⟩]
    (Ret [⟨false, [.s 1 0 l1.length c1]⟩, ⟨false, bs l1⟩] (fun _ : Nat => True) fun r => (.s 2 0 (l1).length ((l1).length + r), [⟨true, bs (l1) ++ List.replicate r .j⟩])) := by
  refine LC_of (X := XX (fun _ => .nil) (fun _ => []) [15, 71, 72, 73, 79, 80, 87, 90, 91, 93, 99, 119, 137, 176, 177, 203, 204, 212, 219] 2) envOK Tryz.func145 (by kernel_rfl) (by kernel_rfl) rfl (Nat.le_of_ble_eq_true (by kernel_rfl)) ?_
  simp only [kFun, Tryz.f145, List.length_nil, List.length_cons, Nat.sub_zero, Nat.reduceSub, Nat.reduceAdd, List.nil_append, List.cons_append, List.replicate_succ, List.replicate_zero]
  simp only [XX, ↓VC, VP, TT, Nat.reduceEqDiff, reduceCtorEq, Nat.reduceAdd, Nat.reduceSub, Nat.reduceLT, Nat.reduceMul, Nat.reducePow, Nat.reduceLeDiff, Int.reduceToNat, Int.reduceLE, Int.reduceLT, Int.reducePow]
  refine kLoop_of (fun i : Nat => ([.s 0 0 1 1, .j, .j, .c (.int .i64 ((tot1 l1 i : Nat))), .j, .j, .j, .j, .j, .s 0 0 1 1, .c (.int .i64 (1)), .c (.int .i64 (i)), .j, .j, .j, .j, .j, .j, .j, .j, .j, .j, .j, .j, .j, .j, .j, .j, .j, .j, .j, .j, .j, .j, .j, .j], [⟨false, [.s 1 0 l1.length c1]⟩, ⟨false, bs l1⟩])) (fun i => 1 - i) (fun i => i ≤ 1) 0 (by omega) ⟨[0, 1], by simp [-List.reduceReplicate, LES, tot1]⟩ ?_
  intro i hi
  rcases (by omega : i = 0 ∨ i = 1) with rfl | rfl
  · have w : IntKind.i64.wrap (((tot1 l1 0 : Nat) : Int) + (l1.length : Int)) = ((tot1 l1 1 : Nat) : Int) := by
      rw [wrap_i64 (by simp only [tot1]; omega) (by simp only [tot1]; omega)]; simp only [tot1]; omega
    simp only [↓VC, VP, TT, Nat.reduceEqDiff, reduceCtorEq, Nat.reduceAdd, Nat.reduceSub, Nat.reduceLT, Nat.reduceMul, Nat.reducePow, Nat.reduceLeDiff, Int.reduceToNat, Int.reduceLE, Int.reduceLT, Int.reducePow, (eq_true (by decide) : (((0 : Nat) : Int) < 1) = True), (eq_true (by decide) : (((0 : Nat) : Int) < ((1 : Nat) : Int)) = True), decide_true, w]
    repeat (refine ⟨by first | omega | (simp; done) | decide, ?_⟩)
    refine fun _ => ⟨1, by omega, by omega, [0, 1], ?_⟩
    rw [wrap_i64 (by omega) (by omega)]
    simp [-List.reduceReplicate, LES]
  · simp only [↓VC, VP, TT, Nat.reduceEqDiff, reduceCtorEq, Nat.reduceAdd, Nat.reduceSub, Nat.reduceLT, Nat.reduceMul, Nat.reducePow, Nat.reduceLeDiff, Int.reduceToNat, Int.reduceLE, Int.reduceLT, Int.reducePow, (eq_false (by decide) : (((1 : Nat) : Int) < 1) = False), decide_false]
    refine kCall_Ret (c_Grow (tot1 l1 1) (by simp only [tot1]; omega)) (by rfl) [] (by simp [CALL]) (by simp [CALL]) (by simp [CALL]) (by simp) (by rintro (_ | r) <;> simp) fun o ho => ?_
    cases o with
    | some r0 =>
      simp only [CALL, ↓VC, VP, TT, Nat.reduceEqDiff, reduceCtorEq, Nat.reduceAdd, Nat.reduceSub, Nat.reduceLT, Nat.reduceMul, Nat.reducePow, Nat.reduceLeDiff, Int.reduceToNat, Int.reduceLE, Int.reduceLT, Int.reducePow, instL_room]
      refine kLoop_of (SC1 l1 c1 (tot1 l1 1)) (fun s => 1 - s.2.1) (fun s => s.1 ≤ 2 ∧ (s.1 < 2 → s.2.1 = 0) ∧ s.2.1 ≤ 1 ∧ (s.1 = 2 → 1 ≤ s.2.1)) (1, 0, r0) ⟨by simp, by simp, by simp, by simp⟩ ⟨[0, 1, 2], by simp [-List.reduceReplicate, LES, SC1]⟩ ?_
      rintro ⟨v, i, r⟩ ⟨hv, h0, hi, h1⟩
      simp only at hv h0 hi h1
      rcases (by omega : v = 0 ∨ v = 1 ∨ v = 2) with rfl | rfl | rfl
      · obtain rfl := h0 (by omega)
        · simp only [SC1, ↓VC, VP, TT, Nat.reduceEqDiff, reduceCtorEq, Nat.reduceAdd, Nat.reduceSub, Nat.reduceLT, Nat.reduceMul, Nat.reducePow, Nat.reduceLeDiff, Int.reduceToNat, Int.reduceLE, Int.reduceLT, Int.reducePow, (eq_true (by decide) : (((0 : Nat) : Int) < 1) = True), (eq_true (by decide) : (((0 : Nat) : Int) < ((1 : Nat) : Int)) = True), decide_true]
          repeat (refine ⟨by first | omega | (simp; done) | decide, ?_⟩)
          refine fun r' c' hc hc' => ⟨(2, 1, r'), ⟨by simp, by simp, by simp, by simp⟩, by simp, [0, 1, 2], ?_⟩
          subst hc
          try rw [take_room rfl]
          try rw [bs_append]
          rw [wrap_i64 (by omega) (by omega)]
          simp [-List.reduceReplicate, LES, SC1, cat1, Nat.add_assoc]
      · obtain rfl := h0 (by omega)
        · simp only [SC1, ↓VC, VP, TT, Nat.reduceEqDiff, reduceCtorEq, Nat.reduceAdd, Nat.reduceSub, Nat.reduceLT, Nat.reduceMul, Nat.reducePow, Nat.reduceLeDiff, Int.reduceToNat, Int.reduceLE, Int.reduceLT, Int.reducePow, (eq_true (by decide) : (((0 : Nat) : Int) < 1) = True), (eq_true (by decide) : (((0 : Nat) : Int) < ((1 : Nat) : Int)) = True), decide_true]
          repeat (refine ⟨by first | omega | (simp; done) | decide, ?_⟩)
          refine fun r' c' hc hc' => ⟨(2, 1, r'), ⟨by simp, by simp, by simp, by simp⟩, by simp, [0, 1, 3], ?_⟩
          subst hc
          try rw [take_room rfl]
          try rw [bs_append]
          rw [wrap_i64 (by omega) (by omega)]
          simp [-List.reduceReplicate, LES, SC1, cat1, Nat.add_assoc]
      · have h1 := h1 rfl
        rcases (by omega : i = 1) with rfl
        · simp only [SC1, ↓VC, VP, TT, Nat.reduceEqDiff, reduceCtorEq, Nat.reduceAdd, Nat.reduceSub, Nat.reduceLT, Nat.reduceMul, Nat.reducePow, Nat.reduceLeDiff, Int.reduceToNat, Int.reduceLE, Int.reduceLT, Int.reducePow, (eq_false (by decide) : (((1 : Nat) : Int) < 1) = False), decide_false]
          refine ⟨_, _, [0, 1, 2], ⟨r, trivial, rfl, rfl⟩, ?_⟩
          simp [-List.reduceReplicate, LES, cat1, Nat.add_assoc]
    | none =>
      simp only [CALL, ↓VC, VP, TT, Nat.reduceEqDiff, reduceCtorEq, Nat.reduceAdd, Nat.reduceSub, Nat.reduceLT, Nat.reduceMul, Nat.reducePow, Nat.reduceLeDiff, Int.reduceToNat, Int.reduceLE, Int.reduceLT, Int.reducePow, instL_room]
      refine kLoop_of (SC1 l1 c1 (tot1 l1 1)) (fun s => 1 - s.2.1) (fun s => s.1 ≤ 2 ∧ (s.1 < 2 → s.2.1 = 0) ∧ s.2.1 ≤ 1 ∧ (s.1 = 2 → 1 ≤ s.2.1)) (0, 0, 0) ⟨by simp, by simp, by simp, by simp⟩ ⟨[0, 1], by simp [-List.reduceReplicate, LES, SC1]⟩ ?_
      rintro ⟨v, i, r⟩ ⟨hv, h0, hi, h1⟩
      simp only at hv h0 hi h1
      rcases (by omega : v = 0 ∨ v = 1 ∨ v = 2) with rfl | rfl | rfl
      · obtain rfl := h0 (by omega)
        · simp only [SC1, ↓VC, VP, TT, Nat.reduceEqDiff, reduceCtorEq, Nat.reduceAdd, Nat.reduceSub, Nat.reduceLT, Nat.reduceMul, Nat.reducePow, Nat.reduceLeDiff, Int.reduceToNat, Int.reduceLE, Int.reduceLT, Int.reducePow, (eq_true (by decide) : (((0 : Nat) : Int) < 1) = True), (eq_true (by decide) : (((0 : Nat) : Int) < ((1 : Nat) : Int)) = True), decide_true]
          repeat (refine ⟨by first | omega | (simp; done) | decide, ?_⟩)
          refine fun r' c' hc hc' => ⟨(2, 1, r'), ⟨by simp, by simp, by simp, by simp⟩, by simp, [0, 1, 2], ?_⟩
          subst hc
          try rw [take_room rfl]
          try rw [bs_append]
          rw [wrap_i64 (by omega) (by omega)]
          simp [-List.reduceReplicate, LES, SC1, cat1, Nat.add_assoc]
      · obtain rfl := h0 (by omega)
        · simp only [SC1, ↓VC, VP, TT, Nat.reduceEqDiff, reduceCtorEq, Nat.reduceAdd, Nat.reduceSub, Nat.reduceLT, Nat.reduceMul, Nat.reducePow, Nat.reduceLeDiff, Int.reduceToNat, Int.reduceLE, Int.reduceLT, Int.reducePow, (eq_true (by decide) : (((0 : Nat) : Int) < 1) = True), (eq_true (by decide) : (((0 : Nat) : Int) < ((1 : Nat) : Int)) = True), decide_true]
          repeat (refine ⟨by first | omega | (simp; done) | decide, ?_⟩)
          refine fun r' c' hc hc' => ⟨(2, 1, r'), ⟨by simp, by simp, by simp, by simp⟩, by simp, [0, 1, 3], ?_⟩
          subst hc
          try rw [take_room rfl]
          try rw [bs_append]
          rw [wrap_i64 (by omega) (by omega)]
          simp [-List.reduceReplicate, LES, SC1, cat1, Nat.add_assoc]
      · have h1 := h1 rfl
        rcases (by omega : i = 1) with rfl
        · simp only [SC1, ↓VC, VP, TT, Nat.reduceEqDiff, reduceCtorEq, Nat.reduceAdd, Nat.reduceSub, Nat.reduceLT, Nat.reduceMul, Nat.reducePow, Nat.reduceLeDiff, Int.reduceToNat, Int.reduceLE, Int.reduceLT, Int.reducePow, (eq_false (by decide) : (((1 : Nat) : Int) < 1) = False), decide_false]
          refine ⟨_, _, [0, 1, 2], ⟨r, trivial, rfl, rfl⟩, ?_⟩
          simp [-List.reduceReplicate, LES, cat1, Nat.add_assoc]
end Go.Proofs.YtahnjhppkgndiaaGreat

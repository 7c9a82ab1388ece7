import Derived.Test.YtahnjhppkgndiaaGreatTk
import Derived.Test.YtahnjhppkgndiaaGreatListsM
import Derived.Test.YtahnjhppkgndiaaGreatEnv
import Derived.Laws.Strings
/- Padding to whole blocks, both ways: the same bytes. -/
set_option linter.unusedSimpArgs false
set_option linter.unusedVariables false
namespace Go.Proofs.YtahnjhppkgndiaaGreat
open Go Go.Vc
theorem one_moreB {A : List UInt8} {x : UInt8} {r' : Nat} : bs A ++ [V.c (.int .u8 (x.toNat : Int))] ++ List.replicate r' V.j = bs (A ++ [x]) ++ List.replicate r' V.j := by
  rw [← bs_append]; rfl
theorem one_more1 {A : List UInt8} {r' : Nat} : bs A ++ [V.c (.int .u8 1)] ++ List.replicate r' V.j = bs (A ++ [1]) ++ List.replicate r' V.j := one_moreB (x := 1)
theorem one_more0 {A : List UInt8} {r' : Nat} : bs A ++ [V.c (.int .u8 0)] ++ List.replicate r' V.j = bs (A ++ [0]) ++ List.replicate r' V.j := one_moreB (x := 0)
/-- The padding: one 1, then zeros to a whole block. -/
def padL (l : List UInt8) : List UInt8 := l ++ 1 :: List.replicate (15 - l.length % 16) 0
theorem padL_len (l : List UInt8) : (padL l).length = l.length + 16 - l.length % 16 := by simp [padL]; omega
def padA (l : List UInt8) (j : Nat) : List UInt8 := l ++ 1 :: List.replicate j 0
theorem padA_len (l : List UInt8) (j : Nat) : (padA l j).length = l.length + 1 + j := by simp [padA]; omega
theorem padA_succ (l : List UInt8) (j : Nat) : padA l j ++ [0] = padA l (j + 1) := by
  simp [padA, List.replicate_succ']
theorem padA_zero (l : List UInt8) : l ++ [1] = padA l 0 := rfl
theorem padA_done (l : List UInt8) : padA l (15 - l.length % 16) = padL l := rfl
set_option maxRecDepth 10000
theorem c_spec_l01Copy (l : List UInt8) (c : Nat) (hc : l.length ≤ c) (hm : l.length ≤ 4194304) : LC Tryz.prog 97 [.s 0 0 l.length c] [⟨false, bs l⟩] (Ret [⟨false, bs l⟩] (fun _ : Nat => True) fun r => (.s 1 0 l.length (l.length + r), [⟨true, bs l ++ List.replicate r .j⟩])) := by
  refine LC_of (X := XX (fun _ => .nil) (fun _ => []) [15, 71, 72, 73, 79, 80, 87, 90, 91, 93, 99, 119, 137, 176, 177, 203, 204, 212, 219] 1) envOK Tryz.func97 (by kernel_rfl) (by kernel_rfl) rfl (Nat.le_of_ble_eq_true (by kernel_rfl)) ?_
  simp only [kFun, Tryz.f97, List.length_nil, List.length_cons, Nat.sub_zero, Nat.reduceSub, Nat.reduceAdd, List.nil_append, List.cons_append, List.replicate_succ, List.replicate_zero]
  simp only [XX, ↓VC, VP, TT, Nat.reduceEqDiff, reduceCtorEq, Nat.reduceAdd, Nat.reduceSub, Nat.reduceLT, Nat.reduceMul, Nat.reducePow, Nat.reduceLeDiff, Int.reduceToNat, Int.reduceLE, Int.reduceLT, Int.reducePow]
  refine ⟨by omega, by omega, .inl trivial, .inr trivial, fun r c' hc' _ => ⟨_, _, [0, 2], ⟨r, trivial, rfl, rfl⟩, ?_⟩⟩
  rw [hc']; simp [-List.reduceReplicate, LES]
theorem c_slices_Clone (l : List UInt8) (c : Nat) (hc : l.length ≤ c) (hm : l.length ≤ 4194304) : LC Tryz.prog 109 [.s 0 0 l.length c] [⟨false, bs l⟩]
    (Ret [⟨false, bs l⟩] (fun o : Option Nat => o = none → l = [] ∧ c = 0) fun o => match o with | some r => (.s 1 0 l.length (l.length + r), [⟨true, bs l ++ List.replicate r .j⟩]) | none => (.c (.slice none 0 0), [])) := by
  refine LC_of (X := XX (fun _ => .nil) (fun _ => []) [15, 71, 72, 73, 79, 80, 87, 90, 91, 93, 99, 119, 137, 176, 177, 203, 204, 212, 219] 1) envOK Tryz.func109 (by kernel_rfl) (by kernel_rfl) rfl (Nat.le_of_ble_eq_true (by kernel_rfl)) ?_
  simp only [kFun, Tryz.f109, List.length_nil, List.length_cons, Nat.sub_zero, Nat.reduceSub, Nat.reduceAdd, List.nil_append, List.cons_append, List.replicate_succ, List.replicate_zero]
  simp only [XX, ↓VC, VP, TT, Nat.reduceEqDiff, reduceCtorEq, Nat.reduceAdd, Nat.reduceSub, Nat.reduceLT, Nat.reduceMul, Nat.reducePow, Nat.reduceLeDiff, Int.reduceToNat, Int.reduceLE, Int.reduceLT, Int.reducePow]
  refine fun b hb => ⟨fun h => ⟨_, _, [0], ⟨none, fun _ => ?_, rfl, rfl⟩, ?_⟩, fun h => ⟨by omega, by omega, .inl trivial, .inr trivial, fun r c' hc' _ => ⟨_, _, [0, 2], ⟨some r, by simp, rfl, rfl⟩, ?_⟩⟩⟩
  · rcases Nat.eq_zero_or_pos c with h0 | h0
    · exact ⟨List.eq_nil_of_length_eq_zero (by omega), h0⟩
    · rw [hb h0] at h; cases h
  · simp [-List.reduceReplicate, LES]
  · rw [hc']; simp [-List.reduceReplicate, LES]
theorem c_spec_l07Pad (l : List UInt8) (c : Nat) (hc : l.length ≤ c) (hm : l.length ≤ 2097152) : LC Tryz.prog 123 [.s 0 0 l.length c] [⟨false, bs l⟩] (Ret [⟨false, bs l⟩] (fun _ : Nat => True) fun r => (.s 1 0 (padL l).length ((padL l).length + r), [⟨true, bs (padL l) ++ List.replicate r .j⟩])) := by
  refine LC_of (X := XX (fun _ => .nil) (fun _ => []) [15, 71, 72, 73, 79, 80, 87, 90, 91, 93, 99, 119, 137, 176, 177, 203, 204, 212, 219] 1) envOK Tryz.func123 (by kernel_rfl) (by kernel_rfl) rfl (Nat.le_of_ble_eq_true (by kernel_rfl)) ?_
  simp only [kFun, Tryz.f123, List.length_nil, List.length_cons, Nat.sub_zero, Nat.reduceSub, Nat.reduceAdd, List.nil_append, List.cons_append, List.replicate_succ, List.replicate_zero]
  simp only [XX, ↓VC, VP, TT, Nat.reduceEqDiff, reduceCtorEq, Nat.reduceAdd, Nat.reduceSub, Nat.reduceLT, Nat.reduceMul, Nat.reducePow, Nat.reduceLeDiff, Int.reduceToNat, Int.reduceLE, Int.reduceLT, Int.reducePow]
  refine kCall_Ret (c_spec_l01Copy l c hc (by omega)) (by rfl) [(0, 0)] (by simp [CALL]) (by simp [CALL, cellsAt]) (by simp [CALL]) (by simp [okL_bs]) (by simp) fun r _ => ?_
  simp only [CALL, ↓VC, VP, TT, Nat.reduceEqDiff, reduceCtorEq, Nat.reduceAdd, Nat.reduceSub, Nat.reduceLT, Nat.reduceMul, Nat.reducePow, Nat.reduceLeDiff, Int.reduceToNat, Int.reduceLE, Int.reduceLT, Int.reducePow, instL_room]
  refine ⟨by omega, by omega, .inr (by omega), .inr trivial, fun r c' hc' _ => ?_⟩
  rw [one_more1]
  refine kLoop_of (fun s : Nat × Nat => ([.s 0 0 l.length c, .j, .j, .s 1 0 (padA l s.1).length ((padA l s.1).length + s.2), .j, .j, .j, .j, .j, .j, .j, .j, .j, .j, .j, .j], [⟨false, bs l⟩, ⟨true, bs (padA l s.1) ++ List.replicate s.2 .j⟩])) (fun s => 15 - l.length % 16 - s.1) (fun s => s.1 ≤ 15 - l.length % 16) (0, r) (by simp) ⟨[0, 3], by simp [-List.reduceReplicate, LES, padA_zero, padA_len, hc']⟩ ?_
  rintro ⟨j, r⟩ hj
  simp only at hj
  have hl := padA_len l j
  simp only [↓VC, VP, TT, Nat.reduceEqDiff, reduceCtorEq, Nat.reduceAdd, Nat.reduceSub, Nat.reduceLT, Nat.reduceMul, Nat.reducePow, Nat.reduceLeDiff, Int.reduceToNat, Int.reduceLE, Int.reduceLT, Int.reducePow, hl]
  have e16 : ((l.length + 1 + j : Nat) : Int).tmod 16 = (((l.length + 1 + j) % 16 : Nat) : Int) := by rw [Int.tmod_eq_emod_of_nonneg (by omega)]; omega
  rw [e16]
  refine ⟨by omega, fun h => ⟨by omega, by omega, .inr (by omega), .inr trivial, fun r1 c' hc' _ => ⟨(j + 1, r1), ?_, ?_, [0, 3], ?_⟩⟩, fun h => ⟨_, _, [0, 1], ⟨r, trivial, rfl, rfl⟩, ?_⟩⟩
  · rw [bne_iff_ne] at h; simp only; omega
  · rw [bne_iff_ne] at h; simp only; omega
  · rw [one_more0, padA_succ, hc', show l.length + 1 + j + 1 = (padA l (j + 1)).length by rw [padA_len]; omega]
    simp [-List.reduceReplicate, LES]
  · have := bne_eq_false_iff_eq.1 h
    obtain rfl : j = 15 - l.length % 16 := by omega
    rw [padA_done] at hl ⊢
    rw [← hl]
    simp [-List.reduceReplicate, LES]
theorem c_impl_padded (l : List UInt8) (c : Nat) (hc : l.length ≤ c) (hm : l.length ≤ 2097152) : LC Tryz.prog 122 [.s 0 0 l.length c] [⟨false, bs l⟩] (Ret [⟨false, bs l⟩] (fun _ : Nat => True) fun r => (.s 1 0 (padL l).length ((padL l).length + r), [⟨true, bs (padL l) ++ List.replicate r .j⟩])) := by
  refine LC_of (X := XX (fun _ => .nil) (fun _ => []) [15, 71, 72, 73, 79, 80, 87, 90, 91, 93, 99, 119, 137, 176, 177, 203, 204, 212, 219] 1) envOK Tryz.func122 (by kernel_rfl) (by kernel_rfl) rfl (Nat.le_of_ble_eq_true (by kernel_rfl)) ?_
  simp only [kFun, Tryz.f122, List.length_nil, List.length_cons, Nat.sub_zero, Nat.reduceSub, Nat.reduceAdd, List.nil_append, List.cons_append, List.replicate_succ, List.replicate_zero]
  simp only [XX, ↓VC, VP, TT, Nat.reduceEqDiff, reduceCtorEq, Nat.reduceAdd, Nat.reduceSub, Nat.reduceLT, Nat.reduceMul, Nat.reducePow, Nat.reduceLeDiff, Int.reduceToNat, Int.reduceLE, Int.reduceLT, Int.reducePow]
  refine kCall_Ret (c_slices_Clone l c hc (by omega)) (by rfl) [(0, 0)] (by simp [CALL]) (by simp [CALL, cellsAt]) (by simp [CALL]) (by simp [okL_bs]) (by rintro (_ | r) <;> simp) fun o ho => ?_
  cases o with
  | some r =>
    simp only [CALL, ↓VC, VP, TT, Nat.reduceEqDiff, reduceCtorEq, Nat.reduceAdd, Nat.reduceSub, Nat.reduceLT, Nat.reduceMul, Nat.reducePow, Nat.reduceLeDiff, Int.reduceToNat, Int.reduceLE, Int.reduceLT, Int.reducePow, instL_room]
    refine ⟨by omega, by omega, .inr (by omega), .inr trivial, fun r c' hc' _ => ?_⟩
    rw [one_more1]
    refine kLoop_of (fun s : Nat × Nat => ([.s 0 0 l.length c, .j, .j, .s 1 0 (padA l s.1).length ((padA l s.1).length + s.2), .j, .j, .j, .j, .j, .j, .j, .j, .j, .j, .j, .j], [⟨false, bs l⟩, ⟨true, bs (padA l s.1) ++ List.replicate s.2 .j⟩])) (fun s => 15 - l.length % 16 - s.1) (fun s => s.1 ≤ 15 - l.length % 16) (0, r) (by simp) ⟨[0, 3], by simp [-List.reduceReplicate, LES, padA_zero, padA_len, hc']⟩ ?_
    rintro ⟨j, r⟩ hj
    simp only at hj
    have hl := padA_len l j
    simp only [↓VC, VP, TT, Nat.reduceEqDiff, reduceCtorEq, Nat.reduceAdd, Nat.reduceSub, Nat.reduceLT, Nat.reduceMul, Nat.reducePow, Nat.reduceLeDiff, Int.reduceToNat, Int.reduceLE, Int.reduceLT, Int.reducePow, hl]
    have e16 : ((l.length + 1 + j : Nat) : Int).tmod 16 = (((l.length + 1 + j) % 16 : Nat) : Int) := by rw [Int.tmod_eq_emod_of_nonneg (by omega)]; omega
    rw [e16]
    refine ⟨by omega, fun h => ⟨by omega, by omega, .inr (by omega), .inr trivial, fun r1 c' hc' _ => ⟨(j + 1, r1), ?_, ?_, [0, 3], ?_⟩⟩, fun h => ⟨_, _, [0, 1], ⟨r, trivial, rfl, rfl⟩, ?_⟩⟩
    · rw [bne_iff_ne] at h; simp only; omega
    · rw [bne_iff_ne] at h; simp only; omega
    · rw [one_more0, padA_succ, hc', show l.length + 1 + j + 1 = (padA l (j + 1)).length by rw [padA_len]; omega]
      simp [-List.reduceReplicate, LES]
    · have := bne_eq_false_iff_eq.1 h
      obtain rfl : j = 15 - l.length % 16 := by omega
      rw [padA_done] at hl ⊢
      rw [← hl]
      simp [-List.reduceReplicate, LES]
  | none =>
    have h0 := (ho rfl).1
    simp only [CALL, ↓VC, VP, TT, Nat.reduceEqDiff, reduceCtorEq, Nat.reduceAdd, Nat.reduceSub, Nat.reduceLT, Nat.reduceMul, Nat.reducePow, Nat.reduceLeDiff, Int.reduceToNat, Int.reduceLE, Int.reduceLT, Int.reducePow, instL_room]
    refine ⟨.inl trivial, .inl trivial, .inr trivial, fun r c' hc' _ => ?_⟩
    rw [show V.c (.int .u8 1) :: List.replicate r V.j = bs [1] ++ List.replicate r V.j from rfl]
    refine kLoop_of (fun s : Nat × Nat => ([.s 0 0 l.length c, .j, .j, .s 1 0 (padA l s.1).length ((padA l s.1).length + s.2), .j, .j, .j, .j, .j, .j, .j, .j, .j, .j, .j, .j], [⟨false, bs l⟩, ⟨true, bs (padA l s.1) ++ List.replicate s.2 .j⟩])) (fun s => 15 - l.length % 16 - s.1) (fun s => s.1 ≤ 15 - l.length % 16) (0, r) (by simp) ⟨[0, 2], by simp [-List.reduceReplicate, LES, h0, padA, hc']⟩ ?_
    rintro ⟨j, r⟩ hj
    simp only at hj
    have hl := padA_len l j
    simp only [↓VC, VP, TT, Nat.reduceEqDiff, reduceCtorEq, Nat.reduceAdd, Nat.reduceSub, Nat.reduceLT, Nat.reduceMul, Nat.reducePow, Nat.reduceLeDiff, Int.reduceToNat, Int.reduceLE, Int.reduceLT, Int.reducePow, hl]
    have e16 : ((l.length + 1 + j : Nat) : Int).tmod 16 = (((l.length + 1 + j) % 16 : Nat) : Int) := by rw [Int.tmod_eq_emod_of_nonneg (by omega)]; omega
    rw [e16]
    refine ⟨by omega, fun h => ⟨by omega, by omega, .inr (by omega), .inr trivial, fun r1 c' hc' _ => ⟨(j + 1, r1), ?_, ?_, [0, 3], ?_⟩⟩, fun h => ⟨_, _, [0, 1], ⟨r, trivial, rfl, rfl⟩, ?_⟩⟩
    · rw [bne_iff_ne] at h; simp only; omega
    · rw [bne_iff_ne] at h; simp only; omega
    · rw [one_more0, padA_succ, hc', show l.length + 1 + j + 1 = (padA l (j + 1)).length by rw [padA_len]; omega]
      simp [-List.reduceReplicate, LES]
    · have := bne_eq_false_iff_eq.1 h
      obtain rfl : j = 15 - l.length % 16 := by omega
      rw [padA_done] at hl ⊢
      rw [← hl]
      simp [-List.reduceReplicate, LES]
theorem c_impl_isData (l : List UInt8) (c : Nat) : LC Tryz.prog 102 [.s 0 0 l.length c] [⟨false, bs l⟩] (fun v hp => v = .c (.bool (decide (l.length ≤ 2000))) ∧ hp = [⟨false, bs l⟩]) := by
  refine LC_of (X := XX (fun _ => .nil) (fun _ => []) [15, 71, 72, 73, 79, 80, 87, 90, 91, 93, 99, 119, 137, 176, 177, 203, 204, 212, 219] 1) envOK Tryz.func102 (by kernel_rfl) (by kernel_rfl) rfl (Nat.le_of_ble_eq_true (by kernel_rfl)) ?_
  simp only [kFun, Tryz.f102, List.length_nil, List.length_cons, Nat.sub_zero, Nat.reduceSub, Nat.reduceAdd, List.nil_append, List.cons_append, List.replicate_succ, List.replicate_zero]
  simp only [XX, ↓VC, VP, TT, Nat.reduceEqDiff, reduceCtorEq, Nat.reduceAdd, Nat.reduceSub, Nat.reduceLT, Nat.reduceMul, Nat.reducePow, Nat.reduceLeDiff, Int.reduceToNat, Int.reduceLE, Int.reduceLT, Int.reducePow]
  refine ⟨_, _, [0], ⟨rfl, rfl⟩, ?_⟩
  rw [show decide ((l.length : Int) ≤ 2000) = decide (l.length ≤ 2000) from by simp only [decide_eq_decide]; omega]
  simp [-List.reduceReplicate, LES]
/-- What comes back: bytes, or a fault's number. -/
def outV (o : Except Int (List UInt8)) (r : Nat) : V × List Blk := match o with
  | .ok out => (.t [.s 1 0 out.length (out.length + r), .c (.int .i64 0)], [⟨true, bs out ++ List.replicate r .j⟩])
  | .error e => (.t [.c (.slice none 0 0), .c (.int .i64 e)], [])
theorem outV_own (o : Except Int (List UInt8)) : ∀ r, ∀ b ∈ (outV o r).2, b.own = true ∨ b.cells = [] := by
  intro r b hb; cases o <;> simp [outV] at hb; subst hb; exact .inl rfl
def padR (l : List UInt8) : Except Int (List UInt8) := if l.length ≤ 2000 then .ok (padL l) else .error 2
theorem padR_len {l out : List UInt8} (hm : l.length ≤ 1048576) (h : padR l = .ok out) : out.length ≤ 4194304 := by
  unfold padR at h
  split at h
  · cases h; rw [padL_len]; omega
  · cases h
theorem c_spec_PadBlocks (l : List UInt8) (c : Nat) (hc : l.length ≤ c) : LC Tryz.prog 55 [.s 0 0 l.length c] [⟨false, bs l⟩] (Ret [⟨false, bs l⟩] (fun _ : Nat => True) (outV (padR l))) := by
  refine LC_of (X := XX (fun _ => .nil) (fun _ => []) [15, 71, 72, 73, 79, 80, 87, 90, 91, 93, 99, 119, 137, 176, 177, 203, 204, 212, 219] 1) envOK Tryz.func55 (by kernel_rfl) (by kernel_rfl) rfl (Nat.le_of_ble_eq_true (by kernel_rfl)) ?_
  simp only [kFun, Tryz.f55, List.length_nil, List.length_cons, Nat.sub_zero, Nat.reduceSub, Nat.reduceAdd, List.nil_append, List.cons_append, List.replicate_succ, List.replicate_zero]
  simp only [XX, ↓VC, VP, TT, Nat.reduceEqDiff, reduceCtorEq, Nat.reduceAdd, Nat.reduceSub, Nat.reduceLT, Nat.reduceMul, Nat.reducePow, Nat.reduceLeDiff, Int.reduceToNat, Int.reduceLE, Int.reduceLT, Int.reducePow]
  refine ⟨fun h => ⟨_, _, [0], ⟨0, trivial, rfl, rfl⟩, ?_⟩, fun h => ?_⟩
  · rw [show padR l = .error 2 by unfold padR; rw [if_neg (by omega)]]
    simp [-List.reduceReplicate, LES, outV]
  · refine kCall_Ret (c_spec_l07Pad l c hc (by omega)) (by rfl) [(0, 0)] (by simp [CALL]) (by simp [CALL, cellsAt]) (by simp [CALL]) (by simp [okL_bs]) (by simp) fun r _ => ?_
    simp only [CALL, ↓VC, VP, TT, Nat.reduceEqDiff, reduceCtorEq, Nat.reduceAdd, Nat.reduceSub, Nat.reduceLT, Nat.reduceMul, Nat.reducePow, Nat.reduceLeDiff, Int.reduceToNat, Int.reduceLE, Int.reduceLT, Int.reducePow, instL_room]
    refine ⟨_, _, [0, 1], ⟨r, trivial, rfl, rfl⟩, ?_⟩
    rw [show padR l = .ok (padL l) by unfold padR; rw [if_pos (by omega)]]
    simp [-List.reduceReplicate, LES, outV]
theorem c_impl_PadBlocks (l : List UInt8) (c : Nat) (hc : l.length ≤ c) : LC Tryz.prog 54 [.s 0 0 l.length c] [⟨false, bs l⟩] (Ret [⟨false, bs l⟩] (fun _ : Nat => True) (outV (padR l))) := by
  refine LC_of (X := XX (fun _ => .nil) (fun _ => []) [15, 71, 72, 73, 79, 80, 87, 90, 91, 93, 99, 119, 137, 176, 177, 203, 204, 212, 219] 1) envOK Tryz.func54 (by kernel_rfl) (by kernel_rfl) rfl (Nat.le_of_ble_eq_true (by kernel_rfl)) ?_
  simp only [kFun, Tryz.f54, List.length_nil, List.length_cons, Nat.sub_zero, Nat.reduceSub, Nat.reduceAdd, List.nil_append, List.cons_append, List.replicate_succ, List.replicate_zero]
  simp only [XX, ↓VC, VP, TT, Nat.reduceEqDiff, reduceCtorEq, Nat.reduceAdd, Nat.reduceSub, Nat.reduceLT, Nat.reduceMul, Nat.reducePow, Nat.reduceLeDiff, Int.reduceToNat, Int.reduceLE, Int.reduceLT, Int.reducePow]
  refine kCall_val (c_impl_isData l c) (by rfl) [(0, 0)] (by simp [CALL]) (by simp [CALL, cellsAt]) (by simp [CALL]) (by simp [okL_bs]) ?_
  simp only [CALL, ↓VC, VP, TT, Nat.reduceEqDiff, reduceCtorEq, Nat.reduceAdd, Nat.reduceSub, Nat.reduceLT, Nat.reduceMul, Nat.reducePow, Nat.reduceLeDiff, Int.reduceToNat, Int.reduceLE, Int.reduceLT, Int.reducePow]
  refine ⟨fun h => ⟨_, _, [0], ⟨0, trivial, rfl, rfl⟩, ?_⟩, fun h => ?_⟩
  · simp only [Bool.not_eq_true', decide_eq_false_iff_not] at h
    rw [show padR l = .error 2 by unfold padR; rw [if_neg (by omega)]]
    simp [-List.reduceReplicate, LES, outV]
  · simp only [Bool.not_eq_false', decide_eq_true_eq] at h
    refine kCall_Ret (c_impl_padded l c hc (by omega)) (by rfl) [(0, 0)] (by simp [CALL]) (by simp [CALL, cellsAt]) (by simp [CALL]) (by simp [okL_bs]) (by simp) fun r _ => ?_
    simp only [CALL, ↓VC, VP, TT, Nat.reduceEqDiff, reduceCtorEq, Nat.reduceAdd, Nat.reduceSub, Nat.reduceLT, Nat.reduceMul, Nat.reducePow, Nat.reduceLeDiff, Int.reduceToNat, Int.reduceLE, Int.reduceLT, Int.reducePow, instL_room]
    refine ⟨_, _, [0, 1], ⟨r, trivial, rfl, rfl⟩, ?_⟩
    rw [show padR l = .ok (padL l) by unfold padR; rw [if_pos (by omega)]]
    simp [-List.reduceReplicate, LES, outV]
end Go.Proofs.YtahnjhppkgndiaaGreat
/- Padding of messages, both ways: the same bytes. -/
set_option linter.unusedSimpArgs false
set_option linter.unusedVariables false
namespace Go.Proofs.YtahnjhppkgndiaaGreat
open Go Go.Vc
theorem one_more128 {A : List UInt8} {r' : Nat} : bs A ++ [V.c (.int .u8 128)] ++ List.replicate r' V.j = bs (A ++ [128]) ++ List.replicate r' V.j := one_moreB (x := 128)
def padMA (l : List UInt8) (j : Nat) : List UInt8 := l ++ 128 :: List.replicate j 0
theorem padMA_len (l : List UInt8) (j : Nat) : (padMA l j).length = l.length + 1 + j := by simp [padMA]; omega
theorem padMA_succ (l : List UInt8) (j : Nat) : padMA l j ++ [0] = padMA l (j + 1) := by
  simp [padMA, List.replicate_succ']
theorem padMA_zero (l : List UInt8) : l ++ [128] = padMA l 0 := rfl
def mz (l : List UInt8) : Nat := (23 - l.length % 16) % 16
theorem mz_spec (l : List UInt8) {j : Nat} (h : j ≤ mz l) (h8 : (l.length + 1 + j) % 16 ≠ 8) : j < mz l := by
  unfold mz at *; omega
theorem mz_done (l : List UInt8) {j : Nat} (h : j ≤ mz l) (h8 : (l.length + 1 + j) % 16 = 8) : j = mz l := by
  unfold mz at *; omega
/-- The first j bytes of a length, the greatest first. -/
def beA (n j : Nat) : List UInt8 := (List.range j).map fun t => UInt8.ofInt ((n : Int).fdiv (2 ^ (8 * (7 - t))))
theorem beA_len (n j : Nat) : (beA n j).length = j := by simp [beA]
theorem beA_succ (n j : Nat) : beA n j ++ [UInt8.ofInt ((n : Int).fdiv (2 ^ (8 * (7 - j))))] = beA n (j + 1) := by simp [beA, List.range_succ]
def padM (l : List UInt8) : List UInt8 := padMA l (mz l) ++ beA l.length 8
theorem padM_len (l : List UInt8) : (padM l).length = l.length + 1 + mz l + 8 := by simp [padM, padMA_len, beA_len]
theorem mz_lt (l : List UInt8) : mz l < 16 := by unfold mz; omega
theorem and255 {m : Int} (h : 0 ≤ m) (h' : m < 9223372036854775808) : bitI .and .i64 m 255 = m % 256 := by
  obtain ⟨n, rfl⟩ := Int.eq_ofNat_of_zero_le h
  show IntKind.i64.wrap (((BitVec.ofInt 64 (n : Int) &&& BitVec.ofInt 64 255).toNat : Nat) : Int) = _
  have e1 : (BitVec.ofInt 64 (n : Int) &&& BitVec.ofInt 64 255).toNat = n % 256 := by
    rw [BitVec.toNat_and, show (BitVec.ofInt 64 255).toNat = 2 ^ 8 - 1 from rfl, Nat.and_two_pow_sub_one_eq_mod]
    simp
  rw [e1, wrap_i64 (by omega) (by omega)]; omega
theorem byte_of (n k : Nat) (hn : n < 9223372036854775808) : IntKind.u8.wrap (bitI .and .i64 ((n : Int).fdiv (2 ^ k)) 255) = ((UInt8.ofInt ((n : Int).fdiv (2 ^ k))).toNat : Int) := by
  have e : (n : Int).fdiv (2 ^ k) = ((n / 2 ^ k : Nat) : Int) := by
    rw [Int.fdiv_eq_ediv_of_nonneg _ (Int.le_of_lt (Int.pow_pos (by omega)))]; norm_cast
  have h2 : n / 2 ^ k ≤ n := Nat.div_le_self _ _
  rw [e]
  generalize n / 2 ^ k = q at h2
  rw [and255 (by omega) (by omega), wrap_u8]
  rw [ofInt_eq (a := (q : Int) % 256) (b := (q : Int)) (by omega)]
set_option maxRecDepth 10000
theorem c_impl_bigEndian (n : Nat) (hn : n ≤ 4294967296) : LC Tryz.prog 158 [.c (.int .i64 (n : Nat)), .c (.int .i64 8)] [] (Ret [] (fun _ : Nat => True) fun r => (.s 0 0 8 (8 + r), [⟨true, bs (beA n 8) ++ List.replicate r .j⟩])) := by
  refine LC_of (X := XX (fun _ => .nil) (fun _ => []) [15, 71, 72, 73, 79, 80, 87, 90, 91, 93, 99, 119, 137, 176, 177, 203, 204, 212, 219] 0) envOK Tryz.func158 (by kernel_rfl) (by kernel_rfl) rfl (Nat.le_of_ble_eq_true (by kernel_rfl)) ?_
  simp only [kFun, Tryz.f158, List.length_nil, List.length_cons, Nat.sub_zero, Nat.reduceSub, Nat.reduceAdd, List.nil_append, List.cons_append, List.replicate_succ, List.replicate_zero]
  simp only [XX, ↓VC, VP, TT, Nat.reduceEqDiff, reduceCtorEq, Nat.reduceAdd, Nat.reduceSub, Nat.reduceLT, Nat.reduceMul, Nat.reducePow, Nat.reduceLeDiff, Int.reduceToNat, Int.reduceLE, Int.reduceLT, Int.reducePow]
  rw [wrap_i64 (by omega) (by omega)]
  refine kLoop_of (fun s : Nat × Nat => ([.c (.int .i64 (n : Nat)), .j, .j, .j, .j, .s 0 0 s.1 (s.1 + s.2), .c (.int .i64 (7 - (s.1 : Int))), .j, .j, .j, .j, .j, .j, .j, .j, .j, .j, .j, .j, .j, .j, .j, .j], [⟨true, bs (beA n s.1) ++ List.replicate s.2 .j⟩])) (fun s => 8 - s.1) (fun s => s.1 ≤ 8) (0, 0) (by simp) ⟨[0], by simp [-List.reduceReplicate, LES, beA, bs_nil]⟩ ?_
  rintro ⟨j, r⟩ hj
  simp only at hj
  have hl := beA_len n j
  simp only [↓VC, VP, TT, Nat.reduceEqDiff, reduceCtorEq, Nat.reduceAdd, Nat.reduceSub, Nat.reduceLT, Nat.reduceMul, Nat.reducePow, Nat.reduceLeDiff, Int.reduceToNat, Int.reduceLE, Int.reduceLT, Int.reducePow, hl]
  refine ⟨fun h => ?_, fun h => ⟨_, _, [0], ⟨r, trivial, rfl, rfl⟩, ?_⟩⟩
  · have e1 : IntKind.i64.wrap (8 * (7 - (j : Int))) = ((8 * (7 - j) : Nat) : Int) := by rw [wrap_i64 (by omega) (by omega)]; omega
    have e2 : IntKind.i64.wrap (7 - (j : Int) - 1) = 7 - ((j + 1 : Nat) : Int) := by rw [wrap_i64 (by omega) (by omega)]; omega
    rw [e1, e2, Int.toNat_natCast, Nat.min_eq_left (by omega), wrap_u8]
    refine ⟨by omega, by omega, by omega, .inr (by omega), .inr trivial, fun r1 c' hc' _ => ⟨(j + 1, r1), by simp only; omega, by simp only; omega, [2], ?_⟩⟩
    rw [one_moreB, beA_succ, hc']
    simp [-List.reduceReplicate, LES]
  · obtain rfl : j = 8 := by omega
    simp [-List.reduceReplicate, LES]
theorem c_spec_l08Pad (l : List UInt8) (c : Nat) (hc : l.length ≤ c) (hm : l.length ≤ 2097152) : LC Tryz.prog 111 [.s 0 0 l.length c] [⟨false, bs l⟩] (Ret [⟨false, bs l⟩] (fun _ : Nat => True) fun r => (.s 1 0 (padM l).length ((padM l).length + r), [⟨true, bs (padM l) ++ List.replicate r .j⟩])) := by
  refine LC_of (X := XX (fun _ => .nil) (fun _ => []) [15, 71, 72, 73, 79, 80, 87, 90, 91, 93, 99, 119, 137, 176, 177, 203, 204, 212, 219] 1) envOK Tryz.func111 (by kernel_rfl) (by kernel_rfl) rfl (Nat.le_of_ble_eq_true (by kernel_rfl)) ?_
  simp only [kFun, Tryz.f111, List.length_nil, List.length_cons, Nat.sub_zero, Nat.reduceSub, Nat.reduceAdd, List.nil_append, List.cons_append, List.replicate_succ, List.replicate_zero]
  simp only [XX, ↓VC, VP, TT, Nat.reduceEqDiff, reduceCtorEq, Nat.reduceAdd, Nat.reduceSub, Nat.reduceLT, Nat.reduceMul, Nat.reducePow, Nat.reduceLeDiff, Int.reduceToNat, Int.reduceLE, Int.reduceLT, Int.reducePow]
  have hmz := mz_lt l
  refine kCall_Ret (c_spec_l01Copy l c hc (by omega)) (by rfl) [(0, 0)] (by simp [CALL]) (by simp [CALL, cellsAt]) (by simp [CALL]) (by simp [okL_bs]) (by simp) fun r _ => ?_
  simp only [CALL, ↓VC, VP, TT, Nat.reduceEqDiff, reduceCtorEq, Nat.reduceAdd, Nat.reduceSub, Nat.reduceLT, Nat.reduceMul, Nat.reducePow, Nat.reduceLeDiff, Int.reduceToNat, Int.reduceLE, Int.reduceLT, Int.reducePow, instL_room]
  refine ⟨by omega, by omega, .inr (by omega), .inr trivial, fun r c' hc' _ => ?_⟩
  rw [one_more128]
  refine kLoop_of (fun s : Nat × Nat => ([.s 0 0 l.length c, .j, .j, .s 1 0 (padMA l s.1).length ((padMA l s.1).length + s.2), .j, .j, .j, .j, .j, .j, .j, .j, .j, .j, .j, .j, .j, .j, .j, .j, .j, .j, .j, .j, .j, .j, .j, .j, .j, .j, .j, .j], [⟨false, bs l⟩, ⟨true, bs (padMA l s.1) ++ List.replicate s.2 .j⟩])) (fun s => mz l - s.1) (fun s => s.1 ≤ mz l) (0, r) (by simp) ⟨[0, 3], by simp [-List.reduceReplicate, LES, padMA_zero, padMA_len, hc']⟩ ?_
  rintro ⟨j, r⟩ hj
  simp only at hj
  have hl := padMA_len l j
  simp only [↓VC, VP, TT, Nat.reduceEqDiff, reduceCtorEq, Nat.reduceAdd, Nat.reduceSub, Nat.reduceLT, Nat.reduceMul, Nat.reducePow, Nat.reduceLeDiff, Int.reduceToNat, Int.reduceLE, Int.reduceLT, Int.reducePow, hl]
  have e16 : ((l.length + 1 + j : Nat) : Int).tmod 16 = (((l.length + 1 + j) % 16 : Nat) : Int) := by rw [Int.tmod_eq_emod_of_nonneg (by omega)]; omega
  rw [e16]
  refine ⟨by omega, fun h => ⟨by omega, by omega, .inr (by omega), .inr trivial, fun r1 c' hc' _ => ⟨(j + 1, r1), ?_, ?_, [0, 3], ?_⟩⟩, fun h => ?_⟩
  · rw [bne_iff_ne] at h; have := mz_spec l hj (by omega); simp only; omega
  · rw [bne_iff_ne] at h; have := mz_spec l hj (by omega); simp only; omega
  · rw [one_more0, padMA_succ, hc', show l.length + 1 + j + 1 = (padMA l (j + 1)).length by rw [padMA_len]; omega]
    simp [-List.reduceReplicate, LES]
  · have hb := bne_eq_false_iff_eq.1 h
    obtain rfl : j = mz l := mz_done l hj (by omega)
    rw [← hl]
    refine kLoop_of (fun s : Nat × Nat => ([.s 0 0 l.length c, .j, .j, .s 1 0 (padMA l (mz l) ++ beA l.length s.1).length ((padMA l (mz l) ++ beA l.length s.1).length + s.2), .c (.int .i64 (7 - (s.1 : Int))), .j, .j, .j, .j, .j, .j, .j, .j, .j, .j, .j, .j, .j, .j, .j, .j, .j, .j, .j, .j, .j, .j, .j, .j, .j, .j, .j], [⟨false, bs l⟩, ⟨true, bs (padMA l (mz l) ++ beA l.length s.1) ++ List.replicate s.2 .j⟩])) (fun s => 8 - s.1) (fun s => s.1 ≤ 8) (0, r) (by simp) ⟨[0, 1], by simp [-List.reduceReplicate, LES, beA]⟩ ?_
    rintro ⟨j, r⟩ hj
    simp only at hj
    have hl2 : (padMA l (mz l) ++ beA l.length j).length = l.length + 1 + mz l + j := by rw [List.length_append, padMA_len, beA_len]
    simp only [↓VC, VP, TT, Nat.reduceEqDiff, reduceCtorEq, Nat.reduceAdd, Nat.reduceSub, Nat.reduceLT, Nat.reduceMul, Nat.reducePow, Nat.reduceLeDiff, Int.reduceToNat, Int.reduceLE, Int.reduceLT, Int.reducePow, hl2]
    refine ⟨fun h => ?_, fun h => ⟨_, _, [0, 1], ⟨r, trivial, rfl, rfl⟩, ?_⟩⟩
    · have e1 : IntKind.u64.wrap (IntKind.i64.wrap (8 * (7 - (j : Int)))) = ((8 * (7 - j) : Nat) : Int) := by rw [wrap_i64 (by omega) (by omega), wrap_u64 (by omega) (by omega)]; omega
      have e2 : IntKind.i64.wrap (7 - (j : Int) - 1) = 7 - ((j + 1 : Nat) : Int) := by rw [wrap_i64 (by omega) (by omega)]; omega
      rw [e1, e2, Int.toNat_natCast, Nat.min_eq_left (by omega), byte_of _ _ (by omega)]
      refine ⟨by omega, by omega, by omega, .inr (by omega), .inr trivial, fun r1 c' hc' _ => ⟨(j + 1, r1), by simp only; omega, by simp only; omega, [0, 3], ?_⟩⟩
      rw [one_moreB, List.append_assoc, beA_succ, hc']
      simp [-List.reduceReplicate, LES, padMA_len, beA_len, Nat.add_assoc]
    · obtain rfl : j = 8 := by omega
      rw [show padMA l (mz l) ++ beA l.length 8 = padM l from rfl] at hl2 ⊢
      rw [← hl2]
      simp [-List.reduceReplicate, LES]
theorem c_impl_padMessage (l : List UInt8) (c : Nat) (hc : l.length ≤ c) (hm : l.length ≤ 2097152) : LC Tryz.prog 103 [.s 0 0 l.length c] [⟨false, bs l⟩] (Ret [⟨false, bs l⟩] (fun _ : Nat => True) fun r => (.s 1 0 (padM l).length ((padM l).length + r), [⟨true, bs (padM l) ++ List.replicate r .j⟩])) := by
  refine LC_of (X := XX (fun _ => .nil) (fun _ => []) [15, 71, 72, 73, 79, 80, 87, 90, 91, 93, 99, 119, 137, 176, 177, 203, 204, 212, 219] 1) envOK Tryz.func103 (by kernel_rfl) (by kernel_rfl) rfl (Nat.le_of_ble_eq_true (by kernel_rfl)) ?_
  simp only [kFun, Tryz.f103, List.length_nil, List.length_cons, Nat.sub_zero, Nat.reduceSub, Nat.reduceAdd, List.nil_append, List.cons_append, List.replicate_succ, List.replicate_zero]
  simp only [XX, ↓VC, VP, TT, Nat.reduceEqDiff, reduceCtorEq, Nat.reduceAdd, Nat.reduceSub, Nat.reduceLT, Nat.reduceMul, Nat.reducePow, Nat.reduceLeDiff, Int.reduceToNat, Int.reduceLE, Int.reduceLT, Int.reducePow]
  have hmz := mz_lt l
  refine kCall_Ret (c_slices_Clone l c hc (by omega)) (by rfl) [(0, 0)] (by simp [CALL]) (by simp [CALL, cellsAt]) (by simp [CALL]) (by simp [okL_bs]) (by rintro (_ | r) <;> simp) fun o ho => ?_
  cases o with
  | some r =>
    simp only [CALL, ↓VC, VP, TT, Nat.reduceEqDiff, reduceCtorEq, Nat.reduceAdd, Nat.reduceSub, Nat.reduceLT, Nat.reduceMul, Nat.reducePow, Nat.reduceLeDiff, Int.reduceToNat, Int.reduceLE, Int.reduceLT, Int.reducePow, instL_room]
    refine ⟨by omega, by omega, .inr (by omega), .inr trivial, fun r c' hc' _ => ?_⟩
    rw [one_more128]
    refine kLoop_of (fun s : Nat × Nat => ([.s 0 0 l.length c, .j, .j, .s 1 0 (padMA l s.1).length ((padMA l s.1).length + s.2), .j, .j, .j, .j, .j, .j, .j, .j, .j, .j, .j, .j, .j, .j, .j, .j], [⟨false, bs l⟩, ⟨true, bs (padMA l s.1) ++ List.replicate s.2 .j⟩])) (fun s => mz l - s.1) (fun s => s.1 ≤ mz l) (0, r) (by simp) ⟨[0, 3], by simp [-List.reduceReplicate, LES, padMA_zero, padMA_len, hc']⟩ ?_
    rintro ⟨j, r⟩ hj
    simp only at hj
    have hl := padMA_len l j
    simp only [↓VC, VP, TT, Nat.reduceEqDiff, reduceCtorEq, Nat.reduceAdd, Nat.reduceSub, Nat.reduceLT, Nat.reduceMul, Nat.reducePow, Nat.reduceLeDiff, Int.reduceToNat, Int.reduceLE, Int.reduceLT, Int.reducePow, hl]
    have e16 : ((l.length + 1 + j : Nat) : Int).tmod 16 = (((l.length + 1 + j) % 16 : Nat) : Int) := by rw [Int.tmod_eq_emod_of_nonneg (by omega)]; omega
    rw [e16]
    refine ⟨by omega, fun h => ⟨by omega, by omega, .inr (by omega), .inr trivial, fun r1 c' hc' _ => ⟨(j + 1, r1), ?_, ?_, [0, 3], ?_⟩⟩, fun h => ?_⟩
    · rw [bne_iff_ne] at h; have := mz_spec l hj (by omega); simp only; omega
    · rw [bne_iff_ne] at h; have := mz_spec l hj (by omega); simp only; omega
    · rw [one_more0, padMA_succ, hc', show l.length + 1 + j + 1 = (padMA l (j + 1)).length by rw [padMA_len]; omega]
      simp [-List.reduceReplicate, LES]
    · have hb := bne_eq_false_iff_eq.1 h
      obtain rfl : j = mz l := mz_done l hj (by omega)
      rw [← hl]
      refine kCall_Ret (c_impl_bigEndian l.length (by omega)) (by rfl) [] (by simp [CALL]) (by simp [CALL]) (by simp [CALL]) (by simp) (by simp) fun r2 _ => ?_
      simp only [CALL, ↓VC, VP, TT, Nat.reduceEqDiff, reduceCtorEq, Nat.reduceAdd, Nat.reduceSub, Nat.reduceLT, Nat.reduceMul, Nat.reducePow, Nat.reduceLeDiff, Int.reduceToNat, Int.reduceLE, Int.reduceLT, Int.reducePow, instL_room, beA_len]
      have hpl : (padM l).length = (padMA l (mz l)).length + 8 := by rw [padM_len, padMA_len]
      refine ⟨by omega, by omega, .inr (by omega), .inr (by omega), fun r c' hc' _ => ⟨_, _, [0, 3], ⟨r, trivial, rfl, rfl⟩, ?_⟩⟩
      rw [bs_append, show padMA l (mz l) ++ beA l.length 8 = padM l from rfl, hc', ← hpl]
      simp [-List.reduceReplicate, LES]
  | none =>
    have h0 := (ho rfl).1
    simp only [CALL, ↓VC, VP, TT, Nat.reduceEqDiff, reduceCtorEq, Nat.reduceAdd, Nat.reduceSub, Nat.reduceLT, Nat.reduceMul, Nat.reducePow, Nat.reduceLeDiff, Int.reduceToNat, Int.reduceLE, Int.reduceLT, Int.reducePow, instL_room]
    refine ⟨.inl trivial, .inl trivial, .inr trivial, fun r c' hc' _ => ?_⟩
    rw [show V.c (.int .u8 128) :: List.replicate r V.j = bs [128] ++ List.replicate r V.j from rfl]
    refine kLoop_of (fun s : Nat × Nat => ([.s 0 0 l.length c, .j, .j, .s 1 0 (padMA l s.1).length ((padMA l s.1).length + s.2), .j, .j, .j, .j, .j, .j, .j, .j, .j, .j, .j, .j, .j, .j, .j, .j], [⟨false, bs l⟩, ⟨true, bs (padMA l s.1) ++ List.replicate s.2 .j⟩])) (fun s => mz l - s.1) (fun s => s.1 ≤ mz l) (0, r) (by simp) ⟨[0, 2], by simp [-List.reduceReplicate, LES, h0, padMA, hc']⟩ ?_
    rintro ⟨j, r⟩ hj
    simp only at hj
    have hl := padMA_len l j
    simp only [↓VC, VP, TT, Nat.reduceEqDiff, reduceCtorEq, Nat.reduceAdd, Nat.reduceSub, Nat.reduceLT, Nat.reduceMul, Nat.reducePow, Nat.reduceLeDiff, Int.reduceToNat, Int.reduceLE, Int.reduceLT, Int.reducePow, hl]
    have e16 : ((l.length + 1 + j : Nat) : Int).tmod 16 = (((l.length + 1 + j) % 16 : Nat) : Int) := by rw [Int.tmod_eq_emod_of_nonneg (by omega)]; omega
    rw [e16]
    refine ⟨by omega, fun h => ⟨by omega, by omega, .inr (by omega), .inr trivial, fun r1 c' hc' _ => ⟨(j + 1, r1), ?_, ?_, [0, 3], ?_⟩⟩, fun h => ?_⟩
    · rw [bne_iff_ne] at h; have := mz_spec l hj (by omega); simp only; omega
    · rw [bne_iff_ne] at h; have := mz_spec l hj (by omega); simp only; omega
    · rw [one_more0, padMA_succ, hc', show l.length + 1 + j + 1 = (padMA l (j + 1)).length by rw [padMA_len]; omega]
      simp [-List.reduceReplicate, LES]
    · have hb := bne_eq_false_iff_eq.1 h
      obtain rfl : j = mz l := mz_done l hj (by omega)
      rw [← hl]
      refine kCall_Ret (c_impl_bigEndian l.length (by omega)) (by rfl) [] (by simp [CALL]) (by simp [CALL]) (by simp [CALL]) (by simp) (by simp) fun r2 _ => ?_
      simp only [CALL, ↓VC, VP, TT, Nat.reduceEqDiff, reduceCtorEq, Nat.reduceAdd, Nat.reduceSub, Nat.reduceLT, Nat.reduceMul, Nat.reducePow, Nat.reduceLeDiff, Int.reduceToNat, Int.reduceLE, Int.reduceLT, Int.reducePow, instL_room, beA_len]
      have hpl : (padM l).length = (padMA l (mz l)).length + 8 := by rw [padM_len, padMA_len]
      refine ⟨by omega, by omega, .inr (by omega), .inr (by omega), fun r c' hc' _ => ⟨_, _, [0, 3], ⟨r, trivial, rfl, rfl⟩, ?_⟩⟩
      rw [bs_append, show padMA l (mz l) ++ beA l.length 8 = padM l from rfl, hc', ← hpl]
      simp [-List.reduceReplicate, LES]
def padMR (l : List UInt8) : Except Int (List UInt8) := if l.length ≤ 2000 then .ok (padM l) else .error 2
theorem padMR_len {l out : List UInt8} (hm : l.length ≤ 1048576) (h : padMR l = .ok out) : out.length ≤ 4194304 := by
  unfold padMR at h
  split at h
  · cases h; rw [padM_len]; have := mz_lt l; omega
  · cases h
theorem c_impl_PadMessage (l : List UInt8) (c : Nat) (hc : l.length ≤ c) : LC Tryz.prog 34 [.s 0 0 l.length c] [⟨false, bs l⟩] (Ret [⟨false, bs l⟩] (fun _ : Nat => True) (outV (padMR l))) := by
  refine LC_of (X := XX (fun _ => .nil) (fun _ => []) [15, 71, 72, 73, 79, 80, 87, 90, 91, 93, 99, 119, 137, 176, 177, 203, 204, 212, 219] 1) envOK Tryz.func34 (by kernel_rfl) (by kernel_rfl) rfl (Nat.le_of_ble_eq_true (by kernel_rfl)) ?_
  simp only [kFun, Tryz.f34, List.length_nil, List.length_cons, Nat.sub_zero, Nat.reduceSub, Nat.reduceAdd, List.nil_append, List.cons_append, List.replicate_succ, List.replicate_zero]
  simp only [XX, ↓VC, VP, TT, Nat.reduceEqDiff, reduceCtorEq, Nat.reduceAdd, Nat.reduceSub, Nat.reduceLT, Nat.reduceMul, Nat.reducePow, Nat.reduceLeDiff, Int.reduceToNat, Int.reduceLE, Int.reduceLT, Int.reducePow]
  refine kCall_val (c_impl_isData l c) (by rfl) [(0, 0)] (by simp [CALL]) (by simp [CALL, cellsAt]) (by simp [CALL]) (by simp [okL_bs]) ?_
  simp only [CALL, ↓VC, VP, TT, Nat.reduceEqDiff, reduceCtorEq, Nat.reduceAdd, Nat.reduceSub, Nat.reduceLT, Nat.reduceMul, Nat.reducePow, Nat.reduceLeDiff, Int.reduceToNat, Int.reduceLE, Int.reduceLT, Int.reducePow]
  refine ⟨fun h => ⟨_, _, [0], ⟨0, trivial, rfl, rfl⟩, ?_⟩, fun h => ?_⟩
  · simp only [Bool.not_eq_true', decide_eq_false_iff_not] at h
    rw [show padMR l = .error 2 by unfold padMR; rw [if_neg (by omega)]]
    simp [-List.reduceReplicate, LES, outV]
  · simp only [Bool.not_eq_false', decide_eq_true_eq] at h
    refine kCall_Ret (c_impl_padMessage l c hc (by omega)) (by rfl) [(0, 0)] (by simp [CALL]) (by simp [CALL, cellsAt]) (by simp [CALL]) (by simp [okL_bs]) (by simp) fun r _ => ?_
    simp only [CALL, ↓VC, VP, TT, Nat.reduceEqDiff, reduceCtorEq, Nat.reduceAdd, Nat.reduceSub, Nat.reduceLT, Nat.reduceMul, Nat.reducePow, Nat.reduceLeDiff, Int.reduceToNat, Int.reduceLE, Int.reduceLT, Int.reducePow, instL_room]
    refine ⟨_, _, [0, 1], ⟨r, trivial, rfl, rfl⟩, ?_⟩
    rw [show padMR l = .ok (padM l) by unfold padMR; rw [if_pos (by omega)]]
    simp [-List.reduceReplicate, LES, outV]
end Go.Proofs.YtahnjhppkgndiaaGreat
/- Bytes joined: slices.Concat of one, two or three parts. -/
set_option linter.unusedSimpArgs false
set_option linter.unusedVariables false
namespace Go.Proofs.YtahnjhppkgndiaaGreat
open Go Go.Vc
set_option maxRecDepth 10000
set_option maxHeartbeats 4000000
theorem zeros_flat {n : Nat} : (List.replicate n [V.c (.int .u8 0)]).flatten = bs (List.replicate n 0) := flat_zeros
theorem c_Grow (n : Nat) (hn : n ≤ 8388608) : LC Tryz.prog 182 [.c (.slice none 0 0), .c (.int .i64 (n))] []
    (Ret [] (fun o : Option Nat => o = none → n = 0) fun o => match o with | some r => (.s 0 0 0 (n + r), [⟨true, bs (List.replicate n 0) ++ List.replicate r .j⟩]) | none => (.c (.slice none 0 0), [])) := by
  refine LC_of (X := XX (fun _ => .nil) (fun _ => []) [15, 71, 72, 73, 79, 80, 87, 90, 91, 93, 99, 119, 137, 176, 177, 203, 204, 212, 219] 0) envOK Tryz.func182 (by kernel_rfl) (by kernel_rfl) rfl (Nat.le_of_ble_eq_true (by kernel_rfl)) ?_
  simp only [kFun, Tryz.f182, List.length_nil, List.length_cons, Nat.sub_zero, Nat.reduceSub, Nat.reduceAdd, List.nil_append, List.cons_append, List.replicate_succ, List.replicate_zero]
  simp only [XX, ↓VC, VP, TT, Nat.reduceEqDiff, reduceCtorEq, Nat.reduceAdd, Nat.reduceSub, Nat.reduceLT, Nat.reduceMul, Nat.reducePow, Nat.reduceLeDiff, Int.reduceToNat, Int.reduceLE, Int.reduceLT, Int.reducePow]
  have w : IntKind.i64.wrap ((n : Int) - IntKind.i64.wrap (((0 : Nat) : Int) - ((0 : Nat) : Int))) = (n : Int) := by
    rw [wrap_i64 (n := ((0 : Nat) : Int) - ((0 : Nat) : Int)) (by omega) (by omega), wrap_i64 (by omega) (by omega)]; omega
  rw [w]
  refine ⟨fun h => by omega, fun _ => ⟨fun h => ⟨by omega, by omega, by omega, by omega, fun r c' hc hc' => ?_⟩, fun h => ⟨_, _, [], ⟨none, fun _ => by omega, rfl, rfl⟩, by simp [-List.reduceReplicate, LES]⟩⟩⟩
  rw [Int.toNat_natCast] at hc hc' ⊢
  refine ⟨by omega, _, _, [0], ⟨some r, by simp, rfl, rfl⟩, ?_⟩
  rw [flat_zeros, show c' - 0 = n + r by omega]
  simp [-List.reduceReplicate, LES]
def tot2 (l1 l2 : List UInt8) : Nat → Nat
  | 0 => 0
  | 1 => 0 + l1.length
  | _ => 0 + l1.length + l2.length
def cat2 (l1 l2 : List UInt8) : Nat → List UInt8
  | 0 => []
  | 1 => [] ++ l1
  | _ => [] ++ l1 ++ l2
def SC2 (l1 l2 : List UInt8) (c1 c2 : Nat) (n : Nat) (s : Nat × Nat × Nat) : List V × List Blk := match s.1 with
  | 0 => ([.j, .j, .j, .j, .j, .j, .c (.slice none 0 0), .j, .j, .j, .j, .j, .j, .j, .j, .j, .j, .j, .j, .j, .j, .j, .j, .j, .j, .s 0 0 2 2, .c (.int .i64 (2)), .c (.int .i64 (s.2.1)), .j, .j, .j, .j, .j, .j, .j, .j], [⟨false, [.s 1 0 l1.length c1, .s 2 0 l2.length c2]⟩, ⟨false, bs l1⟩, ⟨false, bs l2⟩])
  | 1 => ([.j, .j, .j, .j, .j, .j, .s 3 0 0 (n + s.2.2), .j, .j, .j, .j, .j, .j, .j, .j, .j, .j, .j, .j, .j, .j, .j, .j, .j, .j, .s 0 0 2 2, .c (.int .i64 (2)), .c (.int .i64 (s.2.1)), .j, .j, .j, .j, .j, .j, .j, .j], [⟨false, [.s 1 0 l1.length c1, .s 2 0 l2.length c2]⟩, ⟨false, bs l1⟩, ⟨false, bs l2⟩, ⟨true, bs (List.replicate n 0) ++ List.replicate s.2.2 .j⟩])
  | _ => ([.j, .j, .j, .j, .j, .j, .s 3 0 (cat2 l1 l2 s.2.1).length ((cat2 l1 l2 s.2.1).length + s.2.2), .j, .j, .j, .j, .j, .j, .j, .j, .j, .j, .j, .j, .j, .j, .j, .j, .j, .j, .s 0 0 2 2, .c (.int .i64 (2)), .c (.int .i64 (s.2.1)), .j, .j, .j, .j, .j, .j, .j, .j], [⟨false, [.s 1 0 l1.length c1, .s 2 0 l2.length c2]⟩, ⟨false, bs l1⟩, ⟨false, bs l2⟩, ⟨true, bs (cat2 l1 l2 s.2.1) ++ List.replicate s.2.2 .j⟩])
theorem c_Concat2 (l1 l2 : List UInt8) (c1 c2 : Nat) (hc1 : l1.length ≤ c1) (hc2 : l2.length ≤ c2) (hm : l1.length + l2.length ≤ 8388608) : LC Tryz.prog 145 [.s 0 0 2 2] [⟨false, [.s 1 0 l1.length c1, .s 2 0 l2.length c2]⟩, ⟨false, bs l1⟩, ⟨false, bs l2⟩]
    (Ret [⟨false, [.s 1 0 l1.length c1, .s 2 0 l2.length c2]⟩, ⟨false, bs l1⟩, ⟨false, bs l2⟩] (fun _ : Nat => True) fun r => (.s 3 0 (l1 ++ l2).length ((l1 ++ l2).length + r), [⟨true, bs (l1 ++ l2) ++ List.replicate r .j⟩])) := by
  refine LC_of (X := XX (fun _ => .nil) (fun _ => []) [15, 71, 72, 73, 79, 80, 87, 90, 91, 93, 99, 119, 137, 176, 177, 203, 204, 212, 219] 3) envOK Tryz.func145 (by kernel_rfl) (by kernel_rfl) rfl (Nat.le_of_ble_eq_true (by kernel_rfl)) ?_
  simp only [kFun, Tryz.f145, List.length_nil, List.length_cons, Nat.sub_zero, Nat.reduceSub, Nat.reduceAdd, List.nil_append, List.cons_append, List.replicate_succ, List.replicate_zero]
  simp only [XX, ↓VC, VP, TT, Nat.reduceEqDiff, reduceCtorEq, Nat.reduceAdd, Nat.reduceSub, Nat.reduceLT, Nat.reduceMul, Nat.reducePow, Nat.reduceLeDiff, Int.reduceToNat, Int.reduceLE, Int.reduceLT, Int.reducePow]
  refine kLoop_of (fun i : Nat => ([.s 0 0 2 2, .j, .j, .c (.int .i64 ((tot2 l1 l2 i : Nat))), .j, .j, .j, .j, .j, .s 0 0 2 2, .c (.int .i64 (2)), .c (.int .i64 (i)), .j, .j, .j, .j, .j, .j, .j, .j, .j, .j, .j, .j, .j, .j, .j, .j, .j, .j, .j, .j, .j, .j, .j, .j], [⟨false, [.s 1 0 l1.length c1, .s 2 0 l2.length c2]⟩, ⟨false, bs l1⟩, ⟨false, bs l2⟩])) (fun i => 2 - i) (fun i => i ≤ 2) 0 (by omega) ⟨[0, 1, 2], by simp [-List.reduceReplicate, LES, tot2]⟩ ?_
  intro i hi
  rcases (by omega : i = 0 ∨ i = 1 ∨ i = 2) with rfl | rfl | rfl
  · have w : IntKind.i64.wrap (((tot2 l1 l2 0 : Nat) : Int) + (l1.length : Int)) = ((tot2 l1 l2 1 : Nat) : Int) := by
      rw [wrap_i64 (by simp only [tot2]; omega) (by simp only [tot2]; omega)]; simp only [tot2]; omega
    simp only [↓VC, VP, TT, Nat.reduceEqDiff, reduceCtorEq, Nat.reduceAdd, Nat.reduceSub, Nat.reduceLT, Nat.reduceMul, Nat.reducePow, Nat.reduceLeDiff, Int.reduceToNat, Int.reduceLE, Int.reduceLT, Int.reducePow, (eq_true (by decide) : (((0 : Nat) : Int) < 2) = True), (eq_true (by decide) : (((0 : Nat) : Int) < ((2 : Nat) : Int)) = True), decide_true, w]
    repeat (refine ⟨by first | omega | (simp; done) | decide, ?_⟩)
    refine fun _ => ⟨1, by omega, by omega, [0, 1, 2], ?_⟩
    rw [wrap_i64 (by omega) (by omega)]
    simp [-List.reduceReplicate, LES]
  · have w : IntKind.i64.wrap (((tot2 l1 l2 1 : Nat) : Int) + (l2.length : Int)) = ((tot2 l1 l2 2 : Nat) : Int) := by
      rw [wrap_i64 (by simp only [tot2]; omega) (by simp only [tot2]; omega)]; simp only [tot2]; omega
    simp only [↓VC, VP, TT, Nat.reduceEqDiff, reduceCtorEq, Nat.reduceAdd, Nat.reduceSub, Nat.reduceLT, Nat.reduceMul, Nat.reducePow, Nat.reduceLeDiff, Int.reduceToNat, Int.reduceLE, Int.reduceLT, Int.reducePow, (eq_true (by decide) : (((1 : Nat) : Int) < 2) = True), (eq_true (by decide) : (((1 : Nat) : Int) < ((2 : Nat) : Int)) = True), decide_true, w]
    repeat (refine ⟨by first | omega | (simp; done) | decide, ?_⟩)
    refine fun _ => ⟨2, by omega, by omega, [0, 1, 2], ?_⟩
    rw [wrap_i64 (by omega) (by omega)]
    simp [-List.reduceReplicate, LES]
  · simp only [↓VC, VP, TT, Nat.reduceEqDiff, reduceCtorEq, Nat.reduceAdd, Nat.reduceSub, Nat.reduceLT, Nat.reduceMul, Nat.reducePow, Nat.reduceLeDiff, Int.reduceToNat, Int.reduceLE, Int.reduceLT, Int.reducePow, (eq_false (by decide) : (((2 : Nat) : Int) < 2) = False), decide_false]
    refine kCall_Ret (c_Grow (tot2 l1 l2 2) (by simp only [tot2]; omega)) (by rfl) [] (by simp [CALL]) (by simp [CALL]) (by simp [CALL]) (by simp) (by rintro (_ | r) <;> simp) fun o ho => ?_
    cases o with
    | some r0 =>
      simp only [CALL, ↓VC, VP, TT, Nat.reduceEqDiff, reduceCtorEq, Nat.reduceAdd, Nat.reduceSub, Nat.reduceLT, Nat.reduceMul, Nat.reducePow, Nat.reduceLeDiff, Int.reduceToNat, Int.reduceLE, Int.reduceLT, Int.reducePow, instL_room]
      refine kLoop_of (SC2 l1 l2 c1 c2 (tot2 l1 l2 2)) (fun s => 2 - s.2.1) (fun s => s.1 ≤ 2 ∧ (s.1 < 2 → s.2.1 = 0) ∧ s.2.1 ≤ 2 ∧ (s.1 = 2 → 1 ≤ s.2.1)) (1, 0, r0) ⟨by simp, by simp, by simp, by simp⟩ ⟨[0, 1, 2, 3], by simp [-List.reduceReplicate, LES, SC2]⟩ ?_
      rintro ⟨v, i, r⟩ ⟨hv, h0, hi, h1⟩
      simp only at hv h0 hi h1
      rcases (by omega : v = 0 ∨ v = 1 ∨ v = 2) with rfl | rfl | rfl
      · obtain rfl := h0 (by omega)
        · simp only [SC2, ↓VC, VP, TT, Nat.reduceEqDiff, reduceCtorEq, Nat.reduceAdd, Nat.reduceSub, Nat.reduceLT, Nat.reduceMul, Nat.reducePow, Nat.reduceLeDiff, Int.reduceToNat, Int.reduceLE, Int.reduceLT, Int.reducePow, (eq_true (by decide) : (((0 : Nat) : Int) < 2) = True), (eq_true (by decide) : (((0 : Nat) : Int) < ((2 : Nat) : Int)) = True), decide_true]
          repeat (refine ⟨by first | omega | (simp; done) | decide, ?_⟩)
          refine fun r' c' hc hc' => ⟨(2, 1, r'), ⟨by simp, by simp, by simp, by simp⟩, by simp, [0, 1, 2, 3], ?_⟩
          subst hc
          try rw [take_room rfl]
          try rw [bs_append]
          rw [wrap_i64 (by omega) (by omega)]
          simp [-List.reduceReplicate, LES, SC2, cat2]
      · obtain rfl := h0 (by omega)
        · simp only [SC2, ↓VC, VP, TT, Nat.reduceEqDiff, reduceCtorEq, Nat.reduceAdd, Nat.reduceSub, Nat.reduceLT, Nat.reduceMul, Nat.reducePow, Nat.reduceLeDiff, Int.reduceToNat, Int.reduceLE, Int.reduceLT, Int.reducePow, (eq_true (by decide) : (((0 : Nat) : Int) < 2) = True), (eq_true (by decide) : (((0 : Nat) : Int) < ((2 : Nat) : Int)) = True), decide_true]
          repeat (refine ⟨by first | omega | (simp; done) | decide, ?_⟩)
          refine fun r' c' hc hc' => ⟨(2, 1, r'), ⟨by simp, by simp, by simp, by simp⟩, by simp, [0, 1, 2, 4], ?_⟩
          subst hc
          try rw [take_room rfl]
          try rw [bs_append]
          rw [wrap_i64 (by omega) (by omega)]
          simp [-List.reduceReplicate, LES, SC2, cat2]
      · have h1 := h1 rfl
        rcases (by omega : i = 1 ∨ i = 2) with rfl | rfl
        · simp only [SC2, ↓VC, VP, TT, Nat.reduceEqDiff, reduceCtorEq, Nat.reduceAdd, Nat.reduceSub, Nat.reduceLT, Nat.reduceMul, Nat.reducePow, Nat.reduceLeDiff, Int.reduceToNat, Int.reduceLE, Int.reduceLT, Int.reducePow, cat2, List.length_append, List.nil_append, (eq_true (by decide) : (((1 : Nat) : Int) < 2) = True), (eq_true (by decide) : (((1 : Nat) : Int) < ((2 : Nat) : Int)) = True), decide_true]
          repeat (refine ⟨by first | omega | (simp; done) | decide, ?_⟩)
          refine fun r' c' hc hc' => ⟨(2, 2, r'), ⟨by simp, by simp, by simp, by simp⟩, by simp, [0, 1, 2, 4], ?_⟩
          subst hc
          try rw [take_room rfl]
          try rw [bs_append]
          rw [wrap_i64 (by omega) (by omega)]
          simp [-List.reduceReplicate, LES, SC2, cat2]
        · simp only [SC2, ↓VC, VP, TT, Nat.reduceEqDiff, reduceCtorEq, Nat.reduceAdd, Nat.reduceSub, Nat.reduceLT, Nat.reduceMul, Nat.reducePow, Nat.reduceLeDiff, Int.reduceToNat, Int.reduceLE, Int.reduceLT, Int.reducePow, (eq_false (by decide) : (((2 : Nat) : Int) < 2) = False), decide_false]
          refine ⟨_, _, [0, 1, 2, 3], ⟨r, trivial, rfl, rfl⟩, ?_⟩
          simp [-List.reduceReplicate, LES, cat2]
    | none =>
      simp only [CALL, ↓VC, VP, TT, Nat.reduceEqDiff, reduceCtorEq, Nat.reduceAdd, Nat.reduceSub, Nat.reduceLT, Nat.reduceMul, Nat.reducePow, Nat.reduceLeDiff, Int.reduceToNat, Int.reduceLE, Int.reduceLT, Int.reducePow, instL_room]
      refine kLoop_of (SC2 l1 l2 c1 c2 (tot2 l1 l2 2)) (fun s => 2 - s.2.1) (fun s => s.1 ≤ 2 ∧ (s.1 < 2 → s.2.1 = 0) ∧ s.2.1 ≤ 2 ∧ (s.1 = 2 → 1 ≤ s.2.1)) (0, 0, 0) ⟨by simp, by simp, by simp, by simp⟩ ⟨[0, 1, 2], by simp [-List.reduceReplicate, LES, SC2]⟩ ?_
      rintro ⟨v, i, r⟩ ⟨hv, h0, hi, h1⟩
      simp only at hv h0 hi h1
      rcases (by omega : v = 0 ∨ v = 1 ∨ v = 2) with rfl | rfl | rfl
      · obtain rfl := h0 (by omega)
        · simp only [SC2, ↓VC, VP, TT, Nat.reduceEqDiff, reduceCtorEq, Nat.reduceAdd, Nat.reduceSub, Nat.reduceLT, Nat.reduceMul, Nat.reducePow, Nat.reduceLeDiff, Int.reduceToNat, Int.reduceLE, Int.reduceLT, Int.reducePow, (eq_true (by decide) : (((0 : Nat) : Int) < 2) = True), (eq_true (by decide) : (((0 : Nat) : Int) < ((2 : Nat) : Int)) = True), decide_true]
          repeat (refine ⟨by first | omega | (simp; done) | decide, ?_⟩)
          refine fun r' c' hc hc' => ⟨(2, 1, r'), ⟨by simp, by simp, by simp, by simp⟩, by simp, [0, 1, 2, 3], ?_⟩
          subst hc
          try rw [take_room rfl]
          try rw [bs_append]
          rw [wrap_i64 (by omega) (by omega)]
          simp [-List.reduceReplicate, LES, SC2, cat2]
      · obtain rfl := h0 (by omega)
        · simp only [SC2, ↓VC, VP, TT, Nat.reduceEqDiff, reduceCtorEq, Nat.reduceAdd, Nat.reduceSub, Nat.reduceLT, Nat.reduceMul, Nat.reducePow, Nat.reduceLeDiff, Int.reduceToNat, Int.reduceLE, Int.reduceLT, Int.reducePow, (eq_true (by decide) : (((0 : Nat) : Int) < 2) = True), (eq_true (by decide) : (((0 : Nat) : Int) < ((2 : Nat) : Int)) = True), decide_true]
          repeat (refine ⟨by first | omega | (simp; done) | decide, ?_⟩)
          refine fun r' c' hc hc' => ⟨(2, 1, r'), ⟨by simp, by simp, by simp, by simp⟩, by simp, [0, 1, 2, 4], ?_⟩
          subst hc
          try rw [take_room rfl]
          try rw [bs_append]
          rw [wrap_i64 (by omega) (by omega)]
          simp [-List.reduceReplicate, LES, SC2, cat2]
      · have h1 := h1 rfl
        rcases (by omega : i = 1 ∨ i = 2) with rfl | rfl
        · simp only [SC2, ↓VC, VP, TT, Nat.reduceEqDiff, reduceCtorEq, Nat.reduceAdd, Nat.reduceSub, Nat.reduceLT, Nat.reduceMul, Nat.reducePow, Nat.reduceLeDiff, Int.reduceToNat, Int.reduceLE, Int.reduceLT, Int.reducePow, cat2, List.length_append, List.nil_append, (eq_true (by decide) : (((1 : Nat) : Int) < 2) = True), (eq_true (by decide) : (((1 : Nat) : Int) < ((2 : Nat) : Int)) = True), decide_true]
          repeat (refine ⟨by first | omega | (simp; done) | decide, ?_⟩)
          refine fun r' c' hc hc' => ⟨(2, 2, r'), ⟨by simp, by simp, by simp, by simp⟩, by simp, [0, 1, 2, 4], ?_⟩
          subst hc
          try rw [take_room rfl]
          try rw [bs_append]
          rw [wrap_i64 (by omega) (by omega)]
          simp [-List.reduceReplicate, LES, SC2, cat2]
        · simp only [SC2, ↓VC, VP, TT, Nat.reduceEqDiff, reduceCtorEq, Nat.reduceAdd, Nat.reduceSub, Nat.reduceLT, Nat.reduceMul, Nat.reducePow, Nat.reduceLeDiff, Int.reduceToNat, Int.reduceLE, Int.reduceLT, Int.reducePow, (eq_false (by decide) : (((2 : Nat) : Int) < 2) = False), decide_false]
          refine ⟨_, _, [0, 1, 2, 3], ⟨r, trivial, rfl, rfl⟩, ?_⟩
          simp [-List.reduceReplicate, LES, cat2]
end Go.Proofs.YtahnjhppkgndiaaGreat
/- Bytes joined: slices.Concat of one, two or three parts. -/
set_option linter.unusedSimpArgs false
set_option linter.unusedVariables false
namespace Go.Proofs.YtahnjhppkgndiaaGreat
open Go Go.Vc
set_option maxRecDepth 10000
set_option maxHeartbeats 4000000
def tot1 (l1 : List UInt8) : Nat → Nat
  | 0 => 0
  | _ => 0 + l1.length
def cat1 (l1 : List UInt8) : Nat → List UInt8
  | 0 => []
  | _ => [] ++ l1
def SC1 (l1 : List UInt8) (c1 : Nat) (n : Nat) (s : Nat × Nat × Nat) : List V × List Blk := match s.1 with
  | 0 => ([.j, .j, .j, .j, .j, .j, .c (.slice none 0 0), .j, .j, .j, .j, .j, .j, .j, .j, .j, .j, .j, .j, .j, .j, .j, .j, .j, .j, .s 0 0 1 1, .c (.int .i64 (1)), .c (.int .i64 (s.2.1)), .j, .j, .j, .j, .j, .j, .j, .j], [⟨false, [.s 1 0 l1.length c1]⟩, ⟨false, bs l1⟩])
  | 1 => ([.j, .j, .j, .j, .j, .j, .s 2 0 0 (n + s.2.2), .j, .j, .j, .j, .j, .j, .j, .j, .j, .j, .j, .j, .j, .j, .j, .j, .j, .j, .s 0 0 1 1, .c (.int .i64 (1)), .c (.int .i64 (s.2.1)), .j, .j, .j, .j, .j, .j, .j, .j], [⟨false, [.s 1 0 l1.length c1]⟩, ⟨false, bs l1⟩, ⟨true, bs (List.replicate n 0) ++ List.replicate s.2.2 .j⟩])
  | _ => ([.j, .j, .j, .j, .j, .j, .s 2 0 (cat1 l1 s.2.1).length ((cat1 l1 s.2.1).length + s.2.2), .j, .j, .j, .j, .j, .j, .j, .j, .j, .j, .j, .j, .j, .j, .j, .j, .j, .j, .s 0 0 1 1, .c (.int .i64 (1)), .c (.int .i64 (s.2.1)), .j, .j, .j, .j, .j, .j, .j, .j], [⟨false, [.s 1 0 l1.length c1]⟩, ⟨false, bs l1⟩, ⟨true, bs (cat1 l1 s.2.1) ++ List.replicate s.2.2 .j⟩])
theorem c_Concat1 (l1 : List UInt8) (c1 : Nat) (hc1 : l1.length ≤ c1) (hm : l1.length ≤ 8388608) : LC Tryz.prog 145 [.s 0 0 1 1] [⟨false, [.s 1 0 l1.length c1]⟩, ⟨false, bs l1⟩]
    (Ret [⟨false, [.s 1 0 l1.length c1]⟩, ⟨false, bs l1⟩] (fun _ : Nat => True) fun r => (.s 2 0 (l1).length ((l1).length + r), [⟨true, bs (l1) ++ List.replicate r .j⟩])) := by
  refine LC_of (X := XX (fun _ => .nil) (fun _ => []) [15, 71, 72, 73, 79, 80, 87, 90, 91, 93, 99, 119, 137, 176, 177, 203, 204, 212, 219] 2) envOK Tryz.func145 (by kernel_rfl) (by kernel_rfl) rfl (Nat.le_of_ble_eq_true (by kernel_rfl)) ?_
  simp only [kFun, Tryz.f145, List.length_nil, List.length_cons, Nat.sub_zero, Nat.reduceSub, Nat.reduceAdd, List.nil_append, List.cons_append, List.replicate_succ, List.replicate_zero]
  simp only [XX, ↓VC, VP, TT, Nat.reduceEqDiff, reduceCtorEq, Nat.reduceAdd, Nat.reduceSub, Nat.reduceLT, Nat.reduceMul, Nat.reducePow, Nat.reduceLeDiff, Int.reduceToNat, Int.reduceLE, Int.reduceLT, Int.reducePow]
  refine kLoop_of (fun i : Nat => ([.s 0 0 1 1, .j, .j, .c (.int .i64 ((tot1 l1 i : Nat))), .j, .j, .j, .j, .j, .s 0 0 1 1, .c (.int .i64 (1)), .c (.int .i64 (i)), .j, .j, .j, .j, .j, .j, .j, .j, .j, .j, .j, .j, .j, .j, .j, .j, .j, .j, .j, .j, .j, .j, .j, .j], [⟨false, [.s 1 0 l1.length c1]⟩, ⟨false, bs l1⟩])) (fun i => 1 - i) (fun i => i ≤ 1) 0 (by omega) ⟨[0, 1], by simp [-List.reduceReplicate, LES, tot1]⟩ ?_
  intro i hi
  rcases (by omega : i = 0 ∨ i = 1) with rfl | rfl
  · have w : IntKind.i64.wrap (((tot1 l1 0 : Nat) : Int) + (l1.length : Int)) = ((tot1 l1 1 : Nat) : Int) := by
      rw [wrap_i64 (by simp only [tot1]; omega) (by simp only [tot1]; omega)]; simp only [tot1]; omega
    simp only [↓VC, VP, TT, Nat.reduceEqDiff, reduceCtorEq, Nat.reduceAdd, Nat.reduceSub, Nat.reduceLT, Nat.reduceMul, Nat.reducePow, Nat.reduceLeDiff, Int.reduceToNat, Int.reduceLE, Int.reduceLT, Int.reducePow, (eq_true (by decide) : (((0 : Nat) : Int) < 1) = True), (eq_true (by decide) : (((0 : Nat) : Int) < ((1 : Nat) : Int)) = True), decide_true, w]
    repeat (refine ⟨by first | omega | (simp; done) | decide, ?_⟩)
    refine fun _ => ⟨1, by omega, by omega, [0, 1], ?_⟩
    rw [wrap_i64 (by omega) (by omega)]
    simp [-List.reduceReplicate, LES]
  · simp only [↓VC, VP, TT, Nat.reduceEqDiff, reduceCtorEq, Nat.reduceAdd, Nat.reduceSub, Nat.reduceLT, Nat.reduceMul, Nat.reducePow, Nat.reduceLeDiff, Int.reduceToNat, Int.reduceLE, Int.reduceLT, Int.reducePow, (eq_false (by decide) : (((1 : Nat) : Int) < 1) = False), decide_false]
    refine kCall_Ret (c_Grow (tot1 l1 1) (by simp only [tot1]; omega)) (by rfl) [] (by simp [CALL]) (by simp [CALL]) (by simp [CALL]) (by simp) (by rintro (_ | r) <;> simp) fun o ho => ?_
    cases o with
    | some r0 =>
      simp only [CALL, ↓VC, VP, TT, Nat.reduceEqDiff, reduceCtorEq, Nat.reduceAdd, Nat.reduceSub, Nat.reduceLT, Nat.reduceMul, Nat.reducePow, Nat.reduceLeDiff, Int.reduceToNat, Int.reduceLE, Int.reduceLT, Int.reducePow, instL_room]
      refine kLoop_of (SC1 l1 c1 (tot1 l1 1)) (fun s => 1 - s.2.1) (fun s => s.1 ≤ 2 ∧ (s.1 < 2 → s.2.1 = 0) ∧ s.2.1 ≤ 1 ∧ (s.1 = 2 → 1 ≤ s.2.1)) (1, 0, r0) ⟨by simp, by simp, by simp, by simp⟩ ⟨[0, 1, 2], by simp [-List.reduceReplicate, LES, SC1]⟩ ?_
      rintro ⟨v, i, r⟩ ⟨hv, h0, hi, h1⟩
      simp only at hv h0 hi h1
      rcases (by omega : v = 0 ∨ v = 1 ∨ v = 2) with rfl | rfl | rfl
      · obtain rfl := h0 (by omega)
        · simp only [SC1, ↓VC, VP, TT, Nat.reduceEqDiff, reduceCtorEq, Nat.reduceAdd, Nat.reduceSub, Nat.reduceLT, Nat.reduceMul, Nat.reducePow, Nat.reduceLeDiff, Int.reduceToNat, Int.reduceLE, Int.reduceLT, Int.reducePow, (eq_true (by decide) : (((0 : Nat) : Int) < 1) = True), (eq_true (by decide) : (((0 : Nat) : Int) < ((1 : Nat) : Int)) = True), decide_true]
          repeat (refine ⟨by first | omega | (simp; done) | decide, ?_⟩)
          refine fun r' c' hc hc' => ⟨(2, 1, r'), ⟨by simp, by simp, by simp, by simp⟩, by simp, [0, 1, 2], ?_⟩
          subst hc
          try rw [take_room rfl]
          try rw [bs_append]
          rw [wrap_i64 (by omega) (by omega)]
          simp [-List.reduceReplicate, LES, SC1, cat1, Nat.add_assoc]
      · obtain rfl := h0 (by omega)
        · simp only [SC1, ↓VC, VP, TT, Nat.reduceEqDiff, reduceCtorEq, Nat.reduceAdd, Nat.reduceSub, Nat.reduceLT, Nat.reduceMul, Nat.reducePow, Nat.reduceLeDiff, Int.reduceToNat, Int.reduceLE, Int.reduceLT, Int.reducePow, (eq_true (by decide) : (((0 : Nat) : Int) < 1) = True), (eq_true (by decide) : (((0 : Nat) : Int) < ((1 : Nat) : Int)) = True), decide_true]
          repeat (refine ⟨by first | omega | (simp; done) | decide, ?_⟩)
          refine fun r' c' hc hc' => ⟨(2, 1, r'), ⟨by simp, by simp, by simp, by simp⟩, by simp, [0, 1, 3], ?_⟩
          subst hc
          try rw [take_room rfl]
          try rw [bs_append]
          rw [wrap_i64 (by omega) (by omega)]
          simp [-List.reduceReplicate, LES, SC1, cat1, Nat.add_assoc]
      · have h1 := h1 rfl
        rcases (by omega : i = 1) with rfl
        · simp only [SC1, ↓VC, VP, TT, Nat.reduceEqDiff, reduceCtorEq, Nat.reduceAdd, Nat.reduceSub, Nat.reduceLT, Nat.reduceMul, Nat.reducePow, Nat.reduceLeDiff, Int.reduceToNat, Int.reduceLE, Int.reduceLT, Int.reducePow, (eq_false (by decide) : (((1 : Nat) : Int) < 1) = False), decide_false]
          refine ⟨_, _, [0, 1, 2], ⟨r, trivial, rfl, rfl⟩, ?_⟩
          simp [-List.reduceReplicate, LES, cat1, Nat.add_assoc]
    | none =>
      simp only [CALL, ↓VC, VP, TT, Nat.reduceEqDiff, reduceCtorEq, Nat.reduceAdd, Nat.reduceSub, Nat.reduceLT, Nat.reduceMul, Nat.reducePow, Nat.reduceLeDiff, Int.reduceToNat, Int.reduceLE, Int.reduceLT, Int.reducePow, instL_room]
      refine kLoop_of (SC1 l1 c1 (tot1 l1 1)) (fun s => 1 - s.2.1) (fun s => s.1 ≤ 2 ∧ (s.1 < 2 → s.2.1 = 0) ∧ s.2.1 ≤ 1 ∧ (s.1 = 2 → 1 ≤ s.2.1)) (0, 0, 0) ⟨by simp, by simp, by simp, by simp⟩ ⟨[0, 1], by simp [-List.reduceReplicate, LES, SC1]⟩ ?_
      rintro ⟨v, i, r⟩ ⟨hv, h0, hi, h1⟩
      simp only at hv h0 hi h1
      rcases (by omega : v = 0 ∨ v = 1 ∨ v = 2) with rfl | rfl | rfl
      · obtain rfl := h0 (by omega)
        · simp only [SC1, ↓VC, VP, TT, Nat.reduceEqDiff, reduceCtorEq, Nat.reduceAdd, Nat.reduceSub, Nat.reduceLT, Nat.reduceMul, Nat.reducePow, Nat.reduceLeDiff, Int.reduceToNat, Int.reduceLE, Int.reduceLT, Int.reducePow, (eq_true (by decide) : (((0 : Nat) : Int) < 1) = True), (eq_true (by decide) : (((0 : Nat) : Int) < ((1 : Nat) : Int)) = True), decide_true]
          repeat (refine ⟨by first | omega | (simp; done) | decide, ?_⟩)
          refine fun r' c' hc hc' => ⟨(2, 1, r'), ⟨by simp, by simp, by simp, by simp⟩, by simp, [0, 1, 2], ?_⟩
          subst hc
          try rw [take_room rfl]
          try rw [bs_append]
          rw [wrap_i64 (by omega) (by omega)]
          simp [-List.reduceReplicate, LES, SC1, cat1, Nat.add_assoc]
      · obtain rfl := h0 (by omega)
        · simp only [SC1, ↓VC, VP, TT, Nat.reduceEqDiff, reduceCtorEq, Nat.reduceAdd, Nat.reduceSub, Nat.reduceLT, Nat.reduceMul, Nat.reducePow, Nat.reduceLeDiff, Int.reduceToNat, Int.reduceLE, Int.reduceLT, Int.reducePow, (eq_true (by decide) : (((0 : Nat) : Int) < 1) = True), (eq_true (by decide) : (((0 : Nat) : Int) < ((1 : Nat) : Int)) = True), decide_true]
          repeat (refine ⟨by first | omega | (simp; done) | decide, ?_⟩)
          refine fun r' c' hc hc' => ⟨(2, 1, r'), ⟨by simp, by simp, by simp, by simp⟩, by simp, [0, 1, 3], ?_⟩
          subst hc
          try rw [take_room rfl]
          try rw [bs_append]
          rw [wrap_i64 (by omega) (by omega)]
          simp [-List.reduceReplicate, LES, SC1, cat1, Nat.add_assoc]
      · have h1 := h1 rfl
        rcases (by omega : i = 1) with rfl
        · simp only [SC1, ↓VC, VP, TT, Nat.reduceEqDiff, reduceCtorEq, Nat.reduceAdd, Nat.reduceSub, Nat.reduceLT, Nat.reduceMul, Nat.reducePow, Nat.reduceLeDiff, Int.reduceToNat, Int.reduceLE, Int.reduceLT, Int.reducePow, (eq_false (by decide) : (((1 : Nat) : Int) < 1) = False), decide_false]
          refine ⟨_, _, [0, 1, 2], ⟨r, trivial, rfl, rfl⟩, ?_⟩
          simp [-List.reduceReplicate, LES, cat1, Nat.add_assoc]
def tot3 (l1 l2 l3 : List UInt8) : Nat → Nat
  | 0 => 0
  | 1 => 0 + l1.length
  | 2 => 0 + l1.length + l2.length
  | _ => 0 + l1.length + l2.length + l3.length
def cat3 (l1 l2 l3 : List UInt8) : Nat → List UInt8
  | 0 => []
  | 1 => [] ++ l1
  | 2 => [] ++ l1 ++ l2
  | _ => [] ++ l1 ++ l2 ++ l3
def SC3 (l1 l2 l3 : List UInt8) (c1 c2 c3 : Nat) (n : Nat) (s : Nat × Nat × Nat) : List V × List Blk := match s.1 with
  | 0 => ([.j, .j, .j, .j, .j, .j, .c (.slice none 0 0), .j, .j, .j, .j, .j, .j, .j, .j, .j, .j, .j, .j, .j, .j, .j, .j, .j, .j, .s 0 0 3 3, .c (.int .i64 (3)), .c (.int .i64 (s.2.1)), .j, .j, .j, .j, .j, .j, .j, .j], [⟨false, [.s 1 0 l1.length c1, .s 2 0 l2.length c2, .s 3 0 l3.length c3]⟩, ⟨false, bs l1⟩, ⟨false, bs l2⟩, ⟨false, bs l3⟩])
  | 1 => ([.j, .j, .j, .j, .j, .j, .s 4 0 0 (n + s.2.2), .j, .j, .j, .j, .j, .j, .j, .j, .j, .j, .j, .j, .j, .j, .j, .j, .j, .j, .s 0 0 3 3, .c (.int .i64 (3)), .c (.int .i64 (s.2.1)), .j, .j, .j, .j, .j, .j, .j, .j], [⟨false, [.s 1 0 l1.length c1, .s 2 0 l2.length c2, .s 3 0 l3.length c3]⟩, ⟨false, bs l1⟩, ⟨false, bs l2⟩, ⟨false, bs l3⟩, ⟨true, bs (List.replicate n 0) ++ List.replicate s.2.2 .j⟩])
  | _ => ([.j, .j, .j, .j, .j, .j, .s 4 0 (cat3 l1 l2 l3 s.2.1).length ((cat3 l1 l2 l3 s.2.1).length + s.2.2), .j, .j, .j, .j, .j, .j, .j, .j, .j, .j, .j, .j, .j, .j, .j, .j, .j, .j, .s 0 0 3 3, .c (.int .i64 (3)), .c (.int .i64 (s.2.1)), .j, .j, .j, .j, .j, .j, .j, .j], [⟨false, [.s 1 0 l1.length c1, .s 2 0 l2.length c2, .s 3 0 l3.length c3]⟩, ⟨false, bs l1⟩, ⟨false, bs l2⟩, ⟨false, bs l3⟩, ⟨true, bs (cat3 l1 l2 l3 s.2.1) ++ List.replicate s.2.2 .j⟩])
theorem c_Concat3 (l1 l2 l3 : List UInt8) (c1 c2 c3 : Nat) (hc1 : l1.length ≤ c1) (hc2 : l2.length ≤ c2) (hc3 : l3.length ≤ c3) (hm : l1.length + l2.length + l3.length ≤ 8388608) : LC Tryz.prog 145 [.s 0 0 3 3] [⟨false, [.s 1 0 l1.length c1, .s 2 0 l2.length c2, .s 3 0 l3.length c3]⟩, ⟨false, bs l1⟩, ⟨false, bs l2⟩, ⟨false, bs l3⟩]
    (Ret [⟨false, [.s 1 0 l1.length c1, .s 2 0 l2.length c2, .s 3 0 l3.length c3]⟩, ⟨false, bs l1⟩, ⟨false, bs l2⟩, ⟨false, bs l3⟩] (fun _ : Nat => True) fun r => (.s 4 0 (l1 ++ l2 ++ l3).length ((l1 ++ l2 ++ l3).length + r), [⟨true, bs (l1 ++ l2 ++ l3) ++ List.replicate r .j⟩])) := by
  refine LC_of (X := XX (fun _ => .nil) (fun _ => []) [15, 71, 72, 73, 79, 80, 87, 90, 91, 93, 99, 119, 137, 176, 177, 203, 204, 212, 219] 4) envOK Tryz.func145 (by kernel_rfl) (by kernel_rfl) rfl (Nat.le_of_ble_eq_true (by kernel_rfl)) ?_
  simp only [kFun, Tryz.f145, List.length_nil, List.length_cons, Nat.sub_zero, Nat.reduceSub, Nat.reduceAdd, List.nil_append, List.cons_append, List.replicate_succ, List.replicate_zero]
  simp only [XX, ↓VC, VP, TT, Nat.reduceEqDiff, reduceCtorEq, Nat.reduceAdd, Nat.reduceSub, Nat.reduceLT, Nat.reduceMul, Nat.reducePow, Nat.reduceLeDiff, Int.reduceToNat, Int.reduceLE, Int.reduceLT, Int.reducePow]
  refine kLoop_of (fun i : Nat => ([.s 0 0 3 3, .j, .j, .c (.int .i64 ((tot3 l1 l2 l3 i : Nat))), .j, .j, .j, .j, .j, .s 0 0 3 3, .c (.int .i64 (3)), .c (.int .i64 (i)), .j, .j, .j, .j, .j, .j, .j, .j, .j, .j, .j, .j, .j, .j, .j, .j, .j, .j, .j, .j, .j, .j, .j, .j], [⟨false, [.s 1 0 l1.length c1, .s 2 0 l2.length c2, .s 3 0 l3.length c3]⟩, ⟨false, bs l1⟩, ⟨false, bs l2⟩, ⟨false, bs l3⟩])) (fun i => 3 - i) (fun i => i ≤ 3) 0 (by omega) ⟨[0, 1, 2, 3], by simp [-List.reduceReplicate, LES, tot3]⟩ ?_
  intro i hi
  rcases (by omega : i = 0 ∨ i = 1 ∨ i = 2 ∨ i = 3) with rfl | rfl | rfl | rfl
  · have w : IntKind.i64.wrap (((tot3 l1 l2 l3 0 : Nat) : Int) + (l1.length : Int)) = ((tot3 l1 l2 l3 1 : Nat) : Int) := by
      rw [wrap_i64 (by simp only [tot3]; omega) (by simp only [tot3]; omega)]; simp only [tot3]; omega
    simp only [↓VC, VP, TT, Nat.reduceEqDiff, reduceCtorEq, Nat.reduceAdd, Nat.reduceSub, Nat.reduceLT, Nat.reduceMul, Nat.reducePow, Nat.reduceLeDiff, Int.reduceToNat, Int.reduceLE, Int.reduceLT, Int.reducePow, (eq_true (by decide) : (((0 : Nat) : Int) < 3) = True), (eq_true (by decide) : (((0 : Nat) : Int) < ((3 : Nat) : Int)) = True), decide_true, w]
    repeat (refine ⟨by first | omega | (simp; done) | decide, ?_⟩)
    refine fun _ => ⟨1, by omega, by omega, [0, 1, 2, 3], ?_⟩
    rw [wrap_i64 (by omega) (by omega)]
    simp [-List.reduceReplicate, LES]
  · have w : IntKind.i64.wrap (((tot3 l1 l2 l3 1 : Nat) : Int) + (l2.length : Int)) = ((tot3 l1 l2 l3 2 : Nat) : Int) := by
      rw [wrap_i64 (by simp only [tot3]; omega) (by simp only [tot3]; omega)]; simp only [tot3]; omega
    simp only [↓VC, VP, TT, Nat.reduceEqDiff, reduceCtorEq, Nat.reduceAdd, Nat.reduceSub, Nat.reduceLT, Nat.reduceMul, Nat.reducePow, Nat.reduceLeDiff, Int.reduceToNat, Int.reduceLE, Int.reduceLT, Int.reducePow, (eq_true (by decide) : (((1 : Nat) : Int) < 3) = True), (eq_true (by decide) : (((1 : Nat) : Int) < ((3 : Nat) : Int)) = True), decide_true, w]
    repeat (refine ⟨by first | omega | (simp; done) | decide, ?_⟩)
    refine fun _ => ⟨2, by omega, by omega, [0, 1, 2, 3], ?_⟩
    rw [wrap_i64 (by omega) (by omega)]
    simp [-List.reduceReplicate, LES]
  · have w : IntKind.i64.wrap (((tot3 l1 l2 l3 2 : Nat) : Int) + (l3.length : Int)) = ((tot3 l1 l2 l3 3 : Nat) : Int) := by
      rw [wrap_i64 (by simp only [tot3]; omega) (by simp only [tot3]; omega)]; simp only [tot3]; omega
    simp only [↓VC, VP, TT, Nat.reduceEqDiff, reduceCtorEq, Nat.reduceAdd, Nat.reduceSub, Nat.reduceLT, Nat.reduceMul, Nat.reducePow, Nat.reduceLeDiff, Int.reduceToNat, Int.reduceLE, Int.reduceLT, Int.reducePow, (eq_true (by decide) : (((2 : Nat) : Int) < 3) = True), (eq_true (by decide) : (((2 : Nat) : Int) < ((3 : Nat) : Int)) = True), decide_true, w]
    repeat (refine ⟨by first | omega | (simp; done) | decide, ?_⟩)
    refine fun _ => ⟨3, by omega, by omega, [0, 1, 2, 3], ?_⟩
    rw [wrap_i64 (by omega) (by omega)]
    simp [-List.reduceReplicate, LES]
  · simp only [↓VC, VP, TT, Nat.reduceEqDiff, reduceCtorEq, Nat.reduceAdd, Nat.reduceSub, Nat.reduceLT, Nat.reduceMul, Nat.reducePow, Nat.reduceLeDiff, Int.reduceToNat, Int.reduceLE, Int.reduceLT, Int.reducePow, (eq_false (by decide) : (((3 : Nat) : Int) < 3) = False), decide_false]
    refine kCall_Ret (c_Grow (tot3 l1 l2 l3 3) (by simp only [tot3]; omega)) (by rfl) [] (by simp [CALL]) (by simp [CALL]) (by simp [CALL]) (by simp) (by rintro (_ | r) <;> simp) fun o ho => ?_
    cases o with
    | some r0 =>
      simp only [CALL, ↓VC, VP, TT, Nat.reduceEqDiff, reduceCtorEq, Nat.reduceAdd, Nat.reduceSub, Nat.reduceLT, Nat.reduceMul, Nat.reducePow, Nat.reduceLeDiff, Int.reduceToNat, Int.reduceLE, Int.reduceLT, Int.reducePow, instL_room]
      refine kLoop_of (SC3 l1 l2 l3 c1 c2 c3 (tot3 l1 l2 l3 3)) (fun s => 3 - s.2.1) (fun s => s.1 ≤ 2 ∧ (s.1 < 2 → s.2.1 = 0) ∧ s.2.1 ≤ 3 ∧ (s.1 = 2 → 1 ≤ s.2.1)) (1, 0, r0) ⟨by simp, by simp, by simp, by simp⟩ ⟨[0, 1, 2, 3, 4], by simp [-List.reduceReplicate, LES, SC3]⟩ ?_
      rintro ⟨v, i, r⟩ ⟨hv, h0, hi, h1⟩
      simp only at hv h0 hi h1
      rcases (by omega : v = 0 ∨ v = 1 ∨ v = 2) with rfl | rfl | rfl
      · obtain rfl := h0 (by omega)
        · simp only [SC3, ↓VC, VP, TT, Nat.reduceEqDiff, reduceCtorEq, Nat.reduceAdd, Nat.reduceSub, Nat.reduceLT, Nat.reduceMul, Nat.reducePow, Nat.reduceLeDiff, Int.reduceToNat, Int.reduceLE, Int.reduceLT, Int.reducePow, (eq_true (by decide) : (((0 : Nat) : Int) < 3) = True), (eq_true (by decide) : (((0 : Nat) : Int) < ((3 : Nat) : Int)) = True), decide_true]
          repeat (refine ⟨by first | omega | (simp; done) | decide, ?_⟩)
          refine fun r' c' hc hc' => ⟨(2, 1, r'), ⟨by simp, by simp, by simp, by simp⟩, by simp, [0, 1, 2, 3, 4], ?_⟩
          subst hc
          try rw [take_room rfl]
          try rw [bs_append]
          rw [wrap_i64 (by omega) (by omega)]
          simp [-List.reduceReplicate, LES, SC3, cat3, Nat.add_assoc]
      · obtain rfl := h0 (by omega)
        · simp only [SC3, ↓VC, VP, TT, Nat.reduceEqDiff, reduceCtorEq, Nat.reduceAdd, Nat.reduceSub, Nat.reduceLT, Nat.reduceMul, Nat.reducePow, Nat.reduceLeDiff, Int.reduceToNat, Int.reduceLE, Int.reduceLT, Int.reducePow, (eq_true (by decide) : (((0 : Nat) : Int) < 3) = True), (eq_true (by decide) : (((0 : Nat) : Int) < ((3 : Nat) : Int)) = True), decide_true]
          repeat (refine ⟨by first | omega | (simp; done) | decide, ?_⟩)
          refine fun r' c' hc hc' => ⟨(2, 1, r'), ⟨by simp, by simp, by simp, by simp⟩, by simp, [0, 1, 2, 3, 5], ?_⟩
          subst hc
          try rw [take_room rfl]
          try rw [bs_append]
          rw [wrap_i64 (by omega) (by omega)]
          simp [-List.reduceReplicate, LES, SC3, cat3, Nat.add_assoc]
      · have h1 := h1 rfl
        rcases (by omega : i = 1 ∨ i = 2 ∨ i = 3) with rfl | rfl | rfl
        · simp only [SC3, ↓VC, VP, TT, Nat.reduceEqDiff, reduceCtorEq, Nat.reduceAdd, Nat.reduceSub, Nat.reduceLT, Nat.reduceMul, Nat.reducePow, Nat.reduceLeDiff, Int.reduceToNat, Int.reduceLE, Int.reduceLT, Int.reducePow, cat3, List.length_append, List.nil_append, (eq_true (by decide) : (((1 : Nat) : Int) < 3) = True), (eq_true (by decide) : (((1 : Nat) : Int) < ((3 : Nat) : Int)) = True), decide_true]
          repeat (refine ⟨by first | omega | (simp; done) | decide, ?_⟩)
          refine fun r' c' hc hc' => ⟨(2, 2, r'), ⟨by simp, by simp, by simp, by simp⟩, by simp, [0, 1, 2, 3, 5], ?_⟩
          subst hc
          try rw [take_room rfl]
          try rw [bs_append]
          rw [wrap_i64 (by omega) (by omega)]
          simp [-List.reduceReplicate, LES, SC3, cat3, Nat.add_assoc]
        · simp only [SC3, ↓VC, VP, TT, Nat.reduceEqDiff, reduceCtorEq, Nat.reduceAdd, Nat.reduceSub, Nat.reduceLT, Nat.reduceMul, Nat.reducePow, Nat.reduceLeDiff, Int.reduceToNat, Int.reduceLE, Int.reduceLT, Int.reducePow, cat3, List.length_append, List.nil_append, (eq_true (by decide) : (((2 : Nat) : Int) < 3) = True), (eq_true (by decide) : (((2 : Nat) : Int) < ((3 : Nat) : Int)) = True), decide_true]
          repeat (refine ⟨by first | omega | (simp; done) | decide, ?_⟩)
          refine fun r' c' hc hc' => ⟨(2, 3, r'), ⟨by simp, by simp, by simp, by simp⟩, by simp, [0, 1, 2, 3, 5], ?_⟩
          subst hc
          try rw [take_room rfl]
          try rw [bs_append]
          rw [wrap_i64 (by omega) (by omega)]
          simp [-List.reduceReplicate, LES, SC3, cat3, Nat.add_assoc]
        · simp only [SC3, ↓VC, VP, TT, Nat.reduceEqDiff, reduceCtorEq, Nat.reduceAdd, Nat.reduceSub, Nat.reduceLT, Nat.reduceMul, Nat.reducePow, Nat.reduceLeDiff, Int.reduceToNat, Int.reduceLE, Int.reduceLT, Int.reducePow, (eq_false (by decide) : (((3 : Nat) : Int) < 3) = False), decide_false]
          refine ⟨_, _, [0, 1, 2, 3, 4], ⟨r, trivial, rfl, rfl⟩, ?_⟩
          simp [-List.reduceReplicate, LES, cat3, Nat.add_assoc]
    | none =>
      simp only [CALL, ↓VC, VP, TT, Nat.reduceEqDiff, reduceCtorEq, Nat.reduceAdd, Nat.reduceSub, Nat.reduceLT, Nat.reduceMul, Nat.reducePow, Nat.reduceLeDiff, Int.reduceToNat, Int.reduceLE, Int.reduceLT, Int.reducePow, instL_room]
      refine kLoop_of (SC3 l1 l2 l3 c1 c2 c3 (tot3 l1 l2 l3 3)) (fun s => 3 - s.2.1) (fun s => s.1 ≤ 2 ∧ (s.1 < 2 → s.2.1 = 0) ∧ s.2.1 ≤ 3 ∧ (s.1 = 2 → 1 ≤ s.2.1)) (0, 0, 0) ⟨by simp, by simp, by simp, by simp⟩ ⟨[0, 1, 2, 3], by simp [-List.reduceReplicate, LES, SC3]⟩ ?_
      rintro ⟨v, i, r⟩ ⟨hv, h0, hi, h1⟩
      simp only at hv h0 hi h1
      rcases (by omega : v = 0 ∨ v = 1 ∨ v = 2) with rfl | rfl | rfl
      · obtain rfl := h0 (by omega)
        · simp only [SC3, ↓VC, VP, TT, Nat.reduceEqDiff, reduceCtorEq, Nat.reduceAdd, Nat.reduceSub, Nat.reduceLT, Nat.reduceMul, Nat.reducePow, Nat.reduceLeDiff, Int.reduceToNat, Int.reduceLE, Int.reduceLT, Int.reducePow, (eq_true (by decide) : (((0 : Nat) : Int) < 3) = True), (eq_true (by decide) : (((0 : Nat) : Int) < ((3 : Nat) : Int)) = True), decide_true]
          repeat (refine ⟨by first | omega | (simp; done) | decide, ?_⟩)
          refine fun r' c' hc hc' => ⟨(2, 1, r'), ⟨by simp, by simp, by simp, by simp⟩, by simp, [0, 1, 2, 3, 4], ?_⟩
          subst hc
          try rw [take_room rfl]
          try rw [bs_append]
          rw [wrap_i64 (by omega) (by omega)]
          simp [-List.reduceReplicate, LES, SC3, cat3, Nat.add_assoc]
      · obtain rfl := h0 (by omega)
        · simp only [SC3, ↓VC, VP, TT, Nat.reduceEqDiff, reduceCtorEq, Nat.reduceAdd, Nat.reduceSub, Nat.reduceLT, Nat.reduceMul, Nat.reducePow, Nat.reduceLeDiff, Int.reduceToNat, Int.reduceLE, Int.reduceLT, Int.reducePow, (eq_true (by decide) : (((0 : Nat) : Int) < 3) = True), (eq_true (by decide) : (((0 : Nat) : Int) < ((3 : Nat) : Int)) = True), decide_true]
          repeat (refine ⟨by first | omega | (simp; done) | decide, ?_⟩)
          refine fun r' c' hc hc' => ⟨(2, 1, r'), ⟨by simp, by simp, by simp, by simp⟩, by simp, [0, 1, 2, 3, 5], ?_⟩
          subst hc
          try rw [take_room rfl]
          try rw [bs_append]
          rw [wrap_i64 (by omega) (by omega)]
          simp [-List.reduceReplicate, LES, SC3, cat3, Nat.add_assoc]
      · have h1 := h1 rfl
        rcases (by omega : i = 1 ∨ i = 2 ∨ i = 3) with rfl | rfl | rfl
        · simp only [SC3, ↓VC, VP, TT, Nat.reduceEqDiff, reduceCtorEq, Nat.reduceAdd, Nat.reduceSub, Nat.reduceLT, Nat.reduceMul, Nat.reducePow, Nat.reduceLeDiff, Int.reduceToNat, Int.reduceLE, Int.reduceLT, Int.reducePow, cat3, List.length_append, List.nil_append, (eq_true (by decide) : (((1 : Nat) : Int) < 3) = True), (eq_true (by decide) : (((1 : Nat) : Int) < ((3 : Nat) : Int)) = True), decide_true]
          repeat (refine ⟨by first | omega | (simp; done) | decide, ?_⟩)
          refine fun r' c' hc hc' => ⟨(2, 2, r'), ⟨by simp, by simp, by simp, by simp⟩, by simp, [0, 1, 2, 3, 5], ?_⟩
          subst hc
          try rw [take_room rfl]
          try rw [bs_append]
          rw [wrap_i64 (by omega) (by omega)]
          simp [-List.reduceReplicate, LES, SC3, cat3, Nat.add_assoc]
        · simp only [SC3, ↓VC, VP, TT, Nat.reduceEqDiff, reduceCtorEq, Nat.reduceAdd, Nat.reduceSub, Nat.reduceLT, Nat.reduceMul, Nat.reducePow, Nat.reduceLeDiff, Int.reduceToNat, Int.reduceLE, Int.reduceLT, Int.reducePow, cat3, List.length_append, List.nil_append, (eq_true (by decide) : (((2 : Nat) : Int) < 3) = True), (eq_true (by decide) : (((2 : Nat) : Int) < ((3 : Nat) : Int)) = True), decide_true]
          repeat (refine ⟨by first | omega | (simp; done) | decide, ?_⟩)
          refine fun r' c' hc hc' => ⟨(2, 3, r'), ⟨by simp, by simp, by simp, by simp⟩, by simp, [0, 1, 2, 3, 5], ?_⟩
          subst hc
          try rw [take_room rfl]
          try rw [bs_append]
          rw [wrap_i64 (by omega) (by omega)]
          simp [-List.reduceReplicate, LES, SC3, cat3, Nat.add_assoc]
        · simp only [SC3, ↓VC, VP, TT, Nat.reduceEqDiff, reduceCtorEq, Nat.reduceAdd, Nat.reduceSub, Nat.reduceLT, Nat.reduceMul, Nat.reducePow, Nat.reduceLeDiff, Int.reduceToNat, Int.reduceLE, Int.reduceLT, Int.reducePow, (eq_false (by decide) : (((3 : Nat) : Int) < 3) = False), decide_false]
          refine ⟨_, _, [0, 1, 2, 3, 4], ⟨r, trivial, rfl, rfl⟩, ?_⟩
          simp [-List.reduceReplicate, LES, cat3, Nat.add_assoc]
end Go.Proofs.YtahnjhppkgndiaaGreat
/- What was padded comes back, both ways. -/
set_option linter.unusedSimpArgs false
set_option linter.unusedVariables false
namespace Go.Proofs.YtahnjhppkgndiaaGreat
open Go Go.Vc
theorem padL_get1 (t : List UInt8) : (padL t).getD t.length 0 = 1 := by simp [padL, List.getD]
theorem padL_get0 (t : List UInt8) {k : Nat} (h : t.length < k) : (padL t).getD k 0 = 0 := by
  simp only [padL, List.getD]
  rw [List.getElem?_append_right (by omega)]
  obtain ⟨m, rfl⟩ : ∃ m, k = t.length + 1 + m := ⟨k - t.length - 1, by omega⟩
  rw [show t.length + 1 + m - t.length = m + 1 by omega, List.getElem?_cons_succ]
  rw [List.getElem?_replicate]
  split <;> rfl
theorem padL_take (t : List UInt8) : (padL t).take t.length = t := by simp [padL]
theorem padL_inj {t u : List UInt8} (h : padL t = padL u) : t = u := by
  have key : ∀ {t u : List UInt8}, padL t = padL u → ¬ t.length < u.length := fun {t u} h hlt => by
    have h1 := padL_get1 u
    rw [← h, padL_get0 t hlt] at h1
    cases h1
  have hl : t.length = u.length := by have := key h; have := key h.symm; omega
  rw [← padL_take t, h, hl, padL_take]
/-- The data behind a padding, where there are any. -/
noncomputable def unp (l : List UInt8) : Option (List UInt8) := open Classical in if h : ∃ t, padL t = l ∧ t.length ≤ 2000 then some h.choose else none
theorem unp_some {l t : List UInt8} (h : padL t = l) (h2 : t.length ≤ 2000) : unp l = some t := by
  have hex : ∃ t, padL t = l ∧ t.length ≤ 2000 := ⟨t, h, h2⟩
  unfold unp
  rw [dif_pos hex]
  have := hex.choose_spec.1
  rw [padL_inj (this.trans h.symm)]
theorem unp_none {l : List UInt8} (h : ∀ t, padL t = l → t.length ≤ 2000 → False) : unp l = none := by
  unfold unp
  rw [dif_neg]
  rintro ⟨t, h1, h2⟩; exact h t h1 h2
theorem unp_len {l t : List UInt8} (h : unp l = some t) : t.length ≤ 2000 := by
  unfold unp at h
  split at h
  · rename_i hx; cases h; exact hx.choose_spec.2
  · cases h
/-- The last place of a byte among the first i. -/
def lastF (l : List UInt8) (b : UInt8) : Nat → Int
  | 0 => -1
  | i + 1 => if l.getD i 0 = b then (i : Nat) else lastF l b i
set_option maxRecDepth 10000
theorem c_bytealg_LastIndexByte (l : List UInt8) (c : Nat) (b : UInt8) (hc : l.length ≤ c) (hm : l.length ≤ 4194304) : LC Tryz.prog 161 [.s 0 0 l.length c, .c (.int .u8 (b.toNat : Int))] [⟨false, bs l⟩] (fun v hp => v = .c (.int .i64 (lastF l b l.length)) ∧ hp = [⟨false, bs l⟩]) := by
  refine LC_of (X := XX (fun _ => .nil) (fun _ => []) [15, 71, 72, 73, 79, 80, 87, 90, 91, 93, 99, 119, 137, 176, 177, 203, 204, 212, 219] 1) envOK Tryz.func161 (by kernel_rfl) (by kernel_rfl) rfl (Nat.le_of_ble_eq_true (by kernel_rfl)) ?_
  simp only [kFun, Tryz.f161, List.length_nil, List.length_cons, Nat.sub_zero, Nat.reduceSub, Nat.reduceAdd, List.nil_append, List.cons_append, List.replicate_succ, List.replicate_zero]
  simp only [XX, ↓VC, VP, TT, Nat.reduceEqDiff, reduceCtorEq, Nat.reduceAdd, Nat.reduceSub, Nat.reduceLT, Nat.reduceMul, Nat.reducePow, Nat.reduceLeDiff, Int.reduceToNat, Int.reduceLE, Int.reduceLT, Int.reducePow]
  rw [wrap_i64 (by omega) (by omega)]
  refine kLoop_of (fun j : Nat => ([.s 0 0 l.length c, .c (.int .u8 (b.toNat : Int)), .j, .j, .j, .c (.int .i64 ((j : Int) - 1)), .j, .j, .j, .j, .j, .j, .j, .j, .j, .j, .j, .j, .j, .j], [⟨false, bs l⟩])) (fun j => j) (fun j => j ≤ l.length ∧ lastF l b l.length = lastF l b j) l.length ⟨by omega, rfl⟩ ⟨[0], by simp [-List.reduceReplicate, LES]⟩ ?_
  rintro j ⟨hj, he⟩
  simp only [↓VC, VP, TT, Nat.reduceEqDiff, reduceCtorEq, Nat.reduceAdd, Nat.reduceSub, Nat.reduceLT, Nat.reduceMul, Nat.reducePow, Nat.reduceLeDiff, Int.reduceToNat, Int.reduceLE, Int.reduceLT, Int.reducePow]
  refine ⟨fun h => ?_, fun h => ⟨_, _, [0], ⟨rfl, rfl⟩, ?_⟩⟩
  · obtain ⟨i, rfl⟩ : ∃ i, j = i + 1 := ⟨j - 1, by omega⟩
    have e1 : ((i + 1 : Nat) : Int) - 1 = (i : Nat) := by omega
    rw [e1, Int.toNat_natCast]
    refine ⟨by omega, by omega, by omega, fun ht => ⟨_, _, [0], ⟨rfl, rfl⟩, ?_⟩, fun hf => ⟨i, ⟨by omega, ?_⟩, by omega, [0], ?_⟩⟩
    · rw [beq_iff_eq] at ht
      rw [he, lastF, if_pos (by simpa using ht)]
      simp [-List.reduceReplicate, LES]
    · rw [he, lastF, if_neg (by simpa using hf)]
    · rw [wrap_i64 (by omega) (by omega)]
      simp [-List.reduceReplicate, LES]
  · obtain rfl : j = 0 := by omega
    rw [he]; simp [-List.reduceReplicate, LES, lastF]
theorem c_bytes_LastIndexByte (l : List UInt8) (c : Nat) (b : UInt8) (hc : l.length ≤ c) (hm : l.length ≤ 4194304) : LC Tryz.prog 107 [.s 0 0 l.length c, .c (.int .u8 (b.toNat : Int))] [⟨false, bs l⟩] (fun v hp => v = .c (.int .i64 (lastF l b l.length)) ∧ hp = [⟨false, bs l⟩]) := by
  refine LC_of (X := XX (fun _ => .nil) (fun _ => []) [15, 71, 72, 73, 79, 80, 87, 90, 91, 93, 99, 119, 137, 176, 177, 203, 204, 212, 219] 1) envOK Tryz.func107 (by kernel_rfl) (by kernel_rfl) rfl (Nat.le_of_ble_eq_true (by kernel_rfl)) ?_
  simp only [kFun, Tryz.f107, List.length_nil, List.length_cons, Nat.sub_zero, Nat.reduceSub, Nat.reduceAdd, List.nil_append, List.cons_append, List.replicate_succ, List.replicate_zero]
  simp only [XX, ↓VC, VP, TT, Nat.reduceEqDiff, reduceCtorEq, Nat.reduceAdd, Nat.reduceSub, Nat.reduceLT, Nat.reduceMul, Nat.reducePow, Nat.reduceLeDiff, Int.reduceToNat, Int.reduceLE, Int.reduceLT, Int.reducePow]
  refine kCall_val (c_bytealg_LastIndexByte l c b hc hm) (by rfl) [(0, 0)] (by simp [CALL]) (by simp [CALL, cellsAt]) (by simp [CALL]) (by simp [okL_bs]) ?_
  simp only [CALL, ↓VC, VP, TT, Nat.reduceEqDiff, reduceCtorEq, Nat.reduceAdd, Nat.reduceSub, Nat.reduceLT, Nat.reduceMul, Nat.reducePow, Nat.reduceLeDiff, Int.reduceToNat, Int.reduceLE, Int.reduceLT, Int.reducePow]
  refine ⟨_, _, [0], ⟨rfl, rfl⟩, ?_⟩
  simp [-List.reduceReplicate, LES]
theorem c_bytes_Equal (a b : List UInt8) (ca cb : Nat) (hca : a.length ≤ ca) (hcb : b.length ≤ cb) : LC Tryz.prog 108 [.s 0 0 a.length ca, .s 1 0 b.length cb] [⟨false, bs a⟩, ⟨false, bs b⟩] (fun v hp => v = .c (.bool (a == b)) ∧ hp = [⟨false, bs a⟩, ⟨false, bs b⟩]) := by
  refine LC_of (X := XX (fun _ => .nil) (fun _ => []) [15, 71, 72, 73, 79, 80, 87, 90, 91, 93, 99, 119, 137, 176, 177, 203, 204, 212, 219] 2) envOK Tryz.func108 (by kernel_rfl) (by kernel_rfl) rfl (Nat.le_of_ble_eq_true (by kernel_rfl)) ?_
  simp only [kFun, Tryz.f108, List.length_nil, List.length_cons, Nat.sub_zero, Nat.reduceSub, Nat.reduceAdd, List.nil_append, List.cons_append, List.replicate_succ, List.replicate_zero]
  simp only [XX, ↓VC, VP, TT, Nat.reduceEqDiff, reduceCtorEq, Nat.reduceAdd, Nat.reduceSub, Nat.reduceLT, Nat.reduceMul, Nat.reducePow, Nat.reduceLeDiff, Int.reduceToNat, Int.reduceLE, Int.reduceLT, Int.reducePow]
  refine ⟨a, rfl, .inr rfl, b, rfl, .inr rfl, _, _, [0, 1], ⟨rfl, rfl⟩, ?_⟩
  rw [ByteArray.toList_mk, ByteArray.toList_mk]
  simp [-List.reduceReplicate, LES]
/-- Where the reference stops: the last place in the last block that is not 0. -/
structure StopAt (l : List UInt8) (p : Nat) : Prop where
  lt : p < l.length
  near : l.length ≤ p + 16
  zeros : ∀ k, p < k → k < l.length → l.getD k 0 = 0
theorem StopAt.next {l : List UInt8} {p : Nat} (h : StopAt l (p + 1)) (hn : l.length < p + 1 + 16) (h0 : l.getD (p + 1) 0 = 0) : StopAt l p :=
  ⟨by have := h.lt; omega, by omega, fun k hk hkl => by
    rcases Nat.eq_or_lt_of_le hk with e | e
    · rw [← e]; exact h0
    · exact h.zeros k e hkl⟩
theorem getD_ext {l m : List UInt8} (hl : l.length = m.length) (h : ∀ k, k < l.length → l.getD k 0 = m.getD k 0) : l = m := by
  apply List.ext_getElem hl
  intro k h1 h2
  have := h k h1
  simpa [List.getD, h1, h2] using this
theorem unp_stop_yes {l : List UInt8} {p : Nat} (h : StopAt l p) (hl : l.length % 16 = 0) (h1 : l.getD p 0 = 1) (h2 : p ≤ 2000) : unp l = some (l.take p) := by
  have hp := h.lt
  have hn := h.near
  have hlen : (l.take p).length = p := by rw [List.length_take]; omega
  refine unp_some ?_ (by omega)
  apply getD_ext (by rw [padL_len, hlen]; omega)
  intro k hk
  rw [padL_len, hlen] at hk
  rcases Nat.lt_trichotomy k p with e | e | e
  · simp only [padL, List.getD]
    rw [List.getElem?_append_left (by omega), List.getElem?_take, if_pos e]
  · subst e; rw [h1]; have := padL_get1 (l.take k); rwa [hlen] at this
  · rw [padL_get0 _ (by omega), h.zeros k e (by omega)]
theorem unp_stop_no {l : List UInt8} {p : Nat} (h : StopAt l p) (hs : l.length = p + 16 ∨ l.getD p 0 ≠ 0) (hno : ¬ (l.getD p 0 = 1 ∧ p ≤ 2000)) : unp l = none := by
  refine unp_none fun t ht ht2 => ?_
  have hp := h.lt
  have hn := h.near
  have hlen : l.length = t.length + 16 - t.length % 16 := by rw [← ht, padL_len]
  have g1 : l.getD t.length 0 = 1 := by rw [← ht]; exact padL_get1 t
  rcases Nat.lt_trichotomy t.length p with e | e | e
  · have g0 : l.getD p 0 = 0 := by rw [← ht]; exact padL_get0 t e
    rcases hs with hs | hs
    · omega
    · exact hs g0
  · subst e; exact hno ⟨g1, ht2⟩
  · have := h.zeros _ e (by omega)
    rw [this] at g1; cases g1
theorem unp_len16 {l : List UInt8} (h : l.length = 0 ∨ l.length % 16 ≠ 0) : unp l = none := by
  refine unp_none fun t ht _ => ?_
  have hlen : l.length = t.length + 16 - t.length % 16 := by rw [← ht, padL_len]
  omega
theorem lastF_range (l : List UInt8) (b : UInt8) : ∀ i, -1 ≤ lastF l b i ∧ lastF l b i < i
  | 0 => by simp [lastF]
  | i + 1 => by
    have := lastF_range l b i
    unfold lastF
    split <;> omega
theorem lastF_neg {l : List UInt8} {b : UInt8} : ∀ {i : Nat}, lastF l b i < 0 → ∀ k, k < i → l.getD k 0 ≠ b
  | 0, _, k, hk => by omega
  | i + 1, h, k, hk => by
    unfold lastF at h
    split at h
    · omega
    · rename_i hne
      rcases Nat.eq_or_lt_of_le (Nat.le_of_lt_succ hk) with e | e
      · rw [e]; exact hne
      · exact lastF_neg h k e
theorem lastF_pos {l : List UInt8} {b : UInt8} : ∀ {i e : Nat}, lastF l b i = e → l.getD e 0 = b ∧ ∀ k, e < k → k < i → l.getD k 0 ≠ b
  | 0, e, h => by simp [lastF] at h
  | i + 1, e, h => by
    unfold lastF at h
    split at h
    · rename_i hb
      have : i = e := by omega
      subst this
      exact ⟨hb, fun k h1 h2 => by omega⟩
    · rename_i hne
      obtain ⟨h1, h2⟩ := lastF_pos h
      refine ⟨h1, fun k hk hki => ?_⟩
      rcases Nat.eq_or_lt_of_le (Nat.le_of_lt_succ hki) with e' | e'
      · rw [e']; exact hne
      · exact h2 k hk e'
theorem unp_last_neg {l : List UInt8} (h : lastF l 1 l.length < 0) : unp l = none := by
  refine unp_none fun t ht _ => ?_
  have hlen : l.length = t.length + 16 - t.length % 16 := by rw [← ht, padL_len]
  exact lastF_neg h t.length (by omega) (by rw [← ht]; exact padL_get1 t)
theorem unp_last {l : List UInt8} {e : Nat} (h : lastF l 1 l.length = e) : unp l = if padL (l.take e) = l ∧ e ≤ 2000 then some (l.take e) else none := by
  have hr := (lastF_range l 1 l.length).2
  have hlen : (l.take e).length = e := by rw [List.length_take]; omega
  split
  · rename_i hh
    exact unp_some hh.1 (by omega)
  · rename_i hh
    refine unp_none fun t ht ht2 => ?_
    obtain ⟨h1, h2⟩ := lastF_pos h
    have hl : l.length = t.length + 16 - t.length % 16 := by rw [← ht, padL_len]
    have g1 : l.getD t.length 0 = 1 := by rw [← ht]; exact padL_get1 t
    have : t.length = e := by
      rcases Nat.lt_trichotomy t.length e with q | q | q
      · have : l.getD e 0 = 0 := by rw [← ht]; exact padL_get0 t q
        rw [this] at h1; cases h1
      · exact q
      · exact absurd g1 (h2 _ q (by omega))
    have ht3 : l.take e = t := by rw [← this, ← ht, padL_take]
    exact hh ⟨by rw [ht3, ht], by omega⟩
end Go.Proofs.YtahnjhppkgndiaaGreat
/- 'UnpadBlocks', both ways: the same data, or none. -/
set_option linter.unusedSimpArgs false
set_option linter.unusedVariables false
namespace Go.Proofs.YtahnjhppkgndiaaGreat
open Go Go.Vc
def unpV (o : Option (List UInt8)) (r : Nat) : V × List Blk := match o with
  | some t => (.t [.s 1 0 t.length (t.length + r), .c (.bool true)], [⟨true, bs t ++ List.replicate r .j⟩])
  | none => (.t [.c (.slice none 0 0), .c (.bool false)], [])
set_option maxRecDepth 10000
theorem c_impl_unpadded (l : List UInt8) (c : Nat) (hc : l.length ≤ c) (hm : l.length ≤ 1048576) : LC Tryz.prog 125 [.s 0 0 l.length c] [⟨false, bs l⟩] (Ret [⟨false, bs l⟩] (fun _ : Nat => True) (unpV (unp l))) := by
  refine LC_of (X := XX (fun _ => .nil) (fun _ => []) [15, 71, 72, 73, 79, 80, 87, 90, 91, 93, 99, 119, 137, 176, 177, 203, 204, 212, 219] 1) envOK Tryz.func125 (by kernel_rfl) (by kernel_rfl) rfl (Nat.le_of_ble_eq_true (by kernel_rfl)) ?_
  simp only [kFun, Tryz.f125, List.length_nil, List.length_cons, Nat.sub_zero, Nat.reduceSub, Nat.reduceAdd, List.nil_append, List.cons_append, List.replicate_succ, List.replicate_zero]
  simp only [XX, ↓VC, VP, TT, Nat.reduceEqDiff, reduceCtorEq, Nat.reduceAdd, Nat.reduceSub, Nat.reduceLT, Nat.reduceMul, Nat.reducePow, Nat.reduceLeDiff, Int.reduceToNat, Int.reduceLE, Int.reduceLT, Int.reducePow]
  refine kCall_val (c_bytes_LastIndexByte l c 1 hc (by omega)) (by rfl) [(0, 0)] (by simp [CALL]) (by simp [CALL, cellsAt]) (by simp [CALL]) (by simp [okL_bs]) ?_
  simp only [CALL, ↓VC, VP, TT, Nat.reduceEqDiff, reduceCtorEq, Nat.reduceAdd, Nat.reduceSub, Nat.reduceLT, Nat.reduceMul, Nat.reducePow, Nat.reduceLeDiff, Int.reduceToNat, Int.reduceLE, Int.reduceLT, Int.reducePow]
  have hr := lastF_range l 1 l.length
  refine kGd_split rfl (fun h => ?_) (fun h => ?_)
  · simp only [decide_eq_true_eq] at h
    simp only [↓VC, VP, TT, Nat.reduceEqDiff, reduceCtorEq, Nat.reduceAdd, Nat.reduceSub, Nat.reduceLT, Nat.reduceMul, Nat.reducePow, Nat.reduceLeDiff, Int.reduceToNat, Int.reduceLE, Int.reduceLT, Int.reducePow]
    refine ⟨_, _, [0], ⟨0, trivial, rfl, rfl⟩, ?_⟩
    rw [unp_last_neg h]
    simp [-List.reduceReplicate, LES, unpV]
  · simp only [decide_eq_false_iff_not] at h
    obtain ⟨e, he⟩ : ∃ e : Nat, lastF l 1 l.length = e := ⟨(lastF l 1 l.length).toNat, by omega⟩
    have hlt : (l.take e).length = e := by rw [List.length_take]; omega
    have hu := unp_last he
    simp only [↓VC, VP, TT, Nat.reduceEqDiff, reduceCtorEq, Nat.reduceAdd, Nat.reduceSub, Nat.reduceLT, Nat.reduceMul, Nat.reducePow, Nat.reduceLeDiff, Int.reduceToNat, Int.reduceLE, Int.reduceLT, Int.reducePow, he]
    refine ⟨by omega, ?_⟩
    refine kCall_Ret (c_impl_padded (l.take e) c (by omega) (by omega)) (by rfl) [(0, 0)] (by simp [CALL, hlt]) (by simp [CALL, cellsAt, bs_take, bs_length, hlt]) (by simp [CALL]) (by simp [okL_bs]) (by simp) fun r _ => ?_
    simp only [CALL, ↓VC, VP, TT, Nat.reduceEqDiff, reduceCtorEq, Nat.reduceAdd, Nat.reduceSub, Nat.reduceLT, Nat.reduceMul, Nat.reducePow, Nat.reduceLeDiff, Int.reduceToNat, Int.reduceLE, Int.reduceLT, Int.reducePow, instL_room]
    refine kCall_val (c_bytes_Equal (padL (l.take e)) l ((padL (l.take e)).length + r) c (by omega) hc) (by rfl) [(1, 0), (0, 0)] (by simp [CALL]) (by simp [CALL, cellsAt, take_room]) (by simp [CALL]) (by simp [okL_bs]) ?_
    simp only [CALL, ↓VC, VP, TT, Nat.reduceEqDiff, reduceCtorEq, Nat.reduceAdd, Nat.reduceSub, Nat.reduceLT, Nat.reduceMul, Nat.reducePow, Nat.reduceLeDiff, Int.reduceToNat, Int.reduceLE, Int.reduceLT, Int.reducePow]
    refine kGd_split rfl (fun h1 => ?_) (fun h1 => ?_)
    · simp only [↓VC, VP, TT, Nat.reduceEqDiff, reduceCtorEq, Nat.reduceAdd, Nat.reduceSub, Nat.reduceLT, Nat.reduceMul, Nat.reducePow, Nat.reduceLeDiff, Int.reduceToNat, Int.reduceLE, Int.reduceLT, Int.reducePow]
      refine ⟨_, _, [0], ⟨0, trivial, rfl, rfl⟩, ?_⟩
      rw [hu, if_neg (fun hh => by rw [hh.1] at h1; simp at h1)]
      simp [-List.reduceReplicate, LES, unpV]
    · have hpl : padL (l.take e) = l := by simpa using h1
      simp only [↓VC, VP, TT, Nat.reduceEqDiff, reduceCtorEq, Nat.reduceAdd, Nat.reduceSub, Nat.reduceLT, Nat.reduceMul, Nat.reducePow, Nat.reduceLeDiff, Int.reduceToNat, Int.reduceLE, Int.reduceLT, Int.reducePow]
      refine ⟨fun h2 => ⟨_, _, [0], ⟨0, trivial, rfl, rfl⟩, ?_⟩, fun h2 => ⟨by omega, ?_⟩⟩
      · rw [hu, if_neg (by omega)]
        simp [-List.reduceReplicate, LES, unpV]
      · refine kCall_Ret (c_slices_Clone (l.take e) c (by omega) (by omega)) (by rfl) [(0, 0)] (by simp [CALL, hlt]) (by simp [CALL, cellsAt, bs_take, bs_length, hlt]) (by simp [CALL]) (by simp [okL_bs]) (by rintro (_ | r) <;> simp) fun o ho => ?_
        cases o with
        | none => exact absurd (ho rfl).2 (by omega)
        | some r =>
          simp only [CALL, ↓VC, VP, TT, Nat.reduceEqDiff, reduceCtorEq, Nat.reduceAdd, Nat.reduceSub, Nat.reduceLT, Nat.reduceMul, Nat.reducePow, Nat.reduceLeDiff, Int.reduceToNat, Int.reduceLE, Int.reduceLT, Int.reducePow, instL_room]
          refine ⟨_, _, [0, 2], ⟨r, trivial, rfl, rfl⟩, ?_⟩
          rw [hu, if_pos ⟨hpl, by omega⟩]
          simp [-List.reduceReplicate, LES, unpV, hlt]
theorem c_spec_l07Unpad (l : List UInt8) (c : Nat) (hc : l.length ≤ c) (hm : l.length ≤ 1048576) : LC Tryz.prog 126 [.s 0 0 l.length c] [⟨false, bs l⟩] (Ret [⟨false, bs l⟩] (fun _ : Nat × Option (List UInt8) => True) fun x => match unp l with
    | some t => unpV (some t) x.1
    | none => match x.2 with
      | none => (.t [.c (.slice none 0 0), .c (.bool false)], [])
      | some d => (.t [.s 1 0 d.length (d.length + x.1), .c (.bool false)], [⟨true, bs d ++ List.replicate x.1 .j⟩])) := by
  refine LC_of (X := XX (fun | 7 => .one 0 (.one 1 (.one 2 (.one 4 (.one 5 (.one 6 (.one 7 (.one 8 (.one 3 (.one 9 (.one 10 (.one 11 (.one 12 (.one 13 (.one 14 .nil)))))))))))))) | _ => .nil) (fun _ => []) [15, 71, 72, 73, 79, 80, 87, 90, 91, 93, 99, 119, 137, 176, 177, 203, 204, 212, 219] 1) envOK Tryz.func126 (by kernel_rfl) (by kernel_rfl) rfl (Nat.le_of_ble_eq_true (by kernel_rfl)) ?_
  simp only [kFun, Tryz.f126, List.length_nil, List.length_cons, Nat.sub_zero, Nat.reduceSub, Nat.reduceAdd, List.nil_append, List.cons_append, List.replicate_succ, List.replicate_zero]
  simp only [XX, ↓VC, VP, TT, Nat.reduceEqDiff, reduceCtorEq, Nat.reduceAdd, Nat.reduceSub, Nat.reduceLT, Nat.reduceMul, Nat.reducePow, Nat.reduceLeDiff, Int.reduceToNat, Int.reduceLE, Int.reduceLT, Int.reducePow]
  have e16 : (l.length : Int).tmod 16 = ((l.length % 16 : Nat) : Int) := by rw [Int.tmod_eq_emod_of_nonneg (by omega)]; omega
  refine kGd_split rfl (fun h => ?_) (fun h => ?_)
  · simp only [beq_iff_eq] at h
    simp only [↓VC, VP, TT, Nat.reduceEqDiff, reduceCtorEq, Nat.reduceAdd, Nat.reduceSub, Nat.reduceLT, Nat.reduceMul, Nat.reducePow, Nat.reduceLeDiff, Int.reduceToNat, Int.reduceLE, Int.reduceLT, Int.reducePow]
    refine ⟨_, _, [0], ⟨(0, none), trivial, rfl, rfl⟩, ?_⟩
    rw [unp_len16 (.inl (by omega))]
    simp [-List.reduceReplicate, LES]
  · simp only [beq_eq_false_iff_ne] at h
    simp only [↓VC, VP, TT, Nat.reduceEqDiff, reduceCtorEq, Nat.reduceAdd, Nat.reduceSub, Nat.reduceLT, Nat.reduceMul, Nat.reducePow, Nat.reduceLeDiff, Int.reduceToNat, Int.reduceLE, Int.reduceLT, Int.reducePow, e16]
    refine ⟨by omega, fun h2 => ⟨_, _, [0], ⟨(0, none), trivial, rfl, rfl⟩, ?_⟩, fun h2 => ?_⟩
    · rw [bne_iff_ne] at h2
      rw [unp_len16 (.inr (by omega))]
      simp [-List.reduceReplicate, LES]
    · have h16 : l.length % 16 = 0 := by have := bne_eq_false_iff_eq.1 h2; omega
      rw [wrap_i64 (by omega) (by omega)]
      refine kLoop_of (fun p : Nat => ([.s 0 0 l.length c, .j, .j, .j, .c (.int .i64 (l.length : Nat)), .c (.int .i64 (p : Nat)), .j, .j, .j, .j, .j, .j, .j, .j, .j, .j, .j, .j, .j, .j, .j, .j, .j, .j, .j, .j, .j, .j, .j, .j, .j, .j, .j, .j, .j, .j, .j, .j, .j, .j, .j, .j, .j], [⟨false, bs l⟩])) (fun p => p) (fun p => StopAt l p) (l.length - 1) ⟨by omega, by omega, fun k _ _ => by omega⟩ ⟨[0], by simp [-List.reduceReplicate, LES]; omega⟩ ?_
      intro p hp
      have hp1 := hp.lt
      have hp2 := hp.near
      have hlt : (l.take p).length = p := by rw [List.length_take]; omega
      have ew : IntKind.i64.wrap ((l.length : Int) - 16) = (l.length : Int) - 16 := wrap_i64 (by omega) (by omega)
      simp only [↓VC, VP, TT, Nat.reduceEqDiff, reduceCtorEq, Nat.reduceAdd, Nat.reduceSub, Nat.reduceLT, Nat.reduceMul, Nat.reducePow, Nat.reduceLeDiff, Int.reduceToNat, Int.reduceLE, Int.reduceLT, Int.reducePow, ew]
      refine kGd_split rfl (fun h3 => ?_) (fun h3 => ?_)
      · simp only [decide_eq_true_eq] at h3
        simp only [↓VC, VP, TT, Nat.reduceEqDiff, reduceCtorEq, Nat.reduceAdd, Nat.reduceSub, Nat.reduceLT, Nat.reduceMul, Nat.reducePow, Nat.reduceLeDiff, Int.reduceToNat, Int.reduceLE, Int.reduceLT, Int.reducePow, Nat.sub_zero]
        refine ⟨by omega, by omega, fun h0 => ?_, fun h0 => ⟨by omega, by omega, by omega, ?_⟩⟩
        · have hz : l.getD p 0 = 0 := UInt8.toNat_inj.1 (by have := beq_iff_eq.1 h0; show (l.getD p 0).toNat = 0; omega)
          obtain ⟨q, rfl⟩ : ∃ q, p = q + 1 := ⟨p - 1, by omega⟩
          refine ⟨q, hp.next (by omega) hz, by omega, [0], ?_⟩
          rw [wrap_i64 (by omega) (by omega), show ((q + 1 : Nat) : Int) - 1 = (q : Nat) by omega]
          simp [-List.reduceReplicate, LES]
        · have hs : l.length = p + 16 ∨ l.getD p 0 ≠ 0 := .inr (fun e => by rw [e] at h0; simp at h0)
          refine kCall_Ret (c_spec_l01Copy (l.take p) c (by omega) (by omega)) (by rfl) [(0, 0)] (by simp [CALL, hlt]) (by simp [CALL, cellsAt, bs_take, bs_length, hlt]) (by simp [CALL]) (by simp [okL_bs]) (by simp) fun r _ => ?_
          simp only [CALL, ↓VC, VP, TT, Nat.reduceEqDiff, reduceCtorEq, Nat.reduceAdd, Nat.reduceSub, Nat.reduceLT, Nat.reduceMul, Nat.reducePow, Nat.reduceLeDiff, Int.reduceToNat, Int.reduceLE, Int.reduceLT, Int.reducePow, instL_room]
          refine kGd_split rfl (fun h4 => ?_) (fun h4 => ?_)
          · have h1 : l.getD p 0 = 1 := UInt8.toNat_inj.1 (by have := beq_iff_eq.1 h4; show (l.getD p 0).toNat = 1; omega)
            simp only [↓VC, VP, TT, Nat.reduceEqDiff, reduceCtorEq, Nat.reduceAdd, Nat.reduceSub, Nat.reduceLT, Nat.reduceMul, Nat.reducePow, Nat.reduceLeDiff, Int.reduceToNat, Int.reduceLE, Int.reduceLT, Int.reducePow]
            by_cases h5 : p ≤ 2000
            · refine ⟨_, _, [0, 1], ⟨(r, none), trivial, rfl, rfl⟩, ?_⟩
              rw [unp_stop_yes hp h16 h1 h5, show decide ((p : Int) ≤ 2000) = true by simp; omega]
              simp [-List.reduceReplicate, LES, unpV, hlt]
            · refine ⟨_, _, [0, 1], ⟨(r, some (l.take p)), trivial, rfl, rfl⟩, ?_⟩
              rw [unp_stop_no hp hs (fun hh => h5 hh.2), show decide ((p : Int) ≤ 2000) = false by simp; omega]
              simp [-List.reduceReplicate, LES, unpV, hlt]
          · have h1 : l.getD p 0 ≠ 1 := fun e => by rw [e] at h4; simp at h4
            simp only [↓VC, VP, TT, Nat.reduceEqDiff, reduceCtorEq, Nat.reduceAdd, Nat.reduceSub, Nat.reduceLT, Nat.reduceMul, Nat.reducePow, Nat.reduceLeDiff, Int.reduceToNat, Int.reduceLE, Int.reduceLT, Int.reducePow]
            refine ⟨_, _, [0, 1], ⟨(r, some (l.take p)), trivial, rfl, rfl⟩, ?_⟩
            rw [unp_stop_no hp hs (fun hh => h1 hh.1)]
            simp [-List.reduceReplicate, LES, unpV, hlt]
      · simp only [decide_eq_false_iff_not] at h3
        simp only [↓VC, VP, TT, Nat.reduceEqDiff, reduceCtorEq, Nat.reduceAdd, Nat.reduceSub, Nat.reduceLT, Nat.reduceMul, Nat.reducePow, Nat.reduceLeDiff, Int.reduceToNat, Int.reduceLE, Int.reduceLT, Int.reducePow, Nat.sub_zero]
        have hs : l.length = p + 16 ∨ l.getD p 0 ≠ 0 := .inl (by omega)
        refine ⟨by omega, by omega, by omega, ?_⟩
        refine kCall_Ret (c_spec_l01Copy (l.take p) c (by omega) (by omega)) (by rfl) [(0, 0)] (by simp [CALL, hlt]) (by simp [CALL, cellsAt, bs_take, bs_length, hlt]) (by simp [CALL]) (by simp [okL_bs]) (by simp) fun r _ => ?_
        simp only [CALL, ↓VC, VP, TT, Nat.reduceEqDiff, reduceCtorEq, Nat.reduceAdd, Nat.reduceSub, Nat.reduceLT, Nat.reduceMul, Nat.reducePow, Nat.reduceLeDiff, Int.reduceToNat, Int.reduceLE, Int.reduceLT, Int.reducePow, instL_room]
        refine kGd_split rfl (fun h4 => ?_) (fun h4 => ?_)
        · have h1 : l.getD p 0 = 1 := UInt8.toNat_inj.1 (by have := beq_iff_eq.1 h4; show (l.getD p 0).toNat = 1; omega)
          simp only [↓VC, VP, TT, Nat.reduceEqDiff, reduceCtorEq, Nat.reduceAdd, Nat.reduceSub, Nat.reduceLT, Nat.reduceMul, Nat.reducePow, Nat.reduceLeDiff, Int.reduceToNat, Int.reduceLE, Int.reduceLT, Int.reducePow]
          by_cases h5 : p ≤ 2000
          · refine ⟨_, _, [0, 1], ⟨(r, none), trivial, rfl, rfl⟩, ?_⟩
            rw [unp_stop_yes hp h16 h1 h5, show decide ((p : Int) ≤ 2000) = true by simp; omega]
            simp [-List.reduceReplicate, LES, unpV, hlt]
          · refine ⟨_, _, [0, 1], ⟨(r, some (l.take p)), trivial, rfl, rfl⟩, ?_⟩
            rw [unp_stop_no hp hs (fun hh => h5 hh.2), show decide ((p : Int) ≤ 2000) = false by simp; omega]
            simp [-List.reduceReplicate, LES, unpV, hlt]
        · have h1 : l.getD p 0 ≠ 1 := fun e => by rw [e] at h4; simp at h4
          simp only [↓VC, VP, TT, Nat.reduceEqDiff, reduceCtorEq, Nat.reduceAdd, Nat.reduceSub, Nat.reduceLT, Nat.reduceMul, Nat.reducePow, Nat.reduceLeDiff, Int.reduceToNat, Int.reduceLE, Int.reduceLT, Int.reducePow]
          refine ⟨_, _, [0, 1], ⟨(r, some (l.take p)), trivial, rfl, rfl⟩, ?_⟩
          rw [unp_stop_no hp hs (fun hh => h1 hh.1)]
          simp [-List.reduceReplicate, LES, unpV, hlt]
theorem c_impl_isHidden (l : List UInt8) (c : Nat) : LC Tryz.prog 124 [.s 0 0 l.length c] [⟨false, bs l⟩] (fun v hp => v = .c (.bool (decide (l.length ≤ 2016))) ∧ hp = [⟨false, bs l⟩]) := by
  refine LC_of (X := XX (fun _ => .nil) (fun _ => []) [15, 71, 72, 73, 79, 80, 87, 90, 91, 93, 99, 119, 137, 176, 177, 203, 204, 212, 219] 1) envOK Tryz.func124 (by kernel_rfl) (by kernel_rfl) rfl (Nat.le_of_ble_eq_true (by kernel_rfl)) ?_
  simp only [kFun, Tryz.f124, List.length_nil, List.length_cons, Nat.sub_zero, Nat.reduceSub, Nat.reduceAdd, List.nil_append, List.cons_append, List.replicate_succ, List.replicate_zero]
  simp only [XX, ↓VC, VP, TT, Nat.reduceEqDiff, reduceCtorEq, Nat.reduceAdd, Nat.reduceSub, Nat.reduceLT, Nat.reduceMul, Nat.reducePow, Nat.reduceLeDiff, Int.reduceToNat, Int.reduceLE, Int.reduceLT, Int.reducePow]
  refine ⟨_, _, [0], ⟨rfl, rfl⟩, ?_⟩
  rw [show decide ((l.length : Int) ≤ 2016) = decide (l.length ≤ 2016) from by simp only [decide_eq_decide]; omega]
  simp [-List.reduceReplicate, LES]
noncomputable def unpadR (l : List UInt8) : Except Int (List UInt8) := if l.length ≤ 2016 then (match unp l with | some t => .ok t | none => .error 5) else .error 2
theorem unpadR_len {l out : List UInt8} (hm : l.length ≤ 1048576) (h : unpadR l = .ok out) : out.length ≤ 4194304 := by
  unfold unpadR at h
  split at h
  · cases hu : unp l with
    | none => rw [hu] at h; cases h
    | some t => rw [hu] at h; cases h; have := unp_len hu; omega
  · cases h
theorem c_spec_UnpadBlocks (l : List UInt8) (c : Nat) (hc : l.length ≤ c) : LC Tryz.prog 59 [.s 0 0 l.length c] [⟨false, bs l⟩] (Ret [⟨false, bs l⟩] (fun _ : Nat => True) (outV (unpadR l))) := by
  refine LC_of (X := XX (fun _ => .nil) (fun _ => []) [15, 71, 72, 73, 79, 80, 87, 90, 91, 93, 99, 119, 137, 176, 177, 203, 204, 212, 219] 1) envOK Tryz.func59 (by kernel_rfl) (by kernel_rfl) rfl (Nat.le_of_ble_eq_true (by kernel_rfl)) ?_
  simp only [kFun, Tryz.f59, List.length_nil, List.length_cons, Nat.sub_zero, Nat.reduceSub, Nat.reduceAdd, List.nil_append, List.cons_append, List.replicate_succ, List.replicate_zero]
  simp only [XX, ↓VC, VP, TT, Nat.reduceEqDiff, reduceCtorEq, Nat.reduceAdd, Nat.reduceSub, Nat.reduceLT, Nat.reduceMul, Nat.reducePow, Nat.reduceLeDiff, Int.reduceToNat, Int.reduceLE, Int.reduceLT, Int.reducePow]
  refine ⟨fun h => ⟨_, _, [0], ⟨0, trivial, rfl, rfl⟩, ?_⟩, fun h => ?_⟩
  · rw [show unpadR l = .error 2 by unfold unpadR; rw [if_neg (by omega)]]
    simp [-List.reduceReplicate, LES, outV]
  · have hcon := c_spec_l07Unpad l c hc (by omega)
    have hR : unpadR l = (match unp l with | some t => .ok t | none => .error 5) := by unfold unpadR; rw [if_pos (by omega)]
    cases hu : unp l with
    | some t =>
      rw [hu] at hcon hR
      refine kCall_Ret hcon (by rfl) [(0, 0)] (by simp [CALL]) (by simp [CALL, cellsAt]) (by simp [CALL]) (by simp [okL_bs]) (by simp [unpV]) fun x _ => ?_
      simp only [unpV, CALL, ↓VC, VP, TT, Nat.reduceEqDiff, reduceCtorEq, Nat.reduceAdd, Nat.reduceSub, Nat.reduceLT, Nat.reduceMul, Nat.reducePow, Nat.reduceLeDiff, Int.reduceToNat, Int.reduceLE, Int.reduceLT, Int.reducePow, instL_room, Bool.not_true, Bool.not_false]
      refine ⟨_, _, [0, 1], ⟨x.1, trivial, rfl, rfl⟩, ?_⟩
      rw [hR]
      simp [-List.reduceReplicate, LES, outV]
    | none =>
      rw [hu] at hcon hR
      refine kCall_Ret hcon (by rfl) [(0, 0)] (by simp [CALL]) (by simp [CALL, cellsAt]) (by simp [CALL]) (by simp [okL_bs]) (by rintro ⟨r, _ | d⟩ <;> simp) fun x _ => ?_
      obtain ⟨r, d⟩ := x
      cases d with
      | none =>
        simp only [CALL, ↓VC, VP, TT, Nat.reduceEqDiff, reduceCtorEq, Nat.reduceAdd, Nat.reduceSub, Nat.reduceLT, Nat.reduceMul, Nat.reducePow, Nat.reduceLeDiff, Int.reduceToNat, Int.reduceLE, Int.reduceLT, Int.reducePow, instL_room, Bool.not_true, Bool.not_false]
        refine ⟨_, _, [0], ⟨0, trivial, rfl, rfl⟩, ?_⟩
        rw [hR]
        simp [-List.reduceReplicate, LES, outV]
      | some d =>
        simp only [CALL, ↓VC, VP, TT, Nat.reduceEqDiff, reduceCtorEq, Nat.reduceAdd, Nat.reduceSub, Nat.reduceLT, Nat.reduceMul, Nat.reducePow, Nat.reduceLeDiff, Int.reduceToNat, Int.reduceLE, Int.reduceLT, Int.reducePow, instL_room, Bool.not_true, Bool.not_false]
        refine ⟨_, _, [0], ⟨0, trivial, rfl, rfl⟩, ?_⟩
        rw [hR]
        simp [-List.reduceReplicate, LES, outV]
theorem c_impl_UnpadBlocks (l : List UInt8) (c : Nat) (hc : l.length ≤ c) : LC Tryz.prog 57 [.s 0 0 l.length c] [⟨false, bs l⟩] (Ret [⟨false, bs l⟩] (fun _ : Nat => True) (outV (unpadR l))) := by
  refine LC_of (X := XX (fun _ => .nil) (fun _ => []) [15, 71, 72, 73, 79, 80, 87, 90, 91, 93, 99, 119, 137, 176, 177, 203, 204, 212, 219] 1) envOK Tryz.func57 (by kernel_rfl) (by kernel_rfl) rfl (Nat.le_of_ble_eq_true (by kernel_rfl)) ?_
  simp only [kFun, Tryz.f57, List.length_nil, List.length_cons, Nat.sub_zero, Nat.reduceSub, Nat.reduceAdd, List.nil_append, List.cons_append, List.replicate_succ, List.replicate_zero]
  simp only [XX, ↓VC, VP, TT, Nat.reduceEqDiff, reduceCtorEq, Nat.reduceAdd, Nat.reduceSub, Nat.reduceLT, Nat.reduceMul, Nat.reducePow, Nat.reduceLeDiff, Int.reduceToNat, Int.reduceLE, Int.reduceLT, Int.reducePow]
  refine kCall_val (c_impl_isHidden l c) (by rfl) [(0, 0)] (by simp [CALL]) (by simp [CALL, cellsAt]) (by simp [CALL]) (by simp [okL_bs]) ?_
  simp only [CALL, ↓VC, VP, TT, Nat.reduceEqDiff, reduceCtorEq, Nat.reduceAdd, Nat.reduceSub, Nat.reduceLT, Nat.reduceMul, Nat.reducePow, Nat.reduceLeDiff, Int.reduceToNat, Int.reduceLE, Int.reduceLT, Int.reducePow]
  refine ⟨fun h => ⟨_, _, [0], ⟨0, trivial, rfl, rfl⟩, ?_⟩, fun h => ?_⟩
  · simp only [Bool.not_eq_true', decide_eq_false_iff_not] at h
    rw [show unpadR l = .error 2 by unfold unpadR; rw [if_neg (by omega)]]
    simp [-List.reduceReplicate, LES, outV]
  · simp only [Bool.not_eq_false', decide_eq_true_eq] at h
    have hcon := c_impl_unpadded l c hc (by omega)
    have hR : unpadR l = (match unp l with | some t => .ok t | none => .error 5) := by unfold unpadR; rw [if_pos (by omega)]
    cases hu : unp l with
    | some t =>
      rw [hu] at hcon hR
      refine kCall_Ret hcon (by rfl) [(0, 0)] (by simp [CALL]) (by simp [CALL, cellsAt]) (by simp [CALL]) (by simp [okL_bs]) (by simp [unpV]) fun r _ => ?_
      simp only [unpV, CALL, ↓VC, VP, TT, Nat.reduceEqDiff, reduceCtorEq, Nat.reduceAdd, Nat.reduceSub, Nat.reduceLT, Nat.reduceMul, Nat.reducePow, Nat.reduceLeDiff, Int.reduceToNat, Int.reduceLE, Int.reduceLT, Int.reducePow, instL_room, Bool.not_true, Bool.not_false]
      refine ⟨_, _, [0, 1], ⟨r, trivial, rfl, rfl⟩, ?_⟩
      rw [hR]
      simp [-List.reduceReplicate, LES, outV]
    | none =>
      rw [hu] at hcon hR
      refine kCall_Ret hcon (by rfl) [(0, 0)] (by simp [CALL]) (by simp [CALL, cellsAt]) (by simp [CALL]) (by simp [okL_bs]) (by simp [unpV]) fun r _ => ?_
      simp only [unpV, CALL, ↓VC, VP, TT, Nat.reduceEqDiff, reduceCtorEq, Nat.reduceAdd, Nat.reduceSub, Nat.reduceLT, Nat.reduceMul, Nat.reducePow, Nat.reduceLeDiff, Int.reduceToNat, Int.reduceLE, Int.reduceLT, Int.reducePow, instL_room, Bool.not_true, Bool.not_false]
      refine ⟨_, _, [0], ⟨0, trivial, rfl, rfl⟩, ?_⟩
      rw [hR]
      simp [-List.reduceReplicate, LES, outV]
end Go.Proofs.YtahnjhppkgndiaaGreat

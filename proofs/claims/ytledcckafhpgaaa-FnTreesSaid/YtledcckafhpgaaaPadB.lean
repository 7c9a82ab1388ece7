import Derived.Test.YtledcckafhpgaaaTk
/- Padding to whole blocks, both ways: the same bytes. -/
set_option linter.unusedSimpArgs false
set_option linter.unusedVariables false
namespace Go.Proofs.Ytledcckafhpgaaa
open Go Go.Vc
theorem one_moreB {A : List UInt8} {x : UInt8} {r' : Nat} : bs A ++ [V.c (.int .u8 (x.toNat : Int))] ++ List.replicate r' V.j = bs (A ++ [x]) ++ List.replicate r' V.j := by
  rw [← bs_append]; rfl
theorem one_more1 {A : List UInt8} {r' : Nat} : bs A ++ [V.c (.int .u8 1)] ++ List.replicate r' V.j = bs (A ++ [1]) ++ List.replicate r' V.j := one_moreB (x := 1)
theorem one_more0 {A : List UInt8} {r' : Nat} : bs A ++ [V.c (.int .u8 0)] ++ List.replicate r' V.j = bs (A ++ [0]) ++ List.replicate r' V.j := one_moreB (x := 0)
/-- The padding: one 1, then zeros to a whole block. -/
def padL (l : List UInt8) : List UInt8 := l ++ 1 :: List.replicate (15 - l.length % 16) 0
theorem padL_len (l : List UInt8) : (padL l).length = l.length + 16 - l.length % 16 := by simp [padL]; omega
def padA (l : List UInt8) (j : Nat) : List UInt8 := l ++ 1 :: List.replicate j 0
theorem padA_len (l : List UInt8) (j : Nat) : (padA l j).length = l.length + 1 + j := by simp [padA]; omega
theorem padA_succ (l : List UInt8) (j : Nat) : padA l j ++ [0] = padA l (j + 1) := by
  simp [padA, List.replicate_succ']
theorem padA_zero (l : List UInt8) : l ++ [1] = padA l 0 := rfl
theorem padA_done (l : List UInt8) : padA l (15 - l.length % 16) = padL l := rfl
set_option maxRecDepth 10000
theorem c_spec_l01Copy (l : List UInt8) (c : Nat) (hc : l.length ≤ c) (hm : l.length ≤ 4194304) : LC Try.prog 81 [.s 0 0 l.length c] [⟨false, bs l⟩] (Ret [⟨false, bs l⟩] (fun _ : Nat => True) fun r => (.s 1 0 l.length (l.length + r), [⟨true, bs l ++ List.replicate r .j⟩])) := by
  refine LC_of (X := XX (fun _ => .nil) (fun _ => []) [22, 24, 25, 36, 42, 47, 90] 1) envOK Try.func81 (by kernel_rfl) (by kernel_rfl) rfl (Nat.le_of_ble_eq_true (by kernel_rfl)) ?_
  simp only [kFun, Try.f81, List.length_nil, List.length_cons, Nat.sub_zero, Nat.reduceSub, Nat.reduceAdd, List.nil_append, List.cons_append, List.replicate_succ, List.replicate_zero]
  simp only [XX, ↓VC, VP, TT, List.getElem?_toArray, Nat.reduceEqDiff, reduceCtorEq, Nat.reduceAdd, Nat.reduceSub, Nat.reduceLT, Nat.reduceMul, Nat.reducePow, Nat.reduceLeDiff, Int.reduceToNat, Int.reduceLE, Int.reduceLT, Int.reducePow]
  refine ⟨by omega, by omega, .inl trivial, .inr trivial, fun r c' hc' _ => ⟨_, _, [0, 2], ⟨r, trivial, rfl, rfl⟩, ?_⟩⟩
  rw [hc']; simp [-List.reduceReplicate, LES]
theorem c_slices_Clone (l : List UInt8) (c : Nat) (hc : l.length ≤ c) (hm : l.length ≤ 4194304) : LC Try.prog 63 [.s 0 0 l.length c] [⟨false, bs l⟩]
    (Ret [⟨false, bs l⟩] (fun o : Option Nat => o = none → l = [] ∧ c = 0) fun o => match o with | some r => (.s 1 0 l.length (l.length + r), [⟨true, bs l ++ List.replicate r .j⟩]) | none => (.c (.slice none 0 0), [])) := by
  refine LC_of (X := XX (fun _ => .nil) (fun _ => []) [22, 24, 25, 36, 42, 47, 90] 1) envOK Try.func63 (by kernel_rfl) (by kernel_rfl) rfl (Nat.le_of_ble_eq_true (by kernel_rfl)) ?_
  simp only [kFun, Try.f63, List.length_nil, List.length_cons, Nat.sub_zero, Nat.reduceSub, Nat.reduceAdd, List.nil_append, List.cons_append, List.replicate_succ, List.replicate_zero]
  simp only [XX, ↓VC, VP, TT, List.getElem?_toArray, Nat.reduceEqDiff, reduceCtorEq, Nat.reduceAdd, Nat.reduceSub, Nat.reduceLT, Nat.reduceMul, Nat.reducePow, Nat.reduceLeDiff, Int.reduceToNat, Int.reduceLE, Int.reduceLT, Int.reducePow]
  refine fun b hb => ⟨fun h => ⟨_, _, [0], ⟨none, fun _ => ?_, rfl, rfl⟩, ?_⟩, fun h => ⟨by omega, by omega, .inl trivial, .inr trivial, fun r c' hc' _ => ⟨_, _, [0, 2], ⟨some r, by simp, rfl, rfl⟩, ?_⟩⟩⟩
  · rcases Nat.eq_zero_or_pos c with h0 | h0
    · exact ⟨List.eq_nil_of_length_eq_zero (by omega), h0⟩
    · rw [hb h0] at h; cases h
  · simp [-List.reduceReplicate, LES]
  · rw [hc']; simp [-List.reduceReplicate, LES]
theorem c_impl_isData (l : List UInt8) (c : Nat) : LC Try.prog 40 [.s 0 0 l.length c] [⟨false, bs l⟩] (fun v hp => v = .c (.bool (decide (l.length ≤ 2000))) ∧ hp = [⟨false, bs l⟩]) := by
  refine LC_of (X := XX (fun _ => .nil) (fun _ => []) [22, 24, 25, 36, 42, 47, 90] 1) envOK Try.func40 (by kernel_rfl) (by kernel_rfl) rfl (Nat.le_of_ble_eq_true (by kernel_rfl)) ?_
  simp only [kFun, Try.f40, List.length_nil, List.length_cons, Nat.sub_zero, Nat.reduceSub, Nat.reduceAdd, List.nil_append, List.cons_append, List.replicate_succ, List.replicate_zero]
  simp only [XX, ↓VC, VP, TT, List.getElem?_toArray, Nat.reduceEqDiff, reduceCtorEq, Nat.reduceAdd, Nat.reduceSub, Nat.reduceLT, Nat.reduceMul, Nat.reducePow, Nat.reduceLeDiff, Int.reduceToNat, Int.reduceLE, Int.reduceLT, Int.reducePow]
  refine ⟨_, _, [0], ⟨rfl, rfl⟩, ?_⟩
  rw [show decide ((l.length : Int) ≤ 2000) = decide (l.length ≤ 2000) from by simp only [decide_eq_decide]; omega]
  simp [-List.reduceReplicate, LES]
/-- What comes back: bytes, or a fault's number. -/
def outV (o : Except Int (List UInt8)) (r : Nat) : V × List Blk := match o with
  | .ok out => (.t [.s 1 0 out.length (out.length + r), .c (.int .i64 0)], [⟨true, bs out ++ List.replicate r .j⟩])
  | .error e => (.t [.c (.slice none 0 0), .c (.int .i64 e)], [])
theorem outV_own (o : Except Int (List UInt8)) : ∀ r, ∀ b ∈ (outV o r).2, b.own = true ∨ b.cells = [] := by
  intro r b hb; cases o <;> simp [outV] at hb; subst hb; exact .inl rfl
def padR (l : List UInt8) : Except Int (List UInt8) := if l.length ≤ 2000 then .ok (padL l) else .error 2
theorem padR_len {l out : List UInt8} (hm : l.length ≤ 1048576) (h : padR l = .ok out) : out.length ≤ 4194304 := by
  unfold padR at h
  split at h
  · cases h; rw [padL_len]; omega
  · cases h
end Go.Proofs.Ytledcckafhpgaaa

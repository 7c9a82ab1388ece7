import Derived.Test.YtjakgjelnbpmnaaFieldM
import Derived.Test.YtjakgjelnbpmnaaListsM
import Derived.Test.YtjakgjelnbpmnaaEnv
/- Padding to whole blocks, both ways: the same bytes. -/
set_option linter.unusedSimpArgs false
set_option linter.unusedVariables false
namespace Go.Proofs.Ytjakgjelnbpmnaa
open Go Go.Vc
theorem one_moreB {A : List UInt8} {x : UInt8} {r' : Nat} : bs A ++ [V.c (.int .u8 (x.toNat : Int))] ++ List.replicate r' V.j = bs (A ++ [x]) ++ List.replicate r' V.j := by
  rw [← bs_append]; rfl
theorem one_more1 {A : List UInt8} {r' : Nat} : bs A ++ [V.c (.int .u8 1)] ++ List.replicate r' V.j = bs (A ++ [1]) ++ List.replicate r' V.j := one_moreB (x := 1)
theorem one_more0 {A : List UInt8} {r' : Nat} : bs A ++ [V.c (.int .u8 0)] ++ List.replicate r' V.j = bs (A ++ [0]) ++ List.replicate r' V.j := one_moreB (x := 0)
/-- The padding: one 1, then zeros to a whole block. -/
def padL (l : List UInt8) : List UInt8 := l ++ 1 :: List.replicate (15 - l.length % 16) 0
theorem padL_len (l : List UInt8) : (padL l).length = l.length + 16 - l.length % 16 := by simp [padL]; omega
def padA (l : List UInt8) (j : Nat) : List UInt8 := l ++ 1 :: List.replicate j 0
theorem padA_len (l : List UInt8) (j : Nat) : (padA l j).length = l.length + 1 + j := by simp [padA]; omega
theorem padA_succ (l : List UInt8) (j : Nat) : padA l j ++ [0] = padA l (j + 1) := by
  simp [padA, List.replicate_succ']
theorem padA_zero (l : List UInt8) : l ++ [1] = padA l 0 := rfl
theorem padA_done (l : List UInt8) : padA l (15 - l.length % 16) = padL l := rfl
set_option maxRecDepth 10000
/-- What comes back: bytes, or a fault's number. -/
def outV (o : Except Int (List UInt8)) (r : Nat) : V × List Blk := match o with
  | .ok out => (.t [.s 1 0 out.length (out.length + r), .c (.int .i64 0)], [⟨true, bs out ++ List.replicate r .j⟩])
  | .error e => (.t [.c (.slice none 0 0), .c (.int .i64 e)], [])
theorem outV_own (o : Except Int (List UInt8)) : ∀ r, ∀ b ∈ (outV o r).2, b.own = true ∨ b.cells = [] := by
  intro r b hb; cases o <;> simp [outV] at hb; subst hb; exact .inl rfl
def padR (l : List UInt8) : Except Int (List UInt8) := if l.length ≤ 2000 then .ok (padL l) else .error 2
theorem padR_len {l out : List UInt8} (hm : l.length ≤ 1048576) (h : padR l = .ok out) : out.length ≤ 4194304 := by
  unfold padR at h
  split at h
  · cases h; rw [padL_len]; omega
  · cases h
end Go.Proofs.Ytjakgjelnbpmnaa
/- Padding of messages, both ways: the same bytes. -/
set_option linter.unusedSimpArgs false
set_option linter.unusedVariables false
namespace Go.Proofs.Ytjakgjelnbpmnaa
open Go Go.Vc
theorem one_more128 {A : List UInt8} {r' : Nat} : bs A ++ [V.c (.int .u8 128)] ++ List.replicate r' V.j = bs (A ++ [128]) ++ List.replicate r' V.j := one_moreB (x := 128)
def padMA (l : List UInt8) (j : Nat) : List UInt8 := l ++ 128 :: List.replicate j 0
theorem padMA_len (l : List UInt8) (j : Nat) : (padMA l j).length = l.length + 1 + j := by simp [padMA]; omega
theorem padMA_succ (l : List UInt8) (j : Nat) : padMA l j ++ [0] = padMA l (j + 1) := by
  simp [padMA, List.replicate_succ']
theorem padMA_zero (l : List UInt8) : l ++ [128] = padMA l 0 := rfl
def mz (l : List UInt8) : Nat := (23 - l.length % 16) % 16
theorem mz_spec (l : List UInt8) {j : Nat} (h : j ≤ mz l) (h8 : (l.length + 1 + j) % 16 ≠ 8) : j < mz l := by
  unfold mz at *; omega
theorem mz_done (l : List UInt8) {j : Nat} (h : j ≤ mz l) (h8 : (l.length + 1 + j) % 16 = 8) : j = mz l := by
  unfold mz at *; omega
/-- The first j bytes of a length, the greatest first. -/
def beA (n j : Nat) : List UInt8 := (List.range j).map fun t => UInt8.ofInt ((n : Int).fdiv (2 ^ (8 * (7 - t))))
theorem beA_len (n j : Nat) : (beA n j).length = j := by simp [beA]
theorem beA_succ (n j : Nat) : beA n j ++ [UInt8.ofInt ((n : Int).fdiv (2 ^ (8 * (7 - j))))] = beA n (j + 1) := by simp [beA, List.range_succ]
def padM (l : List UInt8) : List UInt8 := padMA l (mz l) ++ beA l.length 8
theorem padM_len (l : List UInt8) : (padM l).length = l.length + 1 + mz l + 8 := by simp [padM, padMA_len, beA_len]
theorem mz_lt (l : List UInt8) : mz l < 16 := by unfold mz; omega
theorem and255 {m : Int} (h : 0 ≤ m) (h' : m < 9223372036854775808) : bitI .and .i64 m 255 = m % 256 := by
  obtain ⟨n, rfl⟩ := Int.eq_ofNat_of_zero_le h
  show IntKind.i64.wrap (((BitVec.ofInt 64 (n : Int) &&& BitVec.ofInt 64 255).toNat : Nat) : Int) = _
  have e1 : (BitVec.ofInt 64 (n : Int) &&& BitVec.ofInt 64 255).toNat = n % 256 := by
    rw [BitVec.toNat_and, show (BitVec.ofInt 64 255).toNat = 2 ^ 8 - 1 from rfl, Nat.and_two_pow_sub_one_eq_mod]
    simp
  rw [e1, wrap_i64 (by omega) (by omega)]; omega
theorem byte_of (n k : Nat) (hn : n < 9223372036854775808) : IntKind.u8.wrap (bitI .and .i64 ((n : Int).fdiv (2 ^ k)) 255) = ((UInt8.ofInt ((n : Int).fdiv (2 ^ k))).toNat : Int) := by
  have e : (n : Int).fdiv (2 ^ k) = ((n / 2 ^ k : Nat) : Int) := by
    rw [Int.fdiv_eq_ediv_of_nonneg _ (Int.le_of_lt (Int.pow_pos (by omega)))]; norm_cast
  have h2 : n / 2 ^ k ≤ n := Nat.div_le_self _ _
  rw [e]
  generalize n / 2 ^ k = q at h2
  rw [and255 (by omega) (by omega), wrap_u8]
  rw [ofInt_eq (a := (q : Int) % 256) (b := (q : Int)) (by omega)]
set_option maxRecDepth 10000
def padMR (l : List UInt8) : Except Int (List UInt8) := if l.length ≤ 2000 then .ok (padM l) else .error 2
theorem padMR_len {l out : List UInt8} (hm : l.length ≤ 1048576) (h : padMR l = .ok out) : out.length ≤ 4194304 := by
  unfold padMR at h
  split at h
  · cases h; rw [padM_len]; have := mz_lt l; omega
  · cases h
end Go.Proofs.Ytjakgjelnbpmnaa
/- Bytes joined: slices.Concat of one, two or three parts. -/
set_option linter.unusedSimpArgs false
set_option linter.unusedVariables false
namespace Go.Proofs.Ytjakgjelnbpmnaa
open Go Go.Vc
set_option maxRecDepth 10000
set_option maxHeartbeats 4000000
theorem zeros_flat {n : Nat} : (List.replicate n [V.c (.int .u8 0)]).flatten = bs (List.replicate n 0) := flat_zeros
theorem c_Grow (n : Nat) (hn : n ≤ 8388608) : LC Try.prog 85 [.c (.slice none 0 0), .c (.int .i64 (n))] []
    (Ret [] (fun o : Option Nat => o = none → n = 0) fun o => match o with | some r => (.s 0 0 0 (n + r), [⟨true, bs (List.replicate n 0) ++ List.replicate r .j⟩]) | none => (.c (.slice none 0 0), [])) := by
  refine LC_of (X := XX (fun _ => .nil) (fun _ => []) [27, 28, 29, 44, 47, 52, 53, 54, 55, 74, 78, 88, 89, 99] 0) envOK Try.func85 (by kernel_rfl) (by kernel_rfl) rfl (Nat.le_of_ble_eq_true (by kernel_rfl)) ?_
  simp only [kFun, Try.f85, List.length_nil, List.length_cons, Nat.sub_zero, Nat.reduceSub, Nat.reduceAdd, List.nil_append, List.cons_append, List.replicate_succ, List.replicate_zero]
  simp only [XX, ↓VC, VP, TT, Nat.reduceEqDiff, reduceCtorEq, Nat.reduceAdd, Nat.reduceSub, Nat.reduceLT, Nat.reduceMul, Nat.reducePow, Nat.reduceLeDiff, Int.reduceToNat, Int.reduceLE, Int.reduceLT, Int.reducePow]
  have w : IntKind.i64.wrap ((n : Int) - IntKind.i64.wrap (((0 : Nat) : Int) - ((0 : Nat) : Int))) = (n : Int) := by
    rw [wrap_i64 (n := ((0 : Nat) : Int) - ((0 : Nat) : Int)) (by omega) (by omega), wrap_i64 (by omega) (by omega)]; omega
  rw [w]
  refine ⟨fun h => by omega, fun _ => ⟨fun h => ⟨by omega, by omega, by omega, by omega, fun r c' hc hc' => ?_⟩, fun h => ⟨_, _, [], ⟨none, fun _ => by omega, rfl, rfl⟩, by simp [-List.reduceReplicate, LES]⟩⟩⟩
  rw [Int.toNat_natCast] at hc hc' ⊢
  refine ⟨by omega, _, _, [0], ⟨some r, by simp, rfl, rfl⟩, ?_⟩
  rw [flat_zeros, show c' - 0 = n + r by omega]
  simp [-List.reduceReplicate, LES]
def tot2 (l1 l2 : List UInt8) : Nat → Nat
  | 0 => 0
  | 1 => 0 + l1.length
  | _ => 0 + l1.length + l2.length
def cat2 (l1 l2 : List UInt8) : Nat → List UInt8
  | 0 => []
  | 1 => [] ++ l1
  | _ => [] ++ l1 ++ l2
def SC2 (l1 l2 : List UInt8) (c1 c2 : Nat) (n : Nat) (s : Nat × Nat × Nat) : List V × List Blk := match s.1 with
  | 0 => ([.j, .j, .j, .j, .j, .j, .c (.slice none 0 0), .j, .j, .j, .j, .j, .j, .j, .j, .j, .j, .j, .j, .j, .j, .j, .j, .j, .j, .s 0 0 2 2, .c (.int .i64 (2)), .c (.int .i64 (s.2.1)), .j, .j, .j, .j, .j, .j, .j, .j], [⟨false, [.s 1 0 l1.length c1, .s 2 0 l2.length c2]⟩, ⟨false, bs l1⟩, ⟨false, bs l2⟩])
  | 1 => ([.j, .j, .j, .j, .j, .j, .s 3 0 0 (n + s.2.2), .j, .j, .j, .j, .j, .j, .j, .j, .j, .j, .j, .j, .j, .j, .j, .j, .j, .j, .s 0 0 2 2, .c (.int .i64 (2)), .c (.int .i64 (s.2.1)), .j, .j, .j, .j, .j, .j, .j, .j], [⟨false, [.s 1 0 l1.length c1, .s 2 0 l2.length c2]⟩, ⟨false, bs l1⟩, ⟨false, bs l2⟩, ⟨true, bs (List.replicate n 0) ++ List.replicate s.2.2 .j⟩])
  | _ => ([.j, .j, .j, .j, .j, .j, .s 3 0 (cat2 l1 l2 s.2.1).length ((cat2 l1 l2 s.2.1).length + s.2.2), .j, .j, .j, .j, .j, .j, .j, .j, .j, .j, .j, .j, .j, .j, .j, .j, .j, .j, .s 0 0 2 2, .c (.int .i64 (2)), .c (.int .i64 (s.2.1)), .j, .j, .j, .j, .j, .j, .j, .j], [⟨false, [.s 1 0 l1.length c1, .s 2 0 l2.length c2]⟩, ⟨false, bs l1⟩, ⟨false, bs l2⟩, ⟨true, bs (cat2 l1 l2 s.2.1) ++ List.replicate s.2.2 .j⟩])
theorem c_Concat2 (l1 l2 : List UInt8) (c1 c2 : Nat) (hc1 : l1.length ≤ c1) (hc2 : l2.length ≤ c2) (hm : l1.length + l2.length ≤ 8388608) : LC Try.prog 73 [.s 0 0 2 2] [⟨false, [.s 1 0 l1.length c1, .s 2 0 l2.length c2]⟩, ⟨false, bs l1⟩, ⟨false, bs l2⟩]
    (Ret [⟨false, [.s 1 0 l1.length c1, .s 2 0 l2.length c2]⟩, ⟨false, bs l1⟩, ⟨false, bs l2⟩] (fun _ : Nat => True) fun r => (.s 3 0 (l1 ++ l2).length ((l1 ++ l2).length + r), [⟨true, bs (l1 ++ l2) ++ List.replicate r .j⟩])) := by
  refine LC_of (X := XX (fun _ => .nil) (fun _ => []) [27, 28, 29, 44, 47, 52, 53, 54, 55, 74, 78, 88, 89, 99] 3) envOK Try.func73 (by kernel_rfl) (by kernel_rfl) rfl (Nat.le_of_ble_eq_true (by kernel_rfl)) ?_
  simp only [kFun, Try.f73, List.length_nil, List.length_cons, Nat.sub_zero, Nat.reduceSub, Nat.reduceAdd, List.nil_append, List.cons_append, List.replicate_succ, List.replicate_zero]
  simp only [XX, ↓VC, VP, TT, Nat.reduceEqDiff, reduceCtorEq, Nat.reduceAdd, Nat.reduceSub, Nat.reduceLT, Nat.reduceMul, Nat.reducePow, Nat.reduceLeDiff, Int.reduceToNat, Int.reduceLE, Int.reduceLT, Int.reducePow]
  refine kLoop_of (fun i : Nat => ([.s 0 0 2 2, .j, .j, .c (.int .i64 ((tot2 l1 l2 i : Nat))), .j, .j, .j, .j, .j, .s 0 0 2 2, .c (.int .i64 (2)), .c (.int .i64 (i)), .j, .j, .j, .j, .j, .j, .j, .j, .j, .j, .j, .j, .j, .j, .j, .j, .j, .j, .j, .j, .j, .j, .j, .j], [⟨false, [.s 1 0 l1.length c1, .s 2 0 l2.length c2]⟩, ⟨false, bs l1⟩, ⟨false, bs l2⟩])) (fun i => 2 - i) (fun i => i ≤ 2) 0 (by omega) ⟨[0, 1, 2], by simp [-List.reduceReplicate, LES, tot2]⟩ ?_
  intro i hi
  rcases (by omega : i = 0 ∨ i = 1 ∨ i = 2) with rfl | rfl | rfl
  · have w : IntKind.i64.wrap (((tot2 l1 l2 0 : Nat) : Int) + (l1.length : Int)) = ((tot2 l1 l2 1 : Nat) : Int) := by
      rw [wrap_i64 (by simp only [tot2]; omega) (by simp only [tot2]; omega)]; simp only [tot2]; omega
    simp only [↓VC, VP, TT, Nat.reduceEqDiff, reduceCtorEq, Nat.reduceAdd, Nat.reduceSub, Nat.reduceLT, Nat.reduceMul, Nat.reducePow, Nat.reduceLeDiff, Int.reduceToNat, Int.reduceLE, Int.reduceLT, Int.reducePow, (eq_true (by decide) : (((0 : Nat) : Int) < 2) = True), (eq_true (by decide) : (((0 : Nat) : Int) < ((2 : Nat) : Int)) = True), decide_true, w]
    repeat (refine ⟨by first | omega | (simp; done) | decide, ?_⟩)
    refine fun _ => ⟨1, by omega, by omega, [0, 1, 2], ?_⟩
    rw [wrap_i64 (by omega) (by omega)]
    simp [-List.reduceReplicate, LES]
  · have w : IntKind.i64.wrap (((tot2 l1 l2 1 : Nat) : Int) + (l2.length : Int)) = ((tot2 l1 l2 2 : Nat) : Int) := by
      rw [wrap_i64 (by simp only [tot2]; omega) (by simp only [tot2]; omega)]; simp only [tot2]; omega
    simp only [↓VC, VP, TT, Nat.reduceEqDiff, reduceCtorEq, Nat.reduceAdd, Nat.reduceSub, Nat.reduceLT, Nat.reduceMul, Nat.reducePow, Nat.reduceLeDiff, Int.reduceToNat, Int.reduceLE, Int.reduceLT, Int.reducePow, (eq_true (by decide) : (((1 : Nat) : Int) < 2) = True), (eq_true (by decide) : (((1 : Nat) : Int) < ((2 : Nat) : Int)) = True), decide_true, w]
    repeat (refine ⟨by first | omega | (simp; done) | decide, ?_⟩)
    refine fun _ => ⟨2, by omega, by omega, [0, 1, 2], ?_⟩
    rw [wrap_i64 (by omega) (by omega)]
    simp [-List.reduceReplicate, LES]
  · simp only [↓VC, VP, TT, Nat.reduceEqDiff, reduceCtorEq, Nat.reduceAdd, Nat.reduceSub, Nat.reduceLT, Nat.reduceMul, Nat.reducePow, Nat.reduceLeDiff, Int.reduceToNat, Int.reduceLE, Int.reduceLT, Int.reducePow, (eq_false (by decide) : (((2 : Nat) : Int) < 2) = False), decide_false]
    refine kCall_Ret (c_Grow (tot2 l1 l2 2) (by simp only [tot2]; omega)) (by rfl) [] (by simp [CALL]) (by simp [CALL]) (by simp [CALL]) (by simp) (by rintro (_ | r) <;> simp) fun o ho => ?_
    cases o with
    | some r0 =>
      simp only [CALL, ↓VC, VP, TT, Nat.reduceEqDiff, reduceCtorEq, Nat.reduceAdd, Nat.reduceSub, Nat.reduceLT, Nat.reduceMul, Nat.reducePow, Nat.reduceLeDiff, Int.reduceToNat, Int.reduceLE, Int.reduceLT, Int.reducePow, instL_room]
      refine kLoop_of (SC2 l1 l2 c1 c2 (tot2 l1 l2 2)) (fun s => 2 - s.2.1) (fun s => s.1 ≤ 2 ∧ (s.1 < 2 → s.2.1 = 0) ∧ s.2.1 ≤ 2 ∧ (s.1 = 2 → 1 ≤ s.2.1)) (1, 0, r0) ⟨by simp, by simp, by simp, by simp⟩ ⟨[0, 1, 2, 3], by simp [-List.reduceReplicate, LES, SC2]⟩ ?_
      rintro ⟨v, i, r⟩ ⟨hv, h0, hi, h1⟩
      simp only at hv h0 hi h1
      rcases (by omega : v = 0 ∨ v = 1 ∨ v = 2) with rfl | rfl | rfl
      · obtain rfl := h0 (by omega)
        · simp only [SC2, ↓VC, VP, TT, Nat.reduceEqDiff, reduceCtorEq, Nat.reduceAdd, Nat.reduceSub, Nat.reduceLT, Nat.reduceMul, Nat.reducePow, Nat.reduceLeDiff, Int.reduceToNat, Int.reduceLE, Int.reduceLT, Int.reducePow, (eq_true (by decide) : (((0 : Nat) : Int) < 2) = True), (eq_true (by decide) : (((0 : Nat) : Int) < ((2 : Nat) : Int)) = True), decide_true]
          repeat (refine ⟨by first | omega | (simp; done) | decide, ?_⟩)
          refine fun r' c' hc hc' => ⟨(2, 1, r'), ⟨by simp, by simp, by simp, by simp⟩, by simp, [0, 1, 2, 3], ?_⟩
          subst hc
          try rw [take_room rfl]
          try rw [bs_append]
          rw [wrap_i64 (by omega) (by omega)]
          simp [-List.reduceReplicate, LES, SC2, cat2]
      · obtain rfl := h0 (by omega)
        · simp only [SC2, ↓VC, VP, TT, Nat.reduceEqDiff, reduceCtorEq, Nat.reduceAdd, Nat.reduceSub, Nat.reduceLT, Nat.reduceMul, Nat.reducePow, Nat.reduceLeDiff, Int.reduceToNat, Int.reduceLE, Int.reduceLT, Int.reducePow, (eq_true (by decide) : (((0 : Nat) : Int) < 2) = True), (eq_true (by decide) : (((0 : Nat) : Int) < ((2 : Nat) : Int)) = True), decide_true]
          repeat (refine ⟨by first | omega | (simp; done) | decide, ?_⟩)
          refine fun r' c' hc hc' => ⟨(2, 1, r'), ⟨by simp, by simp, by simp, by simp⟩, by simp, [0, 1, 2, 4], ?_⟩
          subst hc
          try rw [take_room rfl]
          try rw [bs_append]
          rw [wrap_i64 (by omega) (by omega)]
          simp [-List.reduceReplicate, LES, SC2, cat2]
      · have h1 := h1 rfl
        rcases (by omega : i = 1 ∨ i = 2) with rfl | rfl
        · simp only [SC2, ↓VC, VP, TT, Nat.reduceEqDiff, reduceCtorEq, Nat.reduceAdd, Nat.reduceSub, Nat.reduceLT, Nat.reduceMul, Nat.reducePow, Nat.reduceLeDiff, Int.reduceToNat, Int.reduceLE, Int.reduceLT, Int.reducePow, cat2, List.length_append, List.nil_append, (eq_true (by decide) : (((1 : Nat) : Int) < 2) = True), (eq_true (by decide) : (((1 : Nat) : Int) < ((2 : Nat) : Int)) = True), decide_true]
          repeat (refine ⟨by first | omega | (simp; done) | decide, ?_⟩)
          refine fun r' c' hc hc' => ⟨(2, 2, r'), ⟨by simp, by simp, by simp, by simp⟩, by simp, [0, 1, 2, 4], ?_⟩
          subst hc
          try rw [take_room rfl]
          try rw [bs_append]
          rw [wrap_i64 (by omega) (by omega)]
          simp [-List.reduceReplicate, LES, SC2, cat2]
        · simp only [SC2, ↓VC, VP, TT, Nat.reduceEqDiff, reduceCtorEq, Nat.reduceAdd, Nat.reduceSub, Nat.reduceLT, Nat.reduceMul, Nat.reducePow, Nat.reduceLeDiff, Int.reduceToNat, Int.reduceLE, Int.reduceLT, Int.reducePow, (eq_false (by decide) : (((2 : Nat) : Int) < 2) = False), decide_false]
          refine ⟨_, _, [0, 1, 2, 3], ⟨r, trivial, rfl, rfl⟩, ?_⟩
          simp [-List.reduceReplicate, LES, cat2]
    | none =>
      simp only [CALL, ↓VC, VP, TT, Nat.reduceEqDiff, reduceCtorEq, Nat.reduceAdd, Nat.reduceSub, Nat.reduceLT, Nat.reduceMul, Nat.reducePow, Nat.reduceLeDiff, Int.reduceToNat, Int.reduceLE, Int.reduceLT, Int.reducePow, instL_room]
      refine kLoop_of (SC2 l1 l2 c1 c2 (tot2 l1 l2 2)) (fun s => 2 - s.2.1) (fun s => s.1 ≤ 2 ∧ (s.1 < 2 → s.2.1 = 0) ∧ s.2.1 ≤ 2 ∧ (s.1 = 2 → 1 ≤ s.2.1)) (0, 0, 0) ⟨by simp, by simp, by simp, by simp⟩ ⟨[0, 1, 2], by simp [-List.reduceReplicate, LES, SC2]⟩ ?_
      rintro ⟨v, i, r⟩ ⟨hv, h0, hi, h1⟩
      simp only at hv h0 hi h1
      rcases (by omega : v = 0 ∨ v = 1 ∨ v = 2) with rfl | rfl | rfl
      · obtain rfl := h0 (by omega)
        · simp only [SC2, ↓VC, VP, TT, Nat.reduceEqDiff, reduceCtorEq, Nat.reduceAdd, Nat.reduceSub, Nat.reduceLT, Nat.reduceMul, Nat.reducePow, Nat.reduceLeDiff, Int.reduceToNat, Int.reduceLE, Int.reduceLT, Int.reducePow, (eq_true (by decide) : (((0 : Nat) : Int) < 2) = True), (eq_true (by decide) : (((0 : Nat) : Int) < ((2 : Nat) : Int)) = True), decide_true]
          repeat (refine ⟨by first | omega | (simp; done) | decide, ?_⟩)
          refine fun r' c' hc hc' => ⟨(2, 1, r'), ⟨by simp, by simp, by simp, by simp⟩, by simp, [0, 1, 2, 3], ?_⟩
          subst hc
          try rw [take_room rfl]
          try rw [bs_append]
          rw [wrap_i64 (by omega) (by omega)]
          simp [-List.reduceReplicate, LES, SC2, cat2]
      · obtain rfl := h0 (by omega)
        · simp only [SC2, ↓VC, VP, TT, Nat.reduceEqDiff, reduceCtorEq, Nat.reduceAdd, Nat.reduceSub, Nat.reduceLT, Nat.reduceMul, Nat.reducePow, Nat.reduceLeDiff, Int.reduceToNat, Int.reduceLE, Int.reduceLT, Int.reducePow, (eq_true (by decide) : (((0 : Nat) : Int) < 2) = True), (eq_true (by decide) : (((0 : Nat) : Int) < ((2 : Nat) : Int)) = True), decide_true]
          repeat (refine ⟨by first | omega | (simp; done) | decide, ?_⟩)
          refine fun r' c' hc hc' => ⟨(2, 1, r'), ⟨by simp, by simp, by simp, by simp⟩, by simp, [0, 1, 2, 4], ?_⟩
          subst hc
          try rw [take_room rfl]
          try rw [bs_append]
          rw [wrap_i64 (by omega) (by omega)]
          simp [-List.reduceReplicate, LES, SC2, cat2]
      · have h1 := h1 rfl
        rcases (by omega : i = 1 ∨ i = 2) with rfl | rfl
        · simp only [SC2, ↓VC, VP, TT, Nat.reduceEqDiff, reduceCtorEq, Nat.reduceAdd, Nat.reduceSub, Nat.reduceLT, Nat.reduceMul, Nat.reducePow, Nat.reduceLeDiff, Int.reduceToNat, Int.reduceLE, Int.reduceLT, Int.reducePow, cat2, List.length_append, List.nil_append, (eq_true (by decide) : (((1 : Nat) : Int) < 2) = True), (eq_true (by decide) : (((1 : Nat) : Int) < ((2 : Nat) : Int)) = True), decide_true]
          repeat (refine ⟨by first | omega | (simp; done) | decide, ?_⟩)
          refine fun r' c' hc hc' => ⟨(2, 2, r'), ⟨by simp, by simp, by simp, by simp⟩, by simp, [0, 1, 2, 4], ?_⟩
          subst hc
          try rw [take_room rfl]
          try rw [bs_append]
          rw [wrap_i64 (by omega) (by omega)]
          simp [-List.reduceReplicate, LES, SC2, cat2]
        · simp only [SC2, ↓VC, VP, TT, Nat.reduceEqDiff, reduceCtorEq, Nat.reduceAdd, Nat.reduceSub, Nat.reduceLT, Nat.reduceMul, Nat.reducePow, Nat.reduceLeDiff, Int.reduceToNat, Int.reduceLE, Int.reduceLT, Int.reducePow, (eq_false (by decide) : (((2 : Nat) : Int) < 2) = False), decide_false]
          refine ⟨_, _, [0, 1, 2, 3], ⟨r, trivial, rfl, rfl⟩, ?_⟩
          simp [-List.reduceReplicate, LES, cat2]
end Go.Proofs.Ytjakgjelnbpmnaa
/- Bytes joined: slices.Concat of one, two or three parts. -/
set_option linter.unusedSimpArgs false
set_option linter.unusedVariables false
namespace Go.Proofs.Ytjakgjelnbpmnaa
open Go Go.Vc
set_option maxRecDepth 10000
set_option maxHeartbeats 4000000
def tot1 (l1 : List UInt8) : Nat → Nat
  | 0 => 0
  | _ => 0 + l1.length
def cat1 (l1 : List UInt8) : Nat → List UInt8
  | 0 => []
  | _ => [] ++ l1
def SC1 (l1 : List UInt8) (c1 : Nat) (n : Nat) (s : Nat × Nat × Nat) : List V × List Blk := match s.1 with
  | 0 => ([.j, .j, .j, .j, .j, .j, .c (.slice none 0 0), .j, .j, .j, .j, .j, .j, .j, .j, .j, .j, .j, .j, .j, .j, .j, .j, .j, .j, .s 0 0 1 1, .c (.int .i64 (1)), .c (.int .i64 (s.2.1)), .j, .j, .j, .j, .j, .j, .j, .j], [⟨false, [.s 1 0 l1.length c1]⟩, ⟨false, bs l1⟩])
  | 1 => ([.j, .j, .j, .j, .j, .j, .s 2 0 0 (n + s.2.2), .j, .j, .j, .j, .j, .j, .j, .j, .j, .j, .j, .j, .j, .j, .j, .j, .j, .j, .s 0 0 1 1, .c (.int .i64 (1)), .c (.int .i64 (s.2.1)), .j, .j, .j, .j, .j, .j, .j, .j], [⟨false, [.s 1 0 l1.length c1]⟩, ⟨false, bs l1⟩, ⟨true, bs (List.replicate n 0) ++ List.replicate s.2.2 .j⟩])
  | _ => ([.j, .j, .j, .j, .j, .j, .s 2 0 (cat1 l1 s.2.1).length ((cat1 l1 s.2.1).length + s.2.2), .j, .j, .j, .j, .j, .j, .j, .j, .j, .j, .j, .j, .j, .j, .j, .j, .j, .j, .s 0 0 1 1, .c (.int .i64 (1)), .c (.int .i64 (s.2.1)), .j, .j, .j, .j, .j, .j, .j, .j], [⟨false, [.s 1 0 l1.length c1]⟩, ⟨false, bs l1⟩, ⟨true, bs (cat1 l1 s.2.1) ++ List.replicate s.2.2 .j⟩])
theorem c_Concat1 (l1 : List UInt8) (c1 : Nat) (hc1 : l1.length ≤ c1) (hm : l1.length ≤ 8388608) : LC Try.prog 73 [.s 0 0 1 1] [⟨false, [.s 1 0 l1.length c1]⟩, ⟨false, bs l1⟩]
    (Ret [⟨false, [.s 1 0 l1.length c1]⟩, ⟨false, bs l1⟩] (fun _ : Nat => True) fun r => (.s 2 0 (l1).length ((l1).length + r), [⟨true, bs (l1) ++ List.replicate r .j⟩])) := by
  refine LC_of (X := XX (fun _ => .nil) (fun _ => []) [27, 28, 29, 44, 47, 52, 53, 54, 55, 74, 78, 88, 89, 99] 2) envOK Try.func73 (by kernel_rfl) (by kernel_rfl) rfl (Nat.le_of_ble_eq_true (by kernel_rfl)) ?_
  simp only [kFun, Try.f73, List.length_nil, List.length_cons, Nat.sub_zero, Nat.reduceSub, Nat.reduceAdd, List.nil_append, List.cons_append, List.replicate_succ, List.replicate_zero]
  simp only [XX, ↓VC, VP, TT, Nat.reduceEqDiff, reduceCtorEq, Nat.reduceAdd, Nat.reduceSub, Nat.reduceLT, Nat.reduceMul, Nat.reducePow, Nat.reduceLeDiff, Int.reduceToNat, Int.reduceLE, Int.reduceLT, Int.reducePow]
  refine kLoop_of (fun i : Nat => ([.s 0 0 1 1, .j, .j, .c (.int .i64 ((tot1 l1 i : Nat))), .j, .j, .j, .j, .j, .s 0 0 1 1, .c (.int .i64 (1)), .c (.int .i64 (i)), .j, .j, .j, .j, .j, .j, .j, .j, .j, .j, .j, .j, .j, .j, .j, .j, .j, .j, .j, .j, .j, .j, .j, .j], [⟨false, [.s 1 0 l1.length c1]⟩, ⟨false, bs l1⟩])) (fun i => 1 - i) (fun i => i ≤ 1) 0 (by omega) ⟨[0, 1], by simp [-List.reduceReplicate, LES, tot1]⟩ ?_
  intro i hi
  rcases (by omega : i = 0 ∨ i = 1) with rfl | rfl
  · have w : IntKind.i64.wrap (((tot1 l1 0 : Nat) : Int) + (l1.length : Int)) = ((tot1 l1 1 : Nat) : Int) := by
      rw [wrap_i64 (by simp only [tot1]; omega) (by simp only [tot1]; omega)]; simp only [tot1]; omega
    simp only [↓VC, VP, TT, Nat.reduceEqDiff, reduceCtorEq, Nat.reduceAdd, Nat.reduceSub, Nat.reduceLT, Nat.reduceMul, Nat.reducePow, Nat.reduceLeDiff, Int.reduceToNat, Int.reduceLE, Int.reduceLT, Int.reducePow, (eq_true (by decide) : (((0 : Nat) : Int) < 1) = True), (eq_true (by decide) : (((0 : Nat) : Int) < ((1 : Nat) : Int)) = True), decide_true, w]
    repeat (refine ⟨by first | omega | (simp; done) | decide, ?_⟩)
    refine fun _ => ⟨1, by omega, by omega, [0, 1], ?_⟩
    rw [wrap_i64 (by omega) (by omega)]
    simp [-List.reduceReplicate, LES]
  · simp only [↓VC, VP, TT, Nat.reduceEqDiff, reduceCtorEq, Nat.reduceAdd, Nat.reduceSub, Nat.reduceLT, Nat.reduceMul, Nat.reducePow, Nat.reduceLeDiff, Int.reduceToNat, Int.reduceLE, Int.reduceLT, Int.reducePow, (eq_false (by decide) : (((1 : Nat) : Int) < 1) = False), decide_false]
    refine kCall_Ret (c_Grow (tot1 l1 1) (by simp only [tot1]; omega)) (by rfl) [] (by simp [CALL]) (by simp [CALL]) (by simp [CALL]) (by simp) (by rintro (_ | r) <;> simp) fun o ho => ?_
    cases o with
    | some r0 =>
      simp only [CALL, ↓VC, VP, TT, Nat.reduceEqDiff, reduceCtorEq, Nat.reduceAdd, Nat.reduceSub, Nat.reduceLT, Nat.reduceMul, Nat.reducePow, Nat.reduceLeDiff, Int.reduceToNat, Int.reduceLE, Int.reduceLT, Int.reducePow, instL_room]
      refine kLoop_of (SC1 l1 c1 (tot1 l1 1)) (fun s => 1 - s.2.1) (fun s => s.1 ≤ 2 ∧ (s.1 < 2 → s.2.1 = 0) ∧ s.2.1 ≤ 1 ∧ (s.1 = 2 → 1 ≤ s.2.1)) (1, 0, r0) ⟨by simp, by simp, by simp, by simp⟩ ⟨[0, 1, 2], by simp [-List.reduceReplicate, LES, SC1]⟩ ?_
      rintro ⟨v, i, r⟩ ⟨hv, h0, hi, h1⟩
      simp only at hv h0 hi h1
      rcases (by omega : v = 0 ∨ v = 1 ∨ v = 2) with rfl | rfl | rfl
      · obtain rfl := h0 (by omega)
        · simp only [SC1, ↓VC, VP, TT, Nat.reduceEqDiff, reduceCtorEq, Nat.reduceAdd, Nat.reduceSub, Nat.reduceLT, Nat.reduceMul, Nat.reducePow, Nat.reduceLeDiff, Int.reduceToNat, Int.reduceLE, Int.reduceLT, Int.reducePow, (eq_true (by decide) : (((0 : Nat) : Int) < 1) = True), (eq_true (by decide) : (((0 : Nat) : Int) < ((1 : Nat) : Int)) = True), decide_true]
          repeat (refine ⟨by first | omega | (simp; done) | decide, ?_⟩)
          refine fun r' c' hc hc' => ⟨(2, 1, r'), ⟨by simp, by simp, by simp, by simp⟩, by simp, [0, 1, 2], ?_⟩
          subst hc
          try rw [take_room rfl]
          try rw [bs_append]
          rw [wrap_i64 (by omega) (by omega)]
          simp [-List.reduceReplicate, LES, SC1, cat1, Nat.add_assoc]
      · obtain rfl := h0 (by omega)
        · simp only [SC1, ↓VC, VP, TT, Nat.reduceEqDiff, reduceCtorEq, Nat.reduceAdd, Nat.reduceSub, Nat.reduceLT, Nat.reduceMul, Nat.reducePow, Nat.reduceLeDiff, Int.reduceToNat, Int.reduceLE, Int.reduceLT, Int.reducePow, (eq_true (by decide) : (((0 : Nat) : Int) < 1) = True), (eq_true (by decide) : (((0 : Nat) : Int) < ((1 : Nat) : Int)) = True), decide_true]
          repeat (refine ⟨by first | omega | (simp; done) | decide, ?_⟩)
          refine fun r' c' hc hc' => ⟨(2, 1, r'), ⟨by simp, by simp, by simp, by simp⟩, by simp, [0, 1, 3], ?_⟩
          subst hc
          try rw [take_room rfl]
          try rw [bs_append]
          rw [wrap_i64 (by omega) (by omega)]
          simp [-List.reduceReplicate, LES, SC1, cat1, Nat.add_assoc]
      · have h1 := h1 rfl
        rcases (by omega : i = 1) with rfl
        · simp only [SC1, ↓VC, VP, TT, Nat.reduceEqDiff, reduceCtorEq, Nat.reduceAdd, Nat.reduceSub, Nat.reduceLT, Nat.reduceMul, Nat.reducePow, Nat.reduceLeDiff, Int.reduceToNat, Int.reduceLE, Int.reduceLT, Int.reducePow, (eq_false (by decide) : (((1 : Nat) : Int) < 1) = False), decide_false]
          refine ⟨_, _, [0, 1, 2], ⟨r, trivial, rfl, rfl⟩, ?_⟩
          simp [-List.reduceReplicate, LES, cat1, Nat.add_assoc]
    | none =>
      simp only [CALL, ↓VC, VP, TT, Nat.reduceEqDiff, reduceCtorEq, Nat.reduceAdd, Nat.reduceSub, Nat.reduceLT, Nat.reduceMul, Nat.reducePow, Nat.reduceLeDiff, Int.reduceToNat, Int.reduceLE, Int.reduceLT, Int.reducePow, instL_room]
      refine kLoop_of (SC1 l1 c1 (tot1 l1 1)) (fun s => 1 - s.2.1) (fun s => s.1 ≤ 2 ∧ (s.1 < 2 → s.2.1 = 0) ∧ s.2.1 ≤ 1 ∧ (s.1 = 2 → 1 ≤ s.2.1)) (0, 0, 0) ⟨by simp, by simp, by simp, by simp⟩ ⟨[0, 1], by simp [-List.reduceReplicate, LES, SC1]⟩ ?_
      rintro ⟨v, i, r⟩ ⟨hv, h0, hi, h1⟩
      simp only at hv h0 hi h1
      rcases (by omega : v = 0 ∨ v = 1 ∨ v = 2) with rfl | rfl | rfl
      · obtain rfl := h0 (by omega)
        · simp only [SC1, ↓VC, VP, TT, Nat.reduceEqDiff, reduceCtorEq, Nat.reduceAdd, Nat.reduceSub, Nat.reduceLT, Nat.reduceMul, Nat.reducePow, Nat.reduceLeDiff, Int.reduceToNat, Int.reduceLE, Int.reduceLT, Int.reducePow, (eq_true (by decide) : (((0 : Nat) : Int) < 1) = True), (eq_true (by decide) : (((0 : Nat) : Int) < ((1 : Nat) : Int)) = True), decide_true]
          repeat (refine ⟨by first | omega | (simp; done) | decide, ?_⟩)
          refine fun r' c' hc hc' => ⟨(2, 1, r'), ⟨by simp, by simp, by simp, by simp⟩, by simp, [0, 1, 2], ?_⟩
          subst hc
          try rw [take_room rfl]
          try rw [bs_append]
          rw [wrap_i64 (by omega) (by omega)]
          simp [-List.reduceReplicate, LES, SC1, cat1, Nat.add_assoc]
      · obtain rfl := h0 (by omega)
        · simp only [SC1, ↓VC, VP, TT, Nat.reduceEqDiff, reduceCtorEq, Nat.reduceAdd, Nat.reduceSub, Nat.reduceLT, Nat.reduceMul, Nat.reducePow, Nat.reduceLeDiff, Int.reduceToNat, Int.reduceLE, Int.reduceLT, Int.reducePow, (eq_true (by decide) : (((0 : Nat) : Int) < 1) = True), (eq_true (by decide) : (((0 : Nat) : Int) < ((1 : Nat) : Int)) = True), decide_true]
          repeat (refine ⟨by first | omega | (simp; done) | decide, ?_⟩)
          refine fun r' c' hc hc' => ⟨(2, 1, r'), ⟨by simp, by simp, by simp, by simp⟩, by simp, [0, 1, 3], ?_⟩
          subst hc
          try rw [take_room rfl]
          try rw [bs_append]
          rw [wrap_i64 (by omega) (by omega)]
          simp [-List.reduceReplicate, LES, SC1, cat1, Nat.add_assoc]
      · have h1 := h1 rfl
        rcases (by omega : i = 1) with rfl
        · simp only [SC1, ↓VC, VP, TT, Nat.reduceEqDiff, reduceCtorEq, Nat.reduceAdd, Nat.reduceSub, Nat.reduceLT, Nat.reduceMul, Nat.reducePow, Nat.reduceLeDiff, Int.reduceToNat, Int.reduceLE, Int.reduceLT, Int.reducePow, (eq_false (by decide) : (((1 : Nat) : Int) < 1) = False), decide_false]
          refine ⟨_, _, [0, 1, 2], ⟨r, trivial, rfl, rfl⟩, ?_⟩
          simp [-List.reduceReplicate, LES, cat1, Nat.add_assoc]
def tot3 (l1 l2 l3 : List UInt8) : Nat → Nat
  | 0 => 0
  | 1 => 0 + l1.length
  | 2 => 0 + l1.length + l2.length
  | _ => 0 + l1.length + l2.length + l3.length
def cat3 (l1 l2 l3 : List UInt8) : Nat → List UInt8
  | 0 => []
  | 1 => [] ++ l1
  | 2 => [] ++ l1 ++ l2
  | _ => [] ++ l1 ++ l2 ++ l3
def SC3 (l1 l2 l3 : List UInt8) (c1 c2 c3 : Nat) (n : Nat) (s : Nat × Nat × Nat) : List V × List Blk := match s.1 with
  | 0 => ([.j, .j, .j, .j, .j, .j, .c (.slice none 0 0), .j, .j, .j, .j, .j, .j, .j, .j, .j, .j, .j, .j, .j, .j, .j, .j, .j, .j, .s 0 0 3 3, .c (.int .i64 (3)), .c (.int .i64 (s.2.1)), .j, .j, .j, .j, .j, .j, .j, .j], [⟨false, [.s 1 0 l1.length c1, .s 2 0 l2.length c2, .s 3 0 l3.length c3]⟩, ⟨false, bs l1⟩, ⟨false, bs l2⟩, ⟨false, bs l3⟩])
  | 1 => ([.j, .j, .j, .j, .j, .j, .s 4 0 0 (n + s.2.2), .j, .j, .j, .j, .j, .j, .j, .j, .j, .j, .j, .j, .j, .j, .j, .j, .j, .j, .s 0 0 3 3, .c (.int .i64 (3)), .c (.int .i64 (s.2.1)), .j, .j, .j, .j, .j, .j, .j, .j], [⟨false, [.s 1 0 l1.length c1, .s 2 0 l2.length c2, .s 3 0 l3.length c3]⟩, ⟨false, bs l1⟩, ⟨false, bs l2⟩, ⟨false, bs l3⟩, ⟨true, bs (List.replicate n 0) ++ List.replicate s.2.2 .j⟩])
  | _ => ([.j, .j, .j, .j, .j, .j, .s 4 0 (cat3 l1 l2 l3 s.2.1).length ((cat3 l1 l2 l3 s.2.1).length + s.2.2), .j, .j, .j, .j, .j, .j, .j, .j, .j, .j, .j, .j, .j, .j, .j, .j, .j, .j, .s 0 0 3 3, .c (.int .i64 (3)), .c (.int .i64 (s.2.1)), .j, .j, .j, .j, .j, .j, .j, .j], [⟨false, [.s 1 0 l1.length c1, .s 2 0 l2.length c2, .s 3 0 l3.length c3]⟩, ⟨false, bs l1⟩, ⟨false, bs l2⟩, ⟨false, bs l3⟩, ⟨true, bs (cat3 l1 l2 l3 s.2.1) ++ List.replicate s.2.2 .j⟩])
theorem c_Concat3 (l1 l2 l3 : List UInt8) (c1 c2 c3 : Nat) (hc1 : l1.length ≤ c1) (hc2 : l2.length ≤ c2) (hc3 : l3.length ≤ c3) (hm : l1.length + l2.length + l3.length ≤ 8388608) : LC Try.prog 73 [.s 0 0 3 3] [⟨false, [.s 1 0 l1.length c1, .s 2 0 l2.length c2, .s 3 0 l3.length c3]⟩, ⟨false, bs l1⟩, ⟨false, bs l2⟩, ⟨false, bs l3⟩]
    (Ret [⟨false, [.s 1 0 l1.length c1, .s 2 0 l2.length c2, .s 3 0 l3.length c3]⟩, ⟨false, bs l1⟩, ⟨false, bs l2⟩, ⟨false, bs l3⟩] (fun _ : Nat => True) fun r => (.s 4 0 (l1 ++ l2 ++ l3).length ((l1 ++ l2 ++ l3).length + r), [⟨true, bs (l1 ++ l2 ++ l3) ++ List.replicate r .j⟩])) := by
  refine LC_of (X := XX (fun _ => .nil) (fun _ => []) [27, 28, 29, 44, 47, 52, 53, 54, 55, 74, 78, 88, 89, 99] 4) envOK Try.func73 (by kernel_rfl) (by kernel_rfl) rfl (Nat.le_of_ble_eq_true (by kernel_rfl)) ?_
  simp only [kFun, Try.f73, List.length_nil, List.length_cons, Nat.sub_zero, Nat.reduceSub, Nat.reduceAdd, List.nil_append, List.cons_append, List.replicate_succ, List.replicate_zero]
  simp only [XX, ↓VC, VP, TT, Nat.reduceEqDiff, reduceCtorEq, Nat.reduceAdd, Nat.reduceSub, Nat.reduceLT, Nat.reduceMul, Nat.reducePow, Nat.reduceLeDiff, Int.reduceToNat, Int.reduceLE, Int.reduceLT, Int.reducePow]
  refine kLoop_of (fun i : Nat => ([.s 0 0 3 3, .j, .j, .c (.int .i64 ((tot3 l1 l2 l3 i : Nat))), .j, .j, .j, .j, .j, .s 0 0 3 3, .c (.int .i64 (3)), .c (.int .i64 (i)), .j, .j, .j, .j, .j, .j, .j, .j, .j, .j, .j, .j, .j, .j, .j, .j, .j, .j, .j, .j, .j, .j, .j, .j], [⟨false, [.s 1 0 l1.length c1, .s 2 0 l2.length c2, .s 3 0 l3.length c3]⟩, ⟨false, bs l1⟩, ⟨false, bs l2⟩, ⟨false, bs l3⟩])) (fun i => 3 - i) (fun i => i ≤ 3) 0 (by omega) ⟨[0, 1, 2, 3], by simp [-List.reduceReplicate, LES, tot3]⟩ ?_
  intro i hi
  rcases (by omega : i = 0 ∨ i = 1 ∨ i = 2 ∨ i = 3) with rfl | rfl | rfl | rfl
  · have w : IntKind.i64.wrap (((tot3 l1 l2 l3 0 : Nat) : Int) + (l1.length : Int)) = ((tot3 l1 l2 l3 1 : Nat) : Int) := by
      rw [wrap_i64 (by simp only [tot3]; omega) (by simp only [tot3]; omega)]; simp only [tot3]; omega
    simp only [↓VC, VP, TT, Nat.reduceEqDiff, reduceCtorEq, Nat.reduceAdd, Nat.reduceSub, Nat.reduceLT, Nat.reduceMul, Nat.reducePow, Nat.reduceLeDiff, Int.reduceToNat, Int.reduceLE, Int.reduceLT, Int.reducePow, (eq_true (by decide) : (((0 : Nat) : Int) < 3) = True), (eq_true (by decide) : (((0 : Nat) : Int) < ((3 : Nat) : Int)) = True), decide_true, w]
    repeat (refine ⟨by first | omega | (simp; done) | decide, ?_⟩)
    refine fun _ => ⟨1, by omega, by omega, [0, 1, 2, 3], ?_⟩
    rw [wrap_i64 (by omega) (by omega)]
    simp [-List.reduceReplicate, LES]
  · have w : IntKind.i64.wrap (((tot3 l1 l2 l3 1 : Nat) : Int) + (l2.length : Int)) = ((tot3 l1 l2 l3 2 : Nat) : Int) := by
      rw [wrap_i64 (by simp only [tot3]; omega) (by simp only [tot3]; omega)]; simp only [tot3]; omega
    simp only [↓VC, VP, TT, Nat.reduceEqDiff, reduceCtorEq, Nat.reduceAdd, Nat.reduceSub, Nat.reduceLT, Nat.reduceMul, Nat.reducePow, Nat.reduceLeDiff, Int.reduceToNat, Int.reduceLE, Int.reduceLT, Int.reducePow, (eq_true (by decide) : (((1 : Nat) : Int) < 3) = True), (eq_true (by decide) : (((1 : Nat) : Int) < ((3 : Nat) : Int)) = True), decide_true, w]
    repeat (refine ⟨by first | omega | (simp; done) | decide, ?_⟩)
    refine fun _ => ⟨2, by omega, by omega, [0, 1, 2, 3], ?_⟩
    rw [wrap_i64 (by omega) (by omega)]
    simp [-List.reduceReplicate, LES]
  · have w : IntKind.i64.wrap (((tot3 l1 l2 l3 2 : Nat) : Int) + (l3.length : Int)) = ((tot3 l1 l2 l3 3 : Nat) : Int) := by
      rw [wrap_i64 (by simp only [tot3]; omega) (by simp only [tot3]; omega)]; simp only [tot3]; omega
    simp only [↓VC, VP, TT, Nat.reduceEqDiff, reduceCtorEq, Nat.reduceAdd, Nat.reduceSub, Nat.reduceLT, Nat.reduceMul, Nat.reducePow, Nat.reduceLeDiff, Int.reduceToNat, Int.reduceLE, Int.reduceLT, Int.reducePow, (eq_true (by decide) : (((2 : Nat) : Int) < 3) = True), (eq_true (by decide) : (((2 : Nat) : Int) < ((3 : Nat) : Int)) = True), decide_true, w]
    repeat (refine ⟨by first | omega | (simp; done) | decide, ?_⟩)
    refine fun _ => ⟨3, by omega, by omega, [0, 1, 2, 3], ?_⟩
    rw [wrap_i64 (by omega) (by omega)]
    simp [-List.reduceReplicate, LES]
  · simp only [↓VC, VP, TT, Nat.reduceEqDiff, reduceCtorEq, Nat.reduceAdd, Nat.reduceSub, Nat.reduceLT, Nat.reduceMul, Nat.reducePow, Nat.reduceLeDiff, Int.reduceToNat, Int.reduceLE, Int.reduceLT, Int.reducePow, (eq_false (by decide) : (((3 : Nat) : Int) < 3) = False), decide_false]
    refine kCall_Ret (c_Grow (tot3 l1 l2 l3 3) (by simp only [tot3]; omega)) (by rfl) [] (by simp [CALL]) (by simp [CALL]) (by simp [CALL]) (by simp) (by rintro (_ | r) <;> simp) fun o ho => ?_
    cases o with
    | some r0 =>
      simp only [CALL, ↓VC, VP, TT, Nat.reduceEqDiff, reduceCtorEq, Nat.reduceAdd, Nat.reduceSub, Nat.reduceLT, Nat.reduceMul, Nat.reducePow, Nat.reduceLeDiff, Int.reduceToNat, Int.reduceLE, Int.reduceLT, Int.reducePow, instL_room]
      refine kLoop_of (SC3 l1 l2 l3 c1 c2 c3 (tot3 l1 l2 l3 3)) (fun s => 3 - s.2.1) (fun s => s.1 ≤ 2 ∧ (s.1 < 2 → s.2.1 = 0) ∧ s.2.1 ≤ 3 ∧ (s.1 = 2 → 1 ≤ s.2.1)) (1, 0, r0) ⟨by simp, by simp, by simp, by simp⟩ ⟨[0, 1, 2, 3, 4], by simp [-List.reduceReplicate, LES, SC3]⟩ ?_
      rintro ⟨v, i, r⟩ ⟨hv, h0, hi, h1⟩
      simp only at hv h0 hi h1
      rcases (by omega : v = 0 ∨ v = 1 ∨ v = 2) with rfl | rfl | rfl
      · obtain rfl := h0 (by omega)
        · simp only [SC3, ↓VC, VP, TT, Nat.reduceEqDiff, reduceCtorEq, Nat.reduceAdd, Nat.reduceSub, Nat.reduceLT, Nat.reduceMul, Nat.reducePow, Nat.reduceLeDiff, Int.reduceToNat, Int.reduceLE, Int.reduceLT, Int.reducePow, (eq_true (by decide) : (((0 : Nat) : Int) < 3) = True), (eq_true (by decide) : (((0 : Nat) : Int) < ((3 : Nat) : Int)) = True), decide_true]
          repeat (refine ⟨by first | omega | (simp; done) | decide, ?_⟩)
          refine fun r' c' hc hc' => ⟨(2, 1, r'), ⟨by simp, by simp, by simp, by simp⟩, by simp, [0, 1, 2, 3, 4], ?_⟩
          subst hc
          try rw [take_room rfl]
          try rw [bs_append]
          rw [wrap_i64 (by omega) (by omega)]
          simp [-List.reduceReplicate, LES, SC3, cat3, Nat.add_assoc]
      · obtain rfl := h0 (by omega)
        · simp only [SC3, ↓VC, VP, TT, Nat.reduceEqDiff, reduceCtorEq, Nat.reduceAdd, Nat.reduceSub, Nat.reduceLT, Nat.reduceMul, Nat.reducePow, Nat.reduceLeDiff, Int.reduceToNat, Int.reduceLE, Int.reduceLT, Int.reducePow, (eq_true (by decide) : (((0 : Nat) : Int) < 3) = True), (eq_true (by decide) : (((0 : Nat) : Int) < ((3 : Nat) : Int)) = True), decide_true]
          repeat (refine ⟨by first | omega | (simp; done) | decide, ?_⟩)
          refine fun r' c' hc hc' => ⟨(2, 1, r'), ⟨by simp, by simp, by simp, by simp⟩, by simp, [0, 1, 2, 3, 5], ?_⟩
          subst hc
          try rw [take_room rfl]
          try rw [bs_append]
          rw [wrap_i64 (by omega) (by omega)]
          simp [-List.reduceReplicate, LES, SC3, cat3, Nat.add_assoc]
      · have h1 := h1 rfl
        rcases (by omega : i = 1 ∨ i = 2 ∨ i = 3) with rfl | rfl | rfl
        · simp only [SC3, ↓VC, VP, TT, Nat.reduceEqDiff, reduceCtorEq, Nat.reduceAdd, Nat.reduceSub, Nat.reduceLT, Nat.reduceMul, Nat.reducePow, Nat.reduceLeDiff, Int.reduceToNat, Int.reduceLE, Int.reduceLT, Int.reducePow, cat3, List.length_append, List.nil_append, (eq_true (by decide) : (((1 : Nat) : Int) < 3) = True), (eq_true (by decide) : (((1 : Nat) : Int) < ((3 : Nat) : Int)) = True), decide_true]
          repeat (refine ⟨by first | omega | (simp; done) | decide, ?_⟩)
          refine fun r' c' hc hc' => ⟨(2, 2, r'), ⟨by simp, by simp, by simp, by simp⟩, by simp, [0, 1, 2, 3, 5], ?_⟩
          subst hc
          try rw [take_room rfl]
          try rw [bs_append]
          rw [wrap_i64 (by omega) (by omega)]
          simp [-List.reduceReplicate, LES, SC3, cat3, Nat.add_assoc]
        · simp only [SC3, ↓VC, VP, TT, Nat.reduceEqDiff, reduceCtorEq, Nat.reduceAdd, Nat.reduceSub, Nat.reduceLT, Nat.reduceMul, Nat.reducePow, Nat.reduceLeDiff, Int.reduceToNat, Int.reduceLE, Int.reduceLT, Int.reducePow, cat3, List.length_append, List.nil_append, (eq_true (by decide) : (((2 : Nat) : Int) < 3) = True), (eq_true (by decide) : (((2 : Nat) : Int) < ((3 : Nat) : Int)) = True), decide_true]
          repeat (refine ⟨by first | omega | (simp; done) | decide, ?_⟩)
          refine fun r' c' hc hc' => ⟨(2, 3, r'), ⟨by simp, by simp, by simp, by simp⟩, by simp, [0, 1, 2, 3, 5], ?_⟩
          subst hc
          try rw [take_room rfl]
          try rw [bs_append]
          rw [wrap_i64 (by omega) (by omega)]
          simp [-List.reduceReplicate, LES, SC3, cat3, Nat.add_assoc]
        · simp only [SC3, ↓VC, VP, TT, Nat.reduceEqDiff, reduceCtorEq, Nat.reduceAdd, Nat.reduceSub, Nat.reduceLT, Nat.reduceMul, Nat.reducePow, Nat.reduceLeDiff, Int.reduceToNat, Int.reduceLE, Int.reduceLT, Int.reducePow, (eq_false (by decide) : (((3 : Nat) : Int) < 3) = False), decide_false]
          refine ⟨_, _, [0, 1, 2, 3, 4], ⟨r, trivial, rfl, rfl⟩, ?_⟩
          simp [-List.reduceReplicate, LES, cat3, Nat.add_assoc]
    | none =>
      simp only [CALL, ↓VC, VP, TT, Nat.reduceEqDiff, reduceCtorEq, Nat.reduceAdd, Nat.reduceSub, Nat.reduceLT, Nat.reduceMul, Nat.reducePow, Nat.reduceLeDiff, Int.reduceToNat, Int.reduceLE, Int.reduceLT, Int.reducePow, instL_room]
      refine kLoop_of (SC3 l1 l2 l3 c1 c2 c3 (tot3 l1 l2 l3 3)) (fun s => 3 - s.2.1) (fun s => s.1 ≤ 2 ∧ (s.1 < 2 → s.2.1 = 0) ∧ s.2.1 ≤ 3 ∧ (s.1 = 2 → 1 ≤ s.2.1)) (0, 0, 0) ⟨by simp, by simp, by simp, by simp⟩ ⟨[0, 1, 2, 3], by simp [-List.reduceReplicate, LES, SC3]⟩ ?_
      rintro ⟨v, i, r⟩ ⟨hv, h0, hi, h1⟩
      simp only at hv h0 hi h1
      rcases (by omega : v = 0 ∨ v = 1 ∨ v = 2) with rfl | rfl | rfl
      · obtain rfl := h0 (by omega)
        · simp only [SC3, ↓VC, VP, TT, Nat.reduceEqDiff, reduceCtorEq, Nat.reduceAdd, Nat.reduceSub, Nat.reduceLT, Nat.reduceMul, Nat.reducePow, Nat.reduceLeDiff, Int.reduceToNat, Int.reduceLE, Int.reduceLT, Int.reducePow, (eq_true (by decide) : (((0 : Nat) : Int) < 3) = True), (eq_true (by decide) : (((0 : Nat) : Int) < ((3 : Nat) : Int)) = True), decide_true]
          repeat (refine ⟨by first | omega | (simp; done) | decide, ?_⟩)
          refine fun r' c' hc hc' => ⟨(2, 1, r'), ⟨by simp, by simp, by simp, by simp⟩, by simp, [0, 1, 2, 3, 4], ?_⟩
          subst hc
          try rw [take_room rfl]
          try rw [bs_append]
          rw [wrap_i64 (by omega) (by omega)]
          simp [-List.reduceReplicate, LES, SC3, cat3, Nat.add_assoc]
      · obtain rfl := h0 (by omega)
        · simp only [SC3, ↓VC, VP, TT, Nat.reduceEqDiff, reduceCtorEq, Nat.reduceAdd, Nat.reduceSub, Nat.reduceLT, Nat.reduceMul, Nat.reducePow, Nat.reduceLeDiff, Int.reduceToNat, Int.reduceLE, Int.reduceLT, Int.reducePow, (eq_true (by decide) : (((0 : Nat) : Int) < 3) = True), (eq_true (by decide) : (((0 : Nat) : Int) < ((3 : Nat) : Int)) = True), decide_true]
          repeat (refine ⟨by first | omega | (simp; done) | decide, ?_⟩)
          refine fun r' c' hc hc' => ⟨(2, 1, r'), ⟨by simp, by simp, by simp, by simp⟩, by simp, [0, 1, 2, 3, 5], ?_⟩
          subst hc
          try rw [take_room rfl]
          try rw [bs_append]
          rw [wrap_i64 (by omega) (by omega)]
          simp [-List.reduceReplicate, LES, SC3, cat3, Nat.add_assoc]
      · have h1 := h1 rfl
        rcases (by omega : i = 1 ∨ i = 2 ∨ i = 3) with rfl | rfl | rfl
        · simp only [SC3, ↓VC, VP, TT, Nat.reduceEqDiff, reduceCtorEq, Nat.reduceAdd, Nat.reduceSub, Nat.reduceLT, Nat.reduceMul, Nat.reducePow, Nat.reduceLeDiff, Int.reduceToNat, Int.reduceLE, Int.reduceLT, Int.reducePow, cat3, List.length_append, List.nil_append, (eq_true (by decide) : (((1 : Nat) : Int) < 3) = True), (eq_true (by decide) : (((1 : Nat) : Int) < ((3 : Nat) : Int)) = True), decide_true]
          repeat (refine ⟨by first | omega | (simp; done) | decide, ?_⟩)
          refine fun r' c' hc hc' => ⟨(2, 2, r'), ⟨by simp, by simp, by simp, by simp⟩, by simp, [0, 1, 2, 3, 5], ?_⟩
          subst hc
          try rw [take_room rfl]
          try rw [bs_append]
          rw [wrap_i64 (by omega) (by omega)]
          simp [-List.reduceReplicate, LES, SC3, cat3, Nat.add_assoc]
        · simp only [SC3, ↓VC, VP, TT, Nat.reduceEqDiff, reduceCtorEq, Nat.reduceAdd, Nat.reduceSub, Nat.reduceLT, Nat.reduceMul, Nat.reducePow, Nat.reduceLeDiff, Int.reduceToNat, Int.reduceLE, Int.reduceLT, Int.reducePow, cat3, List.length_append, List.nil_append, (eq_true (by decide) : (((2 : Nat) : Int) < 3) = True), (eq_true (by decide) : (((2 : Nat) : Int) < ((3 : Nat) : Int)) = True), decide_true]
          repeat (refine ⟨by first | omega | (simp; done) | decide, ?_⟩)
          refine fun r' c' hc hc' => ⟨(2, 3, r'), ⟨by simp, by simp, by simp, by simp⟩, by simp, [0, 1, 2, 3, 5], ?_⟩
          subst hc
          try rw [take_room rfl]
          try rw [bs_append]
          rw [wrap_i64 (by omega) (by omega)]
          simp [-List.reduceReplicate, LES, SC3, cat3, Nat.add_assoc]
        · simp only [SC3, ↓VC, VP, TT, Nat.reduceEqDiff, reduceCtorEq, Nat.reduceAdd, Nat.reduceSub, Nat.reduceLT, Nat.reduceMul, Nat.reducePow, Nat.reduceLeDiff, Int.reduceToNat, Int.reduceLE, Int.reduceLT, Int.reducePow, (eq_false (by decide) : (((3 : Nat) : Int) < 3) = False), decide_false]
          refine ⟨_, _, [0, 1, 2, 3, 4], ⟨r, trivial, rfl, rfl⟩, ?_⟩
          simp [-List.reduceReplicate, LES, cat3, Nat.add_assoc]
end Go.Proofs.Ytjakgjelnbpmnaa

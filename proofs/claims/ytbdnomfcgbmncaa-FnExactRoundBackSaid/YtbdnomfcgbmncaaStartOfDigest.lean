import Derived.Test.YtbdnomfcgbmncaaEnv
/- 'StartOfDigest' of the program and of the reference compute the same digest. -/
set_option linter.unusedSimpArgs false
set_option linter.unusedVariables false
namespace Go.Proofs.Ytbdnomfcgbmncaa
open Go Go.Vc
def startL (i : Nat) : List UInt8 := (List.range 32).map fun j => if j < i then UInt8.ofInt (17 * j) else 0
theorem startL_len (i : Nat) : (startL i).length = 32 := by simp [startL]
theorem startL_zero : List.replicate 32 0 = startL 0 := by decide
theorem startL_succ {i : Nat} (h : i < 32) : (startL i).set i (UInt8.ofInt (17 * i)) = startL (i + 1) := by
  apply List.ext_getElem (by simp [startL])
  intro j h1 h2
  simp [startL] at h1 h2
  simp only [startL, List.getElem_set, List.getElem_map, List.getElem_range]
  split <;> rename_i e
  · subst e; simp
  · simp only [show (j < i + 1) = (j < i) from propext (by omega)]
theorem take_succ_eq {a b : List UInt8} {i : Nat} (ha : i < a.length) (hb : i < b.length) (h : a.take i = b.take i) (e : a.getD i 0 = b.getD i 0) : a.take (i + 1) = b.take (i + 1) := by
  rw [List.take_add_one, List.take_add_one, h]
  simp only [List.getD, List.getElem?_eq_getElem ha, List.getElem?_eq_getElem hb, Option.getD_some] at e ⊢
  rw [e]
theorem ne_of_getD {a b : List UInt8} {i : Nat} (h : a.getD i 0 ≠ b.getD i 0) : (a == b) = false := by
  simp only [beq_eq_false_iff_ne]
  intro e; exact h (by rw [e])
set_option maxRecDepth 10000
theorem c_impl_StartOfDigest : LC Try.prog 145 [] [] (fun v hp => v = .a (bs (startL 32)) ∧ hp = []) := by
  refine LC_of (X := XX (fun _ => .nil) (fun _ => []) [33, 34, 51, 59, 60, 80, 163] 0) envOK Try.func145 (by kernel_rfl) (by kernel_rfl) rfl (Nat.le_of_ble_eq_true (by kernel_rfl)) ?_
  simp only [kFun, Try.f145, List.length_nil, List.length_cons, Nat.sub_zero, Nat.reduceSub, Nat.reduceAdd, List.nil_append, List.cons_append, List.replicate_succ, List.replicate_zero]
  simp only [XX, ↓VC, VP, TT, List.getElem?_toArray, Nat.reduceEqDiff, reduceCtorEq, Nat.reduceAdd, Nat.reduceSub, Nat.reduceLT, Nat.reduceMul, Nat.reducePow, Nat.reduceLeDiff, Int.reduceToNat, Int.reduceLE, Int.reduceLT, Int.reducePow]
  refine kLoop_of (fun i : Nat => ([.p 0 0, .p 1 0, .j, .j, .c (.int .i64 i), .j, .j, .j, .j, .j, .j, .j, .j, .j], [⟨true, bs (List.replicate 32 0)⟩, ⟨true, bs (startL i)⟩])) (fun i => 32 - i) (fun i => i ≤ 32) 0 (by omega) ⟨[0, 1], ?_⟩ ?_
  · simp [-List.reduceReplicate, LES, startL_zero]
  · intro i hi
    simp only [↓VC, VP, TT, List.getElem?_toArray, Nat.reduceEqDiff, reduceCtorEq, Nat.reduceAdd, Nat.reduceSub, Nat.reduceLT, Nat.reduceMul, Nat.reducePow, Nat.reduceLeDiff, Int.reduceToNat, Int.reduceLE, Int.reduceLT, Int.reducePow, startL_len]
    refine ⟨fun h => ⟨by omega, by omega, i + 1, by omega, by omega, [0, 1], ?_⟩, fun h => ⟨_, _, [], ⟨rfl, rfl⟩, ?_⟩⟩
    · rw [startL_succ (by omega), wrap_i64 (by omega) (by omega)]
      simp [-List.reduceReplicate, LES]
    · obtain rfl : i = 32 := by omega
      simp [-List.reduceReplicate, LES]
theorem c_spec_l08Start : LC Try.prog 141 [] [] (fun v hp => v = .a (bs (startL 32)) ∧ hp = []) := by
  refine LC_of (X := XX (fun _ => .nil) (fun _ => []) [33, 34, 51, 59, 60, 80, 163] 0) envOK Try.func141 (by kernel_rfl) (by kernel_rfl) rfl (Nat.le_of_ble_eq_true (by kernel_rfl)) ?_
  simp only [kFun, Try.f141, List.length_nil, List.length_cons, Nat.sub_zero, Nat.reduceSub, Nat.reduceAdd, List.nil_append, List.cons_append, List.replicate_succ, List.replicate_zero]
  simp only [XX, ↓VC, VP, TT, List.getElem?_toArray, Nat.reduceEqDiff, reduceCtorEq, Nat.reduceAdd, Nat.reduceSub, Nat.reduceLT, Nat.reduceMul, Nat.reducePow, Nat.reduceLeDiff, Int.reduceToNat, Int.reduceLE, Int.reduceLT, Int.reducePow]
  refine kLoop_of (fun i : Nat => ([.p 0 0, .p 1 0, .c (.int .i64 i), .j, .j, .j, .j, .j, .j, .j, .j, .j, .j, .j, .j], [⟨true, bs (List.replicate 32 0)⟩, ⟨true, bs (startL i)⟩])) (fun i => 32 - i) (fun i => i ≤ 32) 0 (by omega) ⟨[0, 1], ?_⟩ ?_
  · simp [-List.reduceReplicate, LES, startL_zero]
  · intro i hi
    simp only [↓VC, VP, TT, List.getElem?_toArray, Nat.reduceEqDiff, reduceCtorEq, Nat.reduceAdd, Nat.reduceSub, Nat.reduceLT, Nat.reduceMul, Nat.reducePow, Nat.reduceLeDiff, Int.reduceToNat, Int.reduceLE, Int.reduceLT, Int.reducePow, startL_len]
    refine ⟨fun h => ⟨by omega, by omega, by omega, i + 1, by omega, by omega, [0, 1], ?_⟩, fun h => ⟨_, _, [], ⟨rfl, rfl⟩, ?_⟩⟩
    · have e : UInt8.ofInt ((IntKind.i64.wrap (17 * (i : Int))).tmod 256) = UInt8.ofInt (17 * i) := by
        rw [wrap_i64 (by omega) (by omega)]; apply ofInt_eq; rw [Int.tmod_eq_emod_of_nonneg (by omega)]; omega
      rw [e, startL_succ (by omega), wrap_i64 (n := (i : Int) + 1) (by omega) (by omega)]
      simp [-List.reduceReplicate, LES]
    · obtain rfl : i = 32 := by omega
      simp [-List.reduceReplicate, LES]
theorem c_laws_eqDigest (a b : List UInt8) (ha : a.length = 32) (hb : b.length = 32) : LC Try.prog 40 [.a (bs a), .a (bs b)] [] (fun v hp => v = .c (.bool (a == b)) ∧ hp = []) := by
  refine LC_of (X := XX (fun | 4 => .one 0 (.one 1 (.one 2 (.one 3 (.one 4 (.one 5 (.one 6 .nil)))))) | _ => .nil) (fun _ => []) [33, 34, 51, 59, 60, 80, 163] 0) envOK Try.func40 (by kernel_rfl) (by kernel_rfl) rfl (Nat.le_of_ble_eq_true (by kernel_rfl)) ?_
  simp only [kFun, Try.f40, List.length_nil, List.length_cons, Nat.sub_zero, Nat.reduceSub, Nat.reduceAdd, List.nil_append, List.cons_append, List.replicate_succ, List.replicate_zero]
  simp only [XX, ↓VC, VP, TT, List.getElem?_toArray, Nat.reduceEqDiff, reduceCtorEq, Nat.reduceAdd, Nat.reduceSub, Nat.reduceLT, Nat.reduceMul, Nat.reducePow, Nat.reduceLeDiff, Int.reduceToNat, Int.reduceLE, Int.reduceLT, Int.reducePow]
  refine kLoop_of (fun i : Nat => ([.a (bs a), .a (bs b), .p 0 0, .p 1 0, .j, .c (.int .i64 i), .j, .j, .j, .j, .j, .j, .j, .j, .j, .j, .j], [⟨true, bs a⟩, ⟨true, bs b⟩])) (fun i => 32 - i) (fun i => i ≤ 32 ∧ a.take i = b.take i) 0 (by simp) ⟨[0, 1], by simp [-List.reduceReplicate, LES]⟩ ?_
  rintro i ⟨hi, hab⟩
  simp only [↓VC, VP, TT, List.getElem?_toArray, Nat.reduceEqDiff, reduceCtorEq, Nat.reduceAdd, Nat.reduceSub, Nat.reduceLT, Nat.reduceMul, Nat.reducePow, Nat.reduceLeDiff, Int.reduceToNat, Int.reduceLE, Int.reduceLT, Int.reducePow, ha, hb]
  refine ⟨fun h => ⟨by omega, by omega, by omega, by omega, fun hne => ⟨_, _, [], ⟨rfl, rfl⟩, ?_⟩, fun he => ⟨i + 1, ⟨by omega, take_succ_eq (by omega) (by omega) hab ?_⟩, by omega, [0, 1], ?_⟩⟩, fun h => ⟨_, _, [], ⟨rfl, rfl⟩, ?_⟩⟩
  · rw [bne_iff_ne] at hne
    rw [ne_of_getD (a := a) (b := b) (i := i) (fun e => hne (by rw [e]))]
    simp [-List.reduceReplicate, LES]
  · exact UInt8.toNat_inj.1 (by have := bne_eq_false_iff_eq.1 he; omega)
  · rw [wrap_i64 (by omega) (by omega)]
    simp [-List.reduceReplicate, LES]
  · obtain rfl : i = 32 := by omega
    rw [List.take_of_length_le (by omega), List.take_of_length_le (by omega)] at hab
    subst hab
    simp [-List.reduceReplicate, LES]
end Go.Proofs.Ytbdnomfcgbmncaa

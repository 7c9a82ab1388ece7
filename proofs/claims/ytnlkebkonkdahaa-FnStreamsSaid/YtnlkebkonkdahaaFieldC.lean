import Derived.Test.YtnlkebkonkdahaaField
/- Which numbers are fields: both ways of looking give the same answer. -/
set_option linter.unusedSimpArgs false
set_option linter.unusedVariables false
namespace Go.Proofs.Ytnlkebkonkdahaa
open Go Go.Vc
set_option maxRecDepth 10000
def lenB : Nat → Nat → Nat
  | 0, _ => 0
  | k + 1, n => if n = 0 then 0 else 1 + lenB k (n / 2)
theorem lenB_zero : ∀ k, lenB k 0 = 0
  | 0 => rfl
  | k + 1 => by simp [lenB]
def restS (b : Nat) : Nat → Nat → Nat
  | 0, a => a
  | k + 1, a => if lenB 10 a < lenB 10 b then a else restS b k (a ^^^ (b <<< (lenB 10 a - lenB 10 b)))
theorem restS_tab : ((List.range 32).all fun b => (List.range 512).all fun a => decide (b < 2) || decide (lenB 10 a < lenB 10 b) ||
    (decide (lenB 10 (a ^^^ (b <<< (lenB 10 a - lenB 10 b))) < lenB 10 a) && decide (a ^^^ (b <<< (lenB 10 a - lenB 10 b)) < 512) && decide (lenB 10 a - lenB 10 b ≤ 9) && decide (b <<< (lenB 10 a - lenB 10 b) < 512))) = true := by decide +kernel
theorem restS_step (b : Nat) (hb : b < 32) (hb' : 2 ≤ b) (a : Nat) (ha : a < 512) (h : lenB 10 b ≤ lenB 10 a) : lenB 10 (a ^^^ (b <<< (lenB 10 a - lenB 10 b))) < lenB 10 a ∧ a ^^^ (b <<< (lenB 10 a - lenB 10 b)) < 512 ∧ lenB 10 a - lenB 10 b ≤ 9 ∧ b <<< (lenB 10 a - lenB 10 b) < 512 := by
  have h1 := List.all_eq_true.1 restS_tab b (by simpa using hb)
  have h2 := List.all_eq_true.1 h1 a (by simpa using ha)
  simp only [Bool.or_eq_true, Bool.and_eq_true, decide_eq_true_eq] at h2
  omega
theorem restS_done {b a : Nat} (h : lenB 10 a < lenB 10 b) : ∀ k, restS b k a = a
  | 0 => rfl
  | k + 1 => by rw [restS, if_pos h]
def fieldS (m : Nat) : Bool := (List.range 30).all fun k => restS (k + 2) 10 m != 0
def fieldI (m : Nat) : Bool := (List.range 30).all fun k => resP (k + 2) (Nat.log2 (k + 2)) m (16 - Nat.log2 (k + 2)) != 0
theorem fields_eq : ∀ m, m < 512 → 256 ≤ m → fieldI m = fieldS m := by decide +kernel
def fieldB (m : Int) : Bool := decide (256 ≤ m ∧ m ≤ 511) && fieldS m.toNat
theorem fieldB_spec {m : Int} (h : fieldB m = true) : ∃ k : Nat, m = k ∧ 256 ≤ k ∧ k < 512 := by
  unfold fieldB at h
  rw [Bool.and_eq_true, decide_eq_true_eq] at h
  exact ⟨m.toNat, by omega, by omega, by omega⟩
theorem c_spec_l01In (n lo hi : Int) : LC Try.prog 41 [.c (.int .i64 (n)), .c (.int .i64 (lo)), .c (.int .i64 (hi))] [] (fun v hp => v = .c (.bool (decide (lo ≤ n ∧ n ≤ hi))) ∧ hp = []) := by
  refine LC_of (X := XX (fun _ => .nil) (fun _ => []) [23, 35, 36, 47, 61, 66, 104, 105, 128, 129, 134, 138, 139, 146] 0) envOK Try.func41 (by kernel_rfl) (by kernel_rfl) rfl (Nat.le_of_ble_eq_true (by kernel_rfl)) ?_
  simp only [kFun, Try.f41, List.length_nil, List.length_cons, Nat.sub_zero, Nat.reduceSub, Nat.reduceAdd, List.nil_append, List.cons_append, List.replicate_succ, List.replicate_zero]
  simp only [XX, ↓VC, VP, TT, List.getElem?_toArray, Nat.reduceEqDiff, reduceCtorEq, Nat.reduceAdd, Nat.reduceSub, Nat.reduceLT, Nat.reduceMul, Nat.reducePow, Nat.reduceLeDiff, Int.reduceToNat, Int.reduceLE, Int.reduceLT, Int.reducePow]
  refine kGd_split rfl (fun h1 => ?_) (fun h1 => ?_) <;> simp only [decide_eq_true_eq, decide_eq_false_iff_not] at h1 <;> simp only [↓VC, VP, TT, List.getElem?_toArray, Nat.reduceEqDiff, reduceCtorEq, Nat.reduceAdd, Nat.reduceSub, Nat.reduceLT, Nat.reduceMul, Nat.reducePow, Nat.reduceLeDiff, Int.reduceToNat, Int.reduceLE, Int.reduceLT, Int.reducePow]
  · refine ⟨_, _, [], ⟨rfl, rfl⟩, ?_⟩
    rw [show decide (n ≤ hi) = decide (lo ≤ n ∧ n ≤ hi) from decide_eq_decide.2 ⟨fun h => ⟨h1, h⟩, fun h => h.2⟩]
    simp [-List.reduceReplicate, LES]
  · refine ⟨_, _, [], ⟨rfl, rfl⟩, ?_⟩
    rw [show decide (lo ≤ n ∧ n ≤ hi) = false from decide_eq_false fun h => h1 h.1]
    simp [-List.reduceReplicate, LES]
theorem c_impl_inRange (n lo hi : Int) : LC Try.prog 37 [.c (.int .i64 (n)), .c (.int .i64 (lo)), .c (.int .i64 (hi))] [] (fun v hp => v = .c (.bool (decide (lo ≤ n ∧ n ≤ hi))) ∧ hp = []) := by
  refine LC_of (X := XX (fun _ => .nil) (fun _ => []) [23, 35, 36, 47, 61, 66, 104, 105, 128, 129, 134, 138, 139, 146] 0) envOK Try.func37 (by kernel_rfl) (by kernel_rfl) rfl (Nat.le_of_ble_eq_true (by kernel_rfl)) ?_
  simp only [kFun, Try.f37, List.length_nil, List.length_cons, Nat.sub_zero, Nat.reduceSub, Nat.reduceAdd, List.nil_append, List.cons_append, List.replicate_succ, List.replicate_zero]
  simp only [XX, ↓VC, VP, TT, List.getElem?_toArray, Nat.reduceEqDiff, reduceCtorEq, Nat.reduceAdd, Nat.reduceSub, Nat.reduceLT, Nat.reduceMul, Nat.reducePow, Nat.reduceLeDiff, Int.reduceToNat, Int.reduceLE, Int.reduceLT, Int.reducePow]
  refine kGd_split rfl (fun h1 => ?_) (fun h1 => ?_) <;> simp only [decide_eq_true_eq, decide_eq_false_iff_not] at h1 <;> simp only [↓VC, VP, TT, List.getElem?_toArray, Nat.reduceEqDiff, reduceCtorEq, Nat.reduceAdd, Nat.reduceSub, Nat.reduceLT, Nat.reduceMul, Nat.reducePow, Nat.reduceLeDiff, Int.reduceToNat, Int.reduceLE, Int.reduceLT, Int.reducePow]
  · refine ⟨_, _, [], ⟨rfl, rfl⟩, ?_⟩
    rw [show decide (n ≤ hi) = decide (lo ≤ n ∧ n ≤ hi) from decide_eq_decide.2 ⟨fun h => ⟨h1, h⟩, fun h => h.2⟩]
    simp [-List.reduceReplicate, LES]
  · refine ⟨_, _, [], ⟨rfl, rfl⟩, ?_⟩
    rw [show decide (lo ≤ n ∧ n ≤ hi) = false from decide_eq_false fun h => h1 h.1]
    simp [-List.reduceReplicate, LES]
theorem c_spec_l01Length (n : Nat) (hn : n < 1024) : LC Try.prog 142 [.c (.int .i64 (n))] [] (fun v hp => v = .c (.int .i64 ((lenB 10 n : Nat))) ∧ hp = []) := by
  refine LC_of (X := XX (fun _ => .nil) (fun _ => []) [23, 35, 36, 47, 61, 66, 104, 105, 128, 129, 134, 138, 139, 146] 0) envOK Try.func142 (by kernel_rfl) (by kernel_rfl) rfl (Nat.le_of_ble_eq_true (by kernel_rfl)) ?_
  simp only [kFun, Try.f142, List.length_nil, List.length_cons, Nat.sub_zero, Nat.reduceSub, Nat.reduceAdd, List.nil_append, List.cons_append, List.replicate_succ, List.replicate_zero]
  simp only [XX, ↓VC, VP, TT, List.getElem?_toArray, Nat.reduceEqDiff, reduceCtorEq, Nat.reduceAdd, Nat.reduceSub, Nat.reduceLT, Nat.reduceMul, Nat.reducePow, Nat.reduceLeDiff, Int.reduceToNat, Int.reduceLE, Int.reduceLT, Int.reducePow]
  refine kLoop_of (fun j : Nat => ([.c (.int .i64 ((n / 2 ^ j : Nat))), .j, .j, .c (.int .i64 (j)), .j, .j, .j, .j, .j, .j, .j], [])) (fun j => n / 2 ^ j) (fun j => j + lenB (10 - j) (n / 2 ^ j) = lenB 10 n ∧ n / 2 ^ j < 2 ^ (10 - j) ∧ j ≤ 10) 0 ⟨by simp, by simpa using hn, by omega⟩ ⟨[], by simp [-List.reduceReplicate, LES]⟩ ?_
  rintro j ⟨h1, h2, h3⟩
  simp only [↓VC, VP, TT, List.getElem?_toArray, Nat.reduceEqDiff, reduceCtorEq, Nat.reduceAdd, Nat.reduceSub, Nat.reduceLT, Nat.reduceMul, Nat.reducePow, Nat.reduceLeDiff, Int.reduceToNat, Int.reduceLE, Int.reduceLT, Int.reducePow]
  have e2 : n / 2 ^ (j + 1) = n / 2 ^ j / 2 := by rw [Nat.pow_succ, ← Nat.div_div_eq_div_mul]
  have ht := tdiv2 n j (by omega)
  rw [e2] at ht
  rw [ht]
  generalize hq : n / 2 ^ j = q at *
  refine ⟨fun h => ⟨by omega, j + 1, ?_, by rw [e2]; omega, [], ?_⟩, fun h => ?_⟩
  · have hj : j < 10 := by
      rcases Nat.lt_or_ge j 10 with h' | h'
      · exact h'
      · rw [show 10 - j = 0 by omega] at h2; simp at h2; omega
    obtain ⟨k, hk⟩ : ∃ k, 10 - j = k + 1 := ⟨9 - j, by omega⟩
    rw [hk, lenB, if_neg (by omega)] at h1
    rw [hk, Nat.pow_succ] at h2
    rw [e2, show 10 - (j + 1) = k by omega]
    exact ⟨by omega, by omega, by omega⟩
  · rw [wrap_i64 (by omega) (by omega)]
    simp [-List.reduceReplicate, LES, e2]
  · obtain rfl : q = 0 := by omega
    rw [lenB_zero] at h1
    refine ⟨_, _, [], ⟨rfl, rfl⟩, ?_⟩; simp [-List.reduceReplicate, LES, ← h1]
theorem c_spec_l01Rest (a b : Nat) (ha : a < 512) (hb : b < 32) (hb' : 2 ≤ b) : LC Try.prog 135 [.c (.int .i64 (a)), .c (.int .i64 (b))] [] (fun v hp => v = .c (.int .i64 ((restS b 10 a : Nat))) ∧ hp = []) := by
  refine LC_of (X := XX (fun _ => .nil) (fun _ => []) [23, 35, 36, 47, 61, 66, 104, 105, 128, 129, 134, 138, 139, 146] 0) envOK Try.func135 (by kernel_rfl) (by kernel_rfl) rfl (Nat.le_of_ble_eq_true (by kernel_rfl)) ?_
  simp only [kFun, Try.f135, List.length_nil, List.length_cons, Nat.sub_zero, Nat.reduceSub, Nat.reduceAdd, List.nil_append, List.cons_append, List.replicate_succ, List.replicate_zero]
  simp only [XX, ↓VC, VP, TT, List.getElem?_toArray, Nat.reduceEqDiff, reduceCtorEq, Nat.reduceAdd, Nat.reduceSub, Nat.reduceLT, Nat.reduceMul, Nat.reducePow, Nat.reduceLeDiff, Int.reduceToNat, Int.reduceLE, Int.reduceLT, Int.reducePow]
  refine kCall_val (c_spec_l01Length b (by omega)) (by rfl) [] (by simp [CALL]) (by simp [CALL, cellsAt]) (by simp [CALL]) (by simp [okL_bs]) ?_
  simp only [CALL, ↓VC, VP, TT, List.getElem?_toArray, Nat.reduceEqDiff, reduceCtorEq, Nat.reduceAdd, Nat.reduceSub, Nat.reduceLT, Nat.reduceMul, Nat.reducePow, Nat.reduceLeDiff, Int.reduceToNat, Int.reduceLE, Int.reduceLT, Int.reducePow]
  refine kCall_val (c_spec_l01Length a (by omega)) (by rfl) [] (by simp [CALL]) (by simp [CALL, cellsAt]) (by simp [CALL]) (by simp [okL_bs]) ?_
  simp only [CALL, ↓VC, VP, TT, List.getElem?_toArray, Nat.reduceEqDiff, reduceCtorEq, Nat.reduceAdd, Nat.reduceSub, Nat.reduceLT, Nat.reduceMul, Nat.reducePow, Nat.reduceLeDiff, Int.reduceToNat, Int.reduceLE, Int.reduceLT, Int.reducePow]
  have hlen : ∀ n, lenB 10 n ≤ 10 := by
    have : ∀ k n, lenB k n ≤ k := fun k => by
      induction k with
      | zero => intro n; simp [lenB]
      | succ k ih => intro n; rw [lenB]; split; omega; have := ih (n / 2); omega
    exact this 10
  refine kLoop_of (fun s : Nat × Nat => ([.c (.int .i64 (s.1)), .c (.int .i64 (b)), .j, .j, .j, .c (.int .i64 ((lenB 10 b : Nat))), .c (.int .i64 ((lenB 10 s.1 : Nat))), .j, .j, .j, .j, .j, .j, .j, .j, .j, .j, .j, .j, .j, .j, .j, .j, .j, .j], [])) (fun s => lenB 10 s.1) (fun s => s.1 < 512 ∧ lenB 10 s.1 ≤ s.2 ∧ restS b s.2 s.1 = restS b 10 a) (a, 10) ⟨ha, hlen a, rfl⟩ ⟨[], by simp [-List.reduceReplicate, LES]⟩ ?_
  rintro ⟨x, k⟩ ⟨h1, h2, h3⟩
  simp only at h1 h2 h3
  simp only [↓VC, VP, TT, List.getElem?_toArray, Nat.reduceEqDiff, reduceCtorEq, Nat.reduceAdd, Nat.reduceSub, Nat.reduceLT, Nat.reduceMul, Nat.reducePow, Nat.reduceLeDiff, Int.reduceToNat, Int.reduceLE, Int.reduceLT, Int.reducePow]
  refine ⟨fun h => ?_, fun h => ?_⟩
  · obtain ⟨g1, g2, g3, g4⟩ := restS_step b hb hb' x h1 (by omega)
    have ew : IntKind.i64.wrap ((lenB 10 x : Int) - lenB 10 b) = ((lenB 10 x - lenB 10 b : Nat) : Int) := by rw [wrap_i64 (by omega) (by omega)]; omega
    have ew' : IntKind.u64.wrap (((lenB 10 x - lenB 10 b : Nat) : Int)) = ((lenB 10 x - lenB 10 b : Nat) : Int) := by rw [wrap_u64 (by omega) (by omega)]
    have hs : b * 2 ^ (lenB 10 x - lenB 10 b) < 9223372036854775808 := by rw [← Nat.shiftLeft_eq]; omega
    rw [ew, ew', shl_nat b _ _ hs (by omega) rfl, bitI_xor64 (by omega) (by omega)]
    refine ⟨by omega, ?_⟩
    refine kCall_val (c_spec_l01Length (x ^^^ (b <<< (lenB 10 x - lenB 10 b))) (by omega)) (by rfl) [] (by simp [CALL]) (by simp [CALL, cellsAt]) (by simp [CALL]) (by simp [okL_bs]) ?_
    simp only [CALL, ↓VC, VP, TT, List.getElem?_toArray, Nat.reduceEqDiff, reduceCtorEq, Nat.reduceAdd, Nat.reduceSub, Nat.reduceLT, Nat.reduceMul, Nat.reducePow, Nat.reduceLeDiff, Int.reduceToNat, Int.reduceLE, Int.reduceLT, Int.reducePow]
    obtain ⟨k', rfl⟩ : ∃ k', k = k' + 1 := ⟨k - 1, by omega⟩
    rw [restS, if_neg (by omega)] at h3
    exact ⟨(x ^^^ (b <<< (lenB 10 x - lenB 10 b)), k'), ⟨g2, by simp only; omega, h3⟩, g1, [], by simp [-List.reduceReplicate, LES]⟩
  · rw [restS_done (by omega)] at h3
    refine ⟨_, _, [], ⟨rfl, rfl⟩, ?_⟩; simp [-List.reduceReplicate, LES, ← h3]
theorem allS {p : Nat → Bool} {n : Nat} {i : Nat} (hi : i < n) (h : p i = false) : (List.range n).all p = false := by
  rw [List.all_eq_false]; exact ⟨i, by simpa using hi, by simp [h]⟩
theorem c_spec_l01Field (m : Int) : LC Try.prog 112 [.c (.int .i64 (m))] [] (fun v hp => v = .c (.bool (fieldB m)) ∧ hp = []) := by
  refine LC_of (X := XX (fun _ => .nil) (fun _ => []) [23, 35, 36, 47, 61, 66, 104, 105, 128, 129, 134, 138, 139, 146] 0) envOK Try.func112 (by kernel_rfl) (by kernel_rfl) rfl (Nat.le_of_ble_eq_true (by kernel_rfl)) ?_
  simp only [kFun, Try.f112, List.length_nil, List.length_cons, Nat.sub_zero, Nat.reduceSub, Nat.reduceAdd, List.nil_append, List.cons_append, List.replicate_succ, List.replicate_zero]
  simp only [XX, ↓VC, VP, TT, List.getElem?_toArray, Nat.reduceEqDiff, reduceCtorEq, Nat.reduceAdd, Nat.reduceSub, Nat.reduceLT, Nat.reduceMul, Nat.reducePow, Nat.reduceLeDiff, Int.reduceToNat, Int.reduceLE, Int.reduceLT, Int.reducePow]
  refine kCall_val (c_spec_l01In m 256 511) (by rfl) [] (by simp [CALL]) (by simp [CALL, cellsAt]) (by simp [CALL]) (by simp [okL_bs]) ?_
  simp only [CALL, ↓VC, VP, TT, List.getElem?_toArray, Nat.reduceEqDiff, reduceCtorEq, Nat.reduceAdd, Nat.reduceSub, Nat.reduceLT, Nat.reduceMul, Nat.reducePow, Nat.reduceLeDiff, Int.reduceToNat, Int.reduceLE, Int.reduceLT, Int.reducePow]
  refine ⟨fun h => ?_, fun h => ?_⟩
  · simp only [Bool.not_eq_true', decide_eq_false_iff_not] at h
    refine ⟨_, _, [], ⟨rfl, rfl⟩, ?_⟩
    rw [show fieldB m = false by unfold fieldB; rw [decide_eq_false h]; rfl]
    simp [-List.reduceReplicate, LES]
  · simp only [Bool.not_eq_false', decide_eq_true_eq] at h
    obtain ⟨k, rfl⟩ : ∃ k : Nat, m = k := ⟨m.toNat, by omega⟩
    have hB : fieldB (k : Int) = fieldS k := by unfold fieldB; rw [decide_eq_true h]; simp
    rw [hB]
    refine kLoop_of (fun d : Nat => ([.c (.int .i64 (k)), .j, .j, .c (.int .i64 (d)), .j, .j, .j, .j, .j, .j, .j, .j, .j, .j, .j], [])) (fun d => 32 - d) (fun d => 2 ≤ d ∧ d ≤ 32 ∧ ∀ e, e + 2 < d → restS (e + 2) 10 k ≠ 0) 2 ⟨by omega, by omega, fun e he => by omega⟩ ⟨[], by simp [-List.reduceReplicate, LES]⟩ ?_
    rintro d ⟨h1, h2, h3⟩
    simp only [↓VC, VP, TT, List.getElem?_toArray, Nat.reduceEqDiff, reduceCtorEq, Nat.reduceAdd, Nat.reduceSub, Nat.reduceLT, Nat.reduceMul, Nat.reducePow, Nat.reduceLeDiff, Int.reduceToNat, Int.reduceLE, Int.reduceLT, Int.reducePow]
    refine ⟨fun hd => ?_, fun hd => ?_⟩
    · refine kCall_val (c_spec_l01Rest k d (by omega) (by omega) h1) (by rfl) [] (by simp [CALL]) (by simp [CALL, cellsAt]) (by simp [CALL]) (by simp [okL_bs]) ?_
      simp only [CALL, ↓VC, VP, TT, List.getElem?_toArray, Nat.reduceEqDiff, reduceCtorEq, Nat.reduceAdd, Nat.reduceSub, Nat.reduceLT, Nat.reduceMul, Nat.reducePow, Nat.reduceLeDiff, Int.reduceToNat, Int.reduceLE, Int.reduceLT, Int.reducePow]
      refine ⟨fun hz => ?_, fun hz => ?_⟩
      · have hz' : restS d 10 k = 0 := by rw [beq_iff_eq] at hz; omega
        refine ⟨_, _, [], ⟨rfl, rfl⟩, ?_⟩
        rw [show fieldS k = false from allS (i := d - 2) (by omega) (by rw [show d - 2 + 2 = d by omega, hz']; rfl)]
        simp [-List.reduceReplicate, LES]
      · have hz' : restS d 10 k ≠ 0 := fun e => by rw [e] at hz; simp at hz
        refine ⟨d + 1, ⟨by omega, by omega, fun e he => ?_⟩, by omega, [], ?_⟩
        · rcases Nat.lt_or_ge (e + 2) d with h' | h'
          · exact h3 e h'
          · obtain rfl : d = e + 2 := by omega
            exact hz'
        · rw [wrap_i64 (by omega) (by omega)]; simp [-List.reduceReplicate, LES]
    · refine ⟨_, _, [], ⟨rfl, rfl⟩, ?_⟩
      rw [show fieldS k = true from List.all_eq_true.2 fun e he => by rw [List.mem_range] at he; simpa using h3 e (by omega)]
      simp [-List.reduceReplicate, LES]
theorem log_tab : ∀ g, g ≤ 4 → ∀ d, d < 32 → 2 ^ g ≤ d → d < 2 ^ (g + 1) → Nat.log2 d = g := by decide +kernel
theorem pow_tab : ∀ g, g ≤ 5 → 2 ^ g ≤ 32 := by decide
theorem c_impl_IsField (m : Int) : LC Try.prog 106 [.c (.int .i64 (m))] [] (fun v hp => v = .c (.bool (fieldB m)) ∧ hp = []) := by
  refine LC_of (X := XX (fun _ => .nil) (fun _ => []) [23, 35, 36, 47, 61, 66, 104, 105, 128, 129, 134, 138, 139, 146] 0) envOK Try.func106 (by kernel_rfl) (by kernel_rfl) rfl (Nat.le_of_ble_eq_true (by kernel_rfl)) ?_
  simp only [kFun, Try.f106, List.length_nil, List.length_cons, Nat.sub_zero, Nat.reduceSub, Nat.reduceAdd, List.nil_append, List.cons_append, List.replicate_succ, List.replicate_zero]
  simp only [XX, ↓VC, VP, TT, List.getElem?_toArray, Nat.reduceEqDiff, reduceCtorEq, Nat.reduceAdd, Nat.reduceSub, Nat.reduceLT, Nat.reduceMul, Nat.reducePow, Nat.reduceLeDiff, Int.reduceToNat, Int.reduceLE, Int.reduceLT, Int.reducePow]
  refine kCall_val (c_impl_inRange m 256 511) (by rfl) [] (by simp [CALL]) (by simp [CALL, cellsAt]) (by simp [CALL]) (by simp [okL_bs]) ?_
  simp only [CALL, ↓VC, VP, TT, List.getElem?_toArray, Nat.reduceEqDiff, reduceCtorEq, Nat.reduceAdd, Nat.reduceSub, Nat.reduceLT, Nat.reduceMul, Nat.reducePow, Nat.reduceLeDiff, Int.reduceToNat, Int.reduceLE, Int.reduceLT, Int.reducePow]
  refine ⟨fun h => ?_, fun h => ?_⟩
  · simp only [Bool.not_eq_true', decide_eq_false_iff_not] at h
    refine ⟨_, _, [], ⟨rfl, rfl⟩, ?_⟩
    rw [show fieldB m = false by unfold fieldB; rw [decide_eq_false h]; rfl]
    simp [-List.reduceReplicate, LES]
  · simp only [Bool.not_eq_false', decide_eq_true_eq] at h
    obtain ⟨k, rfl⟩ : ∃ k : Nat, m = k := ⟨m.toNat, by omega⟩
    have hB : fieldB (k : Int) = fieldI k := by unfold fieldB; rw [decide_eq_true h, fields_eq k (by omega) (by omega)]; simp
    rw [hB]
    refine kLoop_of (fun g : Nat => ([.c (.int .i64 (k)), .j, .j, .c (.int .i64 (g)), .j, .j, .j, .j, .j, .j, .j, .j, .j, .j, .j, .j, .j, .j, .j, .j, .j, .j, .j, .j, .j], [])) (fun g => 5 - g) (fun g => 1 ≤ g ∧ g ≤ 5 ∧ ∀ e, 2 ≤ e → e < 2 ^ g → resP e (Nat.log2 e) k (16 - Nat.log2 e) ≠ 0) 1 ⟨by omega, by omega, fun e he he' => by omega⟩ ⟨[], by simp [-List.reduceReplicate, LES]⟩ ?_
    rintro g ⟨h1, h2, h3⟩
    simp only [↓VC, VP, TT, List.getElem?_toArray, Nat.reduceEqDiff, reduceCtorEq, Nat.reduceAdd, Nat.reduceSub, Nat.reduceLT, Nat.reduceMul, Nat.reducePow, Nat.reduceLeDiff, Int.reduceToNat, Int.reduceLE, Int.reduceLT, Int.reducePow]
    refine ⟨fun hg => ?_, fun hg => ?_⟩
    · have hp := pow_tab (g + 1) (by omega)
      have hp2 : 2 ^ (g + 1) = 2 * 2 ^ g := by rw [Nat.pow_succ]; omega
      have e1 := shl_nat 1 g g (by omega) (by omega) rfl
      have e2 := shl_nat 2 g g (by omega) (by omega) rfl
      rw [Int.toNat_natCast, Nat.shiftLeft_eq] at e1 e2
      rw [show ((1 : Nat) : Int) = 1 from rfl] at e1
      rw [show ((2 : Nat) : Int) = 2 from rfl] at e2
      rw [e1, Nat.one_mul]
      refine kLoop_of (fun d : Nat => ([.c (.int .i64 (k)), .j, .j, .c (.int .i64 (g)), .c (.int .i64 (d)), .j, .j, .j, .j, .j, .j, .j, .j, .j, .j, .j, .j, .j, .j, .j, .j, .j, .j, .j, .j], [])) (fun d => 32 - d) (fun d => 2 ^ g ≤ d ∧ d ≤ 2 ^ (g + 1) ∧ ∀ e, 2 ≤ e → e < d → resP e (Nat.log2 e) k (16 - Nat.log2 e) ≠ 0) (2 ^ g) ⟨by omega, by omega, h3⟩ ⟨[], by simp [-List.reduceReplicate, LES]⟩ ?_
      rintro d ⟨g1, g2, g3⟩
      simp only [↓VC, VP, TT, List.getElem?_toArray, Nat.reduceEqDiff, reduceCtorEq, Nat.reduceAdd, Nat.reduceSub, Nat.reduceLT, Nat.reduceMul, Nat.reducePow, Nat.reduceLeDiff, Int.reduceToNat, Int.reduceLE, Int.reduceLT, Int.reducePow]
      rw [e2]
      have hg2 : 2 ≤ 2 ^ g := by
        have : 2 ^ 1 ≤ 2 ^ g := Nat.pow_le_pow_right (by decide) h1
        omega
      refine ⟨fun hd => ?_, fun hd => ?_⟩
      · refine kCall_val (c_impl_rest k d g (by omega) (by omega) (by omega)) (by rfl) [] (by simp [CALL]) (by simp [CALL, cellsAt]) (by simp [CALL]) (by simp [okL_bs]) ?_
        simp only [CALL, ↓VC, VP, TT, List.getElem?_toArray, Nat.reduceEqDiff, reduceCtorEq, Nat.reduceAdd, Nat.reduceSub, Nat.reduceLT, Nat.reduceMul, Nat.reducePow, Nat.reduceLeDiff, Int.reduceToNat, Int.reduceLE, Int.reduceLT, Int.reducePow]
        have hlog := log_tab g (by omega) d (by omega) (by omega) (by omega)
        refine ⟨fun hz => ?_, fun hz => ?_⟩
        · have hz' : resP d g k (16 - g) = 0 := by rw [beq_iff_eq] at hz; omega
          refine ⟨_, _, [], ⟨rfl, rfl⟩, ?_⟩
          rw [show fieldI k = false from allS (i := d - 2) (by omega) (by rw [show d - 2 + 2 = d by omega, hlog, hz']; rfl)]
          simp [-List.reduceReplicate, LES]
        · have hz' : resP d g k (16 - g) ≠ 0 := fun e => by rw [e] at hz; simp at hz
          refine ⟨d + 1, ⟨by omega, by omega, fun e he he' => ?_⟩, by omega, [], ?_⟩
          · rcases Nat.lt_or_ge e d with h' | h'
            · exact g3 e he h'
            · obtain rfl : e = d := by omega
              rw [hlog]; exact hz'
          · rw [wrap_i64 (by omega) (by omega)]; simp [-List.reduceReplicate, LES]
      · obtain rfl : d = 2 ^ (g + 1) := by omega
        refine ⟨g + 1, ⟨by omega, by omega, g3⟩, by omega, [], ?_⟩
        rw [wrap_i64 (by omega) (by omega)]; simp [-List.reduceReplicate, LES]
    · obtain rfl : g = 5 := by omega
      refine ⟨_, _, [], ⟨rfl, rfl⟩, ?_⟩
      rw [show fieldI k = true from List.all_eq_true.2 fun e he => by rw [List.mem_range] at he; simpa using h3 (e + 2) (by omega) (by omega)]
      simp [-List.reduceReplicate, LES]
end Go.Proofs.Ytnlkebkonkdahaa

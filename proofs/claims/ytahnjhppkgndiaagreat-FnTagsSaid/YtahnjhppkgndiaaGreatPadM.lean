import Derived.Test.YtahnjhppkgndiaaGreatTk
/- Padding to whole blocks, both ways: the same bytes. -/
set_option linter.unusedSimpArgs false
set_option linter.unusedVariables false
namespace Go.Proofs.YtahnjhppkgndiaaGreat
open Go Go.Vc
theorem one_moreB {A : List UInt8} {x : UInt8} {r' : Nat} : bs A ++ [V.c (.int .u8 (x.toNat : Int))] ++ List.replicate r' V.j = bs (A ++ [x]) ++ List.replicate r' V.j := by
  rw [← bs_append]; rfl
theorem one_more0 {A : List UInt8} {r' : Nat} : bs A ++ [V.c (.int .u8 0)] ++ List.replicate r' V.j = bs (A ++ [0]) ++ List.replicate r' V.j := one_moreB (x := 0)
set_option maxRecDepth 10000
theorem c_spec_l01Copy (l : List UInt8) (c : Nat) (hc : l.length ≤ c) (hm : l.length ≤ 4194304) : LC Tryz.prog 97 [.s 0 0 l.length c] [⟨false, bs l⟩] (Ret [⟨false, bs l⟩] (fun _ : Nat => True) fun r => (.s 1 0 l.length (l.length + r), [⟨true, bs l ++ List.replicate r .j⟩])) := by
  refine LC_of (X := XX (fun _ => .nil) (fun _ => []) [15, 71, 72, 73, 79, 80, 87, 90, 91, 93, 99, 119, 137, 176, 177, 203, 204, 212, 219] 1) envOK Tryz.func97 (by kernel_rfl) (by kernel_rfl) rfl (Nat.le_of_ble_eq_true (by kernel_rfl)) ?_
  simp only [kFun, Tryz.f97, List.length_nil, List.length_cons, Nat.sub_zero, Nat.reduceSub, Nat.reduceAdd, List.nil_append, List.cons_append, List.replicate_succ, List.replicate_zero]
  simp only [XX, ↓VC, VP, TT, Nat.reduceEqDiff, reduceCtorEq, Nat.reduceAdd, Nat.reduceSub, Nat.reduceLT, Nat.reduceMul, Nat.reducePow, Nat.reduceLeDiff, Int.reduceToNat, Int.reduceLE, Int.reduceLT, Int.reducePow]
  refine ⟨by omega, by omega, .inl trivial, .inr trivial, fun r c' hc' _ => ⟨_, _, [0, 2], ⟨r, trivial, rfl, rfl⟩, ?_⟩⟩
  rw [hc']; simp [-List.reduceReplicate, LES]
theorem c_slices_Clone (l : List UInt8) (c : Nat) (hc : l.length ≤ c) (hm : l.length ≤ 4194304) : LC Tryz.prog 109 [.s 0 0 l.length c] [⟨false, bs l⟩]
    (Ret [⟨false, bs l⟩] (fun o : Option Nat => o = none → l = [] ∧ c = 0) fun o => match o with | some r => (.s 1 0 l.length (l.length + r), [⟨true, bs l ++ List.replicate r .j⟩]) | none => (.c (.slice none 0 0), [])) := by
  refine LC_of (X := XX (fun _ => .nil) (fun _ => []) [15, 71, 72, 73, 79, 80, 87, 90, 91, 93, 99, 119, 137, 176, 177, 203, 204, 212, 219] 1) envOK Tryz.func109 (by kernel_rfl) (by kernel_rfl) rfl (Nat.le_of_ble_eq_true (by kernel_rfl)) ?_
  simp only [kFun, Tryz.f109, List.length_nil, List.length_cons, Nat.sub_zero, Nat.reduceSub, Nat.reduceAdd, List.nil_append, List.cons_append, List.replicate_succ, List.replicate_zero]
  simp only [XX, ↓VC, VP, TT, Nat.reduceEqDiff, reduceCtorEq, Nat.reduceAdd, Nat.reduceSub, Nat.reduceLT, Nat.reduceMul, Nat.reducePow, Nat.reduceLeDiff, Int.reduceToNat, Int.reduceLE, Int.reduceLT, Int.reducePow]
  refine fun b hb => ⟨fun h => ⟨_, _, [0], ⟨none, fun _ => ?_, rfl, rfl⟩, ?_⟩, fun h => ⟨by omega, by omega, .inl trivial, .inr trivial, fun r c' hc' _ => ⟨_, _, [0, 2], ⟨some r, by simp, rfl, rfl⟩, ?_⟩⟩⟩
  · rcases Nat.eq_zero_or_pos c with h0 | h0
    · exact ⟨List.eq_nil_of_length_eq_zero (by omega), h0⟩
    · rw [hb h0] at h; cases h
  · simp [-List.reduceReplicate, LES]
  · rw [hc']; simp [-List.reduceReplicate, LES]
theorem c_impl_isData (l : List UInt8) (c : Nat) : LC Tryz.prog 102 [.s 0 0 l.length c] [⟨false, bs l⟩] (fun v hp => v = .c (.bool (decide (l.length ≤ 2000))) ∧ hp = [⟨false, bs l⟩]) := by
  refine LC_of (X := XX (fun _ => .nil) (fun _ => []) [15, 71, 72, 73, 79, 80, 87, 90, 91, 93, 99, 119, 137, 176, 177, 203, 204, 212, 219] 1) envOK Tryz.func102 (by kernel_rfl) (by kernel_rfl) rfl (Nat.le_of_ble_eq_true (by kernel_rfl)) ?_
  simp only [kFun, Tryz.f102, List.length_nil, List.length_cons, Nat.sub_zero, Nat.reduceSub, Nat.reduceAdd, List.nil_append, List.cons_append, List.replicate_succ, List.replicate_zero]
  simp only [XX, ↓VC, VP, TT, Nat.reduceEqDiff, reduceCtorEq, Nat.reduceAdd, Nat.reduceSub, Nat.reduceLT, Nat.reduceMul, Nat.reducePow, Nat.reduceLeDiff, Int.reduceToNat, Int.reduceLE, Int.reduceLT, Int.reducePow]
  refine ⟨_, _, [0], ⟨rfl, rfl⟩, ?_⟩
  rw [show decide ((l.length : Int) ≤ 2000) = decide (l.length ≤ 2000) from by simp only [decide_eq_decide]; omega]
  simp [-List.reduceReplicate, LES]
end Go.Proofs.YtahnjhppkgndiaaGreat
/- Padding of messages, both ways: the same bytes. -/
set_option linter.unusedSimpArgs false
set_option linter.unusedVariables false
namespace Go.Proofs.YtahnjhppkgndiaaGreat
open Go Go.Vc
theorem one_more128 {A : List UInt8} {r' : Nat} : bs A ++ [V.c (.int .u8 128)] ++ List.replicate r' V.j = bs (A ++ [128]) ++ List.replicate r' V.j := one_moreB (x := 128)
def padMA (l : List UInt8) (j : Nat) : List UInt8 := l ++ 128 :: List.replicate j 0
theorem padMA_len (l : List UInt8) (j : Nat) : (padMA l j).length = l.length + 1 + j := by simp [padMA]; omega
theorem padMA_succ (l : List UInt8) (j : Nat) : padMA l j ++ [0] = padMA l (j + 1) := by
  simp [padMA, List.replicate_succ']
theorem padMA_zero (l : List UInt8) : l ++ [128] = padMA l 0 := rfl
def mz (l : List UInt8) : Nat := (23 - l.length % 16) % 16
theorem mz_spec (l : List UInt8) {j : Nat} (h : j ≤ mz l) (h8 : (l.length + 1 + j) % 16 ≠ 8) : j < mz l := by
  unfold mz at *; omega
theorem mz_done (l : List UInt8) {j : Nat} (h : j ≤ mz l) (h8 : (l.length + 1 + j) % 16 = 8) : j = mz l := by
  unfold mz at *; omega
/-- The first j bytes of a length, the greatest first. -/
def beA (n j : Nat) : List UInt8 := (List.range j).map fun t => UInt8.ofInt ((n : Int).fdiv (2 ^ (8 * (7 - t))))
theorem beA_len (n j : Nat) : (beA n j).length = j := by simp [beA]
theorem beA_succ (n j : Nat) : beA n j ++ [UInt8.ofInt ((n : Int).fdiv (2 ^ (8 * (7 - j))))] = beA n (j + 1) := by simp [beA, List.range_succ]
def padM (l : List UInt8) : List UInt8 := padMA l (mz l) ++ beA l.length 8
theorem padM_len (l : List UInt8) : (padM l).length = l.length + 1 + mz l + 8 := by simp [padM, padMA_len, beA_len]
theorem mz_lt (l : List UInt8) : mz l < 16 := by unfold mz; omega
theorem and255 {m : Int} (h : 0 ≤ m) (h' : m < 9223372036854775808) : bitI .and .i64 m 255 = m % 256 := by
  obtain ⟨n, rfl⟩ := Int.eq_ofNat_of_zero_le h
  show IntKind.i64.wrap (((BitVec.ofInt 64 (n : Int) &&& BitVec.ofInt 64 255).toNat : Nat) : Int) = _
  have e1 : (BitVec.ofInt 64 (n : Int) &&& BitVec.ofInt 64 255).toNat = n % 256 := by
    rw [BitVec.toNat_and, show (BitVec.ofInt 64 255).toNat = 2 ^ 8 - 1 from rfl, Nat.and_two_pow_sub_one_eq_mod]
    simp
  rw [e1, wrap_i64 (by omega) (by omega)]; omega
theorem byte_of (n k : Nat) (hn : n < 9223372036854775808) : IntKind.u8.wrap (bitI .and .i64 ((n : Int).fdiv (2 ^ k)) 255) = ((UInt8.ofInt ((n : Int).fdiv (2 ^ k))).toNat : Int) := by
  have e : (n : Int).fdiv (2 ^ k) = ((n / 2 ^ k : Nat) : Int) := by
    rw [Int.fdiv_eq_ediv_of_nonneg _ (Int.le_of_lt (Int.pow_pos (by omega)))]; norm_cast
  have h2 : n / 2 ^ k ≤ n := Nat.div_le_self _ _
  rw [e]
  generalize n / 2 ^ k = q at h2
  rw [and255 (by omega) (by omega), wrap_u8]
  rw [ofInt_eq (a := (q : Int) % 256) (b := (q : Int)) (by omega)]
set_option maxRecDepth 10000
theorem c_impl_bigEndian (n : Nat) (hn : n ≤ 4294967296) : LC Tryz.prog 158 [.c (.int .i64 (n : Nat)), .c (.int .i64 8)] [] (Ret [] (fun _ : Nat => True) fun r => (.s 0 0 8 (8 + r), [⟨true, bs (beA n 8) ++ List.replicate r .j⟩])) := by
  refine LC_of (X := XX (fun _ => .nil) (fun _ => []) [15, 71, 72, 73, 79, 80, 87, 90, 91, 93, 99, 119, 137, 176, 177, 203, 204, 212, 219] 0) envOK Tryz.func158 (by kernel_rfl) (by kernel_rfl) rfl (Nat.le_of_ble_eq_true (by kernel_rfl)) ?_
  simp only [kFun, Tryz.f158, List.length_nil, List.length_cons, Nat.sub_zero, Nat.reduceSub, Nat.reduceAdd, List.nil_append, List.cons_append, List.replicate_succ, List.replicate_zero]
  simp only [XX, ↓VC, VP, TT, Nat.reduceEqDiff, reduceCtorEq, Nat.reduceAdd, Nat.reduceSub, Nat.reduceLT, Nat.reduceMul, Nat.reducePow, Nat.reduceLeDiff, Int.reduceToNat, Int.reduceLE, Int.reduceLT, Int.reducePow]
  rw [wrap_i64 (by omega) (by omega)]
  refine kLoop_of (fun s : Nat × Nat => ([.c (.int .i64 (n : Nat)), .j, .j, .j, .j, .s 0 0 s.1 (s.1 + s.2), .c (.int .i64 (7 - (s.1 : Int))), .j, .j, .j, .j, .j, .j, .j, .j, .j, .j, .j, .j, .j, .j, .j, .j], [⟨true, bs (beA n s.1) ++ List.replicate s.2 .j⟩])) (fun s => 8 - s.1) (fun s => s.1 ≤ 8) (0, 0) (by simp) ⟨[0], by simp [-List.reduceReplicate, LES, beA, bs_nil]⟩ ?_
  rintro ⟨j, r⟩ hj
  simp only at hj
  have hl := beA_len n j
  simp only [↓VC, VP, TT, Nat.reduceEqDiff, reduceCtorEq, Nat.reduceAdd, Nat.reduceSub, Nat.reduceLT, Nat.reduceMul, Nat.reducePow, Nat.reduceLeDiff, Int.reduceToNat, Int.reduceLE, Int.reduceLT, Int.reducePow, hl]
  refine ⟨fun h => ?_, fun h => ⟨_, _, [0], ⟨r, trivial, rfl, rfl⟩, ?_⟩⟩
  · have e1 : IntKind.i64.wrap (8 * (7 - (j : Int))) = ((8 * (7 - j) : Nat) : Int) := by rw [wrap_i64 (by omega) (by omega)]; omega
    have e2 : IntKind.i64.wrap (7 - (j : Int) - 1) = 7 - ((j + 1 : Nat) : Int) := by rw [wrap_i64 (by omega) (by omega)]; omega
    rw [e1, e2, Int.toNat_natCast, Nat.min_eq_left (by omega), wrap_u8]
    refine ⟨by omega, by omega, by omega, .inr (by omega), .inr trivial, fun r1 c' hc' _ => ⟨(j + 1, r1), by simp only; omega, by simp only; omega, [2], ?_⟩⟩
    rw [one_moreB, beA_succ, hc']
    simp [-List.reduceReplicate, LES]
  · obtain rfl : j = 8 := by omega
    simp [-List.reduceReplicate, LES]
theorem c_spec_l08Pad (l : List UInt8) (c : Nat) (hc : l.length ≤ c) (hm : l.length ≤ 2097152) : LC Tryz.prog 111 [.s 0 0 l.length c] [⟨false, bs l⟩] (Ret [⟨false, bs l⟩] (fun _ : Nat => True) fun r => (.s 1 0 (padM l).length ((padM l).length + r), [⟨true, bs (padM l) ++ List.replicate r .j⟩])) := by
  refine LC_of (X := XX (fun _ => .nil) (fun _ => []) [15, 71, 72, 73, 79, 80, 87, 90, 91, 93, 99, 119, 137, 176, 177, 203, 204, 212, 219] 1) envOK Tryz.func111 (by kernel_rfl) (by kernel_rfl) rfl (Nat.le_of_ble_eq_true (by kernel_rfl)) ?_
  simp only [kFun, Tryz.f111, List.length_nil, List.length_cons, Nat.sub_zero, Nat.reduceSub, Nat.reduceAdd, List.nil_append, List.cons_append, List.replicate_succ, List.replicate_zero]
  simp only [XX, ↓VC, VP, TT, Nat.reduceEqDiff, reduceCtorEq, Nat.reduceAdd, Nat.reduceSub, Nat.reduceLT, Nat.reduceMul, Nat.reducePow, Nat.reduceLeDiff, Int.reduceToNat, Int.reduceLE, Int.reduceLT, Int.reducePow]
  have hmz := mz_lt l
  refine kCall_Ret (c_spec_l01Copy l c hc (by omega)) (by rfl) [(0, 0)] (by simp [CALL]) (by simp [CALL, cellsAt]) (by simp [CALL]) (by simp [okL_bs]) (by simp) fun r _ => ?_
  simp only [CALL, ↓VC, VP, TT, Nat.reduceEqDiff, reduceCtorEq, Nat.reduceAdd, Nat.reduceSub, Nat.reduceLT, Nat.reduceMul, Nat.reducePow, Nat.reduceLeDiff, Int.reduceToNat, Int.reduceLE, Int.reduceLT, Int.reducePow, instL_room]
  refine ⟨by omega, by omega, .inr (by omega), .inr trivial, fun r c' hc' _ => ?_⟩
  rw [one_more128]
  refine kLoop_of (fun s : Nat × Nat => ([.s 0 0 l.length c, .j, .j, .s 1 0 (padMA l s.1).length ((padMA l s.1).length + s.2), .j, .j, .j, .j, .j, .j, .j, .j, .j, .j, .j, .j, .j, .j, .j, .j, .j, .j, .j, .j, .j, .j, .j, .j, .j, .j, .j, .j], [⟨false, bs l⟩, ⟨true, bs (padMA l s.1) ++ List.replicate s.2 .j⟩])) (fun s => mz l - s.1) (fun s => s.1 ≤ mz l) (0, r) (by simp) ⟨[0, 3], by simp [-List.reduceReplicate, LES, padMA_zero, padMA_len, hc']⟩ ?_
  rintro ⟨j, r⟩ hj
  simp only at hj
  have hl := padMA_len l j
  simp only [↓VC, VP, TT, Nat.reduceEqDiff, reduceCtorEq, Nat.reduceAdd, Nat.reduceSub, Nat.reduceLT, Nat.reduceMul, Nat.reducePow, Nat.reduceLeDiff, Int.reduceToNat, Int.reduceLE, Int.reduceLT, Int.reducePow, hl]
  have e16 : ((l.length + 1 + j : Nat) : Int).tmod 16 = (((l.length + 1 + j) % 16 : Nat) : Int) := by rw [Int.tmod_eq_emod_of_nonneg (by omega)]; omega
  rw [e16]
  refine ⟨by omega, fun h => ⟨by omega, by omega, .inr (by omega), .inr trivial, fun r1 c' hc' _ => ⟨(j + 1, r1), ?_, ?_, [0, 3], ?_⟩⟩, fun h => ?_⟩
  · rw [bne_iff_ne] at h; have := mz_spec l hj (by omega); simp only; omega
  · rw [bne_iff_ne] at h; have := mz_spec l hj (by omega); simp only; omega
  · rw [one_more0, padMA_succ, hc', show l.length + 1 + j + 1 = (padMA l (j + 1)).length by rw [padMA_len]; omega]
    simp [-List.reduceReplicate, LES]
  · have hb := bne_eq_false_iff_eq.1 h
    obtain rfl : j = mz l := mz_done l hj (by omega)
    rw [← hl]
    refine kLoop_of (fun s : Nat × Nat => ([.s 0 0 l.length c, .j, .j, .s 1 0 (padMA l (mz l) ++ beA l.length s.1).length ((padMA l (mz l) ++ beA l.length s.1).length + s.2), .c (.int .i64 (7 - (s.1 : Int))), .j, .j, .j, .j, .j, .j, .j, .j, .j, .j, .j, .j, .j, .j, .j, .j, .j, .j, .j, .j, .j, .j, .j, .j, .j, .j, .j], [⟨false, bs l⟩, ⟨true, bs (padMA l (mz l) ++ beA l.length s.1) ++ List.replicate s.2 .j⟩])) (fun s => 8 - s.1) (fun s => s.1 ≤ 8) (0, r) (by simp) ⟨[0, 1], by simp [-List.reduceReplicate, LES, beA]⟩ ?_
    rintro ⟨j, r⟩ hj
    simp only at hj
    have hl2 : (padMA l (mz l) ++ beA l.length j).length = l.length + 1 + mz l + j := by rw [List.length_append, padMA_len, beA_len]
    simp only [↓VC, VP, TT, Nat.reduceEqDiff, reduceCtorEq, Nat.reduceAdd, Nat.reduceSub, Nat.reduceLT, Nat.reduceMul, Nat.reducePow, Nat.reduceLeDiff, Int.reduceToNat, Int.reduceLE, Int.reduceLT, Int.reducePow, hl2]
    refine ⟨fun h => ?_, fun h => ⟨_, _, [0, 1], ⟨r, trivial, rfl, rfl⟩, ?_⟩⟩
    · have e1 : IntKind.u64.wrap (IntKind.i64.wrap (8 * (7 - (j : Int)))) = ((8 * (7 - j) : Nat) : Int) := by rw [wrap_i64 (by omega) (by omega), wrap_u64 (by omega) (by omega)]; omega
      have e2 : IntKind.i64.wrap (7 - (j : Int) - 1) = 7 - ((j + 1 : Nat) : Int) := by rw [wrap_i64 (by omega) (by omega)]; omega
      rw [e1, e2, Int.toNat_natCast, Nat.min_eq_left (by omega), byte_of _ _ (by omega)]
      refine ⟨by omega, by omega, by omega, .inr (by omega), .inr trivial, fun r1 c' hc' _ => ⟨(j + 1, r1), by simp only; omega, by simp only; omega, [0, 3], ?_⟩⟩
      rw [one_moreB, List.append_assoc, beA_succ, hc']
      simp [-List.reduceReplicate, LES, padMA_len, beA_len, Nat.add_assoc]
    · obtain rfl : j = 8 := by omega
      rw [show padMA l (mz l) ++ beA l.length 8 = padM l from rfl] at hl2 ⊢
      rw [← hl2]
      simp [-List.reduceReplicate, LES]
theorem c_impl_padMessage (l : List UInt8) (c : Nat) (hc : l.length ≤ c) (hm : l.length ≤ 2097152) : LC Tryz.prog 103 [.s 0 0 l.length c] [⟨false, bs l⟩] (Ret [⟨false, bs l⟩] (fun _ : Nat => True) fun r => (.s 1 0 (padM l).length ((padM l).length + r), [⟨true, bs (padM l) ++ List.replicate r .j⟩])) := by
  refine LC_of (X := XX (fun _ => .nil) (fun _ => []) [15, 71, 72, 73, 79, 80, 87, 90, 91, 93, 99, 119, 137, 176, 177, 203, 204, 212, 219] 1) envOK Tryz.func103 (by kernel_rfl) (by kernel_rfl) rfl (Nat.le_of_ble_eq_true (by kernel_rfl)) ?_
  simp only [kFun, Tryz.f103, List.length_nil, List.length_cons, Nat.sub_zero, Nat.reduceSub, Nat.reduceAdd, List.nil_append, List.cons_append, List.replicate_succ, List.replicate_zero]
  simp only [XX, ↓VC, VP, TT, Nat.reduceEqDiff, reduceCtorEq, Nat.reduceAdd, Nat.reduceSub, Nat.reduceLT, Nat.reduceMul, Nat.reducePow, Nat.reduceLeDiff, Int.reduceToNat, Int.reduceLE, Int.reduceLT, Int.reducePow]
  have hmz := mz_lt l
  refine kCall_Ret (c_slices_Clone l c hc (by omega)) (by rfl) [(0, 0)] (by simp [CALL]) (by simp [CALL, cellsAt]) (by simp [CALL]) (by simp [okL_bs]) (by rintro (_ | r) <;> simp) fun o ho => ?_
  cases o with
  | some r =>
    simp only [CALL, ↓VC, VP, TT, Nat.reduceEqDiff, reduceCtorEq, Nat.reduceAdd, Nat.reduceSub, Nat.reduceLT, Nat.reduceMul, Nat.reducePow, Nat.reduceLeDiff, Int.reduceToNat, Int.reduceLE, Int.reduceLT, Int.reducePow, instL_room]
    refine ⟨by omega, by omega, .inr (by omega), .inr trivial, fun r c' hc' _ => ?_⟩
    rw [one_more128]
    refine kLoop_of (fun s : Nat × Nat => ([.s 0 0 l.length c, .j, .j, .s 1 0 (padMA l s.1).length ((padMA l s.1).length + s.2), .j, .j, .j, .j, .j, .j, .j, .j, .j, .j, .j, .j, .j, .j, .j, .j], [⟨false, bs l⟩, ⟨true, bs (padMA l s.1) ++ List.replicate s.2 .j⟩])) (fun s => mz l - s.1) (fun s => s.1 ≤ mz l) (0, r) (by simp) ⟨[0, 3], by simp [-List.reduceReplicate, LES, padMA_zero, padMA_len, hc']⟩ ?_
    rintro ⟨j, r⟩ hj
    simp only at hj
    have hl := padMA_len l j
    simp only [↓VC, VP, TT, Nat.reduceEqDiff, reduceCtorEq, Nat.reduceAdd, Nat.reduceSub, Nat.reduceLT, Nat.reduceMul, Nat.reducePow, Nat.reduceLeDiff, Int.reduceToNat, Int.reduceLE, Int.reduceLT, Int.reducePow, hl]
    have e16 : ((l.length + 1 + j : Nat) : Int).tmod 16 = (((l.length + 1 + j) % 16 : Nat) : Int) := by rw [Int.tmod_eq_emod_of_nonneg (by omega)]; omega
    rw [e16]
    refine ⟨by omega, fun h => ⟨by omega, by omega, .inr (by omega), .inr trivial, fun r1 c' hc' _ => ⟨(j + 1, r1), ?_, ?_, [0, 3], ?_⟩⟩, fun h => ?_⟩
    · rw [bne_iff_ne] at h; have := mz_spec l hj (by omega); simp only; omega
    · rw [bne_iff_ne] at h; have := mz_spec l hj (by omega); simp only; omega
    · rw [one_more0, padMA_succ, hc', show l.length + 1 + j + 1 = (padMA l (j + 1)).length by rw [padMA_len]; omega]
      simp [-List.reduceReplicate, LES]
    · have hb := bne_eq_false_iff_eq.1 h
      obtain rfl : j = mz l := mz_done l hj (by omega)
      rw [← hl]
      refine kCall_Ret (c_impl_bigEndian l.length (by omega)) (by rfl) [] (by simp [CALL]) (by simp [CALL]) (by simp [CALL]) (by simp) (by simp) fun r2 _ => ?_
      simp only [CALL, ↓VC, VP, TT, Nat.reduceEqDiff, reduceCtorEq, Nat.reduceAdd, Nat.reduceSub, Nat.reduceLT, Nat.reduceMul, Nat.reducePow, Nat.reduceLeDiff, Int.reduceToNat, Int.reduceLE, Int.reduceLT, Int.reducePow, instL_room, beA_len]
      have hpl : (padM l).length = (padMA l (mz l)).length + 8 := by rw [padM_len, padMA_len]
      refine ⟨by omega, by omega, .inr (by omega), .inr (by omega), fun r c' hc' _ => ⟨_, _, [0, 3], ⟨r, trivial, rfl, rfl⟩, ?_⟩⟩
      rw [bs_append, show padMA l (mz l) ++ beA l.length 8 = padM l from rfl, hc', ← hpl]
      simp [-List.reduceReplicate, LES]
  | none =>
    have h0 := (ho rfl).1
    simp only [CALL, ↓VC, VP, TT, Nat.reduceEqDiff, reduceCtorEq, Nat.reduceAdd, Nat.reduceSub, Nat.reduceLT, Nat.reduceMul, Nat.reducePow, Nat.reduceLeDiff, Int.reduceToNat, Int.reduceLE, Int.reduceLT, Int.reducePow, instL_room]
    refine ⟨.inl trivial, .inl trivial, .inr trivial, fun r c' hc' _ => ?_⟩
    rw [show V.c (.int .u8 128) :: List.replicate r V.j = bs [128] ++ List.replicate r V.j from rfl]
    refine kLoop_of (fun s : Nat × Nat => ([.s 0 0 l.length c, .j, .j, .s 1 0 (padMA l s.1).length ((padMA l s.1).length + s.2), .j, .j, .j, .j, .j, .j, .j, .j, .j, .j, .j, .j, .j, .j, .j, .j], [⟨false, bs l⟩, ⟨true, bs (padMA l s.1) ++ List.replicate s.2 .j⟩])) (fun s => mz l - s.1) (fun s => s.1 ≤ mz l) (0, r) (by simp) ⟨[0, 2], by simp [-List.reduceReplicate, LES, h0, padMA, hc']⟩ ?_
    rintro ⟨j, r⟩ hj
    simp only at hj
    have hl := padMA_len l j
    simp only [↓VC, VP, TT, Nat.reduceEqDiff, reduceCtorEq, Nat.reduceAdd, Nat.reduceSub, Nat.reduceLT, Nat.reduceMul, Nat.reducePow, Nat.reduceLeDiff, Int.reduceToNat, Int.reduceLE, Int.reduceLT, Int.reducePow, hl]
    have e16 : ((l.length + 1 + j : Nat) : Int).tmod 16 = (((l.length + 1 + j) % 16 : Nat) : Int) := by rw [Int.tmod_eq_emod_of_nonneg (by omega)]; omega
    rw [e16]
    refine ⟨by omega, fun h => ⟨by omega, by omega, .inr (by omega), .inr trivial, fun r1 c' hc' _ => ⟨(j + 1, r1), ?_, ?_, [0, 3], ?_⟩⟩, fun h => ?_⟩
    · rw [bne_iff_ne] at h; have := mz_spec l hj (by omega); simp only; omega
    · rw [bne_iff_ne] at h; have := mz_spec l hj (by omega); simp only; omega
    · rw [one_more0, padMA_succ, hc', show l.length + 1 + j + 1 = (padMA l (j + 1)).length by rw [padMA_len]; omega]
      simp [-List.reduceReplicate, LES]
    · have hb := bne_eq_false_iff_eq.1 h
      obtain rfl : j = mz l := mz_done l hj (by omega)
      rw [← hl]
      refine kCall_Ret (c_impl_bigEndian l.length (by omega)) (by rfl) [] (by simp [CALL]) (by simp [CALL]) (by simp [CALL]) (by simp) (by simp) fun r2 _ => ?_
      simp only [CALL, ↓VC, VP, TT, Nat.reduceEqDiff, reduceCtorEq, Nat.reduceAdd, Nat.reduceSub, Nat.reduceLT, Nat.reduceMul, Nat.reducePow, Nat.reduceLeDiff, Int.reduceToNat, Int.reduceLE, Int.reduceLT, Int.reducePow, instL_room, beA_len]
      have hpl : (padM l).length = (padMA l (mz l)).length + 8 := by rw [padM_len, padMA_len]
      refine ⟨by omega, by omega, .inr (by omega), .inr (by omega), fun r c' hc' _ => ⟨_, _, [0, 3], ⟨r, trivial, rfl, rfl⟩, ?_⟩⟩
      rw [bs_append, show padMA l (mz l) ++ beA l.length 8 = padM l from rfl, hc', ← hpl]
      simp [-List.reduceReplicate, LES]
end Go.Proofs.YtahnjhppkgndiaaGreat

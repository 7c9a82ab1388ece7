import Derived.Test.YtahnjhppkgndiaaGreatTk
/- 'LeadingZeros' of the program and of the reference compute the same number. -/
set_option linter.unusedSimpArgs false
set_option linter.unusedVariables false
namespace Go.Proofs.YtahnjhppkgndiaaGreat
open Go Go.Vc
def lenF : Nat → Nat → Nat
  | 0, _ => 0
  | k + 1, n => if n = 0 then 0 else 1 + lenF k (n / 2)
theorem lenF_le : ∀ n, n < 256 → lenF 8 n ≤ 8 := by decide +kernel
def lz (u : UInt8) : Nat := 8 - lenF 8 u.toNat
theorem lz_le (u : UInt8) : lz u ≤ 8 := by unfold lz; omega
theorem len_tab {L : List UInt8} (u : UInt8) (h : ((List.range 256).all fun n => (L.getD n 0).toNat == lenF 8 n) = true) : IntKind.i64.wrap ((L.getD u.toNat 0).toNat : Int) = ((lenF 8 u.toNat : Nat) : Int) := by
  have h1 := List.all_eq_true.1 h u.toNat (by simpa using u.toNat_lt)
  rw [beq_iff_eq] at h1
  have h2 := lenF_le u.toNat u.toNat_lt
  rw [h1, wrap_i64 (by omega) (by omega)]
def zerosL : List UInt8 → Nat
  | [] => 0
  | u :: us => lz u + if u = 0 then zerosL us else 0
theorem zerosL_le : ∀ l : List UInt8, zerosL l ≤ 8 * l.length
  | [] => by simp [zerosL]
  | u :: us => by
    have := lz_le u; have := zerosL_le us
    simp only [zerosL, List.length_cons]; split <;> omega
theorem zerosL_drop {d : List UInt8} {i : Nat} (h : i < d.length) : zerosL (d.drop i) = lz (d.getD i 0) + if d.getD i 0 = 0 then zerosL (d.drop (i + 1)) else 0 := by
  rw [List.drop_eq_getElem_cons h, zerosL]
  simp only [List.getD, List.getElem?_eq_getElem h, Option.getD_some]
theorem bit_and : ∀ n : Nat, n < 256 → ∀ b : Nat, b < 8 → (bitI .and .u8 ((n : Int).fdiv (2 ^ min b 8)) 1 == 1) = (n / 2 ^ b % 2 == 1) := by decide +kernel
theorem bit_top : ∀ n : Nat, n < 256 → ∀ b : Nat, b < 8 → n < 2 ^ (b + 1) → (n / 2 ^ b % 2 == 1) = true → 8 - lenF 8 n = 7 - b ∧ n ≠ 0 := by decide +kernel
theorem bit_not : ∀ n : Nat, n < 256 → ∀ b : Nat, b < 8 → n < 2 ^ (b + 1) → (n / 2 ^ b % 2 == 1) = false → n < 2 ^ b := by decide +kernel
set_option maxRecDepth 10000
theorem c_bits_Len8 (u : UInt8) : LC Tryz.prog 157 [.c (.int .u8 (u.toNat : Int))] [] (fun v hp => v = .c (.int .i64 (lenF 8 u.toNat : Nat)) ∧ hp = []) := by
  refine LC_of (X := XX (fun _ => .nil) (fun _ => []) [15, 71, 72, 73, 79, 80, 87, 90, 91, 93, 99, 119, 137, 176, 177, 203, 204, 212, 219] 0) envOK Tryz.func157 (by kernel_rfl) (by kernel_rfl) rfl (Nat.le_of_ble_eq_true (by kernel_rfl)) ?_
  simp only [kFun, Tryz.f157, List.length_nil, List.length_cons, Nat.sub_zero, Nat.reduceSub, Nat.reduceAdd, List.nil_append, List.cons_append, List.replicate_succ, List.replicate_zero]
  simp only [XX, ↓VC, VP, TT, Nat.reduceEqDiff, reduceCtorEq, Nat.reduceAdd, Nat.reduceSub, Nat.reduceLT, Nat.reduceMul, Nat.reducePow, Nat.reduceLeDiff, Int.reduceToNat, Int.reduceLE, Int.reduceLT, Int.reducePow]
  refine ⟨u8_lt u, _, _, [], ⟨rfl, rfl⟩, ?_⟩
  rw [len_tab]
  · simp [-List.reduceReplicate, LES]
  · decide +kernel
theorem c_bits_LeadingZeros8 (u : UInt8) : LC Tryz.prog 98 [.c (.int .u8 (u.toNat : Int))] [] (fun v hp => v = .c (.int .i64 (lz u : Nat)) ∧ hp = []) := by
  refine LC_of (X := XX (fun _ => .nil) (fun _ => []) [15, 71, 72, 73, 79, 80, 87, 90, 91, 93, 99, 119, 137, 176, 177, 203, 204, 212, 219] 0) envOK Tryz.func98 (by kernel_rfl) (by kernel_rfl) rfl (Nat.le_of_ble_eq_true (by kernel_rfl)) ?_
  simp only [kFun, Tryz.f98, List.length_nil, List.length_cons, Nat.sub_zero, Nat.reduceSub, Nat.reduceAdd, List.nil_append, List.cons_append, List.replicate_succ, List.replicate_zero]
  simp only [XX, ↓VC, VP, TT, Nat.reduceEqDiff, reduceCtorEq, Nat.reduceAdd, Nat.reduceSub, Nat.reduceLT, Nat.reduceMul, Nat.reducePow, Nat.reduceLeDiff, Int.reduceToNat, Int.reduceLE, Int.reduceLT, Int.reducePow]
  refine kCall_val (c_bits_Len8 u) (by rfl) [] (by simp [CALL]) (by simp [CALL]) (by simp [CALL]) (by simp) ?_
  simp only [CALL, ↓VC, VP, TT, Nat.reduceEqDiff, reduceCtorEq, Nat.reduceAdd, Nat.reduceSub, Nat.reduceLT, Nat.reduceMul, Nat.reducePow, Nat.reduceLeDiff, Int.reduceToNat, Int.reduceLE, Int.reduceLT, Int.reducePow]
  have h2 := lenF_le u.toNat u.toNat_lt
  refine ⟨_, _, [], ⟨rfl, rfl⟩, ?_⟩
  rw [wrap_i64 (by omega) (by omega), show (8 : Int) - (lenF 8 u.toNat : Nat) = ((lz u : Nat) : Int) by unfold lz; omega]
  simp [-List.reduceReplicate, LES]
theorem c_impl_LeadingZeros (d : List UInt8) (hd : d.length = 32) : LC Tryz.prog 26 [.a (bs d)] [] (fun v hp => v = .c (.int .i64 (zerosL d : Nat)) ∧ hp = []) := by
  refine LC_of (X := XX (fun _ => .nil) (fun _ => []) [15, 71, 72, 73, 79, 80, 87, 90, 91, 93, 99, 119, 137, 176, 177, 203, 204, 212, 219] 0) envOK Tryz.func26 (by kernel_rfl) (by kernel_rfl) rfl (Nat.le_of_ble_eq_true (by kernel_rfl)) ?_
  simp only [kFun, Tryz.f26, List.length_nil, List.length_cons, Nat.sub_zero, Nat.reduceSub, Nat.reduceAdd, List.nil_append, List.cons_append, List.replicate_succ, List.replicate_zero]
  simp only [XX, ↓VC, VP, TT, Nat.reduceEqDiff, reduceCtorEq, Nat.reduceAdd, Nat.reduceSub, Nat.reduceLT, Nat.reduceMul, Nat.reducePow, Nat.reduceLeDiff, Int.reduceToNat, Int.reduceLE, Int.reduceLT, Int.reducePow, hd]
  refine kLoop_of (fun s : Nat × Nat => ([.a (bs d), .p 0 0, .j, .c (.int .i64 (s.2 : Nat)), .j, .j, .a (bs d), .c (.int .i64 (s.1 : Nat)), .j, .j, .j, .j, .j, .j, .j, .j, .j, .j], [⟨true, bs d⟩])) (fun s => 32 - s.1) (fun s => s.1 ≤ 32 ∧ s.2 + zerosL (d.drop s.1) = zerosL d) (0, 0) ⟨by simp, by simp⟩ ⟨[0], by simp [-List.reduceReplicate, LES]⟩ ?_
  rintro ⟨i, o⟩ ⟨hi, ho⟩
  simp only at hi ho
  simp only [↓VC, VP, TT, Nat.reduceEqDiff, reduceCtorEq, Nat.reduceAdd, Nat.reduceSub, Nat.reduceLT, Nat.reduceMul, Nat.reducePow, Nat.reduceLeDiff, Int.reduceToNat, Int.reduceLE, Int.reduceLT, Int.reducePow, hd]
  have hz := zerosL_le d
  refine ⟨fun h => ⟨by omega, by omega, ?_⟩, fun h => ⟨_, _, [], ⟨rfl, rfl⟩, ?_⟩⟩
  · refine kCall_val (c_bits_LeadingZeros8 (d.getD i 0)) (by rfl) [] (by simp [CALL]) (by simp [CALL]) (by simp [CALL]) (by simp) ?_
    simp only [CALL, ↓VC, VP, TT, Nat.reduceEqDiff, reduceCtorEq, Nat.reduceAdd, Nat.reduceSub, Nat.reduceLT, Nat.reduceMul, Nat.reducePow, Nat.reduceLeDiff, Int.reduceToNat, Int.reduceLE, Int.reduceLT, Int.reducePow]
    rw [zerosL_drop (by omega)] at ho
    have hlz := lz_le (d.getD i 0)
    refine ⟨fun hne => ⟨_, _, [], ⟨rfl, rfl⟩, ?_⟩, fun he => ⟨(i + 1, o + lz (d.getD i 0)), ⟨by simp only; omega, ?_⟩, by simp only; omega, [0], ?_⟩⟩
    · rw [if_neg (fun e => by rw [e] at hne; simp at hne)] at ho
      rw [wrap_i64 (by omega) (by omega), ← ho]
      simp [-List.reduceReplicate, LES]
    · rw [if_pos (UInt8.toNat_inj.1 (by have := bne_eq_false_iff_eq.1 he; show (d.getD i 0).toNat = 0; omega))] at ho
      simp only; omega
    · rw [wrap_i64 (by omega) (by omega), wrap_i64 (by omega) (by omega)]
      simp [-List.reduceReplicate, LES]
  · obtain rfl : i = 32 := by omega
    rw [List.drop_eq_nil_of_le (by omega)] at ho
    simp only [zerosL, Nat.add_zero] at ho
    simp [-List.reduceReplicate, LES, ho]
theorem c_spec_l08Zeros (d : List UInt8) (hd : d.length = 32) : LC Tryz.prog 95 [.a (bs d)] [] (fun v hp => v = .c (.int .i64 (zerosL d : Nat)) ∧ hp = []) := by
  refine LC_of (X := XX (fun _ => .nil) (fun _ => []) [15, 71, 72, 73, 79, 80, 87, 90, 91, 93, 99, 119, 137, 176, 177, 203, 204, 212, 219] 0) envOK Tryz.func95 (by kernel_rfl) (by kernel_rfl) rfl (Nat.le_of_ble_eq_true (by kernel_rfl)) ?_
  simp only [kFun, Tryz.f95, List.length_nil, List.length_cons, Nat.sub_zero, Nat.reduceSub, Nat.reduceAdd, List.nil_append, List.cons_append, List.replicate_succ, List.replicate_zero]
  simp only [XX, ↓VC, VP, TT, Nat.reduceEqDiff, reduceCtorEq, Nat.reduceAdd, Nat.reduceSub, Nat.reduceLT, Nat.reduceMul, Nat.reducePow, Nat.reduceLeDiff, Int.reduceToNat, Int.reduceLE, Int.reduceLT, Int.reducePow, hd]
  refine kLoop_of (fun i : Nat => ([.a (bs d), .p 0 0, .j, .c (.int .i64 (8 * i : Nat)), .c (.int .i64 (i : Nat)), .j, .j, .j, .j, .j, .j, .j, .j, .j, .j, .j, .j, .j, .j, .j, .j, .j, .j, .j, .j, .j], [⟨true, bs d⟩])) (fun i => 32 - i) (fun i => i ≤ 32 ∧ 8 * i + zerosL (d.drop i) = zerosL d) 0 ⟨by simp, by simp⟩ ⟨[0], by simp [-List.reduceReplicate, LES]⟩ ?_
  rintro i ⟨hi, ho⟩
  simp only [↓VC, VP, TT, Nat.reduceEqDiff, reduceCtorEq, Nat.reduceAdd, Nat.reduceSub, Nat.reduceLT, Nat.reduceMul, Nat.reducePow, Nat.reduceLeDiff, Int.reduceToNat, Int.reduceLE, Int.reduceLT, Int.reducePow, hd]
  refine ⟨fun h => ?_, fun h => ⟨_, _, [], ⟨rfl, rfl⟩, ?_⟩⟩
  · rw [zerosL_drop (by omega)] at ho
    refine kLoop_of (fun c : Nat => ([.a (bs d), .p 0 0, .j, .c (.int .i64 (8 * i + (8 - c) : Nat)), .c (.int .i64 (i : Nat)), .c (.int .i64 ((c : Int) - 1)), .j, .j, .j, .j, .j, .j, .j, .j, .j, .j, .j, .j, .j, .j, .j, .j, .j, .j, .j, .j], [⟨true, bs d⟩])) (fun c => c) (fun c => c ≤ 8 ∧ (d.getD i 0).toNat < 2 ^ c) 8 ⟨by simp, (d.getD i 0).toNat_lt⟩ ⟨[0], by simp [-List.reduceReplicate, LES]⟩ ?_
    rintro c ⟨hc, hb⟩
    simp only [↓VC, VP, TT, Nat.reduceEqDiff, reduceCtorEq, Nat.reduceAdd, Nat.reduceSub, Nat.reduceLT, Nat.reduceMul, Nat.reducePow, Nat.reduceLeDiff, Int.reduceToNat, Int.reduceLE, Int.reduceLT, Int.reducePow, hd]
    have hlz := zerosL_le d
    have hu := (d.getD i 0).toNat_lt
    refine ⟨fun h2 => ?_, fun h2 => ?_⟩
    · obtain ⟨b, rfl⟩ : ∃ b, c = b + 1 := ⟨c - 1, by omega⟩
      have ew : IntKind.u64.wrap (((b + 1 : Nat) : Int) - 1) = (b : Int) := by rw [wrap_u64 (by omega) (by omega)]; omega
      have e : (bitI .and .u8 ((((d.getD i 0).toNat : Nat) : Int).fdiv (2 ^ min (IntKind.u64.wrap (((b + 1 : Nat) : Int) - 1)).toNat 8)) 1 == 1) = ((d.getD i 0).toNat / 2 ^ b % 2 == 1) := by
        rw [ew]; exact bit_and _ hu b (by omega)
      rw [e]
      refine ⟨by omega, by omega, by rw [ew]; omega, fun ht => ⟨_, _, [], ⟨rfl, rfl⟩, ?_⟩, fun hf => ⟨b, ⟨by omega, bit_not _ hu b (by omega) hb hf⟩, by omega, [0], ?_⟩⟩
      · obtain ⟨h3, h4⟩ := bit_top _ hu b (by omega) hb ht
        rw [if_neg (fun e => h4 (by rw [e]; rfl))] at ho
        rw [show 8 * i + (8 - (b + 1)) = zerosL d by unfold lz at ho; omega]
        simp [-List.reduceReplicate, LES]
      · rw [wrap_i64 (n := ((8 * i + (8 - (b + 1)) : Nat) : Int) + 1) (by omega) (by omega), wrap_i64 (n := ((b + 1 : Nat) : Int) - 1 - 1) (by omega) (by omega),
          show ((8 * i + (8 - (b + 1)) : Nat) : Int) + 1 = ((8 * i + (8 - b) : Nat) : Int) by omega, show ((b + 1 : Nat) : Int) - 1 - 1 = (b : Int) - 1 by omega]
        simp [-List.reduceReplicate, LES]
    · obtain rfl : c = 0 := by omega
      have h0 : d.getD i 0 = 0 := UInt8.toNat_inj.1 (by show (d.getD i 0).toNat = 0; omega)
      rw [if_pos h0, h0, show lz 0 = 8 by decide] at ho
      refine ⟨i + 1, ⟨by omega, by omega⟩, by omega, [0], ?_⟩
      rw [wrap_i64 (by omega) (by omega), show 8 * i + (8 - 0) = 8 * (i + 1) by omega]
      simp [-List.reduceReplicate, LES]
  · obtain rfl : i = 32 := by omega
    rw [List.drop_eq_nil_of_le (by omega)] at ho
    simp only [zerosL, Nat.add_zero] at ho
    simp [-List.reduceReplicate, LES, ← ho]
theorem c_spec_LeadingZeros (d : List UInt8) (hd : d.length = 32) : LC Tryz.prog 29 [.a (bs d)] [] (fun v hp => v = .c (.int .i64 (zerosL d : Nat)) ∧ hp = []) := by
  refine LC_of (X := XX (fun _ => .nil) (fun _ => []) [15, 71, 72, 73, 79, 80, 87, 90, 91, 93, 99, 119, 137, 176, 177, 203, 204, 212, 219] 0) envOK Tryz.func29 (by kernel_rfl) (by kernel_rfl) rfl (Nat.le_of_ble_eq_true (by kernel_rfl)) ?_
  simp only [kFun, Tryz.f29, List.length_nil, List.length_cons, Nat.sub_zero, Nat.reduceSub, Nat.reduceAdd, List.nil_append, List.cons_append, List.replicate_succ, List.replicate_zero]
  simp only [XX, ↓VC, VP, TT, Nat.reduceEqDiff, reduceCtorEq, Nat.reduceAdd, Nat.reduceSub, Nat.reduceLT, Nat.reduceMul, Nat.reducePow, Nat.reduceLeDiff, Int.reduceToNat, Int.reduceLE, Int.reduceLT, Int.reducePow, hd]
  refine kCall_val (c_spec_l08Zeros d hd) (by rfl) [] (by simp [CALL]) (by simp [CALL]) (by simp [CALL]) (by simp) ?_
  simp only [CALL, ↓VC, VP, TT, Nat.reduceEqDiff, reduceCtorEq, Nat.reduceAdd, Nat.reduceSub, Nat.reduceLT, Nat.reduceMul, Nat.reducePow, Nat.reduceLeDiff, Int.reduceToNat, Int.reduceLE, Int.reduceLT, Int.reducePow]
  refine ⟨_, _, [], ⟨rfl, rfl⟩, ?_⟩
  simp [-List.reduceReplicate, LES]
end Go.Proofs.YtahnjhppkgndiaaGreat
/- Hexadecimal texts, both ways of writing them: the same text. -/
set_option linter.unusedSimpArgs false
set_option linter.unusedVariables false
namespace Go.Proofs.YtahnjhppkgndiaaGreat
open Go Go.Vc
theorem take_snoc {a : List UInt8} {i : Nat} (ha : i < a.length) : a.take (i + 1) = a.take i ++ [a.getD i 0] := by
  rw [List.take_add_one, List.getElem?_eq_getElem ha]
  simp only [Option.toList, List.getD, List.getElem?_eq_getElem ha, Option.getD_some]
theorem one_more {A : List UInt8} {x : UInt8} {r' : Nat} : bs A ++ [V.c (.int .u8 (x.toNat : Int))] ++ List.replicate r' V.j = bs (A ++ [x]) ++ List.replicate r' V.j := by
  rw [← bs_append]; rfl
set_option maxRecDepth 10000
theorem c_spec_l08Bytes (d : List UInt8) (hd : d.length = 32) : LC Tryz.prog 118 [.a (bs d)] [] (Ret [] (fun _ : Nat => True) fun r => (.s 0 0 32 (32 + r), [⟨true, bs d ++ List.replicate r .j⟩])) := by
  refine LC_of (X := XX (fun _ => .nil) (fun _ => []) [15, 71, 72, 73, 79, 80, 87, 90, 91, 93, 99, 119, 137, 176, 177, 203, 204, 212, 219] 0) envOK Tryz.func118 (by kernel_rfl) (by kernel_rfl) rfl (Nat.le_of_ble_eq_true (by kernel_rfl)) ?_
  simp only [kFun, Tryz.f118, List.length_nil, List.length_cons, Nat.sub_zero, Nat.reduceSub, Nat.reduceAdd, List.nil_append, List.cons_append, List.replicate_succ, List.replicate_zero]
  simp only [XX, ↓VC, VP, TT, Nat.reduceEqDiff, reduceCtorEq, Nat.reduceAdd, Nat.reduceSub, Nat.reduceLT, Nat.reduceMul, Nat.reducePow, Nat.reduceLeDiff, Int.reduceToNat, Int.reduceLE, Int.reduceLT, Int.reducePow]
  refine kLoop_of (fun s : Nat × Nat => ([.a (bs d), .p 0 0, .j, .s 1 0 s.1 (s.1 + s.2), .c (.int .i64 (s.1 : Nat)), .j, .j, .j, .j, .j, .j, .j, .j, .j, .j, .j, .j], [⟨true, bs d⟩, ⟨true, bs (d.take s.1) ++ List.replicate s.2 .j⟩])) (fun s => 32 - s.1) (fun s => s.1 ≤ 32) (0, 0) (by simp) ⟨[0, 1], by simp [-List.reduceReplicate, LES, bs_nil]⟩ ?_
  rintro ⟨i, r⟩ hi
  simp only at hi
  have hl : (d.take i).length = i := by rw [List.length_take]; omega
  simp only [↓VC, VP, TT, Nat.reduceEqDiff, reduceCtorEq, Nat.reduceAdd, Nat.reduceSub, Nat.reduceLT, Nat.reduceMul, Nat.reducePow, Nat.reduceLeDiff, Int.reduceToNat, Int.reduceLE, Int.reduceLT, Int.reducePow, hl, hd]
  refine ⟨fun h => ?_, fun h => ⟨_, _, [1], ⟨r, trivial, rfl, rfl⟩, ?_⟩⟩
  · refine ⟨by omega, by omega, by omega, by omega, .inr (by omega), .inr trivial, fun r1 c' hc' _ => ⟨(i + 1, r1), by simp only; omega, by simp only; omega, [0, 3], ?_⟩⟩
    rw [one_more, ← take_snoc (by omega), wrap_i64 (by omega) (by omega), hc']
    simp [-List.reduceReplicate, LES, renL_room, okL_room]
  · obtain rfl : i = 32 := by omega
    rw [List.take_of_length_le (by omega)]
    simp [-List.reduceReplicate, LES, renL_room, okL_room]
end Go.Proofs.YtahnjhppkgndiaaGreat

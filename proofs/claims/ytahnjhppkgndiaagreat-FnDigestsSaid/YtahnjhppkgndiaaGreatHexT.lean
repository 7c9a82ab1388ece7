import Derived.Test.YtahnjhppkgndiaaGreatLeadingZeros
/- Hexadecimal texts, both ways of writing them: the same text. -/
set_option linter.unusedSimpArgs false
set_option linter.unusedVariables false
namespace Go.Proofs.YtahnjhppkgndiaaGreat
open Go Go.Vc
def hexD (n : Nat) : UInt8 := if n < 10 then UInt8.ofNat (48 + n) else UInt8.ofNat (87 + n)
def hexL : List UInt8 → List UInt8
  | [] => []
  | u :: us => hexD (u.toNat / 16) :: hexD (u.toNat % 16) :: hexL us
theorem hexL_length : ∀ l, (hexL l).length = 2 * l.length
  | [] => rfl
  | u :: us => by simp only [hexL, List.length_cons, hexL_length us]; omega
theorem hexL_append : ∀ l m, hexL (l ++ m) = hexL l ++ hexL m
  | [], m => rfl
  | u :: us, m => by simp [hexL, hexL_append us m]
theorem take_snoc {a : List UInt8} {i : Nat} (ha : i < a.length) : a.take (i + 1) = a.take i ++ [a.getD i 0] := by
  rw [List.take_add_one, List.getElem?_eq_getElem ha]
  simp only [Option.toList, List.getD, List.getElem?_eq_getElem ha, Option.getD_some]
theorem hexL_snoc {l : List UInt8} {i : Nat} (h : i < l.length) : hexL (l.take (i + 1)) = hexL (l.take i) ++ [hexD ((l.getD i 0).toNat / 16), hexD ((l.getD i 0).toNat % 16)] := by
  rw [take_snoc h, hexL_append]; rfl
theorem dig_hi : ∀ n : Nat, n < 256 → [48, 49, 50, 51, 52, 53, 54, 55, 56, 57, 97, 98, 99, 100, 101, 102].getD ((n : Int).fdiv (2 ^ min 4 8)).toNat 0 = hexD (n / 16) := by decide +kernel
theorem dig_lo : ∀ n : Nat, n < 256 → [48, 49, 50, 51, 52, 53, 54, 55, 56, 57, 97, 98, 99, 100, 101, 102].getD (bitI .and .u8 (n : Int) 15).toNat 0 = hexD (n % 16) := by decide +kernel
theorem hi_in : ∀ n : Nat, n < 256 → 0 ≤ (n : Int).fdiv (2 ^ min 4 8) ∧ (n : Int).fdiv (2 ^ min 4 8) < 16 := by decide +kernel
theorem lo_in : ∀ n : Nat, n < 256 → 0 ≤ bitI .and .u8 (n : Int) 15 ∧ bitI .and .u8 (n : Int) 15 < 16 := by decide +kernel
theorem dig_hi2 : ∀ n : Nat, n < 256 → [48, 49, 50, 51, 52, 53, 54, 55, 56, 57, 97, 98, 99, 100, 101, 102].getD (IntKind.u8.wrap ((n : Int).tdiv 16)).toNat 0 = hexD (n / 16) := by decide +kernel
theorem dig_lo2 : ∀ n : Nat, n < 256 → [48, 49, 50, 51, 52, 53, 54, 55, 56, 57, 97, 98, 99, 100, 101, 102].getD ((n : Int).tmod 16).toNat 0 = hexD (n % 16) := by decide +kernel
theorem hi_in2 : ∀ n : Nat, n < 256 → 0 ≤ IntKind.u8.wrap ((n : Int).tdiv 16) ∧ IntKind.u8.wrap ((n : Int).tdiv 16) < 16 := by decide +kernel
theorem lo_in2 : ∀ n : Nat, n < 256 → 0 ≤ (n : Int).tmod 16 ∧ (n : Int).tmod 16 < 16 := by decide +kernel
theorem two_more {A : List UInt8} {x y : UInt8} {r' : Nat} : bs A ++ [V.c (.int .u8 (x.toNat : Int)), V.c (.int .u8 (y.toNat : Int))] ++ List.replicate r' V.j = bs (A ++ [x, y]) ++ List.replicate r' V.j := by
  rw [← bs_append]; rfl
theorem one_more {A : List UInt8} {x : UInt8} {r' : Nat} : bs A ++ [V.c (.int .u8 (x.toNat : Int))] ++ List.replicate r' V.j = bs (A ++ [x]) ++ List.replicate r' V.j := by
  rw [← bs_append]; rfl
set_option maxRecDepth 10000
theorem c_impl_hexOf (l : List UInt8) (c : Nat) (hc : l.length ≤ c) (hm : l.length ≤ 4194304) : LC Tryz.prog 115 [.s 0 0 l.length c] [⟨false, bs l⟩] (fun v hp => v = .c (.string ⟨(hexL l).toArray⟩) ∧ hp = [⟨false, bs l⟩]) := by
  refine LC_of (X := XX (fun | 5 => .one 0 (.one 1 (.one 2 (.one 3 (.one 4 (.one 5 (.one 6 (.one 7 (.one 8 (.one 9 .nil))))))))) | _ => .nil) (fun _ => []) [15, 71, 72, 73, 79, 80, 87, 90, 91, 93, 99, 119, 137, 176, 177, 203, 204, 212, 219] 1) envOK Tryz.func115 (by kernel_rfl) (by kernel_rfl) rfl (Nat.le_of_ble_eq_true (by kernel_rfl)) ?_
  simp only [kFun, Tryz.f115, List.length_nil, List.length_cons, Nat.sub_zero, Nat.reduceSub, Nat.reduceAdd, List.nil_append, List.cons_append, List.replicate_succ, List.replicate_zero]
  simp only [XX, ↓VC, VP, TT, Nat.reduceEqDiff, reduceCtorEq, Nat.reduceAdd, Nat.reduceSub, Nat.reduceLT, Nat.reduceMul, Nat.reducePow, Nat.reduceLeDiff, Int.reduceToNat, Int.reduceLE, Int.reduceLT, Int.reducePow]
  refine kLoop_of (fun s : Nat × Nat => ([.s 0 0 l.length c, .j, .j, .s 1 0 (2 * s.1) (2 * s.1 + s.2), .j, .j, .j, .s 0 0 l.length c, .c (.int .i64 (l.length : Nat)), .c (.int .i64 (s.1 : Nat)), .j, .j, .j, .j, .j, .j, .j, .j, .j, .j, .j, .j, .j, .j, .j], [⟨false, bs l⟩, ⟨true, bs (hexL (l.take s.1)) ++ List.replicate s.2 .j⟩])) (fun s => l.length - s.1) (fun s => s.1 ≤ l.length) (0, 0) (by simp) ⟨[0, 1], by simp [-List.reduceReplicate, LES, hexL, bs_nil]⟩ ?_
  rintro ⟨i, r⟩ hi
  simp only at hi
  have hl : (hexL (l.take i)).length = 2 * i := by rw [hexL_length, List.length_take]; omega
  simp only [↓VC, VP, TT, Nat.reduceEqDiff, reduceCtorEq, Nat.reduceAdd, Nat.reduceSub, Nat.reduceLT, Nat.reduceMul, Nat.reducePow, Nat.reduceLeDiff, Int.reduceToNat, Int.reduceLE, Int.reduceLT, Int.reducePow, hl]
  refine ⟨fun h => ?_, fun h => ⟨hexL l, by rw [hexL_length]; omega, .inr ⟨by omega, ?_⟩, _, _, [0], ⟨rfl, rfl⟩, ?_⟩⟩
  · have hu := (l.getD i 0).toNat_lt
    rw [dig_hi _ hu, dig_lo _ hu]
    refine ⟨by omega, by omega, (hi_in _ hu).1, (hi_in _ hu).2, (lo_in _ hu).1, (lo_in _ hu).2, by omega, by omega, .inr (by omega), .inr trivial, fun r1 c' hc' _ => ⟨(i + 1, r1), by simp only; omega, by simp only; omega, [0, 3], ?_⟩⟩
    rw [two_more, ← hexL_snoc (by omega), wrap_i64 (by omega) (by omega), hc', show 2 * i + 2 = 2 * (i + 1) by omega]
    simp [-List.reduceReplicate, LES, renL_room, okL_room]
  · obtain rfl : i = l.length := by omega
    rw [List.take_length]; rfl
  · simp [-List.reduceReplicate, LES]
theorem c_spec_l01Hex (l : List UInt8) (c : Nat) (hc : l.length ≤ c) (hm : l.length ≤ 4194304) : LC Tryz.prog 117 [.s 0 0 l.length c] [⟨false, bs l⟩] (fun v hp => v = .c (.string ⟨(hexL l).toArray⟩) ∧ hp = [⟨false, bs l⟩]) := by
  refine LC_of (X := XX (fun | 5 => .one 0 (.one 1 (.one 2 (.one 3 (.one 4 (.one 5 (.one 6 (.one 7 (.one 8 (.one 9 (.one 10 (.one 11 (.one 12 (.one 13 (.one 14 (.one 15 (.one 16 (.one 17 .nil))))))))))))))))) | _ => .nil) (fun _ => []) [15, 71, 72, 73, 79, 80, 87, 90, 91, 93, 99, 119, 137, 176, 177, 203, 204, 212, 219] 1) envOK Tryz.func117 (by kernel_rfl) (by kernel_rfl) rfl (Nat.le_of_ble_eq_true (by kernel_rfl)) ?_
  simp only [kFun, Tryz.f117, List.length_nil, List.length_cons, Nat.sub_zero, Nat.reduceSub, Nat.reduceAdd, List.nil_append, List.cons_append, List.replicate_succ, List.replicate_zero]
  simp only [XX, ↓VC, VP, TT, Nat.reduceEqDiff, reduceCtorEq, Nat.reduceAdd, Nat.reduceSub, Nat.reduceLT, Nat.reduceMul, Nat.reducePow, Nat.reduceLeDiff, Int.reduceToNat, Int.reduceLE, Int.reduceLT, Int.reducePow]
  refine kLoop_of (fun s : Nat × Nat => ([.s 0 0 l.length c, .j, .j, .c (.string ⟨#[48, 49, 50, 51, 52, 53, 54, 55, 56, 57, 97, 98, 99, 100, 101, 102]⟩), .s 1 0 (2 * s.1) (2 * s.1 + s.2), .c (.int .i64 (s.1 : Nat)), .j, .j, .j, .j, .j, .j, .j, .j, .j, .j, .j, .j, .j, .j, .j, .j, .j, .j, .j, .j, .j, .j, .j, .j, .j, .j], [⟨false, bs l⟩, ⟨true, bs (hexL (l.take s.1)) ++ List.replicate s.2 .j⟩])) (fun s => l.length - s.1) (fun s => s.1 ≤ l.length) (0, 0) (by simp) ⟨[0, 1], by simp [-List.reduceReplicate, LES, hexL, bs_nil]⟩ ?_
  rintro ⟨i, r⟩ hi
  simp only at hi
  have hl : (hexL (l.take i)).length = 2 * i := by rw [hexL_length, List.length_take]; omega
  simp only [↓VC, VP, TT, Nat.reduceEqDiff, reduceCtorEq, Nat.reduceAdd, Nat.reduceSub, Nat.reduceLT, Nat.reduceMul, Nat.reducePow, Nat.reduceLeDiff, Int.reduceToNat, Int.reduceLE, Int.reduceLT, Int.reducePow, hl]
  refine ⟨fun h => ?_, fun h => ⟨hexL l, by rw [hexL_length]; omega, .inr ⟨by omega, ?_⟩, _, _, [0], ⟨rfl, rfl⟩, ?_⟩⟩
  · have hu := (l.getD i 0).toNat_lt
    rw [dig_hi2 _ hu, dig_lo2 _ hu]
    refine ⟨by omega, by omega, by omega, (hi_in2 _ hu).1, (hi_in2 _ hu).2, by omega, by omega, by omega, (lo_in2 _ hu).1, (lo_in2 _ hu).2, by omega, by omega, .inr (by omega), .inr trivial, fun r1 c' hc' _ => ⟨(i + 1, r1), by simp only; omega, by simp only; omega, [0, 3], ?_⟩⟩
    rw [two_more, ← hexL_snoc (by omega), wrap_i64 (by omega) (by omega), hc', show 2 * i + 2 = 2 * (i + 1) by omega]
    simp [-List.reduceReplicate, LES, renL_room, okL_room]
  · obtain rfl : i = l.length := by omega
    rw [List.take_length]; rfl
  · simp [-List.reduceReplicate, LES]
theorem c_spec_l08Bytes (d : List UInt8) (hd : d.length = 32) : LC Tryz.prog 118 [.a (bs d)] [] (Ret [] (fun _ : Nat => True) fun r => (.s 0 0 32 (32 + r), [⟨true, bs d ++ List.replicate r .j⟩])) := by
  refine LC_of (X := XX (fun _ => .nil) (fun _ => []) [15, 71, 72, 73, 79, 80, 87, 90, 91, 93, 99, 119, 137, 176, 177, 203, 204, 212, 219] 0) envOK Tryz.func118 (by kernel_rfl) (by kernel_rfl) rfl (Nat.le_of_ble_eq_true (by kernel_rfl)) ?_
  simp only [kFun, Tryz.f118, List.length_nil, List.length_cons, Nat.sub_zero, Nat.reduceSub, Nat.reduceAdd, List.nil_append, List.cons_append, List.replicate_succ, List.replicate_zero]
  simp only [XX, ↓VC, VP, TT, Nat.reduceEqDiff, reduceCtorEq, Nat.reduceAdd, Nat.reduceSub, Nat.reduceLT, Nat.reduceMul, Nat.reducePow, Nat.reduceLeDiff, Int.reduceToNat, Int.reduceLE, Int.reduceLT, Int.reducePow]
  refine kLoop_of (fun s : Nat × Nat => ([.a (bs d), .p 0 0, .j, .s 1 0 s.1 (s.1 + s.2), .c (.int .i64 (s.1 : Nat)), .j, .j, .j, .j, .j, .j, .j, .j, .j, .j, .j, .j], [⟨true, bs d⟩, ⟨true, bs (d.take s.1) ++ List.replicate s.2 .j⟩])) (fun s => 32 - s.1) (fun s => s.1 ≤ 32) (0, 0) (by simp) ⟨[0, 1], by simp [-List.reduceReplicate, LES, bs_nil]⟩ ?_
  rintro ⟨i, r⟩ hi
  simp only at hi
  have hl : (d.take i).length = i := by rw [List.length_take]; omega
  simp only [↓VC, VP, TT, Nat.reduceEqDiff, reduceCtorEq, Nat.reduceAdd, Nat.reduceSub, Nat.reduceLT, Nat.reduceMul, Nat.reducePow, Nat.reduceLeDiff, Int.reduceToNat, Int.reduceLE, Int.reduceLT, Int.reducePow, hl, hd]
  refine ⟨fun h => ?_, fun h => ⟨_, _, [1], ⟨r, trivial, rfl, rfl⟩, ?_⟩⟩
  · refine ⟨by omega, by omega, by omega, by omega, .inr (by omega), .inr trivial, fun r1 c' hc' _ => ⟨(i + 1, r1), by simp only; omega, by simp only; omega, [0, 3], ?_⟩⟩
    rw [one_more, ← take_snoc (by omega), wrap_i64 (by omega) (by omega), hc']
    simp [-List.reduceReplicate, LES, renL_room, okL_room]
  · obtain rfl : i = 32 := by omega
    rw [List.take_of_length_le (by omega)]
    simp [-List.reduceReplicate, LES, renL_room, okL_room]
end Go.Proofs.YtahnjhppkgndiaaGreat

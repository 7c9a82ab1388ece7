import Derived.Test.YtahnjhppkgndiaaGreatListsM
import Derived.Test.YtahnjhppkgndiaaGreatFieldC
/- Bytes moved, boxed, rotated; the unit matrix; the keys of rounds: what the functions compute. -/
set_option linter.unusedSimpArgs false
set_option linter.unusedVariables false
namespace Go.Proofs.YtahnjhppkgndiaaGreat
open Go Go.Vc
set_option maxRecDepth 10000
theorem inU8_one : inU8 1 = True := eq_true ⟨by decide, by decide⟩
theorem inU8_zero : inU8 0 = True := eq_true ⟨by decide, by decide⟩
theorem ofInt_one : UInt8.ofInt 1 = 1 := rfl
theorem ofInt_zero : UInt8.ofInt 0 = 0 := rfl
theorem int_lt_256 (u : UInt8) : ((u.toNat : Int) < ((256 : Nat) : Int)) = True := eq_true (by have := u.toNat_lt; omega)
theorem int_lt_16 {u : UInt8} (h : u.toNat < 16) : ((u.toNat : Int) < ((16 : Nat) : Int)) = True := eq_true (by omega)
theorem c_spec_l03Move (p s : List UInt8) (hp : p.length = 16) (hs : s.length = 16) (hpl : pl16 p) : LC Tryz.prog 190 [.a (bs p), .a (bs s)] [] (fun v hp => v = .a (bs (moveL p s)) ∧ hp = []) := by
  refine LC_of (X := XX (fun _ => .nil) (fun _ => []) [15, 71, 72, 73, 79, 80, 87, 90, 91, 93, 99, 119, 137, 176, 177, 203, 204, 212, 219] 0) envOK Tryz.func190 (by kernel_rfl) (by kernel_rfl) rfl (Nat.le_of_ble_eq_true (by kernel_rfl)) ?_
  simp only [kFun, Tryz.f190, List.length_nil, List.length_cons, Nat.sub_zero, Nat.reduceSub, Nat.reduceAdd, List.nil_append, List.cons_append, List.replicate_succ, List.replicate_zero]
  simp only [XX, ↓VC, VP, TT, Nat.reduceEqDiff, reduceCtorEq, Nat.reduceAdd, Nat.reduceSub, Nat.reduceLT, Nat.reduceMul, Nat.reducePow, Nat.reduceLeDiff, Int.reduceToNat, Int.reduceLE, Int.reduceLT, Int.reducePow, hp, hs]
  refine kLoop_of (fun i : Nat => ([.j, .j, .p 0 0, .p 1 0, .p 2 0, .p 3 0, .c (.int .i64 (i)), .j, .j, .j, .j, .j, .j, .j, .j, .j, .j, .j, .j, .j], [⟨true, bs p⟩, ⟨true, bs s⟩, ⟨true, bs (List.replicate 16 0)⟩, ⟨true, bs (fl 16 (fun _ => 0) (fun i => s.getD (p.getD i 0).toNat 0) i)⟩])) (fun i => 16 - i) (fun i => i ≤ 16) 0 (by omega)
    ⟨[0, 1, 2, 3], by rw [← fl_zero]; simp [-List.reduceReplicate, LES]⟩ ?_
  intro i hi
  rcases Nat.lt_or_ge i 16 with h | h
  · have hq := hpl i h
    simp only [↓VC, VP, TT, Nat.reduceEqDiff, reduceCtorEq, Nat.reduceAdd, Nat.reduceSub, Nat.reduceLT, Nat.reduceMul, Nat.reducePow, Nat.reduceLeDiff, Int.reduceToNat, Int.reduceLE, Int.reduceLT, Int.reducePow, hp, hs, fl_len, fl_at, fl_set, h, (eq_true (by omega) : ((i : Int) < 16) = True), (eq_true (by omega) : ((i : Int) < ((16 : Nat) : Int)) = True), wrap_i64 (n := (i : Int) + 1) (by omega) (by omega), decide_true, hq, int_lt_16 hq]
    exact ⟨i + 1, by omega, by omega, [0, 1, 2, 3], by simp [-List.reduceReplicate, LES]⟩
  · obtain rfl : i = 16 := by omega
    simp only [↓VC, VP, TT, Nat.reduceEqDiff, reduceCtorEq, Nat.reduceAdd, Nat.reduceSub, Nat.reduceLT, Nat.reduceMul, Nat.reducePow, Nat.reduceLeDiff, Int.reduceToNat, Int.reduceLE, Int.reduceLT, Int.reducePow, hp, hs, fl_len, (eq_false (by omega) : (((16 : Nat) : Int) < 16) = False), decide_false]
    rw [fl_done]; refine ⟨_, _, [], ⟨rfl, rfl⟩, ?_⟩; simp [-List.reduceReplicate, LES, moveL]
theorem c_impl_move (p s : List UInt8) (hp : p.length = 16) (hs : s.length = 16) (hpl : pl16 p) : LC Tryz.prog 211 [.a (bs p), .a (bs s)] [] (fun v hp => v = .a (bs (moveL p s)) ∧ hp = []) := by
  refine LC_of (X := XX (fun _ => .nil) (fun _ => []) [15, 71, 72, 73, 79, 80, 87, 90, 91, 93, 99, 119, 137, 176, 177, 203, 204, 212, 219] 0) envOK Tryz.func211 (by kernel_rfl) (by kernel_rfl) rfl (Nat.le_of_ble_eq_true (by kernel_rfl)) ?_
  simp only [kFun, Tryz.f211, List.length_nil, List.length_cons, Nat.sub_zero, Nat.reduceSub, Nat.reduceAdd, List.nil_append, List.cons_append, List.replicate_succ, List.replicate_zero]
  simp only [XX, ↓VC, VP, TT, Nat.reduceEqDiff, reduceCtorEq, Nat.reduceAdd, Nat.reduceSub, Nat.reduceLT, Nat.reduceMul, Nat.reducePow, Nat.reduceLeDiff, Int.reduceToNat, Int.reduceLE, Int.reduceLT, Int.reducePow, hp, hs]
  refine kLoop_of (fun i : Nat => ([.j, .j, .p 0 0, .p 1 0, .p 2 0, .p 3 0, .j, .j, .j, .a (bs p), .c (.int .i64 (i)), .j, .j, .j, .j, .j, .j, .j, .j, .j, .j], [⟨true, bs p⟩, ⟨true, bs s⟩, ⟨true, bs (List.replicate 16 0)⟩, ⟨true, bs (fl 16 (fun _ => 0) (fun i => s.getD (p.getD i 0).toNat 0) i)⟩])) (fun i => 16 - i) (fun i => i ≤ 16) 0 (by omega)
    ⟨[0, 1, 2, 3], by rw [← fl_zero]; simp [-List.reduceReplicate, LES]⟩ ?_
  intro i hi
  rcases Nat.lt_or_ge i 16 with h | h
  · have hq := hpl i h
    simp only [↓VC, VP, TT, Nat.reduceEqDiff, reduceCtorEq, Nat.reduceAdd, Nat.reduceSub, Nat.reduceLT, Nat.reduceMul, Nat.reducePow, Nat.reduceLeDiff, Int.reduceToNat, Int.reduceLE, Int.reduceLT, Int.reducePow, hp, hs, fl_len, fl_at, fl_set, h, (eq_true (by omega) : ((i : Int) < 16) = True), (eq_true (by omega) : ((i : Int) < ((16 : Nat) : Int)) = True), wrap_i64 (n := (i : Int) + 1) (by omega) (by omega), decide_true, hq, int_lt_16 hq]
    exact ⟨i + 1, by omega, by omega, [0, 1, 2, 3], by simp [-List.reduceReplicate, LES]⟩
  · obtain rfl : i = 16 := by omega
    simp only [↓VC, VP, TT, Nat.reduceEqDiff, reduceCtorEq, Nat.reduceAdd, Nat.reduceSub, Nat.reduceLT, Nat.reduceMul, Nat.reducePow, Nat.reduceLeDiff, Int.reduceToNat, Int.reduceLE, Int.reduceLT, Int.reducePow, hp, hs, fl_len, (eq_false (by omega) : (((16 : Nat) : Int) < 16) = False), decide_false]
    rw [fl_done]; refine ⟨_, _, [], ⟨rfl, rfl⟩, ?_⟩; simp [-List.reduceReplicate, LES, moveL]
theorem c_spec_l04Boxes (b s : List UInt8) (hb : b.length = 256) (hs : s.length = 16) : LC Tryz.prog 191 [.a (bs b), .a (bs s)] [] (fun v hp => v = .a (bs (boxL 16 b s)) ∧ hp = []) := by
  refine LC_of (X := XX (fun _ => .nil) (fun _ => []) [15, 71, 72, 73, 79, 80, 87, 90, 91, 93, 99, 119, 137, 176, 177, 203, 204, 212, 219] 0) envOK Tryz.func191 (by kernel_rfl) (by kernel_rfl) rfl (Nat.le_of_ble_eq_true (by kernel_rfl)) ?_
  simp only [kFun, Tryz.f191, List.length_nil, List.length_cons, Nat.sub_zero, Nat.reduceSub, Nat.reduceAdd, List.nil_append, List.cons_append, List.replicate_succ, List.replicate_zero]
  simp only [XX, ↓VC, VP, TT, Nat.reduceEqDiff, reduceCtorEq, Nat.reduceAdd, Nat.reduceSub, Nat.reduceLT, Nat.reduceMul, Nat.reducePow, Nat.reduceLeDiff, Int.reduceToNat, Int.reduceLE, Int.reduceLT, Int.reducePow, hb, hs]
  refine kLoop_of (fun i : Nat => ([.j, .j, .p 0 0, .p 1 0, .p 2 0, .c (.int .i64 (i)), .j, .j, .j, .j, .j, .j, .j, .j, .j, .j, .j, .j], [⟨true, bs b⟩, ⟨true, bs (fl 16 (fun i => s.getD i 0) (fun i => b.getD (s.getD i 0).toNat 0) i)⟩, ⟨true, bs (List.replicate 16 0)⟩])) (fun i => 16 - i) (fun i => i ≤ 16) 0 (by omega)
    ⟨[0, 1, 2], by rw [← fl_start hs]; simp [-List.reduceReplicate, LES]⟩ ?_
  intro i hi
  rcases Nat.lt_or_ge i 16 with h | h
  · simp only [↓VC, VP, TT, Nat.reduceEqDiff, reduceCtorEq, Nat.reduceAdd, Nat.reduceSub, Nat.reduceLT, Nat.reduceMul, Nat.reducePow, Nat.reduceLeDiff, Int.reduceToNat, Int.reduceLE, Int.reduceLT, Int.reducePow, hb, hs, fl_len, fl_at, fl_set, h, (eq_true (by omega) : ((i : Int) < 16) = True), (eq_true (by omega) : ((i : Int) < ((16 : Nat) : Int)) = True), wrap_i64 (n := (i : Int) + 1) (by omega) (by omega), decide_true, u8n_lt, int_lt_256]
    exact ⟨i + 1, by omega, by omega, [0, 1, 2], by simp [-List.reduceReplicate, LES]⟩
  · obtain rfl : i = 16 := by omega
    simp only [↓VC, VP, TT, Nat.reduceEqDiff, reduceCtorEq, Nat.reduceAdd, Nat.reduceSub, Nat.reduceLT, Nat.reduceMul, Nat.reducePow, Nat.reduceLeDiff, Int.reduceToNat, Int.reduceLE, Int.reduceLT, Int.reducePow, hb, hs, fl_len, (eq_false (by omega) : (((16 : Nat) : Int) < 16) = False), decide_false]
    rw [fl_done]; refine ⟨_, _, [], ⟨rfl, rfl⟩, ?_⟩; simp [-List.reduceReplicate, LES, boxL]
theorem c_spec_l02Then (b c : List UInt8) (hb : b.length = 256) (hc : c.length = 256) : LC Tryz.prog 194 [.a (bs b), .a (bs c)] [] (fun v hp => v = .a (bs (thenL b c)) ∧ hp = []) := by
  refine LC_of (X := XX (fun _ => .nil) (fun _ => []) [15, 71, 72, 73, 79, 80, 87, 90, 91, 93, 99, 119, 137, 176, 177, 203, 204, 212, 219] 0) envOK Tryz.func194 (by kernel_rfl) (by kernel_rfl) rfl (Nat.le_of_ble_eq_true (by kernel_rfl)) ?_
  simp only [kFun, Tryz.f194, List.length_nil, List.length_cons, Nat.sub_zero, Nat.reduceSub, Nat.reduceAdd, List.nil_append, List.cons_append, List.replicate_succ, List.replicate_zero]
  simp only [XX, ↓VC, VP, TT, Nat.reduceEqDiff, reduceCtorEq, Nat.reduceAdd, Nat.reduceSub, Nat.reduceLT, Nat.reduceMul, Nat.reducePow, Nat.reduceLeDiff, Int.reduceToNat, Int.reduceLE, Int.reduceLT, Int.reducePow, hb, hc]
  refine kLoop_of (fun i : Nat => ([.j, .j, .p 0 0, .p 1 0, .p 2 0, .p 3 0, .c (.int .i64 (i)), .j, .j, .j, .j, .j, .j, .j, .j, .j, .j, .j, .j, .j], [⟨true, bs b⟩, ⟨true, bs c⟩, ⟨true, bs (List.replicate 256 0)⟩, ⟨true, bs (fl 256 (fun _ => 0) (fun i => c.getD (b.getD i 0).toNat 0) i)⟩])) (fun i => 256 - i) (fun i => i ≤ 256) 0 (by omega)
    ⟨[0, 1, 2, 3], by rw [← fl_zero]; simp [-List.reduceReplicate, LES]⟩ ?_
  intro i hi
  rcases Nat.lt_or_ge i 256 with h | h
  · simp only [↓VC, VP, TT, Nat.reduceEqDiff, reduceCtorEq, Nat.reduceAdd, Nat.reduceSub, Nat.reduceLT, Nat.reduceMul, Nat.reducePow, Nat.reduceLeDiff, Int.reduceToNat, Int.reduceLE, Int.reduceLT, Int.reducePow, hb, hc, fl_len, fl_at, fl_set, h, (eq_true (by omega) : ((i : Int) < 256) = True), (eq_true (by omega) : ((i : Int) < ((256 : Nat) : Int)) = True), wrap_i64 (n := (i : Int) + 1) (by omega) (by omega), decide_true, u8n_lt, int_lt_256]
    exact ⟨i + 1, by omega, by omega, [0, 1, 2, 3], by simp [-List.reduceReplicate, LES]⟩
  · obtain rfl : i = 256 := by omega
    simp only [↓VC, VP, TT, Nat.reduceEqDiff, reduceCtorEq, Nat.reduceAdd, Nat.reduceSub, Nat.reduceLT, Nat.reduceMul, Nat.reducePow, Nat.reduceLeDiff, Int.reduceToNat, Int.reduceLE, Int.reduceLT, Int.reducePow, hb, hc, fl_len, (eq_false (by omega) : (((256 : Nat) : Int) < 256) = False), decide_false]
    rw [fl_done]; refine ⟨_, _, [], ⟨rfl, rfl⟩, ?_⟩; simp [-List.reduceReplicate, LES, thenL]
theorem c_spec_UnitMatrix : LC Tryz.prog 209 [] [] (fun v hp => v = .a (bs (unP 4)) ∧ hp = []) := by
  refine LC_of (X := XX (fun _ => .nil) (fun _ => []) [15, 71, 72, 73, 79, 80, 87, 90, 91, 93, 99, 119, 137, 176, 177, 203, 204, 212, 219] 0) envOK Tryz.func209 (by kernel_rfl) (by kernel_rfl) rfl (Nat.le_of_ble_eq_true (by kernel_rfl)) ?_
  simp only [kFun, Tryz.f209, List.length_nil, List.length_cons, Nat.sub_zero, Nat.reduceSub, Nat.reduceAdd, List.nil_append, List.cons_append, List.replicate_succ, List.replicate_zero]
  simp only [XX, ↓VC, VP, TT, Nat.reduceEqDiff, reduceCtorEq, Nat.reduceAdd, Nat.reduceSub, Nat.reduceLT, Nat.reduceMul, Nat.reducePow, Nat.reduceLeDiff, Int.reduceToNat, Int.reduceLE, Int.reduceLT, Int.reducePow]
  refine kLoop_of (fun i : Nat => ([.p 0 0, .p 1 0, .c (.int .i64 (i)), .j, .j, .j, .j, .j, .j, .j, .j, .j, .j], [⟨true, bs (List.replicate 16 0)⟩, ⟨true, bs (unP i)⟩])) (fun i => 4 - i) (fun i => i ≤ 4) 0 (by omega)
    ⟨[0, 1], by simp [-List.reduceReplicate, LES, unP]⟩ ?_
  intro i hi
  rcases Nat.lt_or_ge i 4 with h | h
  · simp only [↓VC, VP, TT, Nat.reduceEqDiff, reduceCtorEq, Nat.reduceAdd, Nat.reduceSub, Nat.reduceLT, Nat.reduceMul, Nat.reducePow, Nat.reduceLeDiff, Int.reduceToNat, Int.reduceLE, Int.reduceLT, Int.reducePow, unP_len, inU8_one, ofInt_one, h, (eq_true (by omega) : ((i : Int) < 4) = True), (eq_true (by omega) : ((i : Int) < ((4 : Nat) : Int)) = True), wrap_i64 (n := (i : Int) + 1) (by omega) (by omega), decide_true, (eq_true (by omega) : (i * 4 + i < 16) = True)]
    exact ⟨i + 1, by omega, by omega, [0, 1], by simp [-List.reduceReplicate, LES, unP]⟩
  · obtain rfl : i = 4 := by omega
    simp only [↓VC, VP, TT, Nat.reduceEqDiff, reduceCtorEq, Nat.reduceAdd, Nat.reduceSub, Nat.reduceLT, Nat.reduceMul, Nat.reducePow, Nat.reduceLeDiff, Int.reduceToNat, Int.reduceLE, Int.reduceLT, Int.reducePow, unP_len, (eq_false (by omega) : (((4 : Nat) : Int) < 4) = False), decide_false]
    refine ⟨_, _, [], ⟨rfl, rfl⟩, ?_⟩; simp [-List.reduceReplicate, LES]
theorem c_impl_UnitMatrix : LC Tryz.prog 179 [] [] (fun v hp => v = .a (bs (unP 4)) ∧ hp = []) := by
  refine LC_of (X := XX (fun _ => .nil) (fun _ => []) [15, 71, 72, 73, 79, 80, 87, 90, 91, 93, 99, 119, 137, 176, 177, 203, 204, 212, 219] 0) envOK Tryz.func179 (by kernel_rfl) (by kernel_rfl) rfl (Nat.le_of_ble_eq_true (by kernel_rfl)) ?_
  simp only [kFun, Tryz.f179, List.length_nil, List.length_cons, Nat.sub_zero, Nat.reduceSub, Nat.reduceAdd, List.nil_append, List.cons_append, List.replicate_succ, List.replicate_zero]
  simp only [XX, ↓VC, VP, TT, Nat.reduceEqDiff, reduceCtorEq, Nat.reduceAdd, Nat.reduceSub, Nat.reduceLT, Nat.reduceMul, Nat.reducePow, Nat.reduceLeDiff, Int.reduceToNat, Int.reduceLE, Int.reduceLT, Int.reducePow]
  refine kLoop_of (fun i : Nat => ([.p 0 0, .p 1 0, .j, .j, .c (.int .i64 (i)), .j, .j, .j, .j, .j, .j, .j, .j], [⟨true, bs (List.replicate 16 0)⟩, ⟨true, bs (unP i)⟩])) (fun i => 4 - i) (fun i => i ≤ 4) 0 (by omega)
    ⟨[0, 1], by simp [-List.reduceReplicate, LES, unP]⟩ ?_
  intro i hi
  rcases Nat.lt_or_ge i 4 with h | h
  · simp only [↓VC, VP, TT, Nat.reduceEqDiff, reduceCtorEq, Nat.reduceAdd, Nat.reduceSub, Nat.reduceLT, Nat.reduceMul, Nat.reducePow, Nat.reduceLeDiff, Int.reduceToNat, Int.reduceLE, Int.reduceLT, Int.reducePow, unP_len, inU8_one, ofInt_one, h, (eq_true (by omega) : ((i : Int) < 4) = True), (eq_true (by omega) : ((i : Int) < ((4 : Nat) : Int)) = True), wrap_i64 (n := (i : Int) + 1) (by omega) (by omega), decide_true, (eq_true (by omega) : (i * 4 + i < 16) = True)]
    exact ⟨i + 1, by omega, by omega, [0, 1], by simp [-List.reduceReplicate, LES, unP]⟩
  · obtain rfl : i = 4 := by omega
    simp only [↓VC, VP, TT, Nat.reduceEqDiff, reduceCtorEq, Nat.reduceAdd, Nat.reduceSub, Nat.reduceLT, Nat.reduceMul, Nat.reducePow, Nat.reduceLeDiff, Int.reduceToNat, Int.reduceLE, Int.reduceLT, Int.reducePow, unP_len, (eq_false (by omega) : (((4 : Nat) : Int) < 4) = False), decide_false]
    refine ⟨_, _, [], ⟨rfl, rfl⟩, ?_⟩; simp [-List.reduceReplicate, LES]
theorem turn_tab : ∀ k, k < 8 → ∀ x, x < 256 → IntKind.u8.wrap (bitI .and .i64 (bitI .or .i64 (IntKind.i64.wrap ((x : Nat) * 2 ^ min k 64)) ((IntKind.i64.wrap ((x : Nat) * 2 ^ min k 64)).fdiv (2 ^ min 8 64))) 255) = (rotN x k : Nat) := by decide +kernel
theorem c_spec_l02Turn (u : UInt8) (k : Nat) (hk : k < 8) : LC Tryz.prog 214 [.c (.int .u8 ((u).toNat : Int)), .c (.int .i64 (k))] [] (fun v hp => v = .c (.int .u8 ((rot8 u k).toNat : Int)) ∧ hp = []) := by
  refine LC_of (X := XX (fun _ => .nil) (fun _ => []) [15, 71, 72, 73, 79, 80, 87, 90, 91, 93, 99, 119, 137, 176, 177, 203, 204, 212, 219] 0) envOK Tryz.func214 (by kernel_rfl) (by kernel_rfl) rfl (Nat.le_of_ble_eq_true (by kernel_rfl)) ?_
  simp only [kFun, Tryz.f214, List.length_nil, List.length_cons, Nat.sub_zero, Nat.reduceSub, Nat.reduceAdd, List.nil_append, List.cons_append, List.replicate_succ, List.replicate_zero]
  simp only [XX, ↓VC, VP, TT, Nat.reduceEqDiff, reduceCtorEq, Nat.reduceAdd, Nat.reduceSub, Nat.reduceLT, Nat.reduceMul, Nat.reducePow, Nat.reduceLeDiff, Int.reduceToNat, Int.reduceLE, Int.reduceLT, Int.reducePow]
  have hu := u.toNat_lt
  rw [wrap_i64 (n := ((u.toNat : Nat) : Int)) (by omega) (by omega), wrap_u64 (n := (k : Int)) (by omega) (by omega), Int.toNat_natCast, turn_tab k hk _ hu, ← rot8_nat u hk]
  refine ⟨by omega, ?_⟩
  refine ⟨_, _, [], ⟨rfl, rfl⟩, ?_⟩; simp [-List.reduceReplicate, LES]
theorem rotl_tab : ∀ k, k < 8 → ∀ x, x < 256 → bitI .or .u8 (IntKind.u8.wrap ((x : Nat) * 2 ^ min k 8)) (((x : Nat) : Int).fdiv (2 ^ min (8 - k) 8)) = (rotN x k : Nat) := by decide +kernel
theorem rotl_k : ∀ k, k < 8 → bitI .and .u64 (IntKind.u64.wrap (k : Nat)) 7 = (k : Nat) ∧ (IntKind.u64.wrap (8 - (k : Nat))) = ((8 - k : Nat) : Int) := by decide +kernel
theorem c_RotateLeft8 (u : UInt8) (k : Nat) (hk : k < 8) : LC Tryz.prog 193 [.c (.int .u8 ((u).toNat : Int)), .c (.int .i64 (k))] [] (fun v hp => v = .c (.int .u8 ((rot8 u k).toNat : Int)) ∧ hp = []) := by
  refine LC_of (X := XX (fun _ => .nil) (fun _ => []) [15, 71, 72, 73, 79, 80, 87, 90, 91, 93, 99, 119, 137, 176, 177, 203, 204, 212, 219] 0) envOK Tryz.func193 (by kernel_rfl) (by kernel_rfl) rfl (Nat.le_of_ble_eq_true (by kernel_rfl)) ?_
  simp only [kFun, Tryz.f193, List.length_nil, List.length_cons, Nat.sub_zero, Nat.reduceSub, Nat.reduceAdd, List.nil_append, List.cons_append, List.replicate_succ, List.replicate_zero]
  simp only [XX, ↓VC, VP, TT, Nat.reduceEqDiff, reduceCtorEq, Nat.reduceAdd, Nat.reduceSub, Nat.reduceLT, Nat.reduceMul, Nat.reducePow, Nat.reduceLeDiff, Int.reduceToNat, Int.reduceLE, Int.reduceLT, Int.reducePow]
  obtain ⟨e1, e2⟩ := rotl_k k hk
  rw [e1, e2, Int.toNat_natCast, Int.toNat_natCast, rotl_tab k hk _ u.toNat_lt, ← rot8_nat u hk]
  refine ⟨by omega, by omega, ?_⟩
  refine ⟨_, _, [], ⟨rfl, rfl⟩, ?_⟩; simp [-List.reduceReplicate, LES]
/-- The reference's next key. -/
theorem mod16 {i : Nat} (hi : i < 16) : (((i : Int) + 15).tmod 16) = (if i = 0 then 15 else i - 1 : Nat) := by
  have : ∀ i, i < 16 → ((((i : Nat) : Int) + 15).tmod 16) = (if i = 0 then 15 else i - 1 : Nat) := by decide +kernel
  exact this i hi
theorem c_spec_l04Next (b k : List UInt8) (r : Int) (hb : b.length = 256) (hk : k.length = 16) : LC Tryz.prog 213 [.a (bs b), .a (bs k), .c (.int .i64 (r))] [] (fun v hp => v = .a (bs (nextK b k r)) ∧ hp = []) := by
  refine LC_of (X := XX (fun | 7 => .one 0 (.one 1 (.one 2 (.one 3 (.one 4 (.one 5 (.one 6 (.one 7 (.one 8 (.one 9 .nil))))))))) | _ => .nil) (fun _ => []) [15, 71, 72, 73, 79, 80, 87, 90, 91, 93, 99, 119, 137, 176, 177, 203, 204, 212, 219] 0) envOK Tryz.func213 (by kernel_rfl) (by kernel_rfl) rfl (Nat.le_of_ble_eq_true (by kernel_rfl)) ?_
  simp only [kFun, Tryz.f213, List.length_nil, List.length_cons, Nat.sub_zero, Nat.reduceSub, Nat.reduceAdd, List.nil_append, List.cons_append, List.replicate_succ, List.replicate_zero]
  simp only [XX, ↓VC, VP, TT, Nat.reduceEqDiff, reduceCtorEq, Nat.reduceAdd, Nat.reduceSub, Nat.reduceLT, Nat.reduceMul, Nat.reducePow, Nat.reduceLeDiff, Int.reduceToNat, Int.reduceLE, Int.reduceLT, Int.reducePow, hb, hk]
  refine kLoop_of (fun i : Nat => ([.j, .j, .c (.int .i64 (r)), .p 0 0, .p 1 0, .j, .p 2 0, .c (.int .i64 (i)), .j, .j, .j, .j, .j, .j, .j, .j, .j, .j, .j, .j, .j, .j, .j, .j, .j, .j, .j, .j, .j, .j, .j, .j, .j, .j], [⟨true, bs b⟩, ⟨true, bs (nkP b k r i)⟩, ⟨true, bs (List.replicate 16 0)⟩])) (fun i => 16 - i) (fun i => i ≤ 16) 0 (by omega)
    ⟨[0, 1, 2], by simp [-List.reduceReplicate, LES, nkP]⟩ ?_
  intro i hi
  have hl := nkP_len hk b r
  rcases Nat.lt_or_ge i 16 with h | h
  · have e1 : IntKind.i64.wrap ((i : Int) + 15) = (i : Int) + 15 := wrap_i64 (by omega) (by omega)
    have e3 : (if i = 0 then 15 else i - 1) < 16 := by split <;> omega
    simp only [↓VC, VP, TT, Nat.reduceEqDiff, reduceCtorEq, Nat.reduceAdd, Nat.reduceSub, Nat.reduceLT, Nat.reduceMul, Nat.reducePow, Nat.reduceLeDiff, Int.reduceToNat, Int.reduceLE, Int.reduceLT, Int.reducePow, hb, hl, h, (eq_true (by omega) : ((i : Int) < 16) = True), (eq_true (by omega) : ((i : Int) < ((16 : Nat) : Int)) = True), wrap_i64 (n := (i : Int) + 1) (by omega) (by omega), decide_true, u8n_lt, int_lt_256, wrap_u8, e1, mod16 h, e3, (eq_true (by omega) : (((if i = 0 then 15 else i - 1 : Nat) : Int) < ((16 : Nat) : Int)) = True)]
    refine ⟨by omega, fun h0 => ?_, fun h0 => ?_⟩
    · have h0' : i = 0 := by rw [beq_iff_eq] at h0; omega
      subst h0'
      refine ⟨1, by omega, by omega, [0, 1, 2], by simp [-List.reduceReplicate, LES, nkP, ownK]⟩
    · have h0' : i ≠ 0 := fun e => by subst e; simp at h0
      refine ⟨i + 1, by omega, by omega, [0, 1, 2], by simp [-List.reduceReplicate, LES, nkP, ownK, h0']⟩
  · obtain rfl : i = 16 := by omega
    simp only [↓VC, VP, TT, Nat.reduceEqDiff, reduceCtorEq, Nat.reduceAdd, Nat.reduceSub, Nat.reduceLT, Nat.reduceMul, Nat.reducePow, Nat.reduceLeDiff, Int.reduceToNat, Int.reduceLE, Int.reduceLT, Int.reducePow, hb, hl, (eq_false (by omega) : (((16 : Nat) : Int) < 16) = False), decide_false]
    refine ⟨_, _, [], ⟨rfl, rfl⟩, ?_⟩; simp [-List.reduceReplicate, LES, nextK]
end Go.Proofs.YtahnjhppkgndiaaGreat

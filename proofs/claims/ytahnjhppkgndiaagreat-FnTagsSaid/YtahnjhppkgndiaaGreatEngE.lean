import Derived.Test.YtahnjhppkgndiaaGreatListsM
import Derived.Test.YtahnjhppkgndiaaGreatFieldC
/- Bytes moved, boxed, rotated; the unit matrix; the keys of rounds: what the functions compute. -/
set_option linter.unusedSimpArgs false
set_option linter.unusedVariables false
namespace Go.Proofs.YtahnjhppkgndiaaGreat
open Go Go.Vc
set_option maxRecDepth 10000
theorem inU8_one : inU8 1 = True := eq_true ⟨by decide, by decide⟩
theorem ofInt_one : UInt8.ofInt 1 = 1 := rfl
theorem int_lt_256 (u : UInt8) : ((u.toNat : Int) < ((256 : Nat) : Int)) = True := eq_true (by have := u.toNat_lt; omega)
theorem int_lt_16 {u : UInt8} (h : u.toNat < 16) : ((u.toNat : Int) < ((16 : Nat) : Int)) = True := eq_true (by omega)
theorem c_spec_l03Move (p s : List UInt8) (hp : p.length = 16) (hs : s.length = 16) (hpl : pl16 p) : LC Tryz.prog 190 [.a (bs p), .a (bs s)] [] (fun v hp => v = .a (bs (moveL p s)) ∧ hp = []) := by
  refine LC_of (X := XX (fun _ => .nil) (fun _ => []) [15, 71, 72, 73, 79, 80, 87, 90, 91, 93, 99, 119, 137, 176, 177, 203, 204, 212, 219] 0) envOK Tryz.func190 (by kernel_rfl) (by kernel_rfl) rfl (Nat.le_of_ble_eq_true (by kernel_rfl)) ?_
  simp only [kFun, Tryz.f190, List.length_nil, List.length_cons, Nat.sub_zero, Nat.reduceSub, Nat.reduceAdd, List.nil_append, List.cons_append, List.replicate_succ, List.replicate_zero]
  simp only [XX, ↓VC, VP, TT, Nat.reduceEqDiff, reduceCtorEq, Nat.reduceAdd, Nat.reduceSub, Nat.reduceLT, Nat.reduceMul, Nat.reducePow, Nat.reduceLeDiff, Int.reduceToNat, Int.reduceLE, Int.reduceLT, Int.reducePow, hp, hs]
  refine kLoop_of (fun i : Nat => ([.j, .j, .p 0 0, .p 1 0, .p 2 0, .p 3 0, .c (.int .i64 (i)), .j, .j, .j, .j, .j, .j, .j, .j, .j, .j, .j, .j, .j], [⟨true, bs p⟩, ⟨true, bs s⟩, ⟨true, bs (List.replicate 16 0)⟩, ⟨true, bs (fl 16 (fun _ => 0) (fun i => s.getD (p.getD i 0).toNat 0) i)⟩])) (fun i => 16 - i) (fun i => i ≤ 16) 0 (by omega)
    ⟨[0, 1, 2, 3], by rw [← fl_zero]; simp [-List.reduceReplicate, LES]⟩ ?_
  intro i hi
  rcases Nat.lt_or_ge i 16 with h | h
  · have hq := hpl i h
    simp only [↓VC, VP, TT, Nat.reduceEqDiff, reduceCtorEq, Nat.reduceAdd, Nat.reduceSub, Nat.reduceLT, Nat.reduceMul, Nat.reducePow, Nat.reduceLeDiff, Int.reduceToNat, Int.reduceLE, Int.reduceLT, Int.reducePow, hp, hs, fl_len, fl_at, fl_set, h, (eq_true (by omega) : ((i : Int) < 16) = True), (eq_true (by omega) : ((i : Int) < ((16 : Nat) : Int)) = True), wrap_i64 (n := (i : Int) + 1) (by omega) (by omega), decide_true, hq, int_lt_16 hq]
    exact ⟨i + 1, by omega, by omega, [0, 1, 2, 3], by simp [-List.reduceReplicate, LES]⟩
  · obtain rfl : i = 16 := by omega
    simp only [↓VC, VP, TT, Nat.reduceEqDiff, reduceCtorEq, Nat.reduceAdd, Nat.reduceSub, Nat.reduceLT, Nat.reduceMul, Nat.reducePow, Nat.reduceLeDiff, Int.reduceToNat, Int.reduceLE, Int.reduceLT, Int.reducePow, hp, hs, fl_len, (eq_false (by omega) : (((16 : Nat) : Int) < 16) = False), decide_false]
    rw [fl_done]; refine ⟨_, _, [], ⟨rfl, rfl⟩, ?_⟩; simp [-List.reduceReplicate, LES, moveL]
theorem c_impl_move (p s : List UInt8) (hp : p.length = 16) (hs : s.length = 16) (hpl : pl16 p) : LC Tryz.prog 211 [.a (bs p), .a (bs s)] [] (fun v hp => v = .a (bs (moveL p s)) ∧ hp = []) := by
  refine LC_of (X := XX (fun _ => .nil) (fun _ => []) [15, 71, 72, 73, 79, 80, 87, 90, 91, 93, 99, 119, 137, 176, 177, 203, 204, 212, 219] 0) envOK Tryz.func211 (by kernel_rfl) (by kernel_rfl) rfl (Nat.le_of_ble_eq_true (by kernel_rfl)) ?_
  simp only [kFun, Tryz.f211, List.length_nil, List.length_cons, Nat.sub_zero, Nat.reduceSub, Nat.reduceAdd, List.nil_append, List.cons_append, List.replicate_succ, List.replicate_zero]
  simp only [XX, ↓VC, VP, TT, Nat.reduceEqDiff, reduceCtorEq, Nat.reduceAdd, Nat.reduceSub, Nat.reduceLT, Nat.reduceMul, Nat.reducePow, Nat.reduceLeDiff, Int.reduceToNat, Int.reduceLE, Int.reduceLT, Int.reducePow, hp, hs]
  refine kLoop_of (fun i : Nat => ([.j, .j, .p 0 0, .p 1 0, .p 2 0, .p 3 0, .j, .j, .j, .a (bs p), .c (.int .i64 (i)), .j, .j, .j, .j, .j, .j, .j, .j, .j, .j], [⟨true, bs p⟩, ⟨true, bs s⟩, ⟨true, bs (List.replicate 16 0)⟩, ⟨true, bs (fl 16 (fun _ => 0) (fun i => s.getD (p.getD i 0).toNat 0) i)⟩])) (fun i => 16 - i) (fun i => i ≤ 16) 0 (by omega)
    ⟨[0, 1, 2, 3], by rw [← fl_zero]; simp [-List.reduceReplicate, LES]⟩ ?_
  intro i hi
  rcases Nat.lt_or_ge i 16 with h | h
  · have hq := hpl i h
    simp only [↓VC, VP, TT, Nat.reduceEqDiff, reduceCtorEq, Nat.reduceAdd, Nat.reduceSub, Nat.reduceLT, Nat.reduceMul, Nat.reducePow, Nat.reduceLeDiff, Int.reduceToNat, Int.reduceLE, Int.reduceLT, Int.reducePow, hp, hs, fl_len, fl_at, fl_set, h, (eq_true (by omega) : ((i : Int) < 16) = True), (eq_true (by omega) : ((i : Int) < ((16 : Nat) : Int)) = True), wrap_i64 (n := (i : Int) + 1) (by omega) (by omega), decide_true, hq, int_lt_16 hq]
    exact ⟨i + 1, by omega, by omega, [0, 1, 2, 3], by simp [-List.reduceReplicate, LES]⟩
  · obtain rfl : i = 16 := by omega
    simp only [↓VC, VP, TT, Nat.reduceEqDiff, reduceCtorEq, Nat.reduceAdd, Nat.reduceSub, Nat.reduceLT, Nat.reduceMul, Nat.reducePow, Nat.reduceLeDiff, Int.reduceToNat, Int.reduceLE, Int.reduceLT, Int.reducePow, hp, hs, fl_len, (eq_false (by omega) : (((16 : Nat) : Int) < 16) = False), decide_false]
    rw [fl_done]; refine ⟨_, _, [], ⟨rfl, rfl⟩, ?_⟩; simp [-List.reduceReplicate, LES, moveL]
theorem c_spec_l04Boxes (b s : List UInt8) (hb : b.length = 256) (hs : s.length = 16) : LC Tryz.prog 191 [.a (bs b), .a (bs s)] [] (fun v hp => v = .a (bs (boxL 16 b s)) ∧ hp = []) := by
  refine LC_of (X := XX (fun _ => .nil) (fun _ => []) [15, 71, 72, 73, 79, 80, 87, 90, 91, 93, 99, 119, 137, 176, 177, 203, 204, 212, 219] 0) envOK Tryz.func191 (by kernel_rfl) (by kernel_rfl) rfl (Nat.le_of_ble_eq_true (by kernel_rfl)) ?_
  simp only [kFun, Tryz.f191, List.length_nil, List.length_cons, Nat.sub_zero, Nat.reduceSub, Nat.reduceAdd, List.nil_append, List.cons_append, List.replicate_succ, List.replicate_zero]
  simp only [XX, ↓VC, VP, TT, Nat.reduceEqDiff, reduceCtorEq, Nat.reduceAdd, Nat.reduceSub, Nat.reduceLT, Nat.reduceMul, Nat.reducePow, Nat.reduceLeDiff, Int.reduceToNat, Int.reduceLE, Int.reduceLT, Int.reducePow, hb, hs]
  refine kLoop_of (fun i : Nat => ([.j, .j, .p 0 0, .p 1 0, .p 2 0, .c (.int .i64 (i)), .j, .j, .j, .j, .j, .j, .j, .j, .j, .j, .j, .j], [⟨true, bs b⟩, ⟨true, bs (fl 16 (fun i => s.getD i 0) (fun i => b.getD (s.getD i 0).toNat 0) i)⟩, ⟨true, bs (List.replicate 16 0)⟩])) (fun i => 16 - i) (fun i => i ≤ 16) 0 (by omega)
    ⟨[0, 1, 2], by rw [← fl_start hs]; simp [-List.reduceReplicate, LES]⟩ ?_
  intro i hi
  rcases Nat.lt_or_ge i 16 with h | h
  · simp only [↓VC, VP, TT, Nat.reduceEqDiff, reduceCtorEq, Nat.reduceAdd, Nat.reduceSub, Nat.reduceLT, Nat.reduceMul, Nat.reducePow, Nat.reduceLeDiff, Int.reduceToNat, Int.reduceLE, Int.reduceLT, Int.reducePow, hb, hs, fl_len, fl_at, fl_set, h, (eq_true (by omega) : ((i : Int) < 16) = True), (eq_true (by omega) : ((i : Int) < ((16 : Nat) : Int)) = True), wrap_i64 (n := (i : Int) + 1) (by omega) (by omega), decide_true, u8n_lt, int_lt_256]
    exact ⟨i + 1, by omega, by omega, [0, 1, 2], by simp [-List.reduceReplicate, LES]⟩
  · obtain rfl : i = 16 := by omega
    simp only [↓VC, VP, TT, Nat.reduceEqDiff, reduceCtorEq, Nat.reduceAdd, Nat.reduceSub, Nat.reduceLT, Nat.reduceMul, Nat.reducePow, Nat.reduceLeDiff, Int.reduceToNat, Int.reduceLE, Int.reduceLT, Int.reducePow, hb, hs, fl_len, (eq_false (by omega) : (((16 : Nat) : Int) < 16) = False), decide_false]
    rw [fl_done]; refine ⟨_, _, [], ⟨rfl, rfl⟩, ?_⟩; simp [-List.reduceReplicate, LES, boxL]
theorem c_spec_l02Then (b c : List UInt8) (hb : b.length = 256) (hc : c.length = 256) : LC Tryz.prog 194 [.a (bs b), .a (bs c)] [] (fun v hp => v = .a (bs (thenL b c)) ∧ hp = []) := by
  refine LC_of (X := XX (fun _ => .nil) (fun _ => []) [15, 71, 72, 73, 79, 80, 87, 90, 91, 93, 99, 119, 137, 176, 177, 203, 204, 212, 219] 0) envOK Tryz.func194 (by kernel_rfl) (by kernel_rfl) rfl (Nat.le_of_ble_eq_true (by kernel_rfl)) ?_
  simp only [kFun, Tryz.f194, List.length_nil, List.length_cons, Nat.sub_zero, Nat.reduceSub, Nat.reduceAdd, List.nil_append, List.cons_append, List.replicate_succ, List.replicate_zero]
  simp only [XX, ↓VC, VP, TT, Nat.reduceEqDiff, reduceCtorEq, Nat.reduceAdd, Nat.reduceSub, Nat.reduceLT, Nat.reduceMul, Nat.reducePow, Nat.reduceLeDiff, Int.reduceToNat, Int.reduceLE, Int.reduceLT, Int.reducePow, hb, hc]
  refine kLoop_of (fun i : Nat => ([.j, .j, .p 0 0, .p 1 0, .p 2 0, .p 3 0, .c (.int .i64 (i)), .j, .j, .j, .j, .j, .j, .j, .j, .j, .j, .j, .j, .j], [⟨true, bs b⟩, ⟨true, bs c⟩, ⟨true, bs (List.replicate 256 0)⟩, ⟨true, bs (fl 256 (fun _ => 0) (fun i => c.getD (b.getD i 0).toNat 0) i)⟩])) (fun i => 256 - i) (fun i => i ≤ 256) 0 (by omega)
    ⟨[0, 1, 2, 3], by rw [← fl_zero]; simp [-List.reduceReplicate, LES]⟩ ?_
  intro i hi
  rcases Nat.lt_or_ge i 256 with h | h
  · simp only [↓VC, VP, TT, Nat.reduceEqDiff, reduceCtorEq, Nat.reduceAdd, Nat.reduceSub, Nat.reduceLT, Nat.reduceMul, Nat.reducePow, Nat.reduceLeDiff, Int.reduceToNat, Int.reduceLE, Int.reduceLT, Int.reducePow, hb, hc, fl_len, fl_at, fl_set, h, (eq_true (by omega) : ((i : Int) < 256) = True), (eq_true (by omega) : ((i : Int) < ((256 : Nat) : Int)) = True), wrap_i64 (n := (i : Int) + 1) (by omega) (by omega), decide_true, u8n_lt, int_lt_256]
    exact ⟨i + 1, by omega, by omega, [0, 1, 2, 3], by simp [-List.reduceReplicate, LES]⟩
  · obtain rfl : i = 256 := by omega
    simp only [↓VC, VP, TT, Nat.reduceEqDiff, reduceCtorEq, Nat.reduceAdd, Nat.reduceSub, Nat.reduceLT, Nat.reduceMul, Nat.reducePow, Nat.reduceLeDiff, Int.reduceToNat, Int.reduceLE, Int.reduceLT, Int.reducePow, hb, hc, fl_len, (eq_false (by omega) : (((256 : Nat) : Int) < 256) = False), decide_false]
    rw [fl_done]; refine ⟨_, _, [], ⟨rfl, rfl⟩, ?_⟩; simp [-List.reduceReplicate, LES, thenL]
theorem c_spec_UnitMatrix : LC Tryz.prog 209 [] [] (fun v hp => v = .a (bs (unP 4)) ∧ hp = []) := by
  refine LC_of (X := XX (fun _ => .nil) (fun _ => []) [15, 71, 72, 73, 79, 80, 87, 90, 91, 93, 99, 119, 137, 176, 177, 203, 204, 212, 219] 0) envOK Tryz.func209 (by kernel_rfl) (by kernel_rfl) rfl (Nat.le_of_ble_eq_true (by kernel_rfl)) ?_
  simp only [kFun, Tryz.f209, List.length_nil, List.length_cons, Nat.sub_zero, Nat.reduceSub, Nat.reduceAdd, List.nil_append, List.cons_append, List.replicate_succ, List.replicate_zero]
  simp only [XX, ↓VC, VP, TT, Nat.reduceEqDiff, reduceCtorEq, Nat.reduceAdd, Nat.reduceSub, Nat.reduceLT, Nat.reduceMul, Nat.reducePow, Nat.reduceLeDiff, Int.reduceToNat, Int.reduceLE, Int.reduceLT, Int.reducePow]
  refine kLoop_of (fun i : Nat => ([.p 0 0, .p 1 0, .c (.int .i64 (i)), .j, .j, .j, .j, .j, .j, .j, .j, .j, .j], [⟨true, bs (List.replicate 16 0)⟩, ⟨true, bs (unP i)⟩])) (fun i => 4 - i) (fun i => i ≤ 4) 0 (by omega)
    ⟨[0, 1], by simp [-List.reduceReplicate, LES, unP]⟩ ?_
  intro i hi
  rcases Nat.lt_or_ge i 4 with h | h
  · simp only [↓VC, VP, TT, Nat.reduceEqDiff, reduceCtorEq, Nat.reduceAdd, Nat.reduceSub, Nat.reduceLT, Nat.reduceMul, Nat.reducePow, Nat.reduceLeDiff, Int.reduceToNat, Int.reduceLE, Int.reduceLT, Int.reducePow, unP_len, inU8_one, ofInt_one, h, (eq_true (by omega) : ((i : Int) < 4) = True), (eq_true (by omega) : ((i : Int) < ((4 : Nat) : Int)) = True), wrap_i64 (n := (i : Int) + 1) (by omega) (by omega), decide_true, (eq_true (by omega) : (i * 4 + i < 16) = True)]
    exact ⟨i + 1, by omega, by omega, [0, 1], by simp [-List.reduceReplicate, LES, unP]⟩
  · obtain rfl : i = 4 := by omega
    simp only [↓VC, VP, TT, Nat.reduceEqDiff, reduceCtorEq, Nat.reduceAdd, Nat.reduceSub, Nat.reduceLT, Nat.reduceMul, Nat.reducePow, Nat.reduceLeDiff, Int.reduceToNat, Int.reduceLE, Int.reduceLT, Int.reducePow, unP_len, (eq_false (by omega) : (((4 : Nat) : Int) < 4) = False), decide_false]
    refine ⟨_, _, [], ⟨rfl, rfl⟩, ?_⟩; simp [-List.reduceReplicate, LES]
theorem c_impl_UnitMatrix : LC Tryz.prog 179 [] [] (fun v hp => v = .a (bs (unP 4)) ∧ hp = []) := by
  refine LC_of (X := XX (fun _ => .nil) (fun _ => []) [15, 71, 72, 73, 79, 80, 87, 90, 91, 93, 99, 119, 137, 176, 177, 203, 204, 212, 219] 0) envOK Tryz.func179 (by kernel_rfl) (by kernel_rfl) rfl (Nat.le_of_ble_eq_true (by kernel_rfl)) ?_
  simp only [kFun, Tryz.f179, List.length_nil, List.length_cons, Nat.sub_zero, Nat.reduceSub, Nat.reduceAdd, List.nil_append, List.cons_append, List.replicate_succ, List.replicate_zero]
  simp only [XX, ↓VC, VP, TT, Nat.reduceEqDiff, reduceCtorEq, Nat.reduceAdd, Nat.reduceSub, Nat.reduceLT, Nat.reduceMul, Nat.reducePow, Nat.reduceLeDiff, Int.reduceToNat, Int.reduceLE, Int.reduceLT, Int.reducePow]
  refine kLoop_of (fun i : Nat => ([.p 0 0, .p 1 0, .j, .j, .c (.int .i64 (i)), .j, .j, .j, .j, .j, .j, .j, .j], [⟨true, bs (List.replicate 16 0)⟩, ⟨true, bs (unP i)⟩])) (fun i => 4 - i) (fun i => i ≤ 4) 0 (by omega)
    ⟨[0, 1], by simp [-List.reduceReplicate, LES, unP]⟩ ?_
  intro i hi
  rcases Nat.lt_or_ge i 4 with h | h
  · simp only [↓VC, VP, TT, Nat.reduceEqDiff, reduceCtorEq, Nat.reduceAdd, Nat.reduceSub, Nat.reduceLT, Nat.reduceMul, Nat.reducePow, Nat.reduceLeDiff, Int.reduceToNat, Int.reduceLE, Int.reduceLT, Int.reducePow, unP_len, inU8_one, ofInt_one, h, (eq_true (by omega) : ((i : Int) < 4) = True), (eq_true (by omega) : ((i : Int) < ((4 : Nat) : Int)) = True), wrap_i64 (n := (i : Int) + 1) (by omega) (by omega), decide_true, (eq_true (by omega) : (i * 4 + i < 16) = True)]
    exact ⟨i + 1, by omega, by omega, [0, 1], by simp [-List.reduceReplicate, LES, unP]⟩
  · obtain rfl : i = 4 := by omega
    simp only [↓VC, VP, TT, Nat.reduceEqDiff, reduceCtorEq, Nat.reduceAdd, Nat.reduceSub, Nat.reduceLT, Nat.reduceMul, Nat.reducePow, Nat.reduceLeDiff, Int.reduceToNat, Int.reduceLE, Int.reduceLT, Int.reducePow, unP_len, (eq_false (by omega) : (((4 : Nat) : Int) < 4) = False), decide_false]
    refine ⟨_, _, [], ⟨rfl, rfl⟩, ?_⟩; simp [-List.reduceReplicate, LES]
theorem turn_tab : ∀ k, k < 8 → ∀ x, x < 256 → IntKind.u8.wrap (bitI .and .i64 (bitI .or .i64 (IntKind.i64.wrap ((x : Nat) * 2 ^ min k 64)) ((IntKind.i64.wrap ((x : Nat) * 2 ^ min k 64)).fdiv (2 ^ min 8 64))) 255) = (rotN x k : Nat) := by decide +kernel
theorem c_spec_l02Turn (u : UInt8) (k : Nat) (hk : k < 8) : LC Tryz.prog 214 [.c (.int .u8 ((u).toNat : Int)), .c (.int .i64 (k))] [] (fun v hp => v = .c (.int .u8 ((rot8 u k).toNat : Int)) ∧ hp = []) := by
  refine LC_of (X := XX (fun _ => .nil) (fun _ => []) [15, 71, 72, 73, 79, 80, 87, 90, 91, 93, 99, 119, 137, 176, 177, 203, 204, 212, 219] 0) envOK Tryz.func214 (by kernel_rfl) (by kernel_rfl) rfl (Nat.le_of_ble_eq_true (by kernel_rfl)) ?_
  simp only [kFun, Tryz.f214, List.length_nil, List.length_cons, Nat.sub_zero, Nat.reduceSub, Nat.reduceAdd, List.nil_append, List.cons_append, List.replicate_succ, List.replicate_zero]
  simp only [XX, ↓VC, VP, TT, Nat.reduceEqDiff, reduceCtorEq, Nat.reduceAdd, Nat.reduceSub, Nat.reduceLT, Nat.reduceMul, Nat.reducePow, Nat.reduceLeDiff, Int.reduceToNat, Int.reduceLE, Int.reduceLT, Int.reducePow]
  have hu := u.toNat_lt
  rw [wrap_i64 (n := ((u.toNat : Nat) : Int)) (by omega) (by omega), wrap_u64 (n := (k : Int)) (by omega) (by omega), Int.toNat_natCast, turn_tab k hk _ hu, ← rot8_nat u hk]
  refine ⟨by omega, ?_⟩
  refine ⟨_, _, [], ⟨rfl, rfl⟩, ?_⟩; simp [-List.reduceReplicate, LES]
/-- The reference's next key. -/
theorem mod16 {i : Nat} (hi : i < 16) : (((i : Int) + 15).tmod 16) = (if i = 0 then 15 else i - 1 : Nat) := by
  have : ∀ i, i < 16 → ((((i : Nat) : Int) + 15).tmod 16) = (if i = 0 then 15 else i - 1 : Nat) := by decide +kernel
  exact this i hi
theorem c_spec_l04Next (b k : List UInt8) (r : Int) (hb : b.length = 256) (hk : k.length = 16) : LC Tryz.prog 213 [.a (bs b), .a (bs k), .c (.int .i64 (r))] [] (fun v hp => v = .a (bs (nextK b k r)) ∧ hp = []) := by
  refine LC_of (X := XX (fun | 7 => .one 0 (.one 1 (.one 2 (.one 3 (.one 4 (.one 5 (.one 6 (.one 7 (.one 8 (.one 9 .nil))))))))) | _ => .nil) (fun _ => []) [15, 71, 72, 73, 79, 80, 87, 90, 91, 93, 99, 119, 137, 176, 177, 203, 204, 212, 219] 0) envOK Tryz.func213 (by kernel_rfl) (by kernel_rfl) rfl (Nat.le_of_ble_eq_true (by kernel_rfl)) ?_
  simp only [kFun, Tryz.f213, List.length_nil, List.length_cons, Nat.sub_zero, Nat.reduceSub, Nat.reduceAdd, List.nil_append, List.cons_append, List.replicate_succ, List.replicate_zero]
  simp only [XX, ↓VC, VP, TT, Nat.reduceEqDiff, reduceCtorEq, Nat.reduceAdd, Nat.reduceSub, Nat.reduceLT, Nat.reduceMul, Nat.reducePow, Nat.reduceLeDiff, Int.reduceToNat, Int.reduceLE, Int.reduceLT, Int.reducePow, hb, hk]
  refine kLoop_of (fun i : Nat => ([.j, .j, .c (.int .i64 (r)), .p 0 0, .p 1 0, .j, .p 2 0, .c (.int .i64 (i)), .j, .j, .j, .j, .j, .j, .j, .j, .j, .j, .j, .j, .j, .j, .j, .j, .j, .j, .j, .j, .j, .j, .j, .j, .j, .j], [⟨true, bs b⟩, ⟨true, bs (nkP b k r i)⟩, ⟨true, bs (List.replicate 16 0)⟩])) (fun i => 16 - i) (fun i => i ≤ 16) 0 (by omega)
    ⟨[0, 1, 2], by simp [-List.reduceReplicate, LES, nkP]⟩ ?_
  intro i hi
  have hl := nkP_len hk b r
  rcases Nat.lt_or_ge i 16 with h | h
  · have e1 : IntKind.i64.wrap ((i : Int) + 15) = (i : Int) + 15 := wrap_i64 (by omega) (by omega)
    have e3 : (if i = 0 then 15 else i - 1) < 16 := by split <;> omega
    simp only [↓VC, VP, TT, Nat.reduceEqDiff, reduceCtorEq, Nat.reduceAdd, Nat.reduceSub, Nat.reduceLT, Nat.reduceMul, Nat.reducePow, Nat.reduceLeDiff, Int.reduceToNat, Int.reduceLE, Int.reduceLT, Int.reducePow, hb, hl, h, (eq_true (by omega) : ((i : Int) < 16) = True), (eq_true (by omega) : ((i : Int) < ((16 : Nat) : Int)) = True), wrap_i64 (n := (i : Int) + 1) (by omega) (by omega), decide_true, u8n_lt, int_lt_256, wrap_u8, e1, mod16 h, e3, (eq_true (by omega) : (((if i = 0 then 15 else i - 1 : Nat) : Int) < ((16 : Nat) : Int)) = True)]
    refine ⟨by omega, fun h0 => ?_, fun h0 => ?_⟩
    · have h0' : i = 0 := by rw [beq_iff_eq] at h0; omega
      subst h0'
      refine ⟨1, by omega, by omega, [0, 1, 2], by simp [-List.reduceReplicate, LES, nkP, ownK]⟩
    · have h0' : i ≠ 0 := fun e => by subst e; simp at h0
      refine ⟨i + 1, by omega, by omega, [0, 1, 2], by simp [-List.reduceReplicate, LES, nkP, ownK, h0']⟩
  · obtain rfl : i = 16 := by omega
    simp only [↓VC, VP, TT, Nat.reduceEqDiff, reduceCtorEq, Nat.reduceAdd, Nat.reduceSub, Nat.reduceLT, Nat.reduceMul, Nat.reducePow, Nat.reduceLeDiff, Int.reduceToNat, Int.reduceLE, Int.reduceLT, Int.reducePow, hb, hl, (eq_false (by omega) : (((16 : Nat) : Int) < 16) = False), decide_false]
    refine ⟨_, _, [], ⟨rfl, rfl⟩, ?_⟩; simp [-List.reduceReplicate, LES, nextK]
end Go.Proofs.YtahnjhppkgndiaaGreat
/- Mixing: the reference multiplies, the program looks up its tables; the tables. -/
set_option linter.unusedSimpArgs false
set_option linter.unusedVariables false
namespace Go.Proofs.YtahnjhppkgndiaaGreat
open Go Go.Vc
set_option maxRecDepth 10000
theorem mixB_succ {m : Nat} {A s : List UInt8} {c i : Nat} (hi : i < 4) (j : Nat) : mixB m A s (4 * c + i) (j + 1) = mixB m A s (4 * c + i) j ^^^ tmul m (A.getD (i * 4 + j) 0) (s.getD (4 * c + j) 0) := by
  rw [mixB, show (4 * c + i) % 4 = i by omega, show (4 * c + i) / 4 = c by omega]
theorem set_getD {l : List UInt8} {i : Nat} (h : i < l.length) (v : UInt8) : (l.set i v).getD i 0 = v := by simp [List.getD, h]
theorem fl_set_same {n : Nat} {f0 g : Nat → UInt8} {i : Nat} (h : i < n) : (fl n f0 g i).set i (f0 i) = fl n f0 g i := by
  apply List.ext_getElem?
  intro j
  rw [List.getElem?_set]
  by_cases hj : i = j
  · subst hj; rw [if_pos rfl, fl_len, if_pos h, getD_lt (by rw [fl_len]; exact h), fl_at h]
  · rw [if_neg hj]
theorem c_spec_l03Mix (m : Nat) (A s : List UInt8) (hm : 256 ≤ m) (hm' : m < 512) (hA : A.length = 16) (hs : s.length = 16) : LC Tryz.prog 192 [.c (.int .i64 (m)), .a (bs A), .a (bs s)] [] (fun v hp => v = .a (bs (mixL 16 m A s)) ∧ hp = []) := by
  refine LC_of (X := XX (fun | 11 => .one 0 (.one 1 (.one 2 (.one 3 (.one 4 (.one 5 (.one 6 (.one 7 (.one 8 (.one 9 (.one 10 (.one 11 (.one 12 (.one 13 (.one 14 (.one 15 (.one 16 (.one 17 (.one 18 (.one 19 (.one 20 (.one 21 (.one 22 (.one 23 (.one 24 (.one 25 .nil))))))))))))))))))))))))) | _ => .nil) (fun _ => []) [15, 71, 72, 73, 79, 80, 87, 90, 91, 93, 99, 119, 137, 176, 177, 203, 204, 212, 219] 0) envOK Tryz.func192 (by kernel_rfl) (by kernel_rfl) rfl (Nat.le_of_ble_eq_true (by kernel_rfl)) ?_
  simp only [kFun, Tryz.f192, List.length_nil, List.length_cons, Nat.sub_zero, Nat.reduceSub, Nat.reduceAdd, List.nil_append, List.cons_append, List.replicate_succ, List.replicate_zero]
  simp only [XX, ↓VC, VP, TT, Nat.reduceEqDiff, reduceCtorEq, Nat.reduceAdd, Nat.reduceSub, Nat.reduceLT, Nat.reduceMul, Nat.reducePow, Nat.reduceLeDiff, Int.reduceToNat, Int.reduceLE, Int.reduceLT, Int.reducePow, hA, hs]
  refine kLoop_of (fun c : Nat => ([.c (.int .i64 (m)), .j, .j, .j, .p 0 0, .p 1 0, .p 2 0, .p 3 0, .c (.int .i64 (c)), .j, .j, .j, .j, .j, .j, .j, .j, .j, .j, .j, .j, .j, .j, .j, .j, .j, .j, .j, .j, .j, .j, .j, .j, .j, .j, .j, .j, .j, .j, .j, .j, .j, .j, .j, .j, .j, .j, .j, .j, .j], [⟨true, bs A⟩, ⟨true, bs s⟩, ⟨true, bs (List.replicate 16 0)⟩, ⟨true, bs (fl 16 (fun _ => 0) (fun x => mixB m A s x 4) (4 * c))⟩])) (fun c => 4 - c) (fun c => c ≤ 4) 0 (by omega)
    ⟨[0, 1, 2, 3], by rw [← fl_zero]; simp [-List.reduceReplicate, LES]⟩ ?_
  intro c hc
  rcases Nat.lt_or_ge c 4 with h | h
  · simp only [↓VC, VP, TT, Nat.reduceEqDiff, reduceCtorEq, Nat.reduceAdd, Nat.reduceSub, Nat.reduceLT, Nat.reduceMul, Nat.reducePow, Nat.reduceLeDiff, Int.reduceToNat, Int.reduceLE, Int.reduceLT, Int.reducePow, h, (eq_true (by omega) : ((c : Int) < 4) = True), (eq_true (by omega) : ((c : Int) < ((4 : Nat) : Int)) = True), wrap_i64 (n := (c : Int) + 1) (by omega) (by omega), decide_true]
    refine kLoop_of (fun i : Nat => ([.c (.int .i64 (m)), .j, .j, .j, .p 0 0, .p 1 0, .p 2 0, .p 3 0, .c (.int .i64 (c)), .c (.int .i64 (i)), .j, .j, .j, .j, .j, .j, .j, .j, .j, .j, .j, .j, .j, .j, .j, .j, .j, .j, .j, .j, .j, .j, .j, .j, .j, .j, .j, .j, .j, .j, .j, .j, .j, .j, .j, .j, .j, .j, .j, .j], [⟨true, bs A⟩, ⟨true, bs s⟩, ⟨true, bs (List.replicate 16 0)⟩, ⟨true, bs (fl 16 (fun _ => 0) (fun x => mixB m A s x 4) (4 * c + i))⟩])) (fun i => 4 - i) (fun i => i ≤ 4) 0 (by omega)
      ⟨[0, 1, 2, 3], by simp [-List.reduceReplicate, LES]⟩ ?_
    intro i hi
    rcases Nat.lt_or_ge i 4 with h2 | h2
    · simp only [↓VC, VP, TT, Nat.reduceEqDiff, reduceCtorEq, Nat.reduceAdd, Nat.reduceSub, Nat.reduceLT, Nat.reduceMul, Nat.reducePow, Nat.reduceLeDiff, Int.reduceToNat, Int.reduceLE, Int.reduceLT, Int.reducePow, h2, (eq_true (by omega) : ((i : Int) < 4) = True), (eq_true (by omega) : ((i : Int) < ((4 : Nat) : Int)) = True), wrap_i64 (n := (i : Int) + 1) (by omega) (by omega), decide_true]
      refine kLoop_of (fun j : Nat => ([.c (.int .i64 (m)), .j, .j, .j, .p 0 0, .p 1 0, .p 2 0, .p 3 0, .c (.int .i64 (c)), .c (.int .i64 (i)), .c (.int .i64 (j)), .j, .j, .j, .j, .j, .j, .j, .j, .j, .j, .j, .j, .j, .j, .j, .j, .j, .j, .j, .j, .j, .j, .j, .j, .j, .j, .j, .j, .j, .j, .j, .j, .j, .j, .j, .j, .j, .j, .j], [⟨true, bs A⟩, ⟨true, bs s⟩, ⟨true, bs (List.replicate 16 0)⟩, ⟨true, bs ((fl 16 (fun _ => 0) (fun x => mixB m A s x 4) (4 * c + i)).set (4 * c + i) (mixB m A s (4 * c + i) j))⟩])) (fun j => 4 - j) (fun j => j ≤ 4) 0 (by omega)
        ⟨[0, 1, 2, 3], by have := fl_set_same (n := 16) (f0 := fun _ => 0) (g := fun x => mixB m A s x 4) (i := 4 * c + i) (by omega); rw [show mixB m A s (4 * c + i) 0 = 0 from rfl, this]; simp [-List.reduceReplicate, LES]⟩ ?_
      intro j hj
      rcases Nat.lt_or_ge j 4 with h3 | h3
      · have w1 : IntKind.i64.wrap (4 * (c : Int)) = ((4 * c : Nat) : Int) := by rw [wrap_i64 (by omega) (by omega)]; omega
        have w2 : IntKind.i64.wrap (((4 * c : Nat) : Int) + i) = ((4 * c + i : Nat) : Int) := by rw [wrap_i64 (by omega) (by omega)]; omega
        have w3 : IntKind.i64.wrap (((4 * c : Nat) : Int) + j) = ((4 * c + j : Nat) : Int) := by rw [wrap_i64 (by omega) (by omega)]; omega
        have g1 := set_getD (l := fl 16 (fun _ => 0) (fun x => mixB m A s x 4) (4 * c + i)) (i := 4 * c + i) (by rw [fl_len]; omega) (mixB m A s (4 * c + i) j)
        simp only [↓VC, VP, TT, Nat.reduceEqDiff, reduceCtorEq, Nat.reduceAdd, Nat.reduceSub, Nat.reduceLT, Nat.reduceMul, Nat.reducePow, Nat.reduceLeDiff, Int.reduceToNat, Int.reduceLE, Int.reduceLT, Int.reducePow, h3, (eq_true (by omega) : ((j : Int) < 4) = True), (eq_true (by omega) : ((j : Int) < ((4 : Nat) : Int)) = True), wrap_i64 (n := (j : Int) + 1) (by omega) (by omega), decide_true, w1, w2, w3, fl_len, hA, hs, h2, (eq_true (by omega) : ((i : Int) < ((4 : Nat) : Int)) = True), (eq_true (by omega) : (((4 * c + i : Nat) : Int) < ((16 : Nat) : Int)) = True), (eq_true (by omega) : (((4 * c + j : Nat) : Int) < ((16 : Nat) : Int)) = True), (eq_true (by omega) : (4 * c + i < 16) = True), (eq_true (by omega) : (4 * c + j < 16) = True), (eq_true (by omega) : (i * 4 + j < 16) = True)]
        refine kCall_val (c_spec_l01Times m (A.getD (i * 4 + j) 0) (s.getD (4 * c + j) 0) hm hm') (by rfl) [] (by simp [CALL]) (by simp [CALL, cellsAt]) (by simp [CALL]) (by simp [okL_bs]) ?_
        simp only [CALL, ↓VC, VP, TT, Nat.reduceEqDiff, reduceCtorEq, Nat.reduceAdd, Nat.reduceSub, Nat.reduceLT, Nat.reduceMul, Nat.reducePow, Nat.reduceLeDiff, Int.reduceToNat, Int.reduceLE, Int.reduceLT, Int.reducePow, fl_len, (eq_true (by omega) : (((4 * c + i : Nat) : Int) < ((16 : Nat) : Int)) = True), (eq_true (by omega) : (4 * c + i < 16) = True)]
        refine ⟨j + 1, by omega, by omega, [0, 1, 2, 3], ?_⟩
        rw [g1, List.set_set, ← mixB_succ h2, wrap_i64 (by omega) (by omega)]
        simp [-List.reduceReplicate, LES]
      · obtain rfl : j = 4 := by omega
        simp only [↓VC, VP, TT, Nat.reduceEqDiff, reduceCtorEq, Nat.reduceAdd, Nat.reduceSub, Nat.reduceLT, Nat.reduceMul, Nat.reducePow, Nat.reduceLeDiff, Int.reduceToNat, Int.reduceLE, Int.reduceLT, Int.reducePow, (eq_false (by omega) : (((4 : Nat) : Int) < 4) = False), decide_false, wrap_i64 (n := (i : Int) + 1) (by omega) (by omega)]
        refine ⟨i + 1, by omega, by omega, [0, 1, 2, 3], ?_⟩
        rw [fl_set (by omega) rfl]
        simp [-List.reduceReplicate, LES]; exact .inr rfl
    · obtain rfl : i = 4 := by omega
      simp only [↓VC, VP, TT, Nat.reduceEqDiff, reduceCtorEq, Nat.reduceAdd, Nat.reduceSub, Nat.reduceLT, Nat.reduceMul, Nat.reducePow, Nat.reduceLeDiff, Int.reduceToNat, Int.reduceLE, Int.reduceLT, Int.reducePow, (eq_false (by omega) : (((4 : Nat) : Int) < 4) = False), decide_false, wrap_i64 (n := (c : Int) + 1) (by omega) (by omega)]
      exact ⟨c + 1, by omega, by omega, [0, 1, 2, 3], by simp [-List.reduceReplicate, LES]; exact .inr rfl⟩
  · obtain rfl : c = 4 := by omega
    simp only [↓VC, VP, TT, Nat.reduceEqDiff, reduceCtorEq, Nat.reduceAdd, Nat.reduceSub, Nat.reduceLT, Nat.reduceMul, Nat.reducePow, Nat.reduceLeDiff, Int.reduceToNat, Int.reduceLE, Int.reduceLT, Int.reducePow, fl_len, (eq_false (by omega) : (((4 : Nat) : Int) < 4) = False), decide_false]
    rw [fl_done]; refine ⟨_, _, [], ⟨rfl, rfl⟩, ?_⟩; simp [-List.reduceReplicate, LES, mixL]
end Go.Proofs.YtahnjhppkgndiaaGreat
/- Keys of rounds, and blocks enciphered: the reference. -/
set_option linter.unusedSimpArgs false
set_option linter.unusedVariables false
namespace Go.Proofs.YtahnjhppkgndiaaGreat
open Go Go.Vc
set_option maxRecDepth 10000
set_option maxHeartbeats 1000000
/-- A cipher's cells. -/
def cipC (f : Int) (box A pl : List UInt8) (r : Int) : List V := .c (.int .i64 f) :: (bs box ++ (bs A ++ (bs pl ++ [.c (.int .i64 r)])))
theorem cipC_len {f r : Int} {box A pl : List UInt8} (hb : box.length = 256) (hA : A.length = 16) (hp : pl.length = 16) : (cipC f box A pl r).length = 290 := by
  simp [cipC, bs_length, hb, hA, hp]
section
variable {f r : Int} {box A pl : List UInt8} {k : V → Prop} {kl : List V → Prop}
theorem cip_field : vGet (cipC f box A pl r) 0 k = k (.c (.int .i64 f)) := by unfold cipC; rw [vGet_zero]
theorem cip_box (hb : box.length = 256) : vSub (cipC f box A pl r) 1 256 k = k (.a (bs box)) := by
  unfold cipC; rw [show (1 : Nat) = 0 + 1 from rfl, vSub_succ, vSub_app0 (by rw [bs_length, hb])]
theorem cip_mix (hb : box.length = 256) (hA : A.length = 16) : vSub (cipC f box A pl r) 257 16 k = k (.a (bs A)) := by
  unfold cipC
  rw [show (257 : Nat) = 256 + 1 from rfl, vSub_succ, vSub_appR (by rw [bs_length, hb]; exact Nat.le_refl _), bs_length, hb, vSub_app0 (by rw [bs_length, hA])]
theorem cip_pl (hb : box.length = 256) (hA : A.length = 16) (hp : pl.length = 16) : vSub (cipC f box A pl r) 273 16 k = k (.a (bs pl)) := by
  unfold cipC
  rw [show (273 : Nat) = 272 + 1 from rfl, vSub_succ, vSub_appR (by rw [bs_length, hb]; omega), bs_length, hb, vSub_appR (by rw [bs_length, hA]; omega), bs_length, hA, vSub_app0 (by rw [bs_length, hp])]
theorem cip_rd (hb : box.length = 256) (hA : A.length = 16) (hp : pl.length = 16) : vGet (cipC f box A pl r) 289 k = k (.c (.int .i64 r)) := by
  unfold cipC
  rw [show (289 : Nat) = 288 + 1 from rfl, vGet_succ, vGet_appR (by rw [bs_length, hb]; omega), bs_length, hb, vGet_appR (by rw [bs_length, hA]; omega), bs_length, hA, vGet_appR (by rw [bs_length, hp]; omega), bs_length, hp, vGet_zero]
theorem cip_all {n : Nat} (hb : box.length = 256) (hA : A.length = 16) (hp : pl.length = 16) (hn : n = 290) : vSub (cipC f box A pl r) 0 n k = k (.a (cipC f box A pl r)) := vSub_all (by rw [cipC_len hb hA hp, hn])
theorem renL_cip (σ : List Nat) : V.renL σ (cipC f box A pl r) = cipC f box A pl r := by simp [cipC, V.renL, V.ren, renL_app, renL_bs]
theorem instL_cip (sub : List (Nat × Nat)) (N : Nat) : V.instL sub N (cipC f box A pl r) = cipC f box A pl r := by simp [cipC, V.instL, V.inst, instL_app, instL_bs]
theorem okL_cip (N : Nat) : okL N (cipC f box A pl r) := by simp [cipC, okL, okV, okL_app, okL_bs]
end
/-- The slice of the keys of n rounds, with room behind. -/
theorem keys_app (box key : List UInt8) (n r : Nat) : bs (keysL box key n) ++ bs (keyN box key n) ++ List.replicate r V.j = bs (keysL box key (n + 1)) ++ List.replicate r V.j := by
  rw [bs_append]; rfl
theorem repl1 {l : List V} : (List.replicate 1 l).flatten = l := by simp
theorem keysL_one {box key : List UInt8} : keysL box key 1 = key := rfl
theorem c_spec_l04Keys (f : Int) (box A pl key : List UInt8) (rd : Int) (n : Nat) (hn : n ≤ 40) (hb : box.length = 256) (hA : A.length = 16) (hp : pl.length = 16) (hk : key.length = 16) :
    LC Tryz.prog 189 [.a (cipC f box A pl rd), .a (bs key), .c (.int .i64 (n))] [] (Ret [] (fun _ : Nat => True) fun r => (.s 0 0 (n + 1) (n + 1 + r), [⟨true, bs (keysL box key (n + 1)) ++ List.replicate (16 * r) .j⟩])) := by
  refine LC_of (X := XX (fun _ => .nil) (fun _ => []) [15, 71, 72, 73, 79, 80, 87, 90, 91, 93, 99, 119, 137, 176, 177, 203, 204, 212, 219] 0) envOK Tryz.func189 (by kernel_rfl) (by kernel_rfl) rfl (Nat.le_of_ble_eq_true (by kernel_rfl)) ?_
  simp only [kFun, Tryz.f189, List.length_nil, List.length_cons, Nat.sub_zero, Nat.reduceSub, Nat.reduceAdd, List.nil_append, List.cons_append, List.replicate_succ, List.replicate_zero]
  simp only [XX, ↓VC, VP, TT, Nat.reduceEqDiff, reduceCtorEq, Nat.reduceAdd, Nat.reduceSub, Nat.reduceLT, Nat.reduceMul, Nat.reducePow, Nat.reduceLeDiff, Int.reduceToNat, Int.reduceLE, Int.reduceLT, Int.reducePow, hk, cipC_len hb hA hp, repl1]
  refine kLoop_of (fun s : Nat × Nat => ([.j, .j, .c (.int .i64 (n)), .p 0 0, .p 1 0, .j, .j, .s 2 0 (s.1 + 1) (s.1 + 1 + s.2), .c (.int .i64 ((s.1 : Int) + 1)), .j, .j, .j, .j, .j, .j, .j, .j, .j, .j, .j, .j, .j, .j, .j, .j, .j], [⟨true, cipC f box A pl rd⟩, ⟨true, bs (keyN box key s.1)⟩, ⟨true, bs (keysL box key (s.1 + 1)) ++ List.replicate (16 * s.2) .j⟩])) (fun s => n - s.1) (fun s => s.1 ≤ n) (0, 0) (by simp)
    ⟨[0, 1, 2], by simp [-List.reduceReplicate, LES, renL_cip, okL_cip, keyN, keysL_one]⟩ ?_
  rintro ⟨r, q⟩ hr
  simp only at hr
  have hl := keysL_len hk box (r + 1)
  have hkl := keyN_len hk box
  rcases Nat.lt_or_ge r n with h | h
  · simp only [↓VC, VP, TT, Nat.reduceEqDiff, reduceCtorEq, Nat.reduceAdd, Nat.reduceSub, Nat.reduceLT, Nat.reduceMul, Nat.reducePow, Nat.reduceLeDiff, Int.reduceToNat, Int.reduceLE, Int.reduceLT, Int.reducePow, (eq_true (by omega) : ((r : Int) + 1 ≤ n) = True), decide_true, ↓cip_box hb, hkl, repl1]
    refine kCall_val (c_spec_l04Next box (keyN box key r) ((r : Int) + 1) hb (hkl r)) (by rfl) [] (by simp [CALL]) (by simp [CALL, cellsAt]) (by simp [CALL]) (by simp [okL_bs]) ?_
    simp only [CALL, ↓VC, VP, TT, Nat.reduceEqDiff, reduceCtorEq, Nat.reduceAdd, Nat.reduceSub, Nat.reduceLT, Nat.reduceMul, Nat.reducePow, Nat.reduceLeDiff, Int.reduceToNat, Int.reduceLE, Int.reduceLT, Int.reducePow, hkl, repl1, nextK_len (hkl r), hl]
    refine ⟨by omega, by omega, by omega, .inr (by omega), .inr trivial, fun r1 c' hc hc' => ⟨(r + 1, c' - (r + 2)), by simp only; omega, by simp only; omega, [0, 1, 4], ?_⟩⟩
    rw [take_room (n := (r + 1) * 16) (by rw [hl]; omega), show nextK box (keyN box key r) ((r : Int) + 1) = keyN box key (r + 1) from rfl, keys_app, show r1 = 16 * (c' - (r + 2)) by omega, show c' = r + 1 + 1 + (c' - (r + 2)) by omega, wrap_i64 (by omega) (by omega)]
    simp [-List.reduceReplicate, LES, renL_cip, okL_cip]
  · obtain rfl : r = n := by omega
    simp only [↓VC, VP, TT, Nat.reduceEqDiff, reduceCtorEq, Nat.reduceAdd, Nat.reduceSub, Nat.reduceLT, Nat.reduceMul, Nat.reducePow, Nat.reduceLeDiff, Int.reduceToNat, Int.reduceLE, Int.reduceLT, Int.reducePow, (eq_false (by omega) : ((r : Int) + 1 ≤ r) = False), decide_false]
    refine ⟨_, _, [2], ⟨q, trivial, rfl, rfl⟩, ?_⟩
    simp [-List.reduceReplicate, LES]
theorem keys_load0 {box key : List UInt8} {n : Nat} {R : List V} {k : V → Prop} (hk : key.length = 16) (h : 0 < n) : vSub (bs (keysL box key n) ++ R) 0 16 k = k (.a (bs (keyN box key 0))) := by
  have hl := keysL_len hk box n
  rw [vSub_appL (by rw [bs_length, hl]; omega), vSub_bs, ← keysL_at hk box h]
  simp [hl]; omega
theorem keys_loadR {box key : List UInt8} {n r : Nat} {R : List V} {k : V → Prop} (hk : key.length = 16) (h : r < n) : vSub (bs (keysL box key n) ++ R) (r * 16) 16 k = k (.a (bs (keyN box key r))) := by
  have hl := keysL_len hk box n
  rw [vSub_appL (by rw [bs_length, hl]; omega), vSub_bs, ← keysL_at hk box h, show r * 16 = 16 * r by omega]
  simp [hl]; omega
theorem c_spec_l04Encipher (m : Nat) (box A pl key s : List UInt8) (rd : Int) (n : Nat) (hn : n ≤ 40) (hm : 256 ≤ m) (hm' : m < 512) (hb : box.length = 256) (hA : A.length = 16) (hp : pl.length = 16) (hpl : pl16 pl) (hk : key.length = 16) (hs : s.length = 16) :
    LC Tryz.prog 164 [.a (cipC m box A pl rd), .a (bs key), .a (bs s), .c (.int .i64 (n))] [] (fun v hp => v = .a (bs (encL m box A pl key s n)) ∧ hp = []) := by
  refine LC_of (X := XX (fun | 2 => .one 0 (.one 1 (.one 2 (.one 3 (.one 4 (.one 5 .nil))))) | 6 => .one 0 (.one 1 (.one 2 (.one 3 (.one 4 (.one 5 (.one 6 (.one 7 .nil))))))) | 9 => .one 0 (.one 1 (.one 2 (.one 3 (.one 4 (.one 5 (.one 6 .nil)))))) | _ => .nil) (fun _ => []) [15, 71, 72, 73, 79, 80, 87, 90, 91, 93, 99, 119, 137, 176, 177, 203, 204, 212, 219] 0) envOK Tryz.func164 (by kernel_rfl) (by kernel_rfl) rfl (Nat.le_of_ble_eq_true (by kernel_rfl)) ?_
  simp only [kFun, Tryz.f164, List.length_nil, List.length_cons, Nat.sub_zero, Nat.reduceSub, Nat.reduceAdd, List.nil_append, List.cons_append, List.replicate_succ, List.replicate_zero]
  simp only [XX, ↓VC, VP, TT, Nat.reduceEqDiff, reduceCtorEq, Nat.reduceAdd, Nat.reduceSub, Nat.reduceLT, Nat.reduceMul, Nat.reducePow, Nat.reduceLeDiff, Int.reduceToNat, Int.reduceLE, Int.reduceLT, Int.reducePow, hk, hs, cipC_len hb hA hp, ↓cip_all hb hA hp]
  refine kCall_Ret (c_spec_l04Keys m box A pl key rd n hn hb hA hp hk) (by rfl) [] (by simp [CALL, instL_cip]) (by simp [CALL]) (by simp [CALL, okL_cip]) (by simp) (by simp) fun q _ => ?_
  simp only [CALL, ↓VC, VP, TT, Nat.reduceEqDiff, reduceCtorEq, Nat.reduceAdd, Nat.reduceSub, Nat.reduceLT, Nat.reduceMul, Nat.reducePow, Nat.reduceLeDiff, Int.reduceToNat, Int.reduceLE, Int.reduceLT, Int.reducePow, hs, ↓keys_load0 hk (Nat.succ_pos n)]
  refine ⟨by omega, ?_⟩
  refine kCall_val (c_spec_l01Xor s (keyN box key 0) hs (keyN_len hk box 0)) (by rfl) [] (by simp [CALL]) (by simp [CALL, cellsAt]) (by simp [CALL]) (by simp [okL_bs]) ?_
  simp only [CALL, ↓VC, VP, TT, Nat.reduceEqDiff, reduceCtorEq, Nat.reduceAdd, Nat.reduceSub, Nat.reduceLT, Nat.reduceMul, Nat.reducePow, Nat.reduceLeDiff, Int.reduceToNat, Int.reduceLE, Int.reduceLT, Int.reducePow, hs, xorN_len]
  refine kLoop_of (fun r : Nat => ([.j, .j, .j, .c (.int .i64 (n)), .p 0 0, .p 1 0, .p 2 0, .j, .p 3 0, .s 4 0 (n + 1) (n + 1 + q), .c (.int .i64 ((r : Int) + 1)), .j, .j, .j, .j, .j, .j, .j, .j, .j, .j, .j, .j, .j, .j, .j, .j, .j, .j, .j, .j, .j, .j, .j, .j, .j, .j, .j, .j, .j, .j, .j, .j, .j, .j, .j, .j, .j], [⟨true, cipC m box A pl rd⟩, ⟨true, bs key⟩, ⟨true, bs (encS m box A pl key s n r)⟩, ⟨true, bs (List.replicate 16 0)⟩, ⟨true, bs (keysL box key (n + 1)) ++ List.replicate (16 * q) .j⟩])) (fun r => n - r) (fun r => r ≤ n) 0 (by omega)
    ⟨[0, 1, 2, 3, 4], by simp [-List.reduceReplicate, LES, renL_cip, okL_cip, encS]⟩ ?_
  intro r hr
  have hl := encS_len m box A pl key s n
  rcases Nat.lt_or_ge r n with h | h
  · simp only [↓VC, VP, TT, Nat.reduceEqDiff, reduceCtorEq, Nat.reduceAdd, Nat.reduceSub, Nat.reduceLT, Nat.reduceMul, Nat.reducePow, Nat.reduceLeDiff, Int.reduceToNat, Int.reduceLE, Int.reduceLT, Int.reducePow, (eq_true (by omega) : ((r : Int) + 1 ≤ n) = True), decide_true, hl, ↓cip_pl hb hA hp, ↓cip_box hb]
    refine kCall_val (c_spec_l04Boxes box (encS m box A pl key s n r) hb (hl r)) (by rfl) [] (by simp [CALL]) (by simp [CALL, cellsAt]) (by simp [CALL]) (by simp [okL_bs]) ?_
    simp only [CALL, ↓VC, VP, TT, Nat.reduceEqDiff, reduceCtorEq, Nat.reduceAdd, Nat.reduceSub, Nat.reduceLT, Nat.reduceMul, Nat.reducePow, Nat.reduceLeDiff, Int.reduceToNat, Int.reduceLE, Int.reduceLT, Int.reducePow]
    refine kCall_val (c_spec_l03Move pl (boxL 16 box (encS m box A pl key s n r)) hp (boxL_len _ _ _) hpl) (by rfl) [] (by simp [CALL]) (by simp [CALL, cellsAt]) (by simp [CALL]) (by simp [okL_bs]) ?_
    simp only [CALL, ↓VC, VP, TT, Nat.reduceEqDiff, reduceCtorEq, Nat.reduceAdd, Nat.reduceSub, Nat.reduceLT, Nat.reduceMul, Nat.reducePow, Nat.reduceLeDiff, Int.reduceToNat, Int.reduceLE, Int.reduceLT, Int.reducePow, hl, moveL_len, ↓cip_field, ↓cip_mix hb hA]
    have w1 : IntKind.i64.wrap ((r : Int) + 1 + 1) = ((r + 1 : Nat) : Int) + 1 := by rw [wrap_i64 (by omega) (by omega)]; omega
    have e1 : ((r : Int) + 1) = ((r + 1 : Nat) : Int) := by omega
    have hx := keyN_len hk box (r + 1)
    refine ⟨fun h2 => ?_, fun h2 => ?_⟩
    · refine kCall_val (c_spec_l03Mix m A (moveL pl (boxL 16 box (encS m box A pl key s n r))) hm hm' hA (moveL_len _ _)) (by rfl) [] (by simp [CALL]) (by simp [CALL, cellsAt]) (by simp [CALL]) (by simp [okL_bs]) ?_
      simp only [CALL, ↓VC, VP, TT, Nat.reduceEqDiff, reduceCtorEq, Nat.reduceAdd, Nat.reduceSub, Nat.reduceLT, Nat.reduceMul, Nat.reducePow, Nat.reduceLeDiff, Int.reduceToNat, Int.reduceLE, Int.reduceLT, Int.reducePow, hl, moveL_len, mixL_len, e1, ↓keys_loadR hk (show r + 1 < n + 1 by omega)]
      refine ⟨by omega, ?_⟩
      refine kCall_val (c_spec_l01Xor (mixL 16 m A (moveL pl (boxL 16 box (encS m box A pl key s n r)))) (keyN box key (r + 1)) (mixL_len _ _ _ _) hx) (by rfl) [] (by simp [CALL]) (by simp [CALL, cellsAt]) (by simp [CALL]) (by simp [okL_bs]) ?_
      simp only [CALL, ↓VC, VP, TT, Nat.reduceEqDiff, reduceCtorEq, Nat.reduceAdd, Nat.reduceSub, Nat.reduceLT, Nat.reduceMul, Nat.reducePow, Nat.reduceLeDiff, Int.reduceToNat, Int.reduceLE, Int.reduceLT, Int.reducePow, mixL_len, xorN_len]
      refine ⟨r + 1, by omega, by omega, [0, 1, 2, 3, 4], ?_⟩
      rw [show ((r + 1 : Nat) : Int) + 1 = ((r + 1 : Nat) : Int) + 1 from rfl, wrap_i64 (by omega) (by omega)]
      simp [-List.reduceReplicate, LES, renL_cip, okL_cip, encS, show r + 1 < n by omega]
    · simp only [↓VC, VP, TT, Nat.reduceEqDiff, reduceCtorEq, Nat.reduceAdd, Nat.reduceSub, Nat.reduceLT, Nat.reduceMul, Nat.reducePow, Nat.reduceLeDiff, Int.reduceToNat, Int.reduceLE, Int.reduceLT, Int.reducePow, hl, moveL_len, e1, ↓keys_loadR hk (show r + 1 < n + 1 by omega)]
      refine ⟨by omega, ?_⟩
      refine kCall_val (c_spec_l01Xor (moveL pl (boxL 16 box (encS m box A pl key s n r))) (keyN box key (r + 1)) (moveL_len _ _) hx) (by rfl) [] (by simp [CALL]) (by simp [CALL, cellsAt]) (by simp [CALL]) (by simp [okL_bs]) ?_
      simp only [CALL, ↓VC, VP, TT, Nat.reduceEqDiff, reduceCtorEq, Nat.reduceAdd, Nat.reduceSub, Nat.reduceLT, Nat.reduceMul, Nat.reducePow, Nat.reduceLeDiff, Int.reduceToNat, Int.reduceLE, Int.reduceLT, Int.reducePow, moveL_len, xorN_len]
      refine ⟨r + 1, by omega, by omega, [0, 1, 2, 3, 4], ?_⟩
      rw [wrap_i64 (by omega) (by omega)]
      simp [-List.reduceReplicate, LES, renL_cip, okL_cip, encS, show ¬ r + 1 < n by omega]
  · obtain rfl : r = n := by omega
    simp only [↓VC, VP, TT, Nat.reduceEqDiff, reduceCtorEq, Nat.reduceAdd, Nat.reduceSub, Nat.reduceLT, Nat.reduceMul, Nat.reducePow, Nat.reduceLeDiff, Int.reduceToNat, Int.reduceLE, Int.reduceLT, Int.reducePow, (eq_false (by omega) : ((r : Int) + 1 ≤ r) = False), decide_false, hl]
    refine ⟨_, _, [], ⟨rfl, rfl⟩, ?_⟩; simp [-List.reduceReplicate, LES, encL]
end Go.Proofs.YtahnjhppkgndiaaGreat

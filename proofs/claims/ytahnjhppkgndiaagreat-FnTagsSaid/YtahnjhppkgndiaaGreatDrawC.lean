import Derived.Test.YtahnjhppkgndiaaGreatDrawB
/- Draws of boxes. -/
set_option linter.unusedSimpArgs false
set_option linter.unusedVariables false
namespace Go.Proofs.YtahnjhppkgndiaaGreat
open Go Go.Vc
set_option maxRecDepth 10000
set_option maxHeartbeats 40000000
theorem halfN (j : Nat) : (j : Int).tdiv 2 = ((j / 2 : Nat) : Int) := by rw [Int.tdiv_eq_ediv_of_nonneg (by omega)]; omega
theorem rot014 : ∀ i, i < 3 → ∃ k : Nat, ([0, 1, 4] : List Int).getD i 0 = k ∧ k < 8 := by
  intro i hi
  rcases (by omega : i = 0 ∨ i = 1 ∨ i = 2) with rfl | rfl | rfl
  · exact ⟨0, rfl, by omega⟩
  · exact ⟨1, rfl, by omega⟩
  · exact ⟨4, rfl, by omega⟩
theorem rot025 : ∀ i, i < 3 → ∃ k : Nat, ([0, 2, 5] : List Int).getD i 0 = k ∧ k < 8 := by
  intro i hi
  rcases (by omega : i = 0 ∨ i = 1 ∨ i = 2) with rfl | rfl | rfl
  · exact ⟨0, rfl, by omega⟩
  · exact ⟨2, rfl, by omega⟩
  · exact ⟨5, rfl, by omega⟩
theorem thenL_len (b c : List UInt8) : (thenL b c).length = 256 := tab_len _ _
/-- A power, whatever it is. -/
theorem g_power (m : Nat) (k0 : Int) (hm : 256 ≤ m) (hm' : m < 512) (hk0 : 0 ≤ k0) (hk1 : k0 ≤ 254) : LC Tryz.prog 195 [.c (.int .i64 (m)), .c (.int .i64 (k0))] [] (Ret [] (fun b : List UInt8 => b.length = 256) fun b => (.a (bs b), [])) := by
  obtain ⟨k, rfl⟩ : ∃ j : Nat, k0 = j := ⟨k0.toNat, by omega⟩
  have hk : k ≤ 254 := by omega
  refine LC_of (X := XX (fun _ => .nil) (fun _ => []) [15, 71, 72, 73, 79, 80, 87, 90, 91, 93, 99, 119, 137, 176, 177, 203, 204, 212, 219] 0) envOK Tryz.func195 (by kernel_rfl) (by kernel_rfl) rfl (Nat.le_of_ble_eq_true (by kernel_rfl)) ?_
  simp only [kFun, Tryz.f195, List.length_nil, List.length_cons, Nat.sub_zero, Nat.reduceSub, Nat.reduceAdd, List.nil_append, List.cons_append, List.replicate_succ, List.replicate_zero]
  simp only [XX, ↓VC, VP, TT, Nat.reduceEqDiff, reduceCtorEq, Nat.reduceAdd, Nat.reduceSub, Nat.reduceLT, Nat.reduceMul, Nat.reducePow, Nat.reduceLeDiff, Int.reduceToNat, Int.reduceLE, Int.reduceLT, Int.reducePow]
  refine kLoop_of (fun s : Nat × List UInt8 => ([.c (.int .i64 (m)), .c (.int .i64 (k)), .j, .j, .p 0 0, .p 1 0, .c (.int .i64 (s.1)), .j, .j, .j, .j, .j, .j, .j, .j, .j, .j, .j, .j, .j, .j, .j, .j, .j, .j, .j, .j, .j, .j, .j, .j, .j, .j, .j, .j, .j, .j], [⟨true, bs (List.replicate 256 0)⟩, ⟨true, bs s.2⟩])) (fun s => 256 - s.1) (fun s => s.1 ≤ 256 ∧ s.2.length = 256) (0, List.replicate 256 0) ⟨by simp, by simp⟩ ⟨[0, 1], by simp [-List.reduceReplicate, LES]⟩ ?_
  rintro ⟨x, b⟩ ⟨hx, hb⟩
  simp only at hx hb
  rcases Nat.lt_or_ge x 256 with h | h
  · simp only [↓VC, VP, TT, Nat.reduceEqDiff, reduceCtorEq, Nat.reduceAdd, Nat.reduceSub, Nat.reduceLT, Nat.reduceMul, Nat.reducePow, Nat.reduceLeDiff, Int.reduceToNat, Int.reduceLE, Int.reduceLT, Int.reducePow, h, (eq_true (by omega) : ((x : Int) < 256) = True), (eq_true (by omega) : ((x : Int) < ((256 : Nat) : Int)) = True), wrap_i64 (n := (x : Int) + 1) (by omega) (by omega), decide_true, byte_conv]
    refine kLoop_of (fun s : Nat × UInt8 × UInt8 => ([.c (.int .i64 (m)), .c (.int .i64 (k)), .j, .j, .p 0 0, .p 1 0, .c (.int .i64 (x)), .c (.int .u8 ((s.2.1).toNat : Int)), .c (.int .u8 ((s.2.2).toNat : Int)), .c (.int .i64 (s.1)), .j, .j, .j, .j, .j, .j, .j, .j, .j, .j, .j, .j, .j, .j, .j, .j, .j, .j, .j, .j, .j, .j, .j, .j, .j, .j, .j], [⟨true, bs (List.replicate 256 0)⟩, ⟨true, bs b⟩])) (fun s => s.1) (fun s => s.1 ≤ 254) (k, 1, UInt8.ofInt (x : Int)) hk ⟨[0, 1], by simp [-List.reduceReplicate, LES]⟩ ?_
    rintro ⟨j, u, v⟩ hj
    simp only at hj
    have e3 : IntKind.i64.wrap ((j / 2 : Nat) : Int) = ((j / 2 : Nat) : Int) := wrap_i64 (by omega) (by omega)
    simp only [↓VC, VP, TT, Nat.reduceEqDiff, reduceCtorEq, Nat.reduceAdd, Nat.reduceSub, Nat.reduceLT, Nat.reduceMul, Nat.reducePow, Nat.reduceLeDiff, Int.reduceToNat, Int.reduceLE, Int.reduceLT, Int.reducePow, halfN, e3]
    refine ⟨fun h1 => ⟨by omega, fun ht => ?_, fun ht => ?_⟩, fun h1 => ?_⟩
    · refine kCall_val (c_spec_l01Times m u v hm hm') (by rfl) [] (by simp [CALL]) (by simp [CALL, cellsAt]) (by simp [CALL]) (by simp [okL_bs]) ?_
      simp only [CALL, ↓VC, VP, TT, Nat.reduceEqDiff, reduceCtorEq, Nat.reduceAdd, Nat.reduceSub, Nat.reduceLT, Nat.reduceMul, Nat.reducePow, Nat.reduceLeDiff, Int.reduceToNat, Int.reduceLE, Int.reduceLT, Int.reducePow]
      refine kCall_val (c_spec_l01Times m v v hm hm') (by rfl) [] (by simp [CALL]) (by simp [CALL, cellsAt]) (by simp [CALL]) (by simp [okL_bs]) ?_
      simp only [CALL, ↓VC, VP, TT, Nat.reduceEqDiff, reduceCtorEq, Nat.reduceAdd, Nat.reduceSub, Nat.reduceLT, Nat.reduceMul, Nat.reducePow, Nat.reduceLeDiff, Int.reduceToNat, Int.reduceLE, Int.reduceLT, Int.reducePow, halfN, e3]
      exact ⟨by omega, (j / 2, tmul m u v, tmul m v v), by simp only; omega, by simp only; omega, [0, 1], by simp [-List.reduceReplicate, LES]⟩
    · refine kCall_val (c_spec_l01Times m v v hm hm') (by rfl) [] (by simp [CALL]) (by simp [CALL, cellsAt]) (by simp [CALL]) (by simp [okL_bs]) ?_
      simp only [CALL, ↓VC, VP, TT, Nat.reduceEqDiff, reduceCtorEq, Nat.reduceAdd, Nat.reduceSub, Nat.reduceLT, Nat.reduceMul, Nat.reducePow, Nat.reduceLeDiff, Int.reduceToNat, Int.reduceLE, Int.reduceLT, Int.reducePow, halfN, e3]
      exact ⟨by omega, (j / 2, u, tmul m v v), by simp only; omega, by simp only; omega, [0, 1], by simp [-List.reduceReplicate, LES]⟩
    · rw [hb, wrap_i64 (by omega) (by omega)]
      refine ⟨by omega, h, (x + 1, b.set x u), ⟨by simp only; omega, by simp only [List.length_set]; exact hb⟩, by simp only; omega, [0, 1], ?_⟩
      simp [-List.reduceReplicate, LES]
  · obtain rfl : x = 256 := by omega
    simp only [↓VC, VP, TT, Nat.reduceEqDiff, reduceCtorEq, Nat.reduceAdd, Nat.reduceSub, Nat.reduceLT, Nat.reduceMul, Nat.reducePow, Nat.reduceLeDiff, Int.reduceToNat, Int.reduceLE, Int.reduceLT, Int.reducePow, hb, (eq_false (by omega) : (((256 : Nat) : Int) < 256) = False), decide_false]
    refine ⟨_, _, [], ⟨b, hb, rfl, rfl⟩, ?_⟩
    simp [-List.reduceReplicate, LES]
/-- Rotations, whatever they are. -/
theorem g_rot (L : List Int) (hl : L.length = 3) (hL : ∀ i, i < 3 → ∃ k : Nat, L.getD i 0 = k ∧ k < 8) (by0 : UInt8) : LC Tryz.prog 196 [.s 0 0 3 3, .c (.int .u8 ((by0).toNat : Int))] [⟨false, nsv L⟩] (Ret [⟨false, nsv L⟩] (fun b : List UInt8 => b.length = 256) fun b => (.a (bs b), [])) := by
  refine LC_of (X := XX (fun _ => .nil) (fun _ => []) [15, 71, 72, 73, 79, 80, 87, 90, 91, 93, 99, 119, 137, 176, 177, 203, 204, 212, 219] 1) envOK Tryz.func196 (by kernel_rfl) (by kernel_rfl) rfl (Nat.le_of_ble_eq_true (by kernel_rfl)) ?_
  simp only [kFun, Tryz.f196, List.length_nil, List.length_cons, Nat.sub_zero, Nat.reduceSub, Nat.reduceAdd, List.nil_append, List.cons_append, List.replicate_succ, List.replicate_zero]
  simp only [XX, ↓VC, VP, TT, Nat.reduceEqDiff, reduceCtorEq, Nat.reduceAdd, Nat.reduceSub, Nat.reduceLT, Nat.reduceMul, Nat.reducePow, Nat.reduceLeDiff, Int.reduceToNat, Int.reduceLE, Int.reduceLT, Int.reducePow]
  refine kLoop_of (fun s : Nat × List UInt8 => ([.s 0 0 3 3, .c (.int .u8 ((by0).toNat : Int)), .j, .j, .p 1 0, .p 2 0, .c (.int .i64 (s.1)), .j, .j, .j, .j, .j, .j, .j, .j, .j, .j, .j, .j, .j, .j, .j, .j, .j, .j, .j, .j, .j, .j, .j, .j, .j, .j, .j], [⟨false, nsv L⟩, ⟨true, bs (List.replicate 256 0)⟩, ⟨true, bs s.2⟩])) (fun s => 256 - s.1) (fun s => s.1 ≤ 256 ∧ s.2.length = 256) (0, List.replicate 256 0) ⟨by simp, by simp⟩ ⟨[0, 1, 2], by simp [-List.reduceReplicate, LES]⟩ ?_
  rintro ⟨x, b⟩ ⟨hx, hb⟩
  simp only at hx hb
  rcases Nat.lt_or_ge x 256 with h | h
  · simp only [↓VC, VP, TT, Nat.reduceEqDiff, reduceCtorEq, Nat.reduceAdd, Nat.reduceSub, Nat.reduceLT, Nat.reduceMul, Nat.reducePow, Nat.reduceLeDiff, Int.reduceToNat, Int.reduceLE, Int.reduceLT, Int.reducePow, h, (eq_true (by omega) : ((x : Int) < 256) = True), (eq_true (by omega) : ((x : Int) < ((256 : Nat) : Int)) = True), wrap_i64 (n := (x : Int) + 1) (by omega) (by omega), decide_true]
    refine kLoop_of (fun s : Nat × UInt8 => ([.s 0 0 3 3, .c (.int .u8 ((by0).toNat : Int)), .j, .j, .p 1 0, .p 2 0, .c (.int .i64 (x)), .c (.int .u8 ((s.2).toNat : Int)), .c (.int .i64 (s.1)), .j, .j, .j, .j, .j, .j, .j, .j, .j, .j, .j, .j, .j, .j, .j, .j, .j, .j, .j, .j, .j, .j, .j, .j, .j], [⟨false, nsv L⟩, ⟨true, bs (List.replicate 256 0)⟩, ⟨true, bs b⟩])) (fun s => 3 - s.1) (fun s => s.1 ≤ 3) (0, by0) (by simp) ⟨[0, 1, 2], by simp [-List.reduceReplicate, LES]⟩ ?_
    rintro ⟨i, v⟩ hi
    simp only at hi
    rcases Nat.lt_or_ge i 3 with h2 | h2
    · obtain ⟨k, e1, hk⟩ := hL i h2
      simp only [↓VC, VP, TT, Nat.reduceEqDiff, reduceCtorEq, Nat.reduceAdd, Nat.reduceSub, Nat.reduceLT, Nat.reduceMul, Nat.reducePow, Nat.reduceLeDiff, Int.reduceToNat, Int.reduceLE, Int.reduceLT, Int.reducePow, byte_conv, nsv_length, hl, (eq_true (by omega) : ((i : Int) < ((3 : Nat) : Int)) = True), decide_true, ↓vGet_nsvD (L := L) (i := i) (by omega), e1]
      repeat (refine ⟨by first | omega | (simp; done) | decide, ?_⟩)
      refine kCall_val (c_spec_l02Turn (UInt8.ofInt (x : Int)) k hk) (by rfl) [] (by simp [CALL]) (by simp [CALL, cellsAt]) (by simp [CALL]) (by simp [okL_bs]) ?_
      simp only [CALL, ↓VC, VP, TT, Nat.reduceEqDiff, reduceCtorEq, Nat.reduceAdd, Nat.reduceSub, Nat.reduceLT, Nat.reduceMul, Nat.reducePow, Nat.reduceLeDiff, Int.reduceToNat, Int.reduceLE, Int.reduceLT, Int.reducePow]
      exact ⟨(i + 1, v ^^^ rot8 (UInt8.ofInt (x : Int)) k), by simp only; omega, by simp only; omega, [0, 1, 2], by rw [wrap_i64 (by omega) (by omega)]; simp [-List.reduceReplicate, LES]⟩
    · obtain rfl : i = 3 := by omega
      simp only [↓VC, VP, TT, Nat.reduceEqDiff, reduceCtorEq, Nat.reduceAdd, Nat.reduceSub, Nat.reduceLT, Nat.reduceMul, Nat.reducePow, Nat.reduceLeDiff, Int.reduceToNat, Int.reduceLE, Int.reduceLT, Int.reducePow, show (((3 : Nat) : Int) < ((3 : Nat) : Int)) = False from eq_false (by decide), decide_false, hb, h, (eq_true (by omega) : ((x : Int) < 256) = True), (eq_true (by omega) : ((x : Int) < ((256 : Nat) : Int)) = True), wrap_i64 (n := (x : Int) + 1) (by omega) (by omega), decide_true]
      exact ⟨(x + 1, b.set x v), ⟨by simp only; omega, by simp only [List.length_set]; exact hb⟩, by simp only; omega, [0, 1, 2], by simp [-List.reduceReplicate, LES]⟩
  · obtain rfl : x = 256 := by omega
    simp only [↓VC, VP, TT, Nat.reduceEqDiff, reduceCtorEq, Nat.reduceAdd, Nat.reduceSub, Nat.reduceLT, Nat.reduceMul, Nat.reducePow, Nat.reduceLeDiff, Int.reduceToNat, Int.reduceLE, Int.reduceLT, Int.reducePow, hb, (eq_false (by omega) : (((256 : Nat) : Int) < 256) = False), decide_false]
    refine ⟨_, _, [0], ⟨b, hb, rfl, rfl⟩, ?_⟩
    simp [-List.reduceReplicate, LES]
theorem g_same : LC Tryz.prog 218 [] [] (Ret [] (fun b : List UInt8 => b.length = 256) fun b => (.a (bs b), [])) := by
  refine LC_of (X := XX (fun _ => .nil) (fun _ => []) [15, 71, 72, 73, 79, 80, 87, 90, 91, 93, 99, 119, 137, 176, 177, 203, 204, 212, 219] 0) envOK Tryz.func218 (by kernel_rfl) (by kernel_rfl) rfl (Nat.le_of_ble_eq_true (by kernel_rfl)) ?_
  simp only [kFun, Tryz.f218, List.length_nil, List.length_cons, Nat.sub_zero, Nat.reduceSub, Nat.reduceAdd, List.nil_append, List.cons_append, List.replicate_succ, List.replicate_zero]
  simp only [XX, ↓VC, VP, TT, Nat.reduceEqDiff, reduceCtorEq, Nat.reduceAdd, Nat.reduceSub, Nat.reduceLT, Nat.reduceMul, Nat.reducePow, Nat.reduceLeDiff, Int.reduceToNat, Int.reduceLE, Int.reduceLT, Int.reducePow]
  refine kLoop_of (fun s : Nat × List UInt8 => ([.p 0 0, .p 1 0, .c (.int .i64 (s.1)), .j, .j, .j, .j, .j, .j, .j, .j, .j, .j], [⟨true, bs (List.replicate 256 0)⟩, ⟨true, bs s.2⟩])) (fun s => 256 - s.1) (fun s => s.1 ≤ 256 ∧ s.2.length = 256) (0, List.replicate 256 0) ⟨by simp, by simp⟩ ⟨[0, 1], by simp [-List.reduceReplicate, LES]⟩ ?_
  rintro ⟨x, b⟩ ⟨hx, hb⟩
  simp only at hx hb
  rcases Nat.lt_or_ge x 256 with h | h
  · simp only [↓VC, VP, TT, Nat.reduceEqDiff, reduceCtorEq, Nat.reduceAdd, Nat.reduceSub, Nat.reduceLT, Nat.reduceMul, Nat.reducePow, Nat.reduceLeDiff, Int.reduceToNat, Int.reduceLE, Int.reduceLT, Int.reducePow, h, (eq_true (by omega) : ((x : Int) < 256) = True), (eq_true (by omega) : ((x : Int) < ((256 : Nat) : Int)) = True), wrap_i64 (n := (x : Int) + 1) (by omega) (by omega), decide_true, byte_conv, hb]
    exact ⟨(x + 1, b.set x (UInt8.ofInt (x : Int))), ⟨by simp only; omega, by simp only [List.length_set]; exact hb⟩, by simp only; omega, [0, 1], by simp [-List.reduceReplicate, LES]⟩
  · obtain rfl : x = 256 := by omega
    simp only [↓VC, VP, TT, Nat.reduceEqDiff, reduceCtorEq, Nat.reduceAdd, Nat.reduceSub, Nat.reduceLT, Nat.reduceMul, Nat.reducePow, Nat.reduceLeDiff, Int.reduceToNat, Int.reduceLE, Int.reduceLT, Int.reducePow, hb, (eq_false (by omega) : (((256 : Nat) : Int) < 256) = False), decide_false]
    refine ⟨_, _, [], ⟨b, hb, rfl, rfl⟩, ?_⟩
    simp [-List.reduceReplicate, LES]
section
variable {l : List UInt8} {c : Nat} {q : Nat × Nat}
theorem d_shuffle (hc : l.length ≤ c) (hm : l.length ≤ 4096) (hq : okS l q) : LC Tryz.prog 219 [.p 0 0] [⟨true, sv 1 l.length c q⟩, ⟨false, bs l⟩] (RetM (fun x : (Nat × Nat) × List UInt8 => okS l x.1 ∧ x.2.length = 256) fun x => (.a (bs x.2), [⟨true, sv 1 l.length c x.1⟩, ⟨false, bs l⟩], [])) := by
  refine LC_of (X := XX (fun _ => .nil) (fun _ => []) [15, 71, 72, 73, 79, 80, 87, 90, 91, 93, 99, 119, 137, 176, 177, 203, 204, 212, 219] 2) envOK Tryz.func219 (by kernel_rfl) (by kernel_rfl) rfl (Nat.le_of_ble_eq_true (by kernel_rfl)) ?_
  simp only [kFun, Tryz.f219, List.length_nil, List.length_cons, Nat.sub_zero, Nat.reduceSub, Nat.reduceAdd, List.nil_append, List.cons_append, List.replicate_succ, List.replicate_zero]
  simp only [XX, ↓VC, VP, TT, Nat.reduceEqDiff, reduceCtorEq, Nat.reduceAdd, Nat.reduceSub, Nat.reduceLT, Nat.reduceMul, Nat.reducePow, Nat.reduceLeDiff, Int.reduceToNat, Int.reduceLE, Int.reduceLT, Int.reducePow]
  refine kCall_Ret (g_same) (by rfl) [] (by simp [CALL, SCB, SB, nsv]) (by simp [CALL, SCB, SB, nsv]) (by simp [CALL, SCB, SB, nsv]) (by simp [okL_bs, okL_room, okL, okV, SB, nsv]) (by simp [CALL, SCB, SB, nsv]) fun b0 hb0 => ?_
  simp (config := { maxSteps := 2000000 }) only [CALL, ↓VC, VP, TT, Nat.reduceEqDiff, reduceCtorEq, Nat.reduceAdd, Nat.reduceSub, Nat.reduceLT, Nat.reduceMul, Nat.reducePow, Nat.reduceLeDiff, Int.reduceToNat, Int.reduceLE, Int.reduceLT, Int.reducePow, GOB, GB, hb0]
  refine kLoop_of (fun s : Nat × (Nat × Nat) × List UInt8 => ([.p 0 0, .j, .p 2 0, .p 3 0, .c (.int .i64 (s.1)), .j, .j, .j, .j, .j, .j, .j, .j, .j, .j, .j, .j, .j, .j, .j, .j, .j, .j, .j, .j, .j, .j, .j], [⟨true, sv 1 l.length c s.2.1⟩, ⟨false, bs l⟩, ⟨true, bs (List.replicate 256 0)⟩, ⟨true, bs s.2.2⟩])) (fun s => s.1) (fun s => s.1 ≤ 255 ∧ okS l s.2.1 ∧ s.2.2.length = 256) (255, q, b0) ⟨by simp, hq, hb0⟩ ⟨[0, 1, 2, 3], by simp [-List.reduceReplicate, LES, sv_ren, sv_ok]⟩ ?_
  rintro ⟨x, q, b⟩ ⟨hx, hq, hb⟩
  simp only at hx hq hb
  rcases Nat.eq_zero_or_pos x with h0 | h0
  · subst h0
    simp only [↓VC, VP, TT, Nat.reduceEqDiff, reduceCtorEq, Nat.reduceAdd, Nat.reduceSub, Nat.reduceLT, Nat.reduceMul, Nat.reducePow, Nat.reduceLeDiff, Int.reduceToNat, Int.reduceLE, Int.reduceLT, Int.reducePow, (eq_false (by omega) : (((0 : Nat) : Int) > 0) = False), decide_false, hb]
    exact ⟨_, _, [0, 1], ⟨(q, b), ⟨hq, hb⟩, rfl, rfl⟩, by simp [-List.reduceReplicate, LES, sv_ren, sv_ok]⟩
  · have w1 : IntKind.i64.wrap ((x : Int) + 1) = (x : Int) + 1 := wrap_i64 (by omega) (by omega)
    simp only [↓VC, VP, TT, Nat.reduceEqDiff, reduceCtorEq, Nat.reduceAdd, Nat.reduceSub, Nat.reduceLT, Nat.reduceMul, Nat.reducePow, Nat.reduceLeDiff, Int.reduceToNat, Int.reduceLE, Int.reduceLT, Int.reducePow, (eq_true (by omega) : ((x : Int) > 0) = True), decide_true, w1]
    refine kCall_M (d_next hc hm hq ((x : Int) + 1)) (by rfl) [(0, 0), (1, 0)] (by simp [CALL, SCB, SB, nsv]) (by simp [CALL, SCB, SB, nsv]) (by simp) (by simp [CALL, SCB, SB, nsv]) (by simp [okL_bs, okL_room, okL, okV, SB, nsv]) (by intro x _; simp [keepR, bs_length, SB, nsv]) (by simp [CALL, SCB, SB, nsv]) fun x1 h1 => ?_
    simp (config := { maxSteps := 2000000 }) only [CALL, ↓VC, VP, TT, Nat.reduceEqDiff, reduceCtorEq, Nat.reduceAdd, Nat.reduceSub, Nat.reduceLT, Nat.reduceMul, Nat.reducePow, Nat.reduceLeDiff, Int.reduceToNat, Int.reduceLE, Int.reduceLT, Int.reducePow, GOB, GB, hb]
    obtain ⟨q1, z1⟩ := x1
    obtain ⟨hq1, h1a, h1b, _⟩ := h1
    simp only at hq1 h1a h1b ⊢
    have h1b := h1b (by omega)
    obtain ⟨y, rfl⟩ : ∃ j : Nat, z1 = j := ⟨z1.toNat, by omega⟩
    simp only [Int.toNat_natCast]
    repeat (refine ⟨by first | omega | (simp; done) | decide, ?_⟩)
    refine ⟨(x - 1, q1, (b.set x (b.getD y 0)).set y (b.getD x 0)), ⟨by simp only; omega, hq1, by simp only [List.length_set]; exact hb⟩, by simp only; omega, [0, 1, 2, 3], ?_⟩
    rw [wrap_i64 (by omega) (by omega), show (x : Int) - 1 = ((x - 1 : Nat) : Int) by omega]
    simp [-List.reduceReplicate, LES, sv_ren, sv_ok]
theorem d_box (hc : l.length ≤ c) (hm : l.length ≤ 4096) (hq : okS l q) : LC Tryz.prog 204 [.p 0 0] [⟨true, sv 1 l.length c q⟩, ⟨false, bs l⟩] (RetM (fun x : (Nat × Nat) × List UInt8 => okS l x.1 ∧ x.2.length = 256) fun x => (.a (bs x.2), [⟨true, sv 1 l.length c x.1⟩, ⟨false, bs l⟩], [])) := by
  refine LC_of (X := XX (fun _ => .nil) (fun _ => []) [15, 71, 72, 73, 79, 80, 87, 90, 91, 93, 99, 119, 137, 176, 177, 203, 204, 212, 219] 2) envOK Tryz.func204 (by kernel_rfl) (by kernel_rfl) rfl (Nat.le_of_ble_eq_true (by kernel_rfl)) ?_
  simp only [kFun, Tryz.f204, List.length_nil, List.length_cons, Nat.sub_zero, Nat.reduceSub, Nat.reduceAdd, List.nil_append, List.cons_append, List.replicate_succ, List.replicate_zero]
  simp only [XX, ↓VC, VP, TT, Nat.reduceEqDiff, reduceCtorEq, Nat.reduceAdd, Nat.reduceSub, Nat.reduceLT, Nat.reduceMul, Nat.reducePow, Nat.reduceLeDiff, Int.reduceToNat, Int.reduceLE, Int.reduceLT, Int.reducePow]
  refine kCall_M (d_next hc hm hq 6) (by rfl) [(0, 0), (1, 0)] (by simp [CALL, SCB, SB, nsv]) (by simp [CALL, SCB, SB, nsv]) (by simp) (by simp [CALL, SCB, SB, nsv]) (by simp [okL_bs, okL_room, okL, okV, SB, nsv]) (by intro x _; simp [keepR, bs_length, SB, nsv]) (by simp [CALL, SCB, SB, nsv]) fun x1 h1 => ?_
  simp (config := { maxSteps := 2000000 }) only [CALL, ↓VC, VP, TT, Nat.reduceEqDiff, reduceCtorEq, Nat.reduceAdd, Nat.reduceSub, Nat.reduceLT, Nat.reduceMul, Nat.reducePow, Nat.reduceLeDiff, Int.reduceToNat, Int.reduceLE, Int.reduceLT, Int.reducePow, GOB, GB]
  obtain ⟨q1, z1⟩ := x1
  obtain ⟨hq1, h1a, h1b, _⟩ := h1
  simp only at hq1 h1a h1b ⊢
  refine ⟨fun _ => ?_, fun _ => ⟨fun _ => ?_, fun _ => ⟨fun _ => ?_, fun _ => ⟨fun _ => ?_, fun _ => ?_⟩⟩⟩⟩
  · refine kCall_M (d_field hc hm hq1) (by rfl) [(0, 0), (1, 0)] (by simp [CALL, SCB, SB, nsv]) (by simp [CALL, SCB, SB, nsv]) (by simp) (by simp [CALL, SCB, SB, nsv]) (by simp [okL_bs, okL_room, okL, okV, SB, nsv]) (by intro x _; simp [keepR, bs_length, SB, nsv]) (by simp [CALL, SCB, SB, nsv]) fun x2 h2 => ?_
    simp (config := { maxSteps := 2000000 }) only [CALL, ↓VC, VP, TT, Nat.reduceEqDiff, reduceCtorEq, Nat.reduceAdd, Nat.reduceSub, Nat.reduceLT, Nat.reduceMul, Nat.reducePow, Nat.reduceLeDiff, Int.reduceToNat, Int.reduceLE, Int.reduceLT, Int.reducePow, GOB, GB]
    obtain ⟨q2, m⟩ := x2
    obtain ⟨hq2, hf⟩ := h2
    simp only at hq2 hf ⊢
    have hmb := field_bd hf
    refine kCall_Ret (g_power m 254 (by omega) (by omega) (by omega) (by omega)) (by rfl) [] (by simp [CALL, SCB, SB, nsv]) (by simp [CALL, SCB, SB, nsv]) (by simp [CALL, SCB, SB, nsv]) (by simp [okL_bs, okL_room, okL, okV, SB, nsv]) (by simp [CALL, SCB, SB, nsv]) fun b1 hb1 => ?_
    simp (config := { maxSteps := 2000000 }) only [CALL, ↓VC, VP, TT, Nat.reduceEqDiff, reduceCtorEq, Nat.reduceAdd, Nat.reduceSub, Nat.reduceLT, Nat.reduceMul, Nat.reducePow, Nat.reduceLeDiff, Int.reduceToNat, Int.reduceLE, Int.reduceLT, Int.reducePow, GOB, GB, hb1]
    refine kCall_M (d_next hc hm hq2 256) (by rfl) [(0, 0), (1, 0)] (by simp [CALL, SCB, SB, nsv]) (by simp [CALL, SCB, SB, nsv]) (by simp) (by simp [CALL, SCB, SB, nsv]) (by simp [okL_bs, okL_room, okL, okV, SB, nsv]) (by intro x _; simp [keepR, bs_length, SB, nsv]) (by simp [CALL, SCB, SB, nsv]) fun x3 h3 => ?_
    simp (config := { maxSteps := 2000000 }) only [CALL, ↓VC, VP, TT, Nat.reduceEqDiff, reduceCtorEq, Nat.reduceAdd, Nat.reduceSub, Nat.reduceLT, Nat.reduceMul, Nat.reducePow, Nat.reduceLeDiff, Int.reduceToNat, Int.reduceLE, Int.reduceLT, Int.reducePow, GOB, GB, hb1, wrap_u8]
    refine kCall_Ret (g_rot [0, 1, 4] rfl rot014 (UInt8.ofInt x3.2)) (by rfl) [(3, 0)] (by simp [CALL, SCB, SB, nsv, splice]) (by simp [CALL, SCB, SB, nsv, splice]) (by simp [CALL, SCB, SB, nsv, splice]) (by simp [okL_bs, okL_room, okL, okV, SB, nsv, splice]) (by simp [CALL, SCB, SB, nsv, splice]) fun b2 hb2 => ?_
    simp (config := { maxSteps := 2000000 }) only [CALL, ↓VC, VP, TT, Nat.reduceEqDiff, reduceCtorEq, Nat.reduceAdd, Nat.reduceSub, Nat.reduceLT, Nat.reduceMul, Nat.reducePow, Nat.reduceLeDiff, Int.reduceToNat, Int.reduceLE, Int.reduceLT, Int.reducePow, GOB, GB, hb1, hb2]
    refine kCall_val (c_spec_l02Then b1 b2 hb1 hb2) (by rfl) [] (by simp [CALL, SCB, SB, nsv]) (by simp [CALL, SCB, SB, nsv]) (by simp [CALL, SCB, SB, nsv]) (by simp [okL_bs, okL_room, okL, okV, SB, nsv]) ?_
    simp (config := { maxSteps := 2000000 }) only [CALL, ↓VC, VP, TT, Nat.reduceEqDiff, reduceCtorEq, Nat.reduceAdd, Nat.reduceSub, Nat.reduceLT, Nat.reduceMul, Nat.reducePow, Nat.reduceLeDiff, Int.reduceToNat, Int.reduceLE, Int.reduceLT, Int.reducePow, GOB, GB, hb1, hb2, thenL_len]
    exact ⟨_, _, [0, 1], ⟨(x3.1, thenL b1 b2), ⟨h3.1, thenL_len _ _⟩, rfl, rfl⟩, by simp [-List.reduceReplicate, LES, sv_ren, sv_ok]⟩
  · refine kCall_M (d_field hc hm hq1) (by rfl) [(0, 0), (1, 0)] (by simp [CALL, SCB, SB, nsv]) (by simp [CALL, SCB, SB, nsv]) (by simp) (by simp [CALL, SCB, SB, nsv]) (by simp [okL_bs, okL_room, okL, okV, SB, nsv]) (by intro x _; simp [keepR, bs_length, SB, nsv]) (by simp [CALL, SCB, SB, nsv]) fun x2 h2 => ?_
    simp (config := { maxSteps := 2000000 }) only [CALL, ↓VC, VP, TT, Nat.reduceEqDiff, reduceCtorEq, Nat.reduceAdd, Nat.reduceSub, Nat.reduceLT, Nat.reduceMul, Nat.reducePow, Nat.reduceLeDiff, Int.reduceToNat, Int.reduceLE, Int.reduceLT, Int.reducePow, GOB, GB]
    obtain ⟨q2, m⟩ := x2
    obtain ⟨hq2, hf⟩ := h2
    simp only at hq2 hf ⊢
    have hmb := field_bd hf
    refine kCall_M (d_pick hc hm hq2 [1, 2, 7, 11, 13, 127, 254] 7 (by simp) (by simp)) (by rfl) [(0, 0), (1, 0), (3, 0)] (by simp [CALL, SCB, SB, nsv, splice]) (by simp [CALL, SCB, SB, nsv, splice]) (by simp) (by simp [CALL, SCB, SB, nsv, splice]) (by simp [okL_bs, okL_room, okL, okV, SB, nsv, splice]) (by intro x _; simp [keepR, bs_length, SB, nsv, splice]) (by simp [CALL, SCB, SB, nsv, splice]) fun x3 h3 => ?_
    simp (config := { maxSteps := 2000000 }) only [CALL, ↓VC, VP, TT, Nat.reduceEqDiff, reduceCtorEq, Nat.reduceAdd, Nat.reduceSub, Nat.reduceLT, Nat.reduceMul, Nat.reducePow, Nat.reduceLeDiff, Int.reduceToNat, Int.reduceLE, Int.reduceLT, Int.reducePow, GOB, GB]
    obtain ⟨q3, z3⟩ := x3
    obtain ⟨hq3, h3⟩ := h3
    simp only at hq3 h3 ⊢
    have hz : 0 ≤ z3 ∧ z3 ≤ 254 := by
      simp only [List.mem_cons, List.not_mem_nil, or_false] at h3
      omega
    refine kCall_Ret (g_power m z3 (by omega) (by omega) hz.1 hz.2) (by rfl) [] (by simp [CALL, SCB, SB, nsv]) (by simp [CALL, SCB, SB, nsv]) (by simp [CALL, SCB, SB, nsv]) (by simp [okL_bs, okL_room, okL, okV, SB, nsv]) (by simp [CALL, SCB, SB, nsv]) fun b1 hb1 => ?_
    simp (config := { maxSteps := 2000000 }) only [CALL, ↓VC, VP, TT, Nat.reduceEqDiff, reduceCtorEq, Nat.reduceAdd, Nat.reduceSub, Nat.reduceLT, Nat.reduceMul, Nat.reducePow, Nat.reduceLeDiff, Int.reduceToNat, Int.reduceLE, Int.reduceLT, Int.reducePow, GOB, GB, hb1]
    exact ⟨_, _, [0, 1], ⟨(q3, b1), ⟨hq3, hb1⟩, rfl, rfl⟩, by simp [-List.reduceReplicate, LES, sv_ren, sv_ok]⟩
  · refine kCall_M (d_next hc hm hq1 256) (by rfl) [(0, 0), (1, 0)] (by simp [CALL, SCB, SB, nsv]) (by simp [CALL, SCB, SB, nsv]) (by simp) (by simp [CALL, SCB, SB, nsv]) (by simp [okL_bs, okL_room, okL, okV, SB, nsv]) (by intro x _; simp [keepR, bs_length, SB, nsv]) (by simp [CALL, SCB, SB, nsv]) fun x3 h3 => ?_
    simp (config := { maxSteps := 2000000 }) only [CALL, ↓VC, VP, TT, Nat.reduceEqDiff, reduceCtorEq, Nat.reduceAdd, Nat.reduceSub, Nat.reduceLT, Nat.reduceMul, Nat.reducePow, Nat.reduceLeDiff, Int.reduceToNat, Int.reduceLE, Int.reduceLT, Int.reducePow, GOB, GB, wrap_u8]
    refine kCall_Ret (g_rot [0, 2, 5] rfl rot025 (UInt8.ofInt x3.2)) (by rfl) [(3, 0)] (by simp [CALL, SCB, SB, nsv, splice]) (by simp [CALL, SCB, SB, nsv, splice]) (by simp [CALL, SCB, SB, nsv, splice]) (by simp [okL_bs, okL_room, okL, okV, SB, nsv, splice]) (by simp [CALL, SCB, SB, nsv, splice]) fun b2 hb2 => ?_
    simp (config := { maxSteps := 2000000 }) only [CALL, ↓VC, VP, TT, Nat.reduceEqDiff, reduceCtorEq, Nat.reduceAdd, Nat.reduceSub, Nat.reduceLT, Nat.reduceMul, Nat.reducePow, Nat.reduceLeDiff, Int.reduceToNat, Int.reduceLE, Int.reduceLT, Int.reducePow, GOB, GB, hb2]
    exact ⟨_, _, [0, 1], ⟨(x3.1, b2), ⟨h3.1, hb2⟩, rfl, rfl⟩, by simp [-List.reduceReplicate, LES, sv_ren, sv_ok]⟩
  · refine kCall_Ret (g_same) (by rfl) [] (by simp [CALL, SCB, SB, nsv]) (by simp [CALL, SCB, SB, nsv]) (by simp [CALL, SCB, SB, nsv]) (by simp [okL_bs, okL_room, okL, okV, SB, nsv]) (by simp [CALL, SCB, SB, nsv]) fun b0 hb0 => ?_
    simp (config := { maxSteps := 2000000 }) only [CALL, ↓VC, VP, TT, Nat.reduceEqDiff, reduceCtorEq, Nat.reduceAdd, Nat.reduceSub, Nat.reduceLT, Nat.reduceMul, Nat.reducePow, Nat.reduceLeDiff, Int.reduceToNat, Int.reduceLE, Int.reduceLT, Int.reducePow, GOB, GB, hb0]
    refine kCall_M (d_next hc hm hq1 256) (by rfl) [(0, 0), (1, 0)] (by simp [CALL, SCB, SB, nsv]) (by simp [CALL, SCB, SB, nsv]) (by simp) (by simp [CALL, SCB, SB, nsv]) (by simp [okL_bs, okL_room, okL, okV, SB, nsv]) (by intro x _; simp [keepR, bs_length, SB, nsv]) (by simp [CALL, SCB, SB, nsv]) fun x2 h2 => ?_
    simp (config := { maxSteps := 2000000 }) only [CALL, ↓VC, VP, TT, Nat.reduceEqDiff, reduceCtorEq, Nat.reduceAdd, Nat.reduceSub, Nat.reduceLT, Nat.reduceMul, Nat.reducePow, Nat.reduceLeDiff, Int.reduceToNat, Int.reduceLE, Int.reduceLT, Int.reducePow, GOB, GB, hb0]
    obtain ⟨q2, z2⟩ := x2
    obtain ⟨hq2, h2a, h2b, _⟩ := h2
    simp only at hq2 h2a h2b ⊢
    have h2b := h2b (by omega)
    obtain ⟨y2, rfl⟩ : ∃ j : Nat, z2 = j := ⟨z2.toNat, by omega⟩
    refine kCall_M (d_next hc hm hq2 256) (by rfl) [(0, 0), (1, 0)] (by simp [CALL, SCB, SB, nsv]) (by simp [CALL, SCB, SB, nsv]) (by simp) (by simp [CALL, SCB, SB, nsv]) (by simp [okL_bs, okL_room, okL, okV, SB, nsv]) (by intro x _; simp [keepR, bs_length, SB, nsv]) (by simp [CALL, SCB, SB, nsv]) fun x3 h3 => ?_
    simp (config := { maxSteps := 2000000 }) only [CALL, ↓VC, VP, TT, Nat.reduceEqDiff, reduceCtorEq, Nat.reduceAdd, Nat.reduceSub, Nat.reduceLT, Nat.reduceMul, Nat.reducePow, Nat.reduceLeDiff, Int.reduceToNat, Int.reduceLE, Int.reduceLT, Int.reducePow, GOB, GB, hb0, Int.toNat_natCast, List.length_set]
    obtain ⟨q3, z3⟩ := x3
    obtain ⟨hq3, h3a, h3b, _⟩ := h3
    simp only at hq3 h3a h3b ⊢
    have h3b := h3b (by omega)
    obtain ⟨y3, rfl⟩ : ∃ j : Nat, z3 = j := ⟨z3.toNat, by omega⟩
    simp only [Int.toNat_natCast]
    repeat (refine ⟨by first | omega | (simp; done) | decide, ?_⟩)
    exact ⟨_, _, [0, 1], ⟨(q3, (b0.set y2 (b0.getD y3 0)).set y3 (b0.getD y2 0)), ⟨hq3, by simp only [List.length_set]; exact hb0⟩, rfl, rfl⟩, by simp [-List.reduceReplicate, LES, sv_ren, sv_ok]⟩
  · refine kCall_M (d_shuffle hc hm hq1) (by rfl) [(0, 0), (1, 0)] (by simp [CALL, SCB, SB, nsv]) (by simp [CALL, SCB, SB, nsv]) (by simp) (by simp [CALL, SCB, SB, nsv]) (by simp [okL_bs, okL_room, okL, okV, SB, nsv]) (by intro x _; simp [keepR, bs_length, SB, nsv]) (by simp [CALL, SCB, SB, nsv]) fun x2 h2 => ?_
    have hb2 := h2.2
    simp (config := { maxSteps := 2000000 }) only [CALL, ↓VC, VP, TT, Nat.reduceEqDiff, reduceCtorEq, Nat.reduceAdd, Nat.reduceSub, Nat.reduceLT, Nat.reduceMul, Nat.reducePow, Nat.reduceLeDiff, Int.reduceToNat, Int.reduceLE, Int.reduceLT, Int.reducePow, GOB, GB, hb2]
    exact ⟨_, _, [0, 1], ⟨(x2.1, x2.2), ⟨h2.1, h2.2⟩, rfl, rfl⟩, by simp [-List.reduceReplicate, LES, sv_ren, sv_ok]⟩
theorem z_block (hc : l.length ≤ c) (hm : l.length ≤ 4096) (hq : okS l q) : LC Tryz.prog 72 [.p 0 0] [⟨true, sv 1 l.length c q⟩, ⟨false, bs l⟩] (RetM (fun x : (Nat × Nat) × List UInt8 => okS l x.1 ∧ x.2.length = 16) fun x => (.a (bs x.2), [⟨true, sv 1 l.length c x.1⟩, ⟨false, bs l⟩], [])) := by
  refine LC_of (X := XX (fun _ => .nil) (fun _ => []) [15, 71, 72, 73, 79, 80, 87, 90, 91, 93, 99, 119, 137, 176, 177, 203, 204, 212, 219] 2) envOK Tryz.func72 (by kernel_rfl) (by kernel_rfl) rfl (Nat.le_of_ble_eq_true (by kernel_rfl)) ?_
  simp only [kFun, Tryz.f72, List.length_nil, List.length_cons, Nat.sub_zero, Nat.reduceSub, Nat.reduceAdd, List.nil_append, List.cons_append, List.replicate_succ, List.replicate_zero]
  simp only [XX, ↓VC, VP, TT, Nat.reduceEqDiff, reduceCtorEq, Nat.reduceAdd, Nat.reduceSub, Nat.reduceLT, Nat.reduceMul, Nat.reducePow, Nat.reduceLeDiff, Int.reduceToNat, Int.reduceLE, Int.reduceLT, Int.reducePow]
  refine kCall_M (d_next hc hm hq 5) (by rfl) [(0, 0), (1, 0)] (by simp [CALL, SCB, SB, nsv]) (by simp [CALL, SCB, SB, nsv]) (by simp) (by simp [CALL, SCB, SB, nsv]) (by simp [okL_bs, okL_room, okL, okV, SB, nsv]) (by intro x _; simp [keepR, bs_length, SB, nsv]) (by simp [CALL, SCB, SB, nsv]) fun x1 h1 => ?_
  simp (config := { maxSteps := 2000000 }) only [CALL, ↓VC, VP, TT, Nat.reduceEqDiff, reduceCtorEq, Nat.reduceAdd, Nat.reduceSub, Nat.reduceLT, Nat.reduceMul, Nat.reducePow, Nat.reduceLeDiff, Int.reduceToNat, Int.reduceLE, Int.reduceLT, Int.reducePow, GOB, GB]
  refine ⟨fun _ => ?_, fun _ => ?_⟩
  · refine kCall_M (d_next hc hm h1.1 16) (by rfl) [(0, 0), (1, 0)] (by simp [CALL, SCB, SB, nsv]) (by simp [CALL, SCB, SB, nsv]) (by simp) (by simp [CALL, SCB, SB, nsv]) (by simp [okL_bs, okL_room, okL, okV, SB, nsv]) (by intro x _; simp [keepR, bs_length, SB, nsv]) (by simp [CALL, SCB, SB, nsv]) fun x2 h2 => ?_
    simp (config := { maxSteps := 2000000 }) only [CALL, ↓VC, VP, TT, Nat.reduceEqDiff, reduceCtorEq, Nat.reduceAdd, Nat.reduceSub, Nat.reduceLT, Nat.reduceMul, Nat.reducePow, Nat.reduceLeDiff, Int.reduceToNat, Int.reduceLE, Int.reduceLT, Int.reducePow, GOB, GB]
    obtain ⟨q2, z2⟩ := x2
    obtain ⟨hq2, h2a, h2b, _⟩ := h2
    simp only at hq2 h2a h2b ⊢
    have h2b := h2b (by omega)
    obtain ⟨y2, rfl⟩ : ∃ j : Nat, z2 = j := ⟨z2.toNat, by omega⟩
    refine kCall_M (z_byte hc hm hq2) (by rfl) [(0, 0), (1, 0)] (by simp [CALL, SCB, SB, nsv]) (by simp [CALL, SCB, SB, nsv]) (by simp) (by simp [CALL, SCB, SB, nsv]) (by simp [okL_bs, okL_room, okL, okV, SB, nsv]) (by intro x _; simp [keepR, bs_length, SB, nsv]) (by simp [CALL, SCB, SB, nsv]) fun x3 h3 => ?_
    simp (config := { maxSteps := 2000000 }) only [CALL, ↓VC, VP, TT, Nat.reduceEqDiff, reduceCtorEq, Nat.reduceAdd, Nat.reduceSub, Nat.reduceLT, Nat.reduceMul, Nat.reducePow, Nat.reduceLeDiff, Int.reduceToNat, Int.reduceLE, Int.reduceLT, Int.reducePow, GOB, GB, Int.toNat_natCast]
    repeat (refine ⟨by first | omega | (simp; done) | decide, ?_⟩)
    exact ⟨_, _, [0, 1], ⟨(x3.1, (List.replicate 16 0).set y2 x3.2), ⟨h3, by simp⟩, rfl, rfl⟩, by simp [-List.reduceReplicate, LES, sv_ren, sv_ok]⟩
  · have hq1 := h1.1
    generalize x1.1 = q1 at *
    refine kLoop_of (fun s : Nat × (Nat × Nat) × List UInt8 => ([.p 0 0, .j, .p 2 0, .p 3 0, .c (.int .i64 (s.1)), .j, .j, .j, .j, .j, .j, .j, .j, .j, .j, .j, .j, .j, .j, .j, .j, .j, .j, .j, .j], [⟨true, sv 1 l.length c s.2.1⟩, ⟨false, bs l⟩, ⟨true, bs (List.replicate 16 0)⟩, ⟨true, bs s.2.2⟩])) (fun s => 16 - s.1) (fun s => s.1 ≤ 16 ∧ okS l s.2.1 ∧ s.2.2.length = 16) (0, q1, List.replicate 16 0) ⟨by simp, hq1, by simp⟩ ⟨[0, 1, 2, 3], by simp [-List.reduceReplicate, LES, sv_ren, sv_ok]⟩ ?_
    rintro ⟨i, q, b⟩ ⟨hi, hq, hb⟩
    simp only at hi hq hb
    rcases Nat.lt_or_ge i 16 with h | h
    · simp only [↓VC, VP, TT, Nat.reduceEqDiff, reduceCtorEq, Nat.reduceAdd, Nat.reduceSub, Nat.reduceLT, Nat.reduceMul, Nat.reducePow, Nat.reduceLeDiff, Int.reduceToNat, Int.reduceLE, Int.reduceLT, Int.reducePow, (eq_true (by omega) : ((i : Int) < 16) = True), decide_true]
      refine kCall_M (d_next hc hm hq 256) (by rfl) [(0, 0), (1, 0)] (by simp [CALL, SCB, SB, nsv]) (by simp [CALL, SCB, SB, nsv]) (by simp) (by simp [CALL, SCB, SB, nsv]) (by simp [okL_bs, okL_room, okL, okV, SB, nsv]) (by intro x _; simp [keepR, bs_length, SB, nsv]) (by simp [CALL, SCB, SB, nsv]) fun x2 h2 => ?_
      simp (config := { maxSteps := 2000000 }) only [CALL, ↓VC, VP, TT, Nat.reduceEqDiff, reduceCtorEq, Nat.reduceAdd, Nat.reduceSub, Nat.reduceLT, Nat.reduceMul, Nat.reducePow, Nat.reduceLeDiff, Int.reduceToNat, Int.reduceLE, Int.reduceLT, Int.reducePow, GOB, GB, wrap_u8, hb]
      repeat (refine ⟨by first | omega | (simp; done) | decide, ?_⟩)
      exact ⟨(i + 1, x2.1, b.set i (UInt8.ofInt x2.2)), ⟨by simp only; omega, h2.1, by simp only [List.length_set]; exact hb⟩, by simp only; omega, [0, 1, 2, 3], by rw [wrap_i64 (by omega) (by omega)]; simp [-List.reduceReplicate, LES, sv_ren, sv_ok]⟩
    · obtain rfl : i = 16 := by omega
      simp only [↓VC, VP, TT, Nat.reduceEqDiff, reduceCtorEq, Nat.reduceAdd, Nat.reduceSub, Nat.reduceLT, Nat.reduceMul, Nat.reducePow, Nat.reduceLeDiff, Int.reduceToNat, Int.reduceLE, Int.reduceLT, Int.reducePow, (eq_false (by omega) : (((16 : Nat) : Int) < 16) = False), decide_false, hb]
      exact ⟨_, _, [0, 1], ⟨(q, b), ⟨hq, hb⟩, rfl, rfl⟩, by simp [-List.reduceReplicate, LES, sv_ren, sv_ok]⟩
end
end Go.Proofs.YtahnjhppkgndiaaGreat

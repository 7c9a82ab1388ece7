import Derived.Test.YtahnjhppkgndiaaGreatDraw
import Derived.Test.YtahnjhppkgndiaaGreatEngI
/- Draws of bytes, blocks, fields, boxes. -/
set_option linter.unusedSimpArgs false
set_option linter.unusedVariables false
namespace Go.Proofs.YtahnjhppkgndiaaGreat
open Go Go.Vc
set_option maxRecDepth 10000
set_option maxHeartbeats 4000000
/-- Simplifying facts, bundled. -/
theorem SB : type_of% (
  And.intro @sv_inst <|
  And.intro @sv_ok <|
  And.intro @sv_len <|
  And.intro @sv_take <|
  And.intro @nsv_length <|
  And.intro @instL_nsv <|
  And.intro @okL_nsv <|
  And.intro @instL_room <|
  @okL_room) :=
  And.intro @sv_inst <|
  And.intro @sv_ok <|
  And.intro @sv_len <|
  And.intro @sv_take <|
  And.intro @nsv_length <|
  And.intro @instL_nsv <|
  And.intro @okL_nsv <|
  And.intro @instL_room <|
  @okL_room
/-- Simplifying facts, bundled. -/
theorem GB : type_of% (
  And.intro @sv_inst <|
  And.intro @sv_len <|
  And.intro @instL_nsv <|
  And.intro @nsv_length <|
  @instL_room) :=
  And.intro @sv_inst <|
  And.intro @sv_len <|
  And.intro @instL_nsv <|
  And.intro @nsv_length <|
  @instL_room
theorem nsv_moreZ {A : List Int} {x : Int} {r : Nat} : nsv A ++ [V.c (.int .i64 x)] ++ List.replicate r V.j = nsv (A ++ [x]) ++ List.replicate r V.j := by
  simp [nsv]
theorem take_nsvZ {A : List Int} {n : Nat} {X : List V} (h : n = A.length) : List.take n (nsv A ++ X) = nsv A := by
  rw [h, ← nsv_length A, List.take_left' rfl]
theorem vGet_nsvR {L : List Int} {X : List V} {i : Nat} {k : V → Prop} (h : i < L.length) : vGet (nsv L ++ X) i k = k (.c (.int .i64 (L.getD i 0))) := by
  rw [vGet_appL (by rw [nsv_length]; exact h), vGet_nsvD h]
theorem mem_getD {L : List Int} {i : Nat} (h : i < L.length) : L.getD i 0 ∈ L := by
  rw [List.getD_eq_getElem?_getD, List.getElem?_eq_getElem h]; exact List.getElem_mem _
theorem field_bd {z : Int} (h : fieldB z = true) : 256 ≤ z ∧ z < 512 := by
  unfold fieldB at h
  rw [Bool.and_eq_true, decide_eq_true_eq] at h
  omega
theorem f285 : fieldB 285 = true := by decide +kernel
section
variable {l : List UInt8} {c : Nat} {q : Nat × Nat}
theorem d_fields : LC Tryz.prog 217 [] [] (Ret [] (fun x : List Int × Nat => x.1 ≠ [] ∧ x.1.length ≤ 256 ∧ ∀ z ∈ x.1, fieldB z = true) fun x => (.s 0 0 x.1.length (x.1.length + x.2), [⟨true, nsv x.1 ++ List.replicate x.2 .j⟩])) := by
  refine LC_of (X := XX (fun _ => .nil) (fun _ => []) [15, 71, 72, 73, 79, 80, 87, 90, 91, 93, 99, 119, 137, 176, 177, 203, 204, 212, 219] 0) envOK Tryz.func217 (by kernel_rfl) (by kernel_rfl) rfl (Nat.le_of_ble_eq_true (by kernel_rfl)) ?_
  simp only [kFun, Tryz.f217, List.length_nil, List.length_cons, Nat.sub_zero, Nat.reduceSub, Nat.reduceAdd, List.nil_append, List.cons_append, List.replicate_succ, List.replicate_zero]
  simp only [XX, ↓VC, VP, TT, Nat.reduceEqDiff, reduceCtorEq, Nat.reduceAdd, Nat.reduceSub, Nat.reduceLT, Nat.reduceMul, Nat.reducePow, Nat.reduceLeDiff, Int.reduceToNat, Int.reduceLE, Int.reduceLT, Int.reducePow]
  refine kLoop_of (fun s : Nat × List Int × Nat => ([.j, .s 0 0 s.2.1.length (s.2.1.length + s.2.2), .c (.int .i64 (s.1)), .j, .j, .j, .j, .j, .j, .j, .j, .j, .j, .j, .j], [⟨true, nsv s.2.1 ++ List.replicate s.2.2 .j⟩])) (fun s => 512 - s.1) (fun s => 256 ≤ s.1 ∧ s.1 ≤ 512 ∧ s.2.1.length + 256 ≤ s.1 ∧ (∀ z ∈ s.2.1, fieldB z = true) ∧ (285 < s.1 → s.2.1 ≠ [])) (256, [], 0) ⟨by simp, by simp, by simp, by simp, by simp⟩ ⟨[0], by simp [-List.reduceReplicate, LES, nsv]⟩ ?_
  rintro ⟨m, L, r⟩ ⟨h1, h2, h3, h4, h5⟩
  simp only at h1 h2 h3 h4 h5
  rcases Nat.lt_or_ge m 512 with h | h
  · simp only [↓VC, VP, TT, Nat.reduceEqDiff, reduceCtorEq, Nat.reduceAdd, Nat.reduceSub, Nat.reduceLT, Nat.reduceMul, Nat.reducePow, Nat.reduceLeDiff, Int.reduceToNat, Int.reduceLE, Int.reduceLT, Int.reducePow, (eq_true (by omega) : ((m : Int) < 512) = True), decide_true]
    refine kCall_val (c_spec_l01Field m) (by rfl) [] (by simp [CALL, SCB, SB, nsv]) (by simp [CALL, SCB, SB, nsv]) (by simp [CALL, SCB, SB, nsv]) (by simp [okL_bs, okL_room, okL, okV, SB, nsv]) ?_
    simp (config := { maxSteps := 2000000 }) only [CALL, ↓VC, VP, TT, Nat.reduceEqDiff, reduceCtorEq, Nat.reduceAdd, Nat.reduceSub, Nat.reduceLT, Nat.reduceMul, Nat.reducePow, Nat.reduceLeDiff, Int.reduceToNat, Int.reduceLE, Int.reduceLT, Int.reducePow, GOB, GB]
    refine ⟨fun ht => ?_, fun hf => ?_⟩
    · refine ⟨by omega, by omega, .inr (by omega), .inr trivial, fun r1 c1 e1 e2 => ⟨(m + 1, L ++ [(m : Int)], r1), ⟨by simp only; omega, by simp only; omega, by simp only [List.length_append, List.length_singleton]; omega, ?_, by simp⟩, by simp only; omega, [2], ?_⟩⟩
      · intro z hz
        rw [List.mem_append, List.mem_singleton] at hz
        rcases hz with hz | rfl
        · exact h4 z hz
        · exact ht
      · rw [wrap_i64 (by omega) (by omega), take_nsvZ rfl, nsv_moreZ, e1]
        simp [-List.reduceReplicate, LES]
    · refine ⟨(m + 1, L, r), ⟨by simp only; omega, by simp only; omega, by simp only; omega, h4, fun h6 => ?_⟩, by simp only; omega, [0], ?_⟩
      · rcases Nat.lt_or_ge 285 m with h7 | h7
        · exact h5 h7
        · obtain rfl : m = 285 := by simp only at h6; omega
          rw [show ((285 : Nat) : Int) = 285 from rfl, f285] at hf; cases hf
      · rw [wrap_i64 (by omega) (by omega)]
        simp [-List.reduceReplicate, LES]
  · obtain rfl : m = 512 := by omega
    simp only [↓VC, VP, TT, Nat.reduceEqDiff, reduceCtorEq, Nat.reduceAdd, Nat.reduceSub, Nat.reduceLT, Nat.reduceMul, Nat.reducePow, Nat.reduceLeDiff, Int.reduceToNat, Int.reduceLE, Int.reduceLT, Int.reducePow, (eq_false (by omega) : (((512 : Nat) : Int) < 512) = False), decide_false]
    exact ⟨_, _, [0], ⟨(L, r), ⟨h5 (by omega), by simp only; omega, h4⟩, rfl, rfl⟩, by simp [-List.reduceReplicate, LES]⟩
theorem d_field (hc : l.length ≤ c) (hm : l.length ≤ 4096) (hq : okS l q) : LC Tryz.prog 203 [.p 0 0] [⟨true, sv 1 l.length c q⟩, ⟨false, bs l⟩] (RetM (fun x : (Nat × Nat) × Nat => okS l x.1 ∧ fieldB (x.2 : Int) = true) fun x => (.c (.int .i64 (x.2)), [⟨true, sv 1 l.length c x.1⟩, ⟨false, bs l⟩], [])) := by
  refine LC_of (X := XX (fun | 2 => .one 0 (.one 1 (.one 2 (.one 3 (.one 4 (.one 8 (.one 9 (.one 10 (.one 11 (.one 5 (.one 6 (.alt (.one 7 (.one 12 (.one 13 (.one 14 (.one 15 (.one 16 (.one 17 .nil))))))) (.one 12 (.one 7 (.one 13 (.one 14 (.one 15 (.one 16 (.one 17 .nil)))))))))))))))))) | _ => .nil) (fun _ => []) [15, 71, 72, 73, 79, 80, 87, 90, 91, 93, 99, 119, 137, 176, 177, 203, 204, 212, 219] 2) envOK Tryz.func203 (by kernel_rfl) (by kernel_rfl) rfl (Nat.le_of_ble_eq_true (by kernel_rfl)) ?_
  simp only [kFun, Tryz.f203, List.length_nil, List.length_cons, Nat.sub_zero, Nat.reduceSub, Nat.reduceAdd, List.nil_append, List.cons_append, List.replicate_succ, List.replicate_zero]
  simp only [XX, ↓VC, VP, TT, Nat.reduceEqDiff, reduceCtorEq, Nat.reduceAdd, Nat.reduceSub, Nat.reduceLT, Nat.reduceMul, Nat.reducePow, Nat.reduceLeDiff, Int.reduceToNat, Int.reduceLE, Int.reduceLT, Int.reducePow]
  refine kCall_Ret (d_fields) (by rfl) [] (by simp [CALL, SCB, SB, nsv]) (by simp [CALL, SCB, SB, nsv]) (by simp [CALL, SCB, SB, nsv]) (by simp [okL_bs, okL_room, okL, okV, SB, nsv]) (by simp [CALL, SCB, SB, nsv]) fun y hy => ?_
  simp (config := { maxSteps := 2000000 }) only [CALL, ↓VC, VP, TT, Nat.reduceEqDiff, reduceCtorEq, Nat.reduceAdd, Nat.reduceSub, Nat.reduceLT, Nat.reduceMul, Nat.reducePow, Nat.reduceLeDiff, Int.reduceToNat, Int.reduceLE, Int.reduceLT, Int.reducePow, GOB, GB]
  obtain ⟨L, r⟩ := y
  obtain ⟨hL0, hL1, hL2⟩ := hy
  have hLp : 0 < L.length := List.length_pos_iff.2 hL0
  simp only at hL1 hL2 ⊢
  refine kCall_M (d_next hc hm hq (L.length : Int)) (by rfl) [(0, 0), (1, 0)] (by simp [CALL, SCB, SB, nsv]) (by simp [CALL, SCB, SB, nsv]) (by simp) (by simp [CALL, SCB, SB, nsv]) (by simp [okL_bs, okL_room, okL, okV, SB, nsv]) (by intro x _; simp [keepR, bs_length, SB, nsv]) (by simp [CALL, SCB, SB, nsv]) fun x1 h1 => ?_
  simp (config := { maxSteps := 2000000 }) only [CALL, ↓VC, VP, TT, Nat.reduceEqDiff, reduceCtorEq, Nat.reduceAdd, Nat.reduceSub, Nat.reduceLT, Nat.reduceMul, Nat.reducePow, Nat.reduceLeDiff, Int.reduceToNat, Int.reduceLE, Int.reduceLT, Int.reducePow, GOB, GB]
  obtain ⟨q1, z1⟩ := x1
  obtain ⟨hq1, h1a, h1b, _⟩ := h1
  simp only at hq1 h1a h1b ⊢
  have h1b := h1b (by omega)
  obtain ⟨j1, rfl⟩ : ∃ j : Nat, z1 = j := ⟨z1.toNat, by omega⟩
  have hj1 : j1 < L.length := by omega
  simp only [Int.toNat_natCast, ↓vGet_nsvR hj1]
  refine ⟨by omega, by omega, ?_⟩
  constructor
  all_goals
    refine kCall_M (d_next hc hm hq1 (L.length : Int)) (by rfl) [(0, 0), (1, 0)] (by simp [CALL, SCB, SB, nsv]) (by simp [CALL, SCB, SB, nsv]) (by simp) (by simp [CALL, SCB, SB, nsv]) (by simp [okL_bs, okL_room, okL, okV, SB, nsv]) (by intro x _; simp [keepR, bs_length, SB, nsv]) (by simp [CALL, SCB, SB, nsv]) fun x2 h2 => ?_
    simp (config := { maxSteps := 2000000 }) only [CALL, ↓VC, VP, TT, Nat.reduceEqDiff, reduceCtorEq, Nat.reduceAdd, Nat.reduceSub, Nat.reduceLT, Nat.reduceMul, Nat.reducePow, Nat.reduceLeDiff, Int.reduceToNat, Int.reduceLE, Int.reduceLT, Int.reducePow, GOB, GB, Int.toNat_natCast, ↓vGet_nsvR hj1]
    obtain ⟨q2, z2⟩ := x2
    obtain ⟨hq2, h2a, h2b, _⟩ := h2
    simp only at hq2 h2a h2b ⊢
    have h2b := h2b (by omega)
    obtain ⟨j2, rfl⟩ : ∃ j : Nat, z2 = j := ⟨z2.toNat, by omega⟩
    have hj2 : j2 < L.length := by omega
    simp only [Int.toNat_natCast, ↓vGet_nsvR hj2]
    refine ⟨by omega, by omega, ?_⟩
    refine kCall_M (d_pick hc hm hq2 [285, L.getD j1 0, L.getD j2 0] 3 (by simp) (by simp)) (by rfl) [(0, 0), (1, 0), (3, 0)] (by simp [CALL, SCB, SB, nsv, splice]) (by simp [CALL, SCB, SB, nsv, splice]) (by simp) (by simp [CALL, SCB, SB, nsv, splice]) (by simp [okL_bs, okL_room, okL, okV, SB, nsv, splice]) (by intro x _; simp [keepR, bs_length, SB, nsv, splice]) (by simp [CALL, SCB, SB, nsv, splice]) fun x3 h3 => ?_
    simp (config := { maxSteps := 2000000 }) only [CALL, ↓VC, VP, TT, Nat.reduceEqDiff, reduceCtorEq, Nat.reduceAdd, Nat.reduceSub, Nat.reduceLT, Nat.reduceMul, Nat.reducePow, Nat.reduceLeDiff, Int.reduceToNat, Int.reduceLE, Int.reduceLT, Int.reducePow, GOB, GB]
    obtain ⟨q3, z3⟩ := x3
    obtain ⟨hq3, h3⟩ := h3
    simp only at hq3 h3 ⊢
    have hz : fieldB z3 = true := by
      simp only [List.mem_cons, List.not_mem_nil, or_false] at h3
      rcases h3 with rfl | rfl | rfl
      · exact f285
      · exact hL2 _ (mem_getD hj1)
      · exact hL2 _ (mem_getD hj2)
    have hzb := field_bd hz
    obtain ⟨k, rfl⟩ : ∃ k : Nat, z3 = k := ⟨z3.toNat, by omega⟩
    refine ⟨_, _, [0, 1], ⟨(q3, k), ⟨hq3, hz⟩, rfl, rfl⟩, ?_⟩
    simp [-List.reduceReplicate, LES, sv_ren, sv_ok]
theorem z_byte (hc : l.length ≤ c) (hm : l.length ≤ 4096) (hq : okS l q) : LC Tryz.prog 99 [.p 0 0] [⟨true, sv 1 l.length c q⟩, ⟨false, bs l⟩] (RetM (fun x : (Nat × Nat) × UInt8 => okS l x.1) fun x => (.c (.int .u8 (x.2.toNat : Int)), [⟨true, sv 1 l.length c x.1⟩, ⟨false, bs l⟩], [])) := by
  refine LC_of (X := XX (fun _ => .nil) (fun _ => []) [15, 71, 72, 73, 79, 80, 87, 90, 91, 93, 99, 119, 137, 176, 177, 203, 204, 212, 219] 2) envOK Tryz.func99 (by kernel_rfl) (by kernel_rfl) rfl (Nat.le_of_ble_eq_true (by kernel_rfl)) ?_
  simp only [kFun, Tryz.f99, List.length_nil, List.length_cons, Nat.sub_zero, Nat.reduceSub, Nat.reduceAdd, List.nil_append, List.cons_append, List.replicate_succ, List.replicate_zero]
  simp only [XX, ↓VC, VP, TT, Nat.reduceEqDiff, reduceCtorEq, Nat.reduceAdd, Nat.reduceSub, Nat.reduceLT, Nat.reduceMul, Nat.reducePow, Nat.reduceLeDiff, Int.reduceToNat, Int.reduceLE, Int.reduceLT, Int.reducePow]
  refine kCall_M (d_next hc hm hq 4) (by rfl) [(0, 0), (1, 0)] (by simp [CALL, SCB, SB, nsv]) (by simp [CALL, SCB, SB, nsv]) (by simp) (by simp [CALL, SCB, SB, nsv]) (by simp [okL_bs, okL_room, okL, okV, SB, nsv]) (by intro x _; simp [keepR, bs_length, SB, nsv]) (by simp [CALL, SCB, SB, nsv]) fun x1 h1 => ?_
  simp (config := { maxSteps := 2000000 }) only [CALL, ↓VC, VP, TT, Nat.reduceEqDiff, reduceCtorEq, Nat.reduceAdd, Nat.reduceSub, Nat.reduceLT, Nat.reduceMul, Nat.reducePow, Nat.reduceLeDiff, Int.reduceToNat, Int.reduceLE, Int.reduceLT, Int.reducePow, GOB, GB]
  refine kCall_M (d_next hc hm h1.1 256) (by rfl) [(0, 0), (1, 0)] (by simp [CALL, SCB, SB, nsv]) (by simp [CALL, SCB, SB, nsv]) (by simp) (by simp [CALL, SCB, SB, nsv]) (by simp [okL_bs, okL_room, okL, okV, SB, nsv]) (by intro x _; simp [keepR, bs_length, SB, nsv]) (by simp [CALL, SCB, SB, nsv]) fun x2 h2 => ?_
  simp (config := { maxSteps := 2000000 }) only [CALL, ↓VC, VP, TT, Nat.reduceEqDiff, reduceCtorEq, Nat.reduceAdd, Nat.reduceSub, Nat.reduceLT, Nat.reduceMul, Nat.reducePow, Nat.reduceLeDiff, Int.reduceToNat, Int.reduceLE, Int.reduceLT, Int.reducePow, GOB, GB]
  refine kCall_M (d_next hc hm h2.1 256) (by rfl) [(0, 0), (1, 0)] (by simp [CALL, SCB, SB, nsv]) (by simp [CALL, SCB, SB, nsv]) (by simp) (by simp [CALL, SCB, SB, nsv]) (by simp [okL_bs, okL_room, okL, okV, SB, nsv]) (by intro x _; simp [keepR, bs_length, SB, nsv]) (by simp [CALL, SCB, SB, nsv]) fun x3 h3 => ?_
  simp (config := { maxSteps := 2000000 }) only [CALL, ↓VC, VP, TT, Nat.reduceEqDiff, reduceCtorEq, Nat.reduceAdd, Nat.reduceSub, Nat.reduceLT, Nat.reduceMul, Nat.reducePow, Nat.reduceLeDiff, Int.reduceToNat, Int.reduceLE, Int.reduceLT, Int.reducePow, GOB, GB]
  refine kCall_M (d_pick hc hm h3.1 [x1.2, x2.2, x3.2, 255] 4 (by simp) (by simp)) (by rfl) [(0, 0), (1, 0), (2, 0)] (by simp [CALL, SCB, SB, nsv]) (by simp [CALL, SCB, SB, nsv]) (by simp) (by simp [CALL, SCB, SB, nsv]) (by simp [okL_bs, okL_room, okL, okV, SB, nsv]) (by intro x _; simp [keepR, bs_length, SB, nsv]) (by simp [CALL, SCB, SB, nsv]) fun x4 h4 => ?_
  simp (config := { maxSteps := 2000000 }) only [CALL, ↓VC, VP, TT, Nat.reduceEqDiff, reduceCtorEq, Nat.reduceAdd, Nat.reduceSub, Nat.reduceLT, Nat.reduceMul, Nat.reducePow, Nat.reduceLeDiff, Int.reduceToNat, Int.reduceLE, Int.reduceLT, Int.reducePow, GOB, GB]
  refine ⟨_, _, [0, 1], ⟨(x4.1, UInt8.ofInt x4.2), h4.1, rfl, rfl⟩, ?_⟩
  rw [wrap_u8]
  simp [-List.reduceReplicate, LES, sv_ren, sv_ok]
theorem z_bytes (hc : l.length ≤ c) (hm : l.length ≤ 4096) (hq : okS l q) (m : Nat) (hmm : m ≤ 100000) : LC Tryz.prog 91 [.p 0 0, .c (.int .i64 (m))] [⟨true, sv 1 l.length c q⟩, ⟨false, bs l⟩] (RetM (fun x : (Nat × Nat) × List UInt8 × Nat => okS l x.1 ∧ x.2.1.length ≤ m + 41) fun x => (.s 2 0 x.2.1.length (x.2.1.length + x.2.2), [⟨true, sv 1 l.length c x.1⟩, ⟨false, bs l⟩], [⟨true, bs x.2.1 ++ List.replicate x.2.2 .j⟩])) := by
  refine LC_of (X := XX (fun _ => .nil) (fun _ => []) [15, 71, 72, 73, 79, 80, 87, 90, 91, 93, 99, 119, 137, 176, 177, 203, 204, 212, 219] 2) envOK Tryz.func91 (by kernel_rfl) (by kernel_rfl) rfl (Nat.le_of_ble_eq_true (by kernel_rfl)) ?_
  simp only [kFun, Tryz.f91, List.length_nil, List.length_cons, Nat.sub_zero, Nat.reduceSub, Nat.reduceAdd, List.nil_append, List.cons_append, List.replicate_succ, List.replicate_zero]
  simp only [XX, ↓VC, VP, TT, Nat.reduceEqDiff, reduceCtorEq, Nat.reduceAdd, Nat.reduceSub, Nat.reduceLT, Nat.reduceMul, Nat.reducePow, Nat.reduceLeDiff, Int.reduceToNat, Int.reduceLE, Int.reduceLT, Int.reducePow]
  rw [wrap_i64 (n := min (m : Int) 5 + 1) (by omega) (by omega)]
  refine kCall_M (d_next hc hm hq (min (m : Int) 5 + 1)) (by rfl) [(0, 0), (1, 0)] (by simp [CALL, SCB, SB, nsv]) (by simp [CALL, SCB, SB, nsv]) (by simp) (by simp [CALL, SCB, SB, nsv]) (by simp [okL_bs, okL_room, okL, okV, SB, nsv]) (by intro x _; simp [keepR, bs_length, SB, nsv]) (by simp [CALL, SCB, SB, nsv]) fun x1 h1 => ?_
  simp (config := { maxSteps := 2000000 }) only [CALL, ↓VC, VP, TT, Nat.reduceEqDiff, reduceCtorEq, Nat.reduceAdd, Nat.reduceSub, Nat.reduceLT, Nat.reduceMul, Nat.reducePow, Nat.reduceLeDiff, Int.reduceToNat, Int.reduceLE, Int.reduceLT, Int.reducePow, GOB, GB]
  rw [wrap_i64 (n := min (m : Int) 40 + 1) (by omega) (by omega)]
  refine kCall_M (d_next hc hm h1.1 (min (m : Int) 40 + 1)) (by rfl) [(0, 0), (1, 0)] (by simp [CALL, SCB, SB, nsv]) (by simp [CALL, SCB, SB, nsv]) (by simp) (by simp [CALL, SCB, SB, nsv]) (by simp [okL_bs, okL_room, okL, okV, SB, nsv]) (by intro x _; simp [keepR, bs_length, SB, nsv]) (by simp [CALL, SCB, SB, nsv]) fun x2 h2 => ?_
  simp (config := { maxSteps := 2000000 }) only [CALL, ↓VC, VP, TT, Nat.reduceEqDiff, reduceCtorEq, Nat.reduceAdd, Nat.reduceSub, Nat.reduceLT, Nat.reduceMul, Nat.reducePow, Nat.reduceLeDiff, Int.reduceToNat, Int.reduceLE, Int.reduceLT, Int.reducePow, GOB, GB]
  rw [wrap_i64 (n := (m : Int) + 1) (by omega) (by omega)]
  refine kCall_M (d_next hc hm h2.1 ((m : Int) + 1)) (by rfl) [(0, 0), (1, 0)] (by simp [CALL, SCB, SB, nsv]) (by simp [CALL, SCB, SB, nsv]) (by simp) (by simp [CALL, SCB, SB, nsv]) (by simp [okL_bs, okL_room, okL, okV, SB, nsv]) (by intro x _; simp [keepR, bs_length, SB, nsv]) (by simp [CALL, SCB, SB, nsv]) fun x3 h3 => ?_
  simp (config := { maxSteps := 2000000 }) only [CALL, ↓VC, VP, TT, Nat.reduceEqDiff, reduceCtorEq, Nat.reduceAdd, Nat.reduceSub, Nat.reduceLT, Nat.reduceMul, Nat.reducePow, Nat.reduceLeDiff, Int.reduceToNat, Int.reduceLE, Int.reduceLT, Int.reducePow, GOB, GB]
  refine kCall_M (d_pick hc hm h3.1 [x1.2, x2.2, x3.2] 3 (by simp) (by simp)) (by rfl) [(0, 0), (1, 0), (3, 0)] (by simp [CALL, SCB, SB, nsv]) (by simp [CALL, SCB, SB, nsv]) (by simp) (by simp [CALL, SCB, SB, nsv]) (by simp [okL_bs, okL_room, okL, okV, SB, nsv]) (by intro x _; simp [keepR, bs_length, SB, nsv]) (by simp [CALL, SCB, SB, nsv]) fun x4 h4 => ?_
  simp (config := { maxSteps := 2000000 }) only [CALL, ↓VC, VP, TT, Nat.reduceEqDiff, reduceCtorEq, Nat.reduceAdd, Nat.reduceSub, Nat.reduceLT, Nat.reduceMul, Nat.reducePow, Nat.reduceLeDiff, Int.reduceToNat, Int.reduceLE, Int.reduceLT, Int.reducePow, GOB, GB]
  obtain ⟨hq1, hin⟩ := h4
  have hk : 0 ≤ x4.2 ∧ x4.2 ≤ m + 41 := by
    have a1 := h1.2; have a2 := h2.2; have a3 := h3.2
    unfold inN at a1 a2 a3
    simp only [List.mem_cons, List.not_mem_nil, or_false] at hin
    rcases hin with e | e | e <;> rw [e] <;> omega
  obtain ⟨q1, k⟩ := x4
  obtain ⟨k, rfl⟩ : ∃ j : Nat, k = j := ⟨k.toNat, by simp only at hk; omega⟩
  simp only at hq1 hk hin ⊢
  clear h1 h2 h3 hin hq
  refine kLoop_of (fun s : Nat × (Nat × Nat) × List UInt8 × Nat => ([.p 0 0, .j, .j, .j, .j, .s 2 0 s.2.2.1.length (s.2.2.1.length + s.2.2.2), .c (.int .i64 (s.1)), .j, .j, .j, .j, .j, .j, .j, .j, .j, .j, .j, .j, .j, .j, .j, .j, .j, .j, .j, .j, .j, .j, .j, .j, .j, .j, .j, .j], [⟨true, sv 1 l.length c s.2.1⟩, ⟨false, bs l⟩, ⟨true, bs s.2.2.1 ++ List.replicate s.2.2.2 .j⟩])) (fun s => s.1) (fun s => okS l s.2.1 ∧ s.1 + s.2.2.1.length ≤ m + 41) (k, q1, [], 0) ⟨hq1, by simp only [List.length_nil]; omega⟩ ⟨[0, 1, 2], by simp [-List.reduceReplicate, LES, sv_ren, sv_ok, bs_nil]⟩ ?_
  rintro ⟨k, q, D, r⟩ ⟨hq, hkn⟩
  simp only at hq hkn
  rcases Nat.eq_zero_or_pos k with h0 | h0
  · subst h0
    simp only [↓VC, VP, TT, Nat.reduceEqDiff, reduceCtorEq, Nat.reduceAdd, Nat.reduceSub, Nat.reduceLT, Nat.reduceMul, Nat.reducePow, Nat.reduceLeDiff, Int.reduceToNat, Int.reduceLE, Int.reduceLT, Int.reducePow, (eq_false (by omega) : (((0 : Nat) : Int) > 0) = False), decide_false]
    exact ⟨_, _, [0, 1, 2], ⟨(q, D, r), ⟨hq, by simp only; omega⟩, rfl, rfl⟩, by simp [-List.reduceReplicate, LES, sv_ren, sv_ok]⟩
  · simp only [↓VC, VP, TT, Nat.reduceEqDiff, reduceCtorEq, Nat.reduceAdd, Nat.reduceSub, Nat.reduceLT, Nat.reduceMul, Nat.reducePow, Nat.reduceLeDiff, Int.reduceToNat, Int.reduceLE, Int.reduceLT, Int.reducePow, (eq_true (by omega) : ((k : Int) > 0) = True), decide_true]
    refine kCall_M (z_byte hc hm hq) (by rfl) [(0, 0), (1, 0)] (by simp [CALL, SCB, SB, nsv]) (by simp [CALL, SCB, SB, nsv]) (by simp) (by simp [CALL, SCB, SB, nsv]) (by simp [okL_bs, okL_room, okL, okV, SB, nsv]) (by intro x _; simp [keepR, bs_length, SB, nsv]) (by simp [CALL, SCB, SB, nsv]) fun x5 h5 => ?_
    simp (config := { maxSteps := 2000000 }) only [CALL, ↓VC, VP, TT, Nat.reduceEqDiff, reduceCtorEq, Nat.reduceAdd, Nat.reduceSub, Nat.reduceLT, Nat.reduceMul, Nat.reducePow, Nat.reduceLeDiff, Int.reduceToNat, Int.reduceLE, Int.reduceLT, Int.reducePow, GOB, GB]
    refine ⟨by omega, by omega, .inr (by omega), .inr trivial, fun r1 c1 e1 e2 => ?_⟩
    refine ⟨(k - 1, x5.1, D ++ [x5.2], c1 - (D.length + 1)), ⟨h5, by simp only [List.length_append, List.length_singleton]; omega⟩, by simp only; omega, [0, 1, 4], ?_⟩
    rw [wrap_i64 (by omega) (by omega), show (k : Int) - 1 = ((k - 1 : Nat) : Int) by omega, show [V.c (.int .u8 (x5.2.toNat : Int))] = bs [x5.2] from rfl, bs_append]
    simp only [List.length_append, List.length_singleton, show D.length + 1 + (c1 - (D.length + 1)) = c1 by omega, show c1 - (D.length + 1) = r1 by omega]
    simp [-List.reduceReplicate, LES, sv_ren, sv_ok]
    omega
end
end Go.Proofs.YtahnjhppkgndiaaGreat

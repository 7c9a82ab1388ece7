import Derived.Test.YtahnjhppkgndiaaGreatDraw
import Derived.Test.YtahnjhppkgndiaaGreatEngI
import Derived.Test.YtahnjhppkgndiaaGreatCiphIs
/- Draws of bytes, blocks, fields, boxes. -/
set_option linter.unusedSimpArgs false
set_option linter.unusedVariables false
namespace Go.Proofs.YtahnjhppkgndiaaGreat
open Go Go.Vc
set_option maxRecDepth 10000
set_option maxHeartbeats 4000000
/-- Simplifying facts, bundled. -/
theorem SB : type_of% (
  And.intro @sv_inst <|
  And.intro @sv_ok <|
  And.intro @sv_len <|
  And.intro @sv_take <|
  And.intro @nsv_length <|
  And.intro @instL_nsv <|
  And.intro @okL_nsv <|
  And.intro @instL_room <|
  @okL_room) :=
  And.intro @sv_inst <|
  And.intro @sv_ok <|
  And.intro @sv_len <|
  And.intro @sv_take <|
  And.intro @nsv_length <|
  And.intro @instL_nsv <|
  And.intro @okL_nsv <|
  And.intro @instL_room <|
  @okL_room
/-- Simplifying facts, bundled. -/
theorem GB : type_of% (
  And.intro @sv_inst <|
  And.intro @sv_len <|
  And.intro @instL_nsv <|
  And.intro @nsv_length <|
  @instL_room) :=
  And.intro @sv_inst <|
  And.intro @sv_len <|
  And.intro @instL_nsv <|
  And.intro @nsv_length <|
  @instL_room
theorem nsv_moreZ {A : List Int} {x : Int} {r : Nat} : nsv A ++ [V.c (.int .i64 x)] ++ List.replicate r V.j = nsv (A ++ [x]) ++ List.replicate r V.j := by
  simp [nsv]
theorem take_nsvZ {A : List Int} {n : Nat} {X : List V} (h : n = A.length) : List.take n (nsv A ++ X) = nsv A := by
  rw [h, ← nsv_length A, List.take_left' rfl]
theorem vGet_nsvR {L : List Int} {X : List V} {i : Nat} {k : V → Prop} (h : i < L.length) : vGet (nsv L ++ X) i k = k (.c (.int .i64 (L.getD i 0))) := by
  rw [vGet_appL (by rw [nsv_length]; exact h), vGet_nsvD h]
theorem mem_getD {L : List Int} {i : Nat} (h : i < L.length) : L.getD i 0 ∈ L := by
  rw [List.getD_eq_getElem?_getD, List.getElem?_eq_getElem h]; exact List.getElem_mem _
theorem field_bd {z : Int} (h : fieldB z = true) : 256 ≤ z ∧ z < 512 := by
  unfold fieldB at h
  rw [Bool.and_eq_true, decide_eq_true_eq] at h
  omega
theorem f285 : fieldB 285 = true := by decide +kernel
section
variable {l : List UInt8} {c : Nat} {q : Nat × Nat}
theorem d_fields : LC Tryz.prog 217 [] [] (Ret [] (fun x : List Int × Nat => x.1 ≠ [] ∧ x.1.length ≤ 256 ∧ ∀ z ∈ x.1, fieldB z = true) fun x => (.s 0 0 x.1.length (x.1.length + x.2), [⟨true, nsv x.1 ++ List.replicate x.2 .j⟩])) := by
  refine LC_of (X := XX (fun _ => .nil) (fun _ => []) [15, 71, 72, 73, 79, 80, 87, 90, 91, 93, 99, 119, 137, 176, 177, 203, 204, 212, 219] 0) envOK Tryz.func217 (by kernel_rfl) (by kernel_rfl) rfl (Nat.le_of_ble_eq_true (by kernel_rfl)) ?_
  simp only [kFun, Tryz.f217, List.length_nil, List.length_cons, Nat.sub_zero, Nat.reduceSub, Nat.reduceAdd, List.nil_append, List.cons_append, List.replicate_succ, List.replicate_zero]
  simp only [XX, ↓VC, VP, TT, Nat.reduceEqDiff, reduceCtorEq, Nat.reduceAdd, Nat.reduceSub, Nat.reduceLT, Nat.reduceMul, Nat.reducePow, Nat.reduceLeDiff, Int.reduceToNat, Int.reduceLE, Int.reduceLT, Int.reducePow]
  refine kLoop_of (fun s : Nat × List Int × Nat => ([.j, .s 0 0 s.2.1.length (s.2.1.length + s.2.2), .c (.int .i64 (s.1)), .j, .j, .j, .j, .j, .j, .j, .j, .j, .j, .j, .j], [⟨true, nsv s.2.1 ++ List.replicate s.2.2 .j⟩])) (fun s => 512 - s.1) (fun s => 256 ≤ s.1 ∧ s.1 ≤ 512 ∧ s.2.1.length + 256 ≤ s.1 ∧ (∀ z ∈ s.2.1, fieldB z = true) ∧ (285 < s.1 → s.2.1 ≠ [])) (256, [], 0) ⟨by simp, by simp, by simp, by simp, by simp⟩ ⟨[0], by simp [-List.reduceReplicate, LES, nsv]⟩ ?_
  rintro ⟨m, L, r⟩ ⟨h1, h2, h3, h4, h5⟩
  simp only at h1 h2 h3 h4 h5
  rcases Nat.lt_or_ge m 512 with h | h
  · simp only [↓VC, VP, TT, Nat.reduceEqDiff, reduceCtorEq, Nat.reduceAdd, Nat.reduceSub, Nat.reduceLT, Nat.reduceMul, Nat.reducePow, Nat.reduceLeDiff, Int.reduceToNat, Int.reduceLE, Int.reduceLT, Int.reducePow, (eq_true (by omega) : ((m : Int) < 512) = True), decide_true]
    refine kCall_val (c_spec_l01Field m) (by rfl) [] (by simp [CALL, SCB, SB, nsv]) (by simp [CALL, SCB, SB, nsv]) (by simp [CALL, SCB, SB, nsv]) (by simp [okL_bs, okL_room, okL, okV, SB, nsv]) ?_
    simp (config := { maxSteps := 2000000 }) only [CALL, ↓VC, VP, TT, Nat.reduceEqDiff, reduceCtorEq, Nat.reduceAdd, Nat.reduceSub, Nat.reduceLT, Nat.reduceMul, Nat.reducePow, Nat.reduceLeDiff, Int.reduceToNat, Int.reduceLE, Int.reduceLT, Int.reducePow, GOB, GB]
    refine ⟨fun ht => ?_, fun hf => ?_⟩
    · refine ⟨by omega, by omega, .inr (by omega), .inr trivial, fun r1 c1 e1 e2 => ⟨(m + 1, L ++ [(m : Int)], r1), ⟨by simp only; omega, by simp only; omega, by simp only [List.length_append, List.length_singleton]; omega, ?_, by simp⟩, by simp only; omega, [2], ?_⟩⟩
      · intro z hz
        rw [List.mem_append, List.mem_singleton] at hz
        rcases hz with hz | rfl
        · exact h4 z hz
        · exact ht
      · rw [wrap_i64 (by omega) (by omega), take_nsvZ rfl, nsv_moreZ, e1]
        simp [-List.reduceReplicate, LES]
    · refine ⟨(m + 1, L, r), ⟨by simp only; omega, by simp only; omega, by simp only; omega, h4, fun h6 => ?_⟩, by simp only; omega, [0], ?_⟩
      · rcases Nat.lt_or_ge 285 m with h7 | h7
        · exact h5 h7
        · obtain rfl : m = 285 := by simp only at h6; omega
          rw [show ((285 : Nat) : Int) = 285 from rfl, f285] at hf; cases hf
      · rw [wrap_i64 (by omega) (by omega)]
        simp [-List.reduceReplicate, LES]
  · obtain rfl : m = 512 := by omega
    simp only [↓VC, VP, TT, Nat.reduceEqDiff, reduceCtorEq, Nat.reduceAdd, Nat.reduceSub, Nat.reduceLT, Nat.reduceMul, Nat.reducePow, Nat.reduceLeDiff, Int.reduceToNat, Int.reduceLE, Int.reduceLT, Int.reducePow, (eq_false (by omega) : (((512 : Nat) : Int) < 512) = False), decide_false]
    exact ⟨_, _, [0], ⟨(L, r), ⟨h5 (by omega), by simp only; omega, h4⟩, rfl, rfl⟩, by simp [-List.reduceReplicate, LES]⟩
theorem d_field (hc : l.length ≤ c) (hm : l.length ≤ 4096) (hq : okS l q) : LC Tryz.prog 203 [.p 0 0] [⟨true, sv 1 l.length c q⟩, ⟨false, bs l⟩] (RetM (fun x : (Nat × Nat) × Nat => okS l x.1 ∧ fieldB (x.2 : Int) = true) fun x => (.c (.int .i64 (x.2)), [⟨true, sv 1 l.length c x.1⟩, ⟨false, bs l⟩], [])) := by
  refine LC_of (X := XX (fun | 2 => .one 0 (.one 1 (.one 2 (.one 3 (.one 4 (.one 8 (.one 9 (.one 10 (.one 11 (.one 5 (.one 6 (.alt (.one 7 (.one 12 (.one 13 (.one 14 (.one 15 (.one 16 (.one 17 .nil))))))) (.one 12 (.one 7 (.one 13 (.one 14 (.one 15 (.one 16 (.one 17 .nil)))))))))))))))))) | _ => .nil) (fun _ => []) [15, 71, 72, 73, 79, 80, 87, 90, 91, 93, 99, 119, 137, 176, 177, 203, 204, 212, 219] 2) envOK Tryz.func203 (by kernel_rfl) (by kernel_rfl) rfl (Nat.le_of_ble_eq_true (by kernel_rfl)) ?_
  simp only [kFun, Tryz.f203, List.length_nil, List.length_cons, Nat.sub_zero, Nat.reduceSub, Nat.reduceAdd, List.nil_append, List.cons_append, List.replicate_succ, List.replicate_zero]
  simp only [XX, ↓VC, VP, TT, Nat.reduceEqDiff, reduceCtorEq, Nat.reduceAdd, Nat.reduceSub, Nat.reduceLT, Nat.reduceMul, Nat.reducePow, Nat.reduceLeDiff, Int.reduceToNat, Int.reduceLE, Int.reduceLT, Int.reducePow]
  refine kCall_Ret (d_fields) (by rfl) [] (by simp [CALL, SCB, SB, nsv]) (by simp [CALL, SCB, SB, nsv]) (by simp [CALL, SCB, SB, nsv]) (by simp [okL_bs, okL_room, okL, okV, SB, nsv]) (by simp [CALL, SCB, SB, nsv]) fun y hy => ?_
  simp (config := { maxSteps := 2000000 }) only [CALL, ↓VC, VP, TT, Nat.reduceEqDiff, reduceCtorEq, Nat.reduceAdd, Nat.reduceSub, Nat.reduceLT, Nat.reduceMul, Nat.reducePow, Nat.reduceLeDiff, Int.reduceToNat, Int.reduceLE, Int.reduceLT, Int.reducePow, GOB, GB]
  obtain ⟨L, r⟩ := y
  obtain ⟨hL0, hL1, hL2⟩ := hy
  have hLp : 0 < L.length := List.length_pos_iff.2 hL0
  simp only at hL1 hL2 ⊢
  refine kCall_M (d_next hc hm hq (L.length : Int)) (by rfl) [(0, 0), (1, 0)] (by simp [CALL, SCB, SB, nsv]) (by simp [CALL, SCB, SB, nsv]) (by simp) (by simp [CALL, SCB, SB, nsv]) (by simp [okL_bs, okL_room, okL, okV, SB, nsv]) (by intro x _; simp [keepR, bs_length, SB, nsv]) (by simp [CALL, SCB, SB, nsv]) fun x1 h1 => ?_
  simp (config := { maxSteps := 2000000 }) only [CALL, ↓VC, VP, TT, Nat.reduceEqDiff, reduceCtorEq, Nat.reduceAdd, Nat.reduceSub, Nat.reduceLT, Nat.reduceMul, Nat.reducePow, Nat.reduceLeDiff, Int.reduceToNat, Int.reduceLE, Int.reduceLT, Int.reducePow, GOB, GB]
  obtain ⟨q1, z1⟩ := x1
  obtain ⟨hq1, h1a, h1b, _⟩ := h1
  simp only at hq1 h1a h1b ⊢
  have h1b := h1b (by omega)
  obtain ⟨j1, rfl⟩ : ∃ j : Nat, z1 = j := ⟨z1.toNat, by omega⟩
  have hj1 : j1 < L.length := by omega
  simp only [Int.toNat_natCast, ↓vGet_nsvR hj1]
  refine ⟨by omega, by omega, ?_⟩
  constructor
  all_goals
    refine kCall_M (d_next hc hm hq1 (L.length : Int)) (by rfl) [(0, 0), (1, 0)] (by simp [CALL, SCB, SB, nsv]) (by simp [CALL, SCB, SB, nsv]) (by simp) (by simp [CALL, SCB, SB, nsv]) (by simp [okL_bs, okL_room, okL, okV, SB, nsv]) (by intro x _; simp [keepR, bs_length, SB, nsv]) (by simp [CALL, SCB, SB, nsv]) fun x2 h2 => ?_
    simp (config := { maxSteps := 2000000 }) only [CALL, ↓VC, VP, TT, Nat.reduceEqDiff, reduceCtorEq, Nat.reduceAdd, Nat.reduceSub, Nat.reduceLT, Nat.reduceMul, Nat.reducePow, Nat.reduceLeDiff, Int.reduceToNat, Int.reduceLE, Int.reduceLT, Int.reducePow, GOB, GB, Int.toNat_natCast, ↓vGet_nsvR hj1]
    obtain ⟨q2, z2⟩ := x2
    obtain ⟨hq2, h2a, h2b, _⟩ := h2
    simp only at hq2 h2a h2b ⊢
    have h2b := h2b (by omega)
    obtain ⟨j2, rfl⟩ : ∃ j : Nat, z2 = j := ⟨z2.toNat, by omega⟩
    have hj2 : j2 < L.length := by omega
    simp only [Int.toNat_natCast, ↓vGet_nsvR hj2]
    refine ⟨by omega, by omega, ?_⟩
    refine kCall_M (d_pick hc hm hq2 [285, L.getD j1 0, L.getD j2 0] 3 (by simp) (by simp)) (by rfl) [(0, 0), (1, 0), (3, 0)] (by simp [CALL, SCB, SB, nsv, splice]) (by simp [CALL, SCB, SB, nsv, splice]) (by simp) (by simp [CALL, SCB, SB, nsv, splice]) (by simp [okL_bs, okL_room, okL, okV, SB, nsv, splice]) (by intro x _; simp [keepR, bs_length, SB, nsv, splice]) (by simp [CALL, SCB, SB, nsv, splice]) fun x3 h3 => ?_
    simp (config := { maxSteps := 2000000 }) only [CALL, ↓VC, VP, TT, Nat.reduceEqDiff, reduceCtorEq, Nat.reduceAdd, Nat.reduceSub, Nat.reduceLT, Nat.reduceMul, Nat.reducePow, Nat.reduceLeDiff, Int.reduceToNat, Int.reduceLE, Int.reduceLT, Int.reducePow, GOB, GB]
    obtain ⟨q3, z3⟩ := x3
    obtain ⟨hq3, h3⟩ := h3
    simp only at hq3 h3 ⊢
    have hz : fieldB z3 = true := by
      simp only [List.mem_cons, List.not_mem_nil, or_false] at h3
      rcases h3 with rfl | rfl | rfl
      · exact f285
      · exact hL2 _ (mem_getD hj1)
      · exact hL2 _ (mem_getD hj2)
    have hzb := field_bd hz
    obtain ⟨k, rfl⟩ : ∃ k : Nat, z3 = k := ⟨z3.toNat, by omega⟩
    refine ⟨_, _, [0, 1], ⟨(q3, k), ⟨hq3, hz⟩, rfl, rfl⟩, ?_⟩
    simp [-List.reduceReplicate, LES, sv_ren, sv_ok]
theorem z_byte (hc : l.length ≤ c) (hm : l.length ≤ 4096) (hq : okS l q) : LC Tryz.prog 99 [.p 0 0] [⟨true, sv 1 l.length c q⟩, ⟨false, bs l⟩] (RetM (fun x : (Nat × Nat) × UInt8 => okS l x.1) fun x => (.c (.int .u8 (x.2.toNat : Int)), [⟨true, sv 1 l.length c x.1⟩, ⟨false, bs l⟩], [])) := by
  refine LC_of (X := XX (fun _ => .nil) (fun _ => []) [15, 71, 72, 73, 79, 80, 87, 90, 91, 93, 99, 119, 137, 176, 177, 203, 204, 212, 219] 2) envOK Tryz.func99 (by kernel_rfl) (by kernel_rfl) rfl (Nat.le_of_ble_eq_true (by kernel_rfl)) ?_
  simp only [kFun, Tryz.f99, List.length_nil, List.length_cons, Nat.sub_zero, Nat.reduceSub, Nat.reduceAdd, List.nil_append, List.cons_append, List.replicate_succ, List.replicate_zero]
  simp only [XX, ↓VC, VP, TT, Nat.reduceEqDiff, reduceCtorEq, Nat.reduceAdd, Nat.reduceSub, Nat.reduceLT, Nat.reduceMul, Nat.reducePow, Nat.reduceLeDiff, Int.reduceToNat, Int.reduceLE, Int.reduceLT, Int.reducePow]
  refine kCall_M (d_next hc hm hq 4) (by rfl) [(0, 0), (1, 0)] (by simp [CALL, SCB, SB, nsv]) (by simp [CALL, SCB, SB, nsv]) (by simp) (by simp [CALL, SCB, SB, nsv]) (by simp [okL_bs, okL_room, okL, okV, SB, nsv]) (by intro x _; simp [keepR, bs_length, SB, nsv]) (by simp [CALL, SCB, SB, nsv]) fun x1 h1 => ?_
  simp (config := { maxSteps := 2000000 }) only [CALL, ↓VC, VP, TT, Nat.reduceEqDiff, reduceCtorEq, Nat.reduceAdd, Nat.reduceSub, Nat.reduceLT, Nat.reduceMul, Nat.reducePow, Nat.reduceLeDiff, Int.reduceToNat, Int.reduceLE, Int.reduceLT, Int.reducePow, GOB, GB]
  refine kCall_M (d_next hc hm h1.1 256) (by rfl) [(0, 0), (1, 0)] (by simp [CALL, SCB, SB, nsv]) (by simp [CALL, SCB, SB, nsv]) (by simp) (by simp [CALL, SCB, SB, nsv]) (by simp [okL_bs, okL_room, okL, okV, SB, nsv]) (by intro x _; simp [keepR, bs_length, SB, nsv]) (by simp [CALL, SCB, SB, nsv]) fun x2 h2 => ?_
  simp (config := { maxSteps := 2000000 }) only [CALL, ↓VC, VP, TT, Nat.reduceEqDiff, reduceCtorEq, Nat.reduceAdd, Nat.reduceSub, Nat.reduceLT, Nat.reduceMul, Nat.reducePow, Nat.reduceLeDiff, Int.reduceToNat, Int.reduceLE, Int.reduceLT, Int.reducePow, GOB, GB]
  refine kCall_M (d_next hc hm h2.1 256) (by rfl) [(0, 0), (1, 0)] (by simp [CALL, SCB, SB, nsv]) (by simp [CALL, SCB, SB, nsv]) (by simp) (by simp [CALL, SCB, SB, nsv]) (by simp [okL_bs, okL_room, okL, okV, SB, nsv]) (by intro x _; simp [keepR, bs_length, SB, nsv]) (by simp [CALL, SCB, SB, nsv]) fun x3 h3 => ?_
  simp (config := { maxSteps := 2000000 }) only [CALL, ↓VC, VP, TT, Nat.reduceEqDiff, reduceCtorEq, Nat.reduceAdd, Nat.reduceSub, Nat.reduceLT, Nat.reduceMul, Nat.reducePow, Nat.reduceLeDiff, Int.reduceToNat, Int.reduceLE, Int.reduceLT, Int.reducePow, GOB, GB]
  refine kCall_M (d_pick hc hm h3.1 [x1.2, x2.2, x3.2, 255] 4 (by simp) (by simp)) (by rfl) [(0, 0), (1, 0), (2, 0)] (by simp [CALL, SCB, SB, nsv]) (by simp [CALL, SCB, SB, nsv]) (by simp) (by simp [CALL, SCB, SB, nsv]) (by simp [okL_bs, okL_room, okL, okV, SB, nsv]) (by intro x _; simp [keepR, bs_length, SB, nsv]) (by simp [CALL, SCB, SB, nsv]) fun x4 h4 => ?_
  simp (config := { maxSteps := 2000000 }) only [CALL, ↓VC, VP, TT, Nat.reduceEqDiff, reduceCtorEq, Nat.reduceAdd, Nat.reduceSub, Nat.reduceLT, Nat.reduceMul, Nat.reducePow, Nat.reduceLeDiff, Int.reduceToNat, Int.reduceLE, Int.reduceLT, Int.reducePow, GOB, GB]
  refine ⟨_, _, [0, 1], ⟨(x4.1, UInt8.ofInt x4.2), h4.1, rfl, rfl⟩, ?_⟩
  rw [wrap_u8]
  simp [-List.reduceReplicate, LES, sv_ren, sv_ok]
theorem z_bytes (hc : l.length ≤ c) (hm : l.length ≤ 4096) (hq : okS l q) (m : Nat) (hmm : m ≤ 100000) : LC Tryz.prog 91 [.p 0 0, .c (.int .i64 (m))] [⟨true, sv 1 l.length c q⟩, ⟨false, bs l⟩] (RetM (fun x : (Nat × Nat) × List UInt8 × Nat => okS l x.1 ∧ x.2.1.length ≤ m + 41) fun x => (.s 2 0 x.2.1.length (x.2.1.length + x.2.2), [⟨true, sv 1 l.length c x.1⟩, ⟨false, bs l⟩], [⟨true, bs x.2.1 ++ List.replicate x.2.2 .j⟩])) := by
  refine LC_of (X := XX (fun _ => .nil) (fun _ => []) [15, 71, 72, 73, 79, 80, 87, 90, 91, 93, 99, 119, 137, 176, 177, 203, 204, 212, 219] 2) envOK Tryz.func91 (by kernel_rfl) (by kernel_rfl) rfl (Nat.le_of_ble_eq_true (by kernel_rfl)) ?_
  simp only [kFun, Tryz.f91, List.length_nil, List.length_cons, Nat.sub_zero, Nat.reduceSub, Nat.reduceAdd, List.nil_append, List.cons_append, List.replicate_succ, List.replicate_zero]
  simp only [XX, ↓VC, VP, TT, Nat.reduceEqDiff, reduceCtorEq, Nat.reduceAdd, Nat.reduceSub, Nat.reduceLT, Nat.reduceMul, Nat.reducePow, Nat.reduceLeDiff, Int.reduceToNat, Int.reduceLE, Int.reduceLT, Int.reducePow]
  rw [wrap_i64 (n := min (m : Int) 5 + 1) (by omega) (by omega)]
  refine kCall_M (d_next hc hm hq (min (m : Int) 5 + 1)) (by rfl) [(0, 0), (1, 0)] (by simp [CALL, SCB, SB, nsv]) (by simp [CALL, SCB, SB, nsv]) (by simp) (by simp [CALL, SCB, SB, nsv]) (by simp [okL_bs, okL_room, okL, okV, SB, nsv]) (by intro x _; simp [keepR, bs_length, SB, nsv]) (by simp [CALL, SCB, SB, nsv]) fun x1 h1 => ?_
  simp (config := { maxSteps := 2000000 }) only [CALL, ↓VC, VP, TT, Nat.reduceEqDiff, reduceCtorEq, Nat.reduceAdd, Nat.reduceSub, Nat.reduceLT, Nat.reduceMul, Nat.reducePow, Nat.reduceLeDiff, Int.reduceToNat, Int.reduceLE, Int.reduceLT, Int.reducePow, GOB, GB]
  rw [wrap_i64 (n := min (m : Int) 40 + 1) (by omega) (by omega)]
  refine kCall_M (d_next hc hm h1.1 (min (m : Int) 40 + 1)) (by rfl) [(0, 0), (1, 0)] (by simp [CALL, SCB, SB, nsv]) (by simp [CALL, SCB, SB, nsv]) (by simp) (by simp [CALL, SCB, SB, nsv]) (by simp [okL_bs, okL_room, okL, okV, SB, nsv]) (by intro x _; simp [keepR, bs_length, SB, nsv]) (by simp [CALL, SCB, SB, nsv]) fun x2 h2 => ?_
  simp (config := { maxSteps := 2000000 }) only [CALL, ↓VC, VP, TT, Nat.reduceEqDiff, reduceCtorEq, Nat.reduceAdd, Nat.reduceSub, Nat.reduceLT, Nat.reduceMul, Nat.reducePow, Nat.reduceLeDiff, Int.reduceToNat, Int.reduceLE, Int.reduceLT, Int.reducePow, GOB, GB]
  rw [wrap_i64 (n := (m : Int) + 1) (by omega) (by omega)]
  refine kCall_M (d_next hc hm h2.1 ((m : Int) + 1)) (by rfl) [(0, 0), (1, 0)] (by simp [CALL, SCB, SB, nsv]) (by simp [CALL, SCB, SB, nsv]) (by simp) (by simp [CALL, SCB, SB, nsv]) (by simp [okL_bs, okL_room, okL, okV, SB, nsv]) (by intro x _; simp [keepR, bs_length, SB, nsv]) (by simp [CALL, SCB, SB, nsv]) fun x3 h3 => ?_
  simp (config := { maxSteps := 2000000 }) only [CALL, ↓VC, VP, TT, Nat.reduceEqDiff, reduceCtorEq, Nat.reduceAdd, Nat.reduceSub, Nat.reduceLT, Nat.reduceMul, Nat.reducePow, Nat.reduceLeDiff, Int.reduceToNat, Int.reduceLE, Int.reduceLT, Int.reducePow, GOB, GB]
  refine kCall_M (d_pick hc hm h3.1 [x1.2, x2.2, x3.2] 3 (by simp) (by simp)) (by rfl) [(0, 0), (1, 0), (3, 0)] (by simp [CALL, SCB, SB, nsv]) (by simp [CALL, SCB, SB, nsv]) (by simp) (by simp [CALL, SCB, SB, nsv]) (by simp [okL_bs, okL_room, okL, okV, SB, nsv]) (by intro x _; simp [keepR, bs_length, SB, nsv]) (by simp [CALL, SCB, SB, nsv]) fun x4 h4 => ?_
  simp (config := { maxSteps := 2000000 }) only [CALL, ↓VC, VP, TT, Nat.reduceEqDiff, reduceCtorEq, Nat.reduceAdd, Nat.reduceSub, Nat.reduceLT, Nat.reduceMul, Nat.reducePow, Nat.reduceLeDiff, Int.reduceToNat, Int.reduceLE, Int.reduceLT, Int.reducePow, GOB, GB]
  obtain ⟨hq1, hin⟩ := h4
  have hk : 0 ≤ x4.2 ∧ x4.2 ≤ m + 41 := by
    have a1 := h1.2; have a2 := h2.2; have a3 := h3.2
    unfold inN at a1 a2 a3
    simp only [List.mem_cons, List.not_mem_nil, or_false] at hin
    rcases hin with e | e | e <;> rw [e] <;> omega
  obtain ⟨q1, k⟩ := x4
  obtain ⟨k, rfl⟩ : ∃ j : Nat, k = j := ⟨k.toNat, by simp only at hk; omega⟩
  simp only at hq1 hk hin ⊢
  clear h1 h2 h3 hin hq
  refine kLoop_of (fun s : Nat × (Nat × Nat) × List UInt8 × Nat => ([.p 0 0, .j, .j, .j, .j, .s 2 0 s.2.2.1.length (s.2.2.1.length + s.2.2.2), .c (.int .i64 (s.1)), .j, .j, .j, .j, .j, .j, .j, .j, .j, .j, .j, .j, .j, .j, .j, .j, .j, .j, .j, .j, .j, .j, .j, .j, .j, .j, .j, .j], [⟨true, sv 1 l.length c s.2.1⟩, ⟨false, bs l⟩, ⟨true, bs s.2.2.1 ++ List.replicate s.2.2.2 .j⟩])) (fun s => s.1) (fun s => okS l s.2.1 ∧ s.1 + s.2.2.1.length ≤ m + 41) (k, q1, [], 0) ⟨hq1, by simp only [List.length_nil]; omega⟩ ⟨[0, 1, 2], by simp [-List.reduceReplicate, LES, sv_ren, sv_ok, bs_nil]⟩ ?_
  rintro ⟨k, q, D, r⟩ ⟨hq, hkn⟩
  simp only at hq hkn
  rcases Nat.eq_zero_or_pos k with h0 | h0
  · subst h0
    simp only [↓VC, VP, TT, Nat.reduceEqDiff, reduceCtorEq, Nat.reduceAdd, Nat.reduceSub, Nat.reduceLT, Nat.reduceMul, Nat.reducePow, Nat.reduceLeDiff, Int.reduceToNat, Int.reduceLE, Int.reduceLT, Int.reducePow, (eq_false (by omega) : (((0 : Nat) : Int) > 0) = False), decide_false]
    exact ⟨_, _, [0, 1, 2], ⟨(q, D, r), ⟨hq, by simp only; omega⟩, rfl, rfl⟩, by simp [-List.reduceReplicate, LES, sv_ren, sv_ok]⟩
  · simp only [↓VC, VP, TT, Nat.reduceEqDiff, reduceCtorEq, Nat.reduceAdd, Nat.reduceSub, Nat.reduceLT, Nat.reduceMul, Nat.reducePow, Nat.reduceLeDiff, Int.reduceToNat, Int.reduceLE, Int.reduceLT, Int.reducePow, (eq_true (by omega) : ((k : Int) > 0) = True), decide_true]
    refine kCall_M (z_byte hc hm hq) (by rfl) [(0, 0), (1, 0)] (by simp [CALL, SCB, SB, nsv]) (by simp [CALL, SCB, SB, nsv]) (by simp) (by simp [CALL, SCB, SB, nsv]) (by simp [okL_bs, okL_room, okL, okV, SB, nsv]) (by intro x _; simp [keepR, bs_length, SB, nsv]) (by simp [CALL, SCB, SB, nsv]) fun x5 h5 => ?_
    simp (config := { maxSteps := 2000000 }) only [CALL, ↓VC, VP, TT, Nat.reduceEqDiff, reduceCtorEq, Nat.reduceAdd, Nat.reduceSub, Nat.reduceLT, Nat.reduceMul, Nat.reducePow, Nat.reduceLeDiff, Int.reduceToNat, Int.reduceLE, Int.reduceLT, Int.reducePow, GOB, GB]
    refine ⟨by omega, by omega, .inr (by omega), .inr trivial, fun r1 c1 e1 e2 => ?_⟩
    refine ⟨(k - 1, x5.1, D ++ [x5.2], c1 - (D.length + 1)), ⟨h5, by simp only [List.length_append, List.length_singleton]; omega⟩, by simp only; omega, [0, 1, 4], ?_⟩
    rw [wrap_i64 (by omega) (by omega), show (k : Int) - 1 = ((k - 1 : Nat) : Int) by omega, show [V.c (.int .u8 (x5.2.toNat : Int))] = bs [x5.2] from rfl, bs_append]
    simp only [List.length_append, List.length_singleton, show D.length + 1 + (c1 - (D.length + 1)) = c1 by omega, show c1 - (D.length + 1) = r1 by omega]
    simp [-List.reduceReplicate, LES, sv_ren, sv_ok]
    omega
end
end Go.Proofs.YtahnjhppkgndiaaGreat
/- Draws of boxes. -/
set_option linter.unusedSimpArgs false
set_option linter.unusedVariables false
namespace Go.Proofs.YtahnjhppkgndiaaGreat
open Go Go.Vc
set_option maxRecDepth 10000
set_option maxHeartbeats 40000000
theorem halfN (j : Nat) : (j : Int).tdiv 2 = ((j / 2 : Nat) : Int) := by rw [Int.tdiv_eq_ediv_of_nonneg (by omega)]; omega
theorem rot014 : ∀ i, i < 3 → ∃ k : Nat, ([0, 1, 4] : List Int).getD i 0 = k ∧ k < 8 := by
  intro i hi
  rcases (by omega : i = 0 ∨ i = 1 ∨ i = 2) with rfl | rfl | rfl
  · exact ⟨0, rfl, by omega⟩
  · exact ⟨1, rfl, by omega⟩
  · exact ⟨4, rfl, by omega⟩
theorem rot025 : ∀ i, i < 3 → ∃ k : Nat, ([0, 2, 5] : List Int).getD i 0 = k ∧ k < 8 := by
  intro i hi
  rcases (by omega : i = 0 ∨ i = 1 ∨ i = 2) with rfl | rfl | rfl
  · exact ⟨0, rfl, by omega⟩
  · exact ⟨2, rfl, by omega⟩
  · exact ⟨5, rfl, by omega⟩
theorem thenL_len (b c : List UInt8) : (thenL b c).length = 256 := tab_len _ _
/-- A power, whatever it is. -/
theorem g_power (m : Nat) (k0 : Int) (hm : 256 ≤ m) (hm' : m < 512) (hk0 : 0 ≤ k0) (hk1 : k0 ≤ 254) : LC Tryz.prog 195 [.c (.int .i64 (m)), .c (.int .i64 (k0))] [] (Ret [] (fun b : List UInt8 => b.length = 256) fun b => (.a (bs b), [])) := by
  obtain ⟨k, rfl⟩ : ∃ j : Nat, k0 = j := ⟨k0.toNat, by omega⟩
  have hk : k ≤ 254 := by omega
  refine LC_of (X := XX (fun _ => .nil) (fun _ => []) [15, 71, 72, 73, 79, 80, 87, 90, 91, 93, 99, 119, 137, 176, 177, 203, 204, 212, 219] 0) envOK Tryz.func195 (by kernel_rfl) (by kernel_rfl) rfl (Nat.le_of_ble_eq_true (by kernel_rfl)) ?_
  simp only [kFun, Tryz.f195, List.length_nil, List.length_cons, Nat.sub_zero, Nat.reduceSub, Nat.reduceAdd, List.nil_append, List.cons_append, List.replicate_succ, List.replicate_zero]
  simp only [XX, ↓VC, VP, TT, Nat.reduceEqDiff, reduceCtorEq, Nat.reduceAdd, Nat.reduceSub, Nat.reduceLT, Nat.reduceMul, Nat.reducePow, Nat.reduceLeDiff, Int.reduceToNat, Int.reduceLE, Int.reduceLT, Int.reducePow]
  refine kLoop_of (fun s : Nat × List UInt8 => ([.c (.int .i64 (m)), .c (.int .i64 (k)), .j, .j, .p 0 0, .p 1 0, .c (.int .i64 (s.1)), .j, .j, .j, .j, .j, .j, .j, .j, .j, .j, .j, .j, .j, .j, .j, .j, .j, .j, .j, .j, .j, .j, .j, .j, .j, .j, .j, .j, .j, .j], [⟨true, bs (List.replicate 256 0)⟩, ⟨true, bs s.2⟩])) (fun s => 256 - s.1) (fun s => s.1 ≤ 256 ∧ s.2.length = 256) (0, List.replicate 256 0) ⟨by simp, by simp⟩ ⟨[0, 1], by simp [-List.reduceReplicate, LES]⟩ ?_
  rintro ⟨x, b⟩ ⟨hx, hb⟩
  simp only at hx hb
  rcases Nat.lt_or_ge x 256 with h | h
  · simp only [↓VC, VP, TT, Nat.reduceEqDiff, reduceCtorEq, Nat.reduceAdd, Nat.reduceSub, Nat.reduceLT, Nat.reduceMul, Nat.reducePow, Nat.reduceLeDiff, Int.reduceToNat, Int.reduceLE, Int.reduceLT, Int.reducePow, h, (eq_true (by omega) : ((x : Int) < 256) = True), (eq_true (by omega) : ((x : Int) < ((256 : Nat) : Int)) = True), wrap_i64 (n := (x : Int) + 1) (by omega) (by omega), decide_true, byte_conv]
    refine kLoop_of (fun s : Nat × UInt8 × UInt8 => ([.c (.int .i64 (m)), .c (.int .i64 (k)), .j, .j, .p 0 0, .p 1 0, .c (.int .i64 (x)), .c (.int .u8 ((s.2.1).toNat : Int)), .c (.int .u8 ((s.2.2).toNat : Int)), .c (.int .i64 (s.1)), .j, .j, .j, .j, .j, .j, .j, .j, .j, .j, .j, .j, .j, .j, .j, .j, .j, .j, .j, .j, .j, .j, .j, .j, .j, .j, .j], [⟨true, bs (List.replicate 256 0)⟩, ⟨true, bs b⟩])) (fun s => s.1) (fun s => s.1 ≤ 254) (k, 1, UInt8.ofInt (x : Int)) hk ⟨[0, 1], by simp [-List.reduceReplicate, LES]⟩ ?_
    rintro ⟨j, u, v⟩ hj
    simp only at hj
    have e3 : IntKind.i64.wrap ((j / 2 : Nat) : Int) = ((j / 2 : Nat) : Int) := wrap_i64 (by omega) (by omega)
    simp only [↓VC, VP, TT, Nat.reduceEqDiff, reduceCtorEq, Nat.reduceAdd, Nat.reduceSub, Nat.reduceLT, Nat.reduceMul, Nat.reducePow, Nat.reduceLeDiff, Int.reduceToNat, Int.reduceLE, Int.reduceLT, Int.reducePow, halfN, e3]
    refine ⟨fun h1 => ⟨by omega, fun ht => ?_, fun ht => ?_⟩, fun h1 => ?_⟩
    · refine kCall_val (c_spec_l01Times m u v hm hm') (by rfl) [] (by simp [CALL]) (by simp [CALL, cellsAt]) (by simp [CALL]) (by simp [okL_bs]) ?_
      simp only [CALL, ↓VC, VP, TT, Nat.reduceEqDiff, reduceCtorEq, Nat.reduceAdd, Nat.reduceSub, Nat.reduceLT, Nat.reduceMul, Nat.reducePow, Nat.reduceLeDiff, Int.reduceToNat, Int.reduceLE, Int.reduceLT, Int.reducePow]
      refine kCall_val (c_spec_l01Times m v v hm hm') (by rfl) [] (by simp [CALL]) (by simp [CALL, cellsAt]) (by simp [CALL]) (by simp [okL_bs]) ?_
      simp only [CALL, ↓VC, VP, TT, Nat.reduceEqDiff, reduceCtorEq, Nat.reduceAdd, Nat.reduceSub, Nat.reduceLT, Nat.reduceMul, Nat.reducePow, Nat.reduceLeDiff, Int.reduceToNat, Int.reduceLE, Int.reduceLT, Int.reducePow, halfN, e3]
      exact ⟨by omega, (j / 2, tmul m u v, tmul m v v), by simp only; omega, by simp only; omega, [0, 1], by simp [-List.reduceReplicate, LES]⟩
    · refine kCall_val (c_spec_l01Times m v v hm hm') (by rfl) [] (by simp [CALL]) (by simp [CALL, cellsAt]) (by simp [CALL]) (by simp [okL_bs]) ?_
      simp only [CALL, ↓VC, VP, TT, Nat.reduceEqDiff, reduceCtorEq, Nat.reduceAdd, Nat.reduceSub, Nat.reduceLT, Nat.reduceMul, Nat.reducePow, Nat.reduceLeDiff, Int.reduceToNat, Int.reduceLE, Int.reduceLT, Int.reducePow, halfN, e3]
      exact ⟨by omega, (j / 2, u, tmul m v v), by simp only; omega, by simp only; omega, [0, 1], by simp [-List.reduceReplicate, LES]⟩
    · rw [hb, wrap_i64 (by omega) (by omega)]
      refine ⟨by omega, h, (x + 1, b.set x u), ⟨by simp only; omega, by simp only [List.length_set]; exact hb⟩, by simp only; omega, [0, 1], ?_⟩
      simp [-List.reduceReplicate, LES]
  · obtain rfl : x = 256 := by omega
    simp only [↓VC, VP, TT, Nat.reduceEqDiff, reduceCtorEq, Nat.reduceAdd, Nat.reduceSub, Nat.reduceLT, Nat.reduceMul, Nat.reducePow, Nat.reduceLeDiff, Int.reduceToNat, Int.reduceLE, Int.reduceLT, Int.reducePow, hb, (eq_false (by omega) : (((256 : Nat) : Int) < 256) = False), decide_false]
    refine ⟨_, _, [], ⟨b, hb, rfl, rfl⟩, ?_⟩
    simp [-List.reduceReplicate, LES]
/-- Rotations, whatever they are. -/
theorem g_rot (L : List Int) (hl : L.length = 3) (hL : ∀ i, i < 3 → ∃ k : Nat, L.getD i 0 = k ∧ k < 8) (by0 : UInt8) : LC Tryz.prog 196 [.s 0 0 3 3, .c (.int .u8 ((by0).toNat : Int))] [⟨false, nsv L⟩] (Ret [⟨false, nsv L⟩] (fun b : List UInt8 => b.length = 256) fun b => (.a (bs b), [])) := by
  refine LC_of (X := XX (fun _ => .nil) (fun _ => []) [15, 71, 72, 73, 79, 80, 87, 90, 91, 93, 99, 119, 137, 176, 177, 203, 204, 212, 219] 1) envOK Tryz.func196 (by kernel_rfl) (by kernel_rfl) rfl (Nat.le_of_ble_eq_true (by kernel_rfl)) ?_
  simp only [kFun, Tryz.f196, List.length_nil, List.length_cons, Nat.sub_zero, Nat.reduceSub, Nat.reduceAdd, List.nil_append, List.cons_append, List.replicate_succ, List.replicate_zero]
  simp only [XX, ↓VC, VP, TT, Nat.reduceEqDiff, reduceCtorEq, Nat.reduceAdd, Nat.reduceSub, Nat.reduceLT, Nat.reduceMul, Nat.reducePow, Nat.reduceLeDiff, Int.reduceToNat, Int.reduceLE, Int.reduceLT, Int.reducePow]
  refine kLoop_of (fun s : Nat × List UInt8 => ([.s 0 0 3 3, .c (.int .u8 ((by0).toNat : Int)), .j, .j, .p 1 0, .p 2 0, .c (.int .i64 (s.1)), .j, .j, .j, .j, .j, .j, .j, .j, .j, .j, .j, .j, .j, .j, .j, .j, .j, .j, .j, .j, .j, .j, .j, .j, .j, .j, .j], [⟨false, nsv L⟩, ⟨true, bs (List.replicate 256 0)⟩, ⟨true, bs s.2⟩])) (fun s => 256 - s.1) (fun s => s.1 ≤ 256 ∧ s.2.length = 256) (0, List.replicate 256 0) ⟨by simp, by simp⟩ ⟨[0, 1, 2], by simp [-List.reduceReplicate, LES]⟩ ?_
  rintro ⟨x, b⟩ ⟨hx, hb⟩
  simp only at hx hb
  rcases Nat.lt_or_ge x 256 with h | h
  · simp only [↓VC, VP, TT, Nat.reduceEqDiff, reduceCtorEq, Nat.reduceAdd, Nat.reduceSub, Nat.reduceLT, Nat.reduceMul, Nat.reducePow, Nat.reduceLeDiff, Int.reduceToNat, Int.reduceLE, Int.reduceLT, Int.reducePow, h, (eq_true (by omega) : ((x : Int) < 256) = True), (eq_true (by omega) : ((x : Int) < ((256 : Nat) : Int)) = True), wrap_i64 (n := (x : Int) + 1) (by omega) (by omega), decide_true]
    refine kLoop_of (fun s : Nat × UInt8 => ([.s 0 0 3 3, .c (.int .u8 ((by0).toNat : Int)), .j, .j, .p 1 0, .p 2 0, .c (.int .i64 (x)), .c (.int .u8 ((s.2).toNat : Int)), .c (.int .i64 (s.1)), .j, .j, .j, .j, .j, .j, .j, .j, .j, .j, .j, .j, .j, .j, .j, .j, .j, .j, .j, .j, .j, .j, .j, .j, .j], [⟨false, nsv L⟩, ⟨true, bs (List.replicate 256 0)⟩, ⟨true, bs b⟩])) (fun s => 3 - s.1) (fun s => s.1 ≤ 3) (0, by0) (by simp) ⟨[0, 1, 2], by simp [-List.reduceReplicate, LES]⟩ ?_
    rintro ⟨i, v⟩ hi
    simp only at hi
    rcases Nat.lt_or_ge i 3 with h2 | h2
    · obtain ⟨k, e1, hk⟩ := hL i h2
      simp only [↓VC, VP, TT, Nat.reduceEqDiff, reduceCtorEq, Nat.reduceAdd, Nat.reduceSub, Nat.reduceLT, Nat.reduceMul, Nat.reducePow, Nat.reduceLeDiff, Int.reduceToNat, Int.reduceLE, Int.reduceLT, Int.reducePow, byte_conv, nsv_length, hl, (eq_true (by omega) : ((i : Int) < ((3 : Nat) : Int)) = True), decide_true, ↓vGet_nsvD (L := L) (i := i) (by omega), e1]
      repeat (refine ⟨by first | omega | (simp; done) | decide, ?_⟩)
      refine kCall_val (c_spec_l02Turn (UInt8.ofInt (x : Int)) k hk) (by rfl) [] (by simp [CALL]) (by simp [CALL, cellsAt]) (by simp [CALL]) (by simp [okL_bs]) ?_
      simp only [CALL, ↓VC, VP, TT, Nat.reduceEqDiff, reduceCtorEq, Nat.reduceAdd, Nat.reduceSub, Nat.reduceLT, Nat.reduceMul, Nat.reducePow, Nat.reduceLeDiff, Int.reduceToNat, Int.reduceLE, Int.reduceLT, Int.reducePow]
      exact ⟨(i + 1, v ^^^ rot8 (UInt8.ofInt (x : Int)) k), by simp only; omega, by simp only; omega, [0, 1, 2], by rw [wrap_i64 (by omega) (by omega)]; simp [-List.reduceReplicate, LES]⟩
    · obtain rfl : i = 3 := by omega
      simp only [↓VC, VP, TT, Nat.reduceEqDiff, reduceCtorEq, Nat.reduceAdd, Nat.reduceSub, Nat.reduceLT, Nat.reduceMul, Nat.reducePow, Nat.reduceLeDiff, Int.reduceToNat, Int.reduceLE, Int.reduceLT, Int.reducePow, show (((3 : Nat) : Int) < ((3 : Nat) : Int)) = False from eq_false (by decide), decide_false, hb, h, (eq_true (by omega) : ((x : Int) < 256) = True), (eq_true (by omega) : ((x : Int) < ((256 : Nat) : Int)) = True), wrap_i64 (n := (x : Int) + 1) (by omega) (by omega), decide_true]
      exact ⟨(x + 1, b.set x v), ⟨by simp only; omega, by simp only [List.length_set]; exact hb⟩, by simp only; omega, [0, 1, 2], by simp [-List.reduceReplicate, LES]⟩
  · obtain rfl : x = 256 := by omega
    simp only [↓VC, VP, TT, Nat.reduceEqDiff, reduceCtorEq, Nat.reduceAdd, Nat.reduceSub, Nat.reduceLT, Nat.reduceMul, Nat.reducePow, Nat.reduceLeDiff, Int.reduceToNat, Int.reduceLE, Int.reduceLT, Int.reducePow, hb, (eq_false (by omega) : (((256 : Nat) : Int) < 256) = False), decide_false]
    refine ⟨_, _, [0], ⟨b, hb, rfl, rfl⟩, ?_⟩
    simp [-List.reduceReplicate, LES]
theorem g_same : LC Tryz.prog 218 [] [] (Ret [] (fun b : List UInt8 => b.length = 256) fun b => (.a (bs b), [])) := by
  refine LC_of (X := XX (fun _ => .nil) (fun _ => []) [15, 71, 72, 73, 79, 80, 87, 90, 91, 93, 99, 119, 137, 176, 177, 203, 204, 212, 219] 0) envOK Tryz.func218 (by kernel_rfl) (by kernel_rfl) rfl (Nat.le_of_ble_eq_true (by kernel_rfl)) ?_
  simp only [kFun, Tryz.f218, List.length_nil, List.length_cons, Nat.sub_zero, Nat.reduceSub, Nat.reduceAdd, List.nil_append, List.cons_append, List.replicate_succ, List.replicate_zero]
  simp only [XX, ↓VC, VP, TT, Nat.reduceEqDiff, reduceCtorEq, Nat.reduceAdd, Nat.reduceSub, Nat.reduceLT, Nat.reduceMul, Nat.reducePow, Nat.reduceLeDiff, Int.reduceToNat, Int.reduceLE, Int.reduceLT, Int.reducePow]
  refine kLoop_of (fun s : Nat × List UInt8 => ([.p 0 0, .p 1 0, .c (.int .i64 (s.1)), .j, .j, .j, .j, .j, .j, .j, .j, .j, .j], [⟨true, bs (List.replicate 256 0)⟩, ⟨true, bs s.2⟩])) (fun s => 256 - s.1) (fun s => s.1 ≤ 256 ∧ s.2.length = 256) (0, List.replicate 256 0) ⟨by simp, by simp⟩ ⟨[0, 1], by simp [-List.reduceReplicate, LES]⟩ ?_
  rintro ⟨x, b⟩ ⟨hx, hb⟩
  simp only at hx hb
  rcases Nat.lt_or_ge x 256 with h | h
  · simp only [↓VC, VP, TT, Nat.reduceEqDiff, reduceCtorEq, Nat.reduceAdd, Nat.reduceSub, Nat.reduceLT, Nat.reduceMul, Nat.reducePow, Nat.reduceLeDiff, Int.reduceToNat, Int.reduceLE, Int.reduceLT, Int.reducePow, h, (eq_true (by omega) : ((x : Int) < 256) = True), (eq_true (by omega) : ((x : Int) < ((256 : Nat) : Int)) = True), wrap_i64 (n := (x : Int) + 1) (by omega) (by omega), decide_true, byte_conv, hb]
    exact ⟨(x + 1, b.set x (UInt8.ofInt (x : Int))), ⟨by simp only; omega, by simp only [List.length_set]; exact hb⟩, by simp only; omega, [0, 1], by simp [-List.reduceReplicate, LES]⟩
  · obtain rfl : x = 256 := by omega
    simp only [↓VC, VP, TT, Nat.reduceEqDiff, reduceCtorEq, Nat.reduceAdd, Nat.reduceSub, Nat.reduceLT, Nat.reduceMul, Nat.reducePow, Nat.reduceLeDiff, Int.reduceToNat, Int.reduceLE, Int.reduceLT, Int.reducePow, hb, (eq_false (by omega) : (((256 : Nat) : Int) < 256) = False), decide_false]
    refine ⟨_, _, [], ⟨b, hb, rfl, rfl⟩, ?_⟩
    simp [-List.reduceReplicate, LES]
section
variable {l : List UInt8} {c : Nat} {q : Nat × Nat}
theorem d_shuffle (hc : l.length ≤ c) (hm : l.length ≤ 4096) (hq : okS l q) : LC Tryz.prog 219 [.p 0 0] [⟨true, sv 1 l.length c q⟩, ⟨false, bs l⟩] (RetM (fun x : (Nat × Nat) × List UInt8 => okS l x.1 ∧ x.2.length = 256) fun x => (.a (bs x.2), [⟨true, sv 1 l.length c x.1⟩, ⟨false, bs l⟩], [])) := by
  refine LC_of (X := XX (fun _ => .nil) (fun _ => []) [15, 71, 72, 73, 79, 80, 87, 90, 91, 93, 99, 119, 137, 176, 177, 203, 204, 212, 219] 2) envOK Tryz.func219 (by kernel_rfl) (by kernel_rfl) rfl (Nat.le_of_ble_eq_true (by kernel_rfl)) ?_
  simp only [kFun, Tryz.f219, List.length_nil, List.length_cons, Nat.sub_zero, Nat.reduceSub, Nat.reduceAdd, List.nil_append, List.cons_append, List.replicate_succ, List.replicate_zero]
  simp only [XX, ↓VC, VP, TT, Nat.reduceEqDiff, reduceCtorEq, Nat.reduceAdd, Nat.reduceSub, Nat.reduceLT, Nat.reduceMul, Nat.reducePow, Nat.reduceLeDiff, Int.reduceToNat, Int.reduceLE, Int.reduceLT, Int.reducePow]
  refine kCall_Ret (g_same) (by rfl) [] (by simp [CALL, SCB, SB, nsv]) (by simp [CALL, SCB, SB, nsv]) (by simp [CALL, SCB, SB, nsv]) (by simp [okL_bs, okL_room, okL, okV, SB, nsv]) (by simp [CALL, SCB, SB, nsv]) fun b0 hb0 => ?_
  simp (config := { maxSteps := 2000000 }) only [CALL, ↓VC, VP, TT, Nat.reduceEqDiff, reduceCtorEq, Nat.reduceAdd, Nat.reduceSub, Nat.reduceLT, Nat.reduceMul, Nat.reducePow, Nat.reduceLeDiff, Int.reduceToNat, Int.reduceLE, Int.reduceLT, Int.reducePow, GOB, GB, hb0]
  refine kLoop_of (fun s : Nat × (Nat × Nat) × List UInt8 => ([.p 0 0, .j, .p 2 0, .p 3 0, .c (.int .i64 (s.1)), .j, .j, .j, .j, .j, .j, .j, .j, .j, .j, .j, .j, .j, .j, .j, .j, .j, .j, .j, .j, .j, .j, .j], [⟨true, sv 1 l.length c s.2.1⟩, ⟨false, bs l⟩, ⟨true, bs (List.replicate 256 0)⟩, ⟨true, bs s.2.2⟩])) (fun s => s.1) (fun s => s.1 ≤ 255 ∧ okS l s.2.1 ∧ s.2.2.length = 256) (255, q, b0) ⟨by simp, hq, hb0⟩ ⟨[0, 1, 2, 3], by simp [-List.reduceReplicate, LES, sv_ren, sv_ok]⟩ ?_
  rintro ⟨x, q, b⟩ ⟨hx, hq, hb⟩
  simp only at hx hq hb
  rcases Nat.eq_zero_or_pos x with h0 | h0
  · subst h0
    simp only [↓VC, VP, TT, Nat.reduceEqDiff, reduceCtorEq, Nat.reduceAdd, Nat.reduceSub, Nat.reduceLT, Nat.reduceMul, Nat.reducePow, Nat.reduceLeDiff, Int.reduceToNat, Int.reduceLE, Int.reduceLT, Int.reducePow, (eq_false (by omega) : (((0 : Nat) : Int) > 0) = False), decide_false, hb]
    exact ⟨_, _, [0, 1], ⟨(q, b), ⟨hq, hb⟩, rfl, rfl⟩, by simp [-List.reduceReplicate, LES, sv_ren, sv_ok]⟩
  · have w1 : IntKind.i64.wrap ((x : Int) + 1) = (x : Int) + 1 := wrap_i64 (by omega) (by omega)
    simp only [↓VC, VP, TT, Nat.reduceEqDiff, reduceCtorEq, Nat.reduceAdd, Nat.reduceSub, Nat.reduceLT, Nat.reduceMul, Nat.reducePow, Nat.reduceLeDiff, Int.reduceToNat, Int.reduceLE, Int.reduceLT, Int.reducePow, (eq_true (by omega) : ((x : Int) > 0) = True), decide_true, w1]
    refine kCall_M (d_next hc hm hq ((x : Int) + 1)) (by rfl) [(0, 0), (1, 0)] (by simp [CALL, SCB, SB, nsv]) (by simp [CALL, SCB, SB, nsv]) (by simp) (by simp [CALL, SCB, SB, nsv]) (by simp [okL_bs, okL_room, okL, okV, SB, nsv]) (by intro x _; simp [keepR, bs_length, SB, nsv]) (by simp [CALL, SCB, SB, nsv]) fun x1 h1 => ?_
    simp (config := { maxSteps := 2000000 }) only [CALL, ↓VC, VP, TT, Nat.reduceEqDiff, reduceCtorEq, Nat.reduceAdd, Nat.reduceSub, Nat.reduceLT, Nat.reduceMul, Nat.reducePow, Nat.reduceLeDiff, Int.reduceToNat, Int.reduceLE, Int.reduceLT, Int.reducePow, GOB, GB, hb]
    obtain ⟨q1, z1⟩ := x1
    obtain ⟨hq1, h1a, h1b, _⟩ := h1
    simp only at hq1 h1a h1b ⊢
    have h1b := h1b (by omega)
    obtain ⟨y, rfl⟩ : ∃ j : Nat, z1 = j := ⟨z1.toNat, by omega⟩
    simp only [Int.toNat_natCast]
    repeat (refine ⟨by first | omega | (simp; done) | decide, ?_⟩)
    refine ⟨(x - 1, q1, (b.set x (b.getD y 0)).set y (b.getD x 0)), ⟨by simp only; omega, hq1, by simp only [List.length_set]; exact hb⟩, by simp only; omega, [0, 1, 2, 3], ?_⟩
    rw [wrap_i64 (by omega) (by omega), show (x : Int) - 1 = ((x - 1 : Nat) : Int) by omega]
    simp [-List.reduceReplicate, LES, sv_ren, sv_ok]
theorem d_box (hc : l.length ≤ c) (hm : l.length ≤ 4096) (hq : okS l q) : LC Tryz.prog 204 [.p 0 0] [⟨true, sv 1 l.length c q⟩, ⟨false, bs l⟩] (RetM (fun x : (Nat × Nat) × List UInt8 => okS l x.1 ∧ x.2.length = 256) fun x => (.a (bs x.2), [⟨true, sv 1 l.length c x.1⟩, ⟨false, bs l⟩], [])) := by
  refine LC_of (X := XX (fun _ => .nil) (fun _ => []) [15, 71, 72, 73, 79, 80, 87, 90, 91, 93, 99, 119, 137, 176, 177, 203, 204, 212, 219] 2) envOK Tryz.func204 (by kernel_rfl) (by kernel_rfl) rfl (Nat.le_of_ble_eq_true (by kernel_rfl)) ?_
  simp only [kFun, Tryz.f204, List.length_nil, List.length_cons, Nat.sub_zero, Nat.reduceSub, Nat.reduceAdd, List.nil_append, List.cons_append, List.replicate_succ, List.replicate_zero]
  simp only [XX, ↓VC, VP, TT, Nat.reduceEqDiff, reduceCtorEq, Nat.reduceAdd, Nat.reduceSub, Nat.reduceLT, Nat.reduceMul, Nat.reducePow, Nat.reduceLeDiff, Int.reduceToNat, Int.reduceLE, Int.reduceLT, Int.reducePow]
  refine kCall_M (d_next hc hm hq 6) (by rfl) [(0, 0), (1, 0)] (by simp [CALL, SCB, SB, nsv]) (by simp [CALL, SCB, SB, nsv]) (by simp) (by simp [CALL, SCB, SB, nsv]) (by simp [okL_bs, okL_room, okL, okV, SB, nsv]) (by intro x _; simp [keepR, bs_length, SB, nsv]) (by simp [CALL, SCB, SB, nsv]) fun x1 h1 => ?_
  simp (config := { maxSteps := 2000000 }) only [CALL, ↓VC, VP, TT, Nat.reduceEqDiff, reduceCtorEq, Nat.reduceAdd, Nat.reduceSub, Nat.reduceLT, Nat.reduceMul, Nat.reducePow, Nat.reduceLeDiff, Int.reduceToNat, Int.reduceLE, Int.reduceLT, Int.reducePow, GOB, GB]
  obtain ⟨q1, z1⟩ := x1
  obtain ⟨hq1, h1a, h1b, _⟩ := h1
  simp only at hq1 h1a h1b ⊢
  refine ⟨fun _ => ?_, fun _ => ⟨fun _ => ?_, fun _ => ⟨fun _ => ?_, fun _ => ⟨fun _ => ?_, fun _ => ?_⟩⟩⟩⟩
  · refine kCall_M (d_field hc hm hq1) (by rfl) [(0, 0), (1, 0)] (by simp [CALL, SCB, SB, nsv]) (by simp [CALL, SCB, SB, nsv]) (by simp) (by simp [CALL, SCB, SB, nsv]) (by simp [okL_bs, okL_room, okL, okV, SB, nsv]) (by intro x _; simp [keepR, bs_length, SB, nsv]) (by simp [CALL, SCB, SB, nsv]) fun x2 h2 => ?_
    simp (config := { maxSteps := 2000000 }) only [CALL, ↓VC, VP, TT, Nat.reduceEqDiff, reduceCtorEq, Nat.reduceAdd, Nat.reduceSub, Nat.reduceLT, Nat.reduceMul, Nat.reducePow, Nat.reduceLeDiff, Int.reduceToNat, Int.reduceLE, Int.reduceLT, Int.reducePow, GOB, GB]
    obtain ⟨q2, m⟩ := x2
    obtain ⟨hq2, hf⟩ := h2
    simp only at hq2 hf ⊢
    have hmb := field_bd hf
    refine kCall_Ret (g_power m 254 (by omega) (by omega) (by omega) (by omega)) (by rfl) [] (by simp [CALL, SCB, SB, nsv]) (by simp [CALL, SCB, SB, nsv]) (by simp [CALL, SCB, SB, nsv]) (by simp [okL_bs, okL_room, okL, okV, SB, nsv]) (by simp [CALL, SCB, SB, nsv]) fun b1 hb1 => ?_
    simp (config := { maxSteps := 2000000 }) only [CALL, ↓VC, VP, TT, Nat.reduceEqDiff, reduceCtorEq, Nat.reduceAdd, Nat.reduceSub, Nat.reduceLT, Nat.reduceMul, Nat.reducePow, Nat.reduceLeDiff, Int.reduceToNat, Int.reduceLE, Int.reduceLT, Int.reducePow, GOB, GB, hb1]
    refine kCall_M (d_next hc hm hq2 256) (by rfl) [(0, 0), (1, 0)] (by simp [CALL, SCB, SB, nsv]) (by simp [CALL, SCB, SB, nsv]) (by simp) (by simp [CALL, SCB, SB, nsv]) (by simp [okL_bs, okL_room, okL, okV, SB, nsv]) (by intro x _; simp [keepR, bs_length, SB, nsv]) (by simp [CALL, SCB, SB, nsv]) fun x3 h3 => ?_
    simp (config := { maxSteps := 2000000 }) only [CALL, ↓VC, VP, TT, Nat.reduceEqDiff, reduceCtorEq, Nat.reduceAdd, Nat.reduceSub, Nat.reduceLT, Nat.reduceMul, Nat.reducePow, Nat.reduceLeDiff, Int.reduceToNat, Int.reduceLE, Int.reduceLT, Int.reducePow, GOB, GB, hb1, wrap_u8]
    refine kCall_Ret (g_rot [0, 1, 4] rfl rot014 (UInt8.ofInt x3.2)) (by rfl) [(3, 0)] (by simp [CALL, SCB, SB, nsv, splice]) (by simp [CALL, SCB, SB, nsv, splice]) (by simp [CALL, SCB, SB, nsv, splice]) (by simp [okL_bs, okL_room, okL, okV, SB, nsv, splice]) (by simp [CALL, SCB, SB, nsv, splice]) fun b2 hb2 => ?_
    simp (config := { maxSteps := 2000000 }) only [CALL, ↓VC, VP, TT, Nat.reduceEqDiff, reduceCtorEq, Nat.reduceAdd, Nat.reduceSub, Nat.reduceLT, Nat.reduceMul, Nat.reducePow, Nat.reduceLeDiff, Int.reduceToNat, Int.reduceLE, Int.reduceLT, Int.reducePow, GOB, GB, hb1, hb2]
    refine kCall_val (c_spec_l02Then b1 b2 hb1 hb2) (by rfl) [] (by simp [CALL, SCB, SB, nsv]) (by simp [CALL, SCB, SB, nsv]) (by simp [CALL, SCB, SB, nsv]) (by simp [okL_bs, okL_room, okL, okV, SB, nsv]) ?_
    simp (config := { maxSteps := 2000000 }) only [CALL, ↓VC, VP, TT, Nat.reduceEqDiff, reduceCtorEq, Nat.reduceAdd, Nat.reduceSub, Nat.reduceLT, Nat.reduceMul, Nat.reducePow, Nat.reduceLeDiff, Int.reduceToNat, Int.reduceLE, Int.reduceLT, Int.reducePow, GOB, GB, hb1, hb2, thenL_len]
    exact ⟨_, _, [0, 1], ⟨(x3.1, thenL b1 b2), ⟨h3.1, thenL_len _ _⟩, rfl, rfl⟩, by simp [-List.reduceReplicate, LES, sv_ren, sv_ok]⟩
  · refine kCall_M (d_field hc hm hq1) (by rfl) [(0, 0), (1, 0)] (by simp [CALL, SCB, SB, nsv]) (by simp [CALL, SCB, SB, nsv]) (by simp) (by simp [CALL, SCB, SB, nsv]) (by simp [okL_bs, okL_room, okL, okV, SB, nsv]) (by intro x _; simp [keepR, bs_length, SB, nsv]) (by simp [CALL, SCB, SB, nsv]) fun x2 h2 => ?_
    simp (config := { maxSteps := 2000000 }) only [CALL, ↓VC, VP, TT, Nat.reduceEqDiff, reduceCtorEq, Nat.reduceAdd, Nat.reduceSub, Nat.reduceLT, Nat.reduceMul, Nat.reducePow, Nat.reduceLeDiff, Int.reduceToNat, Int.reduceLE, Int.reduceLT, Int.reducePow, GOB, GB]
    obtain ⟨q2, m⟩ := x2
    obtain ⟨hq2, hf⟩ := h2
    simp only at hq2 hf ⊢
    have hmb := field_bd hf
    refine kCall_M (d_pick hc hm hq2 [1, 2, 7, 11, 13, 127, 254] 7 (by simp) (by simp)) (by rfl) [(0, 0), (1, 0), (3, 0)] (by simp [CALL, SCB, SB, nsv, splice]) (by simp [CALL, SCB, SB, nsv, splice]) (by simp) (by simp [CALL, SCB, SB, nsv, splice]) (by simp [okL_bs, okL_room, okL, okV, SB, nsv, splice]) (by intro x _; simp [keepR, bs_length, SB, nsv, splice]) (by simp [CALL, SCB, SB, nsv, splice]) fun x3 h3 => ?_
    simp (config := { maxSteps := 2000000 }) only [CALL, ↓VC, VP, TT, Nat.reduceEqDiff, reduceCtorEq, Nat.reduceAdd, Nat.reduceSub, Nat.reduceLT, Nat.reduceMul, Nat.reducePow, Nat.reduceLeDiff, Int.reduceToNat, Int.reduceLE, Int.reduceLT, Int.reducePow, GOB, GB]
    obtain ⟨q3, z3⟩ := x3
    obtain ⟨hq3, h3⟩ := h3
    simp only at hq3 h3 ⊢
    have hz : 0 ≤ z3 ∧ z3 ≤ 254 := by
      simp only [List.mem_cons, List.not_mem_nil, or_false] at h3
      omega
    refine kCall_Ret (g_power m z3 (by omega) (by omega) hz.1 hz.2) (by rfl) [] (by simp [CALL, SCB, SB, nsv]) (by simp [CALL, SCB, SB, nsv]) (by simp [CALL, SCB, SB, nsv]) (by simp [okL_bs, okL_room, okL, okV, SB, nsv]) (by simp [CALL, SCB, SB, nsv]) fun b1 hb1 => ?_
    simp (config := { maxSteps := 2000000 }) only [CALL, ↓VC, VP, TT, Nat.reduceEqDiff, reduceCtorEq, Nat.reduceAdd, Nat.reduceSub, Nat.reduceLT, Nat.reduceMul, Nat.reducePow, Nat.reduceLeDiff, Int.reduceToNat, Int.reduceLE, Int.reduceLT, Int.reducePow, GOB, GB, hb1]
    exact ⟨_, _, [0, 1], ⟨(q3, b1), ⟨hq3, hb1⟩, rfl, rfl⟩, by simp [-List.reduceReplicate, LES, sv_ren, sv_ok]⟩
  · refine kCall_M (d_next hc hm hq1 256) (by rfl) [(0, 0), (1, 0)] (by simp [CALL, SCB, SB, nsv]) (by simp [CALL, SCB, SB, nsv]) (by simp) (by simp [CALL, SCB, SB, nsv]) (by simp [okL_bs, okL_room, okL, okV, SB, nsv]) (by intro x _; simp [keepR, bs_length, SB, nsv]) (by simp [CALL, SCB, SB, nsv]) fun x3 h3 => ?_
    simp (config := { maxSteps := 2000000 }) only [CALL, ↓VC, VP, TT, Nat.reduceEqDiff, reduceCtorEq, Nat.reduceAdd, Nat.reduceSub, Nat.reduceLT, Nat.reduceMul, Nat.reducePow, Nat.reduceLeDiff, Int.reduceToNat, Int.reduceLE, Int.reduceLT, Int.reducePow, GOB, GB, wrap_u8]
    refine kCall_Ret (g_rot [0, 2, 5] rfl rot025 (UInt8.ofInt x3.2)) (by rfl) [(3, 0)] (by simp [CALL, SCB, SB, nsv, splice]) (by simp [CALL, SCB, SB, nsv, splice]) (by simp [CALL, SCB, SB, nsv, splice]) (by simp [okL_bs, okL_room, okL, okV, SB, nsv, splice]) (by simp [CALL, SCB, SB, nsv, splice]) fun b2 hb2 => ?_
    simp (config := { maxSteps := 2000000 }) only [CALL, ↓VC, VP, TT, Nat.reduceEqDiff, reduceCtorEq, Nat.reduceAdd, Nat.reduceSub, Nat.reduceLT, Nat.reduceMul, Nat.reducePow, Nat.reduceLeDiff, Int.reduceToNat, Int.reduceLE, Int.reduceLT, Int.reducePow, GOB, GB, hb2]
    exact ⟨_, _, [0, 1], ⟨(x3.1, b2), ⟨h3.1, hb2⟩, rfl, rfl⟩, by simp [-List.reduceReplicate, LES, sv_ren, sv_ok]⟩
  · refine kCall_Ret (g_same) (by rfl) [] (by simp [CALL, SCB, SB, nsv]) (by simp [CALL, SCB, SB, nsv]) (by simp [CALL, SCB, SB, nsv]) (by simp [okL_bs, okL_room, okL, okV, SB, nsv]) (by simp [CALL, SCB, SB, nsv]) fun b0 hb0 => ?_
    simp (config := { maxSteps := 2000000 }) only [CALL, ↓VC, VP, TT, Nat.reduceEqDiff, reduceCtorEq, Nat.reduceAdd, Nat.reduceSub, Nat.reduceLT, Nat.reduceMul, Nat.reducePow, Nat.reduceLeDiff, Int.reduceToNat, Int.reduceLE, Int.reduceLT, Int.reducePow, GOB, GB, hb0]
    refine kCall_M (d_next hc hm hq1 256) (by rfl) [(0, 0), (1, 0)] (by simp [CALL, SCB, SB, nsv]) (by simp [CALL, SCB, SB, nsv]) (by simp) (by simp [CALL, SCB, SB, nsv]) (by simp [okL_bs, okL_room, okL, okV, SB, nsv]) (by intro x _; simp [keepR, bs_length, SB, nsv]) (by simp [CALL, SCB, SB, nsv]) fun x2 h2 => ?_
    simp (config := { maxSteps := 2000000 }) only [CALL, ↓VC, VP, TT, Nat.reduceEqDiff, reduceCtorEq, Nat.reduceAdd, Nat.reduceSub, Nat.reduceLT, Nat.reduceMul, Nat.reducePow, Nat.reduceLeDiff, Int.reduceToNat, Int.reduceLE, Int.reduceLT, Int.reducePow, GOB, GB, hb0]
    obtain ⟨q2, z2⟩ := x2
    obtain ⟨hq2, h2a, h2b, _⟩ := h2
    simp only at hq2 h2a h2b ⊢
    have h2b := h2b (by omega)
    obtain ⟨y2, rfl⟩ : ∃ j : Nat, z2 = j := ⟨z2.toNat, by omega⟩
    refine kCall_M (d_next hc hm hq2 256) (by rfl) [(0, 0), (1, 0)] (by simp [CALL, SCB, SB, nsv]) (by simp [CALL, SCB, SB, nsv]) (by simp) (by simp [CALL, SCB, SB, nsv]) (by simp [okL_bs, okL_room, okL, okV, SB, nsv]) (by intro x _; simp [keepR, bs_length, SB, nsv]) (by simp [CALL, SCB, SB, nsv]) fun x3 h3 => ?_
    simp (config := { maxSteps := 2000000 }) only [CALL, ↓VC, VP, TT, Nat.reduceEqDiff, reduceCtorEq, Nat.reduceAdd, Nat.reduceSub, Nat.reduceLT, Nat.reduceMul, Nat.reducePow, Nat.reduceLeDiff, Int.reduceToNat, Int.reduceLE, Int.reduceLT, Int.reducePow, GOB, GB, hb0, Int.toNat_natCast, List.length_set]
    obtain ⟨q3, z3⟩ := x3
    obtain ⟨hq3, h3a, h3b, _⟩ := h3
    simp only at hq3 h3a h3b ⊢
    have h3b := h3b (by omega)
    obtain ⟨y3, rfl⟩ : ∃ j : Nat, z3 = j := ⟨z3.toNat, by omega⟩
    simp only [Int.toNat_natCast]
    repeat (refine ⟨by first | omega | (simp; done) | decide, ?_⟩)
    exact ⟨_, _, [0, 1], ⟨(q3, (b0.set y2 (b0.getD y3 0)).set y3 (b0.getD y2 0)), ⟨hq3, by simp only [List.length_set]; exact hb0⟩, rfl, rfl⟩, by simp [-List.reduceReplicate, LES, sv_ren, sv_ok]⟩
  · refine kCall_M (d_shuffle hc hm hq1) (by rfl) [(0, 0), (1, 0)] (by simp [CALL, SCB, SB, nsv]) (by simp [CALL, SCB, SB, nsv]) (by simp) (by simp [CALL, SCB, SB, nsv]) (by simp [okL_bs, okL_room, okL, okV, SB, nsv]) (by intro x _; simp [keepR, bs_length, SB, nsv]) (by simp [CALL, SCB, SB, nsv]) fun x2 h2 => ?_
    have hb2 := h2.2
    simp (config := { maxSteps := 2000000 }) only [CALL, ↓VC, VP, TT, Nat.reduceEqDiff, reduceCtorEq, Nat.reduceAdd, Nat.reduceSub, Nat.reduceLT, Nat.reduceMul, Nat.reducePow, Nat.reduceLeDiff, Int.reduceToNat, Int.reduceLE, Int.reduceLT, Int.reducePow, GOB, GB, hb2]
    exact ⟨_, _, [0, 1], ⟨(x2.1, x2.2), ⟨h2.1, h2.2⟩, rfl, rfl⟩, by simp [-List.reduceReplicate, LES, sv_ren, sv_ok]⟩
theorem z_block (hc : l.length ≤ c) (hm : l.length ≤ 4096) (hq : okS l q) : LC Tryz.prog 72 [.p 0 0] [⟨true, sv 1 l.length c q⟩, ⟨false, bs l⟩] (RetM (fun x : (Nat × Nat) × List UInt8 => okS l x.1 ∧ x.2.length = 16) fun x => (.a (bs x.2), [⟨true, sv 1 l.length c x.1⟩, ⟨false, bs l⟩], [])) := by
  refine LC_of (X := XX (fun _ => .nil) (fun _ => []) [15, 71, 72, 73, 79, 80, 87, 90, 91, 93, 99, 119, 137, 176, 177, 203, 204, 212, 219] 2) envOK Tryz.func72 (by kernel_rfl) (by kernel_rfl) rfl (Nat.le_of_ble_eq_true (by kernel_rfl)) ?_
  simp only [kFun, Tryz.f72, List.length_nil, List.length_cons, Nat.sub_zero, Nat.reduceSub, Nat.reduceAdd, List.nil_append, List.cons_append, List.replicate_succ, List.replicate_zero]
  simp only [XX, ↓VC, VP, TT, Nat.reduceEqDiff, reduceCtorEq, Nat.reduceAdd, Nat.reduceSub, Nat.reduceLT, Nat.reduceMul, Nat.reducePow, Nat.reduceLeDiff, Int.reduceToNat, Int.reduceLE, Int.reduceLT, Int.reducePow]
  refine kCall_M (d_next hc hm hq 5) (by rfl) [(0, 0), (1, 0)] (by simp [CALL, SCB, SB, nsv]) (by simp [CALL, SCB, SB, nsv]) (by simp) (by simp [CALL, SCB, SB, nsv]) (by simp [okL_bs, okL_room, okL, okV, SB, nsv]) (by intro x _; simp [keepR, bs_length, SB, nsv]) (by simp [CALL, SCB, SB, nsv]) fun x1 h1 => ?_
  simp (config := { maxSteps := 2000000 }) only [CALL, ↓VC, VP, TT, Nat.reduceEqDiff, reduceCtorEq, Nat.reduceAdd, Nat.reduceSub, Nat.reduceLT, Nat.reduceMul, Nat.reducePow, Nat.reduceLeDiff, Int.reduceToNat, Int.reduceLE, Int.reduceLT, Int.reducePow, GOB, GB]
  refine ⟨fun _ => ?_, fun _ => ?_⟩
  · refine kCall_M (d_next hc hm h1.1 16) (by rfl) [(0, 0), (1, 0)] (by simp [CALL, SCB, SB, nsv]) (by simp [CALL, SCB, SB, nsv]) (by simp) (by simp [CALL, SCB, SB, nsv]) (by simp [okL_bs, okL_room, okL, okV, SB, nsv]) (by intro x _; simp [keepR, bs_length, SB, nsv]) (by simp [CALL, SCB, SB, nsv]) fun x2 h2 => ?_
    simp (config := { maxSteps := 2000000 }) only [CALL, ↓VC, VP, TT, Nat.reduceEqDiff, reduceCtorEq, Nat.reduceAdd, Nat.reduceSub, Nat.reduceLT, Nat.reduceMul, Nat.reducePow, Nat.reduceLeDiff, Int.reduceToNat, Int.reduceLE, Int.reduceLT, Int.reducePow, GOB, GB]
    obtain ⟨q2, z2⟩ := x2
    obtain ⟨hq2, h2a, h2b, _⟩ := h2
    simp only at hq2 h2a h2b ⊢
    have h2b := h2b (by omega)
    obtain ⟨y2, rfl⟩ : ∃ j : Nat, z2 = j := ⟨z2.toNat, by omega⟩
    refine kCall_M (z_byte hc hm hq2) (by rfl) [(0, 0), (1, 0)] (by simp [CALL, SCB, SB, nsv]) (by simp [CALL, SCB, SB, nsv]) (by simp) (by simp [CALL, SCB, SB, nsv]) (by simp [okL_bs, okL_room, okL, okV, SB, nsv]) (by intro x _; simp [keepR, bs_length, SB, nsv]) (by simp [CALL, SCB, SB, nsv]) fun x3 h3 => ?_
    simp (config := { maxSteps := 2000000 }) only [CALL, ↓VC, VP, TT, Nat.reduceEqDiff, reduceCtorEq, Nat.reduceAdd, Nat.reduceSub, Nat.reduceLT, Nat.reduceMul, Nat.reducePow, Nat.reduceLeDiff, Int.reduceToNat, Int.reduceLE, Int.reduceLT, Int.reducePow, GOB, GB, Int.toNat_natCast]
    repeat (refine ⟨by first | omega | (simp; done) | decide, ?_⟩)
    exact ⟨_, _, [0, 1], ⟨(x3.1, (List.replicate 16 0).set y2 x3.2), ⟨h3, by simp⟩, rfl, rfl⟩, by simp [-List.reduceReplicate, LES, sv_ren, sv_ok]⟩
  · have hq1 := h1.1
    generalize x1.1 = q1 at *
    refine kLoop_of (fun s : Nat × (Nat × Nat) × List UInt8 => ([.p 0 0, .j, .p 2 0, .p 3 0, .c (.int .i64 (s.1)), .j, .j, .j, .j, .j, .j, .j, .j, .j, .j, .j, .j, .j, .j, .j, .j, .j, .j, .j, .j], [⟨true, sv 1 l.length c s.2.1⟩, ⟨false, bs l⟩, ⟨true, bs (List.replicate 16 0)⟩, ⟨true, bs s.2.2⟩])) (fun s => 16 - s.1) (fun s => s.1 ≤ 16 ∧ okS l s.2.1 ∧ s.2.2.length = 16) (0, q1, List.replicate 16 0) ⟨by simp, hq1, by simp⟩ ⟨[0, 1, 2, 3], by simp [-List.reduceReplicate, LES, sv_ren, sv_ok]⟩ ?_
    rintro ⟨i, q, b⟩ ⟨hi, hq, hb⟩
    simp only at hi hq hb
    rcases Nat.lt_or_ge i 16 with h | h
    · simp only [↓VC, VP, TT, Nat.reduceEqDiff, reduceCtorEq, Nat.reduceAdd, Nat.reduceSub, Nat.reduceLT, Nat.reduceMul, Nat.reducePow, Nat.reduceLeDiff, Int.reduceToNat, Int.reduceLE, Int.reduceLT, Int.reducePow, (eq_true (by omega) : ((i : Int) < 16) = True), decide_true]
      refine kCall_M (d_next hc hm hq 256) (by rfl) [(0, 0), (1, 0)] (by simp [CALL, SCB, SB, nsv]) (by simp [CALL, SCB, SB, nsv]) (by simp) (by simp [CALL, SCB, SB, nsv]) (by simp [okL_bs, okL_room, okL, okV, SB, nsv]) (by intro x _; simp [keepR, bs_length, SB, nsv]) (by simp [CALL, SCB, SB, nsv]) fun x2 h2 => ?_
      simp (config := { maxSteps := 2000000 }) only [CALL, ↓VC, VP, TT, Nat.reduceEqDiff, reduceCtorEq, Nat.reduceAdd, Nat.reduceSub, Nat.reduceLT, Nat.reduceMul, Nat.reducePow, Nat.reduceLeDiff, Int.reduceToNat, Int.reduceLE, Int.reduceLT, Int.reducePow, GOB, GB, wrap_u8, hb]
      repeat (refine ⟨by first | omega | (simp; done) | decide, ?_⟩)
      exact ⟨(i + 1, x2.1, b.set i (UInt8.ofInt x2.2)), ⟨by simp only; omega, h2.1, by simp only [List.length_set]; exact hb⟩, by simp only; omega, [0, 1, 2, 3], by rw [wrap_i64 (by omega) (by omega)]; simp [-List.reduceReplicate, LES, sv_ren, sv_ok]⟩
    · obtain rfl : i = 16 := by omega
      simp only [↓VC, VP, TT, Nat.reduceEqDiff, reduceCtorEq, Nat.reduceAdd, Nat.reduceSub, Nat.reduceLT, Nat.reduceMul, Nat.reducePow, Nat.reduceLeDiff, Int.reduceToNat, Int.reduceLE, Int.reduceLT, Int.reducePow, (eq_false (by omega) : (((16 : Nat) : Int) < 16) = False), decide_false, hb]
      exact ⟨_, _, [0, 1], ⟨(q, b), ⟨hq, hb⟩, rfl, rfl⟩, by simp [-List.reduceReplicate, LES, sv_ren, sv_ok]⟩
end
end Go.Proofs.YtahnjhppkgndiaaGreat
/- Draws of ciphers. -/
set_option linter.unusedSimpArgs false
set_option linter.unusedVariables false
namespace Go.Proofs.YtahnjhppkgndiaaGreat
open Go Go.Vc
set_option maxRecDepth 10000
set_option maxHeartbeats 40000000
section
variable {f r : Int} {box A pl : List UInt8} {k : V → Prop} {kl : List V → Prop}
theorem cip_put_f {x : Int} : vPut (cipC f box A pl r) 0 [.c (.int .i64 x)] kl = kl (cipC x box A pl r) := by unfold cipC; rw [vPut_zero]
theorem cip_put_n {x : Int} (hb : box.length = 256) (hA : A.length = 16) (hp : pl.length = 16) : vPut (cipC f box A pl r) 289 [.c (.int .i64 x)] kl = kl (cipC f box A pl x) := by
  unfold vPut
  rw [cip_spl1 hb hA hp, cipC_len hb hA hp]
  exact propext ⟨fun x => x.2, fun x => ⟨by simp, x⟩⟩
theorem cip_put_all {f' r' : Int} {box' A' pl' : List UInt8} (hb : box.length = 256) (hA : A.length = 16) (hp : pl.length = 16) (hb' : box'.length = 256) (hA' : A'.length = 16) (hp' : pl'.length = 16) : vPut (cipC f box A pl r) 0 (cipC f' box' A' pl' r') kl = kl (cipC f' box' A' pl' r') := vPut_all (by rw [cipC_len hb hA hp, cipC_len hb' hA' hp'])
theorem cip_at_box {x : Nat} (hb : box.length = 256) (hx : x < 256) : vGet (cipC f box A pl r) (1 + x) k = k (.c (.int .u8 ((box.getD x 0).toNat : Int))) := by
  unfold cipC
  rw [vGet_oneAdd, vGet_appL (by rw [bs_length, hb]; exact hx), vGet_bs]
  exact propext ⟨fun y => y.2, fun y => ⟨by omega, y⟩⟩
theorem cip_at_pl {x : Nat} (hb : box.length = 256) (hA : A.length = 16) (hp : pl.length = 16) (hx : x < 16) : vGet (cipC f box A pl r) (273 + x) k = k (.c (.int .u8 ((pl.getD x 0).toNat : Int))) := by
  unfold cipC
  rw [show 273 + x = 1 + (272 + x) by omega, vGet_oneAdd, vGet_appR (by rw [bs_length, hb]; omega), bs_length, hb, show 272 + x - 256 = 16 + x by omega, vGet_appR (by rw [bs_length, hA]; omega), bs_length, hA, Nat.add_sub_cancel_left, vGet_appL (by rw [bs_length, hp]; exact hx), vGet_bs]
  exact propext ⟨fun y => y.2, fun y => ⟨by omega, y⟩⟩
theorem cip_sub_mix {o n : Nat} (hb : box.length = 256) (hA : A.length = 16) (h : o + n ≤ 16) : vSub (cipC f box A pl r) (257 + o) n k = k (.a (bs ((A.drop o).take n))) := by
  unfold cipC
  rw [show 257 + o = 1 + (256 + o) by omega, vSub_oneAdd, vSub_appR (by rw [bs_length, hb]; omega), bs_length, hb, Nat.add_sub_cancel_left, vSub_appL (by rw [bs_length, hA]; exact h), vSub_bs]
  exact propext ⟨fun y => y.2, fun y => ⟨by omega, y⟩⟩
theorem cip_put_mixS {o : Nat} {w : List UInt8} (hb : box.length = 256) (hA : A.length = 16) (h : o + w.length ≤ 16) : vPut (cipC f box A pl r) (257 + o) (bs w) kl = kl (cipC f box (splB A o w) pl r) := by
  unfold cipC
  rw [show 257 + o = 1 + (256 + o) by omega, vPut_oneAdd, vPut_appR (by rw [bs_length, hb]; omega), bs_length, hb, Nat.add_sub_cancel_left, vPut_appL (by rw [bs_length, bs_length, hA]; exact h), vPut_bss]
  exact propext ⟨fun y => y.2, fun y => ⟨by omega, y⟩⟩
end
theorem cip_put_mixA {f r : Int} {box A pl w : List UInt8} {kl : List V → Prop} (hb : box.length = 256) (hA : A.length = 16) (hw : w.length = 16) : vPut (cipC f box A pl r) 257 (bs w) kl = kl (cipC f box w pl r) := by
  rw [show 257 = 257 + 0 from rfl, cip_put_mixS hb hA (by omega)]
  have hd : List.drop 16 A = [] := List.drop_eq_nil_of_le (by omega)
  unfold splB
  simp [hw, hA, hd]
theorem ml1 (a0 a1 a2 a3 : V) : (splice (bs (List.replicate 16 0)) 0 [a0, a1, a2, a3]).length = 16 := rfl
theorem ml2 (a0 a1 a2 a3 b0 b1 b2 b3 : V) : (splice (splice (bs (List.replicate 16 0)) 0 [a0, a1, a2, a3]) 4 [b0, b1, b2, b3]).length = 16 := rfl
theorem ml3 (a0 a1 a2 a3 b0 b1 b2 b3 c0 c1 c2 c3 : V) : (splice (splice (splice (bs (List.replicate 16 0)) 0 [a0, a1, a2, a3]) 4 [b0, b1, b2, b3]) 8 [c0, c1, c2, c3]).length = 16 := rfl
theorem mixV (a0 a1 a2 a3 b0 b1 b2 b3 c0 c1 c2 c3 d0 d1 d2 d3 : V) : splice (splice (splice (splice (bs (List.replicate 16 0)) 0 [a0, a1, a2, a3]) 4 [b0, b1, b2, b3]) 8 [c0, c1, c2, c3]) 12 [d0, d1, d2, d3] = [a0, a1, a2, a3, b0, b1, b2, b3, c0, c1, c2, c3, d0, d1, d2, d3] := rfl
theorem mixW (u : UInt8) : [V.c (.int .u8 1), .c (.int .u8 0), .c (.int .u8 0), .c (.int .u8 0), .c (.int .u8 0), .c (.int .u8 1), .c (.int .u8 0), .c (.int .u8 0), .c (.int .u8 0), .c (.int .u8 0), .c (.int .u8 1), .c (.int .u8 0), .c (.int .u8 (u.toNat : Int)), .c (.int .u8 0), .c (.int .u8 0), .c (.int .u8 1)] = bs [1, 0, 0, 0, 0, 1, 0, 0, 0, 0, 1, 0, u, 0, 0, 1] := rfl
theorem sp0 (a b c d x : V) : splice [a, b, c, d] 0 [x] = [x, b, c, d] := rfl
theorem sp1 (a b c d x : V) : splice [a, b, c, d] 1 [x] = [a, x, c, d] := rfl
theorem sp2 (a b c d x : V) : splice [a, b, c, d] 2 [x] = [a, b, x, d] := rfl
theorem sp3 (a b c d x : V) : splice [a, b, c, d] 3 [x] = [a, b, c, x] := rfl
theorem bP : [V.c (.int .u8 16), .c (.int .u8 1), .c (.int .u8 255)] = bs [16, 1, 255] := rfl
theorem take3 : List.take 3 (bs [16, 1, 255]) = bs [16, 1, 255] := rfl
theorem b4 : bs (List.replicate 4 0) = [.c (.int .u8 0), .c (.int .u8 0), .c (.int .u8 0), .c (.int .u8 0)] := rfl
/-- A cipher as it is drawn: perhaps none. -/
structure DC where
  z : Int
  box : List UInt8
  A : List UInt8
  pl : List UInt8
  n : Int
structure DC.ok (d : DC) : Prop where
  b : d.box.length = 256
  A : d.A.length = 16
  p : d.pl.length = 16
def DC.cells (d : DC) : List V := cipC d.z d.box d.A d.pl d.n
theorem z256 : (List.replicate 256 (0 : UInt8)).length = 256 := List.length_replicate
theorem z16 : (List.replicate 16 (0 : UInt8)).length = 16 := List.length_replicate
theorem svz_inst {g n c : Nat} {q : Nat × Nat} {R : List (Nat × Nat)} (N : Nat) : V.instL ((g, 0) :: R) N (sv 0 n c q) = sv g n c q := by simp [sv, V.instL, V.inst]
/-- Simplifying facts, bundled. -/
theorem SD : type_of% (
  And.intro @svz_inst <|
  And.intro @instL_cip <|
  And.intro @okL_cip <|
  And.intro @sv_inst <|
  And.intro @sv_ok <|
  And.intro @sv_len <|
  And.intro @sv_take <|
  And.intro @nsv_length <|
  And.intro @instL_nsv <|
  And.intro @okL_nsv <|
  And.intro @instL_room <|
  @okL_room) :=
  And.intro @svz_inst <|
  And.intro @instL_cip <|
  And.intro @okL_cip <|
  And.intro @sv_inst <|
  And.intro @sv_ok <|
  And.intro @sv_len <|
  And.intro @sv_take <|
  And.intro @nsv_length <|
  And.intro @instL_nsv <|
  And.intro @okL_nsv <|
  And.intro @instL_room <|
  @okL_room
/-- Simplifying facts, bundled. -/
theorem GD : type_of% (
  And.intro @svz_inst <|
  And.intro @instL_cip <|
  And.intro @cip_build <|
  And.intro @sv_inst <|
  And.intro @sv_len <|
  And.intro @instL_nsv <|
  And.intro @nsv_length <|
  @instL_room) :=
  And.intro @svz_inst <|
  And.intro @instL_cip <|
  And.intro @cip_build <|
  And.intro @sv_inst <|
  And.intro @sv_len <|
  And.intro @instL_nsv <|
  And.intro @nsv_length <|
  @instL_room
section
variable {l : List UInt8} {c : Nat} {q : Nat × Nat}
theorem d_pick8 (hc : l.length ≤ c) (hm : l.length ≤ 4096) (hq : okS l q) (L : List UInt8) (cl : Nat) (hL : 1 ≤ L.length) (hL2 : L.length ≤ 1048576) : LC Tryz.prog 177 [.p 0 0, .s 2 0 L.length cl] [⟨true, sv 1 l.length c q⟩, ⟨false, bs l⟩, ⟨false, bs L⟩] (RetM (fun x : (Nat × Nat) × UInt8 => okS l x.1) fun x => (.c (.int .u8 ((x.2).toNat : Int)), [⟨true, sv 1 l.length c x.1⟩, ⟨false, bs l⟩, ⟨false, bs L⟩], [])) := by
  refine LC_of (X := XX (fun _ => .nil) (fun _ => []) [15, 71, 72, 73, 79, 80, 87, 90, 91, 93, 99, 119, 137, 176, 177, 203, 204, 212, 219] 3) envOK Tryz.func177 (by kernel_rfl) (by kernel_rfl) rfl (Nat.le_of_ble_eq_true (by kernel_rfl)) ?_
  simp only [kFun, Tryz.f177, List.length_nil, List.length_cons, Nat.sub_zero, Nat.reduceSub, Nat.reduceAdd, List.nil_append, List.cons_append, List.replicate_succ, List.replicate_zero]
  simp only [XX, ↓VC, VP, TT, Nat.reduceEqDiff, reduceCtorEq, Nat.reduceAdd, Nat.reduceSub, Nat.reduceLT, Nat.reduceMul, Nat.reducePow, Nat.reduceLeDiff, Int.reduceToNat, Int.reduceLE, Int.reduceLT, Int.reducePow]
  refine kCall_M (d_next hc hm hq (L.length : Int)) (by rfl) [(0, 0), (1, 0)] (by simp [CALL, SCB, SD, nsv]) (by simp [CALL, SCB, SD, nsv]) (by simp) (by simp [CALL, SCB, SD, nsv]) (by simp [okL_bs, okL_room, okL, okV, SD, nsv]) (by intro x _; simp [keepR, bs_length, SD, nsv]) (by simp [CALL, SCB, SD, nsv]) fun x hx => ?_
  simp (config := { maxSteps := 2000000 }) only [CALL, ↓VC, VP, TT, Nat.reduceEqDiff, reduceCtorEq, Nat.reduceAdd, Nat.reduceSub, Nat.reduceLT, Nat.reduceMul, Nat.reducePow, Nat.reduceLeDiff, Int.reduceToNat, Int.reduceLE, Int.reduceLT, Int.reducePow, GOB, GD, cipC_len z256 z16 z16]
  obtain ⟨h1, h2, h3, h4⟩ := hx
  have h3 := h3 (by omega)
  have hj : x.2.toNat < L.length := by omega
  refine ⟨h2, h3, hj, ?_⟩
  refine ⟨_, _, [0, 1, 2], ⟨(x.1, L.getD x.2.toNat 0), h1, rfl, rfl⟩, ?_⟩
  simp [-List.reduceReplicate, LES, sv_ren, sv_ok]
theorem d_cipher (hc : l.length ≤ c) (hm : l.length ≤ 4096) (hq : okS l q) : LC Tryz.prog 176 [.p 0 0] [⟨true, sv 1 l.length c q⟩, ⟨false, bs l⟩] (RetM (fun x : (Nat × Nat) × DC => okS l x.1 ∧ x.2.ok) fun x => (.a x.2.cells, [⟨true, sv 1 l.length c x.1⟩, ⟨false, bs l⟩], [])) := by
  refine LC_of (X := XX (fun | 9 => .one 0 (.one 2 (.one 4 (.one 7 (.one 1 (.one 8 (.one 3 (.one 5 (.one 6 (.one 9 (.one 10 .nil)))))))))) | _ => .nil) (fun _ => []) [15, 71, 72, 73, 79, 80, 87, 90, 91, 93, 99, 119, 137, 176, 177, 203, 204, 212, 219] 2) envOK Tryz.func176 (by kernel_rfl) (by kernel_rfl) rfl (Nat.le_of_ble_eq_true (by kernel_rfl)) ?_
  simp only [kFun, Tryz.f176, List.length_nil, List.length_cons, Nat.sub_zero, Nat.reduceSub, Nat.reduceAdd, List.nil_append, List.cons_append, List.replicate_succ, List.replicate_zero]
  simp only [XX, ↓VC, VP, TT, Nat.reduceEqDiff, reduceCtorEq, Nat.reduceAdd, Nat.reduceSub, Nat.reduceLT, Nat.reduceMul, Nat.reducePow, Nat.reduceLeDiff, Int.reduceToNat, Int.reduceLE, Int.reduceLT, Int.reducePow, cip_build, cipC_len z256 z16 z16]
  refine kCall_M (d_next hc hm hq 20) (by rfl) [(0, 0), (1, 0)] (by simp [CALL, SCB, SD, nsv]) (by simp [CALL, SCB, SD, nsv]) (by simp) (by simp [CALL, SCB, SD, nsv]) (by simp [okL_bs, okL_room, okL, okV, SD, nsv]) (by intro x _; simp [keepR, bs_length, SD, nsv]) (by simp [CALL, SCB, SD, nsv]) fun x1 h1 => ?_
  simp (config := { maxSteps := 2000000 }) only [CALL, ↓VC, VP, TT, Nat.reduceEqDiff, reduceCtorEq, Nat.reduceAdd, Nat.reduceSub, Nat.reduceLT, Nat.reduceMul, Nat.reducePow, Nat.reduceLeDiff, Int.reduceToNat, Int.reduceLE, Int.reduceLT, Int.reducePow, GOB, GD, cipC_len z256 z16 z16]
  refine kCall_M (d_pick hc hm h1.1 [0, 1, 2, 3, 5, 9, x1.2] 7 (by simp) (by simp)) (by rfl) [(0, 0), (1, 0), (3, 0)] (by simp [CALL, SCB, SD, nsv, splice]) (by simp [CALL, SCB, SD, nsv, splice]) (by simp) (by simp [CALL, SCB, SD, nsv, splice]) (by simp [okL_bs, okL_room, okL, okV, SD, nsv, splice]) (by intro x _; simp [keepR, bs_length, SD, nsv, splice]) (by simp [CALL, SCB, SD, nsv, splice]) fun x2 h2 => ?_
  simp (config := { maxSteps := 2000000 }) only [CALL, ↓VC, VP, TT, Nat.reduceEqDiff, reduceCtorEq, Nat.reduceAdd, Nat.reduceSub, Nat.reduceLT, Nat.reduceMul, Nat.reducePow, Nat.reduceLeDiff, Int.reduceToNat, Int.reduceLE, Int.reduceLT, Int.reducePow, GOB, GD, cipC_len z256 z16 z16]
  have hl := cipC_len (f := 285) (r := IntKind.i64.wrap (1 + x2.2)) houseB_len houseA_len houseP_len
  refine kCall_val (c_spec_l04House (IntKind.i64.wrap (1 + x2.2))) (by rfl) [] (by simp [CALL, SCB, SD, nsv, houseC]) (by simp [CALL, SCB, SD, nsv, houseC]) (by simp [CALL, SCB, SD, nsv, houseC]) (by simp [okL_bs, okL_room, okL, okV, SD, nsv, houseC]) ?_
  simp (config := { maxSteps := 2000000 }) only [CALL, ↓VC, VP, TT, Nat.reduceEqDiff, reduceCtorEq, Nat.reduceAdd, Nat.reduceSub, Nat.reduceLT, Nat.reduceMul, Nat.reducePow, Nat.reduceLeDiff, Int.reduceToNat, Int.reduceLE, Int.reduceLT, Int.reducePow, GOB, GD, cipC_len z256 z16 z16, houseC, hl, ↓cip_put_all z256 z16 z16 houseB_len houseA_len houseP_len, ↓cip_all houseB_len houseA_len houseP_len]
  have hq2 := h2.1
  generalize x2.1 = q2 at *
  generalize IntKind.i64.wrap (1 + x2.2) = n at *
  refine kCall_M (d_next hc hm hq2 2) (by rfl) [(0, 0), (1, 0)] (by simp [CALL, SCB, SD, nsv]) (by simp [CALL, SCB, SD, nsv]) (by simp) (by simp [CALL, SCB, SD, nsv]) (by simp [okL_bs, okL_room, okL, okV, SD, nsv]) (by intro x _; simp [keepR, bs_length, SD, nsv]) (by simp [CALL, SCB, SD, nsv]) fun x3 h3 => ?_
  simp (config := { maxSteps := 2000000 }) only [CALL, ↓VC, VP, TT, Nat.reduceEqDiff, reduceCtorEq, Nat.reduceAdd, Nat.reduceSub, Nat.reduceLT, Nat.reduceMul, Nat.reducePow, Nat.reduceLeDiff, Int.reduceToNat, Int.reduceLE, Int.reduceLT, Int.reducePow, GOB, GD, cipC_len z256 z16 z16, hl, ↓cip_put_all z256 z16 z16 houseB_len houseA_len houseP_len, ↓cip_all houseB_len houseA_len houseP_len]
  refine ⟨fun _ => ?_, fun _ => ?_⟩
  · exact ⟨_, _, [0, 1], ⟨(x3.1, ⟨285, houseB, houseA, houseP, n⟩), ⟨h3.1, ⟨houseB_len, houseA_len, houseP_len⟩⟩, rfl, rfl⟩, by simp [-List.reduceReplicate, LES, sv_ren, sv_ok, DC.cells, renL_cip, okL_cip]⟩
  · refine kCall_M (d_field hc hm h3.1) (by rfl) [(0, 0), (1, 0)] (by simp [CALL, SCB, SD, nsv]) (by simp [CALL, SCB, SD, nsv]) (by simp) (by simp [CALL, SCB, SD, nsv]) (by simp [okL_bs, okL_room, okL, okV, SD, nsv]) (by intro x _; simp [keepR, bs_length, SD, nsv]) (by simp [CALL, SCB, SD, nsv]) fun x4 h4 => ?_
    simp (config := { maxSteps := 2000000 }) only [CALL, ↓VC, VP, TT, Nat.reduceEqDiff, reduceCtorEq, Nat.reduceAdd, Nat.reduceSub, Nat.reduceLT, Nat.reduceMul, Nat.reducePow, Nat.reduceLeDiff, Int.reduceToNat, Int.reduceLE, Int.reduceLT, Int.reducePow, GOB, GD, cipC_len z256 z16 z16, hl, ↓cip_put_f]
    obtain ⟨q4, m⟩ := x4
    obtain ⟨hq4, hf⟩ := h4
    simp only at hq4 hf ⊢
    have hmb := field_bd hf
    refine kCall_M (d_box hc hm hq4) (by rfl) [(0, 0), (1, 0)] (by simp [CALL, SCB, SD, nsv]) (by simp [CALL, SCB, SD, nsv]) (by simp) (by simp [CALL, SCB, SD, nsv]) (by simp [okL_bs, okL_room, okL, okV, SD, nsv]) (by intro x _; simp [keepR, bs_length, SD, nsv]) (by simp [CALL, SCB, SD, nsv]) fun x5 h5 => ?_
    obtain ⟨q5, b⟩ := x5
    obtain ⟨hq5, hb⟩ := h5
    simp only at hq5 hb ⊢
    have hl2 : ∀ z A r, A.length = 16 → (cipC z b A houseP r).length = 290 := fun z A r hA => cipC_len hb hA houseP_len
    simp (config := { maxSteps := 2000000 }) only [CALL, ↓VC, VP, TT, Nat.reduceEqDiff, reduceCtorEq, Nat.reduceAdd, Nat.reduceSub, Nat.reduceLT, Nat.reduceMul, Nat.reducePow, Nat.reduceLeDiff, Int.reduceToNat, Int.reduceLE, Int.reduceLT, Int.reducePow, GOB, GD, cipC_len z256 z16 z16, hb, ↓cip_put_box houseB_len hb, hl, hl2 _ _ _ houseA_len]
    refine kCall_M (d_next hc hm hq5 4) (by rfl) [(0, 0), (1, 0)] (by simp [CALL, SCB, SD, nsv]) (by simp [CALL, SCB, SD, nsv]) (by simp) (by simp [CALL, SCB, SD, nsv]) (by simp [okL_bs, okL_room, okL, okV, SD, nsv]) (by intro x _; simp [keepR, bs_length, SD, nsv]) (by simp [CALL, SCB, SD, nsv]) fun x6 h6 => ?_
    simp (config := { maxSteps := 2000000 }) only [CALL, ↓VC, VP, TT, Nat.reduceEqDiff, reduceCtorEq, Nat.reduceAdd, Nat.reduceSub, Nat.reduceLT, Nat.reduceMul, Nat.reducePow, Nat.reduceLeDiff, Int.reduceToNat, Int.reduceLE, Int.reduceLT, Int.reducePow, GOB, GD, cipC_len z256 z16 z16]
    obtain ⟨q6, k6⟩ := x6
    obtain ⟨hq6, h6, h6b, _⟩ := h6
    simp only at hq6 h6 h6b ⊢
    have h6b := h6b (by omega)
    obtain ⟨k6, rfl⟩ : ∃ j : Nat, k6 = j := ⟨k6.toNat, by omega⟩
    refine kLoop_of (fun s : Nat × (Nat × Nat) × List UInt8 => ([.p 0 0, .j, .p 2 0, .p 3 0, .c (.int .i64 (s.1)), .j, .j, .j, .j, .j, .j, .j, .j, .j, .j, .j, .j, .j, .j, .j, .j, .j, .j, .j, .j, .j, .j, .j, .j, .j, .j, .j, .j, .j, .j, .j, .j, .j, .j, .j, .j, .j, .j, .j, .j, .j, .j, .j, .j, .j, .j, .j, .j, .j, .j, .j, .j, .j, .j, .j, .j, .j, .j, .j, .j, .j, .j, .j, .j, .j, .j, .j, .j, .j, .j, .j, .j, .j, .j, .j, .j, .j], [⟨true, sv 1 l.length c s.2.1⟩, ⟨false, bs l⟩, ⟨true, cipC 0 (List.replicate 256 0) (List.replicate 16 0) (List.replicate 16 0) 0⟩, ⟨true, cipC m b s.2.2 houseP n⟩])) (fun s => s.1) (fun s => s.1 ≤ 4 ∧ okS l s.2.1 ∧ s.2.2.length = 16) (k6, q6, houseA) ⟨by simp only; omega, hq6, houseA_len⟩ ⟨[0, 1, 2, 4], by simp [-List.reduceReplicate, LES, sv_ren, sv_ok, renL_cip, okL_cip]⟩ ?_
    clear hq6 h6b h6
    rintro ⟨k6, q6, A⟩ ⟨hk6, hq6, hA⟩
    simp only at hk6 hq6 hA
    rcases Nat.eq_zero_or_pos k6 with h0 | h0
    · subst h0
      simp only [↓VC, VP, TT, Nat.reduceEqDiff, reduceCtorEq, Nat.reduceAdd, Nat.reduceSub, Nat.reduceLT, Nat.reduceMul, Nat.reducePow, Nat.reduceLeDiff, Int.reduceToNat, Int.reduceLE, Int.reduceLT, Int.reducePow, (eq_false (by omega) : (((0 : Nat) : Int) > 0) = False), decide_false, ↓cip_field, ↓cip_mix hb hA]
      have hI := backL_len m hA
      refine kCall_val (c_spec_l03Inverse m A (by omega) (by omega) hA) (by rfl) [] (by simp [CALL, SCB, SD, nsv]) (by simp [CALL, SCB, SD, nsv]) (by simp [CALL, SCB, SD, nsv]) (by simp [okL_bs, okL_room, okL, okV, SD, nsv]) ?_
      simp (config := { maxSteps := 2000000 }) only [CALL, ↓VC, VP, TT, Nat.reduceEqDiff, reduceCtorEq, Nat.reduceAdd, Nat.reduceSub, Nat.reduceLT, Nat.reduceMul, Nat.reducePow, Nat.reduceLeDiff, Int.reduceToNat, Int.reduceLE, Int.reduceLT, Int.reducePow, GOB, GD, cipC_len z256 z16 z16, hI]
      refine ⟨fun _ => ?_, fun _ => ?_⟩
      · simp only [b4, sp0, sp1, sp2, sp3, List.length_cons, List.length_nil, Nat.reduceAdd, Nat.reduceLeDiff, if_true]
        refine kCall_M (d_next hc hm hq6 256) (by rfl) [(0, 0), (1, 0)] (by simp [CALL, SCB, SD, nsv]) (by simp [CALL, SCB, SD, nsv]) (by simp) (by simp [CALL, SCB, SD, nsv]) (by simp [okL_bs, okL_room, okL, okV, SD, nsv]) (by intro x _; simp [keepR, bs_length, SD, nsv]) (by simp [CALL, SCB, SD, nsv]) fun x7 h7 => ?_
        simp (config := { maxSteps := 2000000 }) only [CALL, ↓VC, VP, TT, Nat.reduceEqDiff, reduceCtorEq, Nat.reduceAdd, Nat.reduceSub, Nat.reduceLT, Nat.reduceMul, Nat.reducePow, Nat.reduceLeDiff, Int.reduceToNat, Int.reduceLE, Int.reduceLT, Int.reducePow, GOB, GD, cipC_len z256 z16 z16, wrap_u8, b4, sp0, sp1, sp2, sp3, List.length_cons, List.length_nil, if_true, ml1, ml2, ml3, mixV, mixW]
        have hq7 := h7.1
        generalize hW : ([1, 0, 0, 0, 0, 1, 0, 0, 0, 0, 1, 0, UInt8.ofInt x7.2, 0, 0, 1] : List UInt8) = W
        have hWl : W.length = 16 := by rw [← hW]; rfl
        simp only [↓cip_put_mixA hb hA hWl, bs_length, hWl, true_and]
        refine kCall_M (d_next hc hm hq7 16) (by rfl) [(0, 0), (1, 0)] (by simp [CALL, SCB, SD, nsv]) (by simp [CALL, SCB, SD, nsv]) (by simp) (by simp [CALL, SCB, SD, nsv]) (by simp [okL_bs, okL_room, okL, okV, SD, nsv]) (by intro x _; simp [keepR, bs_length, SD, nsv]) (by simp [CALL, SCB, SD, nsv]) fun x8 h8 => ?_
        simp (config := { maxSteps := 2000000 }) only [CALL, ↓VC, VP, TT, Nat.reduceEqDiff, reduceCtorEq, Nat.reduceAdd, Nat.reduceSub, Nat.reduceLT, Nat.reduceMul, Nat.reducePow, Nat.reduceLeDiff, Int.reduceToNat, Int.reduceLE, Int.reduceLT, Int.reducePow, GOB, GD, cipC_len z256 z16 z16]
        obtain ⟨q8, z8⟩ := x8
        obtain ⟨hq8, h8a, h8b, _⟩ := h8
        simp only at hq8 h8a h8b ⊢
        have h8b := h8b (by omega)
        obtain ⟨i, rfl⟩ : ∃ j : Nat, z8 = j := ⟨z8.toNat, by omega⟩
        have hi : i < 16 := by omega
        refine kCall_M (d_next hc hm hq8 16) (by rfl) [(0, 0), (1, 0)] (by simp [CALL, SCB, SD, nsv]) (by simp [CALL, SCB, SD, nsv]) (by simp) (by simp [CALL, SCB, SD, nsv]) (by simp [okL_bs, okL_room, okL, okV, SD, nsv]) (by intro x _; simp [keepR, bs_length, SD, nsv]) (by simp [CALL, SCB, SD, nsv]) fun x9 h9 => ?_
        obtain ⟨q9, z9⟩ := x9
        obtain ⟨hq9, h9a, h9b, _⟩ := h9
        simp only at hq9 h9a h9b ⊢
        have h9b := h9b (by omega)
        obtain ⟨j, rfl⟩ : ∃ j : Nat, z9 = j := ⟨z9.toNat, by omega⟩
        have hj : j < 16 := by omega
        have hp1 : ∀ u, (houseP.set i u).length = 16 := fun u => by rw [List.length_set, houseP_len]
        have hp2 : ∀ u v, ((houseP.set i u).set j v).length = 16 := fun u v => by rw [List.length_set, hp1]
        simp (config := { maxSteps := 2000000 }) only [CALL, ↓VC, VP, TT, Nat.reduceEqDiff, reduceCtorEq, Nat.reduceAdd, Nat.reduceSub, Nat.reduceLT, Nat.reduceMul, Nat.reducePow, Nat.reduceLeDiff, Int.reduceToNat, Int.reduceLE, Int.reduceLT, Int.reducePow, GOB, GD, cipC_len z256 z16 z16, Int.toNat_natCast, hi, hj, ofInt_toNat, cipC_len hb hWl houseP_len, cipC_len hb hWl (hp1 _), cipC_len hb hWl (hp2 _ _), ↓cip_at_pl hb hWl houseP_len hi, ↓cip_at_pl hb hWl houseP_len hj, ↓cip_put_pl hb hWl houseP_len hi (of_eq_true (inU8_toNat _)), ↓cip_put_pl hb hWl (hp1 _) hj (of_eq_true (inU8_toNat _)), ↓cip_put_all z256 z16 z16 hb hWl (hp2 _ _), ↓cip_all hb hWl (hp2 _ _)]
        repeat (refine ⟨by first | omega | (simp; done) | decide, ?_⟩)
        exact ⟨_, _, [0, 1], ⟨(q9, ⟨m, b, W, (houseP.set i (houseP.getD j 0)).set j (houseP.getD i 0), n⟩), ⟨hq9, ⟨hb, hWl, hp2 _ _⟩⟩, rfl, rfl⟩, by simp [-List.reduceReplicate, LES, sv_ren, sv_ok, DC.cells, renL_cip, okL_cip]⟩
      · skip
        refine kCall_M (d_next hc hm hq6 16) (by rfl) [(0, 0), (1, 0)] (by simp [CALL, SCB, SD, nsv]) (by simp [CALL, SCB, SD, nsv]) (by simp) (by simp [CALL, SCB, SD, nsv]) (by simp [okL_bs, okL_room, okL, okV, SD, nsv]) (by intro x _; simp [keepR, bs_length, SD, nsv]) (by simp [CALL, SCB, SD, nsv]) fun x8 h8 => ?_
        simp (config := { maxSteps := 2000000 }) only [CALL, ↓VC, VP, TT, Nat.reduceEqDiff, reduceCtorEq, Nat.reduceAdd, Nat.reduceSub, Nat.reduceLT, Nat.reduceMul, Nat.reducePow, Nat.reduceLeDiff, Int.reduceToNat, Int.reduceLE, Int.reduceLT, Int.reducePow, GOB, GD, cipC_len z256 z16 z16]
        obtain ⟨q8, z8⟩ := x8
        obtain ⟨hq8, h8a, h8b, _⟩ := h8
        simp only at hq8 h8a h8b ⊢
        have h8b := h8b (by omega)
        obtain ⟨i, rfl⟩ : ∃ j : Nat, z8 = j := ⟨z8.toNat, by omega⟩
        have hi : i < 16 := by omega
        refine kCall_M (d_next hc hm hq8 16) (by rfl) [(0, 0), (1, 0)] (by simp [CALL, SCB, SD, nsv]) (by simp [CALL, SCB, SD, nsv]) (by simp) (by simp [CALL, SCB, SD, nsv]) (by simp [okL_bs, okL_room, okL, okV, SD, nsv]) (by intro x _; simp [keepR, bs_length, SD, nsv]) (by simp [CALL, SCB, SD, nsv]) fun x9 h9 => ?_
        obtain ⟨q9, z9⟩ := x9
        obtain ⟨hq9, h9a, h9b, _⟩ := h9
        simp only at hq9 h9a h9b ⊢
        have h9b := h9b (by omega)
        obtain ⟨j, rfl⟩ : ∃ j : Nat, z9 = j := ⟨z9.toNat, by omega⟩
        have hj : j < 16 := by omega
        have hp1 : ∀ u, (houseP.set i u).length = 16 := fun u => by rw [List.length_set, houseP_len]
        have hp2 : ∀ u v, ((houseP.set i u).set j v).length = 16 := fun u v => by rw [List.length_set, hp1]
        simp (config := { maxSteps := 2000000 }) only [CALL, ↓VC, VP, TT, Nat.reduceEqDiff, reduceCtorEq, Nat.reduceAdd, Nat.reduceSub, Nat.reduceLT, Nat.reduceMul, Nat.reducePow, Nat.reduceLeDiff, Int.reduceToNat, Int.reduceLE, Int.reduceLT, Int.reducePow, GOB, GD, cipC_len z256 z16 z16, Int.toNat_natCast, hi, hj, ofInt_toNat, cipC_len hb hA houseP_len, cipC_len hb hA (hp1 _), cipC_len hb hA (hp2 _ _), ↓cip_at_pl hb hA houseP_len hi, ↓cip_at_pl hb hA houseP_len hj, ↓cip_put_pl hb hA houseP_len hi (of_eq_true (inU8_toNat _)), ↓cip_put_pl hb hA (hp1 _) hj (of_eq_true (inU8_toNat _)), ↓cip_put_all z256 z16 z16 hb hA (hp2 _ _), ↓cip_all hb hA (hp2 _ _)]
        repeat (refine ⟨by first | omega | (simp; done) | decide, ?_⟩)
        exact ⟨_, _, [0, 1], ⟨(q9, ⟨m, b, A, (houseP.set i (houseP.getD j 0)).set j (houseP.getD i 0), n⟩), ⟨hq9, ⟨hb, hA, hp2 _ _⟩⟩, rfl, rfl⟩, by simp [-List.reduceReplicate, LES, sv_ren, sv_ok, DC.cells, renL_cip, okL_cip]⟩
    · simp only [↓VC, VP, TT, Nat.reduceEqDiff, reduceCtorEq, Nat.reduceAdd, Nat.reduceSub, Nat.reduceLT, Nat.reduceMul, Nat.reducePow, Nat.reduceLeDiff, Int.reduceToNat, Int.reduceLE, Int.reduceLT, Int.reducePow, (eq_true (by omega) : ((k6 : Int) > 0) = True), decide_true]
      refine kCall_M (d_next hc hm hq6 4) (by rfl) [(0, 0), (1, 0)] (by simp [CALL, SCB, SD, nsv]) (by simp [CALL, SCB, SD, nsv]) (by simp) (by simp [CALL, SCB, SD, nsv]) (by simp [okL_bs, okL_room, okL, okV, SD, nsv]) (by intro x _; simp [keepR, bs_length, SD, nsv]) (by simp [CALL, SCB, SD, nsv]) fun x7 h7 => ?_
      simp (config := { maxSteps := 2000000 }) only [CALL, ↓VC, VP, TT, Nat.reduceEqDiff, reduceCtorEq, Nat.reduceAdd, Nat.reduceSub, Nat.reduceLT, Nat.reduceMul, Nat.reducePow, Nat.reduceLeDiff, Int.reduceToNat, Int.reduceLE, Int.reduceLT, Int.reducePow, GOB, GD, cipC_len z256 z16 z16]
      obtain ⟨q7, z7⟩ := x7
      obtain ⟨hq7, h7a, h7b, _⟩ := h7
      simp only at hq7 h7a h7b ⊢
      have h7b := h7b (by omega)
      obtain ⟨i, rfl⟩ : ∃ j : Nat, z7 = j := ⟨z7.toNat, by omega⟩
      have hi : i < 4 := by omega
      try simp only [Int.toNat_natCast, hi]
      try refine ⟨by omega, by omega, ?_⟩
      refine kCall_M (d_next hc hm hq7 4) (by rfl) [(0, 0), (1, 0)] (by simp [CALL, SCB, SD, nsv]) (by simp [CALL, SCB, SD, nsv]) (by simp) (by simp [CALL, SCB, SD, nsv]) (by simp [okL_bs, okL_room, okL, okV, SD, nsv]) (by intro x _; simp [keepR, bs_length, SD, nsv]) (by simp [CALL, SCB, SD, nsv]) fun x8 h8 => ?_
      simp (config := { maxSteps := 2000000 }) only [CALL, ↓VC, VP, TT, Nat.reduceEqDiff, reduceCtorEq, Nat.reduceAdd, Nat.reduceSub, Nat.reduceLT, Nat.reduceMul, Nat.reducePow, Nat.reduceLeDiff, Int.reduceToNat, Int.reduceLE, Int.reduceLT, Int.reducePow, GOB, GD, cipC_len z256 z16 z16]
      obtain ⟨q8, z8⟩ := x8
      obtain ⟨hq8, h8a, h8b, _⟩ := h8
      simp only at hq8 h8a h8b ⊢
      have h8b := h8b (by omega)
      obtain ⟨j, rfl⟩ : ∃ j : Nat, z8 = j := ⟨z8.toNat, by omega⟩
      have hj : j < 4 := by omega
      refine kCall_M (d_next hc hm hq8 256) (by rfl) [(0, 0), (1, 0)] (by simp [CALL, SCB, SD, nsv]) (by simp [CALL, SCB, SD, nsv]) (by simp) (by simp [CALL, SCB, SD, nsv]) (by simp [okL_bs, okL_room, okL, okV, SD, nsv]) (by intro x _; simp [keepR, bs_length, SD, nsv]) (by simp [CALL, SCB, SD, nsv]) fun x9 h9 => ?_
      simp (config := { maxSteps := 2000000 }) only [CALL, ↓VC, VP, TT, Nat.reduceEqDiff, reduceCtorEq, Nat.reduceAdd, Nat.reduceSub, Nat.reduceLT, Nat.reduceMul, Nat.reducePow, Nat.reduceLeDiff, Int.reduceToNat, Int.reduceLE, Int.reduceLT, Int.reducePow, GOB, GD, cipC_len z256 z16 z16, wrap_u8, Int.toNat_natCast, ↓cip_put_mix2 hb hA hi hj (of_eq_true (inU8_toNat _))]
      repeat (refine ⟨by first | omega | (simp; done) | decide, ?_⟩)
      refine ⟨(k6 - 1, x9.1, A.set (4 * i + j) (UInt8.ofInt x9.2)), ⟨by simp only; omega, h9.1, by simp only [List.length_set]; exact hA⟩, by simp only; omega, [0, 1, 2, 3], ?_⟩
      rw [wrap_i64 (by omega) (by omega), show (k6 : Int) - 1 = ((k6 - 1 : Nat) : Int) by omega]
      simp [-List.reduceReplicate, LES, sv_ren, sv_ok, renL_cip, okL_cip]
theorem d_cipherS (hc : l.length ≤ c) (hm : l.length ≤ 4096) (hq : okS l q) : LC Tryz.prog 137 [.p 0 0] [⟨true, sv 1 l.length c q⟩, ⟨false, bs l⟩] (RetM (fun x : (Nat × Nat) × DC => okS l x.1 ∧ x.2.ok) fun x => (.a x.2.cells, [⟨true, sv 1 l.length c x.1⟩, ⟨false, bs l⟩], [])) := by
  refine LC_of (X := XX (fun _ => .nil) (fun _ => []) [15, 71, 72, 73, 79, 80, 87, 90, 91, 93, 99, 119, 137, 176, 177, 203, 204, 212, 219] 2) envOK Tryz.func137 (by kernel_rfl) (by kernel_rfl) rfl (Nat.le_of_ble_eq_true (by kernel_rfl)) ?_
  simp only [kFun, Tryz.f137, List.length_nil, List.length_cons, Nat.sub_zero, Nat.reduceSub, Nat.reduceAdd, List.nil_append, List.cons_append, List.replicate_succ, List.replicate_zero]
  simp only [XX, ↓VC, VP, TT, Nat.reduceEqDiff, reduceCtorEq, Nat.reduceAdd, Nat.reduceSub, Nat.reduceLT, Nat.reduceMul, Nat.reducePow, Nat.reduceLeDiff, Int.reduceToNat, Int.reduceLE, Int.reduceLT, Int.reducePow, cip_build, cipC_len z256 z16 z16]
  refine kCall_M (d_cipher hc hm hq) (by rfl) [(0, 0), (1, 0)] (by simp [CALL, SCB, SD, nsv]) (by simp [CALL, SCB, SD, nsv]) (by simp) (by simp [CALL, SCB, SD, nsv]) (by simp [okL_bs, okL_room, okL, okV, SD, nsv]) (by intro x _; simp [keepR, bs_length, SD, nsv]) (by simp [CALL, SCB, SD, nsv]) fun x1 h1 => ?_
  obtain ⟨q1, ⟨z, b, A, pl, n⟩⟩ := x1
  obtain ⟨hq1, ⟨hb, hA, hp⟩⟩ := h1
  simp only [DC.cells] at hq1 hb hA hp ⊢
  simp (config := { maxSteps := 2000000 }) only [CALL, ↓VC, VP, TT, Nat.reduceEqDiff, reduceCtorEq, Nat.reduceAdd, Nat.reduceSub, Nat.reduceLT, Nat.reduceMul, Nat.reducePow, Nat.reduceLeDiff, Int.reduceToNat, Int.reduceLE, Int.reduceLT, Int.reducePow, GOB, GD, cipC_len z256 z16 z16, cipC_len hb hA hp]
  have hr : ((A.drop 4).take 4).length = 4 := by simp [hA]
  have hA2 : (splB A 0 ((A.drop 4).take 4)).length = 16 := by rw [splB_length (by omega), hA]
  have hb2 : ∀ u, (b.set 0 u).length = 256 := fun u => by rw [List.length_set, hb]
  have hp2 : ∀ u, (pl.set 0 u).length = 16 := fun u => by rw [List.length_set, hp]
  have hp3 : ∀ u v, ((pl.set 0 u).set 1 v).length = 16 := fun u v => by rw [List.length_set, hp2]
  have e1 : ∀ k : V → Prop, vGet (cipC z b A pl n) 2 k = k (.c (.int .u8 ((b.getD 1 0).toNat : Int))) := fun k => cip_at_box (x := 1) hb (by omega)
  have e2 : ∀ (u : UInt8) (kl : List V → Prop), vPut (cipC z b A pl n) 1 [.c (.int .u8 (u.toNat : Int))] kl = kl (cipC z (b.set 0 u) A pl n) := fun u kl => by
    have := cip_put_box1 (f := z) (r := n) (A := A) (pl := pl) (kl := kl) (x := 0) hb (by omega) (of_eq_true (inU8_toNat u))
    rw [ofInt_toNat] at this; exact this
  have e3 : ∀ k : V → Prop, vSub (cipC z b A pl n) 261 4 k = k (.a (bs ((A.drop 4).take 4))) := fun k => cip_sub_mix (o := 4) hb hA (by omega)
  have e4 : ∀ kl : List V → Prop, vPut (cipC z b A pl n) 257 (bs ((A.drop 4).take 4)) kl = kl (cipC z b (splB A 0 ((A.drop 4).take 4)) pl n) := fun kl => cip_put_mixS (o := 0) hb hA (by omega)
  have e5 : ∀ (u : UInt8) (kl : List V → Prop), vPut (cipC z b A pl n) 273 [.c (.int .u8 (u.toNat : Int))] kl = kl (cipC z b A (pl.set 0 u) n) := fun u kl => by
    have := cip_put_pl (f := z) (r := n) (kl := kl) (x := 0) hb hA hp (by omega) (of_eq_true (inU8_toNat u))
    rw [ofInt_toNat] at this; exact this
  have e6 : ∀ (u : UInt8) (k : V → Prop), vGet (cipC z b A (pl.set 0 u) n) 273 k = k (.c (.int .u8 (((pl.set 0 u).getD 0 0).toNat : Int))) := fun u k => cip_at_pl (x := 0) hb hA (hp2 u) (by omega)
  have e7 : ∀ (u v : UInt8) (kl : List V → Prop), vPut (cipC z b A (pl.set 0 u) n) 274 [.c (.int .u8 (v.toNat : Int))] kl = kl (cipC z b A ((pl.set 0 u).set 1 v) n) := fun u v kl => by
    have := cip_put_pl (f := z) (r := n) (kl := kl) (x := 1) hb hA (hp2 u) (by omega) (of_eq_true (inU8_toNat v))
    rw [ofInt_toNat] at this; exact this
  refine kCall_M (d_next hc hm hq1 24) (by rfl) [(0, 0), (1, 0)] (by simp [CALL, SCB, SD, nsv]) (by simp [CALL, SCB, SD, nsv]) (by simp) (by simp [CALL, SCB, SD, nsv]) (by simp [okL_bs, okL_room, okL, okV, SD, nsv]) (by intro x _; simp [keepR, bs_length, SD, nsv]) (by simp [CALL, SCB, SD, nsv]) fun x2 h2 => ?_
  simp (config := { maxSteps := 2000000 }) only [CALL, ↓VC, VP, TT, Nat.reduceEqDiff, reduceCtorEq, Nat.reduceAdd, Nat.reduceSub, Nat.reduceLT, Nat.reduceMul, Nat.reducePow, Nat.reduceLeDiff, Int.reduceToNat, Int.reduceLE, Int.reduceLT, Int.reducePow, GOB, GD, cipC_len z256 z16 z16, cipC_len hb hA hp, cipC_len (hb2 _) hA hp, cipC_len hb hA2 hp, ↓e1, ↓e2, ↓e3, ↓e4, bs_length, hr, ↓cip_put_all z256 z16 z16 hb hA hp, ↓cip_put_all z256 z16 z16 (hb2 _) hA hp, ↓cip_put_all z256 z16 z16 hb hA2 hp, ↓cip_all hb hA hp, ↓cip_all (hb2 _) hA hp, ↓cip_all hb hA2 hp]
  have hq2 := h2.1
  refine ⟨fun _ => ?_, fun _ => ⟨fun _ => ?_, fun _ => ⟨fun _ => ?_, fun _ => ⟨fun _ => ?_, fun _ => ⟨fun _ => ?_, fun _ => ?_⟩⟩⟩⟩⟩
  · refine kCall_M (d_pick hc hm hq2 [256, 511, 0, 512] 4 (by simp) (by simp)) (by rfl) [(0, 0), (1, 0), (4, 0)] (by simp [CALL, SCB, SD, nsv, splice]) (by simp [CALL, SCB, SD, nsv, splice]) (by simp) (by simp [CALL, SCB, SD, nsv, splice]) (by simp [okL_bs, okL_room, okL, okV, SD, nsv, splice]) (by intro x _; simp [keepR, bs_length, SD, nsv, splice]) (by simp [CALL, SCB, SD, nsv, splice]) fun x3 h3 => ?_
    simp (config := { maxSteps := 2000000 }) only [CALL, ↓VC, VP, TT, Nat.reduceEqDiff, reduceCtorEq, Nat.reduceAdd, Nat.reduceSub, Nat.reduceLT, Nat.reduceMul, Nat.reducePow, Nat.reduceLeDiff, Int.reduceToNat, Int.reduceLE, Int.reduceLT, Int.reducePow, GOB, GD, cipC_len z256 z16 z16, cipC_len hb hA hp, ↓cip_put_f, ↓cip_put_all z256 z16 z16 hb hA hp, ↓cip_all hb hA hp]
    exact ⟨_, _, [0, 1], ⟨(x3.1, ⟨x3.2, b, A, pl, n⟩), ⟨h3.1, ⟨hb, hA, hp⟩⟩, rfl, rfl⟩, by simp [-List.reduceReplicate, LES, sv_ren, sv_ok, DC.cells, renL_cip, okL_cip]⟩
  · repeat (refine ⟨by first | omega | (simp; done) | decide, ?_⟩)
    exact ⟨_, _, [0, 1], ⟨(x2.1, ⟨z, b.set 0 (b.getD 1 0), A, pl, n⟩), ⟨hq2, ⟨hb2 _, hA, hp⟩⟩, rfl, rfl⟩, by simp [-List.reduceReplicate, LES, sv_ren, sv_ok, DC.cells, renL_cip, okL_cip]⟩
  · repeat (refine ⟨by first | omega | (simp; done) | decide, ?_⟩)
    exact ⟨_, _, [0, 1], ⟨(x2.1, ⟨z, b, splB A 0 ((A.drop 4).take 4), pl, n⟩), ⟨hq2, ⟨hb, hA2, hp⟩⟩, rfl, rfl⟩, by simp [-List.reduceReplicate, LES, sv_ren, sv_ok, DC.cells, renL_cip, okL_cip]⟩
  · refine kCall_M (d_pick8 hc hm hq2 [16, 1, 255] 3 (by simp) (by simp)) (by rfl) [(0, 0), (1, 0), (4, 0)] (by simp [CALL, SCB, SD, nsv, splice, bP, take3]) (by simp [CALL, SCB, SD, nsv, splice, bP, take3]) (by simp) (by simp [CALL, SCB, SD, nsv, splice, bP, take3]) (by simp [okL_bs, okL_room, okL, okV, SD, nsv, splice, bP, take3]) (by intro x _; simp [keepR, bs_length, SD, nsv, splice, bP, take3]) (by simp [CALL, SCB, SD, nsv, splice, bP, take3]) fun x3 h3 => ?_
    simp (config := { maxSteps := 2000000 }) only [CALL, ↓VC, VP, TT, Nat.reduceEqDiff, reduceCtorEq, Nat.reduceAdd, Nat.reduceSub, Nat.reduceLT, Nat.reduceMul, Nat.reducePow, Nat.reduceLeDiff, Int.reduceToNat, Int.reduceLE, Int.reduceLT, Int.reducePow, GOB, GD, cipC_len z256 z16 z16, cipC_len hb hA hp, cipC_len hb hA (hp3 _ _), ↓e5, ↓e6, ↓e7, ↓cip_put_all z256 z16 z16 hb hA (hp3 _ _), ↓cip_all hb hA (hp3 _ _)]
    repeat (refine ⟨by first | omega | (simp; done) | decide, ?_⟩)
    exact ⟨_, _, [0, 1], ⟨(x3.1, ⟨z, b, A, (pl.set 0 x3.2).set 1 ((pl.set 0 x3.2).getD 0 0), n⟩), ⟨h3, ⟨hb, hA, hp3 _ _⟩⟩, rfl, rfl⟩, by simp [-List.reduceReplicate, LES, sv_ren, sv_ok, DC.cells, renL_cip, okL_cip]⟩
  · refine kCall_M (d_pick hc hm hq2 [0, 21, -1] 3 (by simp) (by simp)) (by rfl) [(0, 0), (1, 0), (4, 0)] (by simp [CALL, SCB, SD, nsv, splice]) (by simp [CALL, SCB, SD, nsv, splice]) (by simp) (by simp [CALL, SCB, SD, nsv, splice]) (by simp [okL_bs, okL_room, okL, okV, SD, nsv, splice]) (by intro x _; simp [keepR, bs_length, SD, nsv, splice]) (by simp [CALL, SCB, SD, nsv, splice]) fun x3 h3 => ?_
    simp (config := { maxSteps := 2000000 }) only [CALL, ↓VC, VP, TT, Nat.reduceEqDiff, reduceCtorEq, Nat.reduceAdd, Nat.reduceSub, Nat.reduceLT, Nat.reduceMul, Nat.reducePow, Nat.reduceLeDiff, Int.reduceToNat, Int.reduceLE, Int.reduceLT, Int.reducePow, GOB, GD, cipC_len z256 z16 z16, cipC_len hb hA hp, ↓cip_put_n hb hA hp, ↓cip_put_all z256 z16 z16 hb hA hp, ↓cip_all hb hA hp]
    exact ⟨_, _, [0, 1], ⟨(x3.1, ⟨z, b, A, pl, x3.2⟩), ⟨h3.1, ⟨hb, hA, hp⟩⟩, rfl, rfl⟩, by simp [-List.reduceReplicate, LES, sv_ren, sv_ok, DC.cells, renL_cip, okL_cip]⟩
  · exact ⟨_, _, [0, 1], ⟨(x2.1, ⟨z, b, A, pl, n⟩), ⟨hq2, ⟨hb, hA, hp⟩⟩, rfl, rfl⟩, by simp [-List.reduceReplicate, LES, sv_ren, sv_ok, DC.cells, renL_cip, okL_cip]⟩
theorem d_three (hc : l.length ≤ c) (hm : l.length ≤ 4096) : LC Tryz.prog 169 [.s 0 0 l.length c] [⟨false, bs l⟩] (Ret [⟨false, bs l⟩] (fun x : DC × List UInt8 × List UInt8 => x.1.ok ∧ x.2.1.length = 16 ∧ x.2.2.length = 16) fun x => (.t [.a x.1.cells, .a (bs x.2.1), .a (bs x.2.2)], [])) := by
  refine LC_of (X := XX (fun _ => .nil) (fun _ => []) [15, 71, 72, 73, 79, 80, 87, 90, 91, 93, 99, 119, 137, 176, 177, 203, 204, 212, 219] 1) envOK Tryz.func169 (by kernel_rfl) (by kernel_rfl) rfl (Nat.le_of_ble_eq_true (by kernel_rfl)) ?_
  simp only [kFun, Tryz.f169, List.length_nil, List.length_cons, Nat.sub_zero, Nat.reduceSub, Nat.reduceAdd, List.nil_append, List.cons_append, List.replicate_succ, List.replicate_zero]
  simp only [XX, ↓VC, VP, TT, Nat.reduceEqDiff, reduceCtorEq, Nat.reduceAdd, Nat.reduceSub, Nat.reduceLT, Nat.reduceMul, Nat.reducePow, Nat.reduceLeDiff, Int.reduceToNat, Int.reduceLE, Int.reduceLT, Int.reducePow, cip_build, cipC_len z256 z16 z16]
  refine kCall_Ret (d_from hc hm) (by rfl) [(0, 0)] (by simp [CALL, SCB, SD, nsv]) (by simp [CALL, SCB, SD, nsv]) (by simp [CALL, SCB, SD, nsv]) (by simp [okL_bs, okL_room, okL, okV, SD, nsv]) (by simp [CALL, SCB, SD, nsv]) fun q hq => ?_
  simp (config := { maxSteps := 2000000 }) only [CALL, ↓VC, VP, TT, Nat.reduceEqDiff, reduceCtorEq, Nat.reduceAdd, Nat.reduceSub, Nat.reduceLT, Nat.reduceMul, Nat.reducePow, Nat.reduceLeDiff, Int.reduceToNat, Int.reduceLE, Int.reduceLT, Int.reducePow, GOB, GD, cipC_len z256 z16 z16]
  refine kCall_M (d_cipherS hc hm hq) (by rfl) [(4, 0), (0, 0)] (by simp [CALL, SCB, SD, nsv]) (by simp [CALL, SCB, SD, nsv]) (by simp) (by simp [CALL, SCB, SD, nsv]) (by simp [okL_bs, okL_room, okL, okV, SD, nsv]) (by intro x _; simp [keepR, bs_length, SD, nsv]) (by simp [CALL, SCB, SD, nsv]) fun x1 h1 => ?_
  obtain ⟨q1, ⟨z, b, A, pl, n⟩⟩ := x1
  obtain ⟨hq1, ⟨hb, hA, hp⟩⟩ := h1
  simp only [DC.cells] at hq1 hb hA hp ⊢
  simp (config := { maxSteps := 2000000 }) only [CALL, ↓VC, VP, TT, Nat.reduceEqDiff, reduceCtorEq, Nat.reduceAdd, Nat.reduceSub, Nat.reduceLT, Nat.reduceMul, Nat.reducePow, Nat.reduceLeDiff, Int.reduceToNat, Int.reduceLE, Int.reduceLT, Int.reducePow, GOB, GD, cipC_len z256 z16 z16, cipC_len hb hA hp]
  refine kCall_M (z_block hc hm hq1) (by rfl) [(4, 0), (0, 0)] (by simp [CALL, SCB, SD, nsv]) (by simp [CALL, SCB, SD, nsv]) (by simp) (by simp [CALL, SCB, SD, nsv]) (by simp [okL_bs, okL_room, okL, okV, SD, nsv]) (by intro x _; simp [keepR, bs_length, SD, nsv]) (by simp [CALL, SCB, SD, nsv]) fun x2 h2 => ?_
  obtain ⟨q2, k⟩ := x2
  obtain ⟨hq2, hk⟩ := h2
  simp only at hq2 hk ⊢
  simp (config := { maxSteps := 2000000 }) only [CALL, ↓VC, VP, TT, Nat.reduceEqDiff, reduceCtorEq, Nat.reduceAdd, Nat.reduceSub, Nat.reduceLT, Nat.reduceMul, Nat.reducePow, Nat.reduceLeDiff, Int.reduceToNat, Int.reduceLE, Int.reduceLT, Int.reducePow, GOB, GD, cipC_len z256 z16 z16, hk]
  refine kCall_M (z_block hc hm hq2) (by rfl) [(4, 0), (0, 0)] (by simp [CALL, SCB, SD, nsv]) (by simp [CALL, SCB, SD, nsv]) (by simp) (by simp [CALL, SCB, SD, nsv]) (by simp [okL_bs, okL_room, okL, okV, SD, nsv]) (by intro x _; simp [keepR, bs_length, SD, nsv]) (by simp [CALL, SCB, SD, nsv]) fun x3 h3 => ?_
  obtain ⟨q3, s⟩ := x3
  obtain ⟨hq3, hs⟩ := h3
  simp only at hq3 hs ⊢
  simp (config := { maxSteps := 2000000 }) only [CALL, ↓VC, VP, TT, Nat.reduceEqDiff, reduceCtorEq, Nat.reduceAdd, Nat.reduceSub, Nat.reduceLT, Nat.reduceMul, Nat.reducePow, Nat.reduceLeDiff, Int.reduceToNat, Int.reduceLE, Int.reduceLT, Int.reducePow, GOB, GD, cipC_len z256 z16 z16, hk, hs, cipC_len hb hA hp, ↓cip_put_all z256 z16 z16 hb hA hp, ↓cip_all hb hA hp]
  exact ⟨_, _, [0], ⟨(⟨z, b, A, pl, n⟩, k, s), ⟨⟨hb, hA, hp⟩, hk, hs⟩, rfl, rfl⟩, by simp [-List.reduceReplicate, LES, renL_cip, okL_cip]⟩
end
end Go.Proofs.YtahnjhppkgndiaaGreat
/- Draws for the modes. -/
set_option linter.unusedSimpArgs false
set_option linter.unusedVariables false
namespace Go.Proofs.YtahnjhppkgndiaaGreat
open Go Go.Vc
set_option maxRecDepth 10000
set_option maxHeartbeats 40000000
theorem startV (u : UInt8) : splice (splice (splice (splice (splice (splice (splice (splice (bs (List.replicate 16 0)) 8 [V.c (.int .u8 255)]) 9 [V.c (.int .u8 255)]) 10 [V.c (.int .u8 255)]) 11 [V.c (.int .u8 255)]) 12 [V.c (.int .u8 255)]) 13 [V.c (.int .u8 255)]) 14 [V.c (.int .u8 255)]) 15 [V.c (.int .u8 (u.toNat : Int))] = bs [0, 0, 0, 0, 0, 0, 0, 0, 255, 255, 255, 255, 255, 255, 255, u] := rfl
theorem s16 {L : List V} {o : Nat} {x : V} (h : L.length = 16) (ho : o < 16) : (splice L o [x]).length = 16 := by rw [splice_length (by simp; omega), h]
section
variable {l : List UInt8} {c : Nat} {q : Nat × Nat}
theorem d_seven (hc : l.length ≤ c) (hm : l.length ≤ 4096) (least : Nat) (hl : least ≤ 32) : LC Tryz.prog 121 [.s 0 0 l.length c, .c (.int .i64 (least))] [⟨false, bs l⟩] (Ret [⟨false, bs l⟩] (fun x : DC × List UInt8 × List UInt8 × List UInt8 × Nat => x.1.ok ∧ x.2.1.length = 16 ∧ x.2.2.1.length = 16 ∧ x.2.2.2.1.length ≤ 2017) fun x => (.t [.a x.1.cells, .a (bs x.2.1), .a (bs x.2.2.1), .s 1 0 x.2.2.2.1.length (x.2.2.2.1.length + x.2.2.2.2)], [⟨true, bs x.2.2.2.1 ++ List.replicate x.2.2.2.2 .j⟩])) := by
  refine LC_of (X := XX (fun | 11 => .cut (.one 0 (.one 3 (.alt (.one 1 (.alt (.one 2 (.one 4 (.one 5 (.one 6 (.one 7 .nil))))) (.one 4 (.alt (.one 2 (.one 5 (.one 6 (.one 7 .nil)))) (.one 5 (.one 2 (.one 6 (.one 7 .nil)))))))) (.alt (.one 2 (.alt (.one 1 (.one 4 (.one 5 (.one 6 (.one 7 .nil))))) (.one 4 (.one 1 (.one 5 (.one 6 (.one 7 .nil))))))) (.one 4 (.one 1 (.alt (.one 2 (.one 5 (.one 6 (.one 7 .nil)))) (.one 5 (.one 2 (.one 6 (.one 7 .nil))))))))))) | _ => .nil) (fun _ => []) [15, 71, 72, 73, 79, 80, 87, 90, 91, 93, 99, 119, 137, 176, 177, 203, 204, 212, 219] 1) envOK Tryz.func121 (by kernel_rfl) (by kernel_rfl) rfl (Nat.le_of_ble_eq_true (by kernel_rfl)) ?_
  simp only [kFun, Tryz.f121, List.length_nil, List.length_cons, Nat.sub_zero, Nat.reduceSub, Nat.reduceAdd, List.nil_append, List.cons_append, List.replicate_succ, List.replicate_zero]
  simp only [XX, ↓VC, VP, TT, Nat.reduceEqDiff, reduceCtorEq, Nat.reduceAdd, Nat.reduceSub, Nat.reduceLT, Nat.reduceMul, Nat.reducePow, Nat.reduceLeDiff, Int.reduceToNat, Int.reduceLE, Int.reduceLT, Int.reducePow, cip_build, cipC_len z256 z16 z16]
  refine kCall_Ret (d_from hc hm) (by rfl) [(0, 0)] (by simp [CALL, SCB, SD, nsv]) (by simp [CALL, SCB, SD, nsv]) (by simp [CALL, SCB, SD, nsv]) (by simp [okL_bs, okL_room, okL, okV, SD, nsv]) (by simp [CALL, SCB, SD, nsv]) fun q hq => ?_
  simp (config := { maxSteps := 2000000 }) only [CALL, ↓VC, VP, TT, Nat.reduceEqDiff, reduceCtorEq, Nat.reduceAdd, Nat.reduceSub, Nat.reduceLT, Nat.reduceMul, Nat.reducePow, Nat.reduceLeDiff, Int.reduceToNat, Int.reduceLE, Int.reduceLT, Int.reducePow, GOB, GD, cipC_len z256 z16 z16]
  refine kCall_Ret (d_three hc hm) (by rfl) [(0, 0)] (by simp [CALL, SCB, SD, nsv]) (by simp [CALL, SCB, SD, nsv]) (by simp [CALL, SCB, SD, nsv]) (by simp [okL_bs, okL_room, okL, okV, SD, nsv]) (by simp [CALL, SCB, SD, nsv]) fun x1 h1 => ?_
  obtain ⟨⟨z, b, A, pl, n⟩, key, start⟩ := x1
  obtain ⟨⟨hb, hA, hp⟩, hk, hs⟩ := h1
  simp only [DC.cells] at hb hA hp hk hs ⊢
  simp (config := { maxSteps := 2000000 }) only [CALL, ↓VC, VP, TT, Nat.reduceEqDiff, reduceCtorEq, Nat.reduceAdd, Nat.reduceSub, Nat.reduceLT, Nat.reduceMul, Nat.reducePow, Nat.reduceLeDiff, Int.reduceToNat, Int.reduceLE, Int.reduceLT, Int.reducePow, GOB, GD, cipC_len z256 z16 z16, cipC_len hb hA hp, hk, hs, ↓cip_put_all z256 z16 z16 hb hA hp]
  refine kCall_M (d_next hc hm hq 4) (by rfl) [(4, 0), (0, 0)] (by simp [CALL, SCB, SD, nsv]) (by simp [CALL, SCB, SD, nsv]) (by simp) (by simp [CALL, SCB, SD, nsv]) (by simp [okL_bs, okL_room, okL, okV, SD, nsv]) (by intro x _; simp [keepR, bs_length, SD, nsv]) (by simp [CALL, SCB, SD, nsv]) fun x2 h2 => ?_
  simp (config := { maxSteps := 2000000 }) only [CALL, ↓VC, VP, TT, Nat.reduceEqDiff, reduceCtorEq, Nat.reduceAdd, Nat.reduceSub, Nat.reduceLT, Nat.reduceMul, Nat.reducePow, Nat.reduceLeDiff, Int.reduceToNat, Int.reduceLE, Int.reduceLT, Int.reducePow, GOB, GD, cipC_len z256 z16 z16, hs, hk, cipC_len hb hA hp]
  refine ⟨fun _ => ?_, fun _ => ?_⟩
  · refine kCall_M (d_next hc hm h2.1 6) (by rfl) [(4, 0), (0, 0)] (by simp [CALL, SCB, SD, nsv]) (by simp [CALL, SCB, SD, nsv]) (by simp) (by simp [CALL, SCB, SD, nsv]) (by simp [okL_bs, okL_room, okL, okV, SD, nsv]) (by intro x _; simp [keepR, bs_length, SD, nsv]) (by simp [CALL, SCB, SD, nsv]) fun x4 h4 => ?_
    simp (config := { maxSteps := 2000000 }) only [CALL, ↓VC, VP, TT, Nat.reduceEqDiff, reduceCtorEq, Nat.reduceAdd, Nat.reduceSub, Nat.reduceLT, Nat.reduceMul, Nat.reducePow, Nat.reduceLeDiff, Int.reduceToNat, Int.reduceLE, Int.reduceLT, Int.reducePow, GOB, GD, cipC_len z256 z16 z16, hs, hk, wrap_u8, startV, s16, z16, Nat.reduceLT, bs_length, List.length_cons, List.length_nil]
    have hs2 : ([0, 0, 0, 0, 0, 0, 0, 0, 255, 255, 255, 255, 255, 255, 255, UInt8.ofInt (250 + x4.2)] : List UInt8).length = 16 := rfl
    generalize ([0, 0, 0, 0, 0, 0, 0, 0, 255, 255, 255, 255, 255, 255, 255, UInt8.ofInt (250 + x4.2)] : List UInt8) = start2 at hs2 ⊢
    refine kCall_M (z_bytes hc hm h4.1 120 (by omega)) (by rfl) [(4, 0), (0, 0)] (by simp [CALL, SCB, SD, nsv]) (by simp [CALL, SCB, SD, nsv]) (by simp) (by simp [CALL, SCB, SD, nsv]) (by simp [okL_bs, okL_room, okL, okV, SD, nsv]) (by intro x _; simp [keepR, bs_length, SD, nsv]) (by simp [CALL, SCB, SD, nsv]) fun x3 h3 => ?_
    simp (config := { maxSteps := 2000000 }) only [CALL, ↓VC, VP, TT, Nat.reduceEqDiff, reduceCtorEq, Nat.reduceAdd, Nat.reduceSub, Nat.reduceLT, Nat.reduceMul, Nat.reducePow, Nat.reduceLeDiff, Int.reduceToNat, Int.reduceLE, Int.reduceLT, Int.reducePow, GOB, GD, cipC_len z256 z16 z16]
    obtain ⟨q3, D, r⟩ := x3
    obtain ⟨hq3, hD⟩ := h3
    simp only at hq3 hD ⊢
    refine kLoop_of (fun s : (Nat × Nat) × List UInt8 × Nat => ([.j, .c (.int .i64 (least)), .j, .j, .p 1 0, .p 2 0, .p 3 0, .j, .p 4 0, .p 5 0, .p 6 0, .p 7 0, .s 8 0 s.2.1.length (s.2.1.length + s.2.2), .j, .j, .j, .j, .j, .j, .j, .j, .j, .j, .j, .j, .j, .j, .j, .j, .j, .j, .j, .j, .j, .j, .j, .j, .j, .j, .j, .j, .j, .j, .j, .j, .j, .j, .j, .j, .j, .j, .j, .j, .j, .j, .j, .j, .j, .j], [⟨false, bs l⟩, ⟨true, cipC 0 (List.replicate 256 0) (List.replicate 16 0) (List.replicate 16 0) 0⟩, ⟨true, bs (List.replicate 16 0)⟩, ⟨true, bs (List.replicate 16 0)⟩, ⟨true, sv 0 l.length c s.1⟩, ⟨true, cipC z b A pl n⟩, ⟨true, bs key⟩, ⟨true, bs start2⟩, ⟨true, bs s.2.1 ++ List.replicate s.2.2 .j⟩])) (fun s => least - s.2.1.length) (fun s => okS l s.1 ∧ s.2.1.length ≤ 161) (q3, D, r) ⟨hq3, hD⟩ ⟨[0, 1, 2, 3, 4, 5, 6, 7, 8], by simp [-List.reduceReplicate, LES, sv_ren, sv_ok, renL_cip, okL_cip]⟩ ?_
    clear hq3 hD
    rintro ⟨q3, D, r⟩ ⟨hq3, hD⟩
    simp only at hq3 hD
    have w1 : IntKind.i64.wrap (D.length : Int) = (D.length : Int) := wrap_i64 (by omega) (by omega)
    simp only [↓VC, VP, TT, Nat.reduceEqDiff, reduceCtorEq, Nat.reduceAdd, Nat.reduceSub, Nat.reduceLT, Nat.reduceMul, Nat.reducePow, Nat.reduceLeDiff, Int.reduceToNat, Int.reduceLE, Int.reduceLT, Int.reducePow, w1]
    refine kGd_split rfl (fun h1 => ?_) (fun h1 => ?_)
    · rw [decide_eq_true_eq] at h1
      simp only [↓VC, VP, TT, Nat.reduceEqDiff, reduceCtorEq, Nat.reduceAdd, Nat.reduceSub, Nat.reduceLT, Nat.reduceMul, Nat.reducePow, Nat.reduceLeDiff, Int.reduceToNat, Int.reduceLE, Int.reduceLT, Int.reducePow, w1]
      refine kCall_M (d_next hc hm hq3 16) (by rfl) [(4, 0), (0, 0)] (by simp [CALL, SCB, SD, nsv]) (by simp [CALL, SCB, SD, nsv]) (by simp) (by simp [CALL, SCB, SD, nsv]) (by simp [okL_bs, okL_room, okL, okV, SD, nsv]) (by intro x _; simp [keepR, bs_length, SD, nsv]) (by simp [CALL, SCB, SD, nsv]) fun x5 h5 => ?_
      simp (config := { maxSteps := 2000000 }) only [CALL, ↓VC, VP, TT, Nat.reduceEqDiff, reduceCtorEq, Nat.reduceAdd, Nat.reduceSub, Nat.reduceLT, Nat.reduceMul, Nat.reducePow, Nat.reduceLeDiff, Int.reduceToNat, Int.reduceLE, Int.reduceLT, Int.reducePow, GOB, GD, cipC_len z256 z16 z16]
      have h5q := h5.1
      generalize x5.1 = q5 at h5q ⊢
      refine ⟨fun ht => ?_, fun ht => ?_⟩
      · refine ⟨by omega, by omega, .inr (by omega), .inr trivial, fun r1 c1 e1 e2 => ?_⟩
        refine ⟨(q5, D ++ [UInt8.ofInt (D.length : Int)], c1 - (D.length + 1)), ⟨h5q, by simp only [List.length_append, List.length_singleton]; omega⟩, by simp only [List.length_append, List.length_singleton]; omega, [0, 1, 2, 3, 4, 5, 6, 7, 10], ?_⟩
        rw [wrap_u8, show [V.c (.int .u8 ((UInt8.ofInt (D.length : Int)).toNat : Int))] = bs [UInt8.ofInt (D.length : Int)] from rfl, bs_append]
        simp only [List.length_append, List.length_singleton, show D.length + 1 + (c1 - (D.length + 1)) = c1 by omega, show c1 - (D.length + 1) = r1 by omega]
        simp [-List.reduceReplicate, LES, sv_ren, sv_ok, renL_cip, okL_cip]
        omega
      · clear hq3
        have hq3 := h5q
        refine kCall_M (d_next hc hm hq3 60) (by rfl) [(4, 0), (0, 0)] (by simp [CALL, SCB, SD, nsv]) (by simp [CALL, SCB, SD, nsv]) (by simp) (by simp [CALL, SCB, SD, nsv]) (by simp [okL_bs, okL_room, okL, okV, SD, nsv]) (by intro x _; simp [keepR, bs_length, SD, nsv]) (by simp [CALL, SCB, SD, nsv]) fun x6 h6 => ?_
        simp (config := { maxSteps := 2000000 }) only [CALL, ↓VC, VP, TT, Nat.reduceEqDiff, reduceCtorEq, Nat.reduceAdd, Nat.reduceSub, Nat.reduceLT, Nat.reduceMul, Nat.reducePow, Nat.reduceLeDiff, Int.reduceToNat, Int.reduceLE, Int.reduceLT, Int.reducePow, GOB, GD, cipC_len z256 z16 z16]
        have h6q := h6.1
        refine ⟨fun _ => ?_, fun _ => ?_⟩
        · refine kLoop_of (fun s : List UInt8 × Nat => ([.j, .j, .j, .j, .p 1 0, .p 2 0, .p 3 0, .j, .p 4 0, .p 5 0, .p 6 0, .p 7 0, .s 8 0 s.1.length (s.1.length + s.2), .j, .j, .j, .j, .j, .j, .j, .j, .j, .j, .j, .j, .j, .j, .j, .j, .j, .j, .j, .j, .j, .j, .j, .j, .j, .j, .j, .j, .j, .j, .j, .j, .j, .j, .j, .j, .j, .j, .j, .j, .j, .j, .j, .j, .j, .j], [⟨false, bs l⟩, ⟨true, cipC 0 (List.replicate 256 0) (List.replicate 16 0) (List.replicate 16 0) 0⟩, ⟨true, bs (List.replicate 16 0)⟩, ⟨true, bs (List.replicate 16 0)⟩, ⟨true, sv 0 l.length c x6.1⟩, ⟨true, cipC z b A pl n⟩, ⟨true, bs key⟩, ⟨true, bs start2⟩, ⟨true, bs s.1 ++ List.replicate s.2 .j⟩])) (fun s => 2017 - s.1.length) (fun s => s.1.length ≤ 2017) (D, r) (by simp only; omega) ⟨[0, 1, 2, 3, 4, 5, 6, 7, 8], by simp [-List.reduceReplicate, LES, sv_ren, sv_ok, renL_cip, okL_cip]⟩ ?_
          clear hD
          rintro ⟨D, r⟩ hD
          simp only at hD
          rcases Nat.lt_or_ge D.length 2017 with h7 | h7
          · simp only [↓VC, VP, TT, Nat.reduceEqDiff, reduceCtorEq, Nat.reduceAdd, Nat.reduceSub, Nat.reduceLT, Nat.reduceMul, Nat.reducePow, Nat.reduceLeDiff, Int.reduceToNat, Int.reduceLE, Int.reduceLT, Int.reducePow, (eq_true (by omega) : ((D.length : Int) ≤ 2016) = True), decide_true]
            refine ⟨by omega, by omega, .inr (by omega), .inr trivial, fun r1 c1 e1 e2 => ?_⟩
            refine ⟨(D ++ [0], c1 - (D.length + 1)), by simp only [List.length_append, List.length_singleton]; omega, by simp only [List.length_append, List.length_singleton]; omega, [0, 1, 2, 3, 4, 5, 6, 7, 10], ?_⟩
            rw [show [V.c (.int .u8 0)] = bs [0] from rfl, bs_append]
            simp only [List.length_append, List.length_singleton, show D.length + 1 + (c1 - (D.length + 1)) = c1 by omega, show c1 - (D.length + 1) = r1 by omega]
            simp [-List.reduceReplicate, LES, sv_ren, sv_ok, renL_cip, okL_cip]
            omega
          · simp only [↓VC, VP, TT, Nat.reduceEqDiff, reduceCtorEq, Nat.reduceAdd, Nat.reduceSub, Nat.reduceLT, Nat.reduceMul, Nat.reducePow, Nat.reduceLeDiff, Int.reduceToNat, Int.reduceLE, Int.reduceLT, Int.reducePow, (eq_false (by omega) : ((D.length : Int) ≤ 2016) = False), decide_false]
            refine kCut_of (fun _ : Unit => ([.j, .j, .j, .j, .p 1 0, .p 2 0, .p 3 0, .s 4 0 D.length (D.length + r), .j, .j, .j, .j, .j, .j, .j, .j, .j, .j, .j, .j, .j, .j, .j, .j, .j, .j, .j, .j, .j, .j, .j, .j, .j, .j, .j, .j, .j, .j, .j, .j, .j, .j, .j, .j, .j, .j, .j, .j, .j, .j, .j, .j, .j, .j, .j, .j, .j, .j, .j], [⟨false, bs l⟩, ⟨true, cipC z b A pl n⟩, ⟨true, bs key⟩, ⟨true, bs start2⟩, ⟨true, bs D ++ List.replicate r .j⟩])) (fun _ => True) ?_ (fun _ _ => ?_)
            · simp (config := { maxSteps := 2000000 }) only [↓VC, VP, TT, Nat.reduceEqDiff, reduceCtorEq, Nat.reduceAdd, Nat.reduceSub, Nat.reduceLT, Nat.reduceMul, Nat.reducePow, Nat.reduceLeDiff, Int.reduceToNat, Int.reduceLE, Int.reduceLT, Int.reducePow, cipC_len z256 z16 z16, cipC_len hb hA hp, hk, hs2, z16, bs_length, ↓cip_all hb hA hp, ↓cip_put_all z256 z16 z16 hb hA hp, and_self]
              refine ⟨(), [0, 1, 2, 3, 8], ?_⟩
              simp [-List.reduceReplicate, LES, renL_cip, okL_cip]
            simp only [↓VC, VP, TT, Nat.reduceEqDiff, reduceCtorEq, Nat.reduceAdd, Nat.reduceSub, Nat.reduceLT, Nat.reduceMul, Nat.reducePow, Nat.reduceLeDiff, Int.reduceToNat, Int.reduceLE, Int.reduceLT, Int.reducePow, ↓cip_all hb hA hp, cipC_len hb hA hp, hk, hs2]
            exact ⟨_, _, [0, 4], ⟨(⟨z, b, A, pl, n⟩, key, start2, D, r), ⟨⟨hb, hA, hp⟩, hk, hs2, by simp only; omega⟩, rfl, rfl⟩, by simp [-List.reduceReplicate, LES, renL_cip, okL_cip]⟩
        · skip
          refine kCut_of (fun _ : Unit => ([.j, .j, .j, .j, .p 1 0, .p 2 0, .p 3 0, .s 4 0 D.length (D.length + r), .j, .j, .j, .j, .j, .j, .j, .j, .j, .j, .j, .j, .j, .j, .j, .j, .j, .j, .j, .j, .j, .j, .j, .j, .j, .j, .j, .j, .j, .j, .j, .j, .j, .j, .j, .j, .j, .j, .j, .j, .j, .j, .j, .j, .j, .j, .j, .j, .j, .j, .j], [⟨false, bs l⟩, ⟨true, cipC z b A pl n⟩, ⟨true, bs key⟩, ⟨true, bs start2⟩, ⟨true, bs D ++ List.replicate r .j⟩])) (fun _ => True) ?_ (fun _ _ => ?_)
          · simp (config := { maxSteps := 2000000 }) only [↓VC, VP, TT, Nat.reduceEqDiff, reduceCtorEq, Nat.reduceAdd, Nat.reduceSub, Nat.reduceLT, Nat.reduceMul, Nat.reducePow, Nat.reduceLeDiff, Int.reduceToNat, Int.reduceLE, Int.reduceLT, Int.reducePow, cipC_len z256 z16 z16, cipC_len hb hA hp, hk, hs2, z16, bs_length, ↓cip_all hb hA hp, ↓cip_put_all z256 z16 z16 hb hA hp, and_self]
            refine ⟨(), [0, 1, 2, 3, 8], ?_⟩
            simp [-List.reduceReplicate, LES, renL_cip, okL_cip]
          simp only [↓VC, VP, TT, Nat.reduceEqDiff, reduceCtorEq, Nat.reduceAdd, Nat.reduceSub, Nat.reduceLT, Nat.reduceMul, Nat.reducePow, Nat.reduceLeDiff, Int.reduceToNat, Int.reduceLE, Int.reduceLT, Int.reducePow, ↓cip_all hb hA hp, cipC_len hb hA hp, hk, hs2]
          exact ⟨_, _, [0, 4], ⟨(⟨z, b, A, pl, n⟩, key, start2, D, r), ⟨⟨hb, hA, hp⟩, hk, hs2, by simp only; omega⟩, rfl, rfl⟩, by simp [-List.reduceReplicate, LES, renL_cip, okL_cip]⟩
    · rw [decide_eq_false_iff_not] at h1
      simp only [↓VC, VP, TT, Nat.reduceEqDiff, reduceCtorEq, Nat.reduceAdd, Nat.reduceSub, Nat.reduceLT, Nat.reduceMul, Nat.reducePow, Nat.reduceLeDiff, Int.reduceToNat, Int.reduceLE, Int.reduceLT, Int.reducePow, w1]
      refine kCall_M (d_next hc hm hq3 60) (by rfl) [(4, 0), (0, 0)] (by simp [CALL, SCB, SD, nsv]) (by simp [CALL, SCB, SD, nsv]) (by simp) (by simp [CALL, SCB, SD, nsv]) (by simp [okL_bs, okL_room, okL, okV, SD, nsv]) (by intro x _; simp [keepR, bs_length, SD, nsv]) (by simp [CALL, SCB, SD, nsv]) fun x6 h6 => ?_
      simp (config := { maxSteps := 2000000 }) only [CALL, ↓VC, VP, TT, Nat.reduceEqDiff, reduceCtorEq, Nat.reduceAdd, Nat.reduceSub, Nat.reduceLT, Nat.reduceMul, Nat.reducePow, Nat.reduceLeDiff, Int.reduceToNat, Int.reduceLE, Int.reduceLT, Int.reducePow, GOB, GD, cipC_len z256 z16 z16]
      have h6q := h6.1
      refine ⟨fun _ => ?_, fun _ => ?_⟩
      · refine kLoop_of (fun s : List UInt8 × Nat => ([.j, .j, .j, .j, .p 1 0, .p 2 0, .p 3 0, .j, .p 4 0, .p 5 0, .p 6 0, .p 7 0, .s 8 0 s.1.length (s.1.length + s.2), .j, .j, .j, .j, .j, .j, .j, .j, .j, .j, .j, .j, .j, .j, .j, .j, .j, .j, .j, .j, .j, .j, .j, .j, .j, .j, .j, .j, .j, .j, .j, .j, .j, .j, .j, .j, .j, .j, .j, .j, .j, .j, .j, .j, .j, .j], [⟨false, bs l⟩, ⟨true, cipC 0 (List.replicate 256 0) (List.replicate 16 0) (List.replicate 16 0) 0⟩, ⟨true, bs (List.replicate 16 0)⟩, ⟨true, bs (List.replicate 16 0)⟩, ⟨true, sv 0 l.length c x6.1⟩, ⟨true, cipC z b A pl n⟩, ⟨true, bs key⟩, ⟨true, bs start2⟩, ⟨true, bs s.1 ++ List.replicate s.2 .j⟩])) (fun s => 2017 - s.1.length) (fun s => s.1.length ≤ 2017) (D, r) (by simp only; omega) ⟨[0, 1, 2, 3, 4, 5, 6, 7, 8], by simp [-List.reduceReplicate, LES, sv_ren, sv_ok, renL_cip, okL_cip]⟩ ?_
        clear hD
        rintro ⟨D, r⟩ hD
        simp only at hD
        rcases Nat.lt_or_ge D.length 2017 with h7 | h7
        · simp only [↓VC, VP, TT, Nat.reduceEqDiff, reduceCtorEq, Nat.reduceAdd, Nat.reduceSub, Nat.reduceLT, Nat.reduceMul, Nat.reducePow, Nat.reduceLeDiff, Int.reduceToNat, Int.reduceLE, Int.reduceLT, Int.reducePow, (eq_true (by omega) : ((D.length : Int) ≤ 2016) = True), decide_true]
          refine ⟨by omega, by omega, .inr (by omega), .inr trivial, fun r1 c1 e1 e2 => ?_⟩
          refine ⟨(D ++ [0], c1 - (D.length + 1)), by simp only [List.length_append, List.length_singleton]; omega, by simp only [List.length_append, List.length_singleton]; omega, [0, 1, 2, 3, 4, 5, 6, 7, 10], ?_⟩
          rw [show [V.c (.int .u8 0)] = bs [0] from rfl, bs_append]
          simp only [List.length_append, List.length_singleton, show D.length + 1 + (c1 - (D.length + 1)) = c1 by omega, show c1 - (D.length + 1) = r1 by omega]
          simp [-List.reduceReplicate, LES, sv_ren, sv_ok, renL_cip, okL_cip]
          omega
        · simp only [↓VC, VP, TT, Nat.reduceEqDiff, reduceCtorEq, Nat.reduceAdd, Nat.reduceSub, Nat.reduceLT, Nat.reduceMul, Nat.reducePow, Nat.reduceLeDiff, Int.reduceToNat, Int.reduceLE, Int.reduceLT, Int.reducePow, (eq_false (by omega) : ((D.length : Int) ≤ 2016) = False), decide_false]
          refine kCut_of (fun _ : Unit => ([.j, .j, .j, .j, .p 1 0, .p 2 0, .p 3 0, .s 4 0 D.length (D.length + r), .j, .j, .j, .j, .j, .j, .j, .j, .j, .j, .j, .j, .j, .j, .j, .j, .j, .j, .j, .j, .j, .j, .j, .j, .j, .j, .j, .j, .j, .j, .j, .j, .j, .j, .j, .j, .j, .j, .j, .j, .j, .j, .j, .j, .j, .j, .j, .j, .j, .j, .j], [⟨false, bs l⟩, ⟨true, cipC z b A pl n⟩, ⟨true, bs key⟩, ⟨true, bs start2⟩, ⟨true, bs D ++ List.replicate r .j⟩])) (fun _ => True) ?_ (fun _ _ => ?_)
          · simp (config := { maxSteps := 2000000 }) only [↓VC, VP, TT, Nat.reduceEqDiff, reduceCtorEq, Nat.reduceAdd, Nat.reduceSub, Nat.reduceLT, Nat.reduceMul, Nat.reducePow, Nat.reduceLeDiff, Int.reduceToNat, Int.reduceLE, Int.reduceLT, Int.reducePow, cipC_len z256 z16 z16, cipC_len hb hA hp, hk, hs2, z16, bs_length, ↓cip_all hb hA hp, ↓cip_put_all z256 z16 z16 hb hA hp, and_self]
            refine ⟨(), [0, 1, 2, 3, 8], ?_⟩
            simp [-List.reduceReplicate, LES, renL_cip, okL_cip]
          simp only [↓VC, VP, TT, Nat.reduceEqDiff, reduceCtorEq, Nat.reduceAdd, Nat.reduceSub, Nat.reduceLT, Nat.reduceMul, Nat.reducePow, Nat.reduceLeDiff, Int.reduceToNat, Int.reduceLE, Int.reduceLT, Int.reducePow, ↓cip_all hb hA hp, cipC_len hb hA hp, hk, hs2]
          exact ⟨_, _, [0, 4], ⟨(⟨z, b, A, pl, n⟩, key, start2, D, r), ⟨⟨hb, hA, hp⟩, hk, hs2, by simp only; omega⟩, rfl, rfl⟩, by simp [-List.reduceReplicate, LES, renL_cip, okL_cip]⟩
      · skip
        refine kCut_of (fun _ : Unit => ([.j, .j, .j, .j, .p 1 0, .p 2 0, .p 3 0, .s 4 0 D.length (D.length + r), .j, .j, .j, .j, .j, .j, .j, .j, .j, .j, .j, .j, .j, .j, .j, .j, .j, .j, .j, .j, .j, .j, .j, .j, .j, .j, .j, .j, .j, .j, .j, .j, .j, .j, .j, .j, .j, .j, .j, .j, .j, .j, .j, .j, .j, .j, .j, .j, .j, .j, .j], [⟨false, bs l⟩, ⟨true, cipC z b A pl n⟩, ⟨true, bs key⟩, ⟨true, bs start2⟩, ⟨true, bs D ++ List.replicate r .j⟩])) (fun _ => True) ?_ (fun _ _ => ?_)
        · simp (config := { maxSteps := 2000000 }) only [↓VC, VP, TT, Nat.reduceEqDiff, reduceCtorEq, Nat.reduceAdd, Nat.reduceSub, Nat.reduceLT, Nat.reduceMul, Nat.reducePow, Nat.reduceLeDiff, Int.reduceToNat, Int.reduceLE, Int.reduceLT, Int.reducePow, cipC_len z256 z16 z16, cipC_len hb hA hp, hk, hs2, z16, bs_length, ↓cip_all hb hA hp, ↓cip_put_all z256 z16 z16 hb hA hp, and_self]
          refine ⟨(), [0, 1, 2, 3, 8], ?_⟩
          simp [-List.reduceReplicate, LES, renL_cip, okL_cip]
        simp only [↓VC, VP, TT, Nat.reduceEqDiff, reduceCtorEq, Nat.reduceAdd, Nat.reduceSub, Nat.reduceLT, Nat.reduceMul, Nat.reducePow, Nat.reduceLeDiff, Int.reduceToNat, Int.reduceLE, Int.reduceLT, Int.reducePow, ↓cip_all hb hA hp, cipC_len hb hA hp, hk, hs2]
        exact ⟨_, _, [0, 4], ⟨(⟨z, b, A, pl, n⟩, key, start2, D, r), ⟨⟨hb, hA, hp⟩, hk, hs2, by simp only; omega⟩, rfl, rfl⟩, by simp [-List.reduceReplicate, LES, renL_cip, okL_cip]⟩
  · skip
    refine kCall_M (z_bytes hc hm h2.1 120 (by omega)) (by rfl) [(4, 0), (0, 0)] (by simp [CALL, SCB, SD, nsv]) (by simp [CALL, SCB, SD, nsv]) (by simp) (by simp [CALL, SCB, SD, nsv]) (by simp [okL_bs, okL_room, okL, okV, SD, nsv]) (by intro x _; simp [keepR, bs_length, SD, nsv]) (by simp [CALL, SCB, SD, nsv]) fun x3 h3 => ?_
    simp (config := { maxSteps := 2000000 }) only [CALL, ↓VC, VP, TT, Nat.reduceEqDiff, reduceCtorEq, Nat.reduceAdd, Nat.reduceSub, Nat.reduceLT, Nat.reduceMul, Nat.reducePow, Nat.reduceLeDiff, Int.reduceToNat, Int.reduceLE, Int.reduceLT, Int.reducePow, GOB, GD, cipC_len z256 z16 z16]
    obtain ⟨q3, D, r⟩ := x3
    obtain ⟨hq3, hD⟩ := h3
    simp only at hq3 hD ⊢
    refine kLoop_of (fun s : (Nat × Nat) × List UInt8 × Nat => ([.j, .c (.int .i64 (least)), .j, .j, .p 1 0, .p 2 0, .p 3 0, .j, .p 4 0, .p 5 0, .p 6 0, .p 7 0, .s 8 0 s.2.1.length (s.2.1.length + s.2.2), .j, .j, .j, .j, .j, .j, .j, .j, .j, .j, .j, .j, .j, .j, .j, .j, .j, .j, .j, .j, .j, .j, .j, .j, .j, .j, .j, .j, .j, .j, .j, .j, .j, .j, .j, .j, .j, .j, .j, .j, .j, .j, .j, .j, .j, .j], [⟨false, bs l⟩, ⟨true, cipC 0 (List.replicate 256 0) (List.replicate 16 0) (List.replicate 16 0) 0⟩, ⟨true, bs (List.replicate 16 0)⟩, ⟨true, bs (List.replicate 16 0)⟩, ⟨true, sv 0 l.length c s.1⟩, ⟨true, cipC z b A pl n⟩, ⟨true, bs key⟩, ⟨true, bs start⟩, ⟨true, bs s.2.1 ++ List.replicate s.2.2 .j⟩])) (fun s => least - s.2.1.length) (fun s => okS l s.1 ∧ s.2.1.length ≤ 161) (q3, D, r) ⟨hq3, hD⟩ ⟨[0, 1, 2, 3, 4, 5, 6, 7, 8], by simp [-List.reduceReplicate, LES, sv_ren, sv_ok, renL_cip, okL_cip]⟩ ?_
    clear hq3 hD
    rintro ⟨q3, D, r⟩ ⟨hq3, hD⟩
    simp only at hq3 hD
    have w1 : IntKind.i64.wrap (D.length : Int) = (D.length : Int) := wrap_i64 (by omega) (by omega)
    simp only [↓VC, VP, TT, Nat.reduceEqDiff, reduceCtorEq, Nat.reduceAdd, Nat.reduceSub, Nat.reduceLT, Nat.reduceMul, Nat.reducePow, Nat.reduceLeDiff, Int.reduceToNat, Int.reduceLE, Int.reduceLT, Int.reducePow, w1]
    refine kGd_split rfl (fun h1 => ?_) (fun h1 => ?_)
    · rw [decide_eq_true_eq] at h1
      simp only [↓VC, VP, TT, Nat.reduceEqDiff, reduceCtorEq, Nat.reduceAdd, Nat.reduceSub, Nat.reduceLT, Nat.reduceMul, Nat.reducePow, Nat.reduceLeDiff, Int.reduceToNat, Int.reduceLE, Int.reduceLT, Int.reducePow, w1]
      refine kCall_M (d_next hc hm hq3 16) (by rfl) [(4, 0), (0, 0)] (by simp [CALL, SCB, SD, nsv]) (by simp [CALL, SCB, SD, nsv]) (by simp) (by simp [CALL, SCB, SD, nsv]) (by simp [okL_bs, okL_room, okL, okV, SD, nsv]) (by intro x _; simp [keepR, bs_length, SD, nsv]) (by simp [CALL, SCB, SD, nsv]) fun x5 h5 => ?_
      simp (config := { maxSteps := 2000000 }) only [CALL, ↓VC, VP, TT, Nat.reduceEqDiff, reduceCtorEq, Nat.reduceAdd, Nat.reduceSub, Nat.reduceLT, Nat.reduceMul, Nat.reducePow, Nat.reduceLeDiff, Int.reduceToNat, Int.reduceLE, Int.reduceLT, Int.reducePow, GOB, GD, cipC_len z256 z16 z16]
      have h5q := h5.1
      generalize x5.1 = q5 at h5q ⊢
      refine ⟨fun ht => ?_, fun ht => ?_⟩
      · refine ⟨by omega, by omega, .inr (by omega), .inr trivial, fun r1 c1 e1 e2 => ?_⟩
        refine ⟨(q5, D ++ [UInt8.ofInt (D.length : Int)], c1 - (D.length + 1)), ⟨h5q, by simp only [List.length_append, List.length_singleton]; omega⟩, by simp only [List.length_append, List.length_singleton]; omega, [0, 1, 2, 3, 4, 5, 6, 7, 10], ?_⟩
        rw [wrap_u8, show [V.c (.int .u8 ((UInt8.ofInt (D.length : Int)).toNat : Int))] = bs [UInt8.ofInt (D.length : Int)] from rfl, bs_append]
        simp only [List.length_append, List.length_singleton, show D.length + 1 + (c1 - (D.length + 1)) = c1 by omega, show c1 - (D.length + 1) = r1 by omega]
        simp [-List.reduceReplicate, LES, sv_ren, sv_ok, renL_cip, okL_cip]
        omega
      · clear hq3
        have hq3 := h5q
        refine kCall_M (d_next hc hm hq3 60) (by rfl) [(4, 0), (0, 0)] (by simp [CALL, SCB, SD, nsv]) (by simp [CALL, SCB, SD, nsv]) (by simp) (by simp [CALL, SCB, SD, nsv]) (by simp [okL_bs, okL_room, okL, okV, SD, nsv]) (by intro x _; simp [keepR, bs_length, SD, nsv]) (by simp [CALL, SCB, SD, nsv]) fun x6 h6 => ?_
        simp (config := { maxSteps := 2000000 }) only [CALL, ↓VC, VP, TT, Nat.reduceEqDiff, reduceCtorEq, Nat.reduceAdd, Nat.reduceSub, Nat.reduceLT, Nat.reduceMul, Nat.reducePow, Nat.reduceLeDiff, Int.reduceToNat, Int.reduceLE, Int.reduceLT, Int.reducePow, GOB, GD, cipC_len z256 z16 z16]
        have h6q := h6.1
        refine ⟨fun _ => ?_, fun _ => ?_⟩
        · refine kLoop_of (fun s : List UInt8 × Nat => ([.j, .j, .j, .j, .p 1 0, .p 2 0, .p 3 0, .j, .p 4 0, .p 5 0, .p 6 0, .p 7 0, .s 8 0 s.1.length (s.1.length + s.2), .j, .j, .j, .j, .j, .j, .j, .j, .j, .j, .j, .j, .j, .j, .j, .j, .j, .j, .j, .j, .j, .j, .j, .j, .j, .j, .j, .j, .j, .j, .j, .j, .j, .j, .j, .j, .j, .j, .j, .j, .j, .j, .j, .j, .j, .j], [⟨false, bs l⟩, ⟨true, cipC 0 (List.replicate 256 0) (List.replicate 16 0) (List.replicate 16 0) 0⟩, ⟨true, bs (List.replicate 16 0)⟩, ⟨true, bs (List.replicate 16 0)⟩, ⟨true, sv 0 l.length c x6.1⟩, ⟨true, cipC z b A pl n⟩, ⟨true, bs key⟩, ⟨true, bs start⟩, ⟨true, bs s.1 ++ List.replicate s.2 .j⟩])) (fun s => 2017 - s.1.length) (fun s => s.1.length ≤ 2017) (D, r) (by simp only; omega) ⟨[0, 1, 2, 3, 4, 5, 6, 7, 8], by simp [-List.reduceReplicate, LES, sv_ren, sv_ok, renL_cip, okL_cip]⟩ ?_
          clear hD
          rintro ⟨D, r⟩ hD
          simp only at hD
          rcases Nat.lt_or_ge D.length 2017 with h7 | h7
          · simp only [↓VC, VP, TT, Nat.reduceEqDiff, reduceCtorEq, Nat.reduceAdd, Nat.reduceSub, Nat.reduceLT, Nat.reduceMul, Nat.reducePow, Nat.reduceLeDiff, Int.reduceToNat, Int.reduceLE, Int.reduceLT, Int.reducePow, (eq_true (by omega) : ((D.length : Int) ≤ 2016) = True), decide_true]
            refine ⟨by omega, by omega, .inr (by omega), .inr trivial, fun r1 c1 e1 e2 => ?_⟩
            refine ⟨(D ++ [0], c1 - (D.length + 1)), by simp only [List.length_append, List.length_singleton]; omega, by simp only [List.length_append, List.length_singleton]; omega, [0, 1, 2, 3, 4, 5, 6, 7, 10], ?_⟩
            rw [show [V.c (.int .u8 0)] = bs [0] from rfl, bs_append]
            simp only [List.length_append, List.length_singleton, show D.length + 1 + (c1 - (D.length + 1)) = c1 by omega, show c1 - (D.length + 1) = r1 by omega]
            simp [-List.reduceReplicate, LES, sv_ren, sv_ok, renL_cip, okL_cip]
            omega
          · simp only [↓VC, VP, TT, Nat.reduceEqDiff, reduceCtorEq, Nat.reduceAdd, Nat.reduceSub, Nat.reduceLT, Nat.reduceMul, Nat.reducePow, Nat.reduceLeDiff, Int.reduceToNat, Int.reduceLE, Int.reduceLT, Int.reducePow, (eq_false (by omega) : ((D.length : Int) ≤ 2016) = False), decide_false]
            refine kCut_of (fun _ : Unit => ([.j, .j, .j, .j, .p 1 0, .p 2 0, .p 3 0, .s 4 0 D.length (D.length + r), .j, .j, .j, .j, .j, .j, .j, .j, .j, .j, .j, .j, .j, .j, .j, .j, .j, .j, .j, .j, .j, .j, .j, .j, .j, .j, .j, .j, .j, .j, .j, .j, .j, .j, .j, .j, .j, .j, .j, .j, .j, .j, .j, .j, .j, .j, .j, .j, .j, .j, .j], [⟨false, bs l⟩, ⟨true, cipC z b A pl n⟩, ⟨true, bs key⟩, ⟨true, bs start⟩, ⟨true, bs D ++ List.replicate r .j⟩])) (fun _ => True) ?_ (fun _ _ => ?_)
            · simp (config := { maxSteps := 2000000 }) only [↓VC, VP, TT, Nat.reduceEqDiff, reduceCtorEq, Nat.reduceAdd, Nat.reduceSub, Nat.reduceLT, Nat.reduceMul, Nat.reducePow, Nat.reduceLeDiff, Int.reduceToNat, Int.reduceLE, Int.reduceLT, Int.reducePow, cipC_len z256 z16 z16, cipC_len hb hA hp, hk, hs, z16, bs_length, ↓cip_all hb hA hp, ↓cip_put_all z256 z16 z16 hb hA hp, and_self]
              refine ⟨(), [0, 1, 2, 3, 8], ?_⟩
              simp [-List.reduceReplicate, LES, renL_cip, okL_cip]
            simp only [↓VC, VP, TT, Nat.reduceEqDiff, reduceCtorEq, Nat.reduceAdd, Nat.reduceSub, Nat.reduceLT, Nat.reduceMul, Nat.reducePow, Nat.reduceLeDiff, Int.reduceToNat, Int.reduceLE, Int.reduceLT, Int.reducePow, ↓cip_all hb hA hp, cipC_len hb hA hp, hk, hs]
            exact ⟨_, _, [0, 4], ⟨(⟨z, b, A, pl, n⟩, key, start, D, r), ⟨⟨hb, hA, hp⟩, hk, hs, by simp only; omega⟩, rfl, rfl⟩, by simp [-List.reduceReplicate, LES, renL_cip, okL_cip]⟩
        · skip
          refine kCut_of (fun _ : Unit => ([.j, .j, .j, .j, .p 1 0, .p 2 0, .p 3 0, .s 4 0 D.length (D.length + r), .j, .j, .j, .j, .j, .j, .j, .j, .j, .j, .j, .j, .j, .j, .j, .j, .j, .j, .j, .j, .j, .j, .j, .j, .j, .j, .j, .j, .j, .j, .j, .j, .j, .j, .j, .j, .j, .j, .j, .j, .j, .j, .j, .j, .j, .j, .j, .j, .j, .j, .j], [⟨false, bs l⟩, ⟨true, cipC z b A pl n⟩, ⟨true, bs key⟩, ⟨true, bs start⟩, ⟨true, bs D ++ List.replicate r .j⟩])) (fun _ => True) ?_ (fun _ _ => ?_)
          · simp (config := { maxSteps := 2000000 }) only [↓VC, VP, TT, Nat.reduceEqDiff, reduceCtorEq, Nat.reduceAdd, Nat.reduceSub, Nat.reduceLT, Nat.reduceMul, Nat.reducePow, Nat.reduceLeDiff, Int.reduceToNat, Int.reduceLE, Int.reduceLT, Int.reducePow, cipC_len z256 z16 z16, cipC_len hb hA hp, hk, hs, z16, bs_length, ↓cip_all hb hA hp, ↓cip_put_all z256 z16 z16 hb hA hp, and_self]
            refine ⟨(), [0, 1, 2, 3, 8], ?_⟩
            simp [-List.reduceReplicate, LES, renL_cip, okL_cip]
          simp only [↓VC, VP, TT, Nat.reduceEqDiff, reduceCtorEq, Nat.reduceAdd, Nat.reduceSub, Nat.reduceLT, Nat.reduceMul, Nat.reducePow, Nat.reduceLeDiff, Int.reduceToNat, Int.reduceLE, Int.reduceLT, Int.reducePow, ↓cip_all hb hA hp, cipC_len hb hA hp, hk, hs]
          exact ⟨_, _, [0, 4], ⟨(⟨z, b, A, pl, n⟩, key, start, D, r), ⟨⟨hb, hA, hp⟩, hk, hs, by simp only; omega⟩, rfl, rfl⟩, by simp [-List.reduceReplicate, LES, renL_cip, okL_cip]⟩
    · rw [decide_eq_false_iff_not] at h1
      simp only [↓VC, VP, TT, Nat.reduceEqDiff, reduceCtorEq, Nat.reduceAdd, Nat.reduceSub, Nat.reduceLT, Nat.reduceMul, Nat.reducePow, Nat.reduceLeDiff, Int.reduceToNat, Int.reduceLE, Int.reduceLT, Int.reducePow, w1]
      refine kCall_M (d_next hc hm hq3 60) (by rfl) [(4, 0), (0, 0)] (by simp [CALL, SCB, SD, nsv]) (by simp [CALL, SCB, SD, nsv]) (by simp) (by simp [CALL, SCB, SD, nsv]) (by simp [okL_bs, okL_room, okL, okV, SD, nsv]) (by intro x _; simp [keepR, bs_length, SD, nsv]) (by simp [CALL, SCB, SD, nsv]) fun x6 h6 => ?_
      simp (config := { maxSteps := 2000000 }) only [CALL, ↓VC, VP, TT, Nat.reduceEqDiff, reduceCtorEq, Nat.reduceAdd, Nat.reduceSub, Nat.reduceLT, Nat.reduceMul, Nat.reducePow, Nat.reduceLeDiff, Int.reduceToNat, Int.reduceLE, Int.reduceLT, Int.reducePow, GOB, GD, cipC_len z256 z16 z16]
      have h6q := h6.1
      refine ⟨fun _ => ?_, fun _ => ?_⟩
      · refine kLoop_of (fun s : List UInt8 × Nat => ([.j, .j, .j, .j, .p 1 0, .p 2 0, .p 3 0, .j, .p 4 0, .p 5 0, .p 6 0, .p 7 0, .s 8 0 s.1.length (s.1.length + s.2), .j, .j, .j, .j, .j, .j, .j, .j, .j, .j, .j, .j, .j, .j, .j, .j, .j, .j, .j, .j, .j, .j, .j, .j, .j, .j, .j, .j, .j, .j, .j, .j, .j, .j, .j, .j, .j, .j, .j, .j, .j, .j, .j, .j, .j, .j], [⟨false, bs l⟩, ⟨true, cipC 0 (List.replicate 256 0) (List.replicate 16 0) (List.replicate 16 0) 0⟩, ⟨true, bs (List.replicate 16 0)⟩, ⟨true, bs (List.replicate 16 0)⟩, ⟨true, sv 0 l.length c x6.1⟩, ⟨true, cipC z b A pl n⟩, ⟨true, bs key⟩, ⟨true, bs start⟩, ⟨true, bs s.1 ++ List.replicate s.2 .j⟩])) (fun s => 2017 - s.1.length) (fun s => s.1.length ≤ 2017) (D, r) (by simp only; omega) ⟨[0, 1, 2, 3, 4, 5, 6, 7, 8], by simp [-List.reduceReplicate, LES, sv_ren, sv_ok, renL_cip, okL_cip]⟩ ?_
        clear hD
        rintro ⟨D, r⟩ hD
        simp only at hD
        rcases Nat.lt_or_ge D.length 2017 with h7 | h7
        · simp only [↓VC, VP, TT, Nat.reduceEqDiff, reduceCtorEq, Nat.reduceAdd, Nat.reduceSub, Nat.reduceLT, Nat.reduceMul, Nat.reducePow, Nat.reduceLeDiff, Int.reduceToNat, Int.reduceLE, Int.reduceLT, Int.reducePow, (eq_true (by omega) : ((D.length : Int) ≤ 2016) = True), decide_true]
          refine ⟨by omega, by omega, .inr (by omega), .inr trivial, fun r1 c1 e1 e2 => ?_⟩
          refine ⟨(D ++ [0], c1 - (D.length + 1)), by simp only [List.length_append, List.length_singleton]; omega, by simp only [List.length_append, List.length_singleton]; omega, [0, 1, 2, 3, 4, 5, 6, 7, 10], ?_⟩
          rw [show [V.c (.int .u8 0)] = bs [0] from rfl, bs_append]
          simp only [List.length_append, List.length_singleton, show D.length + 1 + (c1 - (D.length + 1)) = c1 by omega, show c1 - (D.length + 1) = r1 by omega]
          simp [-List.reduceReplicate, LES, sv_ren, sv_ok, renL_cip, okL_cip]
          omega
        · simp only [↓VC, VP, TT, Nat.reduceEqDiff, reduceCtorEq, Nat.reduceAdd, Nat.reduceSub, Nat.reduceLT, Nat.reduceMul, Nat.reducePow, Nat.reduceLeDiff, Int.reduceToNat, Int.reduceLE, Int.reduceLT, Int.reducePow, (eq_false (by omega) : ((D.length : Int) ≤ 2016) = False), decide_false]
          refine kCut_of (fun _ : Unit => ([.j, .j, .j, .j, .p 1 0, .p 2 0, .p 3 0, .s 4 0 D.length (D.length + r), .j, .j, .j, .j, .j, .j, .j, .j, .j, .j, .j, .j, .j, .j, .j, .j, .j, .j, .j, .j, .j, .j, .j, .j, .j, .j, .j, .j, .j, .j, .j, .j, .j, .j, .j, .j, .j, .j, .j, .j, .j, .j, .j, .j, .j, .j, .j, .j, .j, .j, .j], [⟨false, bs l⟩, ⟨true, cipC z b A pl n⟩, ⟨true, bs key⟩, ⟨true, bs start⟩, ⟨true, bs D ++ List.replicate r .j⟩])) (fun _ => True) ?_ (fun _ _ => ?_)
          · simp (config := { maxSteps := 2000000 }) only [↓VC, VP, TT, Nat.reduceEqDiff, reduceCtorEq, Nat.reduceAdd, Nat.reduceSub, Nat.reduceLT, Nat.reduceMul, Nat.reducePow, Nat.reduceLeDiff, Int.reduceToNat, Int.reduceLE, Int.reduceLT, Int.reducePow, cipC_len z256 z16 z16, cipC_len hb hA hp, hk, hs, z16, bs_length, ↓cip_all hb hA hp, ↓cip_put_all z256 z16 z16 hb hA hp, and_self]
            refine ⟨(), [0, 1, 2, 3, 8], ?_⟩
            simp [-List.reduceReplicate, LES, renL_cip, okL_cip]
          simp only [↓VC, VP, TT, Nat.reduceEqDiff, reduceCtorEq, Nat.reduceAdd, Nat.reduceSub, Nat.reduceLT, Nat.reduceMul, Nat.reducePow, Nat.reduceLeDiff, Int.reduceToNat, Int.reduceLE, Int.reduceLT, Int.reducePow, ↓cip_all hb hA hp, cipC_len hb hA hp, hk, hs]
          exact ⟨_, _, [0, 4], ⟨(⟨z, b, A, pl, n⟩, key, start, D, r), ⟨⟨hb, hA, hp⟩, hk, hs, by simp only; omega⟩, rfl, rfl⟩, by simp [-List.reduceReplicate, LES, renL_cip, okL_cip]⟩
      · skip
        refine kCut_of (fun _ : Unit => ([.j, .j, .j, .j, .p 1 0, .p 2 0, .p 3 0, .s 4 0 D.length (D.length + r), .j, .j, .j, .j, .j, .j, .j, .j, .j, .j, .j, .j, .j, .j, .j, .j, .j, .j, .j, .j, .j, .j, .j, .j, .j, .j, .j, .j, .j, .j, .j, .j, .j, .j, .j, .j, .j, .j, .j, .j, .j, .j, .j, .j, .j, .j, .j, .j, .j, .j, .j], [⟨false, bs l⟩, ⟨true, cipC z b A pl n⟩, ⟨true, bs key⟩, ⟨true, bs start⟩, ⟨true, bs D ++ List.replicate r .j⟩])) (fun _ => True) ?_ (fun _ _ => ?_)
        · simp (config := { maxSteps := 2000000 }) only [↓VC, VP, TT, Nat.reduceEqDiff, reduceCtorEq, Nat.reduceAdd, Nat.reduceSub, Nat.reduceLT, Nat.reduceMul, Nat.reducePow, Nat.reduceLeDiff, Int.reduceToNat, Int.reduceLE, Int.reduceLT, Int.reducePow, cipC_len z256 z16 z16, cipC_len hb hA hp, hk, hs, z16, bs_length, ↓cip_all hb hA hp, ↓cip_put_all z256 z16 z16 hb hA hp, and_self]
          refine ⟨(), [0, 1, 2, 3, 8], ?_⟩
          simp [-List.reduceReplicate, LES, renL_cip, okL_cip]
        simp only [↓VC, VP, TT, Nat.reduceEqDiff, reduceCtorEq, Nat.reduceAdd, Nat.reduceSub, Nat.reduceLT, Nat.reduceMul, Nat.reducePow, Nat.reduceLeDiff, Int.reduceToNat, Int.reduceLE, Int.reduceLT, Int.reducePow, ↓cip_all hb hA hp, cipC_len hb hA hp, hk, hs]
        exact ⟨_, _, [0, 4], ⟨(⟨z, b, A, pl, n⟩, key, start, D, r), ⟨⟨hb, hA, hp⟩, hk, hs, by simp only; omega⟩, rfl, rfl⟩, by simp [-List.reduceReplicate, LES, renL_cip, okL_cip]⟩
end
end Go.Proofs.YtahnjhppkgndiaaGreat
/- Draws for the modes: chains. -/
set_option linter.unusedSimpArgs false
set_option linter.unusedVariables false
namespace Go.Proofs.YtahnjhppkgndiaaGreat
open Go Go.Vc
set_option maxRecDepth 10000
set_option maxHeartbeats 4000000
section
variable {l : List UInt8} {c : Nat} {q : Nat × Nat}
theorem d_ChainEncipher (hc : l.length ≤ c) (hm : l.length ≤ 4096) : LC Tryz.prog 60 [.s 0 0 l.length c] [⟨false, bs l⟩] (Ret [⟨false, bs l⟩] (fun x : DC × List UInt8 × List UInt8 × List UInt8 × Nat => x.1.ok ∧ x.2.1.length = 16 ∧ x.2.2.1.length = 16 ∧ x.2.2.2.1.length ≤ 2017) fun x => (.t [.a x.1.cells, .a (bs x.2.1), .a (bs x.2.2.1), .s 1 0 x.2.2.2.1.length (x.2.2.2.1.length + x.2.2.2.2)], [⟨true, bs x.2.2.2.1 ++ List.replicate x.2.2.2.2 .j⟩])) := by
  refine LC_of (X := XX (fun | 2 => .cut (.one 0 (.one 3 (.alt (.one 1 (.alt (.one 2 (.one 4 (.one 5 (.one 6 (.one 7 .nil))))) (.one 4 (.alt (.one 2 (.one 5 (.one 6 (.one 7 .nil)))) (.one 5 (.one 2 (.one 6 (.one 7 .nil)))))))) (.alt (.one 2 (.alt (.one 1 (.one 4 (.one 5 (.one 6 (.one 7 .nil))))) (.one 4 (.one 1 (.one 5 (.one 6 (.one 7 .nil))))))) (.one 4 (.one 1 (.alt (.one 2 (.one 5 (.one 6 (.one 7 .nil)))) (.one 5 (.one 2 (.one 6 (.one 7 .nil))))))))))) | _ => .nil) (fun _ => []) [15, 71, 72, 73, 79, 80, 87, 90, 91, 93, 99, 119, 137, 176, 177, 203, 204, 212, 219] 1) envOK Tryz.func60 (by kernel_rfl) (by kernel_rfl) rfl (Nat.le_of_ble_eq_true (by kernel_rfl)) ?_
  simp only [kFun, Tryz.f60, List.length_nil, List.length_cons, Nat.sub_zero, Nat.reduceSub, Nat.reduceAdd, List.nil_append, List.cons_append, List.replicate_succ, List.replicate_zero]
  simp only [XX, ↓VC, VP, TT, Nat.reduceEqDiff, reduceCtorEq, Nat.reduceAdd, Nat.reduceSub, Nat.reduceLT, Nat.reduceMul, Nat.reducePow, Nat.reduceLeDiff, Int.reduceToNat, Int.reduceLE, Int.reduceLT, Int.reducePow, cip_build, cipC_len z256 z16 z16]
  refine kCall_Ret (d_seven hc hm 0 (by omega)) (by rfl) [(0, 0)] (by simp [CALL, SCB, SD, nsv]) (by simp [CALL, SCB, SD, nsv]) (by simp [CALL, SCB, SD, nsv]) (by simp [okL_bs, okL_room, okL, okV, SD, nsv]) (by simp [CALL, SCB, SD, nsv]) fun x1 h1 => ?_
  obtain ⟨⟨z, b, A, pl, n⟩, key, start, D, r⟩ := x1
  obtain ⟨⟨hb, hA, hp⟩, hk, hs, hD⟩ := h1
  simp only [DC.cells] at hb hA hp hk hs hD ⊢
  simp (config := { maxSteps := 2000000 }) only [CALL, ↓VC, VP, TT, Nat.reduceEqDiff, reduceCtorEq, Nat.reduceAdd, Nat.reduceSub, Nat.reduceLT, Nat.reduceMul, Nat.reducePow, Nat.reduceLeDiff, Int.reduceToNat, Int.reduceLE, Int.reduceLT, Int.reducePow, GOB, GD, cipC_len z256 z16 z16, cipC_len hb hA hp, hk, hs, z16, bs_length, ↓cip_all hb hA hp, ↓cip_put_all z256 z16 z16 hb hA hp]
  refine kCut_of (fun _ : Unit => ([.j, .j, .p 1 0, .p 2 0, .p 3 0, .s 4 0 D.length (D.length + r), .j, .j, .j, .j, .j, .j, .j, .j, .j, .j, .j, .j, .j, .j, .j], [⟨false, bs l⟩, ⟨true, cipC z b A pl n⟩, ⟨true, bs key⟩, ⟨true, bs start⟩, ⟨true, bs D ++ List.replicate r .j⟩])) (fun _ => True) ?_ (fun _ _ => ?_)
  · simp (config := { maxSteps := 2000000 }) only [↓VC, VP, TT, Nat.reduceEqDiff, reduceCtorEq, Nat.reduceAdd, Nat.reduceSub, Nat.reduceLT, Nat.reduceMul, Nat.reducePow, Nat.reduceLeDiff, Int.reduceToNat, Int.reduceLE, Int.reduceLT, Int.reducePow, cipC_len z256 z16 z16, cipC_len hb hA hp, hk, hs, z16, bs_length, ↓cip_all hb hA hp, ↓cip_put_all z256 z16 z16 hb hA hp, and_self]
    refine ⟨(), [0, 1, 2, 3, 4], ?_⟩
    simp [-List.reduceReplicate, LES, renL_cip, okL_cip]
  simp only [↓VC, VP, TT, Nat.reduceEqDiff, reduceCtorEq, Nat.reduceAdd, Nat.reduceSub, Nat.reduceLT, Nat.reduceMul, Nat.reducePow, Nat.reduceLeDiff, Int.reduceToNat, Int.reduceLE, Int.reduceLT, Int.reducePow, ↓cip_all hb hA hp, cipC_len hb hA hp, hk, hs]
  exact ⟨_, _, [0, 4], ⟨(⟨z, b, A, pl, n⟩, key, start, D, r), ⟨⟨hb, hA, hp⟩, hk, hs, hD⟩, rfl, rfl⟩, by simp [-List.reduceReplicate, LES, renL_cip, okL_cip]⟩
end
end Go.Proofs.YtahnjhppkgndiaaGreat

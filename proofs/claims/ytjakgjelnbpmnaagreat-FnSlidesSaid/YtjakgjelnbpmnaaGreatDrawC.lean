import Derived.Test.YtjakgjelnbpmnaaGreatEnv
import Derived.Test.YtjakgjelnbpmnaaGreatFieldM
import Derived.Test.YtjakgjelnbpmnaaGreatVcgQ
import Derived.Test.YtjakgjelnbpmnaaGreatEngI
/- The draws' source: numbers that follow from a code. -/
set_option linter.unusedSimpArgs false
set_option linter.unusedVariables false
namespace Go.Proofs.YtjakgjelnbpmnaaGreat
open Go Go.Vc
set_option maxRecDepth 10000
set_option maxHeartbeats 4000000
/-- A source's cells: the code lies at handle g; the place, the number. -/
def sv (g n c : Nat) (q : Nat × Nat) : List V := [.s g 0 n c, .c (.int .i64 (q.1)), .c (.int .u64 (q.2 : Nat))]
theorem sv_ren {g n c : Nat} {q : Nat × Nat} (σ : List Nat) : V.renL σ (sv g n c q) = sv (σ.getD g 0) n c q := by simp [sv, V.renL, V.ren]
theorem sv_inst {b d n c : Nat} {q : Nat × Nat} {R : List (Nat × Nat)} (N : Nat) : V.instL ((b, 0) :: (d, 0) :: R) N (sv 1 n c q) = sv d n c q := by simp [sv, V.instL, V.inst]
theorem sv_ok {g n c N : Nat} {q : Nat × Nat} : okL N (sv g n c q) = (0 < c → g < N) := by simp [sv, okL, okV]
theorem sv_len {g n c : Nat} {q : Nat × Nat} : (sv g n c q).length = 3 := rfl
theorem sv_take {g h n c : Nat} {q q' : Nat × Nat} : List.take (sv g n c q).length (sv h n c q') = sv h n c q' := rfl
/-- A source that is one. -/
def okS (l : List UInt8) (q : Nat × Nat) : Prop := q.1 ≤ l.length ∧ q.2 < 18446744073709551616
/-- A number from 0 to m - 1. -/
def inN (m x : Int) : Prop := 0 ≤ x ∧ (1 ≤ m → x < m) ∧ (m < 1 → x = 0)
section
variable {l : List UInt8} {c : Nat} {q : Nat × Nat}
theorem u64_wrap (x : Int) : ∃ k : Nat, IntKind.u64.wrap x = k ∧ k < 18446744073709551616 := by
  refine ⟨(x % 18446744073709551616).toNat, ?_, by omega⟩
  unfold IntKind.wrap
  simp [IntKind.signed, IntKind.bits]
  omega
theorem and24 (x : Int) : ∃ k : Nat, bitI .and .u64 x 16777215 = k ∧ k ≤ 16777215 := by
  refine ⟨(BitVec.ofInt 64 x &&& BitVec.ofInt 64 16777215).toNat, ?_, ?_⟩
  · unfold bitI
    simp only [IntKind.bits]
    have h : (BitVec.ofInt 64 x &&& BitVec.ofInt 64 16777215).toNat < 18446744073709551616 := (BitVec.ofInt 64 x &&& BitVec.ofInt 64 16777215).isLt
    rw [wrap_u64 (by omega) (by omega)]
    rfl
  · rw [BitVec.toNat_and]
    have : (BitVec.ofInt 64 16777215).toNat = 16777215 := by decide
    rw [this]
    exact Nat.and_le_right
theorem tmod_in {k : Nat} {m : Int} (h : 1 ≤ m) : inN m ((k : Int).tmod m) := by
  have h1 : (k : Int).tmod m = (k : Int) % m := Int.tmod_eq_emod_of_nonneg (by omega)
  rw [h1]
  exact ⟨Int.emod_nonneg _ (by omega), fun _ => Int.emod_lt_of_pos _ (by omega), fun h => by omega⟩
theorem d_from (hc : l.length ≤ c) (hm : l.length ≤ 4096) : LC Tryz.prog 32 [.s 0 0 l.length c] [⟨false, bs l⟩] (Ret [⟨false, bs l⟩] (fun q : Nat × Nat => okS l q) fun q => (.p 1 0, [⟨true, sv 0 l.length c q⟩])) := by
  refine LC_of (X := XX (fun | 5 => .one 0 (.one 1 (.one 2 (.one 3 (.one 4 (.one 5 (.one 6 (.one 7 (.one 8 (.one 9 (.one 10 (.one 11 (.one 12 (.one 13 (.one 14 (.one 15 .nil))))))))))))))) | _ => .nil) (fun _ => []) [33, 34, 35, 36, 39, 45, 53, 54, 65, 75, 90, 91, 92, 104] 1) envOK Tryz.func32 (by kernel_rfl) (by kernel_rfl) rfl (Nat.le_of_ble_eq_true (by kernel_rfl)) ?_
  simp only [kFun, Tryz.f32, List.length_nil, List.length_cons, Nat.sub_zero, Nat.reduceSub, Nat.reduceAdd, List.nil_append, List.cons_append, List.replicate_succ, List.replicate_zero]
  simp only [XX, ↓VC, VP, TT, Nat.reduceEqDiff, reduceCtorEq, Nat.reduceAdd, Nat.reduceSub, Nat.reduceLT, Nat.reduceMul, Nat.reducePow, Nat.reduceLeDiff, Int.reduceToNat, Int.reduceLE, Int.reduceLT, Int.reducePow]
  refine ⟨by simp [TT], ?_⟩
  obtain ⟨k0, e0, h0⟩ := u64_wrap (9001 + IntKind.u64.wrap ↑l.length)
  rw [e0]
  refine kLoop_of (fun x : Nat × Nat => ([.s 0 0 l.length c, .j, .j, .p 1 0, .c (.int .i64 (x.1)), .j, .j, .j, .j, .j, .j, .j, .j, .j, .j, .j, .j, .j, .j, .j, .j, .j, .j, .j, .j, .j, .j, .j, .j, .j, .j, .j, .j, .j, .j, .j, .j, .j], [⟨false, bs l⟩, ⟨true, sv 0 l.length c (0, x.2)⟩])) (fun x => l.length - x.1) (fun x => x.1 ≤ l.length ∧ x.2 < 18446744073709551616) (0, k0) ⟨by simp, h0⟩ ⟨[0, 1], by simp [-List.reduceReplicate, LES, sv]⟩ ?_
  rintro ⟨i, k⟩ ⟨hi, hk⟩
  simp only at hi hk
  rcases Nat.lt_or_ge i l.length with h | h
  · simp only [↓VC, VP, TT, Nat.reduceEqDiff, reduceCtorEq, Nat.reduceAdd, Nat.reduceSub, Nat.reduceLT, Nat.reduceMul, Nat.reducePow, Nat.reduceLeDiff, Int.reduceToNat, Int.reduceLE, Int.reduceLT, Int.reducePow, sv, (eq_true (by omega) : ((i : Int) < (l.length : Int)) = True), (eq_true (by omega) : ((i : Int) < 4096) = True), decide_true, h]
    obtain ⟨k1, e1, h1⟩ := u64_wrap (IntKind.u64.wrap (IntKind.u64.wrap ((k : Int) * 1099511628211) + IntKind.u64.wrap ↑(l.getD i 0).toNat) + 11)
    rw [e1]
    repeat (refine ⟨by first | omega | (simp; done) | decide, ?_⟩)
    refine ⟨(i + 1, k1), ⟨by simp only; omega, h1⟩, by simp only; omega, [0, 1], ?_⟩
    rw [wrap_i64 (by omega) (by omega)]
    simp [-List.reduceReplicate, LES]
  · obtain rfl : i = l.length := by omega
    simp only [↓VC, VP, TT, Nat.reduceEqDiff, reduceCtorEq, Nat.reduceAdd, Nat.reduceSub, Nat.reduceLT, Nat.reduceMul, Nat.reducePow, Nat.reduceLeDiff, Int.reduceToNat, Int.reduceLE, Int.reduceLT, Int.reducePow, (eq_false (by omega) : ((l.length : Int) < (l.length : Int)) = False), decide_false]
    refine ⟨_, _, [0, 1], ⟨(0, k), ⟨by simp, hk⟩, rfl, rfl⟩, ?_⟩
    simp [-List.reduceReplicate, LES, sv]
theorem d_next (hc : l.length ≤ c) (hm : l.length ≤ 4096) (hq : okS l q) (m : Int) : LC Tryz.prog 36 [.p 0 0, .c (.int .i64 (m))] [⟨true, sv 1 l.length c q⟩, ⟨false, bs l⟩] (RetM (fun x : (Nat × Nat) × Int => okS l x.1 ∧ inN m x.2) fun x => (.c (.int .i64 (x.2)), [⟨true, sv 1 l.length c x.1⟩, ⟨false, bs l⟩], [])) := by
  obtain ⟨hq1, hq2⟩ := hq
  refine LC_of (X := XX (fun | 5 => .one 0 (.one 1 (.one 2 (.one 3 (.one 4 (.one 5 (.one 6 (.one 7 (.one 8 (.one 9 .nil))))))))) | 6 => .one 0 (.one 1 (.one 2 (.one 3 (.one 4 (.one 5 (.one 6 (.one 7 (.one 8 (.one 9 (.one 10 (.one 11 (.one 12 (.one 13 .nil))))))))))))) | _ => .nil) (fun _ => []) [33, 34, 35, 36, 39, 45, 53, 54, 65, 75, 90, 91, 92, 104] 2) envOK Tryz.func36 (by kernel_rfl) (by kernel_rfl) rfl (Nat.le_of_ble_eq_true (by kernel_rfl)) ?_
  simp only [kFun, Tryz.f36, List.length_nil, List.length_cons, Nat.sub_zero, Nat.reduceSub, Nat.reduceAdd, List.nil_append, List.cons_append, List.replicate_succ, List.replicate_zero]
  simp only [XX, ↓VC, VP, TT, Nat.reduceEqDiff, reduceCtorEq, Nat.reduceAdd, Nat.reduceSub, Nat.reduceLT, Nat.reduceMul, Nat.reducePow, Nat.reduceLeDiff, Int.reduceToNat, Int.reduceLE, Int.reduceLT, Int.reducePow, sv]
  refine ⟨fun h => ?_, fun h => ⟨fun h2 => ?_, fun h2 => ?_⟩⟩
  · refine ⟨_, _, [0, 1], ⟨(q, 0), ⟨⟨hq1, hq2⟩, ⟨by simp, fun h' => by omega, fun _ => rfl⟩⟩, rfl, rfl⟩, ?_⟩
    simp [-List.reduceReplicate, LES]
  · obtain ⟨k1, e1, h1⟩ := u64_wrap (IntKind.u64.wrap ((q.2 : Int) * 6364136223846793005) + 1442695040888963407)
    have hb := (l.getD q.1 0).toNat_lt
    rw [e1]
    obtain ⟨k2, e2, h2'⟩ := and24 ((k1 : Int).fdiv (2 ^ min 33 64))
    rw [e2, wrap_i64 (n := (k2 : Int)) (by omega) (by omega), wrap_i64 (n := ((l.getD q.1 0).toNat : Int)) (by omega) (by omega), wrap_i64 (n := (k2 : Int) + _) (by omega) (by omega), wrap_i64 (n := (q.1 : Int) + 1) (by omega) (by omega)]
    refine ⟨h2, by omega, by omega, ?_⟩
    have key := tmod_in (k := k2 + (l.getD q.1 0).toNat) (m := m) (by omega)
    rw [Int.natCast_add] at key
    generalize (↑k2 + ↑(l.getD q.1 0).toNat : Int).tmod m = y at *
    refine ⟨_, _, [0, 1], ⟨((q.1 + 1, k1), y), ⟨⟨by simp only; omega, h1⟩, key⟩, rfl, rfl⟩, ?_⟩
    simp [-List.reduceReplicate, LES]
  · obtain ⟨k1, e1, h1⟩ := u64_wrap (IntKind.u64.wrap ((q.2 : Int) * 6364136223846793005) + 1442695040888963407)
    rw [e1]
    obtain ⟨k2, e2, h2'⟩ := and24 ((k1 : Int).fdiv (2 ^ min 33 64))
    rw [e2, wrap_i64 (n := (k2 : Int)) (by omega) (by omega)]
    refine ⟨by omega, ?_⟩
    have key := tmod_in (k := k2) (m := m) (by omega)
    generalize (k2 : Int).tmod m = y at *
    refine ⟨_, _, [0, 1], ⟨((q.1, k1), y), ⟨⟨hq1, h1⟩, key⟩, rfl, rfl⟩, ?_⟩
    simp [-List.reduceReplicate, LES]
theorem vGet_nsvD {L : List Int} {i : Nat} {k : V → Prop} (h : i < L.length) : vGet (nsv L) i k = k (.c (.int .i64 (L.getD i 0))) := by
  unfold vGet
  have e : (nsv L)[i]? = some (.c (.int .i64 (L.getD i 0))) := by simp [nsv, List.getElem?_map, h, List.getD_eq_getElem?_getD]
  rw [List.getD_eq_getElem?_getD, e, Option.getD_some]
  apply propext
  refine ⟨fun x => x.2, fun x => ⟨(List.getElem?_eq_some_iff.1 e).1, x⟩⟩
theorem tkQ {L : List Int} : List.take L.length (nsv L) = nsv L := by rw [← nsv_length L, List.take_length]
theorem d_pick (hc : l.length ≤ c) (hm : l.length ≤ 4096) (hq : okS l q) (L : List Int) (cl : Nat) (hL : 1 ≤ L.length) (hL2 : L.length ≤ 1048576) : LC Tryz.prog 35 [.p 0 0, .s 2 0 L.length cl] [⟨true, sv 1 l.length c q⟩, ⟨false, bs l⟩, ⟨false, nsv L⟩] (RetM (fun x : (Nat × Nat) × Int => okS l x.1 ∧ x.2 ∈ L) fun x => (.c (.int .i64 (x.2)), [⟨true, sv 1 l.length c x.1⟩, ⟨false, bs l⟩, ⟨false, nsv L⟩], [])) := by
  refine LC_of (X := XX (fun _ => .nil) (fun _ => []) [33, 34, 35, 36, 39, 45, 53, 54, 65, 75, 90, 91, 92, 104] 3) envOK Tryz.func35 (by kernel_rfl) (by kernel_rfl) rfl (Nat.le_of_ble_eq_true (by kernel_rfl)) ?_
  simp only [kFun, Tryz.f35, List.length_nil, List.length_cons, Nat.sub_zero, Nat.reduceSub, Nat.reduceAdd, List.nil_append, List.cons_append, List.replicate_succ, List.replicate_zero]
  simp only [XX, ↓VC, VP, TT, Nat.reduceEqDiff, reduceCtorEq, Nat.reduceAdd, Nat.reduceSub, Nat.reduceLT, Nat.reduceMul, Nat.reducePow, Nat.reduceLeDiff, Int.reduceToNat, Int.reduceLE, Int.reduceLT, Int.reducePow]
  refine kCall_M (d_next hc hm hq (L.length : Int)) (by rfl) [(0, 0), (1, 0)] (by simp [CALL, SCB, sv_inst, sv_ok, sv_len, sv_take, blv_length, nsv_length, instL_nsv, okL_nsv, tkQ]) (by simp [CALL, SCB, sv_inst, sv_ok, sv_len, sv_take, blv_length, nsv_length, instL_nsv, okL_nsv, tkQ]) (by simp) (by simp [CALL, SCB, sv_inst, sv_ok, sv_len, sv_take, blv_length, nsv_length, instL_nsv, okL_nsv, tkQ]) (by simp [okL_bs, okL_room, okL, okV, sv_inst, sv_ok, sv_len, sv_take, blv_length, nsv_length, instL_nsv, okL_nsv, tkQ]) (by intro x _; simp [keepR, bs_length, sv_inst, sv_ok, sv_len, sv_take, blv_length, nsv_length, instL_nsv, okL_nsv, tkQ]) (by simp [CALL, SCB, sv_inst, sv_ok, sv_len, sv_take, blv_length, nsv_length, instL_nsv, okL_nsv, tkQ]) fun x hx => ?_
  simp (config := { maxSteps := 2000000 }) only [CALL, ↓VC, VP, TT, Nat.reduceEqDiff, reduceCtorEq, Nat.reduceAdd, Nat.reduceSub, Nat.reduceLT, Nat.reduceMul, Nat.reducePow, Nat.reduceLeDiff, Int.reduceToNat, Int.reduceLE, Int.reduceLT, Int.reducePow, GOB, sv_inst, sv_len, instL_nsv, nsv_length]
  obtain ⟨h1, h2, h3, h4⟩ := hx
  have h3 := h3 (by omega)
  have hj : x.2.toNat < L.length := by omega
  refine ⟨h2, h3, hj, ?_⟩
  refine ⟨_, _, [0, 1, 2], ⟨(x.1, L.getD x.2.toNat 0), ⟨h1, ?_⟩, rfl, rfl⟩, ?_⟩
  · rw [List.getD_eq_getElem?_getD, List.getElem?_eq_getElem hj]; simp
  · simp [-List.reduceReplicate, LES, sv_ren, sv_ok]
end
end Go.Proofs.YtjakgjelnbpmnaaGreat
/- Draws of bytes, blocks, fields, boxes. -/
set_option linter.unusedSimpArgs false
set_option linter.unusedVariables false
namespace Go.Proofs.YtjakgjelnbpmnaaGreat
open Go Go.Vc
set_option maxRecDepth 10000
set_option maxHeartbeats 4000000
/-- Simplifying facts, bundled. -/
theorem SB : type_of% (
  And.intro @sv_inst <|
  And.intro @sv_ok <|
  And.intro @sv_len <|
  And.intro @sv_take <|
  And.intro @nsv_length <|
  And.intro @instL_nsv <|
  And.intro @okL_nsv <|
  And.intro @instL_room <|
  @okL_room) :=
  And.intro @sv_inst <|
  And.intro @sv_ok <|
  And.intro @sv_len <|
  And.intro @sv_take <|
  And.intro @nsv_length <|
  And.intro @instL_nsv <|
  And.intro @okL_nsv <|
  And.intro @instL_room <|
  @okL_room
/-- Simplifying facts, bundled. -/
theorem GB : type_of% (
  And.intro @sv_inst <|
  And.intro @sv_len <|
  And.intro @instL_nsv <|
  And.intro @nsv_length <|
  @instL_room) :=
  And.intro @sv_inst <|
  And.intro @sv_len <|
  And.intro @instL_nsv <|
  And.intro @nsv_length <|
  @instL_room
theorem nsv_moreZ {A : List Int} {x : Int} {r : Nat} : nsv A ++ [V.c (.int .i64 x)] ++ List.replicate r V.j = nsv (A ++ [x]) ++ List.replicate r V.j := by
  simp [nsv]
theorem take_nsvZ {A : List Int} {n : Nat} {X : List V} (h : n = A.length) : List.take n (nsv A ++ X) = nsv A := by
  rw [h, ← nsv_length A, List.take_left' rfl]
theorem vGet_nsvR {L : List Int} {X : List V} {i : Nat} {k : V → Prop} (h : i < L.length) : vGet (nsv L ++ X) i k = k (.c (.int .i64 (L.getD i 0))) := by
  rw [vGet_appL (by rw [nsv_length]; exact h), vGet_nsvD h]
theorem mem_getD {L : List Int} {i : Nat} (h : i < L.length) : L.getD i 0 ∈ L := by
  rw [List.getD_eq_getElem?_getD, List.getElem?_eq_getElem h]; exact List.getElem_mem _
theorem field_bd {z : Int} (h : fieldB z = true) : 256 ≤ z ∧ z < 512 := by
  unfold fieldB at h
  rw [Bool.and_eq_true, decide_eq_true_eq] at h
  omega
theorem f285 : fieldB 285 = true := by decide +kernel
section
variable {l : List UInt8} {c : Nat} {q : Nat × Nat}
theorem d_fields : LC Tryz.prog 102 [] [] (Ret [] (fun x : List Int × Nat => x.1 ≠ [] ∧ x.1.length ≤ 256 ∧ ∀ z ∈ x.1, fieldB z = true) fun x => (.s 0 0 x.1.length (x.1.length + x.2), [⟨true, nsv x.1 ++ List.replicate x.2 .j⟩])) := by
  refine LC_of (X := XX (fun _ => .nil) (fun _ => []) [33, 34, 35, 36, 39, 45, 53, 54, 65, 75, 90, 91, 92, 104] 0) envOK Tryz.func102 (by kernel_rfl) (by kernel_rfl) rfl (Nat.le_of_ble_eq_true (by kernel_rfl)) ?_
  simp only [kFun, Tryz.f102, List.length_nil, List.length_cons, Nat.sub_zero, Nat.reduceSub, Nat.reduceAdd, List.nil_append, List.cons_append, List.replicate_succ, List.replicate_zero]
  simp only [XX, ↓VC, VP, TT, Nat.reduceEqDiff, reduceCtorEq, Nat.reduceAdd, Nat.reduceSub, Nat.reduceLT, Nat.reduceMul, Nat.reducePow, Nat.reduceLeDiff, Int.reduceToNat, Int.reduceLE, Int.reduceLT, Int.reducePow]
  refine kLoop_of (fun s : Nat × List Int × Nat => ([.j, .s 0 0 s.2.1.length (s.2.1.length + s.2.2), .c (.int .i64 (s.1)), .j, .j, .j, .j, .j, .j, .j, .j, .j, .j, .j, .j], [⟨true, nsv s.2.1 ++ List.replicate s.2.2 .j⟩])) (fun s => 512 - s.1) (fun s => 256 ≤ s.1 ∧ s.1 ≤ 512 ∧ s.2.1.length + 256 ≤ s.1 ∧ (∀ z ∈ s.2.1, fieldB z = true) ∧ (285 < s.1 → s.2.1 ≠ [])) (256, [], 0) ⟨by simp, by simp, by simp, by simp, by simp⟩ ⟨[0], by simp [-List.reduceReplicate, LES, nsv]⟩ ?_
  rintro ⟨m, L, r⟩ ⟨h1, h2, h3, h4, h5⟩
  simp only at h1 h2 h3 h4 h5
  rcases Nat.lt_or_ge m 512 with h | h
  · simp only [↓VC, VP, TT, Nat.reduceEqDiff, reduceCtorEq, Nat.reduceAdd, Nat.reduceSub, Nat.reduceLT, Nat.reduceMul, Nat.reducePow, Nat.reduceLeDiff, Int.reduceToNat, Int.reduceLE, Int.reduceLT, Int.reducePow, (eq_true (by omega) : ((m : Int) < 512) = True), decide_true]
    refine kCall_val (c_spec_l01Field m) (by rfl) [] (by simp [CALL, SCB, SB, nsv]) (by simp [CALL, SCB, SB, nsv]) (by simp [CALL, SCB, SB, nsv]) (by simp [okL_bs, okL_room, okL, okV, SB, nsv]) ?_
    simp (config := { maxSteps := 2000000 }) only [CALL, ↓VC, VP, TT, Nat.reduceEqDiff, reduceCtorEq, Nat.reduceAdd, Nat.reduceSub, Nat.reduceLT, Nat.reduceMul, Nat.reducePow, Nat.reduceLeDiff, Int.reduceToNat, Int.reduceLE, Int.reduceLT, Int.reducePow, GOB, GB]
    refine ⟨fun ht => ?_, fun hf => ?_⟩
    · refine ⟨by omega, by omega, .inr (by omega), .inr trivial, fun r1 c1 e1 e2 => ⟨(m + 1, L ++ [(m : Int)], r1), ⟨by simp only; omega, by simp only; omega, by simp only [List.length_append, List.length_singleton]; omega, ?_, by simp⟩, by simp only; omega, [2], ?_⟩⟩
      · intro z hz
        rw [List.mem_append, List.mem_singleton] at hz
        rcases hz with hz | rfl
        · exact h4 z hz
        · exact ht
      · rw [wrap_i64 (by omega) (by omega), take_nsvZ rfl, nsv_moreZ, e1]
        simp [-List.reduceReplicate, LES]
    · refine ⟨(m + 1, L, r), ⟨by simp only; omega, by simp only; omega, by simp only; omega, h4, fun h6 => ?_⟩, by simp only; omega, [0], ?_⟩
      · rcases Nat.lt_or_ge 285 m with h7 | h7
        · exact h5 h7
        · obtain rfl : m = 285 := by simp only at h6; omega
          rw [show ((285 : Nat) : Int) = 285 from rfl, f285] at hf; cases hf
      · rw [wrap_i64 (by omega) (by omega)]
        simp [-List.reduceReplicate, LES]
  · obtain rfl : m = 512 := by omega
    simp only [↓VC, VP, TT, Nat.reduceEqDiff, reduceCtorEq, Nat.reduceAdd, Nat.reduceSub, Nat.reduceLT, Nat.reduceMul, Nat.reducePow, Nat.reduceLeDiff, Int.reduceToNat, Int.reduceLE, Int.reduceLT, Int.reducePow, (eq_false (by omega) : (((512 : Nat) : Int) < 512) = False), decide_false]
    exact ⟨_, _, [0], ⟨(L, r), ⟨h5 (by omega), by simp only; omega, h4⟩, rfl, rfl⟩, by simp [-List.reduceReplicate, LES]⟩
theorem d_field (hc : l.length ≤ c) (hm : l.length ≤ 4096) (hq : okS l q) : LC Tryz.prog 91 [.p 0 0] [⟨true, sv 1 l.length c q⟩, ⟨false, bs l⟩] (RetM (fun x : (Nat × Nat) × Nat => okS l x.1 ∧ fieldB (x.2 : Int) = true) fun x => (.c (.int .i64 (x.2)), [⟨true, sv 1 l.length c x.1⟩, ⟨false, bs l⟩], [])) := by
  refine LC_of (X := XX (fun | 2 => .one 0 (.one 1 (.one 2 (.one 3 (.one 4 (.one 8 (.one 9 (.one 10 (.one 11 (.one 5 (.one 6 (.alt (.one 7 (.one 12 (.one 13 (.one 14 (.one 15 (.one 16 (.one 17 .nil))))))) (.one 12 (.one 7 (.one 13 (.one 14 (.one 15 (.one 16 (.one 17 .nil)))))))))))))))))) | _ => .nil) (fun _ => []) [33, 34, 35, 36, 39, 45, 53, 54, 65, 75, 90, 91, 92, 104] 2) envOK Tryz.func91 (by kernel_rfl) (by kernel_rfl) rfl (Nat.le_of_ble_eq_true (by kernel_rfl)) ?_
  simp only [kFun, Tryz.f91, List.length_nil, List.length_cons, Nat.sub_zero, Nat.reduceSub, Nat.reduceAdd, List.nil_append, List.cons_append, List.replicate_succ, List.replicate_zero]
  simp only [XX, ↓VC, VP, TT, Nat.reduceEqDiff, reduceCtorEq, Nat.reduceAdd, Nat.reduceSub, Nat.reduceLT, Nat.reduceMul, Nat.reducePow, Nat.reduceLeDiff, Int.reduceToNat, Int.reduceLE, Int.reduceLT, Int.reducePow]
  refine kCall_Ret (d_fields) (by rfl) [] (by simp [CALL, SCB, SB, nsv]) (by simp [CALL, SCB, SB, nsv]) (by simp [CALL, SCB, SB, nsv]) (by simp [okL_bs, okL_room, okL, okV, SB, nsv]) (by simp [CALL, SCB, SB, nsv]) fun y hy => ?_
  simp (config := { maxSteps := 2000000 }) only [CALL, ↓VC, VP, TT, Nat.reduceEqDiff, reduceCtorEq, Nat.reduceAdd, Nat.reduceSub, Nat.reduceLT, Nat.reduceMul, Nat.reducePow, Nat.reduceLeDiff, Int.reduceToNat, Int.reduceLE, Int.reduceLT, Int.reducePow, GOB, GB]
  obtain ⟨L, r⟩ := y
  obtain ⟨hL0, hL1, hL2⟩ := hy
  have hLp : 0 < L.length := List.length_pos_iff.2 hL0
  simp only at hL1 hL2 ⊢
  refine kCall_M (d_next hc hm hq (L.length : Int)) (by rfl) [(0, 0), (1, 0)] (by simp [CALL, SCB, SB, nsv]) (by simp [CALL, SCB, SB, nsv]) (by simp) (by simp [CALL, SCB, SB, nsv]) (by simp [okL_bs, okL_room, okL, okV, SB, nsv]) (by intro x _; simp [keepR, bs_length, SB, nsv]) (by simp [CALL, SCB, SB, nsv]) fun x1 h1 => ?_
  simp (config := { maxSteps := 2000000 }) only [CALL, ↓VC, VP, TT, Nat.reduceEqDiff, reduceCtorEq, Nat.reduceAdd, Nat.reduceSub, Nat.reduceLT, Nat.reduceMul, Nat.reducePow, Nat.reduceLeDiff, Int.reduceToNat, Int.reduceLE, Int.reduceLT, Int.reducePow, GOB, GB]
  obtain ⟨q1, z1⟩ := x1
  obtain ⟨hq1, h1a, h1b, _⟩ := h1
  simp only at hq1 h1a h1b ⊢
  have h1b := h1b (by omega)
  obtain ⟨j1, rfl⟩ : ∃ j : Nat, z1 = j := ⟨z1.toNat, by omega⟩
  have hj1 : j1 < L.length := by omega
  simp only [Int.toNat_natCast, ↓vGet_nsvR hj1]
  refine ⟨by omega, by omega, ?_⟩
  constructor
  all_goals
    refine kCall_M (d_next hc hm hq1 (L.length : Int)) (by rfl) [(0, 0), (1, 0)] (by simp [CALL, SCB, SB, nsv]) (by simp [CALL, SCB, SB, nsv]) (by simp) (by simp [CALL, SCB, SB, nsv]) (by simp [okL_bs, okL_room, okL, okV, SB, nsv]) (by intro x _; simp [keepR, bs_length, SB, nsv]) (by simp [CALL, SCB, SB, nsv]) fun x2 h2 => ?_
    simp (config := { maxSteps := 2000000 }) only [CALL, ↓VC, VP, TT, Nat.reduceEqDiff, reduceCtorEq, Nat.reduceAdd, Nat.reduceSub, Nat.reduceLT, Nat.reduceMul, Nat.reducePow, Nat.reduceLeDiff, Int.reduceToNat, Int.reduceLE, Int.reduceLT, Int.reducePow, GOB, GB, Int.toNat_natCast, ↓vGet_nsvR hj1]
    obtain ⟨q2, z2⟩ := x2
    obtain ⟨hq2, h2a, h2b, _⟩ := h2
    simp only at hq2 h2a h2b ⊢
    have h2b := h2b (by omega)
    obtain ⟨j2, rfl⟩ : ∃ j : Nat, z2 = j := ⟨z2.toNat, by omega⟩
    have hj2 : j2 < L.length := by omega
    simp only [Int.toNat_natCast, ↓vGet_nsvR hj2]
    refine ⟨by omega, by omega, ?_⟩
    refine kCall_M (d_pick hc hm hq2 [285, L.getD j1 0, L.getD j2 0] 3 (by simp) (by simp)) (by rfl) [(0, 0), (1, 0), (3, 0)] (by simp [CALL, SCB, SB, nsv, splice]) (by simp [CALL, SCB, SB, nsv, splice]) (by simp) (by simp [CALL, SCB, SB, nsv, splice]) (by simp [okL_bs, okL_room, okL, okV, SB, nsv, splice]) (by intro x _; simp [keepR, bs_length, SB, nsv, splice]) (by simp [CALL, SCB, SB, nsv, splice]) fun x3 h3 => ?_
    simp (config := { maxSteps := 2000000 }) only [CALL, ↓VC, VP, TT, Nat.reduceEqDiff, reduceCtorEq, Nat.reduceAdd, Nat.reduceSub, Nat.reduceLT, Nat.reduceMul, Nat.reducePow, Nat.reduceLeDiff, Int.reduceToNat, Int.reduceLE, Int.reduceLT, Int.reducePow, GOB, GB]
    obtain ⟨q3, z3⟩ := x3
    obtain ⟨hq3, h3⟩ := h3
    simp only at hq3 h3 ⊢
    have hz : fieldB z3 = true := by
      simp only [List.mem_cons, List.not_mem_nil, or_false] at h3
      rcases h3 with rfl | rfl | rfl
      · exact f285
      · exact hL2 _ (mem_getD hj1)
      · exact hL2 _ (mem_getD hj2)
    have hzb := field_bd hz
    obtain ⟨k, rfl⟩ : ∃ k : Nat, z3 = k := ⟨z3.toNat, by omega⟩
    refine ⟨_, _, [0, 1], ⟨(q3, k), ⟨hq3, hz⟩, rfl, rfl⟩, ?_⟩
    simp [-List.reduceReplicate, LES, sv_ren, sv_ok]
theorem z_byte (hc : l.length ≤ c) (hm : l.length ≤ 4096) (hq : okS l q) : LC Tryz.prog 65 [.p 0 0] [⟨true, sv 1 l.length c q⟩, ⟨false, bs l⟩] (RetM (fun x : (Nat × Nat) × UInt8 => okS l x.1) fun x => (.c (.int .u8 (x.2.toNat : Int)), [⟨true, sv 1 l.length c x.1⟩, ⟨false, bs l⟩], [])) := by
  refine LC_of (X := XX (fun _ => .nil) (fun _ => []) [33, 34, 35, 36, 39, 45, 53, 54, 65, 75, 90, 91, 92, 104] 2) envOK Tryz.func65 (by kernel_rfl) (by kernel_rfl) rfl (Nat.le_of_ble_eq_true (by kernel_rfl)) ?_
  simp only [kFun, Tryz.f65, List.length_nil, List.length_cons, Nat.sub_zero, Nat.reduceSub, Nat.reduceAdd, List.nil_append, List.cons_append, List.replicate_succ, List.replicate_zero]
  simp only [XX, ↓VC, VP, TT, Nat.reduceEqDiff, reduceCtorEq, Nat.reduceAdd, Nat.reduceSub, Nat.reduceLT, Nat.reduceMul, Nat.reducePow, Nat.reduceLeDiff, Int.reduceToNat, Int.reduceLE, Int.reduceLT, Int.reducePow]
  refine kCall_M (d_next hc hm hq 4) (by rfl) [(0, 0), (1, 0)] (by simp [CALL, SCB, SB, nsv]) (by simp [CALL, SCB, SB, nsv]) (by simp) (by simp [CALL, SCB, SB, nsv]) (by simp [okL_bs, okL_room, okL, okV, SB, nsv]) (by intro x _; simp [keepR, bs_length, SB, nsv]) (by simp [CALL, SCB, SB, nsv]) fun x1 h1 => ?_
  simp (config := { maxSteps := 2000000 }) only [CALL, ↓VC, VP, TT, Nat.reduceEqDiff, reduceCtorEq, Nat.reduceAdd, Nat.reduceSub, Nat.reduceLT, Nat.reduceMul, Nat.reducePow, Nat.reduceLeDiff, Int.reduceToNat, Int.reduceLE, Int.reduceLT, Int.reducePow, GOB, GB]
  refine kCall_M (d_next hc hm h1.1 256) (by rfl) [(0, 0), (1, 0)] (by simp [CALL, SCB, SB, nsv]) (by simp [CALL, SCB, SB, nsv]) (by simp) (by simp [CALL, SCB, SB, nsv]) (by simp [okL_bs, okL_room, okL, okV, SB, nsv]) (by intro x _; simp [keepR, bs_length, SB, nsv]) (by simp [CALL, SCB, SB, nsv]) fun x2 h2 => ?_
  simp (config := { maxSteps := 2000000 }) only [CALL, ↓VC, VP, TT, Nat.reduceEqDiff, reduceCtorEq, Nat.reduceAdd, Nat.reduceSub, Nat.reduceLT, Nat.reduceMul, Nat.reducePow, Nat.reduceLeDiff, Int.reduceToNat, Int.reduceLE, Int.reduceLT, Int.reducePow, GOB, GB]
  refine kCall_M (d_next hc hm h2.1 256) (by rfl) [(0, 0), (1, 0)] (by simp [CALL, SCB, SB, nsv]) (by simp [CALL, SCB, SB, nsv]) (by simp) (by simp [CALL, SCB, SB, nsv]) (by simp [okL_bs, okL_room, okL, okV, SB, nsv]) (by intro x _; simp [keepR, bs_length, SB, nsv]) (by simp [CALL, SCB, SB, nsv]) fun x3 h3 => ?_
  simp (config := { maxSteps := 2000000 }) only [CALL, ↓VC, VP, TT, Nat.reduceEqDiff, reduceCtorEq, Nat.reduceAdd, Nat.reduceSub, Nat.reduceLT, Nat.reduceMul, Nat.reducePow, Nat.reduceLeDiff, Int.reduceToNat, Int.reduceLE, Int.reduceLT, Int.reducePow, GOB, GB]
  refine kCall_M (d_pick hc hm h3.1 [x1.2, x2.2, x3.2, 255] 4 (by simp) (by simp)) (by rfl) [(0, 0), (1, 0), (2, 0)] (by simp [CALL, SCB, SB, nsv]) (by simp [CALL, SCB, SB, nsv]) (by simp) (by simp [CALL, SCB, SB, nsv]) (by simp [okL_bs, okL_room, okL, okV, SB, nsv]) (by intro x _; simp [keepR, bs_length, SB, nsv]) (by simp [CALL, SCB, SB, nsv]) fun x4 h4 => ?_
  simp (config := { maxSteps := 2000000 }) only [CALL, ↓VC, VP, TT, Nat.reduceEqDiff, reduceCtorEq, Nat.reduceAdd, Nat.reduceSub, Nat.reduceLT, Nat.reduceMul, Nat.reducePow, Nat.reduceLeDiff, Int.reduceToNat, Int.reduceLE, Int.reduceLT, Int.reducePow, GOB, GB]
  refine ⟨_, _, [0, 1], ⟨(x4.1, UInt8.ofInt x4.2), h4.1, rfl, rfl⟩, ?_⟩
  rw [wrap_u8]
  simp [-List.reduceReplicate, LES, sv_ren, sv_ok]
end
end Go.Proofs.YtjakgjelnbpmnaaGreat
/- Draws of boxes. -/
set_option linter.unusedSimpArgs false
set_option linter.unusedVariables false
namespace Go.Proofs.YtjakgjelnbpmnaaGreat
open Go Go.Vc
set_option maxRecDepth 10000
set_option maxHeartbeats 40000000
theorem halfN (j : Nat) : (j : Int).tdiv 2 = ((j / 2 : Nat) : Int) := by rw [Int.tdiv_eq_ediv_of_nonneg (by omega)]; omega
theorem rot014 : ∀ i, i < 3 → ∃ k : Nat, ([0, 1, 4] : List Int).getD i 0 = k ∧ k < 8 := by
  intro i hi
  rcases (by omega : i = 0 ∨ i = 1 ∨ i = 2) with rfl | rfl | rfl
  · exact ⟨0, rfl, by omega⟩
  · exact ⟨1, rfl, by omega⟩
  · exact ⟨4, rfl, by omega⟩
theorem rot025 : ∀ i, i < 3 → ∃ k : Nat, ([0, 2, 5] : List Int).getD i 0 = k ∧ k < 8 := by
  intro i hi
  rcases (by omega : i = 0 ∨ i = 1 ∨ i = 2) with rfl | rfl | rfl
  · exact ⟨0, rfl, by omega⟩
  · exact ⟨2, rfl, by omega⟩
  · exact ⟨5, rfl, by omega⟩
theorem thenL_len (b c : List UInt8) : (thenL b c).length = 256 := tab_len _ _
/-- A power, whatever it is. -/
theorem g_power (m : Nat) (k0 : Int) (hm : 256 ≤ m) (hm' : m < 512) (hk0 : 0 ≤ k0) (hk1 : k0 ≤ 254) : LC Tryz.prog 79 [.c (.int .i64 (m)), .c (.int .i64 (k0))] [] (Ret [] (fun b : List UInt8 => b.length = 256) fun b => (.a (bs b), [])) := by
  obtain ⟨k, rfl⟩ : ∃ j : Nat, k0 = j := ⟨k0.toNat, by omega⟩
  have hk : k ≤ 254 := by omega
  refine LC_of (X := XX (fun _ => .nil) (fun _ => []) [33, 34, 35, 36, 39, 45, 53, 54, 65, 75, 90, 91, 92, 104] 0) envOK Tryz.func79 (by kernel_rfl) (by kernel_rfl) rfl (Nat.le_of_ble_eq_true (by kernel_rfl)) ?_
  simp only [kFun, Tryz.f79, List.length_nil, List.length_cons, Nat.sub_zero, Nat.reduceSub, Nat.reduceAdd, List.nil_append, List.cons_append, List.replicate_succ, List.replicate_zero]
  simp only [XX, ↓VC, VP, TT, Nat.reduceEqDiff, reduceCtorEq, Nat.reduceAdd, Nat.reduceSub, Nat.reduceLT, Nat.reduceMul, Nat.reducePow, Nat.reduceLeDiff, Int.reduceToNat, Int.reduceLE, Int.reduceLT, Int.reducePow]
  refine kLoop_of (fun s : Nat × List UInt8 => ([.c (.int .i64 (m)), .c (.int .i64 (k)), .j, .j, .p 0 0, .p 1 0, .c (.int .i64 (s.1)), .j, .j, .j, .j, .j, .j, .j, .j, .j, .j, .j, .j, .j, .j, .j, .j, .j, .j, .j, .j, .j, .j, .j, .j, .j, .j, .j, .j, .j, .j], [⟨true, bs (List.replicate 256 0)⟩, ⟨true, bs s.2⟩])) (fun s => 256 - s.1) (fun s => s.1 ≤ 256 ∧ s.2.length = 256) (0, List.replicate 256 0) ⟨by simp, by simp⟩ ⟨[0, 1], by simp [-List.reduceReplicate, LES]⟩ ?_
  rintro ⟨x, b⟩ ⟨hx, hb⟩
  simp only at hx hb
  rcases Nat.lt_or_ge x 256 with h | h
  · simp only [↓VC, VP, TT, Nat.reduceEqDiff, reduceCtorEq, Nat.reduceAdd, Nat.reduceSub, Nat.reduceLT, Nat.reduceMul, Nat.reducePow, Nat.reduceLeDiff, Int.reduceToNat, Int.reduceLE, Int.reduceLT, Int.reducePow, h, (eq_true (by omega) : ((x : Int) < 256) = True), (eq_true (by omega) : ((x : Int) < ((256 : Nat) : Int)) = True), wrap_i64 (n := (x : Int) + 1) (by omega) (by omega), decide_true, byte_conv]
    refine kLoop_of (fun s : Nat × UInt8 × UInt8 => ([.c (.int .i64 (m)), .c (.int .i64 (k)), .j, .j, .p 0 0, .p 1 0, .c (.int .i64 (x)), .c (.int .u8 ((s.2.1).toNat : Int)), .c (.int .u8 ((s.2.2).toNat : Int)), .c (.int .i64 (s.1)), .j, .j, .j, .j, .j, .j, .j, .j, .j, .j, .j, .j, .j, .j, .j, .j, .j, .j, .j, .j, .j, .j, .j, .j, .j, .j, .j], [⟨true, bs (List.replicate 256 0)⟩, ⟨true, bs b⟩])) (fun s => s.1) (fun s => s.1 ≤ 254) (k, 1, UInt8.ofInt (x : Int)) hk ⟨[0, 1], by simp [-List.reduceReplicate, LES]⟩ ?_
    rintro ⟨j, u, v⟩ hj
    simp only at hj
    have e3 : IntKind.i64.wrap ((j / 2 : Nat) : Int) = ((j / 2 : Nat) : Int) := wrap_i64 (by omega) (by omega)
    simp only [↓VC, VP, TT, Nat.reduceEqDiff, reduceCtorEq, Nat.reduceAdd, Nat.reduceSub, Nat.reduceLT, Nat.reduceMul, Nat.reducePow, Nat.reduceLeDiff, Int.reduceToNat, Int.reduceLE, Int.reduceLT, Int.reducePow, halfN, e3]
    refine ⟨fun h1 => ⟨by omega, fun ht => ?_, fun ht => ?_⟩, fun h1 => ?_⟩
    · refine kCall_val (c_spec_l01Times m u v hm hm') (by rfl) [] (by simp [CALL]) (by simp [CALL, cellsAt]) (by simp [CALL]) (by simp [okL_bs]) ?_
      simp only [CALL, ↓VC, VP, TT, Nat.reduceEqDiff, reduceCtorEq, Nat.reduceAdd, Nat.reduceSub, Nat.reduceLT, Nat.reduceMul, Nat.reducePow, Nat.reduceLeDiff, Int.reduceToNat, Int.reduceLE, Int.reduceLT, Int.reducePow]
      refine kCall_val (c_spec_l01Times m v v hm hm') (by rfl) [] (by simp [CALL]) (by simp [CALL, cellsAt]) (by simp [CALL]) (by simp [okL_bs]) ?_
      simp only [CALL, ↓VC, VP, TT, Nat.reduceEqDiff, reduceCtorEq, Nat.reduceAdd, Nat.reduceSub, Nat.reduceLT, Nat.reduceMul, Nat.reducePow, Nat.reduceLeDiff, Int.reduceToNat, Int.reduceLE, Int.reduceLT, Int.reducePow, halfN, e3]
      exact ⟨by omega, (j / 2, tmul m u v, tmul m v v), by simp only; omega, by simp only; omega, [0, 1], by simp [-List.reduceReplicate, LES]⟩
    · refine kCall_val (c_spec_l01Times m v v hm hm') (by rfl) [] (by simp [CALL]) (by simp [CALL, cellsAt]) (by simp [CALL]) (by simp [okL_bs]) ?_
      simp only [CALL, ↓VC, VP, TT, Nat.reduceEqDiff, reduceCtorEq, Nat.reduceAdd, Nat.reduceSub, Nat.reduceLT, Nat.reduceMul, Nat.reducePow, Nat.reduceLeDiff, Int.reduceToNat, Int.reduceLE, Int.reduceLT, Int.reducePow, halfN, e3]
      exact ⟨by omega, (j / 2, u, tmul m v v), by simp only; omega, by simp only; omega, [0, 1], by simp [-List.reduceReplicate, LES]⟩
    · rw [hb, wrap_i64 (by omega) (by omega)]
      refine ⟨by omega, h, (x + 1, b.set x u), ⟨by simp only; omega, by simp only [List.length_set]; exact hb⟩, by simp only; omega, [0, 1], ?_⟩
      simp [-List.reduceReplicate, LES]
  · obtain rfl : x = 256 := by omega
    simp only [↓VC, VP, TT, Nat.reduceEqDiff, reduceCtorEq, Nat.reduceAdd, Nat.reduceSub, Nat.reduceLT, Nat.reduceMul, Nat.reducePow, Nat.reduceLeDiff, Int.reduceToNat, Int.reduceLE, Int.reduceLT, Int.reducePow, hb, (eq_false (by omega) : (((256 : Nat) : Int) < 256) = False), decide_false]
    refine ⟨_, _, [], ⟨b, hb, rfl, rfl⟩, ?_⟩
    simp [-List.reduceReplicate, LES]
/-- Rotations, whatever they are. -/
theorem g_rot (L : List Int) (hl : L.length = 3) (hL : ∀ i, i < 3 → ∃ k : Nat, L.getD i 0 = k ∧ k < 8) (by0 : UInt8) : LC Tryz.prog 80 [.s 0 0 3 3, .c (.int .u8 ((by0).toNat : Int))] [⟨false, nsv L⟩] (Ret [⟨false, nsv L⟩] (fun b : List UInt8 => b.length = 256) fun b => (.a (bs b), [])) := by
  refine LC_of (X := XX (fun _ => .nil) (fun _ => []) [33, 34, 35, 36, 39, 45, 53, 54, 65, 75, 90, 91, 92, 104] 1) envOK Tryz.func80 (by kernel_rfl) (by kernel_rfl) rfl (Nat.le_of_ble_eq_true (by kernel_rfl)) ?_
  simp only [kFun, Tryz.f80, List.length_nil, List.length_cons, Nat.sub_zero, Nat.reduceSub, Nat.reduceAdd, List.nil_append, List.cons_append, List.replicate_succ, List.replicate_zero]
  simp only [XX, ↓VC, VP, TT, Nat.reduceEqDiff, reduceCtorEq, Nat.reduceAdd, Nat.reduceSub, Nat.reduceLT, Nat.reduceMul, Nat.reducePow, Nat.reduceLeDiff, Int.reduceToNat, Int.reduceLE, Int.reduceLT, Int.reducePow]
  refine kLoop_of (fun s : Nat × List UInt8 => ([.s 0 0 3 3, .c (.int .u8 ((by0).toNat : Int)), .j, .j, .p 1 0, .p 2 0, .c (.int .i64 (s.1)), .j, .j, .j, .j, .j, .j, .j, .j, .j, .j, .j, .j, .j, .j, .j, .j, .j, .j, .j, .j, .j, .j, .j, .j, .j, .j, .j], [⟨false, nsv L⟩, ⟨true, bs (List.replicate 256 0)⟩, ⟨true, bs s.2⟩])) (fun s => 256 - s.1) (fun s => s.1 ≤ 256 ∧ s.2.length = 256) (0, List.replicate 256 0) ⟨by simp, by simp⟩ ⟨[0, 1, 2], by simp [-List.reduceReplicate, LES]⟩ ?_
  rintro ⟨x, b⟩ ⟨hx, hb⟩
  simp only at hx hb
  rcases Nat.lt_or_ge x 256 with h | h
  · simp only [↓VC, VP, TT, Nat.reduceEqDiff, reduceCtorEq, Nat.reduceAdd, Nat.reduceSub, Nat.reduceLT, Nat.reduceMul, Nat.reducePow, Nat.reduceLeDiff, Int.reduceToNat, Int.reduceLE, Int.reduceLT, Int.reducePow, h, (eq_true (by omega) : ((x : Int) < 256) = True), (eq_true (by omega) : ((x : Int) < ((256 : Nat) : Int)) = True), wrap_i64 (n := (x : Int) + 1) (by omega) (by omega), decide_true]
    refine kLoop_of (fun s : Nat × UInt8 => ([.s 0 0 3 3, .c (.int .u8 ((by0).toNat : Int)), .j, .j, .p 1 0, .p 2 0, .c (.int .i64 (x)), .c (.int .u8 ((s.2).toNat : Int)), .c (.int .i64 (s.1)), .j, .j, .j, .j, .j, .j, .j, .j, .j, .j, .j, .j, .j, .j, .j, .j, .j, .j, .j, .j, .j, .j, .j, .j, .j], [⟨false, nsv L⟩, ⟨true, bs (List.replicate 256 0)⟩, ⟨true, bs b⟩])) (fun s => 3 - s.1) (fun s => s.1 ≤ 3) (0, by0) (by simp) ⟨[0, 1, 2], by simp [-List.reduceReplicate, LES]⟩ ?_
    rintro ⟨i, v⟩ hi
    simp only at hi
    rcases Nat.lt_or_ge i 3 with h2 | h2
    · obtain ⟨k, e1, hk⟩ := hL i h2
      simp only [↓VC, VP, TT, Nat.reduceEqDiff, reduceCtorEq, Nat.reduceAdd, Nat.reduceSub, Nat.reduceLT, Nat.reduceMul, Nat.reducePow, Nat.reduceLeDiff, Int.reduceToNat, Int.reduceLE, Int.reduceLT, Int.reducePow, byte_conv, nsv_length, hl, (eq_true (by omega) : ((i : Int) < ((3 : Nat) : Int)) = True), decide_true, ↓vGet_nsvD (L := L) (i := i) (by omega), e1]
      repeat (refine ⟨by first | omega | (simp; done) | decide, ?_⟩)
      refine kCall_val (c_spec_l02Turn (UInt8.ofInt (x : Int)) k hk) (by rfl) [] (by simp [CALL]) (by simp [CALL, cellsAt]) (by simp [CALL]) (by simp [okL_bs]) ?_
      simp only [CALL, ↓VC, VP, TT, Nat.reduceEqDiff, reduceCtorEq, Nat.reduceAdd, Nat.reduceSub, Nat.reduceLT, Nat.reduceMul, Nat.reducePow, Nat.reduceLeDiff, Int.reduceToNat, Int.reduceLE, Int.reduceLT, Int.reducePow]
      exact ⟨(i + 1, v ^^^ rot8 (UInt8.ofInt (x : Int)) k), by simp only; omega, by simp only; omega, [0, 1, 2], by rw [wrap_i64 (by omega) (by omega)]; simp [-List.reduceReplicate, LES]⟩
    · obtain rfl : i = 3 := by omega
      simp only [↓VC, VP, TT, Nat.reduceEqDiff, reduceCtorEq, Nat.reduceAdd, Nat.reduceSub, Nat.reduceLT, Nat.reduceMul, Nat.reducePow, Nat.reduceLeDiff, Int.reduceToNat, Int.reduceLE, Int.reduceLT, Int.reducePow, show (((3 : Nat) : Int) < ((3 : Nat) : Int)) = False from eq_false (by decide), decide_false, hb, h, (eq_true (by omega) : ((x : Int) < 256) = True), (eq_true (by omega) : ((x : Int) < ((256 : Nat) : Int)) = True), wrap_i64 (n := (x : Int) + 1) (by omega) (by omega), decide_true]
      exact ⟨(x + 1, b.set x v), ⟨by simp only; omega, by simp only [List.length_set]; exact hb⟩, by simp only; omega, [0, 1, 2], by simp [-List.reduceReplicate, LES]⟩
  · obtain rfl : x = 256 := by omega
    simp only [↓VC, VP, TT, Nat.reduceEqDiff, reduceCtorEq, Nat.reduceAdd, Nat.reduceSub, Nat.reduceLT, Nat.reduceMul, Nat.reducePow, Nat.reduceLeDiff, Int.reduceToNat, Int.reduceLE, Int.reduceLT, Int.reducePow, hb, (eq_false (by omega) : (((256 : Nat) : Int) < 256) = False), decide_false]
    refine ⟨_, _, [0], ⟨b, hb, rfl, rfl⟩, ?_⟩
    simp [-List.reduceReplicate, LES]
theorem g_same : LC Tryz.prog 103 [] [] (Ret [] (fun b : List UInt8 => b.length = 256) fun b => (.a (bs b), [])) := by
  refine LC_of (X := XX (fun _ => .nil) (fun _ => []) [33, 34, 35, 36, 39, 45, 53, 54, 65, 75, 90, 91, 92, 104] 0) envOK Tryz.func103 (by kernel_rfl) (by kernel_rfl) rfl (Nat.le_of_ble_eq_true (by kernel_rfl)) ?_
  simp only [kFun, Tryz.f103, List.length_nil, List.length_cons, Nat.sub_zero, Nat.reduceSub, Nat.reduceAdd, List.nil_append, List.cons_append, List.replicate_succ, List.replicate_zero]
  simp only [XX, ↓VC, VP, TT, Nat.reduceEqDiff, reduceCtorEq, Nat.reduceAdd, Nat.reduceSub, Nat.reduceLT, Nat.reduceMul, Nat.reducePow, Nat.reduceLeDiff, Int.reduceToNat, Int.reduceLE, Int.reduceLT, Int.reducePow]
  refine kLoop_of (fun s : Nat × List UInt8 => ([.p 0 0, .p 1 0, .c (.int .i64 (s.1)), .j, .j, .j, .j, .j, .j, .j, .j, .j, .j], [⟨true, bs (List.replicate 256 0)⟩, ⟨true, bs s.2⟩])) (fun s => 256 - s.1) (fun s => s.1 ≤ 256 ∧ s.2.length = 256) (0, List.replicate 256 0) ⟨by simp, by simp⟩ ⟨[0, 1], by simp [-List.reduceReplicate, LES]⟩ ?_
  rintro ⟨x, b⟩ ⟨hx, hb⟩
  simp only at hx hb
  rcases Nat.lt_or_ge x 256 with h | h
  · simp only [↓VC, VP, TT, Nat.reduceEqDiff, reduceCtorEq, Nat.reduceAdd, Nat.reduceSub, Nat.reduceLT, Nat.reduceMul, Nat.reducePow, Nat.reduceLeDiff, Int.reduceToNat, Int.reduceLE, Int.reduceLT, Int.reducePow, h, (eq_true (by omega) : ((x : Int) < 256) = True), (eq_true (by omega) : ((x : Int) < ((256 : Nat) : Int)) = True), wrap_i64 (n := (x : Int) + 1) (by omega) (by omega), decide_true, byte_conv, hb]
    exact ⟨(x + 1, b.set x (UInt8.ofInt (x : Int))), ⟨by simp only; omega, by simp only [List.length_set]; exact hb⟩, by simp only; omega, [0, 1], by simp [-List.reduceReplicate, LES]⟩
  · obtain rfl : x = 256 := by omega
    simp only [↓VC, VP, TT, Nat.reduceEqDiff, reduceCtorEq, Nat.reduceAdd, Nat.reduceSub, Nat.reduceLT, Nat.reduceMul, Nat.reducePow, Nat.reduceLeDiff, Int.reduceToNat, Int.reduceLE, Int.reduceLT, Int.reducePow, hb, (eq_false (by omega) : (((256 : Nat) : Int) < 256) = False), decide_false]
    refine ⟨_, _, [], ⟨b, hb, rfl, rfl⟩, ?_⟩
    simp [-List.reduceReplicate, LES]
section
variable {l : List UInt8} {c : Nat} {q : Nat × Nat}
theorem d_shuffle (hc : l.length ≤ c) (hm : l.length ≤ 4096) (hq : okS l q) : LC Tryz.prog 104 [.p 0 0] [⟨true, sv 1 l.length c q⟩, ⟨false, bs l⟩] (RetM (fun x : (Nat × Nat) × List UInt8 => okS l x.1 ∧ x.2.length = 256) fun x => (.a (bs x.2), [⟨true, sv 1 l.length c x.1⟩, ⟨false, bs l⟩], [])) := by
  refine LC_of (X := XX (fun _ => .nil) (fun _ => []) [33, 34, 35, 36, 39, 45, 53, 54, 65, 75, 90, 91, 92, 104] 2) envOK Tryz.func104 (by kernel_rfl) (by kernel_rfl) rfl (Nat.le_of_ble_eq_true (by kernel_rfl)) ?_
  simp only [kFun, Tryz.f104, List.length_nil, List.length_cons, Nat.sub_zero, Nat.reduceSub, Nat.reduceAdd, List.nil_append, List.cons_append, List.replicate_succ, List.replicate_zero]
  simp only [XX, ↓VC, VP, TT, Nat.reduceEqDiff, reduceCtorEq, Nat.reduceAdd, Nat.reduceSub, Nat.reduceLT, Nat.reduceMul, Nat.reducePow, Nat.reduceLeDiff, Int.reduceToNat, Int.reduceLE, Int.reduceLT, Int.reducePow]
  refine kCall_Ret (g_same) (by rfl) [] (by simp [CALL, SCB, SB, nsv]) (by simp [CALL, SCB, SB, nsv]) (by simp [CALL, SCB, SB, nsv]) (by simp [okL_bs, okL_room, okL, okV, SB, nsv]) (by simp [CALL, SCB, SB, nsv]) fun b0 hb0 => ?_
  simp (config := { maxSteps := 2000000 }) only [CALL, ↓VC, VP, TT, Nat.reduceEqDiff, reduceCtorEq, Nat.reduceAdd, Nat.reduceSub, Nat.reduceLT, Nat.reduceMul, Nat.reducePow, Nat.reduceLeDiff, Int.reduceToNat, Int.reduceLE, Int.reduceLT, Int.reducePow, GOB, GB, hb0]
  refine kLoop_of (fun s : Nat × (Nat × Nat) × List UInt8 => ([.p 0 0, .j, .p 2 0, .p 3 0, .c (.int .i64 (s.1)), .j, .j, .j, .j, .j, .j, .j, .j, .j, .j, .j, .j, .j, .j, .j, .j, .j, .j, .j, .j, .j, .j, .j], [⟨true, sv 1 l.length c s.2.1⟩, ⟨false, bs l⟩, ⟨true, bs (List.replicate 256 0)⟩, ⟨true, bs s.2.2⟩])) (fun s => s.1) (fun s => s.1 ≤ 255 ∧ okS l s.2.1 ∧ s.2.2.length = 256) (255, q, b0) ⟨by simp, hq, hb0⟩ ⟨[0, 1, 2, 3], by simp [-List.reduceReplicate, LES, sv_ren, sv_ok]⟩ ?_
  rintro ⟨x, q, b⟩ ⟨hx, hq, hb⟩
  simp only at hx hq hb
  rcases Nat.eq_zero_or_pos x with h0 | h0
  · subst h0
    simp only [↓VC, VP, TT, Nat.reduceEqDiff, reduceCtorEq, Nat.reduceAdd, Nat.reduceSub, Nat.reduceLT, Nat.reduceMul, Nat.reducePow, Nat.reduceLeDiff, Int.reduceToNat, Int.reduceLE, Int.reduceLT, Int.reducePow, (eq_false (by omega) : (((0 : Nat) : Int) > 0) = False), decide_false, hb]
    exact ⟨_, _, [0, 1], ⟨(q, b), ⟨hq, hb⟩, rfl, rfl⟩, by simp [-List.reduceReplicate, LES, sv_ren, sv_ok]⟩
  · have w1 : IntKind.i64.wrap ((x : Int) + 1) = (x : Int) + 1 := wrap_i64 (by omega) (by omega)
    simp only [↓VC, VP, TT, Nat.reduceEqDiff, reduceCtorEq, Nat.reduceAdd, Nat.reduceSub, Nat.reduceLT, Nat.reduceMul, Nat.reducePow, Nat.reduceLeDiff, Int.reduceToNat, Int.reduceLE, Int.reduceLT, Int.reducePow, (eq_true (by omega) : ((x : Int) > 0) = True), decide_true, w1]
    refine kCall_M (d_next hc hm hq ((x : Int) + 1)) (by rfl) [(0, 0), (1, 0)] (by simp [CALL, SCB, SB, nsv]) (by simp [CALL, SCB, SB, nsv]) (by simp) (by simp [CALL, SCB, SB, nsv]) (by simp [okL_bs, okL_room, okL, okV, SB, nsv]) (by intro x _; simp [keepR, bs_length, SB, nsv]) (by simp [CALL, SCB, SB, nsv]) fun x1 h1 => ?_
    simp (config := { maxSteps := 2000000 }) only [CALL, ↓VC, VP, TT, Nat.reduceEqDiff, reduceCtorEq, Nat.reduceAdd, Nat.reduceSub, Nat.reduceLT, Nat.reduceMul, Nat.reducePow, Nat.reduceLeDiff, Int.reduceToNat, Int.reduceLE, Int.reduceLT, Int.reducePow, GOB, GB, hb]
    obtain ⟨q1, z1⟩ := x1
    obtain ⟨hq1, h1a, h1b, _⟩ := h1
    simp only at hq1 h1a h1b ⊢
    have h1b := h1b (by omega)
    obtain ⟨y, rfl⟩ : ∃ j : Nat, z1 = j := ⟨z1.toNat, by omega⟩
    simp only [Int.toNat_natCast]
    repeat (refine ⟨by first | omega | (simp; done) | decide, ?_⟩)
    refine ⟨(x - 1, q1, (b.set x (b.getD y 0)).set y (b.getD x 0)), ⟨by simp only; omega, hq1, by simp only [List.length_set]; exact hb⟩, by simp only; omega, [0, 1, 2, 3], ?_⟩
    rw [wrap_i64 (by omega) (by omega), show (x : Int) - 1 = ((x - 1 : Nat) : Int) by omega]
    simp [-List.reduceReplicate, LES, sv_ren, sv_ok]
theorem d_box (hc : l.length ≤ c) (hm : l.length ≤ 4096) (hq : okS l q) : LC Tryz.prog 92 [.p 0 0] [⟨true, sv 1 l.length c q⟩, ⟨false, bs l⟩] (RetM (fun x : (Nat × Nat) × List UInt8 => okS l x.1 ∧ x.2.length = 256) fun x => (.a (bs x.2), [⟨true, sv 1 l.length c x.1⟩, ⟨false, bs l⟩], [])) := by
  refine LC_of (X := XX (fun _ => .nil) (fun _ => []) [33, 34, 35, 36, 39, 45, 53, 54, 65, 75, 90, 91, 92, 104] 2) envOK Tryz.func92 (by kernel_rfl) (by kernel_rfl) rfl (Nat.le_of_ble_eq_true (by kernel_rfl)) ?_
  simp only [kFun, Tryz.f92, List.length_nil, List.length_cons, Nat.sub_zero, Nat.reduceSub, Nat.reduceAdd, List.nil_append, List.cons_append, List.replicate_succ, List.replicate_zero]
  simp only [XX, ↓VC, VP, TT, Nat.reduceEqDiff, reduceCtorEq, Nat.reduceAdd, Nat.reduceSub, Nat.reduceLT, Nat.reduceMul, Nat.reducePow, Nat.reduceLeDiff, Int.reduceToNat, Int.reduceLE, Int.reduceLT, Int.reducePow]
  refine kCall_M (d_next hc hm hq 6) (by rfl) [(0, 0), (1, 0)] (by simp [CALL, SCB, SB, nsv]) (by simp [CALL, SCB, SB, nsv]) (by simp) (by simp [CALL, SCB, SB, nsv]) (by simp [okL_bs, okL_room, okL, okV, SB, nsv]) (by intro x _; simp [keepR, bs_length, SB, nsv]) (by simp [CALL, SCB, SB, nsv]) fun x1 h1 => ?_
  simp (config := { maxSteps := 2000000 }) only [CALL, ↓VC, VP, TT, Nat.reduceEqDiff, reduceCtorEq, Nat.reduceAdd, Nat.reduceSub, Nat.reduceLT, Nat.reduceMul, Nat.reducePow, Nat.reduceLeDiff, Int.reduceToNat, Int.reduceLE, Int.reduceLT, Int.reducePow, GOB, GB]
  obtain ⟨q1, z1⟩ := x1
  obtain ⟨hq1, h1a, h1b, _⟩ := h1
  simp only at hq1 h1a h1b ⊢
  refine ⟨fun _ => ?_, fun _ => ⟨fun _ => ?_, fun _ => ⟨fun _ => ?_, fun _ => ⟨fun _ => ?_, fun _ => ?_⟩⟩⟩⟩
  · refine kCall_M (d_field hc hm hq1) (by rfl) [(0, 0), (1, 0)] (by simp [CALL, SCB, SB, nsv]) (by simp [CALL, SCB, SB, nsv]) (by simp) (by simp [CALL, SCB, SB, nsv]) (by simp [okL_bs, okL_room, okL, okV, SB, nsv]) (by intro x _; simp [keepR, bs_length, SB, nsv]) (by simp [CALL, SCB, SB, nsv]) fun x2 h2 => ?_
    simp (config := { maxSteps := 2000000 }) only [CALL, ↓VC, VP, TT, Nat.reduceEqDiff, reduceCtorEq, Nat.reduceAdd, Nat.reduceSub, Nat.reduceLT, Nat.reduceMul, Nat.reducePow, Nat.reduceLeDiff, Int.reduceToNat, Int.reduceLE, Int.reduceLT, Int.reducePow, GOB, GB]
    obtain ⟨q2, m⟩ := x2
    obtain ⟨hq2, hf⟩ := h2
    simp only at hq2 hf ⊢
    have hmb := field_bd hf
    refine kCall_Ret (g_power m 254 (by omega) (by omega) (by omega) (by omega)) (by rfl) [] (by simp [CALL, SCB, SB, nsv]) (by simp [CALL, SCB, SB, nsv]) (by simp [CALL, SCB, SB, nsv]) (by simp [okL_bs, okL_room, okL, okV, SB, nsv]) (by simp [CALL, SCB, SB, nsv]) fun b1 hb1 => ?_
    simp (config := { maxSteps := 2000000 }) only [CALL, ↓VC, VP, TT, Nat.reduceEqDiff, reduceCtorEq, Nat.reduceAdd, Nat.reduceSub, Nat.reduceLT, Nat.reduceMul, Nat.reducePow, Nat.reduceLeDiff, Int.reduceToNat, Int.reduceLE, Int.reduceLT, Int.reducePow, GOB, GB, hb1]
    refine kCall_M (d_next hc hm hq2 256) (by rfl) [(0, 0), (1, 0)] (by simp [CALL, SCB, SB, nsv]) (by simp [CALL, SCB, SB, nsv]) (by simp) (by simp [CALL, SCB, SB, nsv]) (by simp [okL_bs, okL_room, okL, okV, SB, nsv]) (by intro x _; simp [keepR, bs_length, SB, nsv]) (by simp [CALL, SCB, SB, nsv]) fun x3 h3 => ?_
    simp (config := { maxSteps := 2000000 }) only [CALL, ↓VC, VP, TT, Nat.reduceEqDiff, reduceCtorEq, Nat.reduceAdd, Nat.reduceSub, Nat.reduceLT, Nat.reduceMul, Nat.reducePow, Nat.reduceLeDiff, Int.reduceToNat, Int.reduceLE, Int.reduceLT, Int.reducePow, GOB, GB, hb1, wrap_u8]
    refine kCall_Ret (g_rot [0, 1, 4] rfl rot014 (UInt8.ofInt x3.2)) (by rfl) [(3, 0)] (by simp [CALL, SCB, SB, nsv, splice]) (by simp [CALL, SCB, SB, nsv, splice]) (by simp [CALL, SCB, SB, nsv, splice]) (by simp [okL_bs, okL_room, okL, okV, SB, nsv, splice]) (by simp [CALL, SCB, SB, nsv, splice]) fun b2 hb2 => ?_
    simp (config := { maxSteps := 2000000 }) only [CALL, ↓VC, VP, TT, Nat.reduceEqDiff, reduceCtorEq, Nat.reduceAdd, Nat.reduceSub, Nat.reduceLT, Nat.reduceMul, Nat.reducePow, Nat.reduceLeDiff, Int.reduceToNat, Int.reduceLE, Int.reduceLT, Int.reducePow, GOB, GB, hb1, hb2]
    refine kCall_val (c_spec_l02Then b1 b2 hb1 hb2) (by rfl) [] (by simp [CALL, SCB, SB, nsv]) (by simp [CALL, SCB, SB, nsv]) (by simp [CALL, SCB, SB, nsv]) (by simp [okL_bs, okL_room, okL, okV, SB, nsv]) ?_
    simp (config := { maxSteps := 2000000 }) only [CALL, ↓VC, VP, TT, Nat.reduceEqDiff, reduceCtorEq, Nat.reduceAdd, Nat.reduceSub, Nat.reduceLT, Nat.reduceMul, Nat.reducePow, Nat.reduceLeDiff, Int.reduceToNat, Int.reduceLE, Int.reduceLT, Int.reducePow, GOB, GB, hb1, hb2, thenL_len]
    exact ⟨_, _, [0, 1], ⟨(x3.1, thenL b1 b2), ⟨h3.1, thenL_len _ _⟩, rfl, rfl⟩, by simp [-List.reduceReplicate, LES, sv_ren, sv_ok]⟩
  · refine kCall_M (d_field hc hm hq1) (by rfl) [(0, 0), (1, 0)] (by simp [CALL, SCB, SB, nsv]) (by simp [CALL, SCB, SB, nsv]) (by simp) (by simp [CALL, SCB, SB, nsv]) (by simp [okL_bs, okL_room, okL, okV, SB, nsv]) (by intro x _; simp [keepR, bs_length, SB, nsv]) (by simp [CALL, SCB, SB, nsv]) fun x2 h2 => ?_
    simp (config := { maxSteps := 2000000 }) only [CALL, ↓VC, VP, TT, Nat.reduceEqDiff, reduceCtorEq, Nat.reduceAdd, Nat.reduceSub, Nat.reduceLT, Nat.reduceMul, Nat.reducePow, Nat.reduceLeDiff, Int.reduceToNat, Int.reduceLE, Int.reduceLT, Int.reducePow, GOB, GB]
    obtain ⟨q2, m⟩ := x2
    obtain ⟨hq2, hf⟩ := h2
    simp only at hq2 hf ⊢
    have hmb := field_bd hf
    refine kCall_M (d_pick hc hm hq2 [1, 2, 7, 11, 13, 127, 254] 7 (by simp) (by simp)) (by rfl) [(0, 0), (1, 0), (3, 0)] (by simp [CALL, SCB, SB, nsv, splice]) (by simp [CALL, SCB, SB, nsv, splice]) (by simp) (by simp [CALL, SCB, SB, nsv, splice]) (by simp [okL_bs, okL_room, okL, okV, SB, nsv, splice]) (by intro x _; simp [keepR, bs_length, SB, nsv, splice]) (by simp [CALL, SCB, SB, nsv, splice]) fun x3 h3 => ?_
    simp (config := { maxSteps := 2000000 }) only [CALL, ↓VC, VP, TT, Nat.reduceEqDiff, reduceCtorEq, Nat.reduceAdd, Nat.reduceSub, Nat.reduceLT, Nat.reduceMul, Nat.reducePow, Nat.reduceLeDiff, Int.reduceToNat, Int.reduceLE, Int.reduceLT, Int.reducePow, GOB, GB]
    obtain ⟨q3, z3⟩ := x3
    obtain ⟨hq3, h3⟩ := h3
    simp only at hq3 h3 ⊢
    have hz : 0 ≤ z3 ∧ z3 ≤ 254 := by
      simp only [List.mem_cons, List.not_mem_nil, or_false] at h3
      omega
    refine kCall_Ret (g_power m z3 (by omega) (by omega) hz.1 hz.2) (by rfl) [] (by simp [CALL, SCB, SB, nsv]) (by simp [CALL, SCB, SB, nsv]) (by simp [CALL, SCB, SB, nsv]) (by simp [okL_bs, okL_room, okL, okV, SB, nsv]) (by simp [CALL, SCB, SB, nsv]) fun b1 hb1 => ?_
    simp (config := { maxSteps := 2000000 }) only [CALL, ↓VC, VP, TT, Nat.reduceEqDiff, reduceCtorEq, Nat.reduceAdd, Nat.reduceSub, Nat.reduceLT, Nat.reduceMul, Nat.reducePow, Nat.reduceLeDiff, Int.reduceToNat, Int.reduceLE, Int.reduceLT, Int.reducePow, GOB, GB, hb1]
    exact ⟨_, _, [0, 1], ⟨(q3, b1), ⟨hq3, hb1⟩, rfl, rfl⟩, by simp [-List.reduceReplicate, LES, sv_ren, sv_ok]⟩
  · refine kCall_M (d_next hc hm hq1 256) (by rfl) [(0, 0), (1, 0)] (by simp [CALL, SCB, SB, nsv]) (by simp [CALL, SCB, SB, nsv]) (by simp) (by simp [CALL, SCB, SB, nsv]) (by simp [okL_bs, okL_room, okL, okV, SB, nsv]) (by intro x _; simp [keepR, bs_length, SB, nsv]) (by simp [CALL, SCB, SB, nsv]) fun x3 h3 => ?_
    simp (config := { maxSteps := 2000000 }) only [CALL, ↓VC, VP, TT, Nat.reduceEqDiff, reduceCtorEq, Nat.reduceAdd, Nat.reduceSub, Nat.reduceLT, Nat.reduceMul, Nat.reducePow, Nat.reduceLeDiff, Int.reduceToNat, Int.reduceLE, Int.reduceLT, Int.reducePow, GOB, GB, wrap_u8]
    refine kCall_Ret (g_rot [0, 2, 5] rfl rot025 (UInt8.ofInt x3.2)) (by rfl) [(3, 0)] (by simp [CALL, SCB, SB, nsv, splice]) (by simp [CALL, SCB, SB, nsv, splice]) (by simp [CALL, SCB, SB, nsv, splice]) (by simp [okL_bs, okL_room, okL, okV, SB, nsv, splice]) (by simp [CALL, SCB, SB, nsv, splice]) fun b2 hb2 => ?_
    simp (config := { maxSteps := 2000000 }) only [CALL, ↓VC, VP, TT, Nat.reduceEqDiff, reduceCtorEq, Nat.reduceAdd, Nat.reduceSub, Nat.reduceLT, Nat.reduceMul, Nat.reducePow, Nat.reduceLeDiff, Int.reduceToNat, Int.reduceLE, Int.reduceLT, Int.reducePow, GOB, GB, hb2]
    exact ⟨_, _, [0, 1], ⟨(x3.1, b2), ⟨h3.1, hb2⟩, rfl, rfl⟩, by simp [-List.reduceReplicate, LES, sv_ren, sv_ok]⟩
  · refine kCall_Ret (g_same) (by rfl) [] (by simp [CALL, SCB, SB, nsv]) (by simp [CALL, SCB, SB, nsv]) (by simp [CALL, SCB, SB, nsv]) (by simp [okL_bs, okL_room, okL, okV, SB, nsv]) (by simp [CALL, SCB, SB, nsv]) fun b0 hb0 => ?_
    simp (config := { maxSteps := 2000000 }) only [CALL, ↓VC, VP, TT, Nat.reduceEqDiff, reduceCtorEq, Nat.reduceAdd, Nat.reduceSub, Nat.reduceLT, Nat.reduceMul, Nat.reducePow, Nat.reduceLeDiff, Int.reduceToNat, Int.reduceLE, Int.reduceLT, Int.reducePow, GOB, GB, hb0]
    refine kCall_M (d_next hc hm hq1 256) (by rfl) [(0, 0), (1, 0)] (by simp [CALL, SCB, SB, nsv]) (by simp [CALL, SCB, SB, nsv]) (by simp) (by simp [CALL, SCB, SB, nsv]) (by simp [okL_bs, okL_room, okL, okV, SB, nsv]) (by intro x _; simp [keepR, bs_length, SB, nsv]) (by simp [CALL, SCB, SB, nsv]) fun x2 h2 => ?_
    simp (config := { maxSteps := 2000000 }) only [CALL, ↓VC, VP, TT, Nat.reduceEqDiff, reduceCtorEq, Nat.reduceAdd, Nat.reduceSub, Nat.reduceLT, Nat.reduceMul, Nat.reducePow, Nat.reduceLeDiff, Int.reduceToNat, Int.reduceLE, Int.reduceLT, Int.reducePow, GOB, GB, hb0]
    obtain ⟨q2, z2⟩ := x2
    obtain ⟨hq2, h2a, h2b, _⟩ := h2
    simp only at hq2 h2a h2b ⊢
    have h2b := h2b (by omega)
    obtain ⟨y2, rfl⟩ : ∃ j : Nat, z2 = j := ⟨z2.toNat, by omega⟩
    refine kCall_M (d_next hc hm hq2 256) (by rfl) [(0, 0), (1, 0)] (by simp [CALL, SCB, SB, nsv]) (by simp [CALL, SCB, SB, nsv]) (by simp) (by simp [CALL, SCB, SB, nsv]) (by simp [okL_bs, okL_room, okL, okV, SB, nsv]) (by intro x _; simp [keepR, bs_length, SB, nsv]) (by simp [CALL, SCB, SB, nsv]) fun x3 h3 => ?_
    simp (config := { maxSteps := 2000000 }) only [CALL, ↓VC, VP, TT, Nat.reduceEqDiff, reduceCtorEq, Nat.reduceAdd, Nat.reduceSub, Nat.reduceLT, Nat.reduceMul, Nat.reducePow, Nat.reduceLeDiff, Int.reduceToNat, Int.reduceLE, Int.reduceLT, Int.reducePow, GOB, GB, hb0, Int.toNat_natCast, List.length_set]
    obtain ⟨q3, z3⟩ := x3
    obtain ⟨hq3, h3a, h3b, _⟩ := h3
    simp only at hq3 h3a h3b ⊢
    have h3b := h3b (by omega)
    obtain ⟨y3, rfl⟩ : ∃ j : Nat, z3 = j := ⟨z3.toNat, by omega⟩
    simp only [Int.toNat_natCast]
    repeat (refine ⟨by first | omega | (simp; done) | decide, ?_⟩)
    exact ⟨_, _, [0, 1], ⟨(q3, (b0.set y2 (b0.getD y3 0)).set y3 (b0.getD y2 0)), ⟨hq3, by simp only [List.length_set]; exact hb0⟩, rfl, rfl⟩, by simp [-List.reduceReplicate, LES, sv_ren, sv_ok]⟩
  · refine kCall_M (d_shuffle hc hm hq1) (by rfl) [(0, 0), (1, 0)] (by simp [CALL, SCB, SB, nsv]) (by simp [CALL, SCB, SB, nsv]) (by simp) (by simp [CALL, SCB, SB, nsv]) (by simp [okL_bs, okL_room, okL, okV, SB, nsv]) (by intro x _; simp [keepR, bs_length, SB, nsv]) (by simp [CALL, SCB, SB, nsv]) fun x2 h2 => ?_
    have hb2 := h2.2
    simp (config := { maxSteps := 2000000 }) only [CALL, ↓VC, VP, TT, Nat.reduceEqDiff, reduceCtorEq, Nat.reduceAdd, Nat.reduceSub, Nat.reduceLT, Nat.reduceMul, Nat.reducePow, Nat.reduceLeDiff, Int.reduceToNat, Int.reduceLE, Int.reduceLT, Int.reducePow, GOB, GB, hb2]
    exact ⟨_, _, [0, 1], ⟨(x2.1, x2.2), ⟨h2.1, h2.2⟩, rfl, rfl⟩, by simp [-List.reduceReplicate, LES, sv_ren, sv_ok]⟩
theorem z_block (hc : l.length ≤ c) (hm : l.length ≤ 4096) (hq : okS l q) : LC Tryz.prog 39 [.p 0 0] [⟨true, sv 1 l.length c q⟩, ⟨false, bs l⟩] (RetM (fun x : (Nat × Nat) × List UInt8 => okS l x.1 ∧ x.2.length = 16) fun x => (.a (bs x.2), [⟨true, sv 1 l.length c x.1⟩, ⟨false, bs l⟩], [])) := by
  refine LC_of (X := XX (fun _ => .nil) (fun _ => []) [33, 34, 35, 36, 39, 45, 53, 54, 65, 75, 90, 91, 92, 104] 2) envOK Tryz.func39 (by kernel_rfl) (by kernel_rfl) rfl (Nat.le_of_ble_eq_true (by kernel_rfl)) ?_
  simp only [kFun, Tryz.f39, List.length_nil, List.length_cons, Nat.sub_zero, Nat.reduceSub, Nat.reduceAdd, List.nil_append, List.cons_append, List.replicate_succ, List.replicate_zero]
  simp only [XX, ↓VC, VP, TT, Nat.reduceEqDiff, reduceCtorEq, Nat.reduceAdd, Nat.reduceSub, Nat.reduceLT, Nat.reduceMul, Nat.reducePow, Nat.reduceLeDiff, Int.reduceToNat, Int.reduceLE, Int.reduceLT, Int.reducePow]
  refine kCall_M (d_next hc hm hq 5) (by rfl) [(0, 0), (1, 0)] (by simp [CALL, SCB, SB, nsv]) (by simp [CALL, SCB, SB, nsv]) (by simp) (by simp [CALL, SCB, SB, nsv]) (by simp [okL_bs, okL_room, okL, okV, SB, nsv]) (by intro x _; simp [keepR, bs_length, SB, nsv]) (by simp [CALL, SCB, SB, nsv]) fun x1 h1 => ?_
  simp (config := { maxSteps := 2000000 }) only [CALL, ↓VC, VP, TT, Nat.reduceEqDiff, reduceCtorEq, Nat.reduceAdd, Nat.reduceSub, Nat.reduceLT, Nat.reduceMul, Nat.reducePow, Nat.reduceLeDiff, Int.reduceToNat, Int.reduceLE, Int.reduceLT, Int.reducePow, GOB, GB]
  refine ⟨fun _ => ?_, fun _ => ?_⟩
  · refine kCall_M (d_next hc hm h1.1 16) (by rfl) [(0, 0), (1, 0)] (by simp [CALL, SCB, SB, nsv]) (by simp [CALL, SCB, SB, nsv]) (by simp) (by simp [CALL, SCB, SB, nsv]) (by simp [okL_bs, okL_room, okL, okV, SB, nsv]) (by intro x _; simp [keepR, bs_length, SB, nsv]) (by simp [CALL, SCB, SB, nsv]) fun x2 h2 => ?_
    simp (config := { maxSteps := 2000000 }) only [CALL, ↓VC, VP, TT, Nat.reduceEqDiff, reduceCtorEq, Nat.reduceAdd, Nat.reduceSub, Nat.reduceLT, Nat.reduceMul, Nat.reducePow, Nat.reduceLeDiff, Int.reduceToNat, Int.reduceLE, Int.reduceLT, Int.reducePow, GOB, GB]
    obtain ⟨q2, z2⟩ := x2
    obtain ⟨hq2, h2a, h2b, _⟩ := h2
    simp only at hq2 h2a h2b ⊢
    have h2b := h2b (by omega)
    obtain ⟨y2, rfl⟩ : ∃ j : Nat, z2 = j := ⟨z2.toNat, by omega⟩
    refine kCall_M (z_byte hc hm hq2) (by rfl) [(0, 0), (1, 0)] (by simp [CALL, SCB, SB, nsv]) (by simp [CALL, SCB, SB, nsv]) (by simp) (by simp [CALL, SCB, SB, nsv]) (by simp [okL_bs, okL_room, okL, okV, SB, nsv]) (by intro x _; simp [keepR, bs_length, SB, nsv]) (by simp [CALL, SCB, SB, nsv]) fun x3 h3 => ?_
    simp (config := { maxSteps := 2000000 }) only [CALL, ↓VC, VP, TT, Nat.reduceEqDiff, reduceCtorEq, Nat.reduceAdd, Nat.reduceSub, Nat.reduceLT, Nat.reduceMul, Nat.reducePow, Nat.reduceLeDiff, Int.reduceToNat, Int.reduceLE, Int.reduceLT, Int.reducePow, GOB, GB, Int.toNat_natCast]
    repeat (refine ⟨by first | omega | (simp; done) | decide, ?_⟩)
    exact ⟨_, _, [0, 1], ⟨(x3.1, (List.replicate 16 0).set y2 x3.2), ⟨h3, by simp⟩, rfl, rfl⟩, by simp [-List.reduceReplicate, LES, sv_ren, sv_ok]⟩
  · have hq1 := h1.1
    generalize x1.1 = q1 at *
    refine kLoop_of (fun s : Nat × (Nat × Nat) × List UInt8 => ([.p 0 0, .j, .p 2 0, .p 3 0, .c (.int .i64 (s.1)), .j, .j, .j, .j, .j, .j, .j, .j, .j, .j, .j, .j, .j, .j, .j, .j, .j, .j, .j, .j], [⟨true, sv 1 l.length c s.2.1⟩, ⟨false, bs l⟩, ⟨true, bs (List.replicate 16 0)⟩, ⟨true, bs s.2.2⟩])) (fun s => 16 - s.1) (fun s => s.1 ≤ 16 ∧ okS l s.2.1 ∧ s.2.2.length = 16) (0, q1, List.replicate 16 0) ⟨by simp, hq1, by simp⟩ ⟨[0, 1, 2, 3], by simp [-List.reduceReplicate, LES, sv_ren, sv_ok]⟩ ?_
    rintro ⟨i, q, b⟩ ⟨hi, hq, hb⟩
    simp only at hi hq hb
    rcases Nat.lt_or_ge i 16 with h | h
    · simp only [↓VC, VP, TT, Nat.reduceEqDiff, reduceCtorEq, Nat.reduceAdd, Nat.reduceSub, Nat.reduceLT, Nat.reduceMul, Nat.reducePow, Nat.reduceLeDiff, Int.reduceToNat, Int.reduceLE, Int.reduceLT, Int.reducePow, (eq_true (by omega) : ((i : Int) < 16) = True), decide_true]
      refine kCall_M (d_next hc hm hq 256) (by rfl) [(0, 0), (1, 0)] (by simp [CALL, SCB, SB, nsv]) (by simp [CALL, SCB, SB, nsv]) (by simp) (by simp [CALL, SCB, SB, nsv]) (by simp [okL_bs, okL_room, okL, okV, SB, nsv]) (by intro x _; simp [keepR, bs_length, SB, nsv]) (by simp [CALL, SCB, SB, nsv]) fun x2 h2 => ?_
      simp (config := { maxSteps := 2000000 }) only [CALL, ↓VC, VP, TT, Nat.reduceEqDiff, reduceCtorEq, Nat.reduceAdd, Nat.reduceSub, Nat.reduceLT, Nat.reduceMul, Nat.reducePow, Nat.reduceLeDiff, Int.reduceToNat, Int.reduceLE, Int.reduceLT, Int.reducePow, GOB, GB, wrap_u8, hb]
      repeat (refine ⟨by first | omega | (simp; done) | decide, ?_⟩)
      exact ⟨(i + 1, x2.1, b.set i (UInt8.ofInt x2.2)), ⟨by simp only; omega, h2.1, by simp only [List.length_set]; exact hb⟩, by simp only; omega, [0, 1, 2, 3], by rw [wrap_i64 (by omega) (by omega)]; simp [-List.reduceReplicate, LES, sv_ren, sv_ok]⟩
    · obtain rfl : i = 16 := by omega
      simp only [↓VC, VP, TT, Nat.reduceEqDiff, reduceCtorEq, Nat.reduceAdd, Nat.reduceSub, Nat.reduceLT, Nat.reduceMul, Nat.reducePow, Nat.reduceLeDiff, Int.reduceToNat, Int.reduceLE, Int.reduceLT, Int.reducePow, (eq_false (by omega) : (((16 : Nat) : Int) < 16) = False), decide_false, hb]
      exact ⟨_, _, [0, 1], ⟨(q, b), ⟨hq, hb⟩, rfl, rfl⟩, by simp [-List.reduceReplicate, LES, sv_ren, sv_ok]⟩
end
end Go.Proofs.YtjakgjelnbpmnaaGreat
/- A law's first test. -/
set_option linter.unusedSimpArgs false
set_option linter.unusedVariables false
namespace Go.Proofs.YtjakgjelnbpmnaaGreat
open Go Go.Vc
set_option maxRecDepth 10000
set_option maxHeartbeats 4000000
section
variable {l : List UInt8} {c : Nat} {q : Nat × Nat}
theorem d_big (hm : l.length ≤ maxLen) : LC Tryz.prog 4 [.s 0 0 l.length c] [⟨false, bs l⟩] (fun v hp => v = .c (.bool (decide (l.length > 4096))) ∧ hp = [⟨false, bs l⟩]) := by
  refine LC_of (X := XX (fun _ => .nil) (fun _ => []) [33, 34, 35, 36, 39, 45, 53, 54, 65, 75, 90, 91, 92, 104] 1) envOK Tryz.func4 (by kernel_rfl) (by kernel_rfl) rfl (Nat.le_of_ble_eq_true (by kernel_rfl)) ?_
  simp only [kFun, Tryz.f4, List.length_nil, List.length_cons, Nat.sub_zero, Nat.reduceSub, Nat.reduceAdd, List.nil_append, List.cons_append, List.replicate_succ, List.replicate_zero]
  simp only [XX, ↓VC, VP, TT, Nat.reduceEqDiff, reduceCtorEq, Nat.reduceAdd, Nat.reduceSub, Nat.reduceLT, Nat.reduceMul, Nat.reducePow, Nat.reduceLeDiff, Int.reduceToNat, Int.reduceLE, Int.reduceLT, Int.reducePow]
  refine ⟨_, _, [0], ⟨rfl, rfl⟩, ?_⟩
  rw [show decide ((l.length : Int) > 4096) = decide (l.length > 4096) by rw [decide_eq_decide]; omega]
  simp [-List.reduceReplicate, LES]
end
end Go.Proofs.YtjakgjelnbpmnaaGreat

import Derived.Test.YtjakgjelnbpmnaaGreatListsM
import Derived.Test.YtjakgjelnbpmnaaGreatEnv
import Derived.Lib.BytesEntry
import Derived.Lib.IndexAny
import Derived.Test.YtjakgjelnbpmnaaGreatInvS
import Derived.Test.YtjakgjelnbpmnaaGreatFieldC
import Derived.Test.YtjakgjelnbpmnaaGreatEngE
/- Permutations: the program and the reference. -/
set_option linter.unusedSimpArgs false
set_option linter.unusedVariables false
namespace Go.Proofs.YtjakgjelnbpmnaaGreat
open Go Go.Vc
set_option maxRecDepth 10000
set_option maxHeartbeats 4000000
theorem c_spec_l02Is (b : List UInt8) (hb : b.length = 256) : LC Tryz.prog 61 [.a (bs b)] [] (fun v hp => v = .c (.bool (permB b)) ∧ hp = []) := by
  refine LC_of (X := XX (fun _ => .nil) (fun _ => []) [33, 34, 35, 36, 39, 45, 53, 54, 65, 75, 90, 91, 92, 104] 0) envOK Tryz.func61 (by kernel_rfl) (by kernel_rfl) rfl (Nat.le_of_ble_eq_true (by kernel_rfl)) ?_
  simp only [kFun, Tryz.f61, List.length_nil, List.length_cons, Nat.sub_zero, Nat.reduceSub, Nat.reduceAdd, List.nil_append, List.cons_append, List.replicate_succ, List.replicate_zero]
  simp only [XX, ↓VC, VP, TT, Nat.reduceEqDiff, reduceCtorEq, Nat.reduceAdd, Nat.reduceSub, Nat.reduceLT, Nat.reduceMul, Nat.reducePow, Nat.reduceLeDiff, Int.reduceToNat, Int.reduceLE, Int.reduceLT, Int.reducePow, hb]
  refine kLoop_of (fun x : Nat => ([.j, .p 0 0, .j, .p 1 0, .c (.int .i64 (x)), .j, .j, .j, .j, .j, .j, .j, .j, .j, .j, .j, .j, .j, .j], [⟨true, bs b⟩, ⟨true, blv (seenL 256 (b.take x))⟩])) (fun x => 256 - x) (fun x => x ≤ 256 ∧ (b.take x).Nodup) 0 (by simp)
    ⟨[0, 1], by rw [List.take_zero, ← seenL_nil]; simp [-List.reduceReplicate, LES]⟩ ?_
  rintro x ⟨hx, hn⟩
  rcases Nat.lt_or_ge x 256 with h | h
  · have hu : (b.getD x 0).toNat < 256 := (b.getD x 0).toNat_lt
    simp only [↓VC, VP, TT, Nat.reduceEqDiff, reduceCtorEq, Nat.reduceAdd, Nat.reduceSub, Nat.reduceLT, Nat.reduceMul, Nat.reducePow, Nat.reduceLeDiff, Int.reduceToNat, Int.reduceLE, Int.reduceLT, Int.reducePow, h, (eq_true (by omega) : ((x : Int) < 256) = True), (eq_true (by omega) : ((x : Int) < ((256 : Nat) : Int)) = True), wrap_i64 (n := (x : Int) + 1) (by omega) (by omega), decide_true, hb, seenL_len, seenL_get hu, hu, (eq_true (by omega) : (((b.getD x 0).toNat : Int) < ((256 : Nat) : Int)) = True), seenL_set (show x < b.length by omega), h]
    have hs := nodup_snoc (l := b) (x := x) (by omega)
    refine ⟨fun h1 => ?_, fun h1 => ?_⟩
    · have : permB b = false := decide_eq_false (not_nodup_take (x := x + 1) fun h2 => (hs.1 h2).2 h1)
      refine ⟨_, _, [], ⟨rfl, rfl⟩, ?_⟩; simp [-List.reduceReplicate, LES, this]
    · exact ⟨x + 1, ⟨by omega, hs.2 ⟨hn, h1⟩⟩, by omega, [0, 1], by simp [-List.reduceReplicate, LES]⟩
  · obtain rfl : x = 256 := by omega
    simp only [↓VC, VP, TT, Nat.reduceEqDiff, reduceCtorEq, Nat.reduceAdd, Nat.reduceSub, Nat.reduceLT, Nat.reduceMul, Nat.reducePow, Nat.reduceLeDiff, Int.reduceToNat, Int.reduceLE, Int.reduceLT, Int.reducePow, (eq_false (by omega) : (((256 : Nat) : Int) < 256) = False), decide_false, show ((256 : Int) < 256) = False from eq_false (by decide), decide_false]
    have : permB b = true := decide_eq_true (by rwa [List.take_of_length_le (by omega)] at hn)
    refine ⟨_, _, [], ⟨rfl, rfl⟩, ?_⟩; simp [-List.reduceReplicate, LES, this]
theorem c_slices_IndexB (L : List Bool) (c : Nat) (b : Bool) (hc : L.length ≤ c) (hm : L.length ≤ 1048576) : LC Tryz.prog 101 [.s 0 0 L.length c, .c (.bool (b))] [⟨false, blv L⟩] (Ret [⟨false, blv L⟩] (fun z : Int => decide (z ≥ 0) = L.contains b) fun z => (.c (.int .i64 (z)), [])) := by
  refine LC_of (X := XX (fun _ => .nil) (fun _ => []) [33, 34, 35, 36, 39, 45, 53, 54, 65, 75, 90, 91, 92, 104] 1) envOK Tryz.func101 (by kernel_rfl) (by kernel_rfl) rfl (Nat.le_of_ble_eq_true (by kernel_rfl)) ?_
  simp only [kFun, Tryz.f101, List.length_nil, List.length_cons, Nat.sub_zero, Nat.reduceSub, Nat.reduceAdd, List.nil_append, List.cons_append, List.replicate_succ, List.replicate_zero]
  simp only [XX, ↓VC, VP, TT, Nat.reduceEqDiff, reduceCtorEq, Nat.reduceAdd, Nat.reduceSub, Nat.reduceLT, Nat.reduceMul, Nat.reducePow, Nat.reduceLeDiff, Int.reduceToNat, Int.reduceLE, Int.reduceLT, Int.reducePow]
  refine kLoop_of (fun i : Nat => ([.s 0 0 L.length c, .c (.bool (b)), .j, .j, .j, .j, .j, .c (.int .i64 (L.length)), .c (.int .i64 (i)), .j, .j, .j, .j, .j, .j, .j, .j, .j, .j], [⟨false, blv L⟩])) (fun i => L.length - i) (fun i => i ≤ L.length ∧ b ∉ L.take i) 0 (by simp) ⟨[0], by simp [-List.reduceReplicate, LES]⟩ ?_
  rintro i ⟨hi, hn⟩
  rcases Nat.lt_or_ge i L.length with h | h
  · simp only [↓VC, VP, TT, Nat.reduceEqDiff, reduceCtorEq, Nat.reduceAdd, Nat.reduceSub, Nat.reduceLT, Nat.reduceMul, Nat.reducePow, Nat.reduceLeDiff, Int.reduceToNat, Int.reduceLE, Int.reduceLT, Int.reducePow, h, (eq_true (by omega) : ((i : Int) < L.length) = True), (eq_true (by omega) : ((i : Int) < ((L.length : Nat) : Int)) = True), wrap_i64 (n := (i : Int) + 1) (by omega) (by omega), decide_true, h]
    refine ⟨fun h1 => ?_, fun h1 => ?_⟩
    · refine ⟨_, _, [0], ⟨(i : Int), ?_, rfl, rfl⟩, ?_⟩
      · show decide ((i : Int) ≥ 0) = L.contains b
        rw [decide_eq_true (by omega), List.contains_eq_mem, eq_comm, decide_eq_true_eq, beq_iff_eq.1 h1, List.getD_eq_getElem?_getD, List.getElem?_eq_getElem h]
        exact List.getElem_mem _
      · simp [-List.reduceReplicate, LES]
    · refine ⟨i + 1, ⟨by omega, ?_⟩, by omega, [0], by simp [-List.reduceReplicate, LES]⟩
      rw [List.take_add_one, List.getElem?_eq_getElem h]
      simp only [Option.toList, List.mem_append, List.mem_singleton, not_or]
      refine ⟨hn, ?_⟩
      have := beq_eq_false_iff_ne.1 h1
      rwa [List.getD_eq_getElem?_getD, List.getElem?_eq_getElem h] at this
  · obtain rfl : i = L.length := by omega
    rw [List.take_length] at hn
    simp only [↓VC, VP, TT, Nat.reduceEqDiff, reduceCtorEq, Nat.reduceAdd, Nat.reduceSub, Nat.reduceLT, Nat.reduceMul, Nat.reducePow, Nat.reduceLeDiff, Int.reduceToNat, Int.reduceLE, Int.reduceLT, Int.reducePow, (eq_false (by omega) : ((L.length : Int) < (L.length : Int)) = False), decide_false]
    refine ⟨_, _, [0], ⟨-1, ?_, rfl, rfl⟩, ?_⟩
    · show decide ((-1 : Int) ≥ 0) = L.contains b
      rw [decide_eq_false (by omega), List.contains_eq_mem, eq_comm, decide_eq_false_iff_not]; exact hn
    · simp [-List.reduceReplicate, LES]
theorem c_slices_ContainsB (L : List Bool) (c : Nat) (b : Bool) (hc : L.length ≤ c) (hm : L.length ≤ 1048576) : LC Tryz.prog 87 [.s 0 0 L.length c, .c (.bool (b))] [⟨false, blv L⟩] (fun v hp => v = .c (.bool (L.contains b)) ∧ hp = [⟨false, blv L⟩]) := by
  refine LC_of (X := XX (fun _ => .nil) (fun _ => []) [33, 34, 35, 36, 39, 45, 53, 54, 65, 75, 90, 91, 92, 104] 1) envOK Tryz.func87 (by kernel_rfl) (by kernel_rfl) rfl (Nat.le_of_ble_eq_true (by kernel_rfl)) ?_
  simp only [kFun, Tryz.f87, List.length_nil, List.length_cons, Nat.sub_zero, Nat.reduceSub, Nat.reduceAdd, List.nil_append, List.cons_append, List.replicate_succ, List.replicate_zero]
  simp only [XX, ↓VC, VP, TT, Nat.reduceEqDiff, reduceCtorEq, Nat.reduceAdd, Nat.reduceSub, Nat.reduceLT, Nat.reduceMul, Nat.reducePow, Nat.reduceLeDiff, Int.reduceToNat, Int.reduceLE, Int.reduceLT, Int.reducePow]
  refine kCall_Ret (c_slices_IndexB L c b hc hm) (by rfl) [(0, 0)] (by simp [CALL]) (by simp [CALL, cellsAt, blv_length, take_all]) (by simp [CALL]) (by simp [okL_blv]) (by simp) fun z hz => ?_
  simp only [CALL, ↓VC, VP, TT, Nat.reduceEqDiff, reduceCtorEq, Nat.reduceAdd, Nat.reduceSub, Nat.reduceLT, Nat.reduceMul, Nat.reducePow, Nat.reduceLeDiff, Int.reduceToNat, Int.reduceLE, Int.reduceLT, Int.reducePow, hz]
  refine ⟨_, _, [0], ⟨rfl, rfl⟩, ?_⟩
  simp [-List.reduceReplicate, LES]
theorem c_impl_IsPermutation (b : List UInt8) (hb : b.length = 256) : LC Tryz.prog 67 [.a (bs b)] [] (fun v hp => v = .c (.bool (permB b)) ∧ hp = []) := by
  refine LC_of (X := XX (fun _ => .nil) (fun _ => []) [33, 34, 35, 36, 39, 45, 53, 54, 65, 75, 90, 91, 92, 104] 0) envOK Tryz.func67 (by kernel_rfl) (by kernel_rfl) rfl (Nat.le_of_ble_eq_true (by kernel_rfl)) ?_
  simp only [kFun, Tryz.f67, List.length_nil, List.length_cons, Nat.sub_zero, Nat.reduceSub, Nat.reduceAdd, List.nil_append, List.cons_append, List.replicate_succ, List.replicate_zero]
  simp only [XX, ↓VC, VP, TT, Nat.reduceEqDiff, reduceCtorEq, Nat.reduceAdd, Nat.reduceSub, Nat.reduceLT, Nat.reduceMul, Nat.reducePow, Nat.reduceLeDiff, Int.reduceToNat, Int.reduceLE, Int.reduceLT, Int.reducePow, hb]
  refine kLoop_of (fun x : Nat => ([.j, .p 0 0, .j, .p 1 0, .j, .j, .j, .a (bs b), .c (.int .i64 (x)), .j, .j, .j, .j, .j, .j, .j, .j], [⟨true, bs b⟩, ⟨true, blv (seenL 256 (b.take x))⟩])) (fun x => 256 - x) (fun x => x ≤ 256) 0 (by simp)
    ⟨[0, 1], by rw [List.take_zero, ← seenL_nil]; simp [-List.reduceReplicate, LES]⟩ ?_
  intro x hx
  rcases Nat.lt_or_ge x 256 with h | h
  · have hu : (b.getD x 0).toNat < 256 := (b.getD x 0).toNat_lt
    simp only [↓VC, VP, TT, Nat.reduceEqDiff, reduceCtorEq, Nat.reduceAdd, Nat.reduceSub, Nat.reduceLT, Nat.reduceMul, Nat.reducePow, Nat.reduceLeDiff, Int.reduceToNat, Int.reduceLE, Int.reduceLT, Int.reducePow, h, (eq_true (by omega) : ((x : Int) < 256) = True), (eq_true (by omega) : ((x : Int) < ((256 : Nat) : Int)) = True), wrap_i64 (n := (x : Int) + 1) (by omega) (by omega), decide_true, hb, seenL_len, hu, (eq_true (by omega) : (((b.getD x 0).toNat : Int) < ((256 : Nat) : Int)) = True), seenL_set (show x < b.length by omega), h]
    exact ⟨x + 1, by omega, by omega, [0, 1], by simp [-List.reduceReplicate, LES]⟩
  · obtain rfl : x = 256 := by omega
    simp only [↓VC, VP, TT, Nat.reduceEqDiff, reduceCtorEq, Nat.reduceAdd, Nat.reduceSub, Nat.reduceLT, Nat.reduceMul, Nat.reducePow, Nat.reduceLeDiff, Int.reduceToNat, Int.reduceLE, Int.reduceLT, Int.reducePow, show ((256 : Int) < 256) = False from eq_false (by decide), decide_false, (eq_false (by omega) : (((256 : Nat) : Int) < 256) = False), decide_false]
    rw [List.take_of_length_le (by omega)]
    refine kCall_val (c_slices_ContainsB (seenL 256 b) 256 false (by rw [seenL_len]; omega) (by rw [seenL_len]; omega)) (by rfl) [(1, 0)] (by simp [CALL, seenL_len]) (by simp [CALL, cellsAt, blv_length, seenL_len, take_all]) (by simp [CALL, seenL_len]) (by simp [okL_blv]) ?_
    simp only [CALL, ↓VC, VP, TT, Nat.reduceEqDiff, reduceCtorEq, Nat.reduceAdd, Nat.reduceSub, Nat.reduceLT, Nat.reduceMul, Nat.reducePow, Nat.reduceLeDiff, Int.reduceToNat, Int.reduceLE, Int.reduceLT, Int.reducePow, seen_all hb]
    refine ⟨_, _, [], ⟨rfl, rfl⟩, ?_⟩; simp [-List.reduceReplicate, LES]
end Go.Proofs.YtjakgjelnbpmnaaGreat
/- Which ciphers are ones: the program and the reference. -/
set_option linter.unusedSimpArgs false
set_option linter.unusedVariables false
namespace Go.Proofs.YtjakgjelnbpmnaaGreat
open Go Go.Vc
set_option maxRecDepth 10000
set_option maxHeartbeats 4000000
def detL (m : Nat) (A : List UInt8) : UInt8 := (invM m A (unP 4)).1
def backL (m : Nat) (A : List UInt8) : List UInt8 := (invM m A (unP 4)).2
theorem backL_len (m : Nat) {A : List UInt8} (hA : A.length = 16) : (backL m A).length = 16 := invM_len m hA (unP_len 4)
def invB (m : Int) (A : List UInt8) : Bool := detL m.toNat A != 0
theorem det_ne (u : UInt8) : ((u.toNat : Int) != 0) = (u != 0) := by
  rw [Bool.eq_iff_iff, bne_iff_ne, bne_iff_ne]
  constructor
  · rintro h rfl; exact h rfl
  · intro h e; exact h (UInt8.toNat_inj.1 (by show u.toNat = 0; omega))
theorem c_spec_l03Inverse (m : Nat) (A : List UInt8) (hm : 256 ≤ m) (hm' : m < 512) (hA : A.length = 16) : LC Tryz.prog 93 [.c (.int .i64 (m)), .a (bs A)] [] (fun v hp => v = .t [.a (bs (backL m A)), .c (.bool (invB m A))] ∧ hp = []) := by
  have hI := backL_len m hA
  refine LC_of (X := XX (fun _ => .nil) (fun _ => []) [33, 34, 35, 36, 39, 45, 53, 54, 65, 75, 90, 91, 92, 104] 0) envOK Tryz.func93 (by kernel_rfl) (by kernel_rfl) rfl (Nat.le_of_ble_eq_true (by kernel_rfl)) ?_
  simp only [kFun, Tryz.f93, List.length_nil, List.length_cons, Nat.sub_zero, Nat.reduceSub, Nat.reduceAdd, List.nil_append, List.cons_append, List.replicate_succ, List.replicate_zero]
  simp only [XX, ↓VC, VP, TT, Nat.reduceEqDiff, reduceCtorEq, Nat.reduceAdd, Nat.reduceSub, Nat.reduceLT, Nat.reduceMul, Nat.reducePow, Nat.reduceLeDiff, Int.reduceToNat, Int.reduceLE, Int.reduceLT, Int.reducePow, hA]
  refine kCall_val (c_spec_l03Reduce m A hm hm' hA) (by rfl) [] (by simp [CALL]) (by simp [CALL, cellsAt]) (by simp [CALL]) (by simp [okL_bs]) ?_
  have e1 : (invM m A (unP 4)).2 = backL m A := rfl
  have e2 : (invM m A (unP 4)).1 = detL m A := rfl
  simp only [CALL, ↓VC, VP, TT, Nat.reduceEqDiff, reduceCtorEq, Nat.reduceAdd, Nat.reduceSub, Nat.reduceLT, Nat.reduceMul, Nat.reducePow, Nat.reduceLeDiff, Int.reduceToNat, Int.reduceLE, Int.reduceLT, Int.reducePow, e1, e2, hI, det_ne]
  refine ⟨_, _, [], ⟨rfl, rfl⟩, ?_⟩; simp [-List.reduceReplicate, LES, invB]
theorem c_spec_l03Is (m : Nat) (A : List UInt8) (hm : 256 ≤ m) (hm' : m < 512) (hA : A.length = 16) : LC Tryz.prog 62 [.c (.int .i64 (m)), .a (bs A)] [] (fun v hp => v = .c (.bool (invB m A)) ∧ hp = []) := by
  have hI := backL_len m hA
  refine LC_of (X := XX (fun _ => .nil) (fun _ => []) [33, 34, 35, 36, 39, 45, 53, 54, 65, 75, 90, 91, 92, 104] 0) envOK Tryz.func62 (by kernel_rfl) (by kernel_rfl) rfl (Nat.le_of_ble_eq_true (by kernel_rfl)) ?_
  simp only [kFun, Tryz.f62, List.length_nil, List.length_cons, Nat.sub_zero, Nat.reduceSub, Nat.reduceAdd, List.nil_append, List.cons_append, List.replicate_succ, List.replicate_zero]
  simp only [XX, ↓VC, VP, TT, Nat.reduceEqDiff, reduceCtorEq, Nat.reduceAdd, Nat.reduceSub, Nat.reduceLT, Nat.reduceMul, Nat.reducePow, Nat.reduceLeDiff, Int.reduceToNat, Int.reduceLE, Int.reduceLT, Int.reducePow, hA]
  refine kCall_val (c_spec_l03Reduce m A hm hm' hA) (by rfl) [] (by simp [CALL]) (by simp [CALL, cellsAt]) (by simp [CALL]) (by simp [okL_bs]) ?_
  have e1 : (invM m A (unP 4)).2 = backL m A := rfl
  have e2 : (invM m A (unP 4)).1 = detL m A := rfl
  simp only [CALL, ↓VC, VP, TT, Nat.reduceEqDiff, reduceCtorEq, Nat.reduceAdd, Nat.reduceSub, Nat.reduceLT, Nat.reduceMul, Nat.reducePow, Nat.reduceLeDiff, Int.reduceToNat, Int.reduceLE, Int.reduceLT, Int.reducePow, e1, e2, hI, det_ne]
  refine ⟨_, _, [], ⟨rfl, rfl⟩, ?_⟩; simp [-List.reduceReplicate, LES, invB]
theorem c_impl_isInvertible (m : Nat) (A : List UInt8) (hm : 256 ≤ m) (hm' : m < 512) (hA : A.length = 16) : LC Tryz.prog 68 [.c (.int .i64 (m)), .a (bs A)] [] (fun v hp => v = .c (.bool (invB m A)) ∧ hp = []) := by
  have hI := backL_len m hA
  refine LC_of (X := XX (fun _ => .nil) (fun _ => []) [33, 34, 35, 36, 39, 45, 53, 54, 65, 75, 90, 91, 92, 104] 0) envOK Tryz.func68 (by kernel_rfl) (by kernel_rfl) rfl (Nat.le_of_ble_eq_true (by kernel_rfl)) ?_
  simp only [kFun, Tryz.f68, List.length_nil, List.length_cons, Nat.sub_zero, Nat.reduceSub, Nat.reduceAdd, List.nil_append, List.cons_append, List.replicate_succ, List.replicate_zero]
  simp only [XX, ↓VC, VP, TT, Nat.reduceEqDiff, reduceCtorEq, Nat.reduceAdd, Nat.reduceSub, Nat.reduceLT, Nat.reduceMul, Nat.reducePow, Nat.reduceLeDiff, Int.reduceToNat, Int.reduceLE, Int.reduceLT, Int.reducePow, hA]
  refine kCall_val (c_impl_invert m A hm hm' hA) (by rfl) [] (by simp [CALL]) (by simp [CALL, cellsAt]) (by simp [CALL]) (by simp [okL_bs]) ?_
  have e1 : (invM m A (unP 4)).2 = backL m A := rfl
  have e2 : (invM m A (unP 4)).1 = detL m A := rfl
  simp only [CALL, ↓VC, VP, TT, Nat.reduceEqDiff, reduceCtorEq, Nat.reduceAdd, Nat.reduceSub, Nat.reduceLT, Nat.reduceMul, Nat.reducePow, Nat.reduceLeDiff, Int.reduceToNat, Int.reduceLE, Int.reduceLT, Int.reducePow, e1, e2, hI, det_ne]
  refine ⟨_, _, [], ⟨rfl, rfl⟩, ?_⟩; simp [-List.reduceReplicate, LES, invB]
/-- Is it a cipher? -/
def cipB (z : Int) (box A pl : List UInt8) (n : Int) : Bool := fieldB z && (permB box && (invB z A && (plcB pl && decide (1 ≤ n ∧ n ≤ 20))))
end Go.Proofs.YtjakgjelnbpmnaaGreat

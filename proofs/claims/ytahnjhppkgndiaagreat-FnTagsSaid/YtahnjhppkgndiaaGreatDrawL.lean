import Derived.Test.YtahnjhppkgndiaaGreatDraw
import Derived.Test.YtahnjhppkgndiaaGreatEngP
/- The laws' own draws: roll, below; equal digests. -/
set_option linter.unusedSimpArgs false
set_option linter.unusedVariables false
namespace Go.Proofs.YtahnjhppkgndiaaGreat
open Go Go.Vc
set_option maxRecDepth 10000
set_option maxHeartbeats 4000000
section
variable {l : List UInt8} {c : Nat} {q : Nat × Nat}
theorem d_big (hm : l.length ≤ maxLen) : LC Tryz.prog 6 [.s 0 0 l.length c] [⟨false, bs l⟩] (fun v hp => v = .c (.bool (decide (l.length > 4096))) ∧ hp = [⟨false, bs l⟩]) := by
  refine LC_of (X := XX (fun _ => .nil) (fun _ => []) [15, 71, 72, 73, 79, 80, 87, 90, 91, 93, 99, 119, 137, 176, 177, 203, 204, 212, 219] 1) envOK Tryz.func6 (by kernel_rfl) (by kernel_rfl) rfl (Nat.le_of_ble_eq_true (by kernel_rfl)) ?_
  simp only [kFun, Tryz.f6, List.length_nil, List.length_cons, Nat.sub_zero, Nat.reduceSub, Nat.reduceAdd, List.nil_append, List.cons_append, List.replicate_succ, List.replicate_zero]
  simp only [XX, ↓VC, VP, TT, Nat.reduceEqDiff, reduceCtorEq, Nat.reduceAdd, Nat.reduceSub, Nat.reduceLT, Nat.reduceMul, Nat.reducePow, Nat.reduceLeDiff, Int.reduceToNat, Int.reduceLE, Int.reduceLT, Int.reducePow]
  refine ⟨_, _, [0], ⟨rfl, rfl⟩, ?_⟩
  rw [show decide ((l.length : Int) > 4096) = decide (l.length > 4096) by rw [decide_eq_decide]; omega]
  simp [-List.reduceReplicate, LES]
theorem d_roll (z : Int) (hc : l.length ≤ c) (hm : l.length ≤ 4096) : LC Tryz.prog 14 [.s 0 0 l.length c, .c (.int .u64 z)] [⟨false, bs l⟩] (Ret [⟨false, bs l⟩] (fun q : Nat × Nat => okS l q) fun q => (.p 1 0, [⟨true, sv 0 l.length c q⟩])) := by
  refine LC_of (X := XX (fun | 5 => .one 0 (.one 1 (.one 2 (.one 3 (.one 4 (.one 5 (.one 6 (.one 7 (.one 8 (.one 9 (.one 10 (.one 11 (.one 12 (.one 13 (.one 14 (.one 15 .nil))))))))))))))) | _ => .nil) (fun _ => []) [15, 71, 72, 73, 79, 80, 87, 90, 91, 93, 99, 119, 137, 176, 177, 203, 204, 212, 219] 1) envOK Tryz.func14 (by kernel_rfl) (by kernel_rfl) rfl (Nat.le_of_ble_eq_true (by kernel_rfl)) ?_
  simp only [kFun, Tryz.f14, List.length_nil, List.length_cons, Nat.sub_zero, Nat.reduceSub, Nat.reduceAdd, List.nil_append, List.cons_append, List.replicate_succ, List.replicate_zero]
  simp only [XX, ↓VC, VP, TT, Nat.reduceEqDiff, reduceCtorEq, Nat.reduceAdd, Nat.reduceSub, Nat.reduceLT, Nat.reduceMul, Nat.reducePow, Nat.reduceLeDiff, Int.reduceToNat, Int.reduceLE, Int.reduceLT, Int.reducePow]
  refine ⟨by simp [TT], ?_⟩
  obtain ⟨k0, e0, h0⟩ := u64_wrap (IntKind.u64.wrap (z * 6907) + IntKind.u64.wrap ↑l.length)
  rw [e0]
  refine kLoop_of (fun x : Nat × Nat => ([.s 0 0 l.length c, .j, .j, .j, .j, .p 1 0, .c (.int .i64 (x.1)), .j, .j, .j, .j, .j, .j, .j, .j, .j, .j, .j, .j, .j, .j, .j, .j, .j, .j, .j, .j, .j, .j, .j, .j, .j, .j, .j, .j, .j, .j, .j], [⟨false, bs l⟩, ⟨true, sv 0 l.length c (0, x.2)⟩])) (fun x => l.length - x.1) (fun x => x.1 ≤ l.length ∧ x.2 < 18446744073709551616) (0, k0) ⟨by simp, h0⟩ ⟨[0, 1], by simp [-List.reduceReplicate, LES, sv]⟩ ?_
  rintro ⟨i, k⟩ ⟨hi, hk⟩
  simp only at hi hk
  rcases Nat.lt_or_ge i l.length with h | h
  · simp only [↓VC, VP, TT, Nat.reduceEqDiff, reduceCtorEq, Nat.reduceAdd, Nat.reduceSub, Nat.reduceLT, Nat.reduceMul, Nat.reducePow, Nat.reduceLeDiff, Int.reduceToNat, Int.reduceLE, Int.reduceLT, Int.reducePow, sv, (eq_true (by omega) : ((i : Int) < (l.length : Int)) = True), decide_true, h]
    obtain ⟨k1, e1, h1⟩ := u64_wrap (IntKind.u64.wrap (IntKind.u64.wrap ((k : Int) * 1099511628211) + IntKind.u64.wrap ↑(l.getD i 0).toNat) + 5)
    rw [e1]
    repeat (refine ⟨by first | omega | (simp; done) | decide, ?_⟩)
    refine ⟨(i + 1, k1), ⟨by simp only; omega, h1⟩, by simp only; omega, [0, 1], ?_⟩
    rw [wrap_i64 (by omega) (by omega)]
    simp [-List.reduceReplicate, LES]
  · obtain rfl : i = l.length := by omega
    simp only [↓VC, VP, TT, Nat.reduceEqDiff, reduceCtorEq, Nat.reduceAdd, Nat.reduceSub, Nat.reduceLT, Nat.reduceMul, Nat.reducePow, Nat.reduceLeDiff, Int.reduceToNat, Int.reduceLE, Int.reduceLT, Int.reducePow, (eq_false (by omega) : ((l.length : Int) < (l.length : Int)) = False), decide_false]
    refine ⟨_, _, [0, 1], ⟨(0, k), ⟨by simp, hk⟩, rfl, rfl⟩, ?_⟩
    simp [-List.reduceReplicate, LES, sv]
theorem d_below (hc : l.length ≤ c) (hm : l.length ≤ 4096) (hq : okS l q) (m : Int) : LC Tryz.prog 15 [.p 0 0, .c (.int .i64 (m))] [⟨true, sv 1 l.length c q⟩, ⟨false, bs l⟩] (RetM (fun x : (Nat × Nat) × Int => okS l x.1 ∧ inN m x.2) fun x => (.c (.int .i64 (x.2)), [⟨true, sv 1 l.length c x.1⟩, ⟨false, bs l⟩], [])) := by
  obtain ⟨hq1, hq2⟩ := hq
  refine LC_of (X := XX (fun | 5 => .one 0 (.one 1 (.one 2 (.one 3 (.one 4 (.one 5 (.one 6 (.one 7 (.one 8 (.one 9 .nil))))))))) | 6 => .one 0 (.one 1 (.one 2 (.one 3 (.one 4 (.one 5 (.one 6 (.one 7 (.one 8 (.one 9 (.one 10 (.one 11 (.one 12 (.one 13 .nil))))))))))))) | _ => .nil) (fun _ => []) [15, 71, 72, 73, 79, 80, 87, 90, 91, 93, 99, 119, 137, 176, 177, 203, 204, 212, 219] 2) envOK Tryz.func15 (by kernel_rfl) (by kernel_rfl) rfl (Nat.le_of_ble_eq_true (by kernel_rfl)) ?_
  simp only [kFun, Tryz.f15, List.length_nil, List.length_cons, Nat.sub_zero, Nat.reduceSub, Nat.reduceAdd, List.nil_append, List.cons_append, List.replicate_succ, List.replicate_zero]
  simp only [XX, ↓VC, VP, TT, Nat.reduceEqDiff, reduceCtorEq, Nat.reduceAdd, Nat.reduceSub, Nat.reduceLT, Nat.reduceMul, Nat.reducePow, Nat.reduceLeDiff, Int.reduceToNat, Int.reduceLE, Int.reduceLT, Int.reducePow, sv]
  refine ⟨fun h => ?_, fun h => ⟨fun h2 => ?_, fun h2 => ?_⟩⟩
  · refine ⟨_, _, [0, 1], ⟨(q, 0), ⟨⟨hq1, hq2⟩, ⟨by simp, fun h' => by omega, fun _ => rfl⟩⟩, rfl, rfl⟩, ?_⟩
    simp [-List.reduceReplicate, LES]
  · obtain ⟨k1, e1, h1⟩ := u64_wrap (IntKind.u64.wrap ((q.2 : Int) * 6364136223846793005) + 1442695040888963407)
    have hb := (l.getD q.1 0).toNat_lt
    rw [e1]
    obtain ⟨k2, e2, h2'⟩ := and24 ((k1 : Int).fdiv (2 ^ min 33 64))
    rw [e2, wrap_i64 (n := (k2 : Int)) (by omega) (by omega), wrap_i64 (n := ((l.getD q.1 0).toNat : Int)) (by omega) (by omega), wrap_i64 (n := (k2 : Int) + _) (by omega) (by omega), wrap_i64 (n := (q.1 : Int) + 1) (by omega) (by omega)]
    refine ⟨h2, by omega, by omega, ?_⟩
    have key := tmod_in (k := k2 + (l.getD q.1 0).toNat) (m := m) (by omega)
    rw [Int.natCast_add] at key
    generalize (↑k2 + ↑(l.getD q.1 0).toNat : Int).tmod m = y at *
    refine ⟨_, _, [0, 1], ⟨((q.1 + 1, k1), y), ⟨⟨by simp only; omega, h1⟩, key⟩, rfl, rfl⟩, ?_⟩
    simp [-List.reduceReplicate, LES]
  · obtain ⟨k1, e1, h1⟩ := u64_wrap (IntKind.u64.wrap ((q.2 : Int) * 6364136223846793005) + 1442695040888963407)
    rw [e1]
    obtain ⟨k2, e2, h2'⟩ := and24 ((k1 : Int).fdiv (2 ^ min 33 64))
    rw [e2, wrap_i64 (n := (k2 : Int)) (by omega) (by omega)]
    refine ⟨by omega, ?_⟩
    have key := tmod_in (k := k2) (m := m) (by omega)
    generalize (k2 : Int).tmod m = y at *
    refine ⟨_, _, [0, 1], ⟨((q.1, k1), y), ⟨⟨hq1, h1⟩, key⟩, rfl, rfl⟩, ?_⟩
    simp [-List.reduceReplicate, LES]
end
end Go.Proofs.YtahnjhppkgndiaaGreat

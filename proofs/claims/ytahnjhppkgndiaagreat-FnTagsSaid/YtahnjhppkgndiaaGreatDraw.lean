import Derived.Test.YtahnjhppkgndiaaGreatEnv
import Derived.Test.YtahnjhppkgndiaaGreatTk
import Derived.Test.YtahnjhppkgndiaaGreatVcgQ
/- The draws' source: numbers that follow from a code. -/
set_option linter.unusedSimpArgs false
set_option linter.unusedVariables false
namespace Go.Proofs.YtahnjhppkgndiaaGreat
open Go Go.Vc
set_option maxRecDepth 10000
set_option maxHeartbeats 4000000
/-- A source's cells: the code lies at handle g; the place, the number. -/
def sv (g n c : Nat) (q : Nat × Nat) : List V := [.s g 0 n c, .c (.int .i64 (q.1)), .c (.int .u64 (q.2 : Nat))]
theorem sv_ren {g n c : Nat} {q : Nat × Nat} (σ : List Nat) : V.renL σ (sv g n c q) = sv (σ.getD g 0) n c q := by simp [sv, V.renL, V.ren]
theorem sv_inst {b d n c : Nat} {q : Nat × Nat} {R : List (Nat × Nat)} (N : Nat) : V.instL ((b, 0) :: (d, 0) :: R) N (sv 1 n c q) = sv d n c q := by simp [sv, V.instL, V.inst]
theorem sv_ok {g n c N : Nat} {q : Nat × Nat} : okL N (sv g n c q) = (0 < c → g < N) := by simp [sv, okL, okV]
theorem sv_len {g n c : Nat} {q : Nat × Nat} : (sv g n c q).length = 3 := rfl
theorem sv_take {g h n c : Nat} {q q' : Nat × Nat} : List.take (sv g n c q).length (sv h n c q') = sv h n c q' := rfl
/-- A source that is one. -/
def okS (l : List UInt8) (q : Nat × Nat) : Prop := q.1 ≤ l.length ∧ q.2 < 18446744073709551616
/-- A number from 0 to m - 1. -/
def inN (m x : Int) : Prop := 0 ≤ x ∧ (1 ≤ m → x < m) ∧ (m < 1 → x = 0)
section
variable {l : List UInt8} {c : Nat} {q : Nat × Nat}
theorem u64_wrap (x : Int) : ∃ k : Nat, IntKind.u64.wrap x = k ∧ k < 18446744073709551616 := by
  refine ⟨(x % 18446744073709551616).toNat, ?_, by omega⟩
  unfold IntKind.wrap
  simp [IntKind.signed, IntKind.bits]
  omega
theorem and24 (x : Int) : ∃ k : Nat, bitI .and .u64 x 16777215 = k ∧ k ≤ 16777215 := by
  refine ⟨(BitVec.ofInt 64 x &&& BitVec.ofInt 64 16777215).toNat, ?_, ?_⟩
  · unfold bitI
    simp only [IntKind.bits]
    have h : (BitVec.ofInt 64 x &&& BitVec.ofInt 64 16777215).toNat < 18446744073709551616 := (BitVec.ofInt 64 x &&& BitVec.ofInt 64 16777215).isLt
    rw [wrap_u64 (by omega) (by omega)]
    rfl
  · rw [BitVec.toNat_and]
    have : (BitVec.ofInt 64 16777215).toNat = 16777215 := by decide
    rw [this]
    exact Nat.and_le_right
theorem tmod_in {k : Nat} {m : Int} (h : 1 ≤ m) : inN m ((k : Int).tmod m) := by
  have h1 : (k : Int).tmod m = (k : Int) % m := Int.tmod_eq_emod_of_nonneg (by omega)
  rw [h1]
  exact ⟨Int.emod_nonneg _ (by omega), fun _ => Int.emod_lt_of_pos _ (by omega), fun h => by omega⟩
theorem d_from (hc : l.length ≤ c) (hm : l.length ≤ 4096) : LC Tryz.prog 70 [.s 0 0 l.length c] [⟨false, bs l⟩] (Ret [⟨false, bs l⟩] (fun q : Nat × Nat => okS l q) fun q => (.p 1 0, [⟨true, sv 0 l.length c q⟩])) := by
  refine LC_of (X := XX (fun | 5 => .one 0 (.one 1 (.one 2 (.one 3 (.one 4 (.one 5 (.one 6 (.one 7 (.one 8 (.one 9 (.one 10 (.one 11 (.one 12 (.one 13 (.one 14 (.one 15 .nil))))))))))))))) | _ => .nil) (fun _ => []) [15, 71, 72, 73, 79, 80, 87, 90, 91, 93, 99, 119, 137, 176, 177, 203, 204, 212, 219] 1) envOK Tryz.func70 (by kernel_rfl) (by kernel_rfl) rfl (Nat.le_of_ble_eq_true (by kernel_rfl)) ?_
  simp only [kFun, Tryz.f70, List.length_nil, List.length_cons, Nat.sub_zero, Nat.reduceSub, Nat.reduceAdd, List.nil_append, List.cons_append, List.replicate_succ, List.replicate_zero]
  simp only [XX, ↓VC, VP, TT, Nat.reduceEqDiff, reduceCtorEq, Nat.reduceAdd, Nat.reduceSub, Nat.reduceLT, Nat.reduceMul, Nat.reducePow, Nat.reduceLeDiff, Int.reduceToNat, Int.reduceLE, Int.reduceLT, Int.reducePow]
  refine ⟨by simp [TT], ?_⟩
  obtain ⟨k0, e0, h0⟩ := u64_wrap (9001 + IntKind.u64.wrap ↑l.length)
  rw [e0]
  refine kLoop_of (fun x : Nat × Nat => ([.s 0 0 l.length c, .j, .j, .p 1 0, .c (.int .i64 (x.1)), .j, .j, .j, .j, .j, .j, .j, .j, .j, .j, .j, .j, .j, .j, .j, .j, .j, .j, .j, .j, .j, .j, .j, .j, .j, .j, .j, .j, .j, .j, .j, .j, .j], [⟨false, bs l⟩, ⟨true, sv 0 l.length c (0, x.2)⟩])) (fun x => l.length - x.1) (fun x => x.1 ≤ l.length ∧ x.2 < 18446744073709551616) (0, k0) ⟨by simp, h0⟩ ⟨[0, 1], by simp [-List.reduceReplicate, LES, sv]⟩ ?_
  rintro ⟨i, k⟩ ⟨hi, hk⟩
  simp only at hi hk
  rcases Nat.lt_or_ge i l.length with h | h
  · simp only [↓VC, VP, TT, Nat.reduceEqDiff, reduceCtorEq, Nat.reduceAdd, Nat.reduceSub, Nat.reduceLT, Nat.reduceMul, Nat.reducePow, Nat.reduceLeDiff, Int.reduceToNat, Int.reduceLE, Int.reduceLT, Int.reducePow, sv, (eq_true (by omega) : ((i : Int) < (l.length : Int)) = True), (eq_true (by omega) : ((i : Int) < 4096) = True), decide_true, h]
    obtain ⟨k1, e1, h1⟩ := u64_wrap (IntKind.u64.wrap (IntKind.u64.wrap ((k : Int) * 1099511628211) + IntKind.u64.wrap ↑(l.getD i 0).toNat) + 11)
    rw [e1]
    repeat (refine ⟨by first | omega | (simp; done) | decide, ?_⟩)
    refine ⟨(i + 1, k1), ⟨by simp only; omega, h1⟩, by simp only; omega, [0, 1], ?_⟩
    rw [wrap_i64 (by omega) (by omega)]
    simp [-List.reduceReplicate, LES]
  · obtain rfl : i = l.length := by omega
    simp only [↓VC, VP, TT, Nat.reduceEqDiff, reduceCtorEq, Nat.reduceAdd, Nat.reduceSub, Nat.reduceLT, Nat.reduceMul, Nat.reducePow, Nat.reduceLeDiff, Int.reduceToNat, Int.reduceLE, Int.reduceLT, Int.reducePow, (eq_false (by omega) : ((l.length : Int) < (l.length : Int)) = False), decide_false]
    refine ⟨_, _, [0, 1], ⟨(0, k), ⟨by simp, hk⟩, rfl, rfl⟩, ?_⟩
    simp [-List.reduceReplicate, LES, sv]
theorem d_next (hc : l.length ≤ c) (hm : l.length ≤ 4096) (hq : okS l q) (m : Int) : LC Tryz.prog 80 [.p 0 0, .c (.int .i64 (m))] [⟨true, sv 1 l.length c q⟩, ⟨false, bs l⟩] (RetM (fun x : (Nat × Nat) × Int => okS l x.1 ∧ inN m x.2) fun x => (.c (.int .i64 (x.2)), [⟨true, sv 1 l.length c x.1⟩, ⟨false, bs l⟩], [])) := by
  obtain ⟨hq1, hq2⟩ := hq
  refine LC_of (X := XX (fun | 5 => .one 0 (.one 1 (.one 2 (.one 3 (.one 4 (.one 5 (.one 6 (.one 7 (.one 8 (.one 9 .nil))))))))) | 6 => .one 0 (.one 1 (.one 2 (.one 3 (.one 4 (.one 5 (.one 6 (.one 7 (.one 8 (.one 9 (.one 10 (.one 11 (.one 12 (.one 13 .nil))))))))))))) | _ => .nil) (fun _ => []) [15, 71, 72, 73, 79, 80, 87, 90, 91, 93, 99, 119, 137, 176, 177, 203, 204, 212, 219] 2) envOK Tryz.func80 (by kernel_rfl) (by kernel_rfl) rfl (Nat.le_of_ble_eq_true (by kernel_rfl)) ?_
  simp only [kFun, Tryz.f80, List.length_nil, List.length_cons, Nat.sub_zero, Nat.reduceSub, Nat.reduceAdd, List.nil_append, List.cons_append, List.replicate_succ, List.replicate_zero]
  simp only [XX, ↓VC, VP, TT, Nat.reduceEqDiff, reduceCtorEq, Nat.reduceAdd, Nat.reduceSub, Nat.reduceLT, Nat.reduceMul, Nat.reducePow, Nat.reduceLeDiff, Int.reduceToNat, Int.reduceLE, Int.reduceLT, Int.reducePow, sv]
  refine ⟨fun h => ?_, fun h => ⟨fun h2 => ?_, fun h2 => ?_⟩⟩
  · refine ⟨_, _, [0, 1], ⟨(q, 0), ⟨⟨hq1, hq2⟩, ⟨by simp, fun h' => by omega, fun _ => rfl⟩⟩, rfl, rfl⟩, ?_⟩
    simp [-List.reduceReplicate, LES]
  · obtain ⟨k1, e1, h1⟩ := u64_wrap (IntKind.u64.wrap ((q.2 : Int) * 6364136223846793005) + 1442695040888963407)
    have hb := (l.getD q.1 0).toNat_lt
    rw [e1]
    obtain ⟨k2, e2, h2'⟩ := and24 ((k1 : Int).fdiv (2 ^ min 33 64))
    rw [e2, wrap_i64 (n := (k2 : Int)) (by omega) (by omega), wrap_i64 (n := ((l.getD q.1 0).toNat : Int)) (by omega) (by omega), wrap_i64 (n := (k2 : Int) + _) (by omega) (by omega), wrap_i64 (n := (q.1 : Int) + 1) (by omega) (by omega)]
    refine ⟨h2, by omega, by omega, ?_⟩
    have key := tmod_in (k := k2 + (l.getD q.1 0).toNat) (m := m) (by omega)
    rw [Int.natCast_add] at key
    generalize (↑k2 + ↑(l.getD q.1 0).toNat : Int).tmod m = y at *
    refine ⟨_, _, [0, 1], ⟨((q.1 + 1, k1), y), ⟨⟨by simp only; omega, h1⟩, key⟩, rfl, rfl⟩, ?_⟩
    simp [-List.reduceReplicate, LES]
  · obtain ⟨k1, e1, h1⟩ := u64_wrap (IntKind.u64.wrap ((q.2 : Int) * 6364136223846793005) + 1442695040888963407)
    rw [e1]
    obtain ⟨k2, e2, h2'⟩ := and24 ((k1 : Int).fdiv (2 ^ min 33 64))
    rw [e2, wrap_i64 (n := (k2 : Int)) (by omega) (by omega)]
    refine ⟨by omega, ?_⟩
    have key := tmod_in (k := k2) (m := m) (by omega)
    generalize (k2 : Int).tmod m = y at *
    refine ⟨_, _, [0, 1], ⟨((q.1, k1), y), ⟨⟨hq1, h1⟩, key⟩, rfl, rfl⟩, ?_⟩
    simp [-List.reduceReplicate, LES]
theorem vGet_nsvD {L : List Int} {i : Nat} {k : V → Prop} (h : i < L.length) : vGet (nsv L) i k = k (.c (.int .i64 (L.getD i 0))) := by
  unfold vGet
  have e : (nsv L)[i]? = some (.c (.int .i64 (L.getD i 0))) := by simp [nsv, List.getElem?_map, h, List.getD_eq_getElem?_getD]
  rw [List.getD_eq_getElem?_getD, e, Option.getD_some]
  apply propext
  refine ⟨fun x => x.2, fun x => ⟨(List.getElem?_eq_some_iff.1 e).1, x⟩⟩
theorem tkQ {L : List Int} : List.take L.length (nsv L) = nsv L := by rw [← nsv_length L, List.take_length]
theorem d_pick (hc : l.length ≤ c) (hm : l.length ≤ 4096) (hq : okS l q) (L : List Int) (cl : Nat) (hL : 1 ≤ L.length) (hL2 : L.length ≤ 1048576) : LC Tryz.prog 79 [.p 0 0, .s 2 0 L.length cl] [⟨true, sv 1 l.length c q⟩, ⟨false, bs l⟩, ⟨false, nsv L⟩] (RetM (fun x : (Nat × Nat) × Int => okS l x.1 ∧ x.2 ∈ L) fun x => (.c (.int .i64 (x.2)), [⟨true, sv 1 l.length c x.1⟩, ⟨false, bs l⟩, ⟨false, nsv L⟩], [])) := by
  refine LC_of (X := XX (fun _ => .nil) (fun _ => []) [15, 71, 72, 73, 79, 80, 87, 90, 91, 93, 99, 119, 137, 176, 177, 203, 204, 212, 219] 3) envOK Tryz.func79 (by kernel_rfl) (by kernel_rfl) rfl (Nat.le_of_ble_eq_true (by kernel_rfl)) ?_
  simp only [kFun, Tryz.f79, List.length_nil, List.length_cons, Nat.sub_zero, Nat.reduceSub, Nat.reduceAdd, List.nil_append, List.cons_append, List.replicate_succ, List.replicate_zero]
  simp only [XX, ↓VC, VP, TT, Nat.reduceEqDiff, reduceCtorEq, Nat.reduceAdd, Nat.reduceSub, Nat.reduceLT, Nat.reduceMul, Nat.reducePow, Nat.reduceLeDiff, Int.reduceToNat, Int.reduceLE, Int.reduceLT, Int.reducePow]
  refine kCall_M (d_next hc hm hq (L.length : Int)) (by rfl) [(0, 0), (1, 0)] (by simp [CALL, SCB, sv_inst, sv_ok, sv_len, sv_take, blv_length, nsv_length, instL_nsv, okL_nsv, tkQ]) (by simp [CALL, SCB, sv_inst, sv_ok, sv_len, sv_take, blv_length, nsv_length, instL_nsv, okL_nsv, tkQ]) (by simp) (by simp [CALL, SCB, sv_inst, sv_ok, sv_len, sv_take, blv_length, nsv_length, instL_nsv, okL_nsv, tkQ]) (by simp [okL_bs, okL_room, okL, okV, sv_inst, sv_ok, sv_len, sv_take, blv_length, nsv_length, instL_nsv, okL_nsv, tkQ]) (by intro x _; simp [keepR, bs_length, sv_inst, sv_ok, sv_len, sv_take, blv_length, nsv_length, instL_nsv, okL_nsv, tkQ]) (by simp [CALL, SCB, sv_inst, sv_ok, sv_len, sv_take, blv_length, nsv_length, instL_nsv, okL_nsv, tkQ]) fun x hx => ?_
  simp (config := { maxSteps := 2000000 }) only [CALL, ↓VC, VP, TT, Nat.reduceEqDiff, reduceCtorEq, Nat.reduceAdd, Nat.reduceSub, Nat.reduceLT, Nat.reduceMul, Nat.reducePow, Nat.reduceLeDiff, Int.reduceToNat, Int.reduceLE, Int.reduceLT, Int.reducePow, GOB, sv_inst, sv_len, instL_nsv, nsv_length]
  obtain ⟨h1, h2, h3, h4⟩ := hx
  have h3 := h3 (by omega)
  have hj : x.2.toNat < L.length := by omega
  refine ⟨h2, h3, hj, ?_⟩
  refine ⟨_, _, [0, 1, 2], ⟨(x.1, L.getD x.2.toNat 0), ⟨h1, ?_⟩, rfl, rfl⟩, ?_⟩
  · rw [List.getD_eq_getElem?_getD, List.getElem?_eq_getElem hj]; simp
  · simp [-List.reduceReplicate, LES, sv_ren, sv_ok]
end
end Go.Proofs.YtahnjhppkgndiaaGreat

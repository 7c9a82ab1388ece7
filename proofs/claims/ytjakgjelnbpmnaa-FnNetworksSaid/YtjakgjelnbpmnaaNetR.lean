import Derived.Test.YtjakgjelnbpmnaaNetQ
import Derived.Test.YtjakgjelnbpmnaaNetK
import Derived.Test.YtjakgjelnbpmnaaNetC
import Derived.Test.YtjakgjelnbpmnaaNetF
/- Networks' functions told once, with what is known of the answers. -/
set_option linter.unusedSimpArgs false
set_option linter.unusedVariables false
namespace Go.Proofs.Ytjakgjelnbpmnaa
open Go Go.Vc
set_option maxRecDepth 10000
set_option maxHeartbeats 4000000
theorem two_RoundOf (z k n : Int) (box A key b : List UInt8) (hbx : box.length = 256) (hA : A.length = 16) (hk : key.length = 8) (hb : b.length = 16) : ∃ (o : List UInt8) (e : Int), o.length = 16 ∧
    LC Try.prog 22 [.a (netC z box A k n), .a (bs key), .a (bs b)] [] (fun v hp => v = .t [.a (bs o), .c (.int .i64 (e))] ∧ hp = []) ∧
    LC Try.prog 21 [.a (netC z box A k n), .a (bs key), .a (bs b)] [] (fun v hp => v = .t [.a (bs o), .c (.int .i64 (e))] ∧ hp = []) ∧
    ((e ≠ 0 ∧ netB z box A k n = false) ∨ (e = 0 ∧ ∃ c : Net, z = c.m ∧ box = c.box ∧ A = c.A ∧ k = c.k ∧ n = c.n ∧ o = c.rnd key b)) := by
  cases hB : netB z box A k n with
  | true =>
    obtain ⟨c, rfl, rfl, rfl, rfl, rfl⟩ := net_of hbx hA hB
    have hr := rnd_len (c := c) key b hb
    refine ⟨c.rnd key b, 0, hr, ?_, ?_, .inr ⟨rfl, c, rfl, rfl, rfl, rfl, rfl, rfl⟩⟩
    · rw [show netC c.m c.box c.A c.k c.n = c.cells from rfl] at *
      refine LC_of (X := XX (fun _ => .nil) (fun _ => []) [27, 28, 29, 44, 47, 52, 53, 54, 55, 74, 78, 88, 89, 99] 0) envOK Try.func22 (by kernel_rfl) (by kernel_rfl) rfl (Nat.le_of_ble_eq_true (by kernel_rfl)) ?_
      simp only [kFun, Try.f22, List.length_nil, List.length_cons, Nat.sub_zero, Nat.reduceSub, Nat.reduceAdd, List.nil_append, List.cons_append, List.replicate_succ, List.replicate_zero]
      simp only [XX, ↓VC, VP, TT, Nat.reduceEqDiff, reduceCtorEq, Nat.reduceAdd, Nat.reduceSub, Nat.reduceLT, Nat.reduceMul, Nat.reducePow, Nat.reduceLeDiff, Int.reduceToNat, Int.reduceLE, Int.reduceLT, Int.reducePow, n_len, ↓n_all, hk, hb]
      refine kCall_val (k_spec_NIs c) (by rfl) [] (by simp [CALL, SCB, n_inst, n_ok, ne_inst, ne_take, ne_ok, Net.bl, instL_net, okL_net]) (by simp [CALL, SCB, n_inst, n_ok, ne_inst, ne_take, ne_ok, Net.bl, instL_net, okL_net]) (by simp [CALL, SCB, n_inst, n_ok, ne_inst, ne_take, ne_ok, Net.bl, instL_net, okL_net]) (by simp [okL_bs, okL_room, okL, okV, n_inst, n_ok, ne_inst, ne_take, ne_ok, Net.bl, instL_net, okL_net]) ?_
      simp (config := { maxSteps := 2000000 }) only [CALL, ↓VC, VP, TT, Nat.reduceEqDiff, reduceCtorEq, Nat.reduceAdd, Nat.reduceSub, Nat.reduceLT, Nat.reduceMul, Nat.reducePow, Nat.reduceLeDiff, Int.reduceToNat, Int.reduceLE, Int.reduceLT, Int.reducePow, GOB, n_inst, n_len, ↓n_all, ↓n_rd, ne_len, ne_inst0, Net.bl, instL_net, hk, hb]
      refine kCall_val (k_spec_rnd c key b hk hb) (by rfl) [] (by simp [CALL, SCB, n_inst, n_ok, ne_inst, ne_take, ne_ok, Net.bl, instL_net, okL_net]) (by simp [CALL, SCB, n_inst, n_ok, ne_inst, ne_take, ne_ok, Net.bl, instL_net, okL_net]) (by simp [CALL, SCB, n_inst, n_ok, ne_inst, ne_take, ne_ok, Net.bl, instL_net, okL_net]) (by simp [okL_bs, okL_room, okL, okV, n_inst, n_ok, ne_inst, ne_take, ne_ok, Net.bl, instL_net, okL_net]) ?_
      simp (config := { maxSteps := 2000000 }) only [CALL, ↓VC, VP, TT, Nat.reduceEqDiff, reduceCtorEq, Nat.reduceAdd, Nat.reduceSub, Nat.reduceLT, Nat.reduceMul, Nat.reducePow, Nat.reduceLeDiff, Int.reduceToNat, Int.reduceLE, Int.reduceLT, Int.reducePow, GOB, n_inst, n_len, ↓n_all, ↓n_rd, ne_len, ne_inst0, Net.bl, instL_net, hr]
      refine ⟨_, _, [], ⟨rfl, rfl⟩, ?_⟩
      simp [-List.reduceReplicate, LES] <;> rfl
    · rw [show netC c.m c.box c.A c.k c.n = c.cells from rfl] at *
      refine LC_of (X := XX (fun | 3 => .one 0 (.one 2 (.one 3 (.one 1 (.one 4 (.one 5 (.one 6 .nil)))))) | _ => .nil) (fun _ => []) [27, 28, 29, 44, 47, 52, 53, 54, 55, 74, 78, 88, 89, 99] 0) envOK Try.func21 (by kernel_rfl) (by kernel_rfl) rfl (Nat.le_of_ble_eq_true (by kernel_rfl)) ?_
      simp only [kFun, Try.f21, List.length_nil, List.length_cons, Nat.sub_zero, Nat.reduceSub, Nat.reduceAdd, List.nil_append, List.cons_append, List.replicate_succ, List.replicate_zero]
      simp only [XX, ↓VC, VP, TT, Nat.reduceEqDiff, reduceCtorEq, Nat.reduceAdd, Nat.reduceSub, Nat.reduceLT, Nat.reduceMul, Nat.reducePow, Nat.reduceLeDiff, Int.reduceToNat, Int.reduceLE, Int.reduceLT, Int.reducePow, n_len, ↓n_all, hk, hb]
      refine kCall_val (k_impl_NIs c) (by rfl) [] (by simp [CALL, SCB, n_inst, n_ok, ne_inst, ne_take, ne_ok, Net.bl, instL_net, okL_net]) (by simp [CALL, SCB, n_inst, n_ok, ne_inst, ne_take, ne_ok, Net.bl, instL_net, okL_net]) (by simp [CALL, SCB, n_inst, n_ok, ne_inst, ne_take, ne_ok, Net.bl, instL_net, okL_net]) (by simp [okL_bs, okL_room, okL, okV, n_inst, n_ok, ne_inst, ne_take, ne_ok, Net.bl, instL_net, okL_net]) ?_
      simp (config := { maxSteps := 2000000 }) only [CALL, ↓VC, VP, TT, Nat.reduceEqDiff, reduceCtorEq, Nat.reduceAdd, Nat.reduceSub, Nat.reduceLT, Nat.reduceMul, Nat.reducePow, Nat.reduceLeDiff, Int.reduceToNat, Int.reduceLE, Int.reduceLT, Int.reducePow, GOB, n_inst, n_len, ↓n_all, ↓n_rd, ne_len, ne_inst0, Net.bl, instL_net, hk, hb]
      refine kCall_Ret (k_newNet c) (by rfl) [] (by simp [CALL, SCB, n_inst, n_ok, ne_inst, ne_take, ne_ok, Net.bl, instL_net, okL_net]) (by simp [CALL, SCB, n_inst, n_ok, ne_inst, ne_take, ne_ok, Net.bl, instL_net, okL_net]) (by simp [CALL, SCB, n_inst, n_ok, ne_inst, ne_take, ne_ok, Net.bl, instL_net, okL_net]) (by simp [okL_bs, okL_room, okL, okV, n_inst, n_ok, ne_inst, ne_take, ne_ok, Net.bl, instL_net, okL_net]) (by simp [CALL, SCB, n_inst, n_ok, ne_inst, ne_take, ne_ok, Net.bl, instL_net, okL_net]) fun _ _ => ?_
      simp (config := { maxSteps := 2000000 }) only [CALL, ↓VC, VP, TT, Nat.reduceEqDiff, reduceCtorEq, Nat.reduceAdd, Nat.reduceSub, Nat.reduceLT, Nat.reduceMul, Nat.reducePow, Nat.reduceLeDiff, Int.reduceToNat, Int.reduceLE, Int.reduceLT, Int.reducePow, GOB, n_inst, n_len, ↓n_all, ↓n_rd, ne_len, ne_inst0, Net.bl, instL_net, hk, hb]
      refine kCall_val (k_impl_rnd c key b hk hb) (by rfl) [(4, 0), (5, 0), (6, 0)] (by simp [CALL, SCB, n_inst, n_ok, ne_inst, ne_take, ne_ok, Net.bl, instL_net, okL_net]) (by simp [CALL, SCB, n_inst, n_ok, ne_inst, ne_take, ne_ok, Net.bl, instL_net, okL_net]) (by simp [CALL, SCB, n_inst, n_ok, ne_inst, ne_take, ne_ok, Net.bl, instL_net, okL_net]) (by simp [okL_bs, okL_room, okL, okV, n_inst, n_ok, ne_inst, ne_take, ne_ok, Net.bl, instL_net, okL_net]) ?_
      simp (config := { maxSteps := 2000000 }) only [CALL, ↓VC, VP, TT, Nat.reduceEqDiff, reduceCtorEq, Nat.reduceAdd, Nat.reduceSub, Nat.reduceLT, Nat.reduceMul, Nat.reducePow, Nat.reduceLeDiff, Int.reduceToNat, Int.reduceLE, Int.reduceLT, Int.reducePow, GOB, n_inst, n_len, ↓n_all, ↓n_rd, ne_len, ne_inst0, Net.bl, instL_net, hr]
      refine ⟨_, _, [], ⟨rfl, rfl⟩, ?_⟩
      simp [-List.reduceReplicate, LES] <;> rfl
  | false =>
    refine ⟨List.replicate 16 0, 1, by simp, ?_, ?_, .inl ⟨by decide, rfl⟩⟩
    · refine LC_of (X := XX (fun _ => .nil) (fun _ => []) [27, 28, 29, 44, 47, 52, 53, 54, 55, 74, 78, 88, 89, 99] 0) envOK Try.func22 (by kernel_rfl) (by kernel_rfl) rfl (Nat.le_of_ble_eq_true (by kernel_rfl)) ?_
      simp only [kFun, Try.f22, List.length_nil, List.length_cons, Nat.sub_zero, Nat.reduceSub, Nat.reduceAdd, List.nil_append, List.cons_append, List.replicate_succ, List.replicate_zero]
      simp only [XX, ↓VC, VP, TT, Nat.reduceEqDiff, reduceCtorEq, Nat.reduceAdd, Nat.reduceSub, Nat.reduceLT, Nat.reduceMul, Nat.reducePow, Nat.reduceLeDiff, Int.reduceToNat, Int.reduceLE, Int.reduceLT, Int.reducePow, netC_len hbx hA, ↓net_all hbx hA, hk, hb]
      refine kCall_val (c_spec_l06Is z k n box A hbx hA) (by rfl) [] (by simp [CALL, SCB, n_inst, n_ok, ne_inst, ne_take, ne_ok, Net.bl, instL_net, okL_net]) (by simp [CALL, SCB, n_inst, n_ok, ne_inst, ne_take, ne_ok, Net.bl, instL_net, okL_net]) (by simp [CALL, SCB, n_inst, n_ok, ne_inst, ne_take, ne_ok, Net.bl, instL_net, okL_net]) (by simp [okL_bs, okL_room, okL, okV, n_inst, n_ok, ne_inst, ne_take, ne_ok, Net.bl, instL_net, okL_net]) ?_
      simp (config := { maxSteps := 2000000 }) only [CALL, ↓VC, VP, TT, Nat.reduceEqDiff, reduceCtorEq, Nat.reduceAdd, Nat.reduceSub, Nat.reduceLT, Nat.reduceMul, Nat.reducePow, Nat.reduceLeDiff, Int.reduceToNat, Int.reduceLE, Int.reduceLT, Int.reducePow, GOB, n_inst, n_len, ↓n_all, ↓n_rd, ne_len, ne_inst0, Net.bl, instL_net, hB, instL_net]
      refine ⟨_, _, [], ⟨rfl, rfl⟩, ?_⟩
      simp [-List.reduceReplicate, LES] <;> rfl
    · refine LC_of (X := XX (fun | 3 => .one 0 (.one 2 (.one 3 (.one 1 (.one 4 (.one 5 (.one 6 .nil)))))) | _ => .nil) (fun _ => []) [27, 28, 29, 44, 47, 52, 53, 54, 55, 74, 78, 88, 89, 99] 0) envOK Try.func21 (by kernel_rfl) (by kernel_rfl) rfl (Nat.le_of_ble_eq_true (by kernel_rfl)) ?_
      simp only [kFun, Try.f21, List.length_nil, List.length_cons, Nat.sub_zero, Nat.reduceSub, Nat.reduceAdd, List.nil_append, List.cons_append, List.replicate_succ, List.replicate_zero]
      simp only [XX, ↓VC, VP, TT, Nat.reduceEqDiff, reduceCtorEq, Nat.reduceAdd, Nat.reduceSub, Nat.reduceLT, Nat.reduceMul, Nat.reducePow, Nat.reduceLeDiff, Int.reduceToNat, Int.reduceLE, Int.reduceLT, Int.reducePow, netC_len hbx hA, ↓net_all hbx hA, hk, hb]
      refine kCall_val (c_impl_IsNetwork z k n box A hbx hA) (by rfl) [] (by simp [CALL, SCB, n_inst, n_ok, ne_inst, ne_take, ne_ok, Net.bl, instL_net, okL_net]) (by simp [CALL, SCB, n_inst, n_ok, ne_inst, ne_take, ne_ok, Net.bl, instL_net, okL_net]) (by simp [CALL, SCB, n_inst, n_ok, ne_inst, ne_take, ne_ok, Net.bl, instL_net, okL_net]) (by simp [okL_bs, okL_room, okL, okV, n_inst, n_ok, ne_inst, ne_take, ne_ok, Net.bl, instL_net, okL_net]) ?_
      simp (config := { maxSteps := 2000000 }) only [CALL, ↓VC, VP, TT, Nat.reduceEqDiff, reduceCtorEq, Nat.reduceAdd, Nat.reduceSub, Nat.reduceLT, Nat.reduceMul, Nat.reducePow, Nat.reduceLeDiff, Int.reduceToNat, Int.reduceLE, Int.reduceLT, Int.reducePow, GOB, n_inst, n_len, ↓n_all, ↓n_rd, ne_len, ne_inst0, Net.bl, instL_net, hB, instL_net]
      refine ⟨_, _, [], ⟨rfl, rfl⟩, ?_⟩
      simp [-List.reduceReplicate, LES] <;> rfl
theorem two_RoundBack (z k n : Int) (box A key b : List UInt8) (hbx : box.length = 256) (hA : A.length = 16) (hk : key.length = 8) (hb : b.length = 16) : ∃ (o : List UInt8) (e : Int), o.length = 16 ∧
    LC Try.prog 24 [.a (netC z box A k n), .a (bs key), .a (bs b)] [] (fun v hp => v = .t [.a (bs o), .c (.int .i64 (e))] ∧ hp = []) ∧
    LC Try.prog 23 [.a (netC z box A k n), .a (bs key), .a (bs b)] [] (fun v hp => v = .t [.a (bs o), .c (.int .i64 (e))] ∧ hp = []) ∧
    ((e ≠ 0 ∧ netB z box A k n = false) ∨ (e = 0 ∧ ∃ c : Net, z = c.m ∧ box = c.box ∧ A = c.A ∧ k = c.k ∧ n = c.n ∧ o = c.rbk key b)) := by
  cases hB : netB z box A k n with
  | true =>
    obtain ⟨c, rfl, rfl, rfl, rfl, rfl⟩ := net_of hbx hA hB
    have hr := rbk_len (c := c) key b hb
    refine ⟨c.rbk key b, 0, hr, ?_, ?_, .inr ⟨rfl, c, rfl, rfl, rfl, rfl, rfl, rfl⟩⟩
    · rw [show netC c.m c.box c.A c.k c.n = c.cells from rfl] at *
      refine LC_of (X := XX (fun _ => .nil) (fun _ => []) [27, 28, 29, 44, 47, 52, 53, 54, 55, 74, 78, 88, 89, 99] 0) envOK Try.func24 (by kernel_rfl) (by kernel_rfl) rfl (Nat.le_of_ble_eq_true (by kernel_rfl)) ?_
      simp only [kFun, Try.f24, List.length_nil, List.length_cons, Nat.sub_zero, Nat.reduceSub, Nat.reduceAdd, List.nil_append, List.cons_append, List.replicate_succ, List.replicate_zero]
      simp only [XX, ↓VC, VP, TT, Nat.reduceEqDiff, reduceCtorEq, Nat.reduceAdd, Nat.reduceSub, Nat.reduceLT, Nat.reduceMul, Nat.reducePow, Nat.reduceLeDiff, Int.reduceToNat, Int.reduceLE, Int.reduceLT, Int.reducePow, n_len, ↓n_all, hk, hb]
      refine kCall_val (k_spec_NIs c) (by rfl) [] (by simp [CALL, SCB, n_inst, n_ok, ne_inst, ne_take, ne_ok, Net.bl, instL_net, okL_net]) (by simp [CALL, SCB, n_inst, n_ok, ne_inst, ne_take, ne_ok, Net.bl, instL_net, okL_net]) (by simp [CALL, SCB, n_inst, n_ok, ne_inst, ne_take, ne_ok, Net.bl, instL_net, okL_net]) (by simp [okL_bs, okL_room, okL, okV, n_inst, n_ok, ne_inst, ne_take, ne_ok, Net.bl, instL_net, okL_net]) ?_
      simp (config := { maxSteps := 2000000 }) only [CALL, ↓VC, VP, TT, Nat.reduceEqDiff, reduceCtorEq, Nat.reduceAdd, Nat.reduceSub, Nat.reduceLT, Nat.reduceMul, Nat.reducePow, Nat.reduceLeDiff, Int.reduceToNat, Int.reduceLE, Int.reduceLT, Int.reducePow, GOB, n_inst, n_len, ↓n_all, ↓n_rd, ne_len, ne_inst0, Net.bl, instL_net, hk, hb]
      refine kCall_val (k_spec_rbk c key b hk hb) (by rfl) [] (by simp [CALL, SCB, n_inst, n_ok, ne_inst, ne_take, ne_ok, Net.bl, instL_net, okL_net]) (by simp [CALL, SCB, n_inst, n_ok, ne_inst, ne_take, ne_ok, Net.bl, instL_net, okL_net]) (by simp [CALL, SCB, n_inst, n_ok, ne_inst, ne_take, ne_ok, Net.bl, instL_net, okL_net]) (by simp [okL_bs, okL_room, okL, okV, n_inst, n_ok, ne_inst, ne_take, ne_ok, Net.bl, instL_net, okL_net]) ?_
      simp (config := { maxSteps := 2000000 }) only [CALL, ↓VC, VP, TT, Nat.reduceEqDiff, reduceCtorEq, Nat.reduceAdd, Nat.reduceSub, Nat.reduceLT, Nat.reduceMul, Nat.reducePow, Nat.reduceLeDiff, Int.reduceToNat, Int.reduceLE, Int.reduceLT, Int.reducePow, GOB, n_inst, n_len, ↓n_all, ↓n_rd, ne_len, ne_inst0, Net.bl, instL_net, hr]
      refine ⟨_, _, [], ⟨rfl, rfl⟩, ?_⟩
      simp [-List.reduceReplicate, LES] <;> rfl
    · rw [show netC c.m c.box c.A c.k c.n = c.cells from rfl] at *
      refine LC_of (X := XX (fun | 3 => .one 0 (.one 2 (.one 3 (.one 1 (.one 4 (.one 5 (.one 6 .nil)))))) | _ => .nil) (fun _ => []) [27, 28, 29, 44, 47, 52, 53, 54, 55, 74, 78, 88, 89, 99] 0) envOK Try.func23 (by kernel_rfl) (by kernel_rfl) rfl (Nat.le_of_ble_eq_true (by kernel_rfl)) ?_
      simp only [kFun, Try.f23, List.length_nil, List.length_cons, Nat.sub_zero, Nat.reduceSub, Nat.reduceAdd, List.nil_append, List.cons_append, List.replicate_succ, List.replicate_zero]
      simp only [XX, ↓VC, VP, TT, Nat.reduceEqDiff, reduceCtorEq, Nat.reduceAdd, Nat.reduceSub, Nat.reduceLT, Nat.reduceMul, Nat.reducePow, Nat.reduceLeDiff, Int.reduceToNat, Int.reduceLE, Int.reduceLT, Int.reducePow, n_len, ↓n_all, hk, hb]
      refine kCall_val (k_impl_NIs c) (by rfl) [] (by simp [CALL, SCB, n_inst, n_ok, ne_inst, ne_take, ne_ok, Net.bl, instL_net, okL_net]) (by simp [CALL, SCB, n_inst, n_ok, ne_inst, ne_take, ne_ok, Net.bl, instL_net, okL_net]) (by simp [CALL, SCB, n_inst, n_ok, ne_inst, ne_take, ne_ok, Net.bl, instL_net, okL_net]) (by simp [okL_bs, okL_room, okL, okV, n_inst, n_ok, ne_inst, ne_take, ne_ok, Net.bl, instL_net, okL_net]) ?_
      simp (config := { maxSteps := 2000000 }) only [CALL, ↓VC, VP, TT, Nat.reduceEqDiff, reduceCtorEq, Nat.reduceAdd, Nat.reduceSub, Nat.reduceLT, Nat.reduceMul, Nat.reducePow, Nat.reduceLeDiff, Int.reduceToNat, Int.reduceLE, Int.reduceLT, Int.reducePow, GOB, n_inst, n_len, ↓n_all, ↓n_rd, ne_len, ne_inst0, Net.bl, instL_net, hk, hb]
      refine kCall_Ret (k_newNet c) (by rfl) [] (by simp [CALL, SCB, n_inst, n_ok, ne_inst, ne_take, ne_ok, Net.bl, instL_net, okL_net]) (by simp [CALL, SCB, n_inst, n_ok, ne_inst, ne_take, ne_ok, Net.bl, instL_net, okL_net]) (by simp [CALL, SCB, n_inst, n_ok, ne_inst, ne_take, ne_ok, Net.bl, instL_net, okL_net]) (by simp [okL_bs, okL_room, okL, okV, n_inst, n_ok, ne_inst, ne_take, ne_ok, Net.bl, instL_net, okL_net]) (by simp [CALL, SCB, n_inst, n_ok, ne_inst, ne_take, ne_ok, Net.bl, instL_net, okL_net]) fun _ _ => ?_
      simp (config := { maxSteps := 2000000 }) only [CALL, ↓VC, VP, TT, Nat.reduceEqDiff, reduceCtorEq, Nat.reduceAdd, Nat.reduceSub, Nat.reduceLT, Nat.reduceMul, Nat.reducePow, Nat.reduceLeDiff, Int.reduceToNat, Int.reduceLE, Int.reduceLT, Int.reducePow, GOB, n_inst, n_len, ↓n_all, ↓n_rd, ne_len, ne_inst0, Net.bl, instL_net, hk, hb]
      refine kCall_val (k_impl_rbk c key b hk hb) (by rfl) [(4, 0), (5, 0), (6, 0)] (by simp [CALL, SCB, n_inst, n_ok, ne_inst, ne_take, ne_ok, Net.bl, instL_net, okL_net]) (by simp [CALL, SCB, n_inst, n_ok, ne_inst, ne_take, ne_ok, Net.bl, instL_net, okL_net]) (by simp [CALL, SCB, n_inst, n_ok, ne_inst, ne_take, ne_ok, Net.bl, instL_net, okL_net]) (by simp [okL_bs, okL_room, okL, okV, n_inst, n_ok, ne_inst, ne_take, ne_ok, Net.bl, instL_net, okL_net]) ?_
      simp (config := { maxSteps := 2000000 }) only [CALL, ↓VC, VP, TT, Nat.reduceEqDiff, reduceCtorEq, Nat.reduceAdd, Nat.reduceSub, Nat.reduceLT, Nat.reduceMul, Nat.reducePow, Nat.reduceLeDiff, Int.reduceToNat, Int.reduceLE, Int.reduceLT, Int.reducePow, GOB, n_inst, n_len, ↓n_all, ↓n_rd, ne_len, ne_inst0, Net.bl, instL_net, hr]
      refine ⟨_, _, [], ⟨rfl, rfl⟩, ?_⟩
      simp [-List.reduceReplicate, LES] <;> rfl
  | false =>
    refine ⟨List.replicate 16 0, 1, by simp, ?_, ?_, .inl ⟨by decide, rfl⟩⟩
    · refine LC_of (X := XX (fun _ => .nil) (fun _ => []) [27, 28, 29, 44, 47, 52, 53, 54, 55, 74, 78, 88, 89, 99] 0) envOK Try.func24 (by kernel_rfl) (by kernel_rfl) rfl (Nat.le_of_ble_eq_true (by kernel_rfl)) ?_
      simp only [kFun, Try.f24, List.length_nil, List.length_cons, Nat.sub_zero, Nat.reduceSub, Nat.reduceAdd, List.nil_append, List.cons_append, List.replicate_succ, List.replicate_zero]
      simp only [XX, ↓VC, VP, TT, Nat.reduceEqDiff, reduceCtorEq, Nat.reduceAdd, Nat.reduceSub, Nat.reduceLT, Nat.reduceMul, Nat.reducePow, Nat.reduceLeDiff, Int.reduceToNat, Int.reduceLE, Int.reduceLT, Int.reducePow, netC_len hbx hA, ↓net_all hbx hA, hk, hb]
      refine kCall_val (c_spec_l06Is z k n box A hbx hA) (by rfl) [] (by simp [CALL, SCB, n_inst, n_ok, ne_inst, ne_take, ne_ok, Net.bl, instL_net, okL_net]) (by simp [CALL, SCB, n_inst, n_ok, ne_inst, ne_take, ne_ok, Net.bl, instL_net, okL_net]) (by simp [CALL, SCB, n_inst, n_ok, ne_inst, ne_take, ne_ok, Net.bl, instL_net, okL_net]) (by simp [okL_bs, okL_room, okL, okV, n_inst, n_ok, ne_inst, ne_take, ne_ok, Net.bl, instL_net, okL_net]) ?_
      simp (config := { maxSteps := 2000000 }) only [CALL, ↓VC, VP, TT, Nat.reduceEqDiff, reduceCtorEq, Nat.reduceAdd, Nat.reduceSub, Nat.reduceLT, Nat.reduceMul, Nat.reducePow, Nat.reduceLeDiff, Int.reduceToNat, Int.reduceLE, Int.reduceLT, Int.reducePow, GOB, n_inst, n_len, ↓n_all, ↓n_rd, ne_len, ne_inst0, Net.bl, instL_net, hB, instL_net]
      refine ⟨_, _, [], ⟨rfl, rfl⟩, ?_⟩
      simp [-List.reduceReplicate, LES] <;> rfl
    · refine LC_of (X := XX (fun | 3 => .one 0 (.one 2 (.one 3 (.one 1 (.one 4 (.one 5 (.one 6 .nil)))))) | _ => .nil) (fun _ => []) [27, 28, 29, 44, 47, 52, 53, 54, 55, 74, 78, 88, 89, 99] 0) envOK Try.func23 (by kernel_rfl) (by kernel_rfl) rfl (Nat.le_of_ble_eq_true (by kernel_rfl)) ?_
      simp only [kFun, Try.f23, List.length_nil, List.length_cons, Nat.sub_zero, Nat.reduceSub, Nat.reduceAdd, List.nil_append, List.cons_append, List.replicate_succ, List.replicate_zero]
      simp only [XX, ↓VC, VP, TT, Nat.reduceEqDiff, reduceCtorEq, Nat.reduceAdd, Nat.reduceSub, Nat.reduceLT, Nat.reduceMul, Nat.reducePow, Nat.reduceLeDiff, Int.reduceToNat, Int.reduceLE, Int.reduceLT, Int.reducePow, netC_len hbx hA, ↓net_all hbx hA, hk, hb]
      refine kCall_val (c_impl_IsNetwork z k n box A hbx hA) (by rfl) [] (by simp [CALL, SCB, n_inst, n_ok, ne_inst, ne_take, ne_ok, Net.bl, instL_net, okL_net]) (by simp [CALL, SCB, n_inst, n_ok, ne_inst, ne_take, ne_ok, Net.bl, instL_net, okL_net]) (by simp [CALL, SCB, n_inst, n_ok, ne_inst, ne_take, ne_ok, Net.bl, instL_net, okL_net]) (by simp [okL_bs, okL_room, okL, okV, n_inst, n_ok, ne_inst, ne_take, ne_ok, Net.bl, instL_net, okL_net]) ?_
      simp (config := { maxSteps := 2000000 }) only [CALL, ↓VC, VP, TT, Nat.reduceEqDiff, reduceCtorEq, Nat.reduceAdd, Nat.reduceSub, Nat.reduceLT, Nat.reduceMul, Nat.reducePow, Nat.reduceLeDiff, Int.reduceToNat, Int.reduceLE, Int.reduceLT, Int.reducePow, GOB, n_inst, n_len, ↓n_all, ↓n_rd, ne_len, ne_inst0, Net.bl, instL_net, hB, instL_net]
      refine ⟨_, _, [], ⟨rfl, rfl⟩, ?_⟩
      simp [-List.reduceReplicate, LES] <;> rfl
theorem two_RoundFunction (z k n : Int) (box A key b : List UInt8) (hbx : box.length = 256) (hA : A.length = 16) (hk : key.length = 8) (hb : b.length = 8) : ∃ (o : List UInt8) (e : Int), o.length = 8 ∧
    LC Try.prog 17 [.a (netC z box A k n), .a (bs key), .a (bs b)] [] (fun v hp => v = .t [.a (bs o), .c (.int .i64 (e))] ∧ hp = []) ∧
    LC Try.prog 16 [.a (netC z box A k n), .a (bs key), .a (bs b)] [] (fun v hp => v = .t [.a (bs o), .c (.int .i64 (e))] ∧ hp = []) ∧
    ((e ≠ 0 ∧ netB z box A k n = false) ∨ (e = 0 ∧ ∃ c : Net, z = c.m ∧ box = c.box ∧ A = c.A ∧ k = c.k ∧ n = c.n ∧ o = c.fn key b)) := by
  cases hB : netB z box A k n with
  | true =>
    obtain ⟨c, rfl, rfl, rfl, rfl, rfl⟩ := net_of hbx hA hB
    have hr := fn_len (c := c) key b
    refine ⟨c.fn key b, 0, hr, ?_, ?_, .inr ⟨rfl, c, rfl, rfl, rfl, rfl, rfl, rfl⟩⟩
    · rw [show netC c.m c.box c.A c.k c.n = c.cells from rfl] at *
      refine LC_of (X := XX (fun _ => .nil) (fun _ => []) [27, 28, 29, 44, 47, 52, 53, 54, 55, 74, 78, 88, 89, 99] 0) envOK Try.func17 (by kernel_rfl) (by kernel_rfl) rfl (Nat.le_of_ble_eq_true (by kernel_rfl)) ?_
      simp only [kFun, Try.f17, List.length_nil, List.length_cons, Nat.sub_zero, Nat.reduceSub, Nat.reduceAdd, List.nil_append, List.cons_append, List.replicate_succ, List.replicate_zero]
      simp only [XX, ↓VC, VP, TT, Nat.reduceEqDiff, reduceCtorEq, Nat.reduceAdd, Nat.reduceSub, Nat.reduceLT, Nat.reduceMul, Nat.reducePow, Nat.reduceLeDiff, Int.reduceToNat, Int.reduceLE, Int.reduceLT, Int.reducePow, n_len, ↓n_all, hk, hb]
      refine kCall_val (k_spec_NIs c) (by rfl) [] (by simp [CALL, SCB, n_inst, n_ok, ne_inst, ne_take, ne_ok, Net.bl, instL_net, okL_net]) (by simp [CALL, SCB, n_inst, n_ok, ne_inst, ne_take, ne_ok, Net.bl, instL_net, okL_net]) (by simp [CALL, SCB, n_inst, n_ok, ne_inst, ne_take, ne_ok, Net.bl, instL_net, okL_net]) (by simp [okL_bs, okL_room, okL, okV, n_inst, n_ok, ne_inst, ne_take, ne_ok, Net.bl, instL_net, okL_net]) ?_
      simp (config := { maxSteps := 2000000 }) only [CALL, ↓VC, VP, TT, Nat.reduceEqDiff, reduceCtorEq, Nat.reduceAdd, Nat.reduceSub, Nat.reduceLT, Nat.reduceMul, Nat.reducePow, Nat.reduceLeDiff, Int.reduceToNat, Int.reduceLE, Int.reduceLT, Int.reducePow, GOB, n_inst, n_len, ↓n_all, ↓n_rd, ne_len, ne_inst0, Net.bl, instL_net, hk, hb]
      refine kCall_val (k_spec_fn c key b hk hb) (by rfl) [] (by simp [CALL, SCB, n_inst, n_ok, ne_inst, ne_take, ne_ok, Net.bl, instL_net, okL_net]) (by simp [CALL, SCB, n_inst, n_ok, ne_inst, ne_take, ne_ok, Net.bl, instL_net, okL_net]) (by simp [CALL, SCB, n_inst, n_ok, ne_inst, ne_take, ne_ok, Net.bl, instL_net, okL_net]) (by simp [okL_bs, okL_room, okL, okV, n_inst, n_ok, ne_inst, ne_take, ne_ok, Net.bl, instL_net, okL_net]) ?_
      simp (config := { maxSteps := 2000000 }) only [CALL, ↓VC, VP, TT, Nat.reduceEqDiff, reduceCtorEq, Nat.reduceAdd, Nat.reduceSub, Nat.reduceLT, Nat.reduceMul, Nat.reducePow, Nat.reduceLeDiff, Int.reduceToNat, Int.reduceLE, Int.reduceLT, Int.reducePow, GOB, n_inst, n_len, ↓n_all, ↓n_rd, ne_len, ne_inst0, Net.bl, instL_net, hr]
      refine ⟨_, _, [], ⟨rfl, rfl⟩, ?_⟩
      simp [-List.reduceReplicate, LES] <;> rfl
    · rw [show netC c.m c.box c.A c.k c.n = c.cells from rfl] at *
      refine LC_of (X := XX (fun | 3 => .one 0 (.one 2 (.one 3 (.one 1 (.one 4 (.one 5 (.one 6 .nil)))))) | _ => .nil) (fun _ => []) [27, 28, 29, 44, 47, 52, 53, 54, 55, 74, 78, 88, 89, 99] 0) envOK Try.func16 (by kernel_rfl) (by kernel_rfl) rfl (Nat.le_of_ble_eq_true (by kernel_rfl)) ?_
      simp only [kFun, Try.f16, List.length_nil, List.length_cons, Nat.sub_zero, Nat.reduceSub, Nat.reduceAdd, List.nil_append, List.cons_append, List.replicate_succ, List.replicate_zero]
      simp only [XX, ↓VC, VP, TT, Nat.reduceEqDiff, reduceCtorEq, Nat.reduceAdd, Nat.reduceSub, Nat.reduceLT, Nat.reduceMul, Nat.reducePow, Nat.reduceLeDiff, Int.reduceToNat, Int.reduceLE, Int.reduceLT, Int.reducePow, n_len, ↓n_all, hk, hb]
      refine kCall_val (k_impl_NIs c) (by rfl) [] (by simp [CALL, SCB, n_inst, n_ok, ne_inst, ne_take, ne_ok, Net.bl, instL_net, okL_net]) (by simp [CALL, SCB, n_inst, n_ok, ne_inst, ne_take, ne_ok, Net.bl, instL_net, okL_net]) (by simp [CALL, SCB, n_inst, n_ok, ne_inst, ne_take, ne_ok, Net.bl, instL_net, okL_net]) (by simp [okL_bs, okL_room, okL, okV, n_inst, n_ok, ne_inst, ne_take, ne_ok, Net.bl, instL_net, okL_net]) ?_
      simp (config := { maxSteps := 2000000 }) only [CALL, ↓VC, VP, TT, Nat.reduceEqDiff, reduceCtorEq, Nat.reduceAdd, Nat.reduceSub, Nat.reduceLT, Nat.reduceMul, Nat.reducePow, Nat.reduceLeDiff, Int.reduceToNat, Int.reduceLE, Int.reduceLT, Int.reducePow, GOB, n_inst, n_len, ↓n_all, ↓n_rd, ne_len, ne_inst0, Net.bl, instL_net, hk, hb]
      refine kCall_Ret (k_newNet c) (by rfl) [] (by simp [CALL, SCB, n_inst, n_ok, ne_inst, ne_take, ne_ok, Net.bl, instL_net, okL_net]) (by simp [CALL, SCB, n_inst, n_ok, ne_inst, ne_take, ne_ok, Net.bl, instL_net, okL_net]) (by simp [CALL, SCB, n_inst, n_ok, ne_inst, ne_take, ne_ok, Net.bl, instL_net, okL_net]) (by simp [okL_bs, okL_room, okL, okV, n_inst, n_ok, ne_inst, ne_take, ne_ok, Net.bl, instL_net, okL_net]) (by simp [CALL, SCB, n_inst, n_ok, ne_inst, ne_take, ne_ok, Net.bl, instL_net, okL_net]) fun _ _ => ?_
      simp (config := { maxSteps := 2000000 }) only [CALL, ↓VC, VP, TT, Nat.reduceEqDiff, reduceCtorEq, Nat.reduceAdd, Nat.reduceSub, Nat.reduceLT, Nat.reduceMul, Nat.reducePow, Nat.reduceLeDiff, Int.reduceToNat, Int.reduceLE, Int.reduceLT, Int.reducePow, GOB, n_inst, n_len, ↓n_all, ↓n_rd, ne_len, ne_inst0, Net.bl, instL_net, hk, hb]
      refine kCall_val (k_impl_fn c key b hk hb) (by rfl) [(4, 0), (5, 0), (6, 0)] (by simp [CALL, SCB, n_inst, n_ok, ne_inst, ne_take, ne_ok, Net.bl, instL_net, okL_net]) (by simp [CALL, SCB, n_inst, n_ok, ne_inst, ne_take, ne_ok, Net.bl, instL_net, okL_net]) (by simp [CALL, SCB, n_inst, n_ok, ne_inst, ne_take, ne_ok, Net.bl, instL_net, okL_net]) (by simp [okL_bs, okL_room, okL, okV, n_inst, n_ok, ne_inst, ne_take, ne_ok, Net.bl, instL_net, okL_net]) ?_
      simp (config := { maxSteps := 2000000 }) only [CALL, ↓VC, VP, TT, Nat.reduceEqDiff, reduceCtorEq, Nat.reduceAdd, Nat.reduceSub, Nat.reduceLT, Nat.reduceMul, Nat.reducePow, Nat.reduceLeDiff, Int.reduceToNat, Int.reduceLE, Int.reduceLT, Int.reducePow, GOB, n_inst, n_len, ↓n_all, ↓n_rd, ne_len, ne_inst0, Net.bl, instL_net, hr]
      refine ⟨_, _, [], ⟨rfl, rfl⟩, ?_⟩
      simp [-List.reduceReplicate, LES] <;> rfl
  | false =>
    refine ⟨List.replicate 8 0, 1, by simp, ?_, ?_, .inl ⟨by decide, rfl⟩⟩
    · refine LC_of (X := XX (fun _ => .nil) (fun _ => []) [27, 28, 29, 44, 47, 52, 53, 54, 55, 74, 78, 88, 89, 99] 0) envOK Try.func17 (by kernel_rfl) (by kernel_rfl) rfl (Nat.le_of_ble_eq_true (by kernel_rfl)) ?_
      simp only [kFun, Try.f17, List.length_nil, List.length_cons, Nat.sub_zero, Nat.reduceSub, Nat.reduceAdd, List.nil_append, List.cons_append, List.replicate_succ, List.replicate_zero]
      simp only [XX, ↓VC, VP, TT, Nat.reduceEqDiff, reduceCtorEq, Nat.reduceAdd, Nat.reduceSub, Nat.reduceLT, Nat.reduceMul, Nat.reducePow, Nat.reduceLeDiff, Int.reduceToNat, Int.reduceLE, Int.reduceLT, Int.reducePow, netC_len hbx hA, ↓net_all hbx hA, hk, hb]
      refine kCall_val (c_spec_l06Is z k n box A hbx hA) (by rfl) [] (by simp [CALL, SCB, n_inst, n_ok, ne_inst, ne_take, ne_ok, Net.bl, instL_net, okL_net]) (by simp [CALL, SCB, n_inst, n_ok, ne_inst, ne_take, ne_ok, Net.bl, instL_net, okL_net]) (by simp [CALL, SCB, n_inst, n_ok, ne_inst, ne_take, ne_ok, Net.bl, instL_net, okL_net]) (by simp [okL_bs, okL_room, okL, okV, n_inst, n_ok, ne_inst, ne_take, ne_ok, Net.bl, instL_net, okL_net]) ?_
      simp (config := { maxSteps := 2000000 }) only [CALL, ↓VC, VP, TT, Nat.reduceEqDiff, reduceCtorEq, Nat.reduceAdd, Nat.reduceSub, Nat.reduceLT, Nat.reduceMul, Nat.reducePow, Nat.reduceLeDiff, Int.reduceToNat, Int.reduceLE, Int.reduceLT, Int.reducePow, GOB, n_inst, n_len, ↓n_all, ↓n_rd, ne_len, ne_inst0, Net.bl, instL_net, hB, instL_net]
      refine ⟨_, _, [], ⟨rfl, rfl⟩, ?_⟩
      simp [-List.reduceReplicate, LES] <;> rfl
    · refine LC_of (X := XX (fun | 3 => .one 0 (.one 2 (.one 3 (.one 1 (.one 4 (.one 5 (.one 6 .nil)))))) | _ => .nil) (fun _ => []) [27, 28, 29, 44, 47, 52, 53, 54, 55, 74, 78, 88, 89, 99] 0) envOK Try.func16 (by kernel_rfl) (by kernel_rfl) rfl (Nat.le_of_ble_eq_true (by kernel_rfl)) ?_
      simp only [kFun, Try.f16, List.length_nil, List.length_cons, Nat.sub_zero, Nat.reduceSub, Nat.reduceAdd, List.nil_append, List.cons_append, List.replicate_succ, List.replicate_zero]
      simp only [XX, ↓VC, VP, TT, Nat.reduceEqDiff, reduceCtorEq, Nat.reduceAdd, Nat.reduceSub, Nat.reduceLT, Nat.reduceMul, Nat.reducePow, Nat.reduceLeDiff, Int.reduceToNat, Int.reduceLE, Int.reduceLT, Int.reducePow, netC_len hbx hA, ↓net_all hbx hA, hk, hb]
      refine kCall_val (c_impl_IsNetwork z k n box A hbx hA) (by rfl) [] (by simp [CALL, SCB, n_inst, n_ok, ne_inst, ne_take, ne_ok, Net.bl, instL_net, okL_net]) (by simp [CALL, SCB, n_inst, n_ok, ne_inst, ne_take, ne_ok, Net.bl, instL_net, okL_net]) (by simp [CALL, SCB, n_inst, n_ok, ne_inst, ne_take, ne_ok, Net.bl, instL_net, okL_net]) (by simp [okL_bs, okL_room, okL, okV, n_inst, n_ok, ne_inst, ne_take, ne_ok, Net.bl, instL_net, okL_net]) ?_
      simp (config := { maxSteps := 2000000 }) only [CALL, ↓VC, VP, TT, Nat.reduceEqDiff, reduceCtorEq, Nat.reduceAdd, Nat.reduceSub, Nat.reduceLT, Nat.reduceMul, Nat.reducePow, Nat.reduceLeDiff, Int.reduceToNat, Int.reduceLE, Int.reduceLT, Int.reducePow, GOB, n_inst, n_len, ↓n_all, ↓n_rd, ne_len, ne_inst0, Net.bl, instL_net, hB, instL_net]
      refine ⟨_, _, [], ⟨rfl, rfl⟩, ?_⟩
      simp [-List.reduceReplicate, LES] <;> rfl
theorem two_InverseFunction (z k n : Int) (box A key b : List UInt8) (hbx : box.length = 256) (hA : A.length = 16) (hk : key.length = 8) (hb : b.length = 8) : ∃ (o : List UInt8) (e : Int), o.length = 8 ∧
    LC Try.prog 19 [.a (netC z box A k n), .a (bs key), .a (bs b)] [] (fun v hp => v = .t [.a (bs o), .c (.int .i64 (e))] ∧ hp = []) ∧
    LC Try.prog 18 [.a (netC z box A k n), .a (bs key), .a (bs b)] [] (fun v hp => v = .t [.a (bs o), .c (.int .i64 (e))] ∧ hp = []) ∧
    ((e ≠ 0 ∧ netB z box A k n = false) ∨ (e = 0 ∧ ∃ c : Net, z = c.m ∧ box = c.box ∧ A = c.A ∧ k = c.k ∧ n = c.n ∧ o = c.fb key b)) := by
  cases hB : netB z box A k n with
  | true =>
    obtain ⟨c, rfl, rfl, rfl, rfl, rfl⟩ := net_of hbx hA hB
    have hr := fb_len (c := c) key b
    refine ⟨c.fb key b, 0, hr, ?_, ?_, .inr ⟨rfl, c, rfl, rfl, rfl, rfl, rfl, rfl⟩⟩
    · rw [show netC c.m c.box c.A c.k c.n = c.cells from rfl] at *
      refine LC_of (X := XX (fun _ => .nil) (fun _ => []) [27, 28, 29, 44, 47, 52, 53, 54, 55, 74, 78, 88, 89, 99] 0) envOK Try.func19 (by kernel_rfl) (by kernel_rfl) rfl (Nat.le_of_ble_eq_true (by kernel_rfl)) ?_
      simp only [kFun, Try.f19, List.length_nil, List.length_cons, Nat.sub_zero, Nat.reduceSub, Nat.reduceAdd, List.nil_append, List.cons_append, List.replicate_succ, List.replicate_zero]
      simp only [XX, ↓VC, VP, TT, Nat.reduceEqDiff, reduceCtorEq, Nat.reduceAdd, Nat.reduceSub, Nat.reduceLT, Nat.reduceMul, Nat.reducePow, Nat.reduceLeDiff, Int.reduceToNat, Int.reduceLE, Int.reduceLT, Int.reducePow, n_len, ↓n_all, hk, hb]
      refine kCall_val (k_spec_NIs c) (by rfl) [] (by simp [CALL, SCB, n_inst, n_ok, ne_inst, ne_take, ne_ok, Net.bl, instL_net, okL_net]) (by simp [CALL, SCB, n_inst, n_ok, ne_inst, ne_take, ne_ok, Net.bl, instL_net, okL_net]) (by simp [CALL, SCB, n_inst, n_ok, ne_inst, ne_take, ne_ok, Net.bl, instL_net, okL_net]) (by simp [okL_bs, okL_room, okL, okV, n_inst, n_ok, ne_inst, ne_take, ne_ok, Net.bl, instL_net, okL_net]) ?_
      simp (config := { maxSteps := 2000000 }) only [CALL, ↓VC, VP, TT, Nat.reduceEqDiff, reduceCtorEq, Nat.reduceAdd, Nat.reduceSub, Nat.reduceLT, Nat.reduceMul, Nat.reducePow, Nat.reduceLeDiff, Int.reduceToNat, Int.reduceLE, Int.reduceLT, Int.reducePow, GOB, n_inst, n_len, ↓n_all, ↓n_rd, ne_len, ne_inst0, Net.bl, instL_net, hk, hb]
      refine kCall_val (k_spec_fb c key b hk hb) (by rfl) [] (by simp [CALL, SCB, n_inst, n_ok, ne_inst, ne_take, ne_ok, Net.bl, instL_net, okL_net]) (by simp [CALL, SCB, n_inst, n_ok, ne_inst, ne_take, ne_ok, Net.bl, instL_net, okL_net]) (by simp [CALL, SCB, n_inst, n_ok, ne_inst, ne_take, ne_ok, Net.bl, instL_net, okL_net]) (by simp [okL_bs, okL_room, okL, okV, n_inst, n_ok, ne_inst, ne_take, ne_ok, Net.bl, instL_net, okL_net]) ?_
      simp (config := { maxSteps := 2000000 }) only [CALL, ↓VC, VP, TT, Nat.reduceEqDiff, reduceCtorEq, Nat.reduceAdd, Nat.reduceSub, Nat.reduceLT, Nat.reduceMul, Nat.reducePow, Nat.reduceLeDiff, Int.reduceToNat, Int.reduceLE, Int.reduceLT, Int.reducePow, GOB, n_inst, n_len, ↓n_all, ↓n_rd, ne_len, ne_inst0, Net.bl, instL_net, hr]
      refine ⟨_, _, [], ⟨rfl, rfl⟩, ?_⟩
      simp [-List.reduceReplicate, LES] <;> rfl
    · rw [show netC c.m c.box c.A c.k c.n = c.cells from rfl] at *
      refine LC_of (X := XX (fun | 3 => .one 0 (.one 2 (.one 3 (.one 1 (.one 4 (.one 5 (.one 6 .nil)))))) | _ => .nil) (fun _ => []) [27, 28, 29, 44, 47, 52, 53, 54, 55, 74, 78, 88, 89, 99] 0) envOK Try.func18 (by kernel_rfl) (by kernel_rfl) rfl (Nat.le_of_ble_eq_true (by kernel_rfl)) ?_
      simp only [kFun, Try.f18, List.length_nil, List.length_cons, Nat.sub_zero, Nat.reduceSub, Nat.reduceAdd, List.nil_append, List.cons_append, List.replicate_succ, List.replicate_zero]
      simp only [XX, ↓VC, VP, TT, Nat.reduceEqDiff, reduceCtorEq, Nat.reduceAdd, Nat.reduceSub, Nat.reduceLT, Nat.reduceMul, Nat.reducePow, Nat.reduceLeDiff, Int.reduceToNat, Int.reduceLE, Int.reduceLT, Int.reducePow, n_len, ↓n_all, hk, hb]
      refine kCall_val (k_impl_NIs c) (by rfl) [] (by simp [CALL, SCB, n_inst, n_ok, ne_inst, ne_take, ne_ok, Net.bl, instL_net, okL_net]) (by simp [CALL, SCB, n_inst, n_ok, ne_inst, ne_take, ne_ok, Net.bl, instL_net, okL_net]) (by simp [CALL, SCB, n_inst, n_ok, ne_inst, ne_take, ne_ok, Net.bl, instL_net, okL_net]) (by simp [okL_bs, okL_room, okL, okV, n_inst, n_ok, ne_inst, ne_take, ne_ok, Net.bl, instL_net, okL_net]) ?_
      simp (config := { maxSteps := 2000000 }) only [CALL, ↓VC, VP, TT, Nat.reduceEqDiff, reduceCtorEq, Nat.reduceAdd, Nat.reduceSub, Nat.reduceLT, Nat.reduceMul, Nat.reducePow, Nat.reduceLeDiff, Int.reduceToNat, Int.reduceLE, Int.reduceLT, Int.reducePow, GOB, n_inst, n_len, ↓n_all, ↓n_rd, ne_len, ne_inst0, Net.bl, instL_net, hk, hb]
      refine kCall_Ret (k_newNet c) (by rfl) [] (by simp [CALL, SCB, n_inst, n_ok, ne_inst, ne_take, ne_ok, Net.bl, instL_net, okL_net]) (by simp [CALL, SCB, n_inst, n_ok, ne_inst, ne_take, ne_ok, Net.bl, instL_net, okL_net]) (by simp [CALL, SCB, n_inst, n_ok, ne_inst, ne_take, ne_ok, Net.bl, instL_net, okL_net]) (by simp [okL_bs, okL_room, okL, okV, n_inst, n_ok, ne_inst, ne_take, ne_ok, Net.bl, instL_net, okL_net]) (by simp [CALL, SCB, n_inst, n_ok, ne_inst, ne_take, ne_ok, Net.bl, instL_net, okL_net]) fun _ _ => ?_
      simp (config := { maxSteps := 2000000 }) only [CALL, ↓VC, VP, TT, Nat.reduceEqDiff, reduceCtorEq, Nat.reduceAdd, Nat.reduceSub, Nat.reduceLT, Nat.reduceMul, Nat.reducePow, Nat.reduceLeDiff, Int.reduceToNat, Int.reduceLE, Int.reduceLT, Int.reducePow, GOB, n_inst, n_len, ↓n_all, ↓n_rd, ne_len, ne_inst0, Net.bl, instL_net, hk, hb]
      refine kCall_val (k_impl_fb c key b hk hb) (by rfl) [(4, 0), (5, 0), (6, 0)] (by simp [CALL, SCB, n_inst, n_ok, ne_inst, ne_take, ne_ok, Net.bl, instL_net, okL_net]) (by simp [CALL, SCB, n_inst, n_ok, ne_inst, ne_take, ne_ok, Net.bl, instL_net, okL_net]) (by simp [CALL, SCB, n_inst, n_ok, ne_inst, ne_take, ne_ok, Net.bl, instL_net, okL_net]) (by simp [okL_bs, okL_room, okL, okV, n_inst, n_ok, ne_inst, ne_take, ne_ok, Net.bl, instL_net, okL_net]) ?_
      simp (config := { maxSteps := 2000000 }) only [CALL, ↓VC, VP, TT, Nat.reduceEqDiff, reduceCtorEq, Nat.reduceAdd, Nat.reduceSub, Nat.reduceLT, Nat.reduceMul, Nat.reducePow, Nat.reduceLeDiff, Int.reduceToNat, Int.reduceLE, Int.reduceLT, Int.reducePow, GOB, n_inst, n_len, ↓n_all, ↓n_rd, ne_len, ne_inst0, Net.bl, instL_net, hr]
      refine ⟨_, _, [], ⟨rfl, rfl⟩, ?_⟩
      simp [-List.reduceReplicate, LES] <;> rfl
  | false =>
    refine ⟨List.replicate 8 0, 1, by simp, ?_, ?_, .inl ⟨by decide, rfl⟩⟩
    · refine LC_of (X := XX (fun _ => .nil) (fun _ => []) [27, 28, 29, 44, 47, 52, 53, 54, 55, 74, 78, 88, 89, 99] 0) envOK Try.func19 (by kernel_rfl) (by kernel_rfl) rfl (Nat.le_of_ble_eq_true (by kernel_rfl)) ?_
      simp only [kFun, Try.f19, List.length_nil, List.length_cons, Nat.sub_zero, Nat.reduceSub, Nat.reduceAdd, List.nil_append, List.cons_append, List.replicate_succ, List.replicate_zero]
      simp only [XX, ↓VC, VP, TT, Nat.reduceEqDiff, reduceCtorEq, Nat.reduceAdd, Nat.reduceSub, Nat.reduceLT, Nat.reduceMul, Nat.reducePow, Nat.reduceLeDiff, Int.reduceToNat, Int.reduceLE, Int.reduceLT, Int.reducePow, netC_len hbx hA, ↓net_all hbx hA, hk, hb]
      refine kCall_val (c_spec_l06Is z k n box A hbx hA) (by rfl) [] (by simp [CALL, SCB, n_inst, n_ok, ne_inst, ne_take, ne_ok, Net.bl, instL_net, okL_net]) (by simp [CALL, SCB, n_inst, n_ok, ne_inst, ne_take, ne_ok, Net.bl, instL_net, okL_net]) (by simp [CALL, SCB, n_inst, n_ok, ne_inst, ne_take, ne_ok, Net.bl, instL_net, okL_net]) (by simp [okL_bs, okL_room, okL, okV, n_inst, n_ok, ne_inst, ne_take, ne_ok, Net.bl, instL_net, okL_net]) ?_
      simp (config := { maxSteps := 2000000 }) only [CALL, ↓VC, VP, TT, Nat.reduceEqDiff, reduceCtorEq, Nat.reduceAdd, Nat.reduceSub, Nat.reduceLT, Nat.reduceMul, Nat.reducePow, Nat.reduceLeDiff, Int.reduceToNat, Int.reduceLE, Int.reduceLT, Int.reducePow, GOB, n_inst, n_len, ↓n_all, ↓n_rd, ne_len, ne_inst0, Net.bl, instL_net, hB, instL_net]
      refine ⟨_, _, [], ⟨rfl, rfl⟩, ?_⟩
      simp [-List.reduceReplicate, LES] <;> rfl
    · refine LC_of (X := XX (fun | 3 => .one 0 (.one 2 (.one 3 (.one 1 (.one 4 (.one 5 (.one 6 .nil)))))) | _ => .nil) (fun _ => []) [27, 28, 29, 44, 47, 52, 53, 54, 55, 74, 78, 88, 89, 99] 0) envOK Try.func18 (by kernel_rfl) (by kernel_rfl) rfl (Nat.le_of_ble_eq_true (by kernel_rfl)) ?_
      simp only [kFun, Try.f18, List.length_nil, List.length_cons, Nat.sub_zero, Nat.reduceSub, Nat.reduceAdd, List.nil_append, List.cons_append, List.replicate_succ, List.replicate_zero]
      simp only [XX, ↓VC, VP, TT, Nat.reduceEqDiff, reduceCtorEq, Nat.reduceAdd, Nat.reduceSub, Nat.reduceLT, Nat.reduceMul, Nat.reducePow, Nat.reduceLeDiff, Int.reduceToNat, Int.reduceLE, Int.reduceLT, Int.reducePow, netC_len hbx hA, ↓net_all hbx hA, hk, hb]
      refine kCall_val (c_impl_IsNetwork z k n box A hbx hA) (by rfl) [] (by simp [CALL, SCB, n_inst, n_ok, ne_inst, ne_take, ne_ok, Net.bl, instL_net, okL_net]) (by simp [CALL, SCB, n_inst, n_ok, ne_inst, ne_take, ne_ok, Net.bl, instL_net, okL_net]) (by simp [CALL, SCB, n_inst, n_ok, ne_inst, ne_take, ne_ok, Net.bl, instL_net, okL_net]) (by simp [okL_bs, okL_room, okL, okV, n_inst, n_ok, ne_inst, ne_take, ne_ok, Net.bl, instL_net, okL_net]) ?_
      simp (config := { maxSteps := 2000000 }) only [CALL, ↓VC, VP, TT, Nat.reduceEqDiff, reduceCtorEq, Nat.reduceAdd, Nat.reduceSub, Nat.reduceLT, Nat.reduceMul, Nat.reducePow, Nat.reduceLeDiff, Int.reduceToNat, Int.reduceLE, Int.reduceLT, Int.reducePow, GOB, n_inst, n_len, ↓n_all, ↓n_rd, ne_len, ne_inst0, Net.bl, instL_net, hB, instL_net]
      refine ⟨_, _, [], ⟨rfl, rfl⟩, ?_⟩
      simp [-List.reduceReplicate, LES] <;> rfl
end Go.Proofs.Ytjakgjelnbpmnaa

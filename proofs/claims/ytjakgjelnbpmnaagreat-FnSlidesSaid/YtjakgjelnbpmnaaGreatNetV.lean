import Derived.Test.YtjakgjelnbpmnaaGreatNetS
import Derived.Test.YtjakgjelnbpmnaaGreatNetT
import Derived.Test.YtjakgjelnbpmnaaGreatEngJ
import Derived.Test.YtjakgjelnbpmnaaGreatDrawW
/- Networks: keys out of a block, the house's network, blocks that look like two rounds; the reference's side of exchanging, changing and turning. -/
set_option linter.unusedSimpArgs false
set_option linter.unusedVariables false
namespace Go.Proofs.YtjakgjelnbpmnaaGreat
open Go Go.Vc
set_option maxRecDepth 10000
set_option maxHeartbeats 4000000
theorem c_spec_ExchangeHalves (b : List UInt8) (hb : b.length = 16) : LC Tryz.prog 29 [.a (bs b)] [] (fun v hp => v = .a (bs (exch b)) ∧ hp = []) := by
  have hd : (b.drop 8).length = 8 := by rw [List.length_drop]; omega
  have ht : (b.take 8).length = 8 := by rw [List.length_take]; omega
  have he : (b.drop 8 ++ b.take 8).length = 16 := exch_len hb
  refine LC_of (X := XX (fun _ => .nil) (fun _ => []) [33, 34, 35, 36, 39, 45, 53, 54, 65, 75, 90, 91, 92, 104] 0) envOK Tryz.func29 (by kernel_rfl) (by kernel_rfl) rfl (Nat.le_of_ble_eq_true (by kernel_rfl)) ?_
  simp only [kFun, Tryz.f29, List.length_nil, List.length_cons, Nat.sub_zero, Nat.reduceSub, Nat.reduceAdd, List.nil_append, List.cons_append, List.replicate_succ, List.replicate_zero]
  simp only [XX, ↓VC, VP, TT, Nat.reduceEqDiff, reduceCtorEq, Nat.reduceAdd, Nat.reduceSub, Nat.reduceLT, Nat.reduceMul, Nat.reducePow, Nat.reduceLeDiff, Int.reduceToNat, Int.reduceLE, Int.reduceLT, Int.reducePow, hb]
  refine kCall_val (c_spec_l06Halves b hb) (by rfl) [] (by simp [CALL, SCB, instL_net, okL_net, instL_cip, okL_cip]) (by simp [CALL, SCB, instL_net, okL_net, instL_cip, okL_cip]) (by simp [CALL, SCB, instL_net, okL_net, instL_cip, okL_cip]) (by simp [okL_bs, okL_room, okL, okV, instL_net, okL_net, instL_cip, okL_cip]) ?_
  simp (config := { maxSteps := 2000000 }) only [CALL, ↓VC, VP, TT, Nat.reduceEqDiff, reduceCtorEq, Nat.reduceAdd, Nat.reduceSub, Nat.reduceLT, Nat.reduceMul, Nat.reducePow, Nat.reduceLeDiff, Int.reduceToNat, Int.reduceLE, Int.reduceLT, Int.reducePow, GOB, instL_net, instL_cip, hd, ht]
  refine kCall_val (c_spec_l06Join (b.drop 8) (b.take 8) hd ht) (by rfl) [] (by simp [CALL, SCB, instL_net, okL_net, instL_cip, okL_cip]) (by simp [CALL, SCB, instL_net, okL_net, instL_cip, okL_cip]) (by simp [CALL, SCB, instL_net, okL_net, instL_cip, okL_cip]) (by simp [okL_bs, okL_room, okL, okV, instL_net, okL_net, instL_cip, okL_cip]) ?_
  simp (config := { maxSteps := 2000000 }) only [CALL, ↓VC, VP, TT, Nat.reduceEqDiff, reduceCtorEq, Nat.reduceAdd, Nat.reduceSub, Nat.reduceLT, Nat.reduceMul, Nat.reducePow, Nat.reduceLeDiff, Int.reduceToNat, Int.reduceLE, Int.reduceLT, Int.reducePow, GOB, instL_net, instL_cip, he]
  refine ⟨_, _, [], ⟨rfl, rfl⟩, ?_⟩
  simp [-List.reduceReplicate, LES, exch] <;> rfl
theorem c_spec_ComplementOf (b : List UInt8) (hb : b.length = 16) : LC Tryz.prog 31 [.a (bs b)] [] (fun v hp => v = .a (bs (cmpN 16 b)) ∧ hp = []) := by
  refine LC_of (X := XX (fun _ => .nil) (fun _ => []) [33, 34, 35, 36, 39, 45, 53, 54, 65, 75, 90, 91, 92, 104] 0) envOK Tryz.func31 (by kernel_rfl) (by kernel_rfl) rfl (Nat.le_of_ble_eq_true (by kernel_rfl)) ?_
  simp only [kFun, Tryz.f31, List.length_nil, List.length_cons, Nat.sub_zero, Nat.reduceSub, Nat.reduceAdd, List.nil_append, List.cons_append, List.replicate_succ, List.replicate_zero]
  simp only [XX, ↓VC, VP, TT, Nat.reduceEqDiff, reduceCtorEq, Nat.reduceAdd, Nat.reduceSub, Nat.reduceLT, Nat.reduceMul, Nat.reducePow, Nat.reduceLeDiff, Int.reduceToNat, Int.reduceLE, Int.reduceLT, Int.reducePow, hb]
  refine kLoop_of (fun i : Nat => ([.j, .p 0 0, .p 1 0, .c (.int .i64 (i)), .j, .j, .j, .j, .j, .j, .j, .j, .j, .j, .j], [⟨true, bs (cmpI 16 b i)⟩, ⟨true, bs (List.replicate 16 0)⟩])) (fun i => 16 - i) (fun i => i ≤ 16) 0 (by omega) ⟨[0, 1], by simp [-List.reduceReplicate, LES, cmpI_zero hb]⟩ ?_
  intro i hi
  rcases Nat.lt_or_ge i 16 with h | h
  · simp only [↓VC, VP, TT, Nat.reduceEqDiff, reduceCtorEq, Nat.reduceAdd, Nat.reduceSub, Nat.reduceLT, Nat.reduceMul, Nat.reducePow, Nat.reduceLeDiff, Int.reduceToNat, Int.reduceLE, Int.reduceLT, Int.reducePow, h, (eq_true (by omega) : ((i : Int) < 16) = True), (eq_true (by omega) : ((i : Int) < ((16 : Nat) : Int)) = True), wrap_i64 (n := (i : Int) + 1) (by omega) (by omega), decide_true, Int.toNat_natCast, cmpI_len, h, cmpI_at h, xor255']
    refine ⟨i + 1, by omega, by omega, [0, 1], ?_⟩
    have e := cmpI_step (n := 16) (b := b) h
    rw [List.getD_eq_getElem?_getD] at e
    simp [-List.reduceReplicate, LES, ofInt_toNat, e]
  · obtain rfl : i = 16 := by omega
    have hp : ∀ kl : List V → Prop, vPut (bs (List.replicate 16 0)) 0 (bs (cmpI 16 b 16)) kl = kl (bs (cmpI 16 b 16)) := fun kl => vPut_all (by rw [bs_length, bs_length, cmpI_len, List.length_replicate])
    have hg : ∀ kk : V → Prop, vSub (bs (cmpI 16 b 16)) 0 16 kk = kk (.a (bs (cmpI 16 b 16))) := fun kk => vSub_all (by rw [bs_length, cmpI_len])
    simp only [↓VC, VP, TT, Nat.reduceEqDiff, reduceCtorEq, Nat.reduceAdd, Nat.reduceSub, Nat.reduceLT, Nat.reduceMul, Nat.reducePow, Nat.reduceLeDiff, Int.reduceToNat, Int.reduceLE, Int.reduceLT, Int.reducePow, show ((((16 : Nat) : Int)) < 16) = False from eq_false (by decide), decide_false, cmpI_len, ↓hp, ↓hg]
    refine ⟨_, _, [], ⟨rfl, rfl⟩, ?_⟩
    rw [cmpI_done]
    simp [-List.reduceReplicate, LES]
section
variable (z k n : Int) (box A : List UInt8) (hbx : box.length = 256) (hA : A.length = 16)
include hbx hA
theorem c_spec_IsSlid_no (key a b : List UInt8) (hk : key.length = 8) (ha : a.length = 16) (hb : b.length = 16) (hn : netB z box A k n = false) : LC Tryz.prog 25 [.a (netC z box A k n), .a (bs key), .a (bs a), .a (bs b)] [] (fun v hp => v = .t [.c (.bool (false)), .c (.int .i64 (1))] ∧ hp = []) := by
  refine LC_of (X := XX (fun | 3 => .one 0 (.one 1 (.one 2 (.one 4 (.one 3 (.one 5 (.one 6 (.one 7 .nil))))))) | _ => .nil) (fun _ => []) [33, 34, 35, 36, 39, 45, 53, 54, 65, 75, 90, 91, 92, 104] 0) envOK Tryz.func25 (by kernel_rfl) (by kernel_rfl) rfl (Nat.le_of_ble_eq_true (by kernel_rfl)) ?_
  simp only [kFun, Tryz.f25, List.length_nil, List.length_cons, Nat.sub_zero, Nat.reduceSub, Nat.reduceAdd, List.nil_append, List.cons_append, List.replicate_succ, List.replicate_zero]
  simp only [XX, ↓VC, VP, TT, Nat.reduceEqDiff, reduceCtorEq, Nat.reduceAdd, Nat.reduceSub, Nat.reduceLT, Nat.reduceMul, Nat.reducePow, Nat.reduceLeDiff, Int.reduceToNat, Int.reduceLE, Int.reduceLT, Int.reducePow, netC_len hbx hA, ↓net_all hbx hA, hk, ha, hb]
  refine kCall_val (c_spec_l06Is z k n box A hbx hA) (by rfl) [] (by simp [CALL, SCB, instL_net, okL_net, instL_cip, okL_cip]) (by simp [CALL, SCB, instL_net, okL_net, instL_cip, okL_cip]) (by simp [CALL, SCB, instL_net, okL_net, instL_cip, okL_cip]) (by simp [okL_bs, okL_room, okL, okV, instL_net, okL_net, instL_cip, okL_cip]) ?_
  simp (config := { maxSteps := 2000000 }) only [CALL, ↓VC, VP, TT, Nat.reduceEqDiff, reduceCtorEq, Nat.reduceAdd, Nat.reduceSub, Nat.reduceLT, Nat.reduceMul, Nat.reducePow, Nat.reduceLeDiff, Int.reduceToNat, Int.reduceLE, Int.reduceLT, Int.reducePow, GOB, instL_net, instL_cip, hk, ha, hb, netC_len hbx hA, ↓net_all hbx hA]
  refine ⟨fun h => ?_, fun h => ?_⟩
  · refine ⟨_, _, [], ⟨rfl, rfl⟩, ?_⟩
    simp [-List.reduceReplicate, LES] <;> rfl
  · rw [hn] at h; cases h
theorem c_impl_IsSlid_no (key a b : List UInt8) (hk : key.length = 8) (ha : a.length = 16) (hb : b.length = 16) (hn : netB z box A k n = false) : LC Tryz.prog 10 [.a (netC z box A k n), .a (bs key), .a (bs a), .a (bs b)] [] (fun v hp => v = .t [.c (.bool (false)), .c (.int .i64 (1))] ∧ hp = []) := by
  refine LC_of (X := XX (fun | 3 => .one 0 (.one 2 (.one 3 (.one 5 (.one 1 (.one 4 (.one 6 (.one 7 (.one 8 .nil)))))))) | _ => .nil) (fun _ => []) [33, 34, 35, 36, 39, 45, 53, 54, 65, 75, 90, 91, 92, 104] 0) envOK Tryz.func10 (by kernel_rfl) (by kernel_rfl) rfl (Nat.le_of_ble_eq_true (by kernel_rfl)) ?_
  simp only [kFun, Tryz.f10, List.length_nil, List.length_cons, Nat.sub_zero, Nat.reduceSub, Nat.reduceAdd, List.nil_append, List.cons_append, List.replicate_succ, List.replicate_zero]
  simp only [XX, ↓VC, VP, TT, Nat.reduceEqDiff, reduceCtorEq, Nat.reduceAdd, Nat.reduceSub, Nat.reduceLT, Nat.reduceMul, Nat.reducePow, Nat.reduceLeDiff, Int.reduceToNat, Int.reduceLE, Int.reduceLT, Int.reducePow, netC_len hbx hA, ↓net_all hbx hA, hk, ha, hb]
  refine kCall_val (c_impl_IsNetwork z k n box A hbx hA) (by rfl) [] (by simp [CALL, SCB, instL_net, okL_net, instL_cip, okL_cip]) (by simp [CALL, SCB, instL_net, okL_net, instL_cip, okL_cip]) (by simp [CALL, SCB, instL_net, okL_net, instL_cip, okL_cip]) (by simp [okL_bs, okL_room, okL, okV, instL_net, okL_net, instL_cip, okL_cip]) ?_
  simp (config := { maxSteps := 2000000 }) only [CALL, ↓VC, VP, TT, Nat.reduceEqDiff, reduceCtorEq, Nat.reduceAdd, Nat.reduceSub, Nat.reduceLT, Nat.reduceMul, Nat.reducePow, Nat.reduceLeDiff, Int.reduceToNat, Int.reduceLE, Int.reduceLT, Int.reducePow, GOB, instL_net, instL_cip, hk, ha, hb, netC_len hbx hA, ↓net_all hbx hA]
  refine ⟨fun h => ?_, fun h => ?_⟩
  · refine ⟨_, _, [], ⟨rfl, rfl⟩, ?_⟩
    simp [-List.reduceReplicate, LES] <;> rfl
  · rw [hn] at h; cases h
end
theorem k_spec_IsSlid (c : Net) (key a b : List UInt8) (hk : key.length = 8) (ha : a.length = 16) (hb : b.length = 16) : LC Tryz.prog 25 [.a c.cells, .a (bs key), .a (bs a), .a (bs b)] [] (fun v hp => v = .t [.c (.bool ((c.rnd key a == b))), .c (.int .i64 (0))] ∧ hp = []) := by
  have hr := rnd_len (c := c) key a ha
  refine LC_of (X := XX (fun | 3 => .one 0 (.one 1 (.one 2 (.one 4 (.one 3 (.one 5 (.one 6 (.one 7 .nil))))))) | _ => .nil) (fun _ => []) [33, 34, 35, 36, 39, 45, 53, 54, 65, 75, 90, 91, 92, 104] 0) envOK Tryz.func25 (by kernel_rfl) (by kernel_rfl) rfl (Nat.le_of_ble_eq_true (by kernel_rfl)) ?_
  simp only [kFun, Tryz.f25, List.length_nil, List.length_cons, Nat.sub_zero, Nat.reduceSub, Nat.reduceAdd, List.nil_append, List.cons_append, List.replicate_succ, List.replicate_zero]
  simp only [XX, ↓VC, VP, TT, Nat.reduceEqDiff, reduceCtorEq, Nat.reduceAdd, Nat.reduceSub, Nat.reduceLT, Nat.reduceMul, Nat.reducePow, Nat.reduceLeDiff, Int.reduceToNat, Int.reduceLE, Int.reduceLT, Int.reducePow, n_len, ↓n_all, hk, ha, hb]
  refine kCall_val (k_spec_NIs c) (by rfl) [] (by simp [CALL, SCB, instL_net, okL_net, instL_cip, okL_cip, n_inst, n_ok]) (by simp [CALL, SCB, instL_net, okL_net, instL_cip, okL_cip, n_inst, n_ok]) (by simp [CALL, SCB, instL_net, okL_net, instL_cip, okL_cip, n_inst, n_ok]) (by simp [okL_bs, okL_room, okL, okV, instL_net, okL_net, instL_cip, okL_cip, n_inst, n_ok]) ?_
  simp (config := { maxSteps := 2000000 }) only [CALL, ↓VC, VP, TT, Nat.reduceEqDiff, reduceCtorEq, Nat.reduceAdd, Nat.reduceSub, Nat.reduceLT, Nat.reduceMul, Nat.reducePow, Nat.reduceLeDiff, Int.reduceToNat, Int.reduceLE, Int.reduceLT, Int.reducePow, GOB, instL_net, instL_cip, n_inst, n_len, ↓n_all, hk, ha, hb]
  refine kCall_val (k_spec_rnd c key a hk ha) (by rfl) [] (by simp [CALL, SCB, instL_net, okL_net, instL_cip, okL_cip, n_inst, n_ok]) (by simp [CALL, SCB, instL_net, okL_net, instL_cip, okL_cip, n_inst, n_ok]) (by simp [CALL, SCB, instL_net, okL_net, instL_cip, okL_cip, n_inst, n_ok]) (by simp [okL_bs, okL_room, okL, okV, instL_net, okL_net, instL_cip, okL_cip, n_inst, n_ok]) ?_
  simp (config := { maxSteps := 2000000 }) only [CALL, ↓VC, VP, TT, Nat.reduceEqDiff, reduceCtorEq, Nat.reduceAdd, Nat.reduceSub, Nat.reduceLT, Nat.reduceMul, Nat.reducePow, Nat.reduceLeDiff, Int.reduceToNat, Int.reduceLE, Int.reduceLT, Int.reducePow, GOB, instL_net, instL_cip, n_inst, n_len, ↓n_all, hk, ha, hb, hr]
  try refine ⟨intCells_bs _, intCells_bs _, fun t ht => ?_⟩
  obtain rfl : t = (c.rnd key a == b) := by
    rw [Bool.eq_iff_iff, ht, beq_iff_eq]
    exact bs_inj
  refine ⟨_, _, [], ⟨rfl, rfl⟩, ?_⟩
  simp [-List.reduceReplicate, LES] <;> rfl
theorem two_IsSlid (z k n : Int) (box A key a b : List UInt8) (hbx : box.length = 256) (hA : A.length = 16) (hk : key.length = 8) (ha : a.length = 16) (hb : b.length = 16) : ∃ (t : Bool) (e : Int),
    LC Tryz.prog 25 [.a (netC z box A k n), .a (bs key), .a (bs a), .a (bs b)] [] (fun v hp => v = .t [.c (.bool (t)), .c (.int .i64 (e))] ∧ hp = []) ∧
    LC Tryz.prog 10 [.a (netC z box A k n), .a (bs key), .a (bs a), .a (bs b)] [] (fun v hp => v = .t [.c (.bool (t)), .c (.int .i64 (e))] ∧ hp = []) := by
  cases hn : netB z box A k n with
  | false => exact ⟨_, _, c_spec_IsSlid_no z k n box A hbx hA key a b hk ha hb hn, c_impl_IsSlid_no z k n box A hbx hA key a b hk ha hb hn⟩
  | true =>
    obtain ⟨c, rfl, rfl, rfl, rfl, rfl⟩ := net_of hbx hA hn
    exact ⟨_, _, k_spec_IsSlid c key a b hk ha hb, k_impl_IsSlid c key a b hk ha hb⟩
/-- The house's network. -/
def houseNt (k r : Int) : List V := if (0 ≤ k ∧ k ≤ 2) ∧ (1 ≤ r ∧ r ≤ 40) then netC 285 houseB houseA k r else netC 0 (List.replicate 256 0) (List.replicate 16 0) 0 0
def houseNe (k r : Int) : Int := if (0 ≤ k ∧ k ≤ 2) ∧ (1 ≤ r ∧ r ≤ 40) then 0 else 2
theorem houseNt_no {k r : Int} (h : ¬ ((0 ≤ k ∧ k ≤ 2) ∧ (1 ≤ r ∧ r ≤ 40))) : houseNt k r = netC 0 (List.replicate 256 0) (List.replicate 16 0) 0 0 ∧ houseNe k r = 2 := by unfold houseNt houseNe; rw [if_neg h, if_neg h]; exact ⟨rfl, rfl⟩
theorem houseNt_yes {k r : Int} (h : (0 ≤ k ∧ k ≤ 2) ∧ (1 ≤ r ∧ r ≤ 40)) : houseNt k r = netC 285 houseB houseA k r ∧ houseNe k r = 0 := by unfold houseNt houseNe; rw [if_pos h, if_pos h]; exact ⟨rfl, rfl⟩
theorem c_spec_HouseNetwork (k r : Int) : LC Tryz.prog 23 [.c (.int .i64 (k)), .c (.int .i64 (r))] [] (fun v hp => v = .t [.a (houseNt k r), .c (.int .i64 (houseNe k r))] ∧ hp = []) := by
  have zb : (List.replicate 256 (0 : UInt8)).length = 256 := List.length_replicate
  have za : (List.replicate 16 (0 : UInt8)).length = 16 := List.length_replicate
  refine LC_of (X := XX (fun _ => .nil) (fun _ => []) [33, 34, 35, 36, 39, 45, 53, 54, 65, 75, 90, 91, 92, 104] 0) envOK Tryz.func23 (by kernel_rfl) (by kernel_rfl) rfl (Nat.le_of_ble_eq_true (by kernel_rfl)) ?_
  simp only [kFun, Tryz.f23, List.length_nil, List.length_cons, Nat.sub_zero, Nat.reduceSub, Nat.reduceAdd, List.nil_append, List.cons_append, List.replicate_succ, List.replicate_zero]
  simp only [XX, ↓VC, VP, TT, Nat.reduceEqDiff, reduceCtorEq, Nat.reduceAdd, Nat.reduceSub, Nat.reduceLT, Nat.reduceMul, Nat.reducePow, Nat.reduceLeDiff, Int.reduceToNat, Int.reduceLE, Int.reduceLT, Int.reducePow, net_zero, netC_len zb za]
  by_cases h1 : 0 ≤ k ∧ k ≤ 2
  · have f1 : decide (0 ≤ k ∧ k ≤ 2) = true := decide_eq_true h1
    by_cases h2 : 1 ≤ r ∧ r ≤ 40
    · have f2 : decide (1 ≤ r ∧ r ≤ 40) = true := decide_eq_true h2
      obtain ⟨e1, e2⟩ := houseNt_yes ⟨h1, h2⟩
      rw [e1, e2]
      refine kCall_val (c_spec_l01In k 0 2) (by rfl) [] (by simp [CALL, SCB, instL_net, okL_net, instL_cip, okL_cip]) (by simp [CALL, SCB, instL_net, okL_net, instL_cip, okL_cip]) (by simp [CALL, SCB, instL_net, okL_net, instL_cip, okL_cip]) (by simp [okL_bs, okL_room, okL, okV, instL_net, okL_net, instL_cip, okL_cip]) ?_
      simp (config := { maxSteps := 2000000 }) only [CALL, ↓VC, VP, TT, Nat.reduceEqDiff, reduceCtorEq, Nat.reduceAdd, Nat.reduceSub, Nat.reduceLT, Nat.reduceMul, Nat.reducePow, Nat.reduceLeDiff, Int.reduceToNat, Int.reduceLE, Int.reduceLT, Int.reducePow, GOB, instL_net, instL_cip, net_zero, netC_len zb za, f1]
      refine kCall_val (c_spec_l01In r 1 40) (by rfl) [] (by simp [CALL, SCB, instL_net, okL_net, instL_cip, okL_cip]) (by simp [CALL, SCB, instL_net, okL_net, instL_cip, okL_cip]) (by simp [CALL, SCB, instL_net, okL_net, instL_cip, okL_cip]) (by simp [okL_bs, okL_room, okL, okV, instL_net, okL_net, instL_cip, okL_cip]) ?_
      simp (config := { maxSteps := 2000000 }) only [CALL, ↓VC, VP, TT, Nat.reduceEqDiff, reduceCtorEq, Nat.reduceAdd, Nat.reduceSub, Nat.reduceLT, Nat.reduceMul, Nat.reducePow, Nat.reduceLeDiff, Int.reduceToNat, Int.reduceLE, Int.reduceLT, Int.reducePow, GOB, instL_net, instL_cip, net_zero, netC_len zb za, f1, f2]
      refine kCall_val (c_spec_l04House 1) (by rfl) [] (by simp [CALL, SCB, instL_net, okL_net, instL_cip, okL_cip, houseC]) (by simp [CALL, SCB, instL_net, okL_net, instL_cip, okL_cip, houseC]) (by simp [CALL, SCB, instL_net, okL_net, instL_cip, okL_cip, houseC]) (by simp [okL_bs, okL_room, okL, okV, instL_net, okL_net, instL_cip, okL_cip, houseC]) ?_
      simp (config := { maxSteps := 2000000 }) only [CALL, ↓VC, VP, TT, Nat.reduceEqDiff, reduceCtorEq, Nat.reduceAdd, Nat.reduceSub, Nat.reduceLT, Nat.reduceMul, Nat.reducePow, Nat.reduceLeDiff, Int.reduceToNat, Int.reduceLE, Int.reduceLT, Int.reducePow, GOB, instL_net, instL_cip, houseC, cipC_len zb za za, cipC_len houseB_len houseA_len houseP_len, ↓cip_put_all zb za za houseB_len houseA_len houseP_len, ↓cip_all houseB_len houseA_len houseP_len, ↓cip_field, ↓cip_box houseB_len, ↓cip_mix houseB_len houseA_len, bs_length, houseB_len, houseA_len, net_spl_f, net_spl_b zb houseB_len, net_spl_m houseB_len za houseA_len, net_spl_k houseB_len houseA_len, net_spl_r houseB_len houseA_len, netC_len houseB_len houseA_len, netC_len houseB_len za, ↓net_put_allU zb za houseB_len houseA_len]
      refine ⟨by simp [TT], ?_⟩
      refine Eq.mpr (net_put_allU (box' := houseB) (A' := houseA) (f' := 285) (kd' := k) (r' := r) zb za houseB_len houseA_len) ?_
      simp only [↓VC, VP, TT, Nat.reduceEqDiff, reduceCtorEq, Nat.reduceAdd, Nat.reduceSub, Nat.reduceLT, Nat.reduceMul, Nat.reducePow, Nat.reduceLeDiff, Int.reduceToNat, Int.reduceLE, Int.reduceLT, Int.reducePow, ↓net_all houseB_len houseA_len]
      refine ⟨_, _, [], ⟨rfl, rfl⟩, ?_⟩
      simp [-List.reduceReplicate, LES, renL_net, okL_net] <;> rfl
    · have f2 : decide (1 ≤ r ∧ r ≤ 40) = false := decide_eq_false h2
      obtain ⟨e1, e2⟩ := houseNt_no (k := k) (r := r) (fun h => h2 h.2)
      rw [e1, e2]
      refine kCall_val (c_spec_l01In k 0 2) (by rfl) [] (by simp [CALL, SCB, instL_net, okL_net, instL_cip, okL_cip]) (by simp [CALL, SCB, instL_net, okL_net, instL_cip, okL_cip]) (by simp [CALL, SCB, instL_net, okL_net, instL_cip, okL_cip]) (by simp [okL_bs, okL_room, okL, okV, instL_net, okL_net, instL_cip, okL_cip]) ?_
      simp (config := { maxSteps := 2000000 }) only [CALL, ↓VC, VP, TT, Nat.reduceEqDiff, reduceCtorEq, Nat.reduceAdd, Nat.reduceSub, Nat.reduceLT, Nat.reduceMul, Nat.reducePow, Nat.reduceLeDiff, Int.reduceToNat, Int.reduceLE, Int.reduceLT, Int.reducePow, GOB, instL_net, instL_cip, net_zero, netC_len zb za, f1]
      refine kCall_val (c_spec_l01In r 1 40) (by rfl) [] (by simp [CALL, SCB, instL_net, okL_net, instL_cip, okL_cip]) (by simp [CALL, SCB, instL_net, okL_net, instL_cip, okL_cip]) (by simp [CALL, SCB, instL_net, okL_net, instL_cip, okL_cip]) (by simp [okL_bs, okL_room, okL, okV, instL_net, okL_net, instL_cip, okL_cip]) ?_
      simp (config := { maxSteps := 2000000 }) only [CALL, ↓VC, VP, TT, Nat.reduceEqDiff, reduceCtorEq, Nat.reduceAdd, Nat.reduceSub, Nat.reduceLT, Nat.reduceMul, Nat.reducePow, Nat.reduceLeDiff, Int.reduceToNat, Int.reduceLE, Int.reduceLT, Int.reducePow, GOB, instL_net, instL_cip, net_zero, netC_len zb za, f1, f2, ↓net_put_all zb za zb za, ↓net_all zb za]
      refine ⟨by simp [TT], ?_⟩
      refine ⟨_, _, [], ⟨rfl, rfl⟩, ?_⟩
      simp [-List.reduceReplicate, LES, renL_net, okL_net] <;> rfl
  · have f1 : decide (0 ≤ k ∧ k ≤ 2) = false := decide_eq_false h1
    obtain ⟨e1, e2⟩ := houseNt_no (k := k) (r := r) (fun h => h1 h.1)
    rw [e1, e2]
    refine kCall_val (c_spec_l01In k 0 2) (by rfl) [] (by simp [CALL, SCB, instL_net, okL_net, instL_cip, okL_cip]) (by simp [CALL, SCB, instL_net, okL_net, instL_cip, okL_cip]) (by simp [CALL, SCB, instL_net, okL_net, instL_cip, okL_cip]) (by simp [okL_bs, okL_room, okL, okV, instL_net, okL_net, instL_cip, okL_cip]) ?_
    simp (config := { maxSteps := 2000000 }) only [CALL, ↓VC, VP, TT, Nat.reduceEqDiff, reduceCtorEq, Nat.reduceAdd, Nat.reduceSub, Nat.reduceLT, Nat.reduceMul, Nat.reducePow, Nat.reduceLeDiff, Int.reduceToNat, Int.reduceLE, Int.reduceLT, Int.reducePow, GOB, instL_net, instL_cip, net_zero, netC_len zb za, f1, ↓net_put_all zb za zb za, ↓net_all zb za]
    refine ⟨by simp [TT], ?_⟩
    refine ⟨_, _, [], ⟨rfl, rfl⟩, ?_⟩
    simp [-List.reduceReplicate, LES, renL_net, okL_net] <;> rfl
theorem c_impl_HouseNetwork (k r : Int) : LC Tryz.prog 22 [.c (.int .i64 (k)), .c (.int .i64 (r))] [] (fun v hp => v = .t [.a (houseNt k r), .c (.int .i64 (houseNe k r))] ∧ hp = []) := by
  have zb : (List.replicate 256 (0 : UInt8)).length = 256 := List.length_replicate
  have za : (List.replicate 16 (0 : UInt8)).length = 16 := List.length_replicate
  refine LC_of (X := XX (fun _ => .nil) (fun _ => []) [33, 34, 35, 36, 39, 45, 53, 54, 65, 75, 90, 91, 92, 104] 0) envOK Tryz.func22 (by kernel_rfl) (by kernel_rfl) rfl (Nat.le_of_ble_eq_true (by kernel_rfl)) ?_
  simp only [kFun, Tryz.f22, List.length_nil, List.length_cons, Nat.sub_zero, Nat.reduceSub, Nat.reduceAdd, List.nil_append, List.cons_append, List.replicate_succ, List.replicate_zero]
  simp only [XX, ↓VC, VP, TT, Nat.reduceEqDiff, reduceCtorEq, Nat.reduceAdd, Nat.reduceSub, Nat.reduceLT, Nat.reduceMul, Nat.reducePow, Nat.reduceLeDiff, Int.reduceToNat, Int.reduceLE, Int.reduceLT, Int.reducePow, net_zero, netC_len zb za]
  by_cases h1 : 0 ≤ k ∧ k ≤ 2
  · have f1 : decide (0 ≤ k ∧ k ≤ 2) = true := decide_eq_true h1
    by_cases h2 : 1 ≤ r ∧ r ≤ 40
    · have f2 : decide (1 ≤ r ∧ r ≤ 40) = true := decide_eq_true h2
      obtain ⟨e1, e2⟩ := houseNt_yes ⟨h1, h2⟩
      rw [e1, e2]
      refine kCall_val (c_impl_inRange k 0 2) (by rfl) [] (by simp [CALL, SCB, instL_net, okL_net, instL_cip, okL_cip]) (by simp [CALL, SCB, instL_net, okL_net, instL_cip, okL_cip]) (by simp [CALL, SCB, instL_net, okL_net, instL_cip, okL_cip]) (by simp [okL_bs, okL_room, okL, okV, instL_net, okL_net, instL_cip, okL_cip]) ?_
      simp (config := { maxSteps := 2000000 }) only [CALL, ↓VC, VP, TT, Nat.reduceEqDiff, reduceCtorEq, Nat.reduceAdd, Nat.reduceSub, Nat.reduceLT, Nat.reduceMul, Nat.reducePow, Nat.reduceLeDiff, Int.reduceToNat, Int.reduceLE, Int.reduceLT, Int.reducePow, GOB, instL_net, instL_cip, net_zero, netC_len zb za, f1]
      refine kCall_val (c_impl_inRange r 1 40) (by rfl) [] (by simp [CALL, SCB, instL_net, okL_net, instL_cip, okL_cip]) (by simp [CALL, SCB, instL_net, okL_net, instL_cip, okL_cip]) (by simp [CALL, SCB, instL_net, okL_net, instL_cip, okL_cip]) (by simp [okL_bs, okL_room, okL, okV, instL_net, okL_net, instL_cip, okL_cip]) ?_
      simp (config := { maxSteps := 2000000 }) only [CALL, ↓VC, VP, TT, Nat.reduceEqDiff, reduceCtorEq, Nat.reduceAdd, Nat.reduceSub, Nat.reduceLT, Nat.reduceMul, Nat.reducePow, Nat.reduceLeDiff, Int.reduceToNat, Int.reduceLE, Int.reduceLT, Int.reducePow, GOB, instL_net, instL_cip, net_zero, netC_len zb za, f1, f2]
      refine kCall_val (c_impl_houseCipher 1) (by rfl) [] (by simp [CALL, SCB, instL_net, okL_net, instL_cip, okL_cip, houseC]) (by simp [CALL, SCB, instL_net, okL_net, instL_cip, okL_cip, houseC]) (by simp [CALL, SCB, instL_net, okL_net, instL_cip, okL_cip, houseC]) (by simp [okL_bs, okL_room, okL, okV, instL_net, okL_net, instL_cip, okL_cip, houseC]) ?_
      simp (config := { maxSteps := 2000000 }) only [CALL, ↓VC, VP, TT, Nat.reduceEqDiff, reduceCtorEq, Nat.reduceAdd, Nat.reduceSub, Nat.reduceLT, Nat.reduceMul, Nat.reducePow, Nat.reduceLeDiff, Int.reduceToNat, Int.reduceLE, Int.reduceLT, Int.reducePow, GOB, instL_net, instL_cip, houseC, cipC_len zb za za, cipC_len houseB_len houseA_len houseP_len, ↓cip_put_all zb za za houseB_len houseA_len houseP_len, ↓cip_all houseB_len houseA_len houseP_len, ↓cip_field, ↓cip_box houseB_len, ↓cip_mix houseB_len houseA_len, bs_length, houseB_len, houseA_len, net_spl_f, net_spl_b zb houseB_len, net_spl_m houseB_len za houseA_len, net_spl_k houseB_len houseA_len, net_spl_r houseB_len houseA_len, netC_len houseB_len houseA_len, netC_len houseB_len za, ↓net_put_allU zb za houseB_len houseA_len]
      refine ⟨by simp [TT], ?_⟩
      refine Eq.mpr (net_put_allU (box' := houseB) (A' := houseA) (f' := 285) (kd' := k) (r' := r) zb za houseB_len houseA_len) ?_
      simp only [↓VC, VP, TT, Nat.reduceEqDiff, reduceCtorEq, Nat.reduceAdd, Nat.reduceSub, Nat.reduceLT, Nat.reduceMul, Nat.reducePow, Nat.reduceLeDiff, Int.reduceToNat, Int.reduceLE, Int.reduceLT, Int.reducePow, ↓net_all houseB_len houseA_len]
      refine ⟨_, _, [], ⟨rfl, rfl⟩, ?_⟩
      simp [-List.reduceReplicate, LES, renL_net, okL_net] <;> rfl
    · have f2 : decide (1 ≤ r ∧ r ≤ 40) = false := decide_eq_false h2
      obtain ⟨e1, e2⟩ := houseNt_no (k := k) (r := r) (fun h => h2 h.2)
      rw [e1, e2]
      refine kCall_val (c_impl_inRange k 0 2) (by rfl) [] (by simp [CALL, SCB, instL_net, okL_net, instL_cip, okL_cip]) (by simp [CALL, SCB, instL_net, okL_net, instL_cip, okL_cip]) (by simp [CALL, SCB, instL_net, okL_net, instL_cip, okL_cip]) (by simp [okL_bs, okL_room, okL, okV, instL_net, okL_net, instL_cip, okL_cip]) ?_
      simp (config := { maxSteps := 2000000 }) only [CALL, ↓VC, VP, TT, Nat.reduceEqDiff, reduceCtorEq, Nat.reduceAdd, Nat.reduceSub, Nat.reduceLT, Nat.reduceMul, Nat.reducePow, Nat.reduceLeDiff, Int.reduceToNat, Int.reduceLE, Int.reduceLT, Int.reducePow, GOB, instL_net, instL_cip, net_zero, netC_len zb za, f1]
      refine kCall_val (c_impl_inRange r 1 40) (by rfl) [] (by simp [CALL, SCB, instL_net, okL_net, instL_cip, okL_cip]) (by simp [CALL, SCB, instL_net, okL_net, instL_cip, okL_cip]) (by simp [CALL, SCB, instL_net, okL_net, instL_cip, okL_cip]) (by simp [okL_bs, okL_room, okL, okV, instL_net, okL_net, instL_cip, okL_cip]) ?_
      simp (config := { maxSteps := 2000000 }) only [CALL, ↓VC, VP, TT, Nat.reduceEqDiff, reduceCtorEq, Nat.reduceAdd, Nat.reduceSub, Nat.reduceLT, Nat.reduceMul, Nat.reducePow, Nat.reduceLeDiff, Int.reduceToNat, Int.reduceLE, Int.reduceLT, Int.reducePow, GOB, instL_net, instL_cip, net_zero, netC_len zb za, f1, f2, ↓net_put_all zb za zb za, ↓net_all zb za]
      refine ⟨by simp [TT], ?_⟩
      refine ⟨_, _, [], ⟨rfl, rfl⟩, ?_⟩
      simp [-List.reduceReplicate, LES, renL_net, okL_net] <;> rfl
  · have f1 : decide (0 ≤ k ∧ k ≤ 2) = false := decide_eq_false h1
    obtain ⟨e1, e2⟩ := houseNt_no (k := k) (r := r) (fun h => h1 h.1)
    rw [e1, e2]
    refine kCall_val (c_impl_inRange k 0 2) (by rfl) [] (by simp [CALL, SCB, instL_net, okL_net, instL_cip, okL_cip]) (by simp [CALL, SCB, instL_net, okL_net, instL_cip, okL_cip]) (by simp [CALL, SCB, instL_net, okL_net, instL_cip, okL_cip]) (by simp [okL_bs, okL_room, okL, okV, instL_net, okL_net, instL_cip, okL_cip]) ?_
    simp (config := { maxSteps := 2000000 }) only [CALL, ↓VC, VP, TT, Nat.reduceEqDiff, reduceCtorEq, Nat.reduceAdd, Nat.reduceSub, Nat.reduceLT, Nat.reduceMul, Nat.reducePow, Nat.reduceLeDiff, Int.reduceToNat, Int.reduceLE, Int.reduceLT, Int.reducePow, GOB, instL_net, instL_cip, net_zero, netC_len zb za, f1, ↓net_put_all zb za zb za, ↓net_all zb za]
    refine ⟨by simp [TT], ?_⟩
    refine ⟨_, _, [], ⟨rfl, rfl⟩, ?_⟩
    simp [-List.reduceReplicate, LES, renL_net, okL_net] <;> rfl
/-- Blocks that look like two rounds of halves. -/
def looksT (a b x y : List UInt8) : Bool := a.drop 8 == b.drop 8 && a.take 8 != b.take 8 && xorN 8 (x.take 8) (y.take 8) == xorN 8 (a.take 8) (b.take 8)
theorem c_spec_LooksLikeTwo (a b x y : List UInt8) (ha : a.length = 16) (hb : b.length = 16) (hx : x.length = 16) (hy : y.length = 16) : LC Tryz.prog 13 [.a (bs a), .a (bs b), .a (bs x), .a (bs y)] [] (fun v hp => v = .c (.bool (looksT a b x y)) ∧ hp = []) := by
  have ha1 := take8_len ha
  have ha2 := drop8_len ha
  have hb1 := take8_len hb
  have hb2 := drop8_len hb
  have hx1 := take8_len hx
  have hx2 := drop8_len hx
  have hy1 := take8_len hy
  have hy2 := drop8_len hy
  refine LC_of (X := XX (fun | 5 => .one 0 (.one 1 (.one 2 (.one 3 (.one 4 (.one 5 (.one 6 (.one 7 (.one 8 (.one 9 (.one 10 (.one 12 (.one 13 (.one 11 (.one 14 (.one 15 (.one 16 (.one 17 .nil))))))))))))))))) | _ => .nil) (fun _ => []) [33, 34, 35, 36, 39, 45, 53, 54, 65, 75, 90, 91, 92, 104] 0) envOK Tryz.func13 (by kernel_rfl) (by kernel_rfl) rfl (Nat.le_of_ble_eq_true (by kernel_rfl)) ?_
  simp only [kFun, Tryz.f13, List.length_nil, List.length_cons, Nat.sub_zero, Nat.reduceSub, Nat.reduceAdd, List.nil_append, List.cons_append, List.replicate_succ, List.replicate_zero]
  simp only [XX, ↓VC, VP, TT, Nat.reduceEqDiff, reduceCtorEq, Nat.reduceAdd, Nat.reduceSub, Nat.reduceLT, Nat.reduceMul, Nat.reducePow, Nat.reduceLeDiff, Int.reduceToNat, Int.reduceLE, Int.reduceLT, Int.reducePow, ha, hb, hx, hy]
  refine kCall_val (c_spec_l06Halves a ha) (by rfl) [] (by simp [CALL, SCB, instL_net, okL_net, instL_cip, okL_cip]) (by simp [CALL, SCB, instL_net, okL_net, instL_cip, okL_cip]) (by simp [CALL, SCB, instL_net, okL_net, instL_cip, okL_cip]) (by simp [okL_bs, okL_room, okL, okV, instL_net, okL_net, instL_cip, okL_cip]) ?_
  simp (config := { maxSteps := 2000000 }) only [CALL, ↓VC, VP, TT, Nat.reduceEqDiff, reduceCtorEq, Nat.reduceAdd, Nat.reduceSub, Nat.reduceLT, Nat.reduceMul, Nat.reducePow, Nat.reduceLeDiff, Int.reduceToNat, Int.reduceLE, Int.reduceLT, Int.reducePow, GOB, instL_net, instL_cip, ha, hb, hx, hy, ha1, ha2]
  refine kCall_val (c_spec_l06Halves b hb) (by rfl) [] (by simp [CALL, SCB, instL_net, okL_net, instL_cip, okL_cip]) (by simp [CALL, SCB, instL_net, okL_net, instL_cip, okL_cip]) (by simp [CALL, SCB, instL_net, okL_net, instL_cip, okL_cip]) (by simp [okL_bs, okL_room, okL, okV, instL_net, okL_net, instL_cip, okL_cip]) ?_
  simp (config := { maxSteps := 2000000 }) only [CALL, ↓VC, VP, TT, Nat.reduceEqDiff, reduceCtorEq, Nat.reduceAdd, Nat.reduceSub, Nat.reduceLT, Nat.reduceMul, Nat.reducePow, Nat.reduceLeDiff, Int.reduceToNat, Int.reduceLE, Int.reduceLT, Int.reducePow, GOB, instL_net, instL_cip, ha, hb, hx, hy, ha1, ha2, hb1, hb2]
  refine kCall_val (c_spec_l06Halves x hx) (by rfl) [] (by simp [CALL, SCB, instL_net, okL_net, instL_cip, okL_cip]) (by simp [CALL, SCB, instL_net, okL_net, instL_cip, okL_cip]) (by simp [CALL, SCB, instL_net, okL_net, instL_cip, okL_cip]) (by simp [okL_bs, okL_room, okL, okV, instL_net, okL_net, instL_cip, okL_cip]) ?_
  simp (config := { maxSteps := 2000000 }) only [CALL, ↓VC, VP, TT, Nat.reduceEqDiff, reduceCtorEq, Nat.reduceAdd, Nat.reduceSub, Nat.reduceLT, Nat.reduceMul, Nat.reducePow, Nat.reduceLeDiff, Int.reduceToNat, Int.reduceLE, Int.reduceLT, Int.reducePow, GOB, instL_net, instL_cip, ha, hb, hx, hy, ha1, ha2, hb1, hb2, hx1, hx2]
  refine kCall_val (c_spec_l06Halves y hy) (by rfl) [] (by simp [CALL, SCB, instL_net, okL_net, instL_cip, okL_cip]) (by simp [CALL, SCB, instL_net, okL_net, instL_cip, okL_cip]) (by simp [CALL, SCB, instL_net, okL_net, instL_cip, okL_cip]) (by simp [okL_bs, okL_room, okL, okV, instL_net, okL_net, instL_cip, okL_cip]) ?_
  simp (config := { maxSteps := 2000000 }) only [CALL, ↓VC, VP, TT, Nat.reduceEqDiff, reduceCtorEq, Nat.reduceAdd, Nat.reduceSub, Nat.reduceLT, Nat.reduceMul, Nat.reducePow, Nat.reduceLeDiff, Int.reduceToNat, Int.reduceLE, Int.reduceLT, Int.reducePow, GOB, instL_net, instL_cip, ha, hb, hx, hy, ha1, ha2, hb1, hb2, hx1, hx2, hy1, hy2]
  refine ⟨intCells_bs _, intCells_bs _, fun t1 ht1 => ?_⟩
  have q1 : t1 = (a.drop 8 == b.drop 8) := by rw [Bool.eq_iff_iff, ht1, beq_iff_eq]; exact bs_inj
  cases t1 with
  | false =>
    simp only [↓VC, VP, TT, Nat.reduceEqDiff, reduceCtorEq, Nat.reduceAdd, Nat.reduceSub, Nat.reduceLT, Nat.reduceMul, Nat.reducePow, Nat.reduceLeDiff, Int.reduceToNat, Int.reduceLE, Int.reduceLT, Int.reducePow]
    have e : looksT a b x y = false := by unfold looksT; rw [← q1]; rfl
    rw [e]
    refine ⟨_, _, [], ⟨rfl, rfl⟩, ?_⟩
    simp [-List.reduceReplicate, LES] <;> rfl
  | true =>
    simp only [↓VC, VP, TT, Nat.reduceEqDiff, reduceCtorEq, Nat.reduceAdd, Nat.reduceSub, Nat.reduceLT, Nat.reduceMul, Nat.reducePow, Nat.reduceLeDiff, Int.reduceToNat, Int.reduceLE, Int.reduceLT, Int.reducePow, ha, hb, hx, hy, ha1, ha2, hb1, hb2, hx1, hx2, hy1, hy2]
    refine ⟨intCells_bs _, intCells_bs _, fun t2 ht2 => ?_⟩
    have q2 : t2 = (a.take 8 == b.take 8) := by rw [Bool.eq_iff_iff, ht2, beq_iff_eq]; exact bs_inj
    cases t2 with
    | true =>
      simp only [↓VC, VP, TT, Nat.reduceEqDiff, reduceCtorEq, Nat.reduceAdd, Nat.reduceSub, Nat.reduceLT, Nat.reduceMul, Nat.reducePow, Nat.reduceLeDiff, Int.reduceToNat, Int.reduceLE, Int.reduceLT, Int.reducePow, Bool.not_true, Bool.not_false]
      have e : looksT a b x y = false := by unfold looksT; rw [← q1, bne, ← q2]; rfl
      rw [e]
      refine ⟨_, _, [], ⟨rfl, rfl⟩, ?_⟩
      simp [-List.reduceReplicate, LES] <;> rfl
    | false =>
      simp only [↓VC, VP, TT, Nat.reduceEqDiff, reduceCtorEq, Nat.reduceAdd, Nat.reduceSub, Nat.reduceLT, Nat.reduceMul, Nat.reducePow, Nat.reduceLeDiff, Int.reduceToNat, Int.reduceLE, Int.reduceLT, Int.reducePow, Bool.not_true, Bool.not_false, ha, hb, hx, hy, ha1, ha2, hb1, hb2, hx1, hx2, hy1, hy2]
      refine kCall_val (c_spec_l06Xor (x.take 8) (y.take 8) hx1 hy1) (by rfl) [] (by simp [CALL, SCB, instL_net, okL_net, instL_cip, okL_cip]) (by simp [CALL, SCB, instL_net, okL_net, instL_cip, okL_cip]) (by simp [CALL, SCB, instL_net, okL_net, instL_cip, okL_cip]) (by simp [okL_bs, okL_room, okL, okV, instL_net, okL_net, instL_cip, okL_cip]) ?_
      simp (config := { maxSteps := 2000000 }) only [CALL, ↓VC, VP, TT, Nat.reduceEqDiff, reduceCtorEq, Nat.reduceAdd, Nat.reduceSub, Nat.reduceLT, Nat.reduceMul, Nat.reducePow, Nat.reduceLeDiff, Int.reduceToNat, Int.reduceLE, Int.reduceLT, Int.reducePow, GOB, instL_net, instL_cip, ha1, hb1, hx1, hy1, xorN_len]
      refine kCall_val (c_spec_l06Xor (a.take 8) (b.take 8) ha1 hb1) (by rfl) [] (by simp [CALL, SCB, instL_net, okL_net, instL_cip, okL_cip]) (by simp [CALL, SCB, instL_net, okL_net, instL_cip, okL_cip]) (by simp [CALL, SCB, instL_net, okL_net, instL_cip, okL_cip]) (by simp [okL_bs, okL_room, okL, okV, instL_net, okL_net, instL_cip, okL_cip]) ?_
      simp (config := { maxSteps := 2000000 }) only [CALL, ↓VC, VP, TT, Nat.reduceEqDiff, reduceCtorEq, Nat.reduceAdd, Nat.reduceSub, Nat.reduceLT, Nat.reduceMul, Nat.reducePow, Nat.reduceLeDiff, Int.reduceToNat, Int.reduceLE, Int.reduceLT, Int.reducePow, GOB, instL_net, instL_cip, ha1, hb1, hx1, hy1, xorN_len]
      refine ⟨intCells_bs _, intCells_bs _, fun t3 ht3 => ?_⟩
      have q3 : t3 = (xorN 8 (x.take 8) (y.take 8) == xorN 8 (a.take 8) (b.take 8)) := by rw [Bool.eq_iff_iff, ht3, beq_iff_eq]; exact bs_inj
      have e : looksT a b x y = t3 := by unfold looksT; rw [← q1, bne, ← q2, q3]; rfl
      rw [e]
      cases t3 with
      | true => refine ⟨_, _, [], ⟨rfl, rfl⟩, ?_⟩
                simp [-List.reduceReplicate, LES] <;> rfl
      | false => refine ⟨_, _, [], ⟨rfl, rfl⟩, ?_⟩
                 simp [-List.reduceReplicate, LES] <;> rfl
theorem c_impl_LooksLikeTwo (a b x y : List UInt8) (ha : a.length = 16) (hb : b.length = 16) (hx : x.length = 16) (hy : y.length = 16) : LC Tryz.prog 12 [.a (bs a), .a (bs b), .a (bs x), .a (bs y)] [] (fun v hp => v = .c (.bool (looksT a b x y)) ∧ hp = []) := by
  have ha1 := take8_len ha
  have ha2 := drop8_len ha
  have hb1 := take8_len hb
  have hb2 := drop8_len hb
  have hx1 := take8_len hx
  have hx2 := drop8_len hx
  have hy1 := take8_len hy
  have hy2 := drop8_len hy
  refine LC_of (X := XX (fun | 5 => .one 0 (.one 1 (.one 2 (.one 3 (.one 4 (.one 5 (.one 6 (.one 7 (.one 8 (.one 9 (.one 10 (.one 12 (.one 13 (.one 11 (.one 14 (.one 15 (.one 16 (.one 17 .nil))))))))))))))))) | _ => .nil) (fun _ => []) [33, 34, 35, 36, 39, 45, 53, 54, 65, 75, 90, 91, 92, 104] 0) envOK Tryz.func12 (by kernel_rfl) (by kernel_rfl) rfl (Nat.le_of_ble_eq_true (by kernel_rfl)) ?_
  simp only [kFun, Tryz.f12, List.length_nil, List.length_cons, Nat.sub_zero, Nat.reduceSub, Nat.reduceAdd, List.nil_append, List.cons_append, List.replicate_succ, List.replicate_zero]
  simp only [XX, ↓VC, VP, TT, Nat.reduceEqDiff, reduceCtorEq, Nat.reduceAdd, Nat.reduceSub, Nat.reduceLT, Nat.reduceMul, Nat.reducePow, Nat.reduceLeDiff, Int.reduceToNat, Int.reduceLE, Int.reduceLT, Int.reducePow, ha, hb, hx, hy]
  refine kCall_val (c_impl_halves a ha) (by rfl) [] (by simp [CALL, SCB, instL_net, okL_net, instL_cip, okL_cip]) (by simp [CALL, SCB, instL_net, okL_net, instL_cip, okL_cip]) (by simp [CALL, SCB, instL_net, okL_net, instL_cip, okL_cip]) (by simp [okL_bs, okL_room, okL, okV, instL_net, okL_net, instL_cip, okL_cip]) ?_
  simp (config := { maxSteps := 2000000 }) only [CALL, ↓VC, VP, TT, Nat.reduceEqDiff, reduceCtorEq, Nat.reduceAdd, Nat.reduceSub, Nat.reduceLT, Nat.reduceMul, Nat.reducePow, Nat.reduceLeDiff, Int.reduceToNat, Int.reduceLE, Int.reduceLT, Int.reducePow, GOB, instL_net, instL_cip, ha, hb, hx, hy, ha1, ha2]
  refine kCall_val (c_impl_halves b hb) (by rfl) [] (by simp [CALL, SCB, instL_net, okL_net, instL_cip, okL_cip]) (by simp [CALL, SCB, instL_net, okL_net, instL_cip, okL_cip]) (by simp [CALL, SCB, instL_net, okL_net, instL_cip, okL_cip]) (by simp [okL_bs, okL_room, okL, okV, instL_net, okL_net, instL_cip, okL_cip]) ?_
  simp (config := { maxSteps := 2000000 }) only [CALL, ↓VC, VP, TT, Nat.reduceEqDiff, reduceCtorEq, Nat.reduceAdd, Nat.reduceSub, Nat.reduceLT, Nat.reduceMul, Nat.reducePow, Nat.reduceLeDiff, Int.reduceToNat, Int.reduceLE, Int.reduceLT, Int.reducePow, GOB, instL_net, instL_cip, ha, hb, hx, hy, ha1, ha2, hb1, hb2]
  refine kCall_val (c_impl_halves x hx) (by rfl) [] (by simp [CALL, SCB, instL_net, okL_net, instL_cip, okL_cip]) (by simp [CALL, SCB, instL_net, okL_net, instL_cip, okL_cip]) (by simp [CALL, SCB, instL_net, okL_net, instL_cip, okL_cip]) (by simp [okL_bs, okL_room, okL, okV, instL_net, okL_net, instL_cip, okL_cip]) ?_
  simp (config := { maxSteps := 2000000 }) only [CALL, ↓VC, VP, TT, Nat.reduceEqDiff, reduceCtorEq, Nat.reduceAdd, Nat.reduceSub, Nat.reduceLT, Nat.reduceMul, Nat.reducePow, Nat.reduceLeDiff, Int.reduceToNat, Int.reduceLE, Int.reduceLT, Int.reducePow, GOB, instL_net, instL_cip, ha, hb, hx, hy, ha1, ha2, hb1, hb2, hx1, hx2]
  refine kCall_val (c_impl_halves y hy) (by rfl) [] (by simp [CALL, SCB, instL_net, okL_net, instL_cip, okL_cip]) (by simp [CALL, SCB, instL_net, okL_net, instL_cip, okL_cip]) (by simp [CALL, SCB, instL_net, okL_net, instL_cip, okL_cip]) (by simp [okL_bs, okL_room, okL, okV, instL_net, okL_net, instL_cip, okL_cip]) ?_
  simp (config := { maxSteps := 2000000 }) only [CALL, ↓VC, VP, TT, Nat.reduceEqDiff, reduceCtorEq, Nat.reduceAdd, Nat.reduceSub, Nat.reduceLT, Nat.reduceMul, Nat.reducePow, Nat.reduceLeDiff, Int.reduceToNat, Int.reduceLE, Int.reduceLT, Int.reducePow, GOB, instL_net, instL_cip, ha, hb, hx, hy, ha1, ha2, hb1, hb2, hx1, hx2, hy1, hy2]
  refine ⟨intCells_bs _, intCells_bs _, fun t1 ht1 => ?_⟩
  have q1 : t1 = (a.drop 8 == b.drop 8) := by rw [Bool.eq_iff_iff, ht1, beq_iff_eq]; exact bs_inj
  cases t1 with
  | false =>
    simp only [↓VC, VP, TT, Nat.reduceEqDiff, reduceCtorEq, Nat.reduceAdd, Nat.reduceSub, Nat.reduceLT, Nat.reduceMul, Nat.reducePow, Nat.reduceLeDiff, Int.reduceToNat, Int.reduceLE, Int.reduceLT, Int.reducePow]
    have e : looksT a b x y = false := by unfold looksT; rw [← q1]; rfl
    rw [e]
    refine ⟨_, _, [], ⟨rfl, rfl⟩, ?_⟩
    simp [-List.reduceReplicate, LES] <;> rfl
  | true =>
    simp only [↓VC, VP, TT, Nat.reduceEqDiff, reduceCtorEq, Nat.reduceAdd, Nat.reduceSub, Nat.reduceLT, Nat.reduceMul, Nat.reducePow, Nat.reduceLeDiff, Int.reduceToNat, Int.reduceLE, Int.reduceLT, Int.reducePow, ha, hb, hx, hy, ha1, ha2, hb1, hb2, hx1, hx2, hy1, hy2]
    refine ⟨intCells_bs _, intCells_bs _, fun t2 ht2 => ?_⟩
    have q2 : t2 = (a.take 8 == b.take 8) := by rw [Bool.eq_iff_iff, ht2, beq_iff_eq]; exact bs_inj
    cases t2 with
    | true =>
      simp only [↓VC, VP, TT, Nat.reduceEqDiff, reduceCtorEq, Nat.reduceAdd, Nat.reduceSub, Nat.reduceLT, Nat.reduceMul, Nat.reducePow, Nat.reduceLeDiff, Int.reduceToNat, Int.reduceLE, Int.reduceLT, Int.reducePow, Bool.not_true, Bool.not_false]
      have e : looksT a b x y = false := by unfold looksT; rw [← q1, bne, ← q2]; rfl
      rw [e]
      refine ⟨_, _, [], ⟨rfl, rfl⟩, ?_⟩
      simp [-List.reduceReplicate, LES] <;> rfl
    | false =>
      simp only [↓VC, VP, TT, Nat.reduceEqDiff, reduceCtorEq, Nat.reduceAdd, Nat.reduceSub, Nat.reduceLT, Nat.reduceMul, Nat.reducePow, Nat.reduceLeDiff, Int.reduceToNat, Int.reduceLE, Int.reduceLT, Int.reducePow, Bool.not_true, Bool.not_false, ha, hb, hx, hy, ha1, ha2, hb1, hb2, hx1, hx2, hy1, hy2]
      refine kCall_val (c_impl_xorHalves (x.take 8) (y.take 8) hx1 hy1) (by rfl) [] (by simp [CALL, SCB, instL_net, okL_net, instL_cip, okL_cip]) (by simp [CALL, SCB, instL_net, okL_net, instL_cip, okL_cip]) (by simp [CALL, SCB, instL_net, okL_net, instL_cip, okL_cip]) (by simp [okL_bs, okL_room, okL, okV, instL_net, okL_net, instL_cip, okL_cip]) ?_
      simp (config := { maxSteps := 2000000 }) only [CALL, ↓VC, VP, TT, Nat.reduceEqDiff, reduceCtorEq, Nat.reduceAdd, Nat.reduceSub, Nat.reduceLT, Nat.reduceMul, Nat.reducePow, Nat.reduceLeDiff, Int.reduceToNat, Int.reduceLE, Int.reduceLT, Int.reducePow, GOB, instL_net, instL_cip, ha1, hb1, hx1, hy1, xorN_len]
      refine kCall_val (c_impl_xorHalves (a.take 8) (b.take 8) ha1 hb1) (by rfl) [] (by simp [CALL, SCB, instL_net, okL_net, instL_cip, okL_cip]) (by simp [CALL, SCB, instL_net, okL_net, instL_cip, okL_cip]) (by simp [CALL, SCB, instL_net, okL_net, instL_cip, okL_cip]) (by simp [okL_bs, okL_room, okL, okV, instL_net, okL_net, instL_cip, okL_cip]) ?_
      simp (config := { maxSteps := 2000000 }) only [CALL, ↓VC, VP, TT, Nat.reduceEqDiff, reduceCtorEq, Nat.reduceAdd, Nat.reduceSub, Nat.reduceLT, Nat.reduceMul, Nat.reducePow, Nat.reduceLeDiff, Int.reduceToNat, Int.reduceLE, Int.reduceLT, Int.reducePow, GOB, instL_net, instL_cip, ha1, hb1, hx1, hy1, xorN_len]
      refine ⟨intCells_bs _, intCells_bs _, fun t3 ht3 => ?_⟩
      have q3 : t3 = (xorN 8 (x.take 8) (y.take 8) == xorN 8 (a.take 8) (b.take 8)) := by rw [Bool.eq_iff_iff, ht3, beq_iff_eq]; exact bs_inj
      have e : looksT a b x y = t3 := by unfold looksT; rw [← q1, bne, ← q2, q3]; rfl
      rw [e]
      cases t3 with
      | true => refine ⟨_, _, [], ⟨rfl, rfl⟩, ?_⟩
                simp [-List.reduceReplicate, LES] <;> rfl
      | false => refine ⟨_, _, [], ⟨rfl, rfl⟩, ?_⟩
                 simp [-List.reduceReplicate, LES] <;> rfl
end Go.Proofs.YtjakgjelnbpmnaaGreat
/- Networks: keys out of a block, keys turned: both sides, for all arguments. -/
set_option linter.unusedSimpArgs false
set_option linter.unusedVariables false
namespace Go.Proofs.YtjakgjelnbpmnaaGreat
open Go Go.Vc
set_option maxRecDepth 10000
set_option maxHeartbeats 4000000
theorem hf_ext {n : Nat} {A B : List UInt8} (hA : A.length = 8 * n) (hB : B.length = 8 * n) (h : ∀ i, i < n → hfA A i = hfA B i) : A = B := by
  refine ext_getD hA hB fun x hx => ?_
  have g : ∀ M : List UInt8, M.getD x 0 = (hfA M (x / 8)).getD (x % 8) 0 := fun M => by
    unfold hfA
    simp only [List.getD_eq_getElem?_getD, List.getElem?_take, if_pos (Nat.mod_lt x (by decide : 8 > 0)), List.getElem?_drop]
    rw [Nat.div_add_mod]
  rw [g A, g B, h _ (by omega)]
theorem hf_snoc {n : Nat} {A w : List UInt8} (hA : A.length = 8 * n) (hw : w.length = 8) {j : Nat} (hj : j < n + 1) : hfA (A ++ w) j = if j < n then hfA A j else w := by
  unfold hfA
  rcases Nat.lt_or_ge j n with h | h
  · rw [if_pos h, List.drop_append_of_le_length (by omega), List.take_append_of_le_length (by rw [List.length_drop]; omega)]
  · obtain rfl : j = n := by omega
    rw [if_neg (by omega), List.drop_append_of_le_length (by omega), List.drop_of_length_le (by omega), List.nil_append, List.take_of_length_le (by omega)]
/-- The keys in the other order. -/
def revK (D : List UInt8) (n : Nat) : Nat → List UInt8
  | 0 => []
  | i + 1 => revK D n i ++ hfA D (n - 1 - i)
theorem revK_len {D : List UInt8} {n : Nat} (hD : D.length = 8 * n) : ∀ i, i ≤ n → (revK D n i).length = 8 * i
  | 0, _ => rfl
  | i + 1, h => by rw [revK, List.length_append, revK_len hD i (by omega), hfA_len hD (by omega)]; omega
theorem revK_at {D : List UInt8} {n : Nat} (hD : D.length = 8 * n) : ∀ i, i ≤ n → ∀ j, j < i → hfA (revK D n i) j = hfA D (n - 1 - j)
  | 0, _, j, hj => by omega
  | i + 1, h, j, hj => by
    rw [revK, hf_snoc (revK_len hD i (by omega)) (hfA_len hD (by omega)) hj]
    split
    · exact revK_at hD i (by omega) j (by assumption)
    · rw [show j = i by omega]
theorem c_spec_ReverseKeys (n c : Nat) (D : List UInt8) (hD : D.length = 8 * n) (hc : n ≤ c) (hm : n ≤ 40) : LC Tryz.prog 20 [.s 0 0 n c] [⟨false, bs D⟩] (Ret [⟨false, bs D⟩] (fun _ : Nat => True) fun r => (.t [.s 1 0 n (n + r), .c (.int .i64 (0))], [⟨true, bs (revK D n n) ++ List.replicate (8 * r) .j⟩])) := by
  have f1 : decide ((n : Int) > 40) = false := decide_eq_false (by omega)
  have w0 : IntKind.i64.wrap ((n : Int) - 1) = (n : Int) - 1 := wrap_i64 (by omega) (by omega)
  refine LC_of (X := XX (fun _ => .nil) (fun _ => []) [33, 34, 35, 36, 39, 45, 53, 54, 65, 75, 90, 91, 92, 104] 1) envOK Tryz.func20 (by kernel_rfl) (by kernel_rfl) rfl (Nat.le_of_ble_eq_true (by kernel_rfl)) ?_
  simp only [kFun, Tryz.f20, List.length_nil, List.length_cons, Nat.sub_zero, Nat.reduceSub, Nat.reduceAdd, List.nil_append, List.cons_append, List.replicate_succ, List.replicate_zero]
  simp only [XX, ↓VC, VP, TT, Nat.reduceEqDiff, reduceCtorEq, Nat.reduceAdd, Nat.reduceSub, Nat.reduceLT, Nat.reduceMul, Nat.reducePow, Nat.reduceLeDiff, Int.reduceToNat, Int.reduceLE, Int.reduceLT, Int.reducePow, f1, w0]
  try refine ⟨fun h => (by omega), fun _ => ?_⟩
  refine kLoop_of (fun s : Nat × Nat => ([.s 0 0 n c, .j, .j, .j, .s 1 0 s.1 (s.1 + s.2), .c (.int .i64 (((n : Int) - 1 - s.1))), .j, .j, .j, .j, .j, .j, .j, .j, .j, .j, .j, .j, .j, .j, .j, .j, .j, .j, .j], [⟨false, bs D⟩, ⟨true, bs (revK D n s.1) ++ List.replicate (8 * s.2) .j⟩])) (fun s => n - s.1) (fun s => s.1 ≤ n) (0, 0) (by simp) ⟨[0, 1], by simp [-List.reduceReplicate, LES, revK, bs_nil]⟩ ?_
  rintro ⟨i, r⟩ hi
  simp only at hi
  have hL := revK_len hD i hi
  rcases Nat.lt_or_ge i n with h | h
  · have hw : (hfA D (n - 1 - i)).length = 8 := hfA_len hD (by omega)
    have e0 : (n : Int) - 1 - i = ((n - 1 - i : Nat) : Int) := by omega
    have w1 : IntKind.i64.wrap (((n - 1 - i : Nat) : Int) - 1) = (n : Int) - 1 - ((i + 1 : Nat) : Int) := by rw [wrap_i64 (by omega) (by omega)]; omega
    have hsub : ∀ k : V → Prop, vSub (bs D) ((n - 1 - i) * 8) 8 k = k (.a (bs (hfA D (n - 1 - i)))) := fun k => by
      have := hf_sub (X := []) hD (show n - 1 - i < n by omega) (k := k)
      rwa [List.append_nil] at this
    have hT8 : List.take 8 (bs (hfA D (n - 1 - i))) = bs (hfA D (n - 1 - i)) := List.take_of_length_le (by rw [bs_length]; omega)
    have hT : ∀ X, List.take (i * 8) (bs (revK D n i) ++ X) = bs (revK D n i) := fun X => by rw [List.take_append_of_le_length (by rw [bs_length]; omega), List.take_of_length_le (by rw [bs_length]; omega)]
    have eR : (List.replicate 1 (bs (List.replicate 8 0))).flatten = bs (List.replicate 8 0) := rfl
    have eS : splice (bs (List.replicate 8 0)) 0 (bs (hfA D (n - 1 - i))) = bs (hfA D (n - 1 - i)) := splice_all (by simp only [bs_length, hw, List.length_replicate])
    have eS2 : splB (List.replicate 8 0) 0 (hfA D (n - 1 - i)) = hfA D (n - 1 - i) := by unfold splB; simp [hw]
    rw [e0]
    simp only [↓VC, VP, TT, Nat.reduceEqDiff, reduceCtorEq, Nat.reduceAdd, Nat.reduceSub, Nat.reduceLT, Nat.reduceMul, Nat.reducePow, Nat.reduceLeDiff, Int.reduceToNat, Int.reduceLE, Int.reduceLT, Int.reducePow, (eq_true (by omega) : (((n - 1 - i : Nat) : Int) ≥ 0) = True), (eq_true (by omega) : (((n - 1 - i : Nat) : Int) < (n : Int)) = True), decide_true, Int.toNat_natCast, ↓hsub, w1, hw, hT, hT8, eR, eS, eS2, bs_length, List.length_replicate, bs_append]
    repeat (first | refine ⟨by omega, ?_⟩ | refine ⟨.inr (by omega), ?_⟩ | refine ⟨.inr trivial, ?_⟩)
    intro r1 c' e1 e2
    refine ⟨(i + 1, c' - (i + 1)), by simp only; omega, by simp only; omega, [0, 3], ?_⟩
    obtain rfl : r1 = 8 * (c' - (i + 1)) := by omega
    simp [-List.reduceReplicate, LES, -List.reduceReplicate, renL_room, okL_room, revK, show i + 1 + (c' - (i + 1)) = c' by omega]
  · obtain rfl : i = n := by omega
    simp only [↓VC, VP, TT, Nat.reduceEqDiff, reduceCtorEq, Nat.reduceAdd, Nat.reduceSub, Nat.reduceLT, Nat.reduceMul, Nat.reducePow, Nat.reduceLeDiff, Int.reduceToNat, Int.reduceLE, Int.reduceLT, Int.reducePow, (eq_false (by omega) : ((i : Int) - 1 - i ≥ 0) = False), decide_false]
    exact ⟨_, _, [0, 1], ⟨r, trivial, rfl, rfl⟩, by simp [-List.reduceReplicate, LES, renL_room, okL_room]⟩
theorem c_spec_ReverseKeys_no (n c : Nat) (D : List UInt8) (hD : D.length = 8 * n) (hm : n ≤ 1048576) (h : 40 < n) : LC Tryz.prog 20 [.s 0 0 n c] [⟨false, bs D⟩] (Ret [⟨false, bs D⟩] (fun _ : Unit => True) fun _ => (.t [.c (.slice none 0 0), .c (.int .i64 (2))], [])) := by
  have f1 : decide ((n : Int) > 40) = true := decide_eq_true (by omega)
  refine LC_of (X := XX (fun _ => .nil) (fun _ => []) [33, 34, 35, 36, 39, 45, 53, 54, 65, 75, 90, 91, 92, 104] 1) envOK Tryz.func20 (by kernel_rfl) (by kernel_rfl) rfl (Nat.le_of_ble_eq_true (by kernel_rfl)) ?_
  simp only [kFun, Tryz.f20, List.length_nil, List.length_cons, Nat.sub_zero, Nat.reduceSub, Nat.reduceAdd, List.nil_append, List.cons_append, List.replicate_succ, List.replicate_zero]
  simp only [XX, ↓VC, VP, TT, Nat.reduceEqDiff, reduceCtorEq, Nat.reduceAdd, Nat.reduceSub, Nat.reduceLT, Nat.reduceMul, Nat.reducePow, Nat.reduceLeDiff, Int.reduceToNat, Int.reduceLE, Int.reduceLT, Int.reducePow, f1]
  try refine ⟨fun _ => ?_, fun h => absurd (show (n : Int) > 40 by omega) h⟩
  exact ⟨_, _, [0], ⟨(), trivial, rfl, (List.append_nil _).symm⟩, by simp [-List.reduceReplicate, LES]⟩
theorem c_impl_ReverseKeys_no (n c : Nat) (D : List UInt8) (hD : D.length = 8 * n) (hm : n ≤ 1048576) (h : 40 < n) : LC Tryz.prog 19 [.s 0 0 n c] [⟨false, bs D⟩] (Ret [⟨false, bs D⟩] (fun _ : Unit => True) fun _ => (.t [.c (.slice none 0 0), .c (.int .i64 (2))], [])) := by
  have f1 : decide ((n : Int) > 40) = true := decide_eq_true (by omega)
  refine LC_of (X := XX (fun _ => .nil) (fun _ => []) [33, 34, 35, 36, 39, 45, 53, 54, 65, 75, 90, 91, 92, 104] 1) envOK Tryz.func19 (by kernel_rfl) (by kernel_rfl) rfl (Nat.le_of_ble_eq_true (by kernel_rfl)) ?_
  simp only [kFun, Tryz.f19, List.length_nil, List.length_cons, Nat.sub_zero, Nat.reduceSub, Nat.reduceAdd, List.nil_append, List.cons_append, List.replicate_succ, List.replicate_zero]
  simp only [XX, ↓VC, VP, TT, Nat.reduceEqDiff, reduceCtorEq, Nat.reduceAdd, Nat.reduceSub, Nat.reduceLT, Nat.reduceMul, Nat.reducePow, Nat.reduceLeDiff, Int.reduceToNat, Int.reduceLE, Int.reduceLT, Int.reducePow, f1]
  try refine ⟨fun _ => ?_, fun h => absurd (show (n : Int) > 40 by omega) h⟩
  exact ⟨_, _, [0], ⟨(), trivial, rfl, (List.append_nil _).symm⟩, by simp [-List.reduceReplicate, LES]⟩
theorem c_CloneHo (c : Nat) : LC Tryz.prog 52 [.s 0 0 0 c] [⟨false, bs []⟩] (Ret [⟨false, bs []⟩] (fun _ : Option Nat => True) fun o => match o with | some r => (.s 1 0 0 (0 + r), [⟨true, bs [] ++ List.replicate (8 * r) .j⟩]) | none => (.c (.slice none 0 0), [])) := by
  refine LC_of (X := XX (fun _ => .nil) (fun _ => []) [33, 34, 35, 36, 39, 45, 53, 54, 65, 75, 90, 91, 92, 104] 1) envOK Tryz.func52 (by kernel_rfl) (by kernel_rfl) rfl (Nat.le_of_ble_eq_true (by kernel_rfl)) ?_
  simp only [kFun, Tryz.f52, List.length_nil, List.length_cons, Nat.sub_zero, Nat.reduceSub, Nat.reduceAdd, List.nil_append, List.cons_append, List.replicate_succ, List.replicate_zero]
  simp only [XX, ↓VC, VP, TT, Nat.reduceEqDiff, reduceCtorEq, Nat.reduceAdd, Nat.reduceSub, Nat.reduceLT, Nat.reduceMul, Nat.reducePow, Nat.reduceLeDiff, Int.reduceToNat, Int.reduceLE, Int.reduceLT, Int.reducePow]
  refine fun b hb => ⟨fun h => ?_, fun h => ⟨.inl trivial, .inl trivial, fun r c' hc' => ?_⟩⟩
  · exact ⟨_, _, [0], ⟨none, trivial, rfl, (List.append_nil _).symm⟩, by simp [-List.reduceReplicate, LES]⟩
  · obtain rfl : r = 8 * c' := by omega
    exact ⟨_, _, [0, 2], ⟨some c', trivial, rfl, rfl⟩, by simp [-List.reduceReplicate, LES, -List.reduceReplicate, bs_nil, renL_room, okL_room]⟩
theorem c_CloneH0 (c : Nat) : LC Tryz.prog 52 [.s 0 0 0 c] [⟨false, bs []⟩] (Ret [⟨false, bs []⟩] (fun _ : Nat => True) fun r => (.s 1 0 0 (0 + r), [⟨true, bs [] ++ List.replicate (8 * r) .j⟩])) := by
  refine LC_nil (c_CloneHo c) fun o _ => ?_
  cases o with
  | some r => exact ⟨r, trivial, by simp [nilV], [], by simp, by simp⟩
  | none => exact ⟨0, trivial, by simp [nilV], [⟨true, []⟩], by simp [bs_nil], by simp⟩
theorem c_ReverseH0 (c r : Nat) : LC Tryz.prog 53 [.s 0 0 0 c] [⟨true, bs [] ++ List.replicate r .j⟩] (RetM (fun _ : Unit => True) fun _ => (.t [], [⟨true, bs [] ++ List.replicate r .j⟩], [])) := by
  have w0 : IntKind.i64.wrap (((0 : Nat) : Int) - 1) = -1 := by rw [wrap_i64 (by omega) (by omega)]; rfl
  refine LC_of (X := XX (fun | 3 => .one 0 (.one 1 (.one 2 (.one 3 (.one 4 (.one 5 (.one 6 (.one 7 (.one 8 (.one 9 (.one 10 (.one 11 (.one 12 (.one 13 (.one 14 (.one 15 .nil))))))))))))))) | _ => .nil) (fun _ => []) [33, 34, 35, 36, 39, 45, 53, 54, 65, 75, 90, 91, 92, 104] 1) envOK Tryz.func53 (by kernel_rfl) (by kernel_rfl) rfl (Nat.le_of_ble_eq_true (by kernel_rfl)) ?_
  simp only [kFun, Tryz.f53, List.length_nil, List.length_cons, Nat.sub_zero, Nat.reduceSub, Nat.reduceAdd, List.nil_append, List.cons_append, List.replicate_succ, List.replicate_zero]
  simp only [XX, ↓VC, VP, TT, Nat.reduceEqDiff, reduceCtorEq, Nat.reduceAdd, Nat.reduceSub, Nat.reduceLT, Nat.reduceMul, Nat.reducePow, Nat.reduceLeDiff, Int.reduceToNat, Int.reduceLE, Int.reduceLT, Int.reducePow, w0]
  refine kLoop_of (fun _ : Unit => ([.j, .j, .c (.int .i64 (0)), .c (.int .i64 (-1)), .j, .j, .j, .j, .j, .j, .j, .j, .j, .j, .j, .j, .j, .j, .j, .j, .j, .j, .j, .j, .j, .j, .j, .j], [⟨true, bs [] ++ List.replicate r .j⟩])) (fun _ => 0) (fun _ => True) () trivial ⟨[0], by simp [-List.reduceReplicate, LES, renL_room, okL_room]⟩ ?_
  intro _ _
  simp only [↓VC, VP, TT, Nat.reduceEqDiff, reduceCtorEq, Nat.reduceAdd, Nat.reduceSub, Nat.reduceLT, Nat.reduceMul, Nat.reducePow, Nat.reduceLeDiff, Int.reduceToNat, Int.reduceLE, Int.reduceLT, Int.reducePow, show ((0 : Int) < -1) = False from eq_false (by decide), decide_false]
  exact ⟨_, _, [0], ⟨(), trivial, rfl, rfl⟩, by simp [-List.reduceReplicate, LES, renL_room, okL_room]⟩
theorem c_impl_ReverseKeys0 (c : Nat) : LC Tryz.prog 19 [.s 0 0 0 c] [⟨false, bs []⟩] (Ret [⟨false, bs []⟩] (fun _ : Nat => True) fun r => (.t [.s 1 0 0 (0 + r), .c (.int .i64 (0))], [⟨true, bs [] ++ List.replicate (8 * r) .j⟩])) := by
  have f1 : decide (((0 : Nat) : Int) > 40) = false := decide_eq_false (by omega)
  refine LC_of (X := XX (fun _ => .nil) (fun _ => []) [33, 34, 35, 36, 39, 45, 53, 54, 65, 75, 90, 91, 92, 104] 1) envOK Tryz.func19 (by kernel_rfl) (by kernel_rfl) rfl (Nat.le_of_ble_eq_true (by kernel_rfl)) ?_
  simp only [kFun, Tryz.f19, List.length_nil, List.length_cons, Nat.sub_zero, Nat.reduceSub, Nat.reduceAdd, List.nil_append, List.cons_append, List.replicate_succ, List.replicate_zero]
  simp only [XX, ↓VC, VP, TT, Nat.reduceEqDiff, reduceCtorEq, Nat.reduceAdd, Nat.reduceSub, Nat.reduceLT, Nat.reduceMul, Nat.reducePow, Nat.reduceLeDiff, Int.reduceToNat, Int.reduceLE, Int.reduceLT, Int.reducePow, f1]
  try refine ⟨fun h => (by omega), fun _ => ?_⟩
  refine kCall_Ret (c_CloneH0 c) (by rfl) [(0, 0)] (by simp [CALL, SCB, n_inst, n_ok]) (by simp [CALL, SCB, n_inst, n_ok]) (by simp [CALL, SCB, n_inst, n_ok]) (by simp [okL_bs, okL_room, okL, okV, n_inst, n_ok]) (by simp [CALL, SCB, n_inst, n_ok]) fun r _ => ?_
  simp (config := { maxSteps := 2000000 }) only [CALL, ↓VC, VP, TT, Nat.reduceEqDiff, reduceCtorEq, Nat.reduceAdd, Nat.reduceSub, Nat.reduceLT, Nat.reduceMul, Nat.reducePow, Nat.reduceLeDiff, Int.reduceToNat, Int.reduceLE, Int.reduceLT, Int.reducePow, GOB, n_inst]
  refine kCall_M (c_ReverseH0 (0 + r) (8 * r)) (by rfl) [(1, 0)] (by simp [CALL, SCB, n_inst, n_ok, instL_room, okL_room]) (by simp [CALL, SCB, n_inst, n_ok, instL_room, okL_room]) (by simp) (by simp [CALL, SCB, n_inst, n_ok, instL_room, okL_room]) (by simp [okL_bs, okL_room, okL, okV, n_inst, n_ok, instL_room, okL_room]) (by intro x hx; simp [keepR, bs_length]) (by simp [CALL, SCB, n_inst, n_ok, instL_room, okL_room]) fun L hL => ?_
  simp (config := { maxSteps := 2000000 }) only [CALL, ↓VC, VP, TT, Nat.reduceEqDiff, reduceCtorEq, Nat.reduceAdd, Nat.reduceSub, Nat.reduceLT, Nat.reduceMul, Nat.reducePow, Nat.reduceLeDiff, Int.reduceToNat, Int.reduceLE, Int.reduceLT, Int.reducePow, GOB, n_inst]
  exact ⟨_, _, [0, 1], ⟨r, trivial, rfl, rfl⟩, by simp [-List.reduceReplicate, LES, renL_room, okL_room]⟩
theorem two_ReverseKeys (n c : Nat) (D : List UInt8) (hD : D.length = 8 * n) (hc : n ≤ c) (hm : n ≤ 1048576) : ∃ (R : List UInt8) (q : Nat) (e : Int), R.length = 8 * q ∧ q ≤ 40 ∧
    LC Tryz.prog 20 [.s 0 0 n c] [⟨false, bs D⟩] (Ret [⟨false, bs D⟩] (fun _ : Nat => True) fun r => (.t [.s 1 0 q (q + r), .c (.int .i64 (e))], [⟨true, bs R ++ List.replicate (8 * r) .j⟩])) ∧
    LC Tryz.prog 19 [.s 0 0 n c] [⟨false, bs D⟩] (Ret [⟨false, bs D⟩] (fun _ : Nat => True) fun r => (.t [.s 1 0 q (q + r), .c (.int .i64 (e))], [⟨true, bs R ++ List.replicate (8 * r) .j⟩])) := by
  rcases Nat.lt_or_ge 40 n with h | h
  · have hu : ∀ u : Unit, True → ∃ y : Nat, True ∧ nilV (V.t [.c (.slice none 0 0), .c (.int .i64 (2))]) (V.t [.s 1 0 0 (0 + y), .c (.int .i64 (2))]) ∧ ∃ ex, ([⟨true, bs [] ++ List.replicate (8 * y) .j⟩] : List Blk) = [] ++ ex ∧ ∀ b ∈ ex, b.cells = [] :=
      fun _ _ => ⟨0, trivial, by simp [nilV, nilVs], [⟨true, []⟩], by simp [bs_nil], by simp⟩
    exact ⟨[], 0, 2, rfl, by omega, LC_nil (c_spec_ReverseKeys_no n c D hD hm h) hu, LC_nil (c_impl_ReverseKeys_no n c D hD hm h) hu⟩
  · refine ⟨revK D n n, n, 0, revK_len hD n (Nat.le_refl _), h, c_spec_ReverseKeys n c D hD hc h, ?_⟩
    rcases Nat.eq_zero_or_pos n with rfl | h0
    · obtain rfl : D = [] := List.eq_nil_of_length_eq_zero (by omega)
      exact c_impl_ReverseKeys0 c
    · refine LC_nil (c_impl_ReverseKeys n c D hD hc h h0) fun x hx => ?_
      obtain ⟨R, r⟩ := x
      obtain ⟨hR, hRD⟩ := hx
      simp only at hR hRD
      obtain rfl : R = revK D n n := hf_ext hR (revK_len hD n (Nat.le_refl _)) fun i hi => by rw [hRD i hi, revK_at hD n (Nat.le_refl _) i hi]
      exact ⟨r, trivial, by simp [nilV, nilVs], [], by simp, by simp⟩
/-! Keys out of a block. -/
def kyN (b : List UInt8) (i : Nat) : List UInt8 := (if i % 2 = 1 then b.drop 8 else b.take 8).set 0 ((if i % 2 = 1 then b.drop 8 else b.take 8).getD 0 0 ^^^ UInt8.ofInt (i : Int))
def kysN (b : List UInt8) : Nat → List UInt8
  | 0 => []
  | i + 1 => kysN b i ++ kyN b i
theorem kyN_len {b : List UInt8} (hb : b.length = 16) (i : Nat) : (kyN b i).length = 8 := by
  unfold kyN; rw [List.length_set]; split
  · exact drop8_len hb
  · exact take8_len hb
theorem kysN_len {b : List UInt8} (hb : b.length = 16) : ∀ i, (kysN b i).length = 8 * i
  | 0 => rfl
  | i + 1 => by rw [kysN, List.length_append, kysN_len hb i, kyN_len hb]; omega
theorem xor8v (u v : UInt8) : bitI .xor .u8 (u.toNat : Int) (v.toNat : Int) = ((u ^^^ v).toNat : Int) := by
  have := bitI_u8 .xor u v
  rw [this]
section
variable (c : Net) (b : List UInt8) (hb : b.length = 16)
include hb
theorem k_spec_Keys : LC Tryz.prog 51 [.a c.cells, .a (bs b)] [] (Ret [] (fun _ : Nat => True) fun r => (.s 0 0 c.n (c.n + r), [⟨true, bs (kysN b c.n) ++ List.replicate (8 * r) .j⟩])) := by
  have ht := take8_len hb
  have hd := drop8_len hb
  have hn := c.hn
  refine LC_of (X := XX (fun _ => .nil) (fun _ => []) [33, 34, 35, 36, 39, 45, 53, 54, 65, 75, 90, 91, 92, 104] 0) envOK Tryz.func51 (by kernel_rfl) (by kernel_rfl) rfl (Nat.le_of_ble_eq_true (by kernel_rfl)) ?_
  simp only [kFun, Tryz.f51, List.length_nil, List.length_cons, Nat.sub_zero, Nat.reduceSub, Nat.reduceAdd, List.nil_append, List.cons_append, List.replicate_succ, List.replicate_zero]
  simp only [XX, ↓VC, VP, TT, Nat.reduceEqDiff, reduceCtorEq, Nat.reduceAdd, Nat.reduceSub, Nat.reduceLT, Nat.reduceMul, Nat.reducePow, Nat.reduceLeDiff, Int.reduceToNat, Int.reduceLE, Int.reduceLT, Int.reducePow, n_len, ↓n_all, hb]
  refine kCall_val (c_spec_l06Halves b hb) (by rfl) [] (by simp [CALL, SCB, n_inst, n_ok]) (by simp [CALL, SCB, n_inst, n_ok]) (by simp [CALL, SCB, n_inst, n_ok]) (by simp [okL_bs, okL_room, okL, okV, n_inst, n_ok]) ?_
  simp (config := { maxSteps := 2000000 }) only [CALL, ↓VC, VP, TT, Nat.reduceEqDiff, reduceCtorEq, Nat.reduceAdd, Nat.reduceSub, Nat.reduceLT, Nat.reduceMul, Nat.reducePow, Nat.reduceLeDiff, Int.reduceToNat, Int.reduceLE, Int.reduceLT, Int.reducePow, GOB, n_inst, n_inst, n_len, ↓n_all, hb, ht, hd]
  refine kLoop_of (fun s : Nat × Nat => ([.j, .j, .p 0 0, .p 1 0, .j, .p 2 0, .p 3 0, .s 4 0 s.1 (s.1 + s.2), .c (.int .i64 (s.1)), .j, .j, .j, .j, .j, .j, .j, .j, .j, .j, .j, .j, .j, .j, .j, .j, .j, .j, .j, .j, .j, .j, .j, .j, .j, .j, .j, .j, .j], [⟨true, c.cells⟩, ⟨true, bs b⟩, ⟨true, bs (b.take 8)⟩, ⟨true, bs (b.drop 8)⟩, ⟨true, bs (kysN b s.1) ++ List.replicate (8 * s.2) .j⟩])) (fun s => c.n - s.1) (fun s => s.1 ≤ c.n) (0, 0) (by simp) ⟨[0, 1, 2, 3, 4], by simp [-List.reduceReplicate, LES, kysN, bs_nil, n_ren, n_ok]⟩ ?_
  rintro ⟨i, r⟩ hi
  simp only at hi
  have hL := kysN_len hb i
  rcases Nat.lt_or_ge i c.n with h | h
  · have hky := kyN_len hb i
    have w1 : IntKind.i64.wrap ((i : Int) + 1) = ((i + 1 : Nat) : Int) := by rw [wrap_i64 (by omega) (by omega)]; omega
    have w2 : (i : Int).tmod 2 = ((i % 2 : Nat) : Int) := by rw [Int.tmod_eq_emod_of_nonneg (by omega)]; omega
    have hput1 : ∀ kl : List V → Prop, vPut (bs (List.replicate 8 0)) 0 (bs (b.take 8)) kl = kl (bs (b.take 8)) := fun kl => vPut_all (by rw [bs_length, bs_length, ht, List.length_replicate])
    have hput2 : ∀ kl : List V → Prop, vPut (bs (b.take 8)) 0 (bs (b.drop 8)) kl = kl (bs (b.drop 8)) := fun kl => vPut_all (by rw [bs_length, bs_length, ht, hd])
    have hT : ∀ X, List.take (i * 8) (bs (kysN b i) ++ X) = bs (kysN b i) := fun X => by rw [List.take_append_of_le_length (by rw [bs_length]; omega), List.take_of_length_le (by rw [bs_length]; omega)]
    have eR : (List.replicate 1 (bs (List.replicate 8 0))).flatten = bs (List.replicate 8 0) := rfl
    by_cases hp : i % 2 = 1
    · have f2 : (((i % 2 : Nat) : Int) == 1) = true := by rw [beq_iff_eq]; omega
      have ek : kyN b i = (b.drop 8).set 0 ((b.drop 8).getD 0 0 ^^^ UInt8.ofInt (i : Int)) := by unfold kyN; rw [if_pos hp]
      simp only [↓VC, VP, TT, Nat.reduceEqDiff, reduceCtorEq, Nat.reduceAdd, Nat.reduceSub, Nat.reduceLT, Nat.reduceMul, Nat.reducePow, Nat.reduceLeDiff, Int.reduceToNat, Int.reduceLE, Int.reduceLT, Int.reducePow, ↓n_rd, (eq_true (by omega) : ((i : Int) < (c.n : Int)) = True), decide_true, ↓hput1, ↓hput2, ht, hd, w1, w2, f2, hT, eR, wrap_u8, xor8v]
      refine ⟨by decide, ?_⟩
      repeat (first | refine ⟨by omega, ?_⟩ | refine ⟨.inr (by omega), ?_⟩ | refine ⟨.inr trivial, ?_⟩)
      intro r1 c' e1 e2
      refine ⟨(i + 1, c' - (i + 1)), by simp only; omega, by simp only; omega, [0, 1, 2, 3, 7], ?_⟩
      obtain rfl : r1 = 8 * (c' - (i + 1)) := by omega
      simp [-List.reduceReplicate, LES, -List.reduceReplicate, -List.getD_eq_getElem?_getD, n_ren, n_ok, renL_room, okL_room, kysN, ek, ← bs_append, show i + 1 + (c' - (i + 1)) = c' by omega]
    · have f2 : (((i % 2 : Nat) : Int) == 1) = false := by rw [beq_eq_false_iff_ne]; omega
      have ek : kyN b i = (b.take 8).set 0 ((b.take 8).getD 0 0 ^^^ UInt8.ofInt (i : Int)) := by unfold kyN; rw [if_neg hp]
      simp only [↓VC, VP, TT, Nat.reduceEqDiff, reduceCtorEq, Nat.reduceAdd, Nat.reduceSub, Nat.reduceLT, Nat.reduceMul, Nat.reducePow, Nat.reduceLeDiff, Int.reduceToNat, Int.reduceLE, Int.reduceLT, Int.reducePow, ↓n_rd, (eq_true (by omega) : ((i : Int) < (c.n : Int)) = True), decide_true, ↓hput1, ↓hput2, ht, hd, w1, w2, f2, hT, eR, wrap_u8, xor8v]
      refine ⟨by decide, ?_⟩
      repeat (first | refine ⟨by omega, ?_⟩ | refine ⟨.inr (by omega), ?_⟩ | refine ⟨.inr trivial, ?_⟩)
      intro r1 c' e1 e2
      refine ⟨(i + 1, c' - (i + 1)), by simp only; omega, by simp only; omega, [0, 1, 2, 3, 7], ?_⟩
      obtain rfl : r1 = 8 * (c' - (i + 1)) := by omega
      simp [-List.reduceReplicate, LES, -List.reduceReplicate, -List.getD_eq_getElem?_getD, n_ren, n_ok, renL_room, okL_room, kysN, ek, ← bs_append, show i + 1 + (c' - (i + 1)) = c' by omega]
  · obtain rfl : i = c.n := by omega
    simp only [↓VC, VP, TT, Nat.reduceEqDiff, reduceCtorEq, Nat.reduceAdd, Nat.reduceSub, Nat.reduceLT, Nat.reduceMul, Nat.reducePow, Nat.reduceLeDiff, Int.reduceToNat, Int.reduceLE, Int.reduceLT, Int.reducePow, ↓n_rd, (eq_false (by omega) : ((c.n : Int) < (c.n : Int)) = False), decide_false]
    exact ⟨_, _, [4], ⟨r, trivial, rfl, rfl⟩, by simp [-List.reduceReplicate, LES, renL_room, okL_room]⟩
theorem k_impl_KeysOf : LC Tryz.prog 15 [.a c.cells, .a (bs b)] [] (Ret [] (fun _ : Nat => True) fun r => (.t [.s 0 0 c.n (c.n + r), .c (.int .i64 (0))], [⟨true, bs (kysN b c.n) ++ List.replicate (8 * r) .j⟩])) := by
  have ht := take8_len hb
  have hd := drop8_len hb
  have hn := c.hn
  refine LC_of (X := XX (fun _ => .nil) (fun _ => []) [33, 34, 35, 36, 39, 45, 53, 54, 65, 75, 90, 91, 92, 104] 0) envOK Tryz.func15 (by kernel_rfl) (by kernel_rfl) rfl (Nat.le_of_ble_eq_true (by kernel_rfl)) ?_
  simp only [kFun, Tryz.f15, List.length_nil, List.length_cons, Nat.sub_zero, Nat.reduceSub, Nat.reduceAdd, List.nil_append, List.cons_append, List.replicate_succ, List.replicate_zero]
  simp only [XX, ↓VC, VP, TT, Nat.reduceEqDiff, reduceCtorEq, Nat.reduceAdd, Nat.reduceSub, Nat.reduceLT, Nat.reduceMul, Nat.reducePow, Nat.reduceLeDiff, Int.reduceToNat, Int.reduceLE, Int.reduceLT, Int.reducePow, n_len, ↓n_all, hb]
  refine kCall_val (k_impl_NIs c) (by rfl) [] (by simp [CALL, SCB, n_inst, n_ok]) (by simp [CALL, SCB, n_inst, n_ok]) (by simp [CALL, SCB, n_inst, n_ok]) (by simp [okL_bs, okL_room, okL, okV, n_inst, n_ok]) ?_
  simp (config := { maxSteps := 2000000 }) only [CALL, ↓VC, VP, TT, Nat.reduceEqDiff, reduceCtorEq, Nat.reduceAdd, Nat.reduceSub, Nat.reduceLT, Nat.reduceMul, Nat.reducePow, Nat.reduceLeDiff, Int.reduceToNat, Int.reduceLE, Int.reduceLT, Int.reducePow, GOB, n_inst, n_inst, n_len, ↓n_all, hb]
  refine kCall_val (c_impl_halves b hb) (by rfl) [] (by simp [CALL, SCB, n_inst, n_ok]) (by simp [CALL, SCB, n_inst, n_ok]) (by simp [CALL, SCB, n_inst, n_ok]) (by simp [okL_bs, okL_room, okL, okV, n_inst, n_ok]) ?_
  simp (config := { maxSteps := 2000000 }) only [CALL, ↓VC, VP, TT, Nat.reduceEqDiff, reduceCtorEq, Nat.reduceAdd, Nat.reduceSub, Nat.reduceLT, Nat.reduceMul, Nat.reducePow, Nat.reduceLeDiff, Int.reduceToNat, Int.reduceLE, Int.reduceLT, Int.reducePow, GOB, n_inst, n_inst, n_len, ↓n_all, ↓n_rd, hb, ht, hd]
  refine kLoop_of (fun s : Nat × Nat => ([.j, .j, .j, .j, .j, .c (.int .i64 (0)), .p 2 0, .p 3 0, .s 4 0 s.1 (s.1 + s.2), .j, .j, .j, .j, .j, .j, .j, .j, .j, .j, .j, .j, .c (.int .i64 (c.n)), .c (.int .i64 (s.1)), .j, .j, .j, .j, .j, .j, .j, .j, .j, .j, .j, .j, .j, .j, .j, .j, .j, .j, .j], [⟨true, c.cells⟩, ⟨true, bs b⟩, ⟨true, bs (b.take 8)⟩, ⟨true, bs (b.drop 8)⟩, ⟨true, bs (kysN b s.1) ++ List.replicate (8 * s.2) .j⟩])) (fun s => c.n - s.1) (fun s => s.1 ≤ c.n) (0, 0) (by simp) ⟨[0, 1, 2, 3, 4], by simp [-List.reduceReplicate, LES, kysN, bs_nil, n_ren, n_ok]⟩ ?_
  rintro ⟨i, r⟩ hi
  simp only at hi
  have hL := kysN_len hb i
  rcases Nat.lt_or_ge i c.n with h | h
  · have hky := kyN_len hb i
    have w1 : IntKind.i64.wrap ((i : Int) + 1) = ((i + 1 : Nat) : Int) := by rw [wrap_i64 (by omega) (by omega)]; omega
    have w2 : (i : Int).tmod 2 = ((i % 2 : Nat) : Int) := by rw [Int.tmod_eq_emod_of_nonneg (by omega)]; omega
    have hput1 : ∀ kl : List V → Prop, vPut (bs (List.replicate 8 0)) 0 (bs (b.take 8)) kl = kl (bs (b.take 8)) := fun kl => vPut_all (by rw [bs_length, bs_length, ht, List.length_replicate])
    have hput2 : ∀ kl : List V → Prop, vPut (bs (b.take 8)) 0 (bs (b.drop 8)) kl = kl (bs (b.drop 8)) := fun kl => vPut_all (by rw [bs_length, bs_length, ht, hd])
    have hT : ∀ X, List.take (i * 8) (bs (kysN b i) ++ X) = bs (kysN b i) := fun X => by rw [List.take_append_of_le_length (by rw [bs_length]; omega), List.take_of_length_le (by rw [bs_length]; omega)]
    have eR : (List.replicate 1 (bs (List.replicate 8 0))).flatten = bs (List.replicate 8 0) := rfl
    by_cases hp : i % 2 = 1
    · have f2 : (((i % 2 : Nat) : Int) == 1) = true := by rw [beq_iff_eq]; omega
      have ek : kyN b i = (b.drop 8).set 0 ((b.drop 8).getD 0 0 ^^^ UInt8.ofInt (i : Int)) := by unfold kyN; rw [if_pos hp]
      simp only [↓VC, VP, TT, Nat.reduceEqDiff, reduceCtorEq, Nat.reduceAdd, Nat.reduceSub, Nat.reduceLT, Nat.reduceMul, Nat.reducePow, Nat.reduceLeDiff, Int.reduceToNat, Int.reduceLE, Int.reduceLT, Int.reducePow, ↓n_rd, (eq_true (by omega) : ((i : Int) < (c.n : Int)) = True), decide_true, ↓hput1, ↓hput2, ht, hd, w1, w2, f2, hT, eR, wrap_u8, xor8v]
      refine ⟨by decide, ?_⟩
      repeat (first | refine ⟨by omega, ?_⟩ | refine ⟨.inr (by omega), ?_⟩ | refine ⟨.inr trivial, ?_⟩)
      intro r1 c' e1 e2
      refine ⟨(i + 1, c' - (i + 1)), by simp only; omega, by simp only; omega, [0, 1, 2, 3, 7], ?_⟩
      obtain rfl : r1 = 8 * (c' - (i + 1)) := by omega
      simp [-List.reduceReplicate, LES, -List.reduceReplicate, -List.getD_eq_getElem?_getD, n_ren, n_ok, renL_room, okL_room, kysN, ek, ← bs_append, show i + 1 + (c' - (i + 1)) = c' by omega]
    · have f2 : (((i % 2 : Nat) : Int) == 1) = false := by rw [beq_eq_false_iff_ne]; omega
      have ek : kyN b i = (b.take 8).set 0 ((b.take 8).getD 0 0 ^^^ UInt8.ofInt (i : Int)) := by unfold kyN; rw [if_neg hp]
      simp only [↓VC, VP, TT, Nat.reduceEqDiff, reduceCtorEq, Nat.reduceAdd, Nat.reduceSub, Nat.reduceLT, Nat.reduceMul, Nat.reducePow, Nat.reduceLeDiff, Int.reduceToNat, Int.reduceLE, Int.reduceLT, Int.reducePow, ↓n_rd, (eq_true (by omega) : ((i : Int) < (c.n : Int)) = True), decide_true, ↓hput1, ↓hput2, ht, hd, w1, w2, f2, hT, eR, wrap_u8, xor8v]
      refine ⟨by decide, ?_⟩
      repeat (first | refine ⟨by omega, ?_⟩ | refine ⟨.inr (by omega), ?_⟩ | refine ⟨.inr trivial, ?_⟩)
      intro r1 c' e1 e2
      refine ⟨(i + 1, c' - (i + 1)), by simp only; omega, by simp only; omega, [0, 1, 2, 3, 7], ?_⟩
      obtain rfl : r1 = 8 * (c' - (i + 1)) := by omega
      simp [-List.reduceReplicate, LES, -List.reduceReplicate, -List.getD_eq_getElem?_getD, n_ren, n_ok, renL_room, okL_room, kysN, ek, ← bs_append, show i + 1 + (c' - (i + 1)) = c' by omega]
  · obtain rfl : i = c.n := by omega
    simp only [↓VC, VP, TT, Nat.reduceEqDiff, reduceCtorEq, Nat.reduceAdd, Nat.reduceSub, Nat.reduceLT, Nat.reduceMul, Nat.reducePow, Nat.reduceLeDiff, Int.reduceToNat, Int.reduceLE, Int.reduceLT, Int.reducePow, ↓n_rd, (eq_false (by omega) : ((c.n : Int) < (c.n : Int)) = False), decide_false]
    exact ⟨_, _, [4], ⟨r, trivial, rfl, rfl⟩, by simp [-List.reduceReplicate, LES, renL_room, okL_room]⟩
theorem k_spec_KeysOf : LC Tryz.prog 16 [.a c.cells, .a (bs b)] [] (Ret [] (fun _ : Nat => True) fun r => (.t [.s 0 0 c.n (c.n + r), .c (.int .i64 (0))], [⟨true, bs (kysN b c.n) ++ List.replicate (8 * r) .j⟩])) := by
  refine LC_of (X := XX (fun _ => .nil) (fun _ => []) [33, 34, 35, 36, 39, 45, 53, 54, 65, 75, 90, 91, 92, 104] 0) envOK Tryz.func16 (by kernel_rfl) (by kernel_rfl) rfl (Nat.le_of_ble_eq_true (by kernel_rfl)) ?_
  simp only [kFun, Tryz.f16, List.length_nil, List.length_cons, Nat.sub_zero, Nat.reduceSub, Nat.reduceAdd, List.nil_append, List.cons_append, List.replicate_succ, List.replicate_zero]
  simp only [XX, ↓VC, VP, TT, Nat.reduceEqDiff, reduceCtorEq, Nat.reduceAdd, Nat.reduceSub, Nat.reduceLT, Nat.reduceMul, Nat.reducePow, Nat.reduceLeDiff, Int.reduceToNat, Int.reduceLE, Int.reduceLT, Int.reducePow, n_len, ↓n_all, hb]
  refine kCall_val (k_spec_NIs c) (by rfl) [] (by simp [CALL, SCB, n_inst, n_ok]) (by simp [CALL, SCB, n_inst, n_ok]) (by simp [CALL, SCB, n_inst, n_ok]) (by simp [okL_bs, okL_room, okL, okV, n_inst, n_ok]) ?_
  simp (config := { maxSteps := 2000000 }) only [CALL, ↓VC, VP, TT, Nat.reduceEqDiff, reduceCtorEq, Nat.reduceAdd, Nat.reduceSub, Nat.reduceLT, Nat.reduceMul, Nat.reducePow, Nat.reduceLeDiff, Int.reduceToNat, Int.reduceLE, Int.reduceLT, Int.reducePow, GOB, n_inst, n_inst, n_len, ↓n_all, hb]
  refine kCall_Ret (k_spec_Keys c b hb) (by rfl) [] (by simp [CALL, SCB, n_inst, n_ok]) (by simp [CALL, SCB, n_inst, n_ok]) (by simp [CALL, SCB, n_inst, n_ok]) (by simp [okL_bs, okL_room, okL, okV, n_inst, n_ok]) (by simp [CALL, SCB, n_inst, n_ok]) fun r _ => ?_
  simp (config := { maxSteps := 2000000 }) only [CALL, ↓VC, VP, TT, Nat.reduceEqDiff, reduceCtorEq, Nat.reduceAdd, Nat.reduceSub, Nat.reduceLT, Nat.reduceMul, Nat.reducePow, Nat.reduceLeDiff, Int.reduceToNat, Int.reduceLE, Int.reduceLT, Int.reducePow, GOB, n_inst, n_inst, n_len, ↓n_all, hb]
  exact ⟨_, _, [2], ⟨r, trivial, rfl, rfl⟩, by simp [-List.reduceReplicate, LES, renL_room, okL_room]⟩
end
theorem c_spec_KeysOf_no (z k n : Int) (box A b : List UInt8) (hbx : box.length = 256) (hA : A.length = 16) (hb : b.length = 16) (hn : netB z box A k n = false) : LC Tryz.prog 16 [.a (netC z box A k n), .a (bs b)] [] (Ret [] (fun _ : Unit => True) fun _ => (.t [.c (.slice none 0 0), .c (.int .i64 (1))], [])) := by
  refine LC_of (X := XX (fun _ => .nil) (fun _ => []) [33, 34, 35, 36, 39, 45, 53, 54, 65, 75, 90, 91, 92, 104] 0) envOK Tryz.func16 (by kernel_rfl) (by kernel_rfl) rfl (Nat.le_of_ble_eq_true (by kernel_rfl)) ?_
  simp only [kFun, Tryz.f16, List.length_nil, List.length_cons, Nat.sub_zero, Nat.reduceSub, Nat.reduceAdd, List.nil_append, List.cons_append, List.replicate_succ, List.replicate_zero]
  simp only [XX, ↓VC, VP, TT, Nat.reduceEqDiff, reduceCtorEq, Nat.reduceAdd, Nat.reduceSub, Nat.reduceLT, Nat.reduceMul, Nat.reducePow, Nat.reduceLeDiff, Int.reduceToNat, Int.reduceLE, Int.reduceLT, Int.reducePow, netC_len hbx hA, ↓net_all hbx hA, hb]
  refine kCall_val (c_spec_l06Is z k n box A hbx hA) (by rfl) [] (by simp [CALL, SCB, n_inst, n_ok, instL_net, okL_net]) (by simp [CALL, SCB, n_inst, n_ok, instL_net, okL_net]) (by simp [CALL, SCB, n_inst, n_ok, instL_net, okL_net]) (by simp [okL_bs, okL_room, okL, okV, n_inst, n_ok, instL_net, okL_net]) ?_
  simp (config := { maxSteps := 2000000 }) only [CALL, ↓VC, VP, TT, Nat.reduceEqDiff, reduceCtorEq, Nat.reduceAdd, Nat.reduceSub, Nat.reduceLT, Nat.reduceMul, Nat.reducePow, Nat.reduceLeDiff, Int.reduceToNat, Int.reduceLE, Int.reduceLT, Int.reducePow, GOB, n_inst, instL_net, netC_len hbx hA, ↓net_all hbx hA, hb]
  refine ⟨fun h => ?_, fun h => ?_⟩
  · exact ⟨_, _, [], ⟨(), trivial, rfl, (List.append_nil _).symm⟩, by simp [-List.reduceReplicate, LES]⟩
  · rw [hn] at h; cases h
theorem c_impl_KeysOf_no (z k n : Int) (box A b : List UInt8) (hbx : box.length = 256) (hA : A.length = 16) (hb : b.length = 16) (hn : netB z box A k n = false) : LC Tryz.prog 15 [.a (netC z box A k n), .a (bs b)] [] (Ret [] (fun _ : Unit => True) fun _ => (.t [.c (.slice none 0 0), .c (.int .i64 (1))], [])) := by
  refine LC_of (X := XX (fun _ => .nil) (fun _ => []) [33, 34, 35, 36, 39, 45, 53, 54, 65, 75, 90, 91, 92, 104] 0) envOK Tryz.func15 (by kernel_rfl) (by kernel_rfl) rfl (Nat.le_of_ble_eq_true (by kernel_rfl)) ?_
  simp only [kFun, Tryz.f15, List.length_nil, List.length_cons, Nat.sub_zero, Nat.reduceSub, Nat.reduceAdd, List.nil_append, List.cons_append, List.replicate_succ, List.replicate_zero]
  simp only [XX, ↓VC, VP, TT, Nat.reduceEqDiff, reduceCtorEq, Nat.reduceAdd, Nat.reduceSub, Nat.reduceLT, Nat.reduceMul, Nat.reducePow, Nat.reduceLeDiff, Int.reduceToNat, Int.reduceLE, Int.reduceLT, Int.reducePow, netC_len hbx hA, ↓net_all hbx hA, hb]
  refine kCall_val (c_impl_IsNetwork z k n box A hbx hA) (by rfl) [] (by simp [CALL, SCB, n_inst, n_ok, instL_net, okL_net]) (by simp [CALL, SCB, n_inst, n_ok, instL_net, okL_net]) (by simp [CALL, SCB, n_inst, n_ok, instL_net, okL_net]) (by simp [okL_bs, okL_room, okL, okV, n_inst, n_ok, instL_net, okL_net]) ?_
  simp (config := { maxSteps := 2000000 }) only [CALL, ↓VC, VP, TT, Nat.reduceEqDiff, reduceCtorEq, Nat.reduceAdd, Nat.reduceSub, Nat.reduceLT, Nat.reduceMul, Nat.reducePow, Nat.reduceLeDiff, Int.reduceToNat, Int.reduceLE, Int.reduceLT, Int.reducePow, GOB, n_inst, instL_net, netC_len hbx hA, ↓net_all hbx hA, hb]
  refine ⟨fun h => ?_, fun h => ?_⟩
  · exact ⟨_, _, [], ⟨(), trivial, rfl, (List.append_nil _).symm⟩, by simp [-List.reduceReplicate, LES]⟩
  · rw [hn] at h; cases h
theorem two_KeysOf (z k n : Int) (box A b : List UInt8) (hbx : box.length = 256) (hA : A.length = 16) (hb : b.length = 16) : ∃ (R : List UInt8) (q : Nat) (e : Int), R.length = 8 * q ∧ q ≤ 40 ∧
    LC Tryz.prog 16 [.a (netC z box A k n), .a (bs b)] [] (Ret [] (fun _ : Nat => True) fun r => (.t [.s 0 0 q (q + r), .c (.int .i64 (e))], [⟨true, bs R ++ List.replicate (8 * r) .j⟩])) ∧
    LC Tryz.prog 15 [.a (netC z box A k n), .a (bs b)] [] (Ret [] (fun _ : Nat => True) fun r => (.t [.s 0 0 q (q + r), .c (.int .i64 (e))], [⟨true, bs R ++ List.replicate (8 * r) .j⟩])) := by
  cases hn : netB z box A k n with
  | false =>
    have hu : ∀ u : Unit, True → ∃ y : Nat, True ∧ nilV (V.t [.c (.slice none 0 0), .c (.int .i64 (1))]) (V.t [.s 0 0 0 (0 + y), .c (.int .i64 (1))]) ∧ ∃ ex, ([⟨true, bs [] ++ List.replicate (8 * y) .j⟩] : List Blk) = [] ++ ex ∧ ∀ b ∈ ex, b.cells = [] :=
      fun _ _ => ⟨0, trivial, by simp [nilV, nilVs], [⟨true, []⟩], by simp [bs_nil], by simp⟩
    exact ⟨[], 0, 1, rfl, by omega, LC_nil (c_spec_KeysOf_no z k n box A b hbx hA hb hn) hu, LC_nil (c_impl_KeysOf_no z k n box A b hbx hA hb hn) hu⟩
  | true =>
    obtain ⟨c, rfl, rfl, rfl, rfl, rfl⟩ := net_of hbx hA hn
    exact ⟨kysN b c.n, c.n, 0, kysN_len hb _, c.hn, k_spec_KeysOf c b hb, k_impl_KeysOf c b hb⟩
/-! Slices of halves that are alike. -/
theorem c_laws_halves5 (q c1 c2 : Nat) (R : List UInt8) (hR : R.length = 8 * q) (h1 : q ≤ c1) (h2 : q ≤ c2) (hq : q ≤ 1048576) : LC Tryz.prog 17 [.s 0 0 q c1, .s 1 0 q c2] [⟨false, bs R⟩, ⟨false, bs R⟩] (fun v hp => v = .c (.bool (true)) ∧ hp = [⟨false, bs R⟩, ⟨false, bs R⟩]) := by
  refine LC_of (X := XX (fun | 6 => .one 0 (.one 1 (.one 2 (.one 3 (.one 4 (.one 5 (.one 6 (.one 7 (.one 8 .nil)))))))) | _ => .nil) (fun _ => []) [33, 34, 35, 36, 39, 45, 53, 54, 65, 75, 90, 91, 92, 104] 2) envOK Tryz.func17 (by kernel_rfl) (by kernel_rfl) rfl (Nat.le_of_ble_eq_true (by kernel_rfl)) ?_
  simp only [kFun, Tryz.f17, List.length_nil, List.length_cons, Nat.sub_zero, Nat.reduceSub, Nat.reduceAdd, List.nil_append, List.cons_append, List.replicate_succ, List.replicate_zero]
  simp only [XX, ↓VC, VP, TT, Nat.reduceEqDiff, reduceCtorEq, Nat.reduceAdd, Nat.reduceSub, Nat.reduceLT, Nat.reduceMul, Nat.reducePow, Nat.reduceLeDiff, Int.reduceToNat, Int.reduceLE, Int.reduceLT, Int.reducePow, bne_self_eq_false]
  refine kLoop_of (fun i : Nat => ([.s 0 0 q c1, .s 1 0 q c2, .j, .j, .j, .c (.int .i64 (i)), .j, .j, .j, .j, .j, .j, .j, .j, .j, .j, .j, .j, .j, .j, .j, .j, .j, .j, .j, .j], [⟨false, bs R⟩, ⟨false, bs R⟩])) (fun i => q - i) (fun i => i ≤ q) 0 (by omega) ⟨[0, 1], by simp [-List.reduceReplicate, LES]⟩ ?_
  intro i hi
  rcases Nat.lt_or_ge i q with h | h
  · have hw := hfA_len hR h
    have w1 : IntKind.i64.wrap ((i : Int) + 1) = ((i + 1 : Nat) : Int) := by rw [wrap_i64 (by omega) (by omega)]; omega
    have hsub : ∀ k : V → Prop, vSub (bs R) (i * 8) 8 k = k (.a (bs (hfA R i))) := fun k => by
      have := hf_sub (X := []) hR h (k := k)
      rwa [List.append_nil] at this
    simp only [↓VC, VP, TT, Nat.reduceEqDiff, reduceCtorEq, Nat.reduceAdd, Nat.reduceSub, Nat.reduceLT, Nat.reduceMul, Nat.reducePow, Nat.reduceLeDiff, Int.reduceToNat, Int.reduceLE, Int.reduceLT, Int.reducePow, (eq_true (by omega) : ((i : Int) < (q : Int)) = True), decide_true, Int.toNat_natCast, ↓hsub, hw, w1]
    refine ⟨intCells_bs _, intCells_bs _, fun t ht => ?_⟩
    obtain rfl : t = true := ht.2 trivial
    simp only [↓VC, VP, TT, Nat.reduceEqDiff, reduceCtorEq, Nat.reduceAdd, Nat.reduceSub, Nat.reduceLT, Nat.reduceMul, Nat.reducePow, Nat.reduceLeDiff, Int.reduceToNat, Int.reduceLE, Int.reduceLT, Int.reducePow, Bool.not_true]
    exact ⟨i + 1, by omega, by omega, [0, 1], by simp [-List.reduceReplicate, LES]⟩
  · obtain rfl : i = q := by omega
    simp only [↓VC, VP, TT, Nat.reduceEqDiff, reduceCtorEq, Nat.reduceAdd, Nat.reduceSub, Nat.reduceLT, Nat.reduceMul, Nat.reducePow, Nat.reduceLeDiff, Int.reduceToNat, Int.reduceLE, Int.reduceLT, Int.reducePow, (eq_false (by omega) : ((i : Int) < (i : Int)) = False), decide_false]
    refine ⟨_, _, [0, 1], ⟨rfl, rfl⟩, ?_⟩
    simp [-List.reduceReplicate, LES] <;> rfl
end Go.Proofs.YtjakgjelnbpmnaaGreat

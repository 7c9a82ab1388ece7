import Derived.Test.YtjakgjelnbpmnaaRunB
import Derived.Test.YtjakgjelnbpmnaaNetQ
/- RunBack: both. -/
set_option linter.unusedSimpArgs false
set_option linter.unusedVariables false
namespace Go.Proofs.Ytjakgjelnbpmnaa
open Go Go.Vc
set_option maxRecDepth 10000
set_option maxHeartbeats 4000000
theorem codeN_neB {z k n : Int} {box A : List UInt8} {q : Nat} (h : ¬ (netB z box A k n = true ∧ (q : Int) = n)) : codeN z box A k n q ≠ 0 := by
  unfold codeN
  split
  · rw [if_neg (fun e => h ⟨by assumption, e⟩)]; decide
  · decide
theorem c_spec_RunBack_no (z k n : Int) (box A b : List UInt8) (hbx : box.length = 256) (hA : A.length = 16) (hb : b.length = 16) (q cp : Nat) (D : List UInt8) (hD : D.length = 8 * q) (hc : q ≤ cp) (hm : q ≤ 1048576) (hE : codeN z box A k n q ≠ 0) : LC Try.prog 9 [.a (netC z box A k n), .s 0 0 q cp, .a (bs b)] [⟨false, bs D⟩] (fun v hp => v = .t [.a (bs (List.replicate 16 0)), .c (.int .i64 (codeN z box A k n q))] ∧ hp = [⟨false, bs D⟩]) := by
  have key1 := c_spec_l06Code z k n box A hbx hA q cp D hD hc hm
  have hx : List.take (8 * q) (bs D) = bs D := List.take_of_length_le (by rw [bs_length]; omega)
  refine LC_of (X := XX (fun | 7 => .one 0 (.one 1 (.one 2 (.one 3 (.one 4 (.one 5 (.one 6 (.one 7 .nil))))))) | _ => .nil) (fun _ => []) [27, 28, 29, 44, 47, 52, 53, 54, 55, 74, 78, 88, 89, 99] 1) envOK Try.func9 (by kernel_rfl) (by kernel_rfl) rfl (Nat.le_of_ble_eq_true (by kernel_rfl)) ?_
  simp only [kFun, Try.f9, List.length_nil, List.length_cons, Nat.sub_zero, Nat.reduceSub, Nat.reduceAdd, List.nil_append, List.cons_append, List.replicate_succ, List.replicate_zero]
  simp only [XX, ↓VC, VP, TT, Nat.reduceEqDiff, reduceCtorEq, Nat.reduceAdd, Nat.reduceSub, Nat.reduceLT, Nat.reduceMul, Nat.reducePow, Nat.reduceLeDiff, Int.reduceToNat, Int.reduceLE, Int.reduceLT, Int.reducePow, netC_len hbx hA, ↓net_all hbx hA, hb]
  refine kCall_val (key1) (by rfl) [(0, 0)] (by simp [CALL, SCB, instL_net, okL_net, hx]) (by simp [CALL, SCB, instL_net, okL_net, hx]) (by simp [CALL, SCB, instL_net, okL_net, hx]) (by simp [okL_bs, okL_room, okL, okV, instL_net, okL_net, hx]) ?_
  simp (config := { maxSteps := 2000000 }) only [CALL, ↓VC, VP, TT, Nat.reduceEqDiff, reduceCtorEq, Nat.reduceAdd, Nat.reduceSub, Nat.reduceLT, Nat.reduceMul, Nat.reducePow, Nat.reduceLeDiff, Int.reduceToNat, Int.reduceLE, Int.reduceLT, Int.reducePow, GOB, instL_net, (bne_iff_ne.2 hE : (codeN z box A k n q != 0) = true), hb]
  refine ⟨_, _, [0], ⟨rfl, rfl⟩, ?_⟩
  simp [-List.reduceReplicate, LES] <;> rfl
theorem c_impl_RunBack_no (z k n : Int) (box A b : List UInt8) (hbx : box.length = 256) (hA : A.length = 16) (hb : b.length = 16) (q cp : Nat) (D : List UInt8) (hD : D.length = 8 * q) (hc : q ≤ cp) (hm : q ≤ 1048576) (hE : codeN z box A k n q ≠ 0) : LC Try.prog 8 [.a (netC z box A k n), .s 0 0 q cp, .a (bs b)] [⟨false, bs D⟩] (fun v hp => v = .t [.a (bs (List.replicate 16 0)), .c (.int .i64 (codeN z box A k n q))] ∧ hp = [⟨false, bs D⟩]) := by
  have key1 := c_impl_checkKeys z k n box A hbx hA q cp D hD hc hm
  have hx : List.take (8 * q) (bs D) = bs D := List.take_of_length_le (by rw [bs_length]; omega)
  refine LC_of (X := XX (fun _ => .nil) (fun _ => []) [27, 28, 29, 44, 47, 52, 53, 54, 55, 74, 78, 88, 89, 99] 1) envOK Try.func8 (by kernel_rfl) (by kernel_rfl) rfl (Nat.le_of_ble_eq_true (by kernel_rfl)) ?_
  simp only [kFun, Try.f8, List.length_nil, List.length_cons, Nat.sub_zero, Nat.reduceSub, Nat.reduceAdd, List.nil_append, List.cons_append, List.replicate_succ, List.replicate_zero]
  simp only [XX, ↓VC, VP, TT, Nat.reduceEqDiff, reduceCtorEq, Nat.reduceAdd, Nat.reduceSub, Nat.reduceLT, Nat.reduceMul, Nat.reducePow, Nat.reduceLeDiff, Int.reduceToNat, Int.reduceLE, Int.reduceLT, Int.reducePow, netC_len hbx hA, ↓net_all hbx hA, hb]
  refine kCall_val (key1) (by rfl) [(0, 0)] (by simp [CALL, SCB, instL_net, okL_net, hx]) (by simp [CALL, SCB, instL_net, okL_net, hx]) (by simp [CALL, SCB, instL_net, okL_net, hx]) (by simp [okL_bs, okL_room, okL, okV, instL_net, okL_net, hx]) ?_
  simp (config := { maxSteps := 2000000 }) only [CALL, ↓VC, VP, TT, Nat.reduceEqDiff, reduceCtorEq, Nat.reduceAdd, Nat.reduceSub, Nat.reduceLT, Nat.reduceMul, Nat.reducePow, Nat.reduceLeDiff, Int.reduceToNat, Int.reduceLE, Int.reduceLT, Int.reducePow, GOB, instL_net, (bne_iff_ne.2 hE : (codeN z box A k n q != 0) = true), hb]
  refine ⟨_, _, [0], ⟨rfl, rfl⟩, ?_⟩
  simp [-List.reduceReplicate, LES] <;> rfl
theorem bak_both (z k n : Int) (box A b : List UInt8) (hbx : box.length = 256) (hA : A.length = 16) (hb : b.length = 16) (q : Nat) (D : List UInt8) (hD : D.length = 8 * q) (hm : q ≤ 1048576) : ∃ (o : List UInt8) (e : Int), o.length = 16 ∧
    LC Try.prog 9 [.a (netC z box A k n), .s 0 0 q q, .a (bs b)] [⟨false, bs D⟩] (fun v hp => v = .t [.a (bs o), .c (.int .i64 (e))] ∧ hp = [⟨false, bs D⟩]) ∧
    LC Try.prog 8 [.a (netC z box A k n), .s 0 0 q q, .a (bs b)] [⟨false, bs D⟩] (fun v hp => v = .t [.a (bs o), .c (.int .i64 (e))] ∧ hp = [⟨false, bs D⟩]) := by
  by_cases h : netB z box A k n = true ∧ (q : Int) = n
  · obtain ⟨hB, hq⟩ := h
    obtain ⟨c, rfl, rfl, rfl, rfl, rfl⟩ := net_of hbx hA hB
    exact ⟨c.bak D b q q, 0, bak_len hb q, k_spec_back c q q D b hD (Nat.le_refl _) hm hb (by omega), k_impl_back c q q D b hD (Nat.le_refl _) hm hb (by omega)⟩
  · exact ⟨List.replicate 16 0, codeN z box A k n q, by simp, c_spec_RunBack_no z k n box A b hbx hA hb q q D hD (Nat.le_refl _) hm (codeN_neB h), c_impl_RunBack_no z k n box A b hbx hA hb q q D hD (Nat.le_refl _) hm (codeN_neB h)⟩
end Go.Proofs.Ytjakgjelnbpmnaa
/- Networks run, there and back: the program and the reference told once, with what is known of the answers. -/
set_option linter.unusedSimpArgs false
set_option linter.unusedVariables false
namespace Go.Proofs.Ytjakgjelnbpmnaa
open Go Go.Vc
set_option maxRecDepth 10000
set_option maxHeartbeats 4000000
theorem two_Run (z k n : Int) (box A b : List UInt8) (hbx : box.length = 256) (hA : A.length = 16) (hb : b.length = 16) (q cp : Nat) (D : List UInt8) (hD : D.length = 8 * q) (hc : q ≤ cp) (hm : q ≤ 1048576) : ∃ (o : List UInt8) (e : Int), o.length = 16 ∧
    LC Try.prog 7 [.a (netC z box A k n), .s 0 0 q cp, .a (bs b)] [⟨false, bs D⟩] (fun v hp => v = .t [.a (bs o), .c (.int .i64 (e))] ∧ hp = [⟨false, bs D⟩]) ∧
    LC Try.prog 6 [.a (netC z box A k n), .s 0 0 q cp, .a (bs b)] [⟨false, bs D⟩] (fun v hp => v = .t [.a (bs o), .c (.int .i64 (e))] ∧ hp = [⟨false, bs D⟩]) ∧
    (e ≠ 0 ∨ (e = 0 ∧ ∃ c : Net, z = c.m ∧ box = c.box ∧ A = c.A ∧ k = c.k ∧ n = c.n ∧ q = c.n ∧ o = c.run D b q)) := by
  by_cases h : netB z box A k n = true ∧ (q : Int) = n
  · obtain ⟨hB, hq⟩ := h
    obtain ⟨c, rfl, rfl, rfl, rfl, rfl⟩ := net_of hbx hA hB
    have hq' : q = c.n := by omega
    exact ⟨c.run D b q, 0, run_len hb q, k_spec_run c q cp D b hD hc hm hb hq', k_impl_run c q cp D b hD hc hm hb hq', .inr ⟨rfl, c, rfl, rfl, rfl, rfl, rfl, hq', rfl⟩⟩
  · exact ⟨List.replicate 16 0, codeN z box A k n q, by simp, c_spec_RunNetwork_no z k n box A b hbx hA hb q cp D hD hc hm (codeN_ne h), c_impl_RunNetwork_no z k n box A b hbx hA hb q cp D hD hc hm (codeN_ne h), .inl (codeN_ne h)⟩
theorem two_Bak (z k n : Int) (box A b : List UInt8) (hbx : box.length = 256) (hA : A.length = 16) (hb : b.length = 16) (q cp : Nat) (D : List UInt8) (hD : D.length = 8 * q) (hc : q ≤ cp) (hm : q ≤ 1048576) : ∃ (o : List UInt8) (e : Int), o.length = 16 ∧
    LC Try.prog 9 [.a (netC z box A k n), .s 0 0 q cp, .a (bs b)] [⟨false, bs D⟩] (fun v hp => v = .t [.a (bs o), .c (.int .i64 (e))] ∧ hp = [⟨false, bs D⟩]) ∧
    LC Try.prog 8 [.a (netC z box A k n), .s 0 0 q cp, .a (bs b)] [⟨false, bs D⟩] (fun v hp => v = .t [.a (bs o), .c (.int .i64 (e))] ∧ hp = [⟨false, bs D⟩]) := by
  by_cases h : netB z box A k n = true ∧ (q : Int) = n
  · obtain ⟨hB, hq⟩ := h
    obtain ⟨c, rfl, rfl, rfl, rfl, rfl⟩ := net_of hbx hA hB
    have hq' : q = c.n := by omega
    exact ⟨c.bak D b q q, 0, bak_len hb q, k_spec_back c q cp D b hD hc hm hb hq', k_impl_back c q cp D b hD hc hm hb hq'⟩
  · exact ⟨List.replicate 16 0, codeN z box A k n q, by simp, c_spec_RunBack_no z k n box A b hbx hA hb q cp D hD hc hm (codeN_neB h), c_impl_RunBack_no z k n box A b hbx hA hb q cp D hD hc hm (codeN_neB h)⟩
theorem c_spec_IsNetwork (z k n : Int) (box A : List UInt8) (hb : box.length = 256) (hA : A.length = 16) : LC Try.prog 11 [.a (netC z box A k n)] [] (fun v hp => v = .c (.bool (netB z box A k n)) ∧ hp = []) := by
  refine LC_of (X := XX (fun _ => .nil) (fun _ => []) [27, 28, 29, 44, 47, 52, 53, 54, 55, 74, 78, 88, 89, 99] 0) envOK Try.func11 (by kernel_rfl) (by kernel_rfl) rfl (Nat.le_of_ble_eq_true (by kernel_rfl)) ?_
  simp only [kFun, Try.f11, List.length_nil, List.length_cons, Nat.sub_zero, Nat.reduceSub, Nat.reduceAdd, List.nil_append, List.cons_append, List.replicate_succ, List.replicate_zero]
  simp only [XX, ↓VC, VP, TT, Nat.reduceEqDiff, reduceCtorEq, Nat.reduceAdd, Nat.reduceSub, Nat.reduceLT, Nat.reduceMul, Nat.reducePow, Nat.reduceLeDiff, Int.reduceToNat, Int.reduceLE, Int.reduceLT, Int.reducePow, netC_len hb hA, ↓net_all hb hA]
  refine kCall_val (c_spec_l06Is z k n box A hb hA) (by rfl) [] (by simp [CALL, SCB, instL_net, okL_net]) (by simp [CALL, SCB, instL_net, okL_net]) (by simp [CALL, SCB, instL_net, okL_net]) (by simp [okL_bs, okL_room, okL, okV, instL_net, okL_net]) ?_
  simp (config := { maxSteps := 2000000 }) only [CALL, ↓VC, VP, TT, Nat.reduceEqDiff, reduceCtorEq, Nat.reduceAdd, Nat.reduceSub, Nat.reduceLT, Nat.reduceMul, Nat.reducePow, Nat.reduceLeDiff, Int.reduceToNat, Int.reduceLE, Int.reduceLT, Int.reducePow, GOB, instL_net]
  refine ⟨_, _, [], ⟨rfl, rfl⟩, ?_⟩
  simp [-List.reduceReplicate, LES] <;> rfl
end Go.Proofs.Ytjakgjelnbpmnaa

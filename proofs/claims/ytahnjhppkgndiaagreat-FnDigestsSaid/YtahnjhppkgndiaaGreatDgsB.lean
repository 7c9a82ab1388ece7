import Derived.Test.YtahnjhppkgndiaaGreatUnpMB
import Derived.Test.YtahnjhppkgndiaaGreatPadM
import Derived.Test.YtahnjhppkgndiaaGreatEngN
import Derived.Test.YtahnjhppkgndiaaGreatTk
/- For the law of digests: bytes compared, blocks of bytes, what unpadding tells. -/
set_option linter.unusedSimpArgs false
set_option linter.unusedVariables false
namespace Go.Proofs.YtahnjhppkgndiaaGreat
open Go Go.Vc
set_option maxRecDepth 10000
set_option maxHeartbeats 4000000
theorem d_bytes5 (A : List UInt8) (ca cb : Nat) (hca : A.length ≤ ca) (hcb : A.length ≤ cb) (hm : A.length ≤ 4194304) : LC Tryz.prog 13 [.s 0 0 A.length ca, .s 1 0 A.length cb] [⟨false, bs A⟩, ⟨false, bs A⟩] (fun v hp => v = .c (.bool (true)) ∧ hp = [⟨false, bs A⟩, ⟨false, bs A⟩]) := by
  refine LC_of (X := XX (fun | 6 => .one 0 (.one 1 (.one 2 (.one 3 (.one 4 (.one 5 (.one 6 (.one 7 (.one 8 .nil)))))))) | _ => .nil) (fun _ => []) [15, 71, 72, 73, 79, 80, 87, 90, 91, 93, 99, 119, 137, 176, 177, 203, 204, 212, 219] 2) envOK Tryz.func13 (by kernel_rfl) (by kernel_rfl) rfl (Nat.le_of_ble_eq_true (by kernel_rfl)) ?_
  simp only [kFun, Tryz.f13, List.length_nil, List.length_cons, Nat.sub_zero, Nat.reduceSub, Nat.reduceAdd, List.nil_append, List.cons_append, List.replicate_succ, List.replicate_zero]
  simp only [XX, ↓VC, VP, TT, Nat.reduceEqDiff, reduceCtorEq, Nat.reduceAdd, Nat.reduceSub, Nat.reduceLT, Nat.reduceMul, Nat.reducePow, Nat.reduceLeDiff, Int.reduceToNat, Int.reduceLE, Int.reduceLT, Int.reducePow, bne_self_eq_false]
  refine kLoop_of (fun i : Nat => ([.s 0 0 A.length ca, .s 1 0 A.length cb, .j, .j, .j, .c (.int .i64 (i)), .j, .j, .j, .j, .j, .j, .j, .j, .j, .j, .j, .j, .j, .j, .j, .j, .j, .j, .j, .j], [⟨false, bs A⟩, ⟨false, bs A⟩])) (fun i => A.length - i) (fun i => i ≤ A.length) 0 (by omega) ⟨[0, 1], by simp [-List.reduceReplicate, LES]⟩ ?_
  intro i hi
  rcases Nat.lt_or_ge i A.length with h | h
  · simp only [↓VC, VP, TT, Nat.reduceEqDiff, reduceCtorEq, Nat.reduceAdd, Nat.reduceSub, Nat.reduceLT, Nat.reduceMul, Nat.reducePow, Nat.reduceLeDiff, Int.reduceToNat, Int.reduceLE, Int.reduceLT, Int.reducePow, (eq_true (by omega) : ((i : Int) < (A.length : Int)) = True), decide_true, bne_self_eq_false, Int.toNat_natCast, h]
    refine ⟨i + 1, by omega, by omega, [0, 1], ?_⟩
    rw [wrap_i64 (by omega) (by omega)]
    simp [-List.reduceReplicate, LES]
  · obtain rfl : i = A.length := by omega
    simp only [↓VC, VP, TT, Nat.reduceEqDiff, reduceCtorEq, Nat.reduceAdd, Nat.reduceSub, Nat.reduceLT, Nat.reduceMul, Nat.reducePow, Nat.reduceLeDiff, Int.reduceToNat, Int.reduceLE, Int.reduceLT, Int.reducePow, (eq_false (by omega) : ((A.length : Int) < (A.length : Int)) = False), decide_false]
    exact ⟨_, _, [0, 1], ⟨rfl, rfl⟩, by simp [-List.reduceReplicate, LES]⟩
theorem c_impl_BlocksOf (l : List UInt8) (c K : Nat) (hc : l.length ≤ c) (hK : l.length = 16 * K) (hm : l.length ≤ 2000) : LC Tryz.prog 35 [.s 0 0 l.length c] [⟨false, bs l⟩]
    (Ret [⟨false, bs l⟩] (fun _ : Nat => True) fun r => (.t [.s 1 0 K (K + r), .c (.int .i64 (0))], [⟨true, bs l ++ List.replicate (16 * r) .j⟩])) := by
  have e2 : (l.length : Int).tmod 16 = 0 := by rw [Int.tmod_eq_emod_of_nonneg (by omega)]; omega
  refine LC_of (X := XX (fun _ => .nil) (fun _ => []) [15, 71, 72, 73, 79, 80, 87, 90, 91, 93, 99, 119, 137, 176, 177, 203, 204, 212, 219] 1) envOK Tryz.func35 (by kernel_rfl) (by kernel_rfl) rfl (Nat.le_of_ble_eq_true (by kernel_rfl)) ?_
  simp only [kFun, Tryz.f35, List.length_nil, List.length_cons, Nat.sub_zero, Nat.reduceSub, Nat.reduceAdd, List.nil_append, List.cons_append, List.replicate_succ, List.replicate_zero]
  simp only [XX, ↓VC, VP, TT, Nat.reduceEqDiff, reduceCtorEq, Nat.reduceAdd, Nat.reduceSub, Nat.reduceLT, Nat.reduceMul, Nat.reducePow, Nat.reduceLeDiff, Int.reduceToNat, Int.reduceLE, Int.reduceLT, Int.reducePow, e2]
  refine kCall_val (c_impl_isData l c) (by rfl) [(0, 0)] (by simp [CALL, SCB]) (by simp [CALL, SCB]) (by simp [CALL, SCB]) (by simp [okL_bs, okL_room, okL, okV]) ?_
  simp (config := { maxSteps := 2000000 }) only [CALL, ↓VC, VP, TT, Nat.reduceEqDiff, reduceCtorEq, Nat.reduceAdd, Nat.reduceSub, Nat.reduceLT, Nat.reduceMul, Nat.reducePow, Nat.reduceLeDiff, Int.reduceToNat, Int.reduceLE, Int.reduceLT, Int.reducePow, GOB, (decide_eq_true hm : decide (l.length ≤ 2000) = true), Bool.not_true, e2, bne_self_eq_false]
  refine ⟨by decide, ?_⟩
  refine kCall_Ret (c_impl_blocksOf l c K hc hK (by omega)) (by rfl) [(0, 0)] (by simp [CALL, SCB]) (by simp [CALL, SCB]) (by simp [CALL, SCB]) (by simp [okL_bs, okL_room, okL, okV]) (by simp [CALL, SCB]) fun r _ => ?_
  simp (config := { maxSteps := 2000000 }) only [CALL, ↓VC, VP, TT, Nat.reduceEqDiff, reduceCtorEq, Nat.reduceAdd, Nat.reduceSub, Nat.reduceLT, Nat.reduceMul, Nat.reducePow, Nat.reduceLeDiff, Int.reduceToNat, Int.reduceLE, Int.reduceLT, Int.reducePow, GOB]
  exact ⟨_, _, [0, 1], ⟨r, trivial, rfl, rfl⟩, by simp [-List.reduceReplicate, LES, renL_room, okL_room]⟩
theorem unpM_pad {l t : List UInt8} (h : unpM l = some t) : padM t = l := by
  unfold unpM at h
  split at h
  · rename_i hx
    cases h
    exact hx.choose_spec.1
  · cases h
theorem none_uniU (l : List UInt8) (e : Int) : ∀ _ : Nat, True → ∃ r : Nat, True ∧ nilV (outV (.error e) 0).1 ((fun r : Nat => (V.t [.s 1 0 ([] : List UInt8).length (([] : List UInt8).length + r), .c (.int .i64 (e))], [(⟨true, bs [] ++ List.replicate r V.j⟩ : Blk)])) r).1 ∧ ∃ ex, ((fun r : Nat => (V.t [.s 1 0 ([] : List UInt8).length (([] : List UInt8).length + r), .c (.int .i64 (e))], [(⟨true, bs [] ++ List.replicate r V.j⟩ : Blk)])) r).2 = (outV (.error e) 0).2 ++ ex ∧ ∀ b ∈ ex, b.cells = [] :=
  fun _ _ => ⟨0, trivial, by simp [outV, nilV, nilVs], _, by simp [outV, bs_nil]; rfl, by simp⟩
theorem two_Unpad (l : List UInt8) (c : Nat) (hc : l.length ≤ c) : ∃ (o : List UInt8) (e : Int), o.length ≤ 2000 ∧
    LC Tryz.prog 43 [.s 0 0 l.length c] [⟨false, bs l⟩] (Ret [⟨false, bs l⟩] (fun _ : Nat => True) fun r => (.t [.s 1 0 o.length (o.length + r), .c (.int .i64 (e))], [⟨true, bs o ++ List.replicate r .j⟩])) ∧
    LC Tryz.prog 39 [.s 0 0 l.length c] [⟨false, bs l⟩] (Ret [⟨false, bs l⟩] (fun _ : Nat => True) fun r => (.t [.s 1 0 o.length (o.length + r), .c (.int .i64 (e))], [⟨true, bs o ++ List.replicate r .j⟩])) ∧
    (e ≠ 0 ∨ (e = 0 ∧ padM o = l)) := by
  have s1 := c_spec_UnpadMessage l c hc
  have s2 := c_impl_UnpadMessage l c hc
  by_cases h : l.length ≤ 2024
  · cases hu : unpM l with
    | none =>
      rw [unpadMR_4 h hu] at s1 s2
      exact ⟨[], 4, by simp, LC_nil s1 (fun _ _ => none_uniU l 4 0 trivial), LC_nil s2 (fun _ _ => none_uniU l 4 0 trivial), .inl (by decide)⟩
    | some t =>
      rw [unpadMR_ok h hu] at s1 s2
      exact ⟨t, 0, unpM_len hu, s1, s2, .inr ⟨rfl, unpM_pad hu⟩⟩
  · rw [unpadMR_2 h] at s1 s2
    exact ⟨[], 2, by simp, LC_nil s1 (fun _ _ => none_uniU l 2 0 trivial), LC_nil s2 (fun _ _ => none_uniU l 2 0 trivial), .inl (by decide)⟩
end Go.Proofs.YtahnjhppkgndiaaGreat

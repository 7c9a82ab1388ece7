import Derived.Test.YtmhjalagcnhfiaaGreatDrawN
/- Draws of wide data. -/
set_option linter.unusedSimpArgs false
set_option linter.unusedVariables false
namespace Go.Proofs.YtmhjalagcnhfiaaGreat
open Go Go.Vc
set_option maxRecDepth 10000
set_option maxHeartbeats 40000000
section
variable {l : List UInt8} {c : Nat} {q : Nat × Nat}
theorem d_WideDecipher (hc : l.length ≤ c) (hm : l.length ≤ 4096) : LC Tryz.prog 29 [.s 0 0 l.length c] [⟨false, bs l⟩] (Ret [⟨false, bs l⟩] (fun x : DC × List UInt8 × List UInt8 × Nat => x.1.ok ∧ x.2.1.length = 16 ∧ x.2.2.1.length ≤ 2017) fun x => (.t [.a x.1.cells, .a (bs x.2.1), .s 1 0 x.2.2.1.length (x.2.2.1.length + x.2.2.2)], [⟨true, bs x.2.2.1 ++ List.replicate x.2.2.2 .j⟩])) := by
  refine LC_of (X := XX (fun | 2 => .one 0 (.one 2 (.alt (.one 1 (.one 3 (.one 4 (.one 5 .nil)))) (.one 3 (.one 1 (.one 4 (.one 5 .nil)))))) | _ => .nil) (fun _ => []) [42, 74, 94, 95, 96, 97, 111, 117, 118, 129, 130, 141] 1) envOK Tryz.func29 (by kernel_rfl) (by kernel_rfl) rfl (Nat.le_of_ble_eq_true (by kernel_rfl)) ?_
  simp only [kFun, Tryz.f29, List.length_nil, List.length_cons, Nat.sub_zero, Nat.reduceSub, Nat.reduceAdd, List.nil_append, List.cons_append, List.replicate_succ, List.replicate_zero]
  simp only [XX, ↓VC, VP, TT, List.getElem?_toArray, Nat.reduceEqDiff, reduceCtorEq, Nat.reduceAdd, Nat.reduceSub, Nat.reduceLT, Nat.reduceMul, Nat.reducePow, Nat.reduceLeDiff, Int.reduceToNat, Int.reduceLE, Int.reduceLT, Int.reducePow, cip_build, cipC_len z256 z16 z16]
  refine kCall_Ret (d_seven hc hm 32 (by omega)) (by rfl) [(0, 0)] (by simp [CALL, cellsAt, tk, take_room, bs_length, bs_nil, SD, nsv]) (by simp [CALL, cellsAt, tk, take_room, bs_length, bs_nil, SD, nsv]) (by simp [CALL, cellsAt, tk, take_room, bs_length, bs_nil, SD, nsv]) (by simp [okL_bs, okL_room, okL, okV, SD, nsv]) (by simp [CALL, cellsAt, tk, take_room, bs_length, bs_nil, SD, nsv]) fun x1 h1 => ?_
  obtain ⟨⟨z, b, A, pl, n⟩, key, start, D, r⟩ := x1
  obtain ⟨⟨hb, hA, hp⟩, hk, hs, hD⟩ := h1
  simp only [DC.cells] at hb hA hp hk hs hD ⊢
  simp (config := { maxSteps := 2000000 }) only [CALL, ↓VC, VP, TT, List.getElem?_toArray, Nat.reduceEqDiff, reduceCtorEq, Nat.reduceAdd, Nat.reduceSub, Nat.reduceLT, Nat.reduceMul, Nat.reducePow, Nat.reduceLeDiff, Int.reduceToNat, Int.reduceLE, Int.reduceLT, Int.reducePow, instL_room, Bool.not_true, Bool.not_false, GD, cipC_len z256 z16 z16, cipC_len hb hA hp, hk, hs, z16, bs_length, ↓cip_all hb hA hp, ↓cip_put_all z256 z16 z16 hb hA hp, and_self]
  exact ⟨_, _, [0, 3], ⟨(⟨z, b, A, pl, n⟩, key, D, r), ⟨⟨hb, hA, hp⟩, hk, hD⟩, rfl, rfl⟩, by simp [-List.reduceReplicate, LES, renL_cip, okL_cip]⟩
theorem d_WideEncipher (hc : l.length ≤ c) (hm : l.length ≤ 4096) : LC Tryz.prog 32 [.s 0 0 l.length c] [⟨false, bs l⟩] (Ret [⟨false, bs l⟩] (fun x : DC × List UInt8 × List UInt8 × Nat => x.1.ok ∧ x.2.1.length = 16 ∧ x.2.2.1.length ≤ 2017) fun x => (.t [.a x.1.cells, .a (bs x.2.1), .s 1 0 x.2.2.1.length (x.2.2.1.length + x.2.2.2)], [⟨true, bs x.2.2.1 ++ List.replicate x.2.2.2 .j⟩])) := by
  refine LC_of (X := XX (fun | 2 => .one 0 (.one 2 (.alt (.one 1 (.one 3 (.one 4 (.one 5 .nil)))) (.one 3 (.one 1 (.one 4 (.one 5 .nil)))))) | _ => .nil) (fun _ => []) [42, 74, 94, 95, 96, 97, 111, 117, 118, 129, 130, 141] 1) envOK Tryz.func32 (by kernel_rfl) (by kernel_rfl) rfl (Nat.le_of_ble_eq_true (by kernel_rfl)) ?_
  simp only [kFun, Tryz.f32, List.length_nil, List.length_cons, Nat.sub_zero, Nat.reduceSub, Nat.reduceAdd, List.nil_append, List.cons_append, List.replicate_succ, List.replicate_zero]
  simp only [XX, ↓VC, VP, TT, List.getElem?_toArray, Nat.reduceEqDiff, reduceCtorEq, Nat.reduceAdd, Nat.reduceSub, Nat.reduceLT, Nat.reduceMul, Nat.reducePow, Nat.reduceLeDiff, Int.reduceToNat, Int.reduceLE, Int.reduceLT, Int.reducePow, cip_build, cipC_len z256 z16 z16]
  refine kCall_Ret (d_seven hc hm 32 (by omega)) (by rfl) [(0, 0)] (by simp [CALL, cellsAt, tk, take_room, bs_length, bs_nil, SD, nsv]) (by simp [CALL, cellsAt, tk, take_room, bs_length, bs_nil, SD, nsv]) (by simp [CALL, cellsAt, tk, take_room, bs_length, bs_nil, SD, nsv]) (by simp [okL_bs, okL_room, okL, okV, SD, nsv]) (by simp [CALL, cellsAt, tk, take_room, bs_length, bs_nil, SD, nsv]) fun x1 h1 => ?_
  obtain ⟨⟨z, b, A, pl, n⟩, key, start, D, r⟩ := x1
  obtain ⟨⟨hb, hA, hp⟩, hk, hs, hD⟩ := h1
  simp only [DC.cells] at hb hA hp hk hs hD ⊢
  simp (config := { maxSteps := 2000000 }) only [CALL, ↓VC, VP, TT, List.getElem?_toArray, Nat.reduceEqDiff, reduceCtorEq, Nat.reduceAdd, Nat.reduceSub, Nat.reduceLT, Nat.reduceMul, Nat.reducePow, Nat.reduceLeDiff, Int.reduceToNat, Int.reduceLE, Int.reduceLT, Int.reducePow, instL_room, Bool.not_true, Bool.not_false, GD, cipC_len z256 z16 z16, cipC_len hb hA hp, hk, hs, z16, bs_length, ↓cip_all hb hA hp, ↓cip_put_all z256 z16 z16 hb hA hp, and_self]
  exact ⟨_, _, [0, 3], ⟨(⟨z, b, A, pl, n⟩, key, D, r), ⟨⟨hb, hA, hp⟩, hk, hD⟩, rfl, rfl⟩, by simp [-List.reduceReplicate, LES, renL_cip, okL_cip]⟩
end
end Go.Proofs.YtmhjalagcnhfiaaGreat

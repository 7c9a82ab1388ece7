import Derived.Test.YtahnjhppkgndiaaGreatEngI
import Derived.Test.YtahnjhppkgndiaaGreatEngG
import Derived.Test.YtahnjhppkgndiaaGreatInvS
/- The house's cipher as the program makes it; engines. -/
set_option linter.unusedSimpArgs false
set_option linter.unusedVariables false
namespace Go.Proofs.YtahnjhppkgndiaaGreat
open Go Go.Vc
set_option maxRecDepth 10000
set_option maxHeartbeats 4000000
theorem mem7 {α : Type} {a b c d e f g : α} {p : α → Prop} (ha : p a) (hb : p b) (hc : p c) (hd : p d) (he : p e) (hf : p f) (hg : p g) : ∀ x ∈ [a, b, c, d, e, f, g], p x := by
  intro x hx
  simp only [List.mem_cons, List.not_mem_nil, or_false] at hx
  rcases hx with rfl | rfl | rfl | rfl | rfl | rfl | rfl <;> assumption
/-- What a new engine leads to. -/
def engH (m : Nat) (box A pl : List UInt8) (rd : Int) (own : Bool) : List Blk :=
  [⟨own, engC box (invL 256 box 256) pl (invL 16 pl 16) 1 2 rd⟩, ⟨own, bs (tabL m A)⟩, ⟨own, bs (tabL m (invM m A (unP 4)).2)⟩]
theorem c_newEngine (m : Nat) (box A pl : List UInt8) (rd : Int) (hm : 256 ≤ m) (hm' : m < 512) (hb : box.length = 256) (hA : A.length = 16) (hp : pl.length = 16) (hpl : pl16 pl) :
    LC Tryz.prog 75 [.a (cipC m box A pl rd)] [] (Ret [] (fun _ : Unit => True) fun _ => (.p 0 0, engH m box A pl rd true)) := by
  have hI := invM_len m hA (unP_len 4)
  refine LC_of (X := XX (fun | 2 => .one 0 (.one 1 (.one 2 (.one 3 (.one 5 (.one 6 (.one 7 (.one 8 (.one 10 (.one 11 (.one 12 (.one 13 (.one 15 (.one 16 (.one 17 (.one 19 (.one 20 (.one 4 (.one 9 (.one 14 (.one 18 (.one 21 (.one 22 (.one 23 .nil))))))))))))))))))))))) | _ => .nil) (fun _ => []) [15, 71, 72, 73, 79, 80, 87, 90, 91, 93, 99, 119, 137, 176, 177, 203, 204, 212, 219] 0) envOK Tryz.func75 (by kernel_rfl) (by kernel_rfl) rfl (Nat.le_of_ble_eq_true (by kernel_rfl)) ?_
  simp only [kFun, Tryz.f75, List.length_nil, List.length_cons, Nat.sub_zero, Nat.reduceSub, Nat.reduceAdd, List.nil_append, List.cons_append, List.replicate_succ, List.replicate_zero]
  simp only [XX, ↓VC, VP, TT, Nat.reduceEqDiff, reduceCtorEq, Nat.reduceAdd, Nat.reduceSub, Nat.reduceLT, Nat.reduceMul, Nat.reducePow, Nat.reduceLeDiff, Int.reduceToNat, Int.reduceLE, Int.reduceLT, Int.reducePow, cipC_len hb hA hp, ↓cip_all hb hA hp, ↓cip_field, ↓cip_mix hb hA]
  refine kCall_val (c_impl_invert m A hm hm' hA) (by rfl) [] (by simp [CALL]) (by simp [CALL, cellsAt]) (by simp [CALL]) (by simp [okL_bs]) ?_
  simp only [CALL, ↓VC, VP, TT, Nat.reduceEqDiff, reduceCtorEq, Nat.reduceAdd, Nat.reduceSub, Nat.reduceLT, Nat.reduceMul, Nat.reducePow, Nat.reduceLeDiff, Int.reduceToNat, Int.reduceLE, Int.reduceLT, Int.reducePow, hI, ↓cip_box hb, ↓cip_pl hb hA hp, ↓cip_field, ↓cip_mix hb hA, ↓cip_rd hb hA hp]
  refine kCall_val (c_impl_Box_inverse box hb) (by rfl) [] (by simp [CALL]) (by simp [CALL, cellsAt]) (by simp [CALL]) (by simp [okL_bs]) ?_
  simp only [CALL, ↓VC, VP, TT, Nat.reduceEqDiff, reduceCtorEq, Nat.reduceAdd, Nat.reduceSub, Nat.reduceLT, Nat.reduceMul, Nat.reducePow, Nat.reduceLeDiff, Int.reduceToNat, Int.reduceLE, Int.reduceLT, Int.reducePow, hI]
  refine kCall_val (c_impl_Places_inverse pl hp hpl) (by rfl) [] (by simp [CALL]) (by simp [CALL, cellsAt]) (by simp [CALL]) (by simp [okL_bs]) ?_
  simp only [CALL, ↓VC, VP, TT, Nat.reduceEqDiff, reduceCtorEq, Nat.reduceAdd, Nat.reduceSub, Nat.reduceLT, Nat.reduceMul, Nat.reducePow, Nat.reduceLeDiff, Int.reduceToNat, Int.reduceLE, Int.reduceLT, Int.reducePow, hI]
  refine kCall_Ret (c_newMixer m A hm hm' hA) (by rfl) [] (by simp [CALL]) (by simp [CALL]) (by simp [CALL]) (by simp) (by simp) fun _ _ => ?_
  simp only [CALL, ↓VC, VP, TT, Nat.reduceEqDiff, reduceCtorEq, Nat.reduceAdd, Nat.reduceSub, Nat.reduceLT, Nat.reduceMul, Nat.reducePow, Nat.reduceLeDiff, Int.reduceToNat, Int.reduceLE, Int.reduceLT, Int.reducePow, hI]
  refine kCall_Ret (c_newMixer m (invM m A (unP 4)).2 hm hm' hI) (by rfl) [] (by simp [CALL]) (by simp [CALL]) (by simp [CALL]) (by simp) (by simp) fun _ _ => ?_
  simp only [CALL, ↓VC, VP, TT, Nat.reduceEqDiff, reduceCtorEq, Nat.reduceAdd, Nat.reduceSub, Nat.reduceLT, Nat.reduceMul, Nat.reducePow, Nat.reduceLeDiff, Int.reduceToNat, Int.reduceLE, Int.reduceLT, Int.reducePow, hI, invL_len, hb, hp, splice_app0, splice_appR]
  refine ⟨mem7 rfl rfl rfl rfl rfl rfl rfl, _, _, [4, 2, 3], ⟨(), trivial, rfl, rfl⟩, ?_⟩
  simp [-List.reduceReplicate, LES, engH, renL_eng, okL_eng]
  simp [engC]
end Go.Proofs.YtahnjhppkgndiaaGreat

import Derived.Test.YtahnjhppkgndiaaGreatListsM
import Derived.Test.YtahnjhppkgndiaaGreatEngG
import Derived.Test.YtahnjhppkgndiaaGreatEngJ
import Derived.Test.YtahnjhppkgndiaaGreatConcatB
/- A block absorbed by the program's engine; the house's engine. -/
set_option linter.unusedSimpArgs false
set_option linter.unusedVariables false
namespace Go.Proofs.YtahnjhppkgndiaaGreat
open Go Go.Vc
set_option maxRecDepth 10000
set_option maxHeartbeats 4000000
theorem len16 {a : List UInt8} (h : a.length = 16) (b : List UInt8) (hb : b.length = 16) : (a ++ b).length = 32 := by rw [List.length_append, h, hb]
theorem c_absorb (m : Nat) (box bb pl bp A T2 st msg : List UInt8) (n : Nat) (hn : n ≤ 40) (hE : EngL box bb pl bp) (hA : A.length = 16) (hpl : pl16 pl) (hs : st.length = 32) (hmsg : msg.length = 16) :
    LC Tryz.prog 106 [.p 0 0, .a (bs st), .a (bs msg)] [⟨false, engC box bb pl bp 1 2 n⟩, ⟨false, bs (tabL m A)⟩, ⟨false, bs T2⟩]
      (fun v hp => v = .a (bs (absL m box A pl n st msg)) ∧ hp = [⟨false, engC box bb pl bp 1 2 n⟩, ⟨false, bs (tabL m A)⟩, ⟨false, bs T2⟩]) := by
  have h0 : (st.drop 0).take 16 = loL st := by rw [List.drop_zero]; exact lo_take hs
  refine LC_of (X := XX (fun | 1 => .one 0 (.one 1 (.one 2 (.one 3 (.one 4 (.one 5 (.one 7 (.one 6 (.one 8 (.one 9 .nil))))))))) | 3 => .one 0 (.one 1 (.one 2 (.one 4 (.one 3 (.one 5 (.one 6 .nil)))))) | 5 => .one 0 (.one 1 (.one 2 (.one 4 (.one 3 (.one 5 (.one 6 .nil)))))) | 6 => .one 0 (.one 1 (.one 2 (.one 3 (.one 4 (.one 5 (.one 6 .nil)))))) | _ => .nil) (fun | 1 => [(6, 7)] | _ => []) [15, 71, 72, 73, 79, 80, 87, 90, 91, 93, 99, 119, 137, 176, 177, 203, 204, 212, 219] 3) envOK Tryz.func106 (by kernel_rfl) (by kernel_rfl) rfl (Nat.le_of_ble_eq_true (by kernel_rfl)) ?_
  simp only [kFun, Tryz.f106, List.length_nil, List.length_cons, Nat.sub_zero, Nat.reduceSub, Nat.reduceAdd, List.nil_append, List.cons_append, List.replicate_succ, List.replicate_zero]
  simp only [XX, ↓VC, VP, TT, Nat.reduceEqDiff, reduceCtorEq, Nat.reduceAdd, Nat.reduceSub, Nat.reduceLT, Nat.reduceMul, Nat.reducePow, Nat.reduceLeDiff, Int.reduceToNat, Int.reduceLE, Int.reduceLT, Int.reducePow, hs, hmsg, lo_take hs, hi_take hs, loL_len, hiL_len]
  repeat (refine ⟨by first | omega | (simp; done) | decide, ?_⟩)
  refine kCall_val (c_impl_XorBlocks (loL st) msg (loL_len _) hmsg) (by rfl) [] (by simp [CALL]) (by simp [CALL, cellsAt]) (by simp [CALL]) (by simp [okL_bs]) ?_
  simp only [CALL, ↓VC, VP, TT, Nat.reduceEqDiff, reduceCtorEq, Nat.reduceAdd, Nat.reduceSub, Nat.reduceLT, Nat.reduceMul, Nat.reducePow, Nat.reduceLeDiff, Int.reduceToNat, Int.reduceLE, Int.reduceLT, Int.reducePow, hmsg, loL_len, hiL_len, xorN_len]
  refine kCall_val (c_encipher m box bb pl bp A T2 (hiL st) (xorN 16 (loL st) msg) n hn hE hA hpl (hiL_len _) (xorN_len _ _ _)) (by rfl) [(0, 0), (1, 0), (2, 0)] (by simp [CALL]) (by simp [CALL, cellsAt, instL_eng]) (by simp [CALL]) (by simp [okL_bs, okL_eng]) ?_
  simp only [CALL, ↓VC, VP, TT, Nat.reduceEqDiff, reduceCtorEq, Nat.reduceAdd, Nat.reduceSub, Nat.reduceLT, Nat.reduceMul, Nat.reducePow, Nat.reduceLeDiff, Int.reduceToNat, Int.reduceLE, Int.reduceLT, Int.reducePow, xorN_len]
  refine kCall_val (c_impl_XorBlocks (encL m box A pl (hiL st) (xorN 16 (loL st) msg) n) (xorN 16 (loL st) msg) (encL_len _ _ _ _ _ _ _) (xorN_len _ _ _)) (by rfl) [] (by simp [CALL]) (by simp [CALL, cellsAt]) (by simp [CALL]) (by simp [okL_bs]) ?_
  simp only [CALL, ↓VC, VP, TT, Nat.reduceEqDiff, reduceCtorEq, Nat.reduceAdd, Nat.reduceSub, Nat.reduceLT, Nat.reduceMul, Nat.reducePow, Nat.reduceLeDiff, Int.reduceToNat, Int.reduceLE, Int.reduceLT, Int.reducePow, xorN_len, hmsg, loL_len, hiL_len]
  generalize hg : xorN 16 (encL m box A pl (hiL st) (xorN 16 (loL st) msg) n) (xorN 16 (loL st) msg) = g
  have hgl : g.length = 16 := by rw [← hg]; exact xorN_len _ _ _
  refine kCall_val (c_impl_XorBlocks (hiL st) msg (hiL_len _) hmsg) (by rfl) [] (by simp [CALL]) (by simp [CALL, cellsAt]) (by simp [CALL]) (by simp [okL_bs]) ?_
  simp only [CALL, ↓VC, VP, TT, Nat.reduceEqDiff, reduceCtorEq, Nat.reduceAdd, Nat.reduceSub, Nat.reduceLT, Nat.reduceMul, Nat.reducePow, Nat.reduceLeDiff, Int.reduceToNat, Int.reduceLE, Int.reduceLT, Int.reducePow, hmsg, hgl, hiL_len, xorN_len]
  refine kCall_val (c_encipher m box bb pl bp A T2 g (xorN 16 (hiL st) msg) n hn hE hA hpl hgl (xorN_len _ _ _)) (by rfl) [(0, 0), (1, 0), (2, 0)] (by simp [CALL]) (by simp [CALL, cellsAt, instL_eng]) (by simp [CALL]) (by simp [okL_bs, okL_eng]) ?_
  simp only [CALL, ↓VC, VP, TT, Nat.reduceEqDiff, reduceCtorEq, Nat.reduceAdd, Nat.reduceSub, Nat.reduceLT, Nat.reduceMul, Nat.reducePow, Nat.reduceLeDiff, Int.reduceToNat, Int.reduceLE, Int.reduceLT, Int.reducePow, xorN_len, hgl]
  refine kCall_val (c_impl_XorBlocks (encL m box A pl g (xorN 16 (hiL st) msg) n) (xorN 16 (hiL st) msg) (encL_len _ _ _ _ _ _ _) (xorN_len _ _ _)) (by rfl) [] (by simp [CALL]) (by simp [CALL, cellsAt]) (by simp [CALL]) (by simp [okL_bs]) ?_
  simp only [CALL, ↓VC, VP, TT, Nat.reduceEqDiff, reduceCtorEq, Nat.reduceAdd, Nat.reduceSub, Nat.reduceLT, Nat.reduceMul, Nat.reducePow, Nat.reduceLeDiff, Int.reduceToNat, Int.reduceLE, Int.reduceLT, Int.reducePow, xorN_len, hgl, hiL_len]
  generalize hh : xorN 16 (encL m box A pl g (xorN 16 (hiL st) msg) n) (xorN 16 (hiL st) msg) = h2
  have hhl : h2.length = 16 := by rw [← hh]; exact xorN_len _ _ _
  have hgh : (g ++ h2).length = 32 := len16 hgl h2 hhl
  refine kCall_Ret (c_Concat2 g h2 16 16 (by omega) (by omega) (by omega)) (by rfl) [(10, 0), (7, 0), (6, 0)] (by simp [CALL]) (by simp [CALL, cellsAt, hgl, hhl]) (by simp [CALL]) (by simp [okL_bs, okL, okV]) (by simp) fun r _ => ?_
  simp only [CALL, ↓VC, VP, TT, Nat.reduceEqDiff, reduceCtorEq, Nat.reduceAdd, Nat.reduceSub, Nat.reduceLT, Nat.reduceMul, Nat.reducePow, Nat.reduceLeDiff, Int.reduceToNat, Int.reduceLE, Int.reduceLT, Int.reducePow, hgh]
  repeat (refine ⟨by first | omega | (simp; done) | decide, ?_⟩)
  refine ⟨_, _, [0, 1, 2], ⟨rfl, rfl⟩, ?_⟩
  simp [-List.reduceReplicate, LES, renL_eng, okL_eng, absL, hg, hh]
theorem instL_eng0 {box bb pl bp : List UInt8} {h1 h2 : Nat} {rd : Int} (N : Nat) : V.instL [] N (engC box bb pl bp h1 h2 rd) = engC box bb pl bp (N + h1) (N + h2) rd := by simp [engC, V.instL, V.inst, instL_app, instL_bs]
end Go.Proofs.YtahnjhppkgndiaaGreat

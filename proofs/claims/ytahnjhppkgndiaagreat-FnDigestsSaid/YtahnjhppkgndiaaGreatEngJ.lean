import Derived.Test.YtahnjhppkgndiaaGreatEngI
import Derived.Test.YtahnjhppkgndiaaGreatEngG
import Derived.Test.YtahnjhppkgndiaaGreatInvS
/- The house's cipher as the program makes it; engines. -/
set_option linter.unusedSimpArgs false
set_option linter.unusedVariables false
namespace Go.Proofs.YtahnjhppkgndiaaGreat
open Go Go.Vc
set_option maxRecDepth 10000
set_option maxHeartbeats 4000000
theorem bitI_90 (a : UInt8) : bitI .xor .u8 (a.toNat : Int) 90 = ((a ^^^ 90).toNat : Int) := bitI_xor8 a 90
def houseF (x : Nat) : UInt8 := let b := pw254 285 (UInt8.ofInt (x : Int)); ((b ^^^ rot8 b 1) ^^^ rot8 b 4) ^^^ 90
theorem c_impl_houseCipher (r : Int) : LC Tryz.prog 165 [.c (.int .i64 (r))] [] (fun v hp => v = .a (houseC r) ∧ hp = []) := by
  have z256 : (List.replicate 256 (0 : UInt8)).length = 256 := List.length_replicate
  have z16 : (List.replicate 16 (0 : UInt8)).length = 16 := List.length_replicate
  refine LC_of (X := XX (fun | 14 => .one 0 (.one 1 (.one 2 (.one 3 (.one 4 (.one 5 (.one 6 (.one 8 (.one 9 (.one 7 (.one 10 (.one 11 .nil))))))))))) | _ => .nil) (fun _ => []) [15, 71, 72, 73, 79, 80, 87, 90, 91, 93, 99, 119, 137, 176, 177, 203, 204, 212, 219] 0) envOK Tryz.func165 (by kernel_rfl) (by kernel_rfl) rfl (Nat.le_of_ble_eq_true (by kernel_rfl)) ?_
  simp only [kFun, Tryz.f165, List.length_nil, List.length_cons, Nat.sub_zero, Nat.reduceSub, Nat.reduceAdd, List.nil_append, List.cons_append, List.replicate_succ, List.replicate_zero]
  simp only [XX, ↓VC, VP, TT, Nat.reduceEqDiff, reduceCtorEq, Nat.reduceAdd, Nat.reduceSub, Nat.reduceLT, Nat.reduceMul, Nat.reducePow, Nat.reduceLeDiff, Int.reduceToNat, Int.reduceLE, Int.reduceLT, Int.reducePow, z256, z16, cip_build, cipC_len z256 z16 z16, cip_spl0, cip_spl1 z256 z16 z16]
  refine ⟨mem5 rfl rfl rfl rfl rfl, ?_⟩
  refine kLoop_of (fun x : Nat => ([.j, .j, .p 0 0, .p 1 0, .j, .j, .j, .j, .j, .j, .j, .c (.int .i64 (x)), .j, .j, .j, .j, .j, .j, .j, .j, .j, .j, .j, .j, .j, .j, .j, .j, .j, .j, .j, .j, .j, .j, .j, .j, .j, .j, .j, .j, .j, .j, .j, .j, .j, .j, .j, .j, .j, .j, .j, .j, .j, .j, .j, .j, .j, .j, .j, .j, .j], [⟨true, cipC 0 (List.replicate 256 0) (List.replicate 16 0) (List.replicate 16 0) 0⟩, ⟨true, cipC 285 (fl 256 (fun _ => 0) houseF x) (List.replicate 16 0) (List.replicate 16 0) r⟩])) (fun x => 256 - x) (fun x => x ≤ 256) 0 (by omega)
    ⟨[0, 1], by rw [← fl_zero]; simp [-List.reduceReplicate, LES, renL_cip, okL_cip]⟩ ?_
  intro x hx
  have hfx := fl_len 256 (fun _ => 0) houseF x
  rcases Nat.lt_or_ge x 256 with h | h
  · simp only [↓VC, VP, TT, Nat.reduceEqDiff, reduceCtorEq, Nat.reduceAdd, Nat.reduceSub, Nat.reduceLT, Nat.reduceMul, Nat.reducePow, Nat.reduceLeDiff, Int.reduceToNat, Int.reduceLE, Int.reduceLT, Int.reducePow, h, (eq_true (by omega) : ((x : Int) < 256) = True), (eq_true (by omega) : ((x : Int) < ((256 : Nat) : Int)) = True), wrap_i64 (n := (x : Int) + 1) (by omega) (by omega), decide_true, byte_conv]
    refine kCall_val (c_impl_inverse 285 (UInt8.ofInt (x : Int)) (by omega) (by omega)) (by rfl) [] (by simp [CALL]) (by simp [CALL, cellsAt]) (by simp [CALL]) (by simp [okL_bs]) ?_
    simp only [CALL, ↓VC, VP, TT, Nat.reduceEqDiff, reduceCtorEq, Nat.reduceAdd, Nat.reduceSub, Nat.reduceLT, Nat.reduceMul, Nat.reducePow, Nat.reduceLeDiff, Int.reduceToNat, Int.reduceLE, Int.reduceLT, Int.reducePow]
    refine kCall_val (c_RotateLeft8 (pw254 285 (UInt8.ofInt (x : Int))) 1 (by omega)) (by rfl) [] (by simp [CALL]) (by simp [CALL, cellsAt]) (by simp [CALL]) (by simp [okL_bs]) ?_
    simp only [CALL, ↓VC, VP, TT, Nat.reduceEqDiff, reduceCtorEq, Nat.reduceAdd, Nat.reduceSub, Nat.reduceLT, Nat.reduceMul, Nat.reducePow, Nat.reduceLeDiff, Int.reduceToNat, Int.reduceLE, Int.reduceLT, Int.reducePow]
    refine kCall_val (c_RotateLeft8 (pw254 285 (UInt8.ofInt (x : Int))) 4 (by omega)) (by rfl) [] (by simp [CALL]) (by simp [CALL, cellsAt]) (by simp [CALL]) (by simp [okL_bs]) ?_
    simp only [CALL, ↓VC, VP, TT, Nat.reduceEqDiff, reduceCtorEq, Nat.reduceAdd, Nat.reduceSub, Nat.reduceLT, Nat.reduceMul, Nat.reducePow, Nat.reduceLeDiff, Int.reduceToNat, Int.reduceLE, Int.reduceLT, Int.reducePow, bitI_90, h, (eq_true (by omega) : ((x : Int) < ((256 : Nat) : Int)) = True), ↓cip_put_box1 hfx h (of_eq_true (inU8_toNat _)), cipC_len hfx z16 z16]
    refine ⟨x + 1, by omega, by omega, [0, 1], ?_⟩
    rw [fl_set (v := ((pw254 285 (UInt8.ofInt (x : Int)) ^^^ rot8 (pw254 285 (UInt8.ofInt (x : Int))) 1) ^^^ rot8 (pw254 285 (UInt8.ofInt (x : Int))) 4) ^^^ 90) h rfl, wrap_i64 (by omega) (by omega)]
    simp [-List.reduceReplicate, LES, renL_cip, okL_cip]
  · obtain rfl : x = 256 := by omega
    simp only [↓VC, VP, TT, Nat.reduceEqDiff, reduceCtorEq, Nat.reduceAdd, Nat.reduceSub, Nat.reduceLT, Nat.reduceMul, Nat.reducePow, Nat.reduceLeDiff, Int.reduceToNat, Int.reduceLE, Int.reduceLT, Int.reducePow, (eq_false (by omega) : (((256 : Nat) : Int) < 256) = False), decide_false]
    rw [fl_done, show tab 256 houseF = houseB from rfl]
    refine kLoop_of (fun i : Nat => ([.j, .j, .p 0 0, .p 1 0, .j, .j, .j, .j, .j, .j, .j, .j, .j, .j, .j, .j, .j, .j, .j, .j, .j, .j, .j, .j, .j, .j, .j, .j, .j, .c (.int .i64 (i)), .j, .j, .j, .j, .j, .j, .j, .j, .j, .j, .j, .j, .j, .j, .j, .j, .j, .j, .j, .j, .j, .j, .j, .j, .j, .j, .j, .j, .j, .j, .j], [⟨true, cipC 0 (List.replicate 256 0) (List.replicate 16 0) (List.replicate 16 0) 0⟩, ⟨true, cipC 285 houseB (fl 16 (fun _ => 0) houseG (4 * i)) (List.replicate 16 0) r⟩])) (fun i => 4 - i) (fun i => i ≤ 4) 0 (by omega)
      ⟨[0, 1], by rw [Nat.mul_zero, ← fl_zero]; simp [-List.reduceReplicate, LES, renL_cip, okL_cip]⟩ ?_
    intro i hi
    rcases Nat.lt_or_ge i 4 with h | h
    · simp only [↓VC, VP, TT, Nat.reduceEqDiff, reduceCtorEq, Nat.reduceAdd, Nat.reduceSub, Nat.reduceLT, Nat.reduceMul, Nat.reducePow, Nat.reduceLeDiff, Int.reduceToNat, Int.reduceLE, Int.reduceLT, Int.reducePow, h, (eq_true (by omega) : ((i : Int) < 4) = True), (eq_true (by omega) : ((i : Int) < ((4 : Nat) : Int)) = True), wrap_i64 (n := (i : Int) + 1) (by omega) (by omega), decide_true]
      refine kLoop_of (fun j : Nat => ([.j, .j, .p 0 0, .p 1 0, .j, .j, .c (.int .i64 (i)), .j, .j, .j, .j, .j, .j, .j, .j, .j, .j, .j, .j, .j, .j, .j, .j, .j, .j, .j, .j, .j, .j, .c (.int .i64 (i)), .j, .j, .c (.int .i64 (j)), .j, .j, .j, .j, .j, .j, .j, .j, .j, .j, .j, .j, .j, .j, .j, .j, .j, .j, .j, .j, .j, .j, .j, .j, .j, .j, .j, .j], [⟨true, cipC 0 (List.replicate 256 0) (List.replicate 16 0) (List.replicate 16 0) 0⟩, ⟨true, cipC 285 houseB (fl 16 (fun _ => 0) houseG (4 * i + j)) (List.replicate 16 0) r⟩])) (fun j => 4 - j) (fun j => j ≤ 4) 0 (by omega)
        ⟨[0, 1], by simp [-List.reduceReplicate, LES, renL_cip, okL_cip]⟩ ?_
      intro j hj
      rcases Nat.lt_or_ge j 4 with h2 | h2
      · have hfl := fl_len 16 (fun _ => 0) houseG (4 * i + j)
        simp only [↓VC, VP, TT, Nat.reduceEqDiff, reduceCtorEq, Nat.reduceAdd, Nat.reduceSub, Nat.reduceLT, Nat.reduceMul, Nat.reducePow, Nat.reduceLeDiff, Int.reduceToNat, Int.reduceLE, Int.reduceLT, Int.reducePow, h2, (eq_true (by omega) : ((j : Int) < 4) = True), (eq_true (by omega) : ((j : Int) < ((4 : Nat) : Int)) = True), wrap_i64 (n := (j : Int) + 1) (by omega) (by omega), decide_true, h, xor_idx i h j h2, byte_conv, (eq_true (by omega) : ((i : Int) < ((4 : Nat) : Int)) = True)]
        refine kCall_val (c_impl_inverse 285 (UInt8.ofInt ((i ^^^ (4 + j) : Nat) : Int)) (by omega) (by omega)) (by rfl) [] (by simp [CALL]) (by simp [CALL, cellsAt]) (by simp [CALL]) (by simp [okL_bs]) ?_
        simp only [CALL, ↓VC, VP, TT, Nat.reduceEqDiff, reduceCtorEq, Nat.reduceAdd, Nat.reduceSub, Nat.reduceLT, Nat.reduceMul, Nat.reducePow, Nat.reduceLeDiff, Int.reduceToNat, Int.reduceLE, Int.reduceLT, Int.reducePow, h, h2, (eq_true (by omega) : ((i : Int) < ((4 : Nat) : Int)) = True), (eq_true (by omega) : ((j : Int) < ((4 : Nat) : Int)) = True), ↓cip_put_mix2 houseB_len hfl h h2 (of_eq_true (inU8_toNat _)), cipC_len houseB_len hfl z16]
        refine ⟨j + 1, by omega, by omega, [0, 1], ?_⟩
        rw [fl_set (by omega) (by unfold houseG; rw [show (4 * i + j) / 4 = i by omega, show (4 * i + j) % 4 = j by omega]), wrap_i64 (by omega) (by omega)]
        simp [-List.reduceReplicate, LES, renL_cip, okL_cip, Nat.add_assoc]
      · obtain rfl : j = 4 := by omega
        simp only [↓VC, VP, TT, Nat.reduceEqDiff, reduceCtorEq, Nat.reduceAdd, Nat.reduceSub, Nat.reduceLT, Nat.reduceMul, Nat.reducePow, Nat.reduceLeDiff, Int.reduceToNat, Int.reduceLE, Int.reduceLT, Int.reducePow, (eq_false (by omega) : (((4 : Nat) : Int) < 4) = False), decide_false, wrap_i64 (n := (i : Int) + 1) (by omega) (by omega)]
        refine ⟨i + 1, by omega, by omega, [0, 1], ?_⟩
        rw [show 4 * i + 4 = 4 * (i + 1) by omega]
        simp [-List.reduceReplicate, LES, renL_cip, okL_cip]
    · obtain rfl : i = 4 := by omega
      simp only [↓VC, VP, TT, Nat.reduceEqDiff, reduceCtorEq, Nat.reduceAdd, Nat.reduceSub, Nat.reduceLT, Nat.reduceMul, Nat.reducePow, Nat.reduceLeDiff, Int.reduceToNat, Int.reduceLE, Int.reduceLT, Int.reducePow, (eq_false (by omega) : (((4 : Nat) : Int) < 4) = False), decide_false]
      rw [fl_done, show tab 16 houseG = houseA from rfl]
      refine kLoop_of (fun i : Nat => ([.j, .j, .p 0 0, .p 1 0, .j, .j, .j, .j, .j, .j, .j, .j, .j, .j, .j, .j, .j, .j, .j, .j, .j, .j, .j, .j, .j, .j, .j, .j, .j, .j, .j, .j, .j, .j, .j, .j, .j, .j, .j, .j, .j, .j, .j, .j, .j, .j, .j, .j, .c (.int .i64 (i)), .j, .j, .j, .j, .j, .j, .j, .j, .j, .j, .j, .j], [⟨true, cipC 0 (List.replicate 256 0) (List.replicate 16 0) (List.replicate 16 0) 0⟩, ⟨true, cipC 285 houseB houseA (fl 16 (fun _ => 0) houseQ i) r⟩])) (fun i => 16 - i) (fun i => i ≤ 16) 0 (by omega)
        ⟨[0, 1], by rw [← fl_zero]; simp [-List.reduceReplicate, LES, renL_cip, okL_cip]⟩ ?_
      intro i hi
      have hfl := fl_len 16 (fun _ => 0) houseQ i
      rcases Nat.lt_or_ge i 16 with h2 | h2
      · have hwu : inU8 (((UInt8.ofInt (((13 * i + 4) % 16 : Nat) : Int)).toNat : Nat) : Int) := of_eq_true (inU8_toNat _)
        simp only [↓VC, VP, TT, Nat.reduceEqDiff, reduceCtorEq, Nat.reduceAdd, Nat.reduceSub, Nat.reduceLT, Nat.reduceMul, Nat.reducePow, Nat.reduceLeDiff, Int.reduceToNat, Int.reduceLE, Int.reduceLT, Int.reducePow, h2, (eq_true (by omega) : ((i : Int) < 16) = True), (eq_true (by omega) : ((i : Int) < ((16 : Nat) : Int)) = True), wrap_i64 (n := (i : Int) + 1) (by omega) (by omega), decide_true, pl_idx i h2, byte_conv, ↓cip_put_pl houseB_len houseA_len hfl h2 hwu]
        refine ⟨by omega, i + 1, by omega, by omega, [0, 1], ?_⟩
        rw [fl_set h2 (show UInt8.ofInt (((13 * i + 4) % 16 : Nat) : Int) = houseQ i from rfl)]
        simp [-List.reduceReplicate, LES, renL_cip, okL_cip]
      · obtain rfl : i = 16 := by omega
        simp only [↓VC, VP, TT, Nat.reduceEqDiff, reduceCtorEq, Nat.reduceAdd, Nat.reduceSub, Nat.reduceLT, Nat.reduceMul, Nat.reducePow, Nat.reduceLeDiff, Int.reduceToNat, Int.reduceLE, Int.reduceLT, Int.reducePow, (eq_false (by omega) : (((16 : Nat) : Int) < 16) = False), decide_false, cipC_len houseB_len houseA_len hfl, ↓cip_all houseB_len houseA_len hfl, cipC_len z256 z16 z16]
        rw [fl_done]
        refine ⟨_, _, [], ⟨rfl, rfl⟩, ?_⟩; simp [-List.reduceReplicate, LES, renL_cip, okL_cip, houseC]; rfl
theorem mem7 {α : Type} {a b c d e f g : α} {p : α → Prop} (ha : p a) (hb : p b) (hc : p c) (hd : p d) (he : p e) (hf : p f) (hg : p g) : ∀ x ∈ [a, b, c, d, e, f, g], p x := by
  intro x hx
  simp only [List.mem_cons, List.not_mem_nil, or_false] at hx
  rcases hx with rfl | rfl | rfl | rfl | rfl | rfl | rfl <;> assumption
/-- What a new engine leads to. -/
def engH (m : Nat) (box A pl : List UInt8) (rd : Int) (own : Bool) : List Blk :=
  [⟨own, engC box (invL 256 box 256) pl (invL 16 pl 16) 1 2 rd⟩, ⟨own, bs (tabL m A)⟩, ⟨own, bs (tabL m (invM m A (unP 4)).2)⟩]
theorem c_newEngine (m : Nat) (box A pl : List UInt8) (rd : Int) (hm : 256 ≤ m) (hm' : m < 512) (hb : box.length = 256) (hA : A.length = 16) (hp : pl.length = 16) (hpl : pl16 pl) :
    LC Tryz.prog 75 [.a (cipC m box A pl rd)] [] (Ret [] (fun _ : Unit => True) fun _ => (.p 0 0, engH m box A pl rd true)) := by
  have hI := invM_len m hA (unP_len 4)
  refine LC_of (X := XX (fun | 2 => .one 0 (.one 1 (.one 2 (.one 3 (.one 5 (.one 6 (.one 7 (.one 8 (.one 10 (.one 11 (.one 12 (.one 13 (.one 15 (.one 16 (.one 17 (.one 19 (.one 20 (.one 4 (.one 9 (.one 14 (.one 18 (.one 21 (.one 22 (.one 23 .nil))))))))))))))))))))))) | _ => .nil) (fun _ => []) [15, 71, 72, 73, 79, 80, 87, 90, 91, 93, 99, 119, 137, 176, 177, 203, 204, 212, 219] 0) envOK Tryz.func75 (by kernel_rfl) (by kernel_rfl) rfl (Nat.le_of_ble_eq_true (by kernel_rfl)) ?_
  simp only [kFun, Tryz.f75, List.length_nil, List.length_cons, Nat.sub_zero, Nat.reduceSub, Nat.reduceAdd, List.nil_append, List.cons_append, List.replicate_succ, List.replicate_zero]
  simp only [XX, ↓VC, VP, TT, Nat.reduceEqDiff, reduceCtorEq, Nat.reduceAdd, Nat.reduceSub, Nat.reduceLT, Nat.reduceMul, Nat.reducePow, Nat.reduceLeDiff, Int.reduceToNat, Int.reduceLE, Int.reduceLT, Int.reducePow, cipC_len hb hA hp, ↓cip_all hb hA hp, ↓cip_field, ↓cip_mix hb hA]
  refine kCall_val (c_impl_invert m A hm hm' hA) (by rfl) [] (by simp [CALL]) (by simp [CALL, cellsAt]) (by simp [CALL]) (by simp [okL_bs]) ?_
  simp only [CALL, ↓VC, VP, TT, Nat.reduceEqDiff, reduceCtorEq, Nat.reduceAdd, Nat.reduceSub, Nat.reduceLT, Nat.reduceMul, Nat.reducePow, Nat.reduceLeDiff, Int.reduceToNat, Int.reduceLE, Int.reduceLT, Int.reducePow, hI, ↓cip_box hb, ↓cip_pl hb hA hp, ↓cip_field, ↓cip_mix hb hA, ↓cip_rd hb hA hp]
  refine kCall_val (c_impl_Box_inverse box hb) (by rfl) [] (by simp [CALL]) (by simp [CALL, cellsAt]) (by simp [CALL]) (by simp [okL_bs]) ?_
  simp only [CALL, ↓VC, VP, TT, Nat.reduceEqDiff, reduceCtorEq, Nat.reduceAdd, Nat.reduceSub, Nat.reduceLT, Nat.reduceMul, Nat.reducePow, Nat.reduceLeDiff, Int.reduceToNat, Int.reduceLE, Int.reduceLT, Int.reducePow, hI]
  refine kCall_val (c_impl_Places_inverse pl hp hpl) (by rfl) [] (by simp [CALL]) (by simp [CALL, cellsAt]) (by simp [CALL]) (by simp [okL_bs]) ?_
  simp only [CALL, ↓VC, VP, TT, Nat.reduceEqDiff, reduceCtorEq, Nat.reduceAdd, Nat.reduceSub, Nat.reduceLT, Nat.reduceMul, Nat.reducePow, Nat.reduceLeDiff, Int.reduceToNat, Int.reduceLE, Int.reduceLT, Int.reducePow, hI]
  refine kCall_Ret (c_newMixer m A hm hm' hA) (by rfl) [] (by simp [CALL]) (by simp [CALL]) (by simp [CALL]) (by simp) (by simp) fun _ _ => ?_
  simp only [CALL, ↓VC, VP, TT, Nat.reduceEqDiff, reduceCtorEq, Nat.reduceAdd, Nat.reduceSub, Nat.reduceLT, Nat.reduceMul, Nat.reducePow, Nat.reduceLeDiff, Int.reduceToNat, Int.reduceLE, Int.reduceLT, Int.reducePow, hI]
  refine kCall_Ret (c_newMixer m (invM m A (unP 4)).2 hm hm' hI) (by rfl) [] (by simp [CALL]) (by simp [CALL]) (by simp [CALL]) (by simp) (by simp) fun _ _ => ?_
  simp only [CALL, ↓VC, VP, TT, Nat.reduceEqDiff, reduceCtorEq, Nat.reduceAdd, Nat.reduceSub, Nat.reduceLT, Nat.reduceMul, Nat.reducePow, Nat.reduceLeDiff, Int.reduceToNat, Int.reduceLE, Int.reduceLT, Int.reducePow, hI, invL_len, hb, hp, splice_app0, splice_appR]
  refine ⟨mem7 rfl rfl rfl rfl rfl rfl rfl, _, _, [4, 2, 3], ⟨(), trivial, rfl, rfl⟩, ?_⟩
  simp [-List.reduceReplicate, LES, engH, renL_eng, okL_eng]
  simp [engC]
end Go.Proofs.YtahnjhppkgndiaaGreat

import Derived.Test.YtahnjhppkgndiaaGreatModE
/- Chaining: the statements' functions. -/
set_option linter.unusedSimpArgs false
set_option linter.unusedVariables false
namespace Go.Proofs.YtahnjhppkgndiaaGreat
open Go Go.Vc
set_option maxRecDepth 10000
set_option maxHeartbeats 4000000
/-- Simplifying facts, bundled. -/
theorem MB : type_of% (
  And.intro @instL_cip <|
  And.intro @okL_cip <|
  And.intro @k_inst <|
  And.intro @k_ok <|
  And.intro @e_inst <|
  And.intro @e_take <|
  And.intro @e_ok <|
  And.intro @keysB_take <|
  And.intro @enc_len <|
  @xorN_len) :=
  And.intro @instL_cip <|
  And.intro @okL_cip <|
  And.intro @k_inst <|
  And.intro @k_ok <|
  And.intro @e_inst <|
  And.intro @e_take <|
  And.intro @e_ok <|
  And.intro @keysB_take <|
  And.intro @enc_len <|
  @xorN_len
theorem c_spec_l07PartsF (l : List UInt8) (cp K : Nat) (hc : l.length ≤ cp) (hm : l.length ≤ 4194304) (hK : l.length = 16 * K) : LC Tryz.prog 133 [.s 0 0 l.length cp] [⟨false, bs l⟩] (Ret [⟨false, bs l⟩] (fun _ : Nat => True) fun r => (.s 1 0 K (K + r), [⟨true, bs l ++ List.replicate (16 * r) .j⟩])) := by
  have := c_spec_l07Parts l cp hc hm
  rw [show (l.length + 15) / 16 = K by omega, partsL_full hK] at this
  exact this
theorem padL_16 (l : List UInt8) : (padL l).length = 16 * ((padL l).length / 16) := by rw [padL_len]; omega
theorem c_spec_ChainEncipher_bad (z n : Int) (box A pl key start l : List UInt8) (q : Nat) (hb : box.length = 256) (hA : A.length = 16) (hp : pl.length = 16) (hkey : key.length = 16) (hstart : start.length = 16) (hE : modE z box A pl n l.length 0 2000 ≠ 0) : LC Tryz.prog 62 [.a (cipC z box A pl n), .a (bs key), .a (bs start), .s 0 0 l.length q] [⟨false, bs l⟩]
    (Ret [⟨false, bs l⟩] (fun _ : Unit => True) fun _ => (.t [.c (.slice none 0 0), .c (.int .i64 (modE z box A pl n l.length 0 2000))], [])) := by
  refine LC_of (X := XX (fun | 4 => .one 0 (.one 1 (.one 2 (.one 3 (.one 4 (.one 5 (.one 6 (.one 7 (.one 8 (.one 9 .nil))))))))) | _ => .nil) (fun _ => []) [15, 71, 72, 73, 79, 80, 87, 90, 91, 93, 99, 119, 137, 176, 177, 203, 204, 212, 219] 1) envOK Tryz.func62 (by kernel_rfl) (by kernel_rfl) rfl (Nat.le_of_ble_eq_true (by kernel_rfl)) ?_
  simp only [kFun, Tryz.f62, List.length_nil, List.length_cons, Nat.sub_zero, Nat.reduceSub, Nat.reduceAdd, List.nil_append, List.cons_append, List.replicate_succ, List.replicate_zero]
  simp only [XX, ↓VC, VP, TT, Nat.reduceEqDiff, reduceCtorEq, Nat.reduceAdd, Nat.reduceSub, Nat.reduceLT, Nat.reduceMul, Nat.reducePow, Nat.reduceLeDiff, Int.reduceToNat, Int.reduceLE, Int.reduceLT, Int.reducePow, cipC_len hb hA hp, ↓cip_all hb hA hp, hkey, hstart]
  refine kCall_val (c_spec_l07Code z n box A pl hb hA hp l.length 0 2000) (by rfl) [] (by simp [CALL, SCB, MB, okL, okV, Cip.bl, Cip.kbl, Cip.kd]) (by simp [CALL, SCB, MB, okL, okV, Cip.bl, Cip.kbl, Cip.kd]) (by simp [CALL, SCB, MB, okL, okV, Cip.bl, Cip.kbl, Cip.kd]) (by simp [okL_bs, okL_room, okL, okV, MB, okL, okV, Cip.bl, Cip.kbl, Cip.kd]) ?_
  simp (config := { maxSteps := 2000000 }) only [CALL, ↓VC, VP, TT, Nat.reduceEqDiff, reduceCtorEq, Nat.reduceAdd, Nat.reduceSub, Nat.reduceLT, Nat.reduceMul, Nat.reducePow, Nat.reduceLeDiff, Int.reduceToNat, Int.reduceLE, Int.reduceLT, Int.reducePow, GOB, Cip.bl, Cip.kbl, Cip.kd, e_inst0, e_inst, k_len, ↓k_all, enc_len, xorN_len]
  refine ⟨fun _ => ⟨_, _, [0], ⟨(), trivial, rfl, rfl⟩, ?_⟩, fun h => absurd (bne_eq_false_iff_eq.1 h) hE⟩
  simp [-List.reduceReplicate, LES]
theorem c_impl_ChainEncipher_bad (z n : Int) (box A pl key start l : List UInt8) (q : Nat) (hb : box.length = 256) (hA : A.length = 16) (hp : pl.length = 16) (hkey : key.length = 16) (hstart : start.length = 16) (hE : modE z box A pl n l.length 0 2000 ≠ 0) : LC Tryz.prog 61 [.a (cipC z box A pl n), .a (bs key), .a (bs start), .s 0 0 l.length q] [⟨false, bs l⟩]
    (Ret [⟨false, bs l⟩] (fun _ : Unit => True) fun _ => (.t [.c (.slice none 0 0), .c (.int .i64 (modE z box A pl n l.length 0 2000))], [])) := by
  refine LC_of (X := XX (fun | 4 => .one 0 (.one 1 (.one 3 (.one 4 (.one 2 (.one 5 (.one 6 (.one 7 (.one 8 .nil)))))))) | _ => .nil) (fun _ => []) [15, 71, 72, 73, 79, 80, 87, 90, 91, 93, 99, 119, 137, 176, 177, 203, 204, 212, 219] 1) envOK Tryz.func61 (by kernel_rfl) (by kernel_rfl) rfl (Nat.le_of_ble_eq_true (by kernel_rfl)) ?_
  simp only [kFun, Tryz.f61, List.length_nil, List.length_cons, Nat.sub_zero, Nat.reduceSub, Nat.reduceAdd, List.nil_append, List.cons_append, List.replicate_succ, List.replicate_zero]
  simp only [XX, ↓VC, VP, TT, Nat.reduceEqDiff, reduceCtorEq, Nat.reduceAdd, Nat.reduceSub, Nat.reduceLT, Nat.reduceMul, Nat.reducePow, Nat.reduceLeDiff, Int.reduceToNat, Int.reduceLE, Int.reduceLT, Int.reducePow, cipC_len hb hA hp, ↓cip_all hb hA hp, hkey, hstart]
  refine kCall_val (c_impl_checkMode z n box A pl l q hb hA hp 0 2000) (by rfl) [(0, 0)] (by simp [CALL, SCB, MB, okL, okV, Cip.bl, Cip.kbl, Cip.kd]) (by simp [CALL, SCB, MB, okL, okV, Cip.bl, Cip.kbl, Cip.kd]) (by simp [CALL, SCB, MB, okL, okV, Cip.bl, Cip.kbl, Cip.kd]) (by simp [okL_bs, okL_room, okL, okV, MB, okL, okV, Cip.bl, Cip.kbl, Cip.kd]) ?_
  simp (config := { maxSteps := 2000000 }) only [CALL, ↓VC, VP, TT, Nat.reduceEqDiff, reduceCtorEq, Nat.reduceAdd, Nat.reduceSub, Nat.reduceLT, Nat.reduceMul, Nat.reducePow, Nat.reduceLeDiff, Int.reduceToNat, Int.reduceLE, Int.reduceLT, Int.reducePow, GOB, Cip.bl, Cip.kbl, Cip.kd, e_inst0, e_inst, k_len, ↓k_all, enc_len, xorN_len]
  refine ⟨fun _ => ⟨_, _, [0], ⟨(), trivial, rfl, rfl⟩, ?_⟩, fun h => absurd (bne_eq_false_iff_eq.1 h) hE⟩
  simp [-List.reduceReplicate, LES]
theorem c_spec_ChainEncipher_k (c : Cip) (key start l : List UInt8) (q : Nat) (hkey : key.length = 16) (hstart : start.length = 16) (hq : l.length ≤ q) (h : 0 ≤ l.length ∧ l.length ≤ 2000) : LC Tryz.prog 62 [.a c.cells, .a (bs key), .a (bs start), .s 0 0 l.length q] [⟨false, bs l⟩]
    (Ret [⟨false, bs l⟩] (fun _ : Nat => True) fun r => (.t [.s 1 0 (chnL (c.enc key) start (padL l) ((padL l).length / 16)).length ((chnL (c.enc key) start (padL l) ((padL l).length / 16)).length + r), .c (.int .i64 (0))], [⟨true, bs (chnL (c.enc key) start (padL l) ((padL l).length / 16)) ++ List.replicate r .j⟩])) := by
  refine LC_of (X := XX (fun | 4 => .one 0 (.one 1 (.one 2 (.one 3 (.one 4 (.one 5 (.one 6 (.one 7 (.one 8 (.one 9 .nil))))))))) | _ => .nil) (fun _ => []) [15, 71, 72, 73, 79, 80, 87, 90, 91, 93, 99, 119, 137, 176, 177, 203, 204, 212, 219] 1) envOK Tryz.func62 (by kernel_rfl) (by kernel_rfl) rfl (Nat.le_of_ble_eq_true (by kernel_rfl)) ?_
  simp only [kFun, Tryz.f62, List.length_nil, List.length_cons, Nat.sub_zero, Nat.reduceSub, Nat.reduceAdd, List.nil_append, List.cons_append, List.replicate_succ, List.replicate_zero]
  simp only [XX, ↓VC, VP, TT, Nat.reduceEqDiff, reduceCtorEq, Nat.reduceAdd, Nat.reduceSub, Nat.reduceLT, Nat.reduceMul, Nat.reducePow, Nat.reduceLeDiff, Int.reduceToNat, Int.reduceLE, Int.reduceLT, Int.reducePow, k_len, ↓k_all, hkey, hstart]
  refine kCall_val (k_spec_code c h) (by rfl) [] (by simp [CALL, SCB, MB, okL, okV, Cip.bl, Cip.kbl, Cip.kd]) (by simp [CALL, SCB, MB, okL, okV, Cip.bl, Cip.kbl, Cip.kd]) (by simp [CALL, SCB, MB, okL, okV, Cip.bl, Cip.kbl, Cip.kd]) (by simp [okL_bs, okL_room, okL, okV, MB, okL, okV, Cip.bl, Cip.kbl, Cip.kd]) ?_
  simp (config := { maxSteps := 2000000 }) only [CALL, ↓VC, VP, TT, Nat.reduceEqDiff, reduceCtorEq, Nat.reduceAdd, Nat.reduceSub, Nat.reduceLT, Nat.reduceMul, Nat.reducePow, Nat.reduceLeDiff, Int.reduceToNat, Int.reduceLE, Int.reduceLT, Int.reducePow, GOB, Cip.bl, Cip.kbl, Cip.kd, e_inst0, e_inst, k_len, ↓k_all, enc_len, xorN_len, hkey, hstart, bne_self_eq_false]
  have hpl := padL_len l
  have h16 := padL_16 l
  have hcl := chnL_len (enc := c.enc key) (start := start) (data := padL l) (fun x => enc_len _ _) ((padL l).length / 16)
  refine kCall_Ret (c_spec_l07Pad l q hq (by omega)) (by rfl) [(0, 0)] (by simp [CALL, SCB, MB, okL, okV, Cip.bl, Cip.kbl, Cip.kd]) (by simp [CALL, SCB, MB, okL, okV, Cip.bl, Cip.kbl, Cip.kd]) (by simp [CALL, SCB, MB, okL, okV, Cip.bl, Cip.kbl, Cip.kd]) (by simp [okL_bs, okL_room, okL, okV, MB, okL, okV, Cip.bl, Cip.kbl, Cip.kd]) (by simp [CALL, SCB, MB, okL, okV, Cip.bl, Cip.kbl, Cip.kd]) fun r0 _ => ?_
  simp (config := { maxSteps := 2000000 }) only [CALL, ↓VC, VP, TT, Nat.reduceEqDiff, reduceCtorEq, Nat.reduceAdd, Nat.reduceSub, Nat.reduceLT, Nat.reduceMul, Nat.reducePow, Nat.reduceLeDiff, Int.reduceToNat, Int.reduceLE, Int.reduceLT, Int.reducePow, GOB, Cip.bl, Cip.kbl, Cip.kd, e_inst0, e_inst, k_len, ↓k_all, enc_len, xorN_len, hkey, hstart]
  refine kCall_Ret (c_spec_l07PartsF (padL l) ((padL l).length + r0) ((padL l).length / 16) (by omega) (by omega) h16) (by rfl) [(4, 0)] (by simp [CALL, SCB, MB, okL, okV, Cip.bl, Cip.kbl, Cip.kd]) (by simp [CALL, SCB, MB, okL, okV, Cip.bl, Cip.kbl, Cip.kd]) (by simp [CALL, SCB, MB, okL, okV, Cip.bl, Cip.kbl, Cip.kd]) (by simp [okL_bs, okL_room, okL, okV, MB, okL, okV, Cip.bl, Cip.kbl, Cip.kd]) (by simp [CALL, SCB, MB, okL, okV, Cip.bl, Cip.kbl, Cip.kd]) fun r1 _ => ?_
  simp (config := { maxSteps := 2000000 }) only [CALL, ↓VC, VP, TT, Nat.reduceEqDiff, reduceCtorEq, Nat.reduceAdd, Nat.reduceSub, Nat.reduceLT, Nat.reduceMul, Nat.reducePow, Nat.reduceLeDiff, Int.reduceToNat, Int.reduceLE, Int.reduceLT, Int.reducePow, GOB, Cip.bl, Cip.kbl, Cip.kd, e_inst0, e_inst, k_len, ↓k_all, enc_len, xorN_len, hkey, hstart]
  refine kCall_Ret (k_spec_chain c key start (padL l) ((padL l).length / 16) ((padL l).length / 16 + r1) hkey hstart h16 (by omega) (by omega)) (by rfl) [(5, 0)] (by simp [CALL, SCB, MB, okL, okV, Cip.bl, Cip.kbl, Cip.kd]) (by simp [CALL, SCB, MB, okL, okV, Cip.bl, Cip.kbl, Cip.kd]) (by simp [CALL, SCB, MB, okL, okV, Cip.bl, Cip.kbl, Cip.kd]) (by simp [okL_bs, okL_room, okL, okV, MB, okL, okV, Cip.bl, Cip.kbl, Cip.kd]) (by simp [CALL, SCB, MB, okL, okV, Cip.bl, Cip.kbl, Cip.kd]) fun r2 _ => ?_
  simp (config := { maxSteps := 2000000 }) only [CALL, ↓VC, VP, TT, Nat.reduceEqDiff, reduceCtorEq, Nat.reduceAdd, Nat.reduceSub, Nat.reduceLT, Nat.reduceMul, Nat.reducePow, Nat.reduceLeDiff, Int.reduceToNat, Int.reduceLE, Int.reduceLT, Int.reducePow, GOB, Cip.bl, Cip.kbl, Cip.kd, e_inst0, e_inst, k_len, ↓k_all, enc_len, xorN_len, hkey, hstart]
  refine kCall_Ret (c_spec_l07Join (chnL (c.enc key) start (padL l) ((padL l).length / 16)) ((padL l).length / 16) ((padL l).length / 16 + r2) hcl (by omega) (by omega)) (by rfl) [(6, 0)] (by simp [CALL, SCB, MB, okL, okV, Cip.bl, Cip.kbl, Cip.kd]) (by simp [CALL, SCB, MB, okL, okV, Cip.bl, Cip.kbl, Cip.kd]) (by simp [CALL, SCB, MB, okL, okV, Cip.bl, Cip.kbl, Cip.kd]) (by simp [okL_bs, okL_room, okL, okV, MB, okL, okV, Cip.bl, Cip.kbl, Cip.kd]) (by simp [CALL, SCB, MB, okL, okV, Cip.bl, Cip.kbl, Cip.kd]) fun r _ => ?_
  simp (config := { maxSteps := 2000000 }) only [CALL, ↓VC, VP, TT, Nat.reduceEqDiff, reduceCtorEq, Nat.reduceAdd, Nat.reduceSub, Nat.reduceLT, Nat.reduceMul, Nat.reducePow, Nat.reduceLeDiff, Int.reduceToNat, Int.reduceLE, Int.reduceLT, Int.reducePow, GOB, Cip.bl, Cip.kbl, Cip.kd, e_inst0, e_inst, k_len, ↓k_all, enc_len, xorN_len, hkey, hstart]
  refine ⟨_, _, [0, 7], ⟨r, trivial, rfl, rfl⟩, ?_⟩
  simp [-List.reduceReplicate, LES]
theorem c_impl_ChainEncipher_k (c : Cip) (key start l : List UInt8) (q : Nat) (hkey : key.length = 16) (hstart : start.length = 16) (hq : l.length ≤ q) (h : 0 ≤ l.length ∧ l.length ≤ 2000) : LC Tryz.prog 61 [.a c.cells, .a (bs key), .a (bs start), .s 0 0 l.length q] [⟨false, bs l⟩]
    (Ret [⟨false, bs l⟩] (fun _ : Nat => True) fun r => (.t [.s 1 0 (chnL (c.enc key) start (padL l) ((padL l).length / 16)).length ((chnL (c.enc key) start (padL l) ((padL l).length / 16)).length + r), .c (.int .i64 (0))], [⟨true, bs (chnL (c.enc key) start (padL l) ((padL l).length / 16)) ++ List.replicate r .j⟩])) := by
  refine LC_of (X := XX (fun | 4 => .one 0 (.one 1 (.one 3 (.one 4 (.one 2 (.one 5 (.one 6 (.one 7 (.one 8 .nil)))))))) | _ => .nil) (fun _ => []) [15, 71, 72, 73, 79, 80, 87, 90, 91, 93, 99, 119, 137, 176, 177, 203, 204, 212, 219] 1) envOK Tryz.func61 (by kernel_rfl) (by kernel_rfl) rfl (Nat.le_of_ble_eq_true (by kernel_rfl)) ?_
  simp only [kFun, Tryz.f61, List.length_nil, List.length_cons, Nat.sub_zero, Nat.reduceSub, Nat.reduceAdd, List.nil_append, List.cons_append, List.replicate_succ, List.replicate_zero]
  simp only [XX, ↓VC, VP, TT, Nat.reduceEqDiff, reduceCtorEq, Nat.reduceAdd, Nat.reduceSub, Nat.reduceLT, Nat.reduceMul, Nat.reducePow, Nat.reduceLeDiff, Int.reduceToNat, Int.reduceLE, Int.reduceLT, Int.reducePow, k_len, ↓k_all, hkey, hstart]
  refine kCall_val (k_impl_code c q h) (by rfl) [(0, 0)] (by simp [CALL, SCB, MB, okL, okV, Cip.bl, Cip.kbl, Cip.kd]) (by simp [CALL, SCB, MB, okL, okV, Cip.bl, Cip.kbl, Cip.kd]) (by simp [CALL, SCB, MB, okL, okV, Cip.bl, Cip.kbl, Cip.kd]) (by simp [okL_bs, okL_room, okL, okV, MB, okL, okV, Cip.bl, Cip.kbl, Cip.kd]) ?_
  simp (config := { maxSteps := 2000000 }) only [CALL, ↓VC, VP, TT, Nat.reduceEqDiff, reduceCtorEq, Nat.reduceAdd, Nat.reduceSub, Nat.reduceLT, Nat.reduceMul, Nat.reducePow, Nat.reduceLeDiff, Int.reduceToNat, Int.reduceLE, Int.reduceLT, Int.reducePow, GOB, Cip.bl, Cip.kbl, Cip.kd, e_inst0, e_inst, k_len, ↓k_all, enc_len, xorN_len, hkey, hstart, bne_self_eq_false]
  have hpl := padL_len l
  have h16 := padL_16 l
  refine kCall_Ret (k_newKeyed c key hkey) (by rfl) [] (by simp [CALL, SCB, MB, okL, okV, Cip.bl, Cip.kbl, Cip.kd]) (by simp [CALL, SCB, MB, okL, okV, Cip.bl, Cip.kbl, Cip.kd]) (by simp [CALL, SCB, MB, okL, okV, Cip.bl, Cip.kbl, Cip.kd]) (by simp [okL_bs, okL_room, okL, okV, MB, okL, okV, Cip.bl, Cip.kbl, Cip.kd]) (by simp [CALL, SCB, MB, okL, okV, Cip.bl, Cip.kbl, Cip.kd]) fun kq _ => ?_
  simp (config := { maxSteps := 2000000 }) only [CALL, ↓VC, VP, TT, Nat.reduceEqDiff, reduceCtorEq, Nat.reduceAdd, Nat.reduceSub, Nat.reduceLT, Nat.reduceMul, Nat.reducePow, Nat.reduceLeDiff, Int.reduceToNat, Int.reduceLE, Int.reduceLT, Int.reducePow, GOB, Cip.bl, Cip.kbl, Cip.kd, e_inst0, e_inst, k_len, ↓k_all, enc_len, xorN_len, hkey, hstart]
  refine kCall_Ret (c_impl_padded l q hq (by omega)) (by rfl) [(0, 0)] (by simp [CALL, SCB, MB, okL, okV, Cip.bl, Cip.kbl, Cip.kd]) (by simp [CALL, SCB, MB, okL, okV, Cip.bl, Cip.kbl, Cip.kd]) (by simp [CALL, SCB, MB, okL, okV, Cip.bl, Cip.kbl, Cip.kd]) (by simp [okL_bs, okL_room, okL, okV, MB, okL, okV, Cip.bl, Cip.kbl, Cip.kd]) (by simp [CALL, SCB, MB, okL, okV, Cip.bl, Cip.kbl, Cip.kd]) fun r0 _ => ?_
  simp (config := { maxSteps := 2000000 }) only [CALL, ↓VC, VP, TT, Nat.reduceEqDiff, reduceCtorEq, Nat.reduceAdd, Nat.reduceSub, Nat.reduceLT, Nat.reduceMul, Nat.reducePow, Nat.reduceLeDiff, Int.reduceToNat, Int.reduceLE, Int.reduceLT, Int.reducePow, GOB, Cip.bl, Cip.kbl, Cip.kd, e_inst0, e_inst, k_len, ↓k_all, enc_len, xorN_len, hkey, hstart]
  refine kCall_Ret (k_impl_chain c key start (padL l) kq ((padL l).length + r0) ((padL l).length / 16) hkey hstart (by omega) h16 (by omega)) (by rfl) [(4, 0), (5, 0), (6, 0), (7, 0), (8, 0)] (by simp [CALL, SCB, MB, okL, okV, Cip.bl, Cip.kbl, Cip.kd]) (by simp [CALL, SCB, MB, okL, okV, Cip.bl, Cip.kbl, Cip.kd]) (by simp [CALL, SCB, MB, okL, okV, Cip.bl, Cip.kbl, Cip.kd]) (by simp [okL_bs, okL_room, okL, okV, MB, okL, okV, Cip.bl, Cip.kbl, Cip.kd]) (by simp [CALL, SCB, MB, okL, okV, Cip.bl, Cip.kbl, Cip.kd]) fun r _ => ?_
  simp (config := { maxSteps := 2000000 }) only [CALL, ↓VC, VP, TT, Nat.reduceEqDiff, reduceCtorEq, Nat.reduceAdd, Nat.reduceSub, Nat.reduceLT, Nat.reduceMul, Nat.reducePow, Nat.reduceLeDiff, Int.reduceToNat, Int.reduceLE, Int.reduceLT, Int.reducePow, GOB, Cip.bl, Cip.kbl, Cip.kd, e_inst0, e_inst, k_len, ↓k_all, enc_len, xorN_len, hkey, hstart]
  refine ⟨_, _, [0, 9], ⟨r, trivial, rfl, rfl⟩, ?_⟩
  simp [-List.reduceReplicate, LES, e_ren, e_ok]
theorem both_ChainEncipher (z n : Int) (box A pl key start l : List UInt8) (q : Nat) (hb : box.length = 256) (hA : A.length = 16) (hp : pl.length = 16) (hkey : key.length = 16) (hstart : start.length = 16) (hq : l.length ≤ q) : ∃ (o : List UInt8) (e : Int), o.length ≤ 4096 ∧
    LC Tryz.prog 62 [.a (cipC z box A pl n), .a (bs key), .a (bs start), .s 0 0 l.length q] [⟨false, bs l⟩] (Ret [⟨false, bs l⟩] (fun _ : Nat => True) fun r => (.t [.s 1 0 o.length (o.length + r), .c (.int .i64 (e))], [⟨true, bs o ++ List.replicate r .j⟩])) ∧
    LC Tryz.prog 61 [.a (cipC z box A pl n), .a (bs key), .a (bs start), .s 0 0 l.length q] [⟨false, bs l⟩] (Ret [⟨false, bs l⟩] (fun _ : Nat => True) fun r => (.t [.s 1 0 o.length (o.length + r), .c (.int .i64 (e))], [⟨true, bs o ++ List.replicate r .j⟩])) := by
  rcases modE_cases (z := z) (n := n) hb hA hp l 0 2000 with hE | ⟨h, c, rfl, rfl, rfl, rfl, rfl⟩
  · exact ⟨[], modE z box A pl n l.length 0 2000, by simp, LC_nil (c_spec_ChainEncipher_bad z n box A pl key start l q hb hA hp hkey hstart hE) (none_uni1 _), LC_nil (c_impl_ChainEncipher_bad z n box A pl key start l q hb hA hp hkey hstart hE) (none_uni1 _)⟩
  · exact ⟨chnL (c.enc key) start (padL l) ((padL l).length / 16), 0, by rw [chnL_len (fun x => enc_len _ _), padL_len]; omega, c_spec_ChainEncipher_k c key start l q hkey hstart hq h, c_impl_ChainEncipher_k c key start l q hkey hstart hq h⟩
end Go.Proofs.YtahnjhppkgndiaaGreat

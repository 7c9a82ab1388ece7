import Derived.Test.YtnlkebkonkdahaaModA
/- Feedback: the reference. -/
set_option linter.unusedSimpArgs false
set_option linter.unusedVariables false
namespace Go.Proofs.Ytnlkebkonkdahaa
open Go Go.Vc
set_option maxRecDepth 10000
set_option maxHeartbeats 4000000
/-- A block of at most 16 bytes, filled up with 0. -/
def fillB (l : List UInt8) : List UInt8 := fl 16 (fun _ => 0) (fun i => l.getD i 0) l.length
theorem fillB_len (l : List UInt8) : (fillB l).length = 16 := fl_len _ _ _ _
theorem fillB_get {l : List UInt8} {j : Nat} (h : j < 16) : (fillB l).getD j 0 = l.getD j 0 := by
  unfold fillB; rw [fl_get h]
  split
  · rfl
  · rw [List.getD_eq_getElem?_getD, List.getElem?_eq_none (by omega)]; rfl
theorem fillB_full {l : List UInt8} (h : l.length = 16) : fillB l = l := by
  unfold fillB; rw [h, fl_done, range_getD h]
theorem mapT_add {n a : Nat} {g : Nat → UInt8} : ∀ m, a + m ≤ n → ((List.range n).map g).take (a + m) = ((List.range n).map g).take a ++ (List.range m).map fun j => g (a + j)
  | 0, _ => by simp
  | m + 1, h => by rw [← Nat.add_assoc, mapT_succ (by omega), mapT_add m (by omega), List.range_succ, List.map_append, List.append_assoc]; rfl
theorem fedL_block {enc : List UInt8 → List UInt8} {b : Bool} {start l P : List UInt8} {k : Nat} (h : 16 * k < l.length) (hP : P = (l.drop (16 * k)).take 16) : (fedL enc b start l).take (16 * k) ++ (xorN 16 (fillB P) (enc (fedH enc b start l k))).take P.length = (fedL enc b start l).take (16 * (k + 1)) := by
  have hl : P.length = min 16 (l.length - 16 * k) := by rw [hP, List.length_take, List.length_drop]
  have e : (fedL enc b start l).take (16 * (k + 1)) = (fedL enc b start l).take (16 * k + P.length) := by
    rcases Nat.lt_or_ge (l.length - 16 * k) 16 with h2 | h2
    · rw [List.take_of_length_le (by rw [fedL_len]; omega), List.take_of_length_le (by rw [fedL_len]; omega)]
    · rw [hl, Nat.min_eq_left h2, Nat.mul_succ]
  rw [e]
  unfold fedL
  rw [mapT_add P.length (by omega)]
  congr 1
  unfold xorN tab
  rw [← List.map_take, List.take_range, Nat.min_eq_left (by omega)]
  refine List.map_congr_left fun j hj => ?_
  rw [List.mem_range] at hj
  rw [fillB_get (by omega), show (16 * k + j) / 16 = k by omega, show (16 * k + j) % 16 = j by omega, hP]
  congr 1
  simp only [List.getD_eq_getElem?_getD, List.getElem?_take, List.getElem?_drop, show j < 16 by omega, if_true]
theorem fedH_own {enc : List UInt8 → List UInt8} {start l : List UInt8} {k : Nat} (h : 16 * (k + 1) ≤ l.length) : xorN 16 (fillB ((l.drop (16 * k)).take 16)) (enc (fedH enc false start l k)) = fedH enc false start l (k + 1) := by
  rw [fedH, if_neg (by simp)]
  refine tab_congr fun j hj => ?_
  rw [fillB_get hj]
  congr 1
  simp only [List.getD_eq_getElem?_getD, List.getElem?_take, List.getElem?_drop, hj, if_true]
theorem fedH_back {enc : List UInt8 → List UInt8} {start l : List UInt8} {k : Nat} (h : 16 * (k + 1) ≤ l.length) : fillB ((l.drop (16 * k)).take 16) = fedH enc true start l (k + 1) := by
  rw [fedH, if_pos rfl, fillB_full (by rw [List.length_take, List.length_drop]; omega)]
theorem seg_blk {l P : List UInt8} {k : Nat} (hP : (l.drop (16 * k)).take 16 = P) : List.take P.length (List.drop (16 * k) (bs l)) = bs P := by
  rw [bs_drop, bs_take, ← hP]
  congr 1
  rw [List.length_take, List.length_drop]
  rcases Nat.le_total 16 (l.length - 16 * k) with h2 | h2
  · rw [Nat.min_eq_left h2]
  · rw [Nat.min_eq_right h2, List.take_of_length_le (by rw [List.length_drop]; omega), List.take_of_length_le (by rw [List.length_drop]; omega)]
theorem c_spec_l07Fill (l : List UInt8) (cp : Nat) (hc : l.length ≤ cp) (h16 : l.length ≤ 16) : LC Try.prog 84 [.s 0 0 l.length cp] [⟨false, bs l⟩] (fun v hp => v = .a (bs (fillB l)) ∧ hp = [⟨false, bs l⟩]) := by
  refine LC_of (X := XX (fun _ => .nil) (fun _ => []) [23, 35, 36, 47, 61, 66, 104, 105, 128, 129, 134, 138, 139, 146] 1) envOK Try.func84 (by kernel_rfl) (by kernel_rfl) rfl (Nat.le_of_ble_eq_true (by kernel_rfl)) ?_
  simp only [kFun, Try.f84, List.length_nil, List.length_cons, Nat.sub_zero, Nat.reduceSub, Nat.reduceAdd, List.nil_append, List.cons_append, List.replicate_succ, List.replicate_zero]
  simp only [XX, ↓VC, VP, TT, List.getElem?_toArray, Nat.reduceEqDiff, reduceCtorEq, Nat.reduceAdd, Nat.reduceSub, Nat.reduceLT, Nat.reduceMul, Nat.reducePow, Nat.reduceLeDiff, Int.reduceToNat, Int.reduceLE, Int.reduceLT, Int.reducePow]
  refine kLoop_of (fun i : Nat => ([.s 0 0 l.length cp, .j, .p 1 0, .p 2 0, .c (.int .i64 (i)), .j, .j, .j, .j, .j, .j, .j, .j, .j, .j, .j, .j, .j, .j], [⟨false, bs l⟩, ⟨true, bs (List.replicate 16 0)⟩, ⟨true, bs (fl 16 (fun _ => 0) (fun i => l.getD i 0) i)⟩])) (fun i => l.length - i) (fun i => i ≤ l.length) 0 (by omega)
    ⟨[0, 1, 2], by rw [← fl_zero]; simp [-List.reduceReplicate, LES]⟩ ?_
  intro i hi
  rcases Nat.lt_or_ge i l.length with h | h
  · have h2 : i < 16 := by omega
    simp only [↓VC, VP, TT, List.getElem?_toArray, Nat.reduceEqDiff, reduceCtorEq, Nat.reduceAdd, Nat.reduceSub, Nat.reduceLT, Nat.reduceMul, Nat.reducePow, Nat.reduceLeDiff, Int.reduceToNat, Int.reduceLE, Int.reduceLT, Int.reducePow, fl_len, (eq_true (by omega) : ((i : Int) < (l.length : Int)) = True), decide_true, h2, (eq_true (by omega) : ((i : Int) < 16) = True), (eq_true (by omega) : ((i : Int) < ((16 : Nat) : Int)) = True), wrap_i64 (n := (i : Int) + 1) (by omega) (by omega), decide_true]
    try rw [fl_set h2 rfl]
    repeat' apply And.intro
    all_goals first | omega | skip
    refine ⟨i + 1, by omega, by omega, [0, 1, 2], ?_⟩
    simp [-List.reduceReplicate, LES]
  · obtain rfl : i = l.length := by omega
    simp only [↓VC, VP, TT, List.getElem?_toArray, Nat.reduceEqDiff, reduceCtorEq, Nat.reduceAdd, Nat.reduceSub, Nat.reduceLT, Nat.reduceMul, Nat.reducePow, Nat.reduceLeDiff, Int.reduceToNat, Int.reduceLE, Int.reduceLT, Int.reducePow, fl_len, (eq_false (by omega) : ((l.length : Int) < (l.length : Int)) = False), decide_false]
    refine ⟨_, _, [0], ⟨rfl, rfl⟩, ?_⟩
    simp [-List.reduceReplicate, LES, fillB]
theorem k_spec_feed (c : Cip) (key start l : List UInt8) (cp : Nat) (b : Bool) (hk : key.length = 16) (hs : start.length = 16) (hc : l.length ≤ cp) (hm : l.length ≤ 4194304) : LC Try.prog 60 [.a c.cells, .a (bs key), .a (bs start), .s 0 0 l.length cp, .c (.bool (b))] [⟨false, bs l⟩] (Ret [⟨false, bs l⟩] (fun _ : Nat => True) fun r => (.s 1 0 l.length (l.length + r), [⟨true, bs (fedL (c.enc key) b start l) ++ List.replicate r .j⟩])) := by
  refine LC_of (X := XX (fun | 5 => .one 0 (.one 1 (.one 2 (.one 3 (.one 4 (.one 6 (.one 7 (.one 8 (.one 9 (.one 10 (.one 11 (.one 12 (.one 13 (.one 5 (.one 14 (.one 15 (.one 16 .nil)))))))))))))))) | 6 => .one 0 (.one 2 (.one 1 (.one 3 (.one 4 (.one 5 .nil))))) | _ => .nil) (fun | 5 => [(14, 13)] | 6 => [(4, 15)] | _ => []) [23, 35, 36, 47, 61, 66, 104, 105, 128, 129, 134, 138, 139, 146] 1) envOK Try.func60 (by kernel_rfl) (by kernel_rfl) rfl (Nat.le_of_ble_eq_true (by kernel_rfl)) ?_
  simp only [kFun, Try.f60, List.length_nil, List.length_cons, Nat.sub_zero, Nat.reduceSub, Nat.reduceAdd, List.nil_append, List.cons_append, List.replicate_succ, List.replicate_zero]
  simp only [XX, ↓VC, VP, TT, List.getElem?_toArray, Nat.reduceEqDiff, reduceCtorEq, Nat.reduceAdd, Nat.reduceSub, Nat.reduceLT, Nat.reduceMul, Nat.reducePow, Nat.reduceLeDiff, Int.reduceToNat, Int.reduceLE, Int.reduceLT, Int.reducePow, hk, hs, k_len, ↓k_all]
  refine kLoop_of (fun s : Nat × Nat × List UInt8 => ([.j, .j, .j, .s 0 0 l.length cp, .c (.bool (b)), .p 1 0, .p 2 0, .p 3 0, .j, .j, .j, .s 4 0 (min (16 * s.1) l.length) (min (16 * s.1) l.length + s.2.1), .c (.int .i64 ((16 * s.1 : Nat))), .j, .j, .j, .j, .j, .j, .j, .j, .j, .j, .j, .j, .j, .j, .j, .j, .j, .j, .j, .j, .j, .j, .j, .j, .j, .j, .j, .j, .j, .j, .j, .j, .j, .j, .j, .j, .j, .j], [⟨false, bs l⟩, ⟨true, c.cells⟩, ⟨true, bs key⟩, ⟨true, bs s.2.2⟩, ⟨true, bs ((fedL (c.enc key) b start l).take (16 * s.1)) ++ List.replicate s.2.1 .j⟩])) (fun s => l.length - 16 * s.1) (fun s => 16 * s.1 < l.length + 16 ∧ s.2.2.length = 16 ∧ (16 * s.1 ≤ l.length → s.2.2 = fedH (c.enc key) b start l s.1)) (0, 0, start) ⟨by simp, hs, fun _ => rfl⟩ ⟨[0, 1, 2, 3, 4], by simp [-List.reduceReplicate, LES, bs_nil, k_ren, k_ok]⟩ ?_
  rintro ⟨k, r, h⟩ ⟨hk16, hh, hH⟩
  simp only at hk16 hh hH
  have hT : ((fedL (c.enc key) b start l).take (16 * k)).length = min (16 * k) l.length := by rw [List.length_take, fedL_len]
  rcases Nat.lt_or_ge (16 * k) l.length with h1 | h1
  · simp only [↓VC, VP, TT, List.getElem?_toArray, Nat.reduceEqDiff, reduceCtorEq, Nat.reduceAdd, Nat.reduceSub, Nat.reduceLT, Nat.reduceMul, Nat.reducePow, Nat.reduceLeDiff, Int.reduceToNat, Int.reduceLE, Int.reduceLT, Int.reducePow, (eq_true (by omega) : (((16 * k : Nat) : Int) < (l.length : Int)) = True), decide_true, hh, hk, k_len, ↓k_all, ↓k_rd]
    generalize hP : (l.drop (16 * k)).take 16 = P
    have hPl : P.length = min 16 (l.length - 16 * k) := by rw [← hP, List.length_take, List.length_drop]
    have hmin : min (IntKind.i64.wrap (((16 * k : Nat) : Int) + 16)) (l.length : Int) = ((16 * k + P.length : Nat) : Int) := by rw [wrap_i64 (by omega) (by omega)]; omega
    have hseg := seg_blk hP
    have hfb := fedL_block (enc := c.enc key) (b := b) (start := start) h1 hP.symm
    rw [hmin]
    refine ⟨by omega, by omega, by omega, ?_⟩
    rw [Int.toNat_natCast, Nat.add_sub_cancel_left]
    obtain rfl := hH (by omega)
    generalize hF : fedH (c.enc key) b start l k = F at *
    refine kCall_val (k_spec_encipher c key F hk hh) (by rfl) [] (by simp [CALL, cellsAt, tk, take_room, bs_length, bs_nil, instL_cip, okL_cip, k_inst, k_ok, okL, okV, fillB_len, enc_len, xorN_len]) (by simp [CALL, cellsAt, tk, take_room, bs_length, bs_nil, instL_cip, okL_cip, k_inst, k_ok, okL, okV, fillB_len, enc_len, xorN_len]) (by simp [CALL, cellsAt, tk, take_room, bs_length, bs_nil, instL_cip, okL_cip, k_inst, k_ok, okL, okV, fillB_len, enc_len, xorN_len]) (by simp [okL_bs, okL_room, okL, okV, instL_cip, okL_cip, k_inst, k_ok, okL, okV, fillB_len, enc_len, xorN_len]) ?_
    simp (config := { maxSteps := 2000000 }) only [CALL, ↓VC, VP, TT, List.getElem?_toArray, Nat.reduceEqDiff, reduceCtorEq, Nat.reduceAdd, Nat.reduceSub, Nat.reduceLT, Nat.reduceMul, Nat.reducePow, Nat.reduceLeDiff, Int.reduceToNat, Int.reduceLE, Int.reduceLT, Int.reducePow, instL_room, Bool.not_true, Bool.not_false, k_len, ↓k_all, enc_len, fillB_len, xorN_len, hh]
    refine kCall_val (c_spec_l07Fill P (cp - 16 * k) (by omega) (by omega)) (by rfl) [(0, 16 * k)] (by simp [CALL, cellsAt, tk, take_room, bs_length, bs_nil, instL_cip, okL_cip, k_inst, k_ok, okL, okV, fillB_len, enc_len, xorN_len, hseg]) (by simp [CALL, cellsAt, tk, take_room, bs_length, bs_nil, instL_cip, okL_cip, k_inst, k_ok, okL, okV, fillB_len, enc_len, xorN_len, hseg]) (by simp [CALL, cellsAt, tk, take_room, bs_length, bs_nil, instL_cip, okL_cip, k_inst, k_ok, okL, okV, fillB_len, enc_len, xorN_len, hseg]) (by simp [okL_bs, okL_room, okL, okV, instL_cip, okL_cip, k_inst, k_ok, okL, okV, fillB_len, enc_len, xorN_len, hseg]) ?_
    simp (config := { maxSteps := 2000000 }) only [CALL, ↓VC, VP, TT, List.getElem?_toArray, Nat.reduceEqDiff, reduceCtorEq, Nat.reduceAdd, Nat.reduceSub, Nat.reduceLT, Nat.reduceMul, Nat.reducePow, Nat.reduceLeDiff, Int.reduceToNat, Int.reduceLE, Int.reduceLT, Int.reducePow, instL_room, Bool.not_true, Bool.not_false, k_len, ↓k_all, enc_len, fillB_len, xorN_len, hh, fillB_len]
    refine kCall_val (c_spec_l01Xor (fillB P) (c.enc key F) (fillB_len _) (enc_len _ _)) (by rfl) [] (by simp [CALL, cellsAt, tk, take_room, bs_length, bs_nil, instL_cip, okL_cip, k_inst, k_ok, okL, okV, fillB_len, enc_len, xorN_len]) (by simp [CALL, cellsAt, tk, take_room, bs_length, bs_nil, instL_cip, okL_cip, k_inst, k_ok, okL, okV, fillB_len, enc_len, xorN_len]) (by simp [CALL, cellsAt, tk, take_room, bs_length, bs_nil, instL_cip, okL_cip, k_inst, k_ok, okL, okV, fillB_len, enc_len, xorN_len]) (by simp [okL_bs, okL_room, okL, okV, instL_cip, okL_cip, k_inst, k_ok, okL, okV, fillB_len, enc_len, xorN_len]) ?_
    simp (config := { maxSteps := 2000000 }) only [CALL, ↓VC, VP, TT, List.getElem?_toArray, Nat.reduceEqDiff, reduceCtorEq, Nat.reduceAdd, Nat.reduceSub, Nat.reduceLT, Nat.reduceMul, Nat.reducePow, Nat.reduceLeDiff, Int.reduceToNat, Int.reduceLE, Int.reduceLT, Int.reducePow, instL_room, Bool.not_true, Bool.not_false, k_len, ↓k_all, enc_len, fillB_len, xorN_len, hh, xorN_len]
    have hg := xorN_len 16 (fillB P) (c.enc key F)
    have hfl : (List.take P.length (xorN 16 (fillB P) (c.enc key F))).length = P.length := by rw [List.length_take, hg]; omega
    refine ⟨by omega, by omega, by omega, by omega, by omega, .inr (by omega), fun r1 c' hc' _ => ?_⟩
    rw [Nat.sub_zero] at hc'
    have e0 : min (16 * k) l.length + P.length = min (16 * (k + 1)) l.length := by omega
    rw [Nat.sub_zero, take_room hT.symm, bs_take, bs_append, hfb, hc', e0]
    have ei : ∀ x : Nat, x = k → IntKind.i64.wrap (((16 * x : Nat) : Int) + 16) = ((16 * (x + 1) : Nat) : Int) := by rintro x rfl; rw [wrap_i64 (by omega) (by omega)]; omega
    refine ⟨fun hb => ?_, fun hb => ?_⟩
    · refine kCall_val (c_spec_l07Fill P (cp - 16 * k) (by omega) (by omega)) (by rfl) [(0, 16 * k)] (by simp [CALL, cellsAt, tk, take_room, bs_length, bs_nil, instL_cip, okL_cip, k_inst, k_ok, okL, okV, fillB_len, enc_len, xorN_len, hseg]) (by simp [CALL, cellsAt, tk, take_room, bs_length, bs_nil, instL_cip, okL_cip, k_inst, k_ok, okL, okV, fillB_len, enc_len, xorN_len, hseg]) (by simp [CALL, cellsAt, tk, take_room, bs_length, bs_nil, instL_cip, okL_cip, k_inst, k_ok, okL, okV, fillB_len, enc_len, xorN_len, hseg]) (by simp [okL_bs, okL_room, okL, okV, instL_cip, okL_cip, k_inst, k_ok, okL, okV, fillB_len, enc_len, xorN_len, hseg]) ?_
      simp (config := { maxSteps := 2000000 }) only [CALL, ↓VC, VP, TT, List.getElem?_toArray, Nat.reduceEqDiff, reduceCtorEq, Nat.reduceAdd, Nat.reduceSub, Nat.reduceLT, Nat.reduceMul, Nat.reducePow, Nat.reduceLeDiff, Int.reduceToNat, Int.reduceLE, Int.reduceLT, Int.reducePow, instL_room, Bool.not_true, Bool.not_false, k_len, ↓k_all, enc_len, fillB_len, xorN_len, hg, fillB_len]
      refine ⟨(k + 1, r1, fillB P), ⟨by simp only; omega, fillB_len _, fun h5 => ?_⟩, by simp only; omega, [0, 1, 2, 3, 7], ?_⟩
      · rw [hb, ← fedH_back h5, hP]
      · rw [ei k rfl]
        simp [-List.reduceReplicate, LES, k_ren, k_ok]
    · refine ⟨(k + 1, r1, xorN 16 (fillB P) (c.enc key F)), ⟨by simp only; omega, hg, fun h5 => ?_⟩, by simp only; omega, [0, 1, 2, 3, 7], ?_⟩
      · rw [hb, ← fedH_own h5, hP, ← hb, hF]
      · rw [ei k rfl]
        simp [-List.reduceReplicate, LES, k_ren, k_ok]
  · simp only [↓VC, VP, TT, List.getElem?_toArray, Nat.reduceEqDiff, reduceCtorEq, Nat.reduceAdd, Nat.reduceSub, Nat.reduceLT, Nat.reduceMul, Nat.reducePow, Nat.reduceLeDiff, Int.reduceToNat, Int.reduceLE, Int.reduceLT, Int.reducePow, (eq_false (by omega) : (((16 * k : Nat) : Int) < (l.length : Int)) = False), decide_false]
    rw [List.take_of_length_le (by rw [fedL_len]; omega), Nat.min_eq_right h1]
    refine ⟨_, _, [0, 4], ⟨r, trivial, rfl, rfl⟩, ?_⟩
    simp [-List.reduceReplicate, LES]
end Go.Proofs.Ytnlkebkonkdahaa

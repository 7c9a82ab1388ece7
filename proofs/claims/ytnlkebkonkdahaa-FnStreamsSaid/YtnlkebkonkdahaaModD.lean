import Derived.Test.YtnlkebkonkdahaaModC
import Derived.Test.YtnlkebkonkdahaaModB
/- Chaining and feedback: the program. -/
set_option linter.unusedSimpArgs false
set_option linter.unusedVariables false
namespace Go.Proofs.Ytnlkebkonkdahaa
open Go Go.Vc
set_option maxRecDepth 10000
set_option maxHeartbeats 4000000
theorem splB_full {l v : List UInt8} (h : v.length = l.length) : splB l 0 v = v := by
  unfold splB; rw [h, Nat.zero_add, List.drop_length]; simp
theorem k_impl_feed (c : Cip) (key start l : List UInt8) (q cp : Nat) (b : Bool) (hk : key.length = 16) (hs : start.length = 16) (hc : l.length ≤ cp) (hm : l.length ≤ 4194304) : LC Try.prog 59 [c.kd q, .a (bs start), .s 4 0 l.length cp, .c (.bool (b))] (c.kbl false key q ++ [⟨false, bs l⟩]) (Ret (c.kbl false key q ++ [⟨false, bs l⟩]) (fun _ : Nat => True) fun r => (.s 5 0 l.length (l.length + r), [⟨true, bs (fedL (c.enc key) b start l) ++ List.replicate r .j⟩])) := by
  unfold Cip.kbl Cip.kd
  refine LC_of (X := XX (fun | 5 => .one 0 (.one 1 (.one 3 (.one 4 (.one 5 (.one 6 (.one 7 (.one 8 (.one 9 (.one 10 (.one 2 (.one 11 (.one 12 (.one 13 .nil))))))))))))) | 13 => .one 0 (.one 1 (.one 2 (.one 3 (.one 4 .nil)))) | _ => .nil) (fun | 5 => [(11, 11)] | _ => []) [23, 35, 36, 47, 61, 66, 104, 105, 128, 129, 134, 138, 139, 146] 5) envOK Try.func59 (by kernel_rfl) (by kernel_rfl) rfl (Nat.le_of_ble_eq_true (by kernel_rfl)) ?_
  simp only [kFun, Try.f59, List.length_nil, List.length_cons, Nat.sub_zero, Nat.reduceSub, Nat.reduceAdd, List.nil_append, List.cons_append, List.replicate_succ, List.replicate_zero]
  simp only [XX, ↓VC, VP, TT, List.getElem?_toArray, Nat.reduceEqDiff, reduceCtorEq, Nat.reduceAdd, Nat.reduceSub, Nat.reduceLT, Nat.reduceMul, Nat.reducePow, Nat.reduceLeDiff, Int.reduceToNat, Int.reduceLE, Int.reduceLT, Int.reducePow, hs]
  refine kLoop_of (fun s : Nat × Nat × List UInt8 => ([.j, .j, .s 4 0 l.length cp, .c (.bool (b)), .p 5 0, .p 6 0, .j, .j, .j, .s 7 0 (min (16 * s.1) l.length) (min (16 * s.1) l.length + s.2.1), .c (.int .i64 ((16 * s.1 : Nat))), .j, .j, .j, .j, .j, .j, .j, .j, .j, .j, .j, .j, .j, .j, .j, .j, .j, .j, .j, .j, .j, .j, .j, .j, .j, .j, .j, .j, .j, .j, .j, .j, .j, .j, .j, .j, .j, .j, .j, .j, .j, .j, .j, .j, .j, .j, .j, .j], [⟨false, c.eng 1 2⟩, ⟨false, bs c.t1⟩, ⟨false, bs c.t2⟩, ⟨false, bs (keysL c.box key (c.n + 1)) ++ List.replicate (16 * q) .j⟩, ⟨false, bs l⟩, ⟨true, [.p 0 0, .s 3 0 (c.n + 1) (c.n + 1 + q)]⟩, ⟨true, bs s.2.2⟩, ⟨true, bs ((fedL (c.enc key) b start l).take (16 * s.1)) ++ List.replicate s.2.1 .j⟩])) (fun s => l.length - 16 * s.1) (fun s => 16 * s.1 < l.length + 16 ∧ s.2.2.length = 16 ∧ (16 * s.1 ≤ l.length → s.2.2 = fedH (c.enc key) b start l s.1)) (0, 0, start) ⟨by simp, hs, fun _ => rfl⟩ ⟨[0, 1, 2, 3, 4, 5, 6, 7], by simp [-List.reduceReplicate, LES, bs_nil, e_ren, e_ok]⟩ ?_
  rintro ⟨k, r, h⟩ ⟨hk16, hh, hH⟩
  simp only at hk16 hh hH
  have hT : ((fedL (c.enc key) b start l).take (16 * k)).length = min (16 * k) l.length := by rw [List.length_take, fedL_len]
  rcases Nat.lt_or_ge (16 * k) l.length with h1 | h1
  · simp only [↓VC, VP, TT, List.getElem?_toArray, Nat.reduceEqDiff, reduceCtorEq, Nat.reduceAdd, Nat.reduceSub, Nat.reduceLT, Nat.reduceMul, Nat.reducePow, Nat.reduceLeDiff, Int.reduceToNat, Int.reduceLE, Int.reduceLT, Int.reducePow, (eq_true (by omega) : (((16 * k : Nat) : Int) < (l.length : Int)) = True), decide_true, hh]
    generalize hP : (l.drop (16 * k)).take 16 = P
    have hPl : P.length = min 16 (l.length - 16 * k) := by rw [← hP, List.length_take, List.length_drop]
    have hmin : min (IntKind.i64.wrap (((16 * k : Nat) : Int) + 16)) (l.length : Int) = ((16 * k + P.length : Nat) : Int) := by rw [wrap_i64 (by omega) (by omega)]; omega
    have hseg := seg_blk hP
    have hfb := fedL_block (enc := c.enc key) (b := b) (start := start) h1 hP.symm
    rw [hmin]
    refine ⟨by omega, by omega, by omega, ?_⟩
    rw [Int.toNat_natCast, Nat.add_sub_cancel_left, Nat.min_eq_left (show 16 * k ≤ l.length by omega)]
    rw [Nat.min_eq_left (show 16 * k ≤ l.length by omega)] at hT
    obtain rfl := hH (by omega)
    generalize hF : fedH (c.enc key) b start l k = F at *
    refine kCall_val (k_encipher c key F q hk hh) (by rfl) [(0, 0), (1, 0), (2, 0), (3, 0)] (by simp [CALL, cellsAt, tk, take_room, bs_length, bs_nil, e_inst, e_take, e_ok, okL, okV, Cip.bl, Cip.kbl, Cip.kd, keysB_take, enc_len, xorN_len]) (by simp [CALL, cellsAt, tk, take_room, bs_length, bs_nil, e_inst, e_take, e_ok, okL, okV, Cip.bl, Cip.kbl, Cip.kd, keysB_take, enc_len, xorN_len]) (by simp [CALL, cellsAt, tk, take_room, bs_length, bs_nil, e_inst, e_take, e_ok, okL, okV, Cip.bl, Cip.kbl, Cip.kd, keysB_take, enc_len, xorN_len]) (by simp [okL_bs, okL_room, okL, okV, e_inst, e_take, e_ok, okL, okV, Cip.bl, Cip.kbl, Cip.kd, keysB_take, enc_len, xorN_len]) ?_
    simp (config := { maxSteps := 2000000 }) only [CALL, ↓VC, VP, TT, List.getElem?_toArray, Nat.reduceEqDiff, reduceCtorEq, Nat.reduceAdd, Nat.reduceSub, Nat.reduceLT, Nat.reduceMul, Nat.reducePow, Nat.reduceLeDiff, Int.reduceToNat, Int.reduceLE, Int.reduceLT, Int.reducePow, instL_room, Bool.not_true, Bool.not_false, Cip.bl, Cip.kbl, Cip.kd, e_inst0, e_inst, enc_len, xorN_len, hh, enc_len]
    have hel := enc_len (c := c) key F
    refine kLoop_of (fun s : Nat × Nat => ([.j, .j, .s 4 0 l.length cp, .c (.bool (b)), .p 5 0, .p 6 0, .j, .j, .j, .s 7 0 (16 * k + s.1) (16 * k + s.1 + s.2), .c (.int .i64 ((16 * k : Nat))), .p 8 0, .s 4 (16 * k) P.length (cp - 16 * k), .j, .j, .j, .j, .j, .j, .j, .j, .j, .j, .j, .j, .j, .j, .j, .j, .j, .j, .j, .j, .s 4 (16 * k) P.length (cp - 16 * k), .c (.int .i64 (P.length)), .c (.int .i64 (s.1)), .j, .j, .j, .j, .j, .j, .j, .j, .j, .j, .j, .j, .j, .j, .j, .j, .j, .j, .j, .j, .j, .j, .j], [⟨false, c.eng 1 2⟩, ⟨false, bs c.t1⟩, ⟨false, bs c.t2⟩, ⟨false, bs (keysL c.box key (c.n + 1)) ++ List.replicate (16 * q) .j⟩, ⟨false, bs l⟩, ⟨true, [.p 0 0, .s 3 0 (c.n + 1) (c.n + 1 + q)]⟩, ⟨true, bs F⟩, ⟨true, bs ((fedL (c.enc key) b start l).take (16 * k + s.1)) ++ List.replicate s.2 .j⟩, ⟨true, bs (c.enc key F)⟩])) (fun s => P.length - s.1) (fun s => s.1 ≤ P.length) (0, r) (by simp) ⟨[0, 1, 2, 3, 4, 5, 6, 7, 8], by simp [-List.reduceReplicate, LES, e_ren, e_ok]⟩ ?_
    rintro ⟨j, r⟩ hj
    simp only at hj
    have hT2 : ((fedL (c.enc key) b start l).take (16 * k + j)).length = 16 * k + j := by rw [List.length_take, fedL_len]; omega
    rcases Nat.lt_or_ge j P.length with h3 | h3
    · have hcs := fedL_succ (enc := c.enc key) (b := b) (start := start) (show 16 * k + j < l.length by omega)
      rw [show (16 * k + j) / 16 = k by omega, show (16 * k + j) % 16 = j by omega, hF] at hcs
      simp only [↓VC, VP, TT, List.getElem?_toArray, Nat.reduceEqDiff, reduceCtorEq, Nat.reduceAdd, Nat.reduceSub, Nat.reduceLT, Nat.reduceMul, Nat.reducePow, Nat.reduceLeDiff, Int.reduceToNat, Int.reduceLE, Int.reduceLT, Int.reducePow, (eq_true (by omega) : ((j : Int) < (P.length : Int)) = True), decide_true, hel, hT2]
      refine ⟨by omega, by omega, by omega, by omega, by omega, .inr (by omega), .inr trivial, fun r1 c' hc' _ => ⟨(j + 1, r1), by simp only; omega, by simp only; omega, [0, 1, 2, 3, 4, 5, 6, 10, 8], ?_⟩⟩
      rw [one_moreB, ← hcs, wrap_i64 (by omega) (by omega), hc', show 16 * k + j + 1 = 16 * k + (j + 1) by omega]
      simp [-List.reduceReplicate, LES, e_ren, e_ok]
    · obtain rfl : j = P.length := by omega
      simp only [↓VC, VP, TT, List.getElem?_toArray, Nat.reduceEqDiff, reduceCtorEq, Nat.reduceAdd, Nat.reduceSub, Nat.reduceLT, Nat.reduceMul, Nat.reducePow, Nat.reduceLeDiff, Int.reduceToNat, Int.reduceLE, Int.reduceLT, Int.reducePow, (eq_false (by omega) : ((P.length : Int) < (P.length : Int)) = False), decide_false, hh, hT2]
      have hm16 : min P.length 16 = P.length := by omega
      have ei : ∀ x : Nat, x = k → IntKind.i64.wrap (((16 * x : Nat) : Int) + 16) = ((16 * (x + 1) : Nat) : Int) := by rintro x rfl; rw [wrap_i64 (by omega) (by omega)]; omega
      have e1 : 16 * k + P.length = min (16 * (k + 1)) l.length := by omega
      have e2 : (fedL (c.enc key) b start l).take (16 * k + P.length) = (fedL (c.enc key) b start l).take (16 * (k + 1)) := by
        rcases Nat.lt_or_ge (l.length - 16 * k) 16 with h4 | h4
        · rw [List.take_of_length_le (by rw [fedL_len]; omega), List.take_of_length_le (by rw [fedL_len]; omega)]
        · congr 1; omega
      have e3 : List.drop (16 * k) ((fedL (c.enc key) b start l).take (16 * k + P.length)) = List.take P.length (xorN 16 (fillB P) (c.enc key F)) := by
        rw [e2, ← hfb]
        conv => lhs; rw [show 16 * k = (List.take (16 * k) (fedL (c.enc key) b start l)).length from hT.symm]
        rw [hT, List.drop_left' hT]
      have e4 : List.take P.length (List.drop (16 * k) (bs ((fedL (c.enc key) b start l).take (16 * k + P.length)) ++ List.replicate r V.j)) = bs (List.take P.length (xorN 16 (fillB P) (c.enc key F))) := by
        rw [List.drop_append_of_le_length (by rw [bs_length, hT2]; omega), bs_drop, e3, take_room (by rw [List.length_take, xorN_len]; omega)]
      rw [hm16, hseg, e4, splice_bss, splice_bss]
      refine ⟨fun hb => ⟨by omega, by omega, (k + 1, r, splB F 0 P), ⟨by simp only; omega, ?_, fun h5 => ?_⟩, by simp only; omega, [0, 1, 2, 3, 4, 5, 6, 7], ?_⟩, fun hb => ⟨by omega, by omega, by omega, (k + 1, r, splB F 0 (List.take P.length (xorN 16 (fillB P) (c.enc key F)))), ⟨by simp only; omega, ?_, fun h5 => ?_⟩, by simp only; omega, [0, 1, 2, 3, 4, 5, 6, 7], ?_⟩⟩
      · rw [splB_length (by omega)]; exact hh
      · have hp : P.length = 16 := by simp only at h5; omega
        rw [splB_full (by rw [hp, hh]), hb, ← fedH_back h5, hP, fillB_full hp]
      · rw [ei k rfl, e2, e1]
        simp [-List.reduceReplicate, LES, e_ren, e_ok]
      · rw [splB_length (by rw [List.length_take, xorN_len]; omega)]; exact hh
      · have hp : P.length = 16 := by simp only at h5; omega
        rw [splB_full (by rw [List.length_take, xorN_len, hp, hh]; rfl), List.take_of_length_le (by rw [xorN_len]; omega), hb, ← fedH_own h5, hP, ← hb, hF]
      · rw [ei k rfl, e2, e1]
        simp [-List.reduceReplicate, LES, e_ren, e_ok]
  · simp only [↓VC, VP, TT, List.getElem?_toArray, Nat.reduceEqDiff, reduceCtorEq, Nat.reduceAdd, Nat.reduceSub, Nat.reduceLT, Nat.reduceMul, Nat.reducePow, Nat.reduceLeDiff, Int.reduceToNat, Int.reduceLE, Int.reduceLT, Int.reducePow, (eq_false (by omega) : (((16 * k : Nat) : Int) < (l.length : Int)) = False), decide_false]
    rw [List.take_of_length_le (by rw [fedL_len]; omega), Nat.min_eq_right h1]
    refine ⟨_, _, [0, 1, 2, 3, 4, 7], ⟨r, trivial, rfl, rfl⟩, ?_⟩
    simp [-List.reduceReplicate, LES, e_ren, e_ok]
end Go.Proofs.Ytnlkebkonkdahaa

import Derived.Test.YtpapocmoielldaaModF
import Derived.Test.YtpapocmoielldaaDec
import Derived.Test.YtpapocmoielldaaEngN
/- Chaining: the reference. -/
set_option linter.unusedSimpArgs false
set_option linter.unusedVariables false
namespace Go.Proofs.Ytpapocmoielldaa
open Go Go.Vc
set_option maxRecDepth 10000
set_option maxHeartbeats 4000000
theorem blkB_load {P : List UInt8} {i : Nat} {k : V → Prop} (h : 16 * i + 16 ≤ P.length) : vSub (bs P) (i * 16) 16 k = k (.a (bs ((P.drop (16 * i)).take 16))) := by
  rw [vSub_bs, show i * 16 = 16 * i by omega]
  simp; omega
theorem blkR_load {P : List UInt8} {i : Nat} {R : List V} {k : V → Prop} (h : 16 * i + 16 ≤ P.length) : vSub (bs P ++ R) (i * 16) 16 k = k (.a (bs ((P.drop (16 * i)).take 16))) := by
  rw [vSub_appL (by rw [bs_length]; omega), vSub_bs, show i * 16 = 16 * i by omega]
  simp; omega
theorem blkB_len {P : List UInt8} {i : Nat} (h : 16 * i + 16 ≤ P.length) : ((P.drop (16 * i)).take 16).length = 16 := by
  rw [List.length_take, List.length_drop]; omega
/-- The first k blocks of data, the last one filled up with 0. -/
def partsL (l : List UInt8) : Nat → List UInt8
  | 0 => []
  | k + 1 => partsL l k ++ fillB ((l.drop (16 * k)).take 16)
theorem partsL_len (l : List UInt8) : ∀ k, (partsL l k).length = 16 * k
  | 0 => rfl
  | k + 1 => by rw [partsL, List.length_append, partsL_len l k, fillB_len]; omega
theorem partsL_take {l : List UInt8} : ∀ {k : Nat}, 16 * k ≤ l.length → partsL l k = l.take (16 * k)
  | 0, _ => by simp [partsL]
  | k + 1, h => by rw [partsL, partsL_take (by omega), fillB_full (blkB_len (by omega)), show 16 * (k + 1) = 16 * k + 16 by omega, List.take_add]
theorem partsL_full {l : List UInt8} {K : Nat} (h : l.length = 16 * K) : partsL l K = l := by rw [partsL_take (by omega), ← h, List.take_length]
theorem c_spec_l07Parts (l : List UInt8) (cp : Nat) (hc : l.length ≤ cp) (hm : l.length ≤ 4194304) : LC Try.prog 54 [.s 0 0 l.length cp] [⟨false, bs l⟩] (Ret [⟨false, bs l⟩] (fun _ : Nat => True) fun r => (.s 1 0 ((l.length + 15) / 16) ((l.length + 15) / 16 + r), [⟨true, bs (partsL l ((l.length + 15) / 16)) ++ List.replicate (16 * r) .j⟩])) := by
  refine LC_of (X := XX (fun _ => .nil) (fun _ => []) [19, 36, 117] 1) envOK Try.func54 (by kernel_rfl) (by kernel_rfl) rfl (Nat.le_of_ble_eq_true (by kernel_rfl)) ?_
  simp only [kFun, Try.f54, List.length_nil, List.length_cons, Nat.sub_zero, Nat.reduceSub, Nat.reduceAdd, List.nil_append, List.cons_append, List.replicate_succ, List.replicate_zero]
  simp only [XX, ↓VC, VP, TT, List.getElem?_toArray, Nat.reduceEqDiff, reduceCtorEq, Nat.reduceAdd, Nat.reduceSub, Nat.reduceLT, Nat.reduceMul, Nat.reducePow, Nat.reduceLeDiff, Int.reduceToNat, Int.reduceLE, Int.reduceLT, Int.reducePow]
  refine kLoop_of (fun s : Nat × Nat => ([.s 0 0 l.length cp, .j, .j, .s 1 0 s.1 (s.1 + s.2), .c (.int .i64 ((16 * s.1 : Nat))), .j, .j, .j, .j, .j, .j, .j, .j, .j, .j, .j, .j, .j, .j, .j, .j, .j, .j, .j, .j], [⟨false, bs l⟩, ⟨true, bs (partsL l s.1) ++ List.replicate (16 * s.2) .j⟩])) (fun s => (l.length + 15) / 16 - s.1) (fun s => s.1 ≤ (l.length + 15) / 16) (0, 0) (by simp)
    ⟨[0, 1], by simp [-List.reduceReplicate, LES, bs_nil, partsL]⟩ ?_
  rintro ⟨k, r⟩ hk
  simp only at hk
  have hT := partsL_len l k
  rcases Nat.lt_or_ge (16 * k) l.length with h1 | h1
  · simp only [↓VC, VP, TT, List.getElem?_toArray, Nat.reduceEqDiff, reduceCtorEq, Nat.reduceAdd, Nat.reduceSub, Nat.reduceLT, Nat.reduceMul, Nat.reducePow, Nat.reduceLeDiff, Int.reduceToNat, Int.reduceLE, Int.reduceLT, Int.reducePow, (eq_true (by omega) : (((16 * k : Nat) : Int) < (l.length : Int)) = True), decide_true]
    generalize hP : (l.drop (16 * k)).take 16 = P
    have hPl : P.length = min 16 (l.length - 16 * k) := by rw [← hP, List.length_take, List.length_drop]
    have hmin : min (IntKind.i64.wrap (((16 * k : Nat) : Int) + 16)) (l.length : Int) = ((16 * k + P.length : Nat) : Int) := by rw [wrap_i64 (by omega) (by omega)]; omega
    have hseg := seg_blk hP
    rw [hmin]
    refine ⟨by omega, by omega, by omega, ?_⟩
    rw [Int.toNat_natCast, Nat.add_sub_cancel_left]
    refine kCall_val (c_spec_l07Fill P (cp - 16 * k) (by omega) (by omega)) (by rfl) [(0, 16 * k)] (by simp [CALL, cellsAt, tk, take_room, bs_length, bs_nil, instL_cip, okL_cip, k_inst, k_ok, okL, okV, fillB_len, enc_len, xorN_len, hseg]) (by simp [CALL, cellsAt, tk, take_room, bs_length, bs_nil, instL_cip, okL_cip, k_inst, k_ok, okL, okV, fillB_len, enc_len, xorN_len, hseg]) (by simp [CALL, cellsAt, tk, take_room, bs_length, bs_nil, instL_cip, okL_cip, k_inst, k_ok, okL, okV, fillB_len, enc_len, xorN_len, hseg]) (by simp [okL_bs, okL_room, okL, okV, instL_cip, okL_cip, k_inst, k_ok, okL, okV, fillB_len, enc_len, xorN_len, hseg]) ?_
    simp (config := { maxSteps := 2000000 }) only [CALL, ↓VC, VP, TT, List.getElem?_toArray, Nat.reduceEqDiff, reduceCtorEq, Nat.reduceAdd, Nat.reduceSub, Nat.reduceLT, Nat.reduceMul, Nat.reducePow, Nat.reduceLeDiff, Int.reduceToNat, Int.reduceLE, Int.reduceLT, Int.reducePow, instL_room, Bool.not_true, Bool.not_false, k_len, ↓k_all, enc_len, fillB_len, xorN_len, fillB_len, hT, repl1]
    refine ⟨by omega, by omega, by omega, .inr (by omega), .inr trivial, fun r1 c' hc' _ => ⟨(k + 1, c' - (k + 1)), by simp only; omega, by simp only; omega, [0, 3], ?_⟩⟩
    rw [take_room (by rw [hT]; omega), wrap_i64 (by omega) (by omega), bs_append, show partsL l k ++ fillB P = partsL l (k + 1) by rw [partsL, hP], show r1 = 16 * (c' - (k + 1)) by omega]
    simp [-List.reduceReplicate, LES]
    omega
  · obtain rfl : k = (l.length + 15) / 16 := by omega
    simp only [↓VC, VP, TT, List.getElem?_toArray, Nat.reduceEqDiff, reduceCtorEq, Nat.reduceAdd, Nat.reduceSub, Nat.reduceLT, Nat.reduceMul, Nat.reducePow, Nat.reduceLeDiff, Int.reduceToNat, Int.reduceLE, Int.reduceLT, Int.reducePow, (eq_false (by omega) : (((16 * ((l.length + 15) / 16) : Nat) : Int) < (l.length : Int)) = False), decide_false]
    refine ⟨_, _, [0, 1], ⟨r, trivial, rfl, rfl⟩, ?_⟩
    simp [-List.reduceReplicate, LES]
theorem c_spec_l07Join (D : List UInt8) (K cp : Nat) (hD : D.length = 16 * K) (hc : K ≤ cp) (hm : K ≤ 262144) : LC Try.prog 52 [.s 0 0 K cp] [⟨false, bs D⟩] (Ret [⟨false, bs D⟩] (fun _ : Nat => True) fun r => (.s 1 0 D.length (D.length + r), [⟨true, bs D ++ List.replicate r .j⟩])) := by
  refine LC_of (X := XX (fun _ => .nil) (fun _ => []) [19, 36, 117] 1) envOK Try.func52 (by kernel_rfl) (by kernel_rfl) rfl (Nat.le_of_ble_eq_true (by kernel_rfl)) ?_
  simp only [kFun, Try.f52, List.length_nil, List.length_cons, Nat.sub_zero, Nat.reduceSub, Nat.reduceAdd, List.nil_append, List.cons_append, List.replicate_succ, List.replicate_zero]
  simp only [XX, ↓VC, VP, TT, List.getElem?_toArray, Nat.reduceEqDiff, reduceCtorEq, Nat.reduceAdd, Nat.reduceSub, Nat.reduceLT, Nat.reduceMul, Nat.reducePow, Nat.reduceLeDiff, Int.reduceToNat, Int.reduceLE, Int.reduceLT, Int.reducePow]
  refine kLoop_of (fun s : Nat × Nat => ([.s 0 0 K cp, .j, .j, .s 1 0 (16 * s.1) (16 * s.1 + s.2), .c (.int .i64 (s.1)), .j, .j, .j, .j, .j, .j, .j, .j, .j, .j, .j, .j, .j, .j], [⟨false, bs D⟩, ⟨true, bs (D.take (16 * s.1)) ++ List.replicate s.2 .j⟩])) (fun s => K - s.1) (fun s => s.1 ≤ K) (0, 0) (by simp)
    ⟨[0, 1], by simp [-List.reduceReplicate, LES, bs_nil]⟩ ?_
  rintro ⟨k, r⟩ hk
  simp only at hk
  have hT : (D.take (16 * k)).length = 16 * k := by rw [List.length_take]; omega
  rcases Nat.lt_or_ge k K with h1 | h1
  · simp only [↓VC, VP, TT, List.getElem?_toArray, Nat.reduceEqDiff, reduceCtorEq, Nat.reduceAdd, Nat.reduceSub, Nat.reduceLT, Nat.reduceMul, Nat.reducePow, Nat.reduceLeDiff, Int.reduceToNat, Int.reduceLE, Int.reduceLT, Int.reducePow, (eq_true (by omega) : ((k : Int) < (K : Int)) = True), decide_true]
    refine ⟨by omega, by omega, by omega, .inr (by omega), .inr (by omega), fun r1 c' hc' _ => ⟨(k + 1, r1), by simp only; omega, by simp only; omega, [0, 2], ?_⟩⟩
    rw [take_room hT.symm, wrap_i64 (by omega) (by omega), Nat.add_zero, bs_drop, bs_take, bs_append, show List.drop (k * 16 + 0) D = List.drop (16 * k) D by congr 1; omega, ← List.take_add, show 16 * k + 16 = 16 * (k + 1) by omega, hc']
    simp [-List.reduceReplicate, LES]
    omega
  · obtain rfl : k = K := by omega
    simp only [↓VC, VP, TT, List.getElem?_toArray, Nat.reduceEqDiff, reduceCtorEq, Nat.reduceAdd, Nat.reduceSub, Nat.reduceLT, Nat.reduceMul, Nat.reducePow, Nat.reduceLeDiff, Int.reduceToNat, Int.reduceLE, Int.reduceLT, Int.reducePow, (eq_false (by omega) : ((k : Int) < (k : Int)) = False), decide_false]
    rw [List.take_of_length_le (by omega), ← hD]
    refine ⟨_, _, [0, 1], ⟨r, trivial, rfl, rfl⟩, ?_⟩
    simp [-List.reduceReplicate, LES]
theorem k_spec_chain (c : Cip) (key start D : List UInt8) (K cp : Nat) (hk : key.length = 16) (hs : start.length = 16) (hD : D.length = 16 * K) (hc : K ≤ cp) (hm : K ≤ 262144) : LC Try.prog 53 [.a c.cells, .a (bs key), .a (bs start), .s 0 0 K cp] [⟨false, bs D⟩] (Ret [⟨false, bs D⟩] (fun _ : Nat => True) fun r => (.s 1 0 K (K + r), [⟨true, bs (chnL (c.enc key) start D K) ++ List.replicate (16 * r) .j⟩])) := by
  refine LC_of (X := XX (fun | 5 => .one 0 (.one 1 (.one 2 (.one 3 (.one 4 (.one 5 (.one 6 (.one 8 (.one 9 (.one 7 (.one 10 (.one 11 .nil))))))))))) | _ => .nil) (fun _ => []) [19, 36, 117] 1) envOK Try.func53 (by kernel_rfl) (by kernel_rfl) rfl (Nat.le_of_ble_eq_true (by kernel_rfl)) ?_
  simp only [kFun, Try.f53, List.length_nil, List.length_cons, Nat.sub_zero, Nat.reduceSub, Nat.reduceAdd, List.nil_append, List.cons_append, List.replicate_succ, List.replicate_zero]
  simp only [XX, ↓VC, VP, TT, List.getElem?_toArray, Nat.reduceEqDiff, reduceCtorEq, Nat.reduceAdd, Nat.reduceSub, Nat.reduceLT, Nat.reduceMul, Nat.reducePow, Nat.reduceLeDiff, Int.reduceToNat, Int.reduceLE, Int.reduceLT, Int.reducePow, hk, hs, k_len, ↓k_all]
  refine kLoop_of (fun s : Nat × Nat => ([.j, .j, .j, .s 0 0 K cp, .p 1 0, .p 2 0, .p 3 0, .j, .j, .s 4 0 s.1 (s.1 + s.2), .c (.int .i64 (s.1)), .j, .j, .j, .j, .j, .j, .j, .j, .j, .j, .j, .j, .j, .j, .j, .j, .j, .j, .j, .j, .j, .j, .j], [⟨false, bs D⟩, ⟨true, c.cells⟩, ⟨true, bs key⟩, ⟨true, bs (chnH (c.enc key) start D s.1)⟩, ⟨true, bs (chnL (c.enc key) start D s.1) ++ List.replicate (16 * s.2) .j⟩])) (fun s => K - s.1) (fun s => s.1 ≤ K) (0, 0) (by simp) ⟨[0, 1, 2, 3, 4], by simp [-List.reduceReplicate, LES, bs_nil, chnH, chnL, k_ren, k_ok]⟩ ?_
  rintro ⟨k, r⟩ hk16
  simp only at hk16
  have hT := chnL_len (enc := c.enc key) (start := start) (data := D) (fun x => enc_len _ _) k
  have hH : (chnH (c.enc key) start D k).length = 16 := by cases k with | zero => exact hs | succ k => exact enc_len _ _
  rcases Nat.lt_or_ge k K with h1 | h1
  · have hB := blkB_len (P := D) (i := k) (by omega)
    simp only [↓VC, VP, TT, List.getElem?_toArray, Nat.reduceEqDiff, reduceCtorEq, Nat.reduceAdd, Nat.reduceSub, Nat.reduceLT, Nat.reduceMul, Nat.reducePow, Nat.reduceLeDiff, Int.reduceToNat, Int.reduceLE, Int.reduceLT, Int.reducePow, (eq_true (by omega) : ((k : Int) < (K : Int)) = True), decide_true, hH, hk, k_len, ↓k_all, ↓k_rd, ↓blkB_load (P := D) (i := k) (by omega), hB]
    refine kCall_val (c_spec_l01Xor ((D.drop (16 * k)).take 16) (chnH (c.enc key) start D k) hB hH) (by rfl) [] (by simp [CALL, cellsAt, tk, take_room, bs_length, bs_nil, instL_cip, okL_cip, k_inst, k_ok, okL, okV, fillB_len, enc_len, xorN_len]) (by simp [CALL, cellsAt, tk, take_room, bs_length, bs_nil, instL_cip, okL_cip, k_inst, k_ok, okL, okV, fillB_len, enc_len, xorN_len]) (by simp [CALL, cellsAt, tk, take_room, bs_length, bs_nil, instL_cip, okL_cip, k_inst, k_ok, okL, okV, fillB_len, enc_len, xorN_len]) (by simp [okL_bs, okL_room, okL, okV, instL_cip, okL_cip, k_inst, k_ok, okL, okV, fillB_len, enc_len, xorN_len]) ?_
    simp (config := { maxSteps := 2000000 }) only [CALL, ↓VC, VP, TT, List.getElem?_toArray, Nat.reduceEqDiff, reduceCtorEq, Nat.reduceAdd, Nat.reduceSub, Nat.reduceLT, Nat.reduceMul, Nat.reducePow, Nat.reduceLeDiff, Int.reduceToNat, Int.reduceLE, Int.reduceLT, Int.reducePow, instL_room, Bool.not_true, Bool.not_false, k_len, ↓k_all, enc_len, fillB_len, xorN_len, hH, hB, xorN_len]
    refine kCall_val (k_spec_encipher c key (xorN 16 ((D.drop (16 * k)).take 16) (chnH (c.enc key) start D k)) hk (xorN_len _ _ _)) (by rfl) [] (by simp [CALL, cellsAt, tk, take_room, bs_length, bs_nil, instL_cip, okL_cip, k_inst, k_ok, okL, okV, fillB_len, enc_len, xorN_len]) (by simp [CALL, cellsAt, tk, take_room, bs_length, bs_nil, instL_cip, okL_cip, k_inst, k_ok, okL, okV, fillB_len, enc_len, xorN_len]) (by simp [CALL, cellsAt, tk, take_room, bs_length, bs_nil, instL_cip, okL_cip, k_inst, k_ok, okL, okV, fillB_len, enc_len, xorN_len]) (by simp [okL_bs, okL_room, okL, okV, instL_cip, okL_cip, k_inst, k_ok, okL, okV, fillB_len, enc_len, xorN_len]) ?_
    simp (config := { maxSteps := 2000000 }) only [CALL, ↓VC, VP, TT, List.getElem?_toArray, Nat.reduceEqDiff, reduceCtorEq, Nat.reduceAdd, Nat.reduceSub, Nat.reduceLT, Nat.reduceMul, Nat.reducePow, Nat.reduceLeDiff, Int.reduceToNat, Int.reduceLE, Int.reduceLT, Int.reducePow, instL_room, Bool.not_true, Bool.not_false, k_len, ↓k_all, enc_len, fillB_len, xorN_len, hH, hT, repl1, enc_len]
    refine ⟨by omega, by omega, by omega, .inr (by omega), .inr trivial, fun r1 c' hc' _ => ⟨(k + 1, c' - (k + 1)), by simp only; omega, by simp only; omega, [0, 1, 2, 3, 6], ?_⟩⟩
    rw [take_room (by rw [hT]; omega), wrap_i64 (by omega) (by omega), bs_append, show c.enc key (xorN 16 ((D.drop (16 * k)).take 16) (chnH (c.enc key) start D k)) = chnH (c.enc key) start D (k + 1) from rfl, show chnL (c.enc key) start D k ++ chnH (c.enc key) start D (k + 1) = chnL (c.enc key) start D (k + 1) from rfl, show r1 = 16 * (c' - (k + 1)) by omega]
    simp [-List.reduceReplicate, LES, k_ren, k_ok]
    omega
  · obtain rfl : k = K := by omega
    simp only [↓VC, VP, TT, List.getElem?_toArray, Nat.reduceEqDiff, reduceCtorEq, Nat.reduceAdd, Nat.reduceSub, Nat.reduceLT, Nat.reduceMul, Nat.reducePow, Nat.reduceLeDiff, Int.reduceToNat, Int.reduceLE, Int.reduceLT, Int.reducePow, (eq_false (by omega) : ((k : Int) < (k : Int)) = False), decide_false]
    refine ⟨_, _, [0, 4], ⟨r, trivial, rfl, rfl⟩, ?_⟩
    simp [-List.reduceReplicate, LES]
theorem k_spec_unchain (c : Cip) (key start D : List UInt8) (K cp : Nat) (hk : key.length = 16) (hs : start.length = 16) (hD : D.length = 16 * K) (hc : K ≤ cp) (hm : K ≤ 262144) : LC Try.prog 59 [.a c.cells, .a (bs key), .a (bs start), .s 0 0 K cp] [⟨false, bs D⟩] (Ret [⟨false, bs D⟩] (fun _ : Nat => True) fun r => (.s 1 0 K (K + r), [⟨true, bs (unchL (c.dec key) start D K) ++ List.replicate (16 * r) .j⟩])) := by
  refine LC_of (X := XX (fun | 5 => .one 0 (.one 1 (.one 2 (.one 3 (.one 4 (.one 5 (.one 6 (.one 7 (.one 8 (.one 10 (.one 9 (.one 11 (.one 12 (.one 13 (.one 14 .nil)))))))))))))) | _ => .nil) (fun _ => []) [19, 36, 117] 1) envOK Try.func59 (by kernel_rfl) (by kernel_rfl) rfl (Nat.le_of_ble_eq_true (by kernel_rfl)) ?_
  simp only [kFun, Try.f59, List.length_nil, List.length_cons, Nat.sub_zero, Nat.reduceSub, Nat.reduceAdd, List.nil_append, List.cons_append, List.replicate_succ, List.replicate_zero]
  simp only [XX, ↓VC, VP, TT, List.getElem?_toArray, Nat.reduceEqDiff, reduceCtorEq, Nat.reduceAdd, Nat.reduceSub, Nat.reduceLT, Nat.reduceMul, Nat.reducePow, Nat.reduceLeDiff, Int.reduceToNat, Int.reduceLE, Int.reduceLT, Int.reducePow, hk, hs, k_len, ↓k_all]
  refine kLoop_of (fun s : Nat × Nat => ([.j, .j, .j, .s 0 0 K cp, .p 1 0, .p 2 0, .p 3 0, .j, .j, .s 4 0 s.1 (s.1 + s.2), .c (.int .i64 (s.1)), .j, .j, .j, .j, .j, .j, .j, .j, .j, .j, .j, .j, .j, .j, .j, .j, .j, .j, .j, .j, .j, .j, .j, .j, .j, .j], [⟨false, bs D⟩, ⟨true, c.cells⟩, ⟨true, bs key⟩, ⟨true, bs (if s.1 = 0 then start else (D.drop (16 * (s.1 - 1))).take 16)⟩, ⟨true, bs (unchL (c.dec key) start D s.1) ++ List.replicate (16 * s.2) .j⟩])) (fun s => K - s.1) (fun s => s.1 ≤ K) (0, 0) (by simp) ⟨[0, 1, 2, 3, 4], by simp [-List.reduceReplicate, LES, bs_nil, unchL, k_ren, k_ok]⟩ ?_
  rintro ⟨k, r⟩ hk16
  simp only at hk16
  have hT := unchL_len (c.dec key) start D k
  have hH : (if k = 0 then start else (D.drop (16 * (k - 1))).take 16).length = 16 := by
    split
    · exact hs
    · exact blkB_len (by omega)
  rcases Nat.lt_or_ge k K with h1 | h1
  · have hB := blkB_len (P := D) (i := k) (by omega)
    simp only [↓VC, VP, TT, List.getElem?_toArray, Nat.reduceEqDiff, reduceCtorEq, Nat.reduceAdd, Nat.reduceSub, Nat.reduceLT, Nat.reduceMul, Nat.reducePow, Nat.reduceLeDiff, Int.reduceToNat, Int.reduceLE, Int.reduceLT, Int.reducePow, (eq_true (by omega) : ((k : Int) < (K : Int)) = True), decide_true, hH, hk, k_len, ↓k_all, ↓k_rd, ↓blkB_load (P := D) (i := k) (by omega), hB]
    generalize hH0 : (if k = 0 then start else (D.drop (16 * (k - 1))).take 16) = H at *
    refine kCall_val (k_spec_decipher c key ((D.drop (16 * k)).take 16) hk hB) (by rfl) [] (by simp [CALL, cellsAt, tk, take_room, bs_length, bs_nil, instL_cip, okL_cip, k_inst, k_ok, okL, okV, fillB_len, enc_len, xorN_len]) (by simp [CALL, cellsAt, tk, take_room, bs_length, bs_nil, instL_cip, okL_cip, k_inst, k_ok, okL, okV, fillB_len, enc_len, xorN_len]) (by simp [CALL, cellsAt, tk, take_room, bs_length, bs_nil, instL_cip, okL_cip, k_inst, k_ok, okL, okV, fillB_len, enc_len, xorN_len]) (by simp [okL_bs, okL_room, okL, okV, instL_cip, okL_cip, k_inst, k_ok, okL, okV, fillB_len, enc_len, xorN_len]) ?_
    simp (config := { maxSteps := 2000000 }) only [CALL, ↓VC, VP, TT, List.getElem?_toArray, Nat.reduceEqDiff, reduceCtorEq, Nat.reduceAdd, Nat.reduceSub, Nat.reduceLT, Nat.reduceMul, Nat.reducePow, Nat.reduceLeDiff, Int.reduceToNat, Int.reduceLE, Int.reduceLT, Int.reducePow, instL_room, Bool.not_true, Bool.not_false, k_len, ↓k_all, enc_len, fillB_len, xorN_len, hH, hB, dec_len]
    refine kCall_val (c_spec_l01Xor (c.dec key ((D.drop (16 * k)).take 16)) H (dec_len _ _ _) hH) (by rfl) [] (by simp [CALL, cellsAt, tk, take_room, bs_length, bs_nil, instL_cip, okL_cip, k_inst, k_ok, okL, okV, fillB_len, enc_len, xorN_len]) (by simp [CALL, cellsAt, tk, take_room, bs_length, bs_nil, instL_cip, okL_cip, k_inst, k_ok, okL, okV, fillB_len, enc_len, xorN_len]) (by simp [CALL, cellsAt, tk, take_room, bs_length, bs_nil, instL_cip, okL_cip, k_inst, k_ok, okL, okV, fillB_len, enc_len, xorN_len]) (by simp [okL_bs, okL_room, okL, okV, instL_cip, okL_cip, k_inst, k_ok, okL, okV, fillB_len, enc_len, xorN_len]) ?_
    simp (config := { maxSteps := 2000000 }) only [CALL, ↓VC, VP, TT, List.getElem?_toArray, Nat.reduceEqDiff, reduceCtorEq, Nat.reduceAdd, Nat.reduceSub, Nat.reduceLT, Nat.reduceMul, Nat.reducePow, Nat.reduceLeDiff, Int.reduceToNat, Int.reduceLE, Int.reduceLT, Int.reducePow, instL_room, Bool.not_true, Bool.not_false, k_len, ↓k_all, enc_len, fillB_len, xorN_len, hH, hB, hT, repl1, xorN_len, ↓blkB_load (P := D) (i := k) (by omega)]
    refine ⟨by omega, by omega, by omega, .inr (by omega), .inr trivial, fun r1 c' hc' _ => ?_⟩
    try simp only [↓VC, VP, TT, List.getElem?_toArray, Nat.reduceEqDiff, reduceCtorEq, Nat.reduceAdd, Nat.reduceSub, Nat.reduceLT, Nat.reduceMul, Nat.reducePow, Nat.reduceLeDiff, Int.reduceToNat, Int.reduceLE, Int.reduceLT, Int.reducePow, hH, hB, ↓blkB_load (P := D) (i := k) (by omega)]
    refine ⟨by omega, (k + 1, c' - (k + 1)), by simp only; omega, by simp only; omega, [0, 1, 2, 3, 6], ?_⟩
    rw [take_room (by rw [hT]; omega), wrap_i64 (by omega) (by omega), bs_append, show unchL (c.dec key) start D k ++ xorN 16 (c.dec key ((D.drop (16 * k)).take 16)) H = unchL (c.dec key) start D (k + 1) by rw [← hH0]; rfl, show r1 = 16 * (c' - (k + 1)) by omega]
    simp [-List.reduceReplicate, LES, k_ren, k_ok]
    omega
  · obtain rfl : k = K := by omega
    simp only [↓VC, VP, TT, List.getElem?_toArray, Nat.reduceEqDiff, reduceCtorEq, Nat.reduceAdd, Nat.reduceSub, Nat.reduceLT, Nat.reduceMul, Nat.reducePow, Nat.reduceLeDiff, Int.reduceToNat, Int.reduceLE, Int.reduceLT, Int.reducePow, (eq_false (by omega) : ((k : Int) < (k : Int)) = False), decide_false]
    refine ⟨_, _, [0, 4], ⟨r, trivial, rfl, rfl⟩, ?_⟩
    simp [-List.reduceReplicate, LES]
end Go.Proofs.Ytpapocmoielldaa

import Derived.Test.YtnlkebkonkdahaaCip
import Derived.Test.YtnlkebkonkdahaaModM
import Derived.Test.YtnlkebkonkdahaaPadB
/- Modes: the codes of faults; counting: the reference. -/
set_option linter.unusedSimpArgs false
set_option linter.unusedVariables false
namespace Go.Proofs.Ytnlkebkonkdahaa
open Go Go.Vc
set_option maxRecDepth 10000
set_option maxHeartbeats 4000000
theorem mapT_succ {n i : Nat} {g : Nat → UInt8} (h : i < n) : ((List.range n).map g).take (i + 1) = ((List.range n).map g).take i ++ [g i] := by
  rw [List.take_add_one, List.getElem?_map, List.getElem?_range h]; rfl
theorem cntL_succ {enc : List UInt8 → List UInt8} {start l : List UInt8} {i : Nat} (h : i < l.length) : (cntL enc start l).take (i + 1) = (cntL enc start l).take i ++ [l.getD i 0 ^^^ (enc (cntB start (i / 16))).getD (i % 16) 0] := mapT_succ h
theorem fedL_succ {enc : List UInt8 → List UInt8} {b : Bool} {start l : List UInt8} {i : Nat} (h : i < l.length) : (fedL enc b start l).take (i + 1) = (fedL enc b start l).take i ++ [l.getD i 0 ^^^ (enc (fedH enc b start l (i / 16))).getD (i % 16) 0] := mapT_succ h
theorem nxtL_len : ∀ (j : Nat) (s : List UInt8), (nxtL j s).length = s.length
  | 0, _ => rfl
  | j + 1, s => by
    rw [nxtL]
    split
    · rw [nxtL_len j, List.length_set]
    · rw [List.length_set]
/-- The code of a fault of a cipher and a number of bytes. -/
def modE (z : Int) (box A pl : List UInt8) (n len least most : Int) : Int := if cipB z box A pl n then (if len < least ∨ most < len then 2 else 0) else 1
theorem c_spec_l07Code (z n : Int) (box A pl : List UInt8) (hb : box.length = 256) (hA : A.length = 16) (hp : pl.length = 16) (len least most : Int) : LC Try.prog 57 [.a (cipC z box A pl n), .c (.int .i64 (len)), .c (.int .i64 (least)), .c (.int .i64 (most))] [] (fun v hp => v = .c (.int .i64 (modE z box A pl n len least most)) ∧ hp = []) := by
  refine LC_of (X := XX (fun _ => .nil) (fun _ => []) [23, 35, 36, 47, 61, 66, 104, 105, 128, 129, 134, 138, 139, 146] 0) envOK Try.func57 (by kernel_rfl) (by kernel_rfl) rfl (Nat.le_of_ble_eq_true (by kernel_rfl)) ?_
  simp only [kFun, Try.f57, List.length_nil, List.length_cons, Nat.sub_zero, Nat.reduceSub, Nat.reduceAdd, List.nil_append, List.cons_append, List.replicate_succ, List.replicate_zero]
  simp only [XX, ↓VC, VP, TT, List.getElem?_toArray, Nat.reduceEqDiff, reduceCtorEq, Nat.reduceAdd, Nat.reduceSub, Nat.reduceLT, Nat.reduceMul, Nat.reducePow, Nat.reduceLeDiff, Int.reduceToNat, Int.reduceLE, Int.reduceLT, Int.reducePow, cipC_len hb hA hp, ↓cip_all hb hA hp]
  refine kCall_val (c_spec_l04Is z n box A pl hb hA hp) (by rfl) [] (by simp [CALL, cellsAt, tk, take_room, bs_length, bs_nil, instL_cip, okL_cip, k_inst, k_ok, okL, okV, cntB_len]) (by simp [CALL, cellsAt, tk, take_room, bs_length, bs_nil, instL_cip, okL_cip, k_inst, k_ok, okL, okV, cntB_len]) (by simp [CALL, cellsAt, tk, take_room, bs_length, bs_nil, instL_cip, okL_cip, k_inst, k_ok, okL, okV, cntB_len]) (by simp [okL_bs, okL_room, okL, okV, instL_cip, okL_cip, k_inst, k_ok, okL, okV, cntB_len]) ?_
  simp (config := { maxSteps := 2000000 }) only [CALL, ↓VC, VP, TT, List.getElem?_toArray, Nat.reduceEqDiff, reduceCtorEq, Nat.reduceAdd, Nat.reduceSub, Nat.reduceLT, Nat.reduceMul, Nat.reducePow, Nat.reduceLeDiff, Int.reduceToNat, Int.reduceLE, Int.reduceLT, Int.reducePow, instL_room, Bool.not_true, Bool.not_false, k_len, ↓k_all, enc_len, cntB_len]
  cases hB : cipB z box A pl n with
  | false =>
    simp only [↓VC, VP, TT, List.getElem?_toArray, Nat.reduceEqDiff, reduceCtorEq, Nat.reduceAdd, Nat.reduceSub, Nat.reduceLT, Nat.reduceMul, Nat.reducePow, Nat.reduceLeDiff, Int.reduceToNat, Int.reduceLE, Int.reduceLT, Int.reducePow, Bool.not_false]
    refine ⟨_, _, [], ⟨rfl, rfl⟩, ?_⟩
    simp [-List.reduceReplicate, LES, modE, hB] <;> rfl
  | true =>
    simp only [↓VC, VP, TT, List.getElem?_toArray, Nat.reduceEqDiff, reduceCtorEq, Nat.reduceAdd, Nat.reduceSub, Nat.reduceLT, Nat.reduceMul, Nat.reducePow, Nat.reduceLeDiff, Int.reduceToNat, Int.reduceLE, Int.reduceLT, Int.reducePow, Bool.not_true]
    refine kGd_split rfl (fun h1 => ?_) (fun h1 => ?_)
    · rw [decide_eq_true_eq] at h1
      simp only [↓VC, VP, TT, List.getElem?_toArray, Nat.reduceEqDiff, reduceCtorEq, Nat.reduceAdd, Nat.reduceSub, Nat.reduceLT, Nat.reduceMul, Nat.reducePow, Nat.reduceLeDiff, Int.reduceToNat, Int.reduceLE, Int.reduceLT, Int.reducePow]
      refine ⟨_, _, [], ⟨rfl, rfl⟩, ?_⟩
      simp [-List.reduceReplicate, LES, modE, hB, h1] <;> rfl
    · rw [decide_eq_false_iff_not] at h1
      simp only [↓VC, VP, TT, List.getElem?_toArray, Nat.reduceEqDiff, reduceCtorEq, Nat.reduceAdd, Nat.reduceSub, Nat.reduceLT, Nat.reduceMul, Nat.reducePow, Nat.reduceLeDiff, Int.reduceToNat, Int.reduceLE, Int.reduceLT, Int.reducePow]
      refine ⟨fun h2 => ?_, fun h2 => ?_⟩
      · refine ⟨_, _, [], ⟨rfl, rfl⟩, ?_⟩
        simp [-List.reduceReplicate, LES, modE, hB, h1, h2] <;> rfl
      · refine ⟨_, _, [], ⟨rfl, rfl⟩, ?_⟩
        simp [-List.reduceReplicate, LES, modE, hB, h1, h2] <;> rfl
theorem c_spec_l07Next (s : List UInt8) (hs : s.length = 16) : LC Try.prog 82 [.a (bs s)] [] (fun v hp => v = .a (bs (nxtL 8 s)) ∧ hp = []) := by
  refine LC_of (X := XX (fun _ => .nil) (fun _ => []) [23, 35, 36, 47, 61, 66, 104, 105, 128, 129, 134, 138, 139, 146] 0) envOK Try.func82 (by kernel_rfl) (by kernel_rfl) rfl (Nat.le_of_ble_eq_true (by kernel_rfl)) ?_
  simp only [kFun, Try.f82, List.length_nil, List.length_cons, Nat.sub_zero, Nat.reduceSub, Nat.reduceAdd, List.nil_append, List.cons_append, List.replicate_succ, List.replicate_zero]
  simp only [XX, ↓VC, VP, TT, List.getElem?_toArray, Nat.reduceEqDiff, reduceCtorEq, Nat.reduceAdd, Nat.reduceSub, Nat.reduceLT, Nat.reduceMul, Nat.reducePow, Nat.reduceLeDiff, Int.reduceToNat, Int.reduceLE, Int.reduceLT, Int.reducePow, hs]
  refine kLoop_of (fun x : Nat × List UInt8 => ([.j, .p 0 0, .p 1 0, .c (.int .i64 ((7 + x.1 : Nat))), .j, .j, .j, .j, .j, .j, .j, .j, .j, .j, .j, .j, .j, .j], [⟨true, bs x.2⟩, ⟨true, bs (List.replicate 16 0)⟩])) (fun x => x.1) (fun x => x.1 ≤ 8 ∧ x.2.length = 16 ∧ nxtL x.1 x.2 = nxtL 8 s) (8, s) ⟨by simp, hs, rfl⟩ ⟨[0, 1], by simp [-List.reduceReplicate, LES]⟩ ?_
  rintro ⟨j, t⟩ ⟨hj, ht, hn⟩
  simp only at hj ht hn
  cases j with
  | zero =>
    simp only [↓VC, VP, TT, List.getElem?_toArray, Nat.reduceEqDiff, reduceCtorEq, Nat.reduceAdd, Nat.reduceSub, Nat.reduceLT, Nat.reduceMul, Nat.reducePow, Nat.reduceLeDiff, Int.reduceToNat, Int.reduceLE, Int.reduceLT, Int.reducePow, ht, Nat.add_zero, (eq_false (by omega) : (((7 : Nat) : Int) ≥ 8) = False), decide_false]
    rw [← hn]
    refine ⟨_, _, [], ⟨rfl, rfl⟩, ?_⟩; simp [-List.reduceReplicate, LES, nxtL]
  | succ j =>
    have e1 : UInt8.ofInt (((t.getD (7 + (j + 1)) 0).toNat : Int) + 1) = t.getD (7 + (j + 1)) 0 + 1 := by
      apply UInt8.toNat_inj.1
      have := toNat_ofInt (((t.getD (7 + (j + 1)) 0).toNat : Int) + 1)
      rw [u8_inc]; omega
    have e2 : (t.set (7 + (j + 1)) (t.getD (7 + (j + 1)) 0 + 1)).getD (7 + (j + 1)) 0 = t.getD (7 + (j + 1)) 0 + 1 := by
      simp only [List.getD_eq_getElem?_getD, List.getElem?_set, if_true, ht, show 7 + (j + 1) < 16 by omega, Option.getD_some]
    have e3 : 8 + j = 7 + (j + 1) := by omega
    simp only [↓VC, VP, TT, List.getElem?_toArray, Nat.reduceEqDiff, reduceCtorEq, Nat.reduceAdd, Nat.reduceSub, Nat.reduceLT, Nat.reduceMul, Nat.reducePow, Nat.reduceLeDiff, Int.reduceToNat, Int.reduceLE, Int.reduceLT, Int.reducePow, ht, List.length_set, (eq_true (by omega) : (((7 + (j + 1) : Nat) : Int) ≥ 8) = True), decide_true, e1, e2]
    rw [nxtL, e3] at hn
    generalize hx : t.getD (7 + (j + 1)) 0 + 1 = x at *
    refine ⟨by omega, by omega, by omega, by omega, by omega, by omega, fun h => ?_, fun h => ?_⟩
    · rw [bne_iff_ne] at h
      rw [if_neg (fun hz => h (by rw [hz]; rfl))] at hn
      refine ⟨_, _, [], ⟨rfl, rfl⟩, ?_⟩; simp [-List.reduceReplicate, LES, hn]
    · rw [bne_eq_false_iff_eq] at h
      rw [if_pos (UInt8.toNat_inj.1 (by show x.toNat = 0; omega))] at hn
      refine ⟨(j, t.set (7 + (j + 1)) x), ⟨by simp only; omega, by simp only [List.length_set]; exact ht, hn⟩, by simp only; omega, [0, 1], ?_⟩
      rw [wrap_i64 (by omega) (by omega)]
      simp [-List.reduceReplicate, LES]
      omega
theorem k_spec_count (c : Cip) (key start l : List UInt8) (cp : Nat) (hk : key.length = 16) (hs : start.length = 16) (hc : l.length ≤ cp) (hm : l.length ≤ 4194304) : LC Try.prog 58 [.a c.cells, .a (bs key), .a (bs start), .s 0 0 l.length cp] [⟨false, bs l⟩] (Ret [⟨false, bs l⟩] (fun _ : Nat => True) fun r => (.s 1 0 l.length (l.length + r), [⟨true, bs (cntL (c.enc key) start l) ++ List.replicate r .j⟩])) := by
  refine LC_of (X := XX (fun | 8 => .one 0 (.one 1 (.one 2 (.one 3 (.one 4 (.one 5 (.one 6 (.one 7 (.one 8 (.one 9 (.one 10 (.one 11 (.one 12 .nil)))))))))))) | _ => .nil) (fun _ => []) [23, 35, 36, 47, 61, 66, 104, 105, 128, 129, 134, 138, 139, 146] 1) envOK Try.func58 (by kernel_rfl) (by kernel_rfl) rfl (Nat.le_of_ble_eq_true (by kernel_rfl)) ?_
  simp only [kFun, Try.f58, List.length_nil, List.length_cons, Nat.sub_zero, Nat.reduceSub, Nat.reduceAdd, List.nil_append, List.cons_append, List.replicate_succ, List.replicate_zero]
  simp only [XX, ↓VC, VP, TT, List.getElem?_toArray, Nat.reduceEqDiff, reduceCtorEq, Nat.reduceAdd, Nat.reduceSub, Nat.reduceLT, Nat.reduceMul, Nat.reducePow, Nat.reduceLeDiff, Int.reduceToNat, Int.reduceLE, Int.reduceLT, Int.reducePow, hk, hs, k_len, ↓k_all]
  refine kLoop_of (fun s : Nat × Nat => ([.j, .j, .j, .s 0 0 l.length cp, .p 1 0, .p 2 0, .p 3 0, .j, .j, .s 4 0 s.1 (s.1 + s.2), .p 5 0, .c (.int .i64 (s.1)), .j, .j, .j, .j, .j, .j, .j, .j, .j, .j, .j, .j, .j, .j, .j, .j, .j, .j, .j, .j, .j, .j, .j, .j, .j, .j, .j, .j, .j, .j, .j, .j], [⟨false, bs l⟩, ⟨true, c.cells⟩, ⟨true, bs key⟩, ⟨true, bs (cntB start ((s.1 + 15) / 16))⟩, ⟨true, bs ((cntL (c.enc key) start l).take s.1) ++ List.replicate s.2 .j⟩, ⟨true, bs (if s.1 = 0 then List.replicate 16 0 else c.enc key (cntB start ((s.1 - 1) / 16)))⟩])) (fun s => l.length - s.1) (fun s => s.1 ≤ l.length) (0, 0) (by simp) ⟨[0, 1, 2, 3, 4, 5], by simp [-List.reduceReplicate, LES, bs_nil, cntB, k_ren, k_ok]⟩ ?_
  rintro ⟨i, r⟩ hi
  simp only at hi
  have hcl := cntB_len hs
  have hT : ((cntL (c.enc key) start l).take i).length = i := by rw [List.length_take, cntL_len]; omega
  have e16 : (i : Int).tmod 16 = ((i % 16 : Nat) : Int) := by rw [Int.tmod_eq_emod_of_nonneg (by omega)]; omega
  rcases Nat.lt_or_ge i l.length with h | h
  · have hml : (if i = 0 then List.replicate 16 0 else c.enc key (cntB start ((i - 1) / 16))).length = 16 := by
      split
      · simp
      · exact enc_len _ _
    have hcs := cntL_succ (enc := c.enc key) (start := start) h
    simp only [↓VC, VP, TT, List.getElem?_toArray, Nat.reduceEqDiff, reduceCtorEq, Nat.reduceAdd, Nat.reduceSub, Nat.reduceLT, Nat.reduceMul, Nat.reducePow, Nat.reduceLeDiff, Int.reduceToNat, Int.reduceLE, Int.reduceLT, Int.reducePow, (eq_true (by omega) : ((i : Int) < (l.length : Int)) = True), decide_true, e16, ↓k_all, ↓k_rd, hk, hcl, k_len, hml]
    refine ⟨by omega, fun h0 => ?_, fun h0 => ?_⟩
    · rw [beq_iff_eq] at h0
      have e1 : cntB start ((i + 15) / 16) = cntB start (i / 16) := by congr 1; omega
      rw [e1]
      refine kCall_val (k_spec_encipher c key (cntB start (i / 16)) hk (hcl _)) (by rfl) [] (by simp [CALL, cellsAt, tk, take_room, bs_length, bs_nil, instL_cip, okL_cip, k_inst, k_ok, okL, okV, cntB_len]) (by simp [CALL, cellsAt, tk, take_room, bs_length, bs_nil, instL_cip, okL_cip, k_inst, k_ok, okL, okV, cntB_len]) (by simp [CALL, cellsAt, tk, take_room, bs_length, bs_nil, instL_cip, okL_cip, k_inst, k_ok, okL, okV, cntB_len]) (by simp [okL_bs, okL_room, okL, okV, instL_cip, okL_cip, k_inst, k_ok, okL, okV, cntB_len]) ?_
      simp (config := { maxSteps := 2000000 }) only [CALL, ↓VC, VP, TT, List.getElem?_toArray, Nat.reduceEqDiff, reduceCtorEq, Nat.reduceAdd, Nat.reduceSub, Nat.reduceLT, Nat.reduceMul, Nat.reducePow, Nat.reduceLeDiff, Int.reduceToNat, Int.reduceLE, Int.reduceLT, Int.reducePow, instL_room, Bool.not_true, Bool.not_false, k_len, ↓k_all, enc_len, cntB_len, hcl, hml]
      have hnl := nxtL_len 8 (cntB start (i / 16))
      rw [hcl] at hnl
      refine kCall_val (c_spec_l07Next (cntB start (i / 16)) (hcl _)) (by rfl) [] (by simp [CALL, cellsAt, tk, take_room, bs_length, bs_nil, instL_cip, okL_cip, k_inst, k_ok, okL, okV, cntB_len]) (by simp [CALL, cellsAt, tk, take_room, bs_length, bs_nil, instL_cip, okL_cip, k_inst, k_ok, okL, okV, cntB_len]) (by simp [CALL, cellsAt, tk, take_room, bs_length, bs_nil, instL_cip, okL_cip, k_inst, k_ok, okL, okV, cntB_len]) (by simp [okL_bs, okL_room, okL, okV, instL_cip, okL_cip, k_inst, k_ok, okL, okV, cntB_len]) ?_
      simp (config := { maxSteps := 2000000 }) only [CALL, ↓VC, VP, TT, List.getElem?_toArray, Nat.reduceEqDiff, reduceCtorEq, Nat.reduceAdd, Nat.reduceSub, Nat.reduceLT, Nat.reduceMul, Nat.reducePow, Nat.reduceLeDiff, Int.reduceToNat, Int.reduceLE, Int.reduceLT, Int.reducePow, instL_room, Bool.not_true, Bool.not_false, k_len, ↓k_all, enc_len, cntB_len, hcl, hT, repl1, hnl, e16]
      refine ⟨by omega, by omega, by omega, by omega, by omega, by omega, by omega, .inr (by omega), .inr trivial, fun r1 c' hc' _ => ⟨(i + 1, r1), by simp only; omega, by simp only; omega, [0, 1, 2, 3, 7, 5], ?_⟩⟩
      rw [one_moreB, ← hcs, wrap_i64 (by omega) (by omega), hc', show nxtL 8 (cntB start (i / 16)) = cntB start ((i + 1 + 15) / 16) by rw [show (i + 1 + 15) / 16 = i / 16 + 1 by omega]; rfl]
      simp [-List.reduceReplicate, LES, k_ren, k_ok]
      trace_state
    · rw [beq_eq_false_iff_ne] at h0
      rw [if_neg (by omega), show (i - 1) / 16 = i / 16 by omega]
      refine ⟨by omega, by omega, by omega, by omega, by omega, by omega, by omega, .inr (by omega), .inr trivial, fun r1 c' hc' _ => ⟨(i + 1, r1), by simp only; omega, by simp only; omega, [0, 1, 2, 3, 7, 5], ?_⟩⟩
      rw [take_room hT.symm, one_moreB, ← hcs, wrap_i64 (by omega) (by omega), hc', show (i + 1 + 15) / 16 = (i + 15) / 16 by omega]
      simp [-List.reduceReplicate, LES, k_ren, k_ok]
  · obtain rfl : i = l.length := by omega
    simp only [↓VC, VP, TT, List.getElem?_toArray, Nat.reduceEqDiff, reduceCtorEq, Nat.reduceAdd, Nat.reduceSub, Nat.reduceLT, Nat.reduceMul, Nat.reducePow, Nat.reduceLeDiff, Int.reduceToNat, Int.reduceLE, Int.reduceLT, Int.reducePow, (eq_false (by omega) : ((l.length : Int) < (l.length : Int)) = False), decide_false]
    rw [List.take_of_length_le (by rw [cntL_len]; omega)]
    refine ⟨_, _, [0, 4], ⟨r, trivial, rfl, rfl⟩, ?_⟩
    simp [-List.reduceReplicate, LES]
end Go.Proofs.Ytnlkebkonkdahaa

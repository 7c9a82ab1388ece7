import Derived.Test.YtnlkebkonkdahaaModA
import Derived.Test.YtnlkebkonkdahaaDecI
/- Modes: the codes of faults; counting: the program. -/
set_option linter.unusedSimpArgs false
set_option linter.unusedVariables false
namespace Go.Proofs.Ytnlkebkonkdahaa
open Go Go.Vc
set_option maxRecDepth 10000
set_option maxHeartbeats 4000000
theorem c_impl_checkMode (z n : Int) (box A pl l : List UInt8) (q : Nat) (hb : box.length = 256) (hA : A.length = 16) (hp : pl.length = 16) (least most : Int) : LC Try.prog 54 [.a (cipC z box A pl n), .s 0 0 l.length q, .c (.int .i64 (least)), .c (.int .i64 (most))] [⟨false, bs l⟩] (fun v hp => v = .c (.int .i64 (modE z box A pl n l.length least most)) ∧ hp = [⟨false, bs l⟩]) := by
  refine LC_of (X := XX (fun _ => .nil) (fun _ => []) [23, 35, 36, 47, 61, 66, 104, 105, 128, 129, 134, 138, 139, 146] 1) envOK Try.func54 (by kernel_rfl) (by kernel_rfl) rfl (Nat.le_of_ble_eq_true (by kernel_rfl)) ?_
  simp only [kFun, Try.f54, List.length_nil, List.length_cons, Nat.sub_zero, Nat.reduceSub, Nat.reduceAdd, List.nil_append, List.cons_append, List.replicate_succ, List.replicate_zero]
  simp only [XX, ↓VC, VP, TT, List.getElem?_toArray, Nat.reduceEqDiff, reduceCtorEq, Nat.reduceAdd, Nat.reduceSub, Nat.reduceLT, Nat.reduceMul, Nat.reducePow, Nat.reduceLeDiff, Int.reduceToNat, Int.reduceLE, Int.reduceLT, Int.reducePow, cipC_len hb hA hp, ↓cip_all hb hA hp]
  refine kCall_val (c_impl_IsCipher z n box A pl hb hA hp) (by rfl) [] (by simp [CALL, cellsAt, tk, take_room, bs_length, bs_nil, e_inst, e_take, e_ok, okL, okV, Cip.bl, Cip.kbl, Cip.kd, keysB_take, instL_cip, okL_cip, k_inst, k_ok, cntB_len]) (by simp [CALL, cellsAt, tk, take_room, bs_length, bs_nil, e_inst, e_take, e_ok, okL, okV, Cip.bl, Cip.kbl, Cip.kd, keysB_take, instL_cip, okL_cip, k_inst, k_ok, cntB_len]) (by simp [CALL, cellsAt, tk, take_room, bs_length, bs_nil, e_inst, e_take, e_ok, okL, okV, Cip.bl, Cip.kbl, Cip.kd, keysB_take, instL_cip, okL_cip, k_inst, k_ok, cntB_len]) (by simp [okL_bs, okL_room, okL, okV, e_inst, e_take, e_ok, okL, okV, Cip.bl, Cip.kbl, Cip.kd, keysB_take, instL_cip, okL_cip, k_inst, k_ok, cntB_len]) ?_
  simp (config := { maxSteps := 2000000 }) only [CALL, ↓VC, VP, TT, List.getElem?_toArray, Nat.reduceEqDiff, reduceCtorEq, Nat.reduceAdd, Nat.reduceSub, Nat.reduceLT, Nat.reduceMul, Nat.reducePow, Nat.reduceLeDiff, Int.reduceToNat, Int.reduceLE, Int.reduceLT, Int.reducePow, instL_room, Bool.not_true, Bool.not_false, Cip.bl, Cip.kbl, Cip.kd, e_inst0, e_inst, enc_len, cntB_len]
  cases hB : cipB z box A pl n with
  | false =>
    simp only [↓VC, VP, TT, List.getElem?_toArray, Nat.reduceEqDiff, reduceCtorEq, Nat.reduceAdd, Nat.reduceSub, Nat.reduceLT, Nat.reduceMul, Nat.reducePow, Nat.reduceLeDiff, Int.reduceToNat, Int.reduceLE, Int.reduceLT, Int.reducePow, Bool.not_false]
    refine ⟨_, _, [0], ⟨rfl, rfl⟩, ?_⟩
    simp [-List.reduceReplicate, LES, modE, hB] <;> rfl
  | true =>
    simp only [↓VC, VP, TT, List.getElem?_toArray, Nat.reduceEqDiff, reduceCtorEq, Nat.reduceAdd, Nat.reduceSub, Nat.reduceLT, Nat.reduceMul, Nat.reducePow, Nat.reduceLeDiff, Int.reduceToNat, Int.reduceLE, Int.reduceLT, Int.reducePow, Bool.not_true]
    refine kGd_split rfl (fun h1 => ?_) (fun h1 => ?_)
    · rw [decide_eq_true_eq] at h1
      simp only [↓VC, VP, TT, List.getElem?_toArray, Nat.reduceEqDiff, reduceCtorEq, Nat.reduceAdd, Nat.reduceSub, Nat.reduceLT, Nat.reduceMul, Nat.reducePow, Nat.reduceLeDiff, Int.reduceToNat, Int.reduceLE, Int.reduceLT, Int.reducePow]
      refine ⟨_, _, [0], ⟨rfl, rfl⟩, ?_⟩
      simp [-List.reduceReplicate, LES, modE, hB, h1] <;> rfl
    · rw [decide_eq_false_iff_not] at h1
      simp only [↓VC, VP, TT, List.getElem?_toArray, Nat.reduceEqDiff, reduceCtorEq, Nat.reduceAdd, Nat.reduceSub, Nat.reduceLT, Nat.reduceMul, Nat.reducePow, Nat.reduceLeDiff, Int.reduceToNat, Int.reduceLE, Int.reduceLT, Int.reducePow]
      refine ⟨fun h2 => ?_, fun h2 => ?_⟩
      · refine ⟨_, _, [0], ⟨rfl, rfl⟩, ?_⟩
        simp [-List.reduceReplicate, LES, modE, hB, h1, h2] <;> rfl
      · refine ⟨_, _, [0], ⟨rfl, rfl⟩, ?_⟩
        simp [-List.reduceReplicate, LES, modE, hB, h1, h2] <;> rfl
theorem or_u64 {x : Nat} (u : UInt8) (h : x < 2 ^ 56) : bitI .or .u64 (IntKind.u64.wrap ((x : Int) * 2 ^ min 8 64)) (IntKind.u64.wrap (u.toNat : Int)) = ((x * 256 + u.toNat : Nat) : Int) := by
  have hu := u.toNat_lt
  have e : ((x : Int) * 2 ^ min 8 64) = ((x * 256 : Nat) : Int) := by simp
  rw [e, wrap_u64 (by omega) (by omega), wrap_u64 (by omega) (by omega)]
  show IntKind.u64.wrap (((BitVec.ofInt 64 ((x * 256 : Nat) : Int)) ||| (BitVec.ofInt 64 ((u.toNat : Nat) : Int))).toNat : Int) = _
  rw [BitVec.ofInt_natCast, BitVec.ofInt_natCast]
  have e2 : (BitVec.ofNat 64 (x * 256) ||| BitVec.ofNat 64 u.toNat).toNat = x * 256 + u.toNat := by
    rw [BitVec.toNat_or, BitVec.toNat_ofNat, BitVec.toNat_ofNat, Nat.mod_eq_of_lt (by omega), Nat.mod_eq_of_lt (by omega)]
    have := Nat.shiftLeft_add_eq_or_of_lt (b := u.toNat) (i := 8) (by omega) x
    rw [Nat.shiftLeft_eq, show 2 ^ 8 = 256 from rfl] at this
    omega
  rw [e2, wrap_u64 (by omega) (by omega)]
theorem num_snoc {l : List UInt8} {i : Nat} (h : i < l.length) : numL (l.take (i + 1)) = numL (l.take i) * 256 + (l.getD i 0).toNat := by
  rw [List.take_add_one, List.getElem?_eq_getElem h]
  simp only [numL, Option.toList, List.foldl_append, List.foldl_cons, List.foldl_nil, List.getD, List.getElem?_eq_getElem h, Option.getD_some]
theorem num_take {l : List UInt8} : ∀ {i : Nat}, i ≤ l.length → numL (l.take i) < 256 ^ i
  | 0, _ => by simp [numL]
  | i + 1, h => by
    have := num_take (l := l) (i := i) (by omega)
    have hu := (l.getD i 0).toNat_lt
    rw [num_snoc (by omega), Nat.pow_succ]
    omega
theorem k_impl_count (c : Cip) (key start l : List UInt8) (q cp : Nat) (hk : key.length = 16) (hs : start.length = 16) (hc : l.length ≤ cp) (hm : l.length ≤ 4194304) : LC Try.prog 56 [c.kd q, .a (bs start), .s 4 0 l.length cp] (c.kbl false key q ++ [⟨false, bs l⟩]) (Ret (c.kbl false key q ++ [⟨false, bs l⟩]) (fun _ : Nat => True) fun r => (.s 5 0 l.length (l.length + r), [⟨true, bs (cntL (c.enc key) start l) ++ List.replicate r .j⟩])) := by
  unfold Cip.kbl Cip.kd
  refine LC_of (X := XX (fun _ => .nil) (fun _ => []) [23, 35, 36, 47, 61, 66, 104, 105, 128, 129, 134, 138, 139, 146] 5) envOK Try.func56 (by kernel_rfl) (by kernel_rfl) rfl (Nat.le_of_ble_eq_true (by kernel_rfl)) ?_
  simp only [kFun, Try.f56, List.length_nil, List.length_cons, Nat.sub_zero, Nat.reduceSub, Nat.reduceAdd, List.nil_append, List.cons_append, List.replicate_succ, List.replicate_zero]
  simp only [XX, ↓VC, VP, TT, List.getElem?_toArray, Nat.reduceEqDiff, reduceCtorEq, Nat.reduceAdd, Nat.reduceSub, Nat.reduceLT, Nat.reduceMul, Nat.reducePow, Nat.reduceLeDiff, Int.reduceToNat, Int.reduceLE, Int.reduceLT, Int.reducePow, hs]
  have hcl := cntB_len hs
  have hd : (start.drop 8).length = 8 := by rw [List.length_drop]; omega
  refine ⟨by omega, ?_⟩
  refine kLoop_of (fun i : Nat => ([.j, .j, .s 4 0 l.length cp, .p 5 0, .p 6 0, .j, .j, .s 7 0 0 0, .c (.int .u64 (numL ((start.drop 8).take i) : Nat)), .j, .j, .j, .j, .j, .j, .j, .j, .s 6 8 8 8, .c (.int .i64 (8)), .c (.int .i64 (i)), .j, .j, .j, .j, .j, .j, .j, .j, .j, .j, .j, .j, .j, .j, .j, .j, .j, .j, .j, .j, .j, .j, .j, .j, .j, .j, .j, .j, .j, .j, .j, .j, .j, .j, .j, .j, .j, .j, .j, .j, .j, .j, .j, .j, .j, .j, .j, .j, .j, .j, .j, .j, .j, .j, .j, .j, .j], [⟨false, c.eng 1 2⟩, ⟨false, bs c.t1⟩, ⟨false, bs c.t2⟩, ⟨false, bs (keysL c.box key (c.n + 1)) ++ List.replicate (16 * q) .j⟩, ⟨false, bs l⟩, ⟨true, [.p 0 0, .s 3 0 (c.n + 1) (c.n + 1 + q)]⟩, ⟨true, bs start⟩, ⟨true, []⟩])) (fun i => 8 - i) (fun i => i ≤ 8) 0 (by omega) ⟨[0, 1, 2, 3, 4, 5, 6, 7], by simp [-List.reduceReplicate, LES, e_ren, e_ok, numL]⟩ ?_
  intro i hi
  rcases Nat.lt_or_ge i 8 with h | h
  · have hx : numL ((start.drop 8).take i) < 2 ^ 56 := Nat.lt_of_lt_of_le (num_take (by omega)) (Nat.le_trans (Nat.pow_le_pow_right (by omega) (show i ≤ 7 by omega)) (by decide))
    have hsn := num_snoc (l := start.drop 8) (i := i) (by omega)
    have hg : (start.drop 8).getD i 0 = start.getD (8 + i) 0 := by simp only [List.getD_eq_getElem?_getD, List.getElem?_drop]
    simp only [↓VC, VP, TT, List.getElem?_toArray, Nat.reduceEqDiff, reduceCtorEq, Nat.reduceAdd, Nat.reduceSub, Nat.reduceLT, Nat.reduceMul, Nat.reducePow, Nat.reduceLeDiff, Int.reduceToNat, Int.reduceLE, Int.reduceLT, Int.reducePow, (eq_true (by omega) : ((i : Int) < 8) = True), decide_true, hs, or_u64 _ hx]
    rw [← hg, ← hsn, wrap_i64 (by omega) (by omega)]
    exact ⟨by omega, by omega, i + 1, by omega, by omega, [0, 1, 2, 3, 4, 5, 6, 7], by simp [-List.reduceReplicate, LES, e_ren, e_ok]⟩
  · obtain rfl : i = 8 := by omega
    simp only [↓VC, VP, TT, List.getElem?_toArray, Nat.reduceEqDiff, reduceCtorEq, Nat.reduceAdd, Nat.reduceSub, Nat.reduceLT, Nat.reduceMul, Nat.reducePow, Nat.reduceLeDiff, Int.reduceToNat, Int.reduceLE, Int.reduceLT, Int.reducePow, (eq_false (by omega) : (((8 : Nat) : Int) < 8) = False), decide_false]
    rw [List.take_of_length_le (by omega)]
    generalize hN : numL (start.drop 8) = N
    have hN2 : N < 2 ^ 64 := by rw [← hN]; exact num_lt hd
    refine kLoop_of (fun s : Nat × Nat => ([.j, .j, .s 4 0 l.length cp, .p 5 0, .p 6 0, .j, .j, .s 7 0 (min (16 * s.1) l.length) (min (16 * s.1) l.length + s.2), .c (.int .u64 (((N + s.1) % 2 ^ 64 : Nat) : Int)), .j, .j, .c (.int .i64 ((16 * s.1 : Nat))), .j, .j, .j, .j, .j, .j, .j, .j, .j, .j, .j, .j, .j, .j, .j, .j, .j, .j, .j, .j, .j, .j, .j, .j, .j, .j, .j, .j, .j, .j, .j, .j, .j, .j, .j, .j, .j, .j, .j, .j, .j, .j, .j, .j, .j, .j, .j, .j, .j, .j, .j, .j, .j, .j, .j, .j, .j, .j, .j, .j, .j, .j, .j, .j, .j], [⟨false, c.eng 1 2⟩, ⟨false, bs c.t1⟩, ⟨false, bs c.t2⟩, ⟨false, bs (keysL c.box key (c.n + 1)) ++ List.replicate (16 * q) .j⟩, ⟨false, bs l⟩, ⟨true, [.p 0 0, .s 3 0 (c.n + 1) (c.n + 1 + q)]⟩, ⟨true, bs (if s.1 = 0 then start else cntB start (s.1 - 1))⟩, ⟨true, bs ((cntL (c.enc key) start l).take (16 * s.1)) ++ List.replicate s.2 .j⟩])) (fun s => (l.length + 15) / 16 - s.1) (fun s => s.1 ≤ (l.length + 15) / 16) (0, 0) (by simp) ⟨[0, 1, 2, 3, 4, 5, 6, 7], by simp [-List.reduceReplicate, LES, e_ren, e_ok, bs_nil, Nat.mod_eq_of_lt hN2]⟩ ?_
    rintro ⟨k, r⟩ hk16
    simp only at hk16
    have hT : ((cntL (c.enc key) start l).take (16 * k)).length = min (16 * k) l.length := by rw [List.length_take, cntL_len]
    rcases Nat.lt_or_ge (16 * k) l.length with h1 | h1
    · simp only [↓VC, VP, TT, List.getElem?_toArray, Nat.reduceEqDiff, reduceCtorEq, Nat.reduceAdd, Nat.reduceSub, Nat.reduceLT, Nat.reduceMul, Nat.reducePow, Nat.reduceLeDiff, Int.reduceToNat, Int.reduceLE, Int.reduceLT, Int.reducePow, (eq_true (by omega) : (((16 * k : Nat) : Int) < (l.length : Int)) = True), decide_true]
      generalize hSk : (if k = 0 then start else cntB start (k - 1)) = Sk
      have hSl : Sk.length = 16 := by rw [← hSk]; split; exact hs; exact hcl _
      have hS8 : Sk.take 8 = start.take 8 := by
        rw [← hSk]; split
        · rfl
        · rw [cntB_eq hs, List.take_append_of_le_length (by rw [List.length_take]; omega), List.take_of_length_le (by rw [List.length_take]; omega)]
      have hSd : (Sk.drop 8).length = 8 := by rw [List.length_drop]; omega
      have hs8 : (start.take 8).length = 8 := by rw [List.length_take]; omega
      generalize hNk : (N + k) % 2 ^ 64 = Nk
      refine kLoop_of (fun n : Nat => ([.j, .j, .s 4 0 l.length cp, .p 5 0, .p 6 0, .j, .j, .s 7 0 (min (16 * k) l.length) (min (16 * k) l.length + r), .c (.int .u64 ((Nk : Nat) : Int)), .j, .j, .c (.int .i64 ((16 * k : Nat))), .j, .j, .j, .j, .j, .j, .j, .j, .j, .j, .j, .j, .j, .j, .j, .j, .j, .j, .j, .j, .j, .j, .j, .c (.int .i64 (n)), .j, .j, .j, .j, .j, .j, .j, .j, .j, .j, .j, .j, .j, .j, .j, .j, .j, .j, .j, .j, .j, .j, .j, .j, .j, .j, .j, .j, .j, .j, .j, .j, .j, .j, .j, .j, .j, .j, .j, .j, .j], [⟨false, c.eng 1 2⟩, ⟨false, bs c.t1⟩, ⟨false, bs c.t2⟩, ⟨false, bs (keysL c.box key (c.n + 1)) ++ List.replicate (16 * q) .j⟩, ⟨false, bs l⟩, ⟨true, [.p 0 0, .s 3 0 (c.n + 1) (c.n + 1 + q)]⟩, ⟨true, bs (start.take 8 ++ fl 8 (fun i => (Sk.drop 8).getD i 0) (fun i => UInt8.ofNat (Nk / 2 ^ (56 - 8 * i))) n)⟩, ⟨true, bs ((cntL (c.enc key) start l).take (16 * k)) ++ List.replicate r .j⟩])) (fun n => 8 - n) (fun n => n ≤ 8) 0 (by omega) ⟨[0, 1, 2, 3, 4, 5, 6, 7], by rw [← fl_start hSd, ← hS8, List.take_append_drop]; simp [-List.reduceReplicate, LES, e_ren, e_ok]⟩ ?_
      intro n hn
      have hbl : (start.take 8 ++ fl 8 (fun i => (Sk.drop 8).getD i 0) (fun i => UInt8.ofNat (Nk / 2 ^ (56 - 8 * i))) n).length = 16 := by rw [List.length_append, hs8, fl_len]
      rcases Nat.lt_or_ge n 8 with h2 | h2
      · have w1 : IntKind.i64.wrap (8 + (n : Int)) = ((8 + n : Nat) : Int) := by rw [wrap_i64 (by omega) (by omega)]; omega
        have w2 : IntKind.i64.wrap (56 - IntKind.i64.wrap (8 * (n : Int))) = ((56 - 8 * n : Nat) : Int) := by rw [wrap_i64 (n := 8 * (n : Int)) (by omega) (by omega), wrap_i64 (by omega) (by omega)]; omega
        have w3 : UInt8.ofInt ((Nk : Int).fdiv (2 ^ min (56 - 8 * n) 64)) = UInt8.ofNat (Nk / 2 ^ (56 - 8 * n)) := by
          rw [Nat.min_eq_left (by omega), shr_nat]
          apply UInt8.toNat_inj.1
          have := toNat_ofInt ((Nk / 2 ^ (56 - 8 * n) : Nat) : Int)
          rw [UInt8.toNat_ofNat']; omega
        simp only [↓VC, VP, TT, List.getElem?_toArray, Nat.reduceEqDiff, reduceCtorEq, Nat.reduceAdd, Nat.reduceSub, Nat.reduceLT, Nat.reduceMul, Nat.reducePow, Nat.reduceLeDiff, Int.reduceToNat, Int.reduceLE, Int.reduceLT, Int.reducePow, h2, (eq_true (by omega) : ((n : Int) < 8) = True), (eq_true (by omega) : ((n : Int) < ((8 : Nat) : Int)) = True), wrap_i64 (n := (n : Int) + 1) (by omega) (by omega), decide_true, hbl, w1, w2, w3]
        refine ⟨by omega, by omega, n + 1, by omega, by omega, [0, 1, 2, 3, 4, 5, 6, 7], ?_⟩
        rw [app_set_r hs8, fl_set h2 rfl]
        simp [-List.reduceReplicate, LES, e_ren, e_ok]
      · obtain rfl : n = 8 := by omega
        rw [fl_done, show start.take 8 ++ (tab 8 fun i => UInt8.ofNat (Nk / 2 ^ (56 - 8 * i))) = cntB start k by rw [cntB_eq hs, hN, hNk]; rfl] at *
        simp only [↓VC, VP, TT, List.getElem?_toArray, Nat.reduceEqDiff, reduceCtorEq, Nat.reduceAdd, Nat.reduceSub, Nat.reduceLT, Nat.reduceMul, Nat.reducePow, Nat.reduceLeDiff, Int.reduceToNat, Int.reduceLE, Int.reduceLT, Int.reducePow, (eq_false (by omega) : (((8 : Nat) : Int) < 8) = False), decide_false, hcl]
        refine kCall_val (k_encipher c key (cntB start k) q hk (hcl k)) (by rfl) [(0, 0), (1, 0), (2, 0), (3, 0)] (by simp [CALL, cellsAt, tk, take_room, bs_length, bs_nil, e_inst, e_take, e_ok, okL, okV, Cip.bl, Cip.kbl, Cip.kd, keysB_take, instL_cip, okL_cip, k_inst, k_ok, cntB_len]) (by simp [CALL, cellsAt, tk, take_room, bs_length, bs_nil, e_inst, e_take, e_ok, okL, okV, Cip.bl, Cip.kbl, Cip.kd, keysB_take, instL_cip, okL_cip, k_inst, k_ok, cntB_len]) (by simp [CALL, cellsAt, tk, take_room, bs_length, bs_nil, e_inst, e_take, e_ok, okL, okV, Cip.bl, Cip.kbl, Cip.kd, keysB_take, instL_cip, okL_cip, k_inst, k_ok, cntB_len]) (by simp [okL_bs, okL_room, okL, okV, e_inst, e_take, e_ok, okL, okV, Cip.bl, Cip.kbl, Cip.kd, keysB_take, instL_cip, okL_cip, k_inst, k_ok, cntB_len]) ?_
        simp (config := { maxSteps := 2000000 }) only [CALL, ↓VC, VP, TT, List.getElem?_toArray, Nat.reduceEqDiff, reduceCtorEq, Nat.reduceAdd, Nat.reduceSub, Nat.reduceLT, Nat.reduceMul, Nat.reducePow, Nat.reduceLeDiff, Int.reduceToNat, Int.reduceLE, Int.reduceLT, Int.reducePow, instL_room, Bool.not_true, Bool.not_false, Cip.bl, Cip.kbl, Cip.kd, e_inst0, e_inst, enc_len, cntB_len, hcl, enc_len]
        generalize hP : (l.drop (16 * k)).take 16 = P
        have hPl : P.length = min 16 (l.length - 16 * k) := by rw [← hP, List.length_take, List.length_drop]
        have hmin : min (IntKind.i64.wrap (((16 * k : Nat) : Int) + 16)) (l.length : Int) = ((16 * k + P.length : Nat) : Int) := by rw [wrap_i64 (by omega) (by omega)]; omega
        have hw : IntKind.u64.wrap ((Nk : Int) + 1) = (((N + (k + 1)) % 2 ^ 64 : Nat) : Int) := by
          simp only [IntKind.wrap, IntKind.bits, IntKind.signed, Bool.false_and]
          simp; omega
        rw [hmin, hw]
        refine ⟨by omega, by omega, by omega, ?_⟩
        rw [Int.toNat_natCast, Nat.add_sub_cancel_left, Nat.min_eq_left (show 16 * k ≤ l.length by omega)]
        rw [Nat.min_eq_left (show 16 * k ≤ l.length by omega)] at hT
        have hel := enc_len (c := c) key (cntB start k)
        refine kLoop_of (fun s : Nat × Nat => ([.j, .j, .s 4 0 l.length cp, .p 5 0, .p 6 0, .j, .j, .s 7 0 (16 * k + s.1) (16 * k + s.1 + s.2), .c (.int .u64 (((N + (k + 1)) % 2 ^ 64 : Nat) : Int)), .j, .j, .c (.int .i64 ((16 * k : Nat))), .j, .p 8 0, .j, .j, .j, .j, .j, .j, .j, .j, .j, .j, .j, .j, .j, .j, .j, .j, .j, .j, .j, .j, .j, .j, .j, .j, .j, .j, .j, .j, .j, .j, .j, .j, .j, .j, .j, .j, .j, .j, .j, .j, .j, .j, .j, .j, .j, .j, .s 4 (16 * k) P.length (cp - 16 * k), .c (.int .i64 (P.length)), .c (.int .i64 (s.1)), .j, .j, .j, .j, .j, .j, .j, .j, .j, .j, .j, .j, .j, .j], [⟨false, c.eng 1 2⟩, ⟨false, bs c.t1⟩, ⟨false, bs c.t2⟩, ⟨false, bs (keysL c.box key (c.n + 1)) ++ List.replicate (16 * q) .j⟩, ⟨false, bs l⟩, ⟨true, [.p 0 0, .s 3 0 (c.n + 1) (c.n + 1 + q)]⟩, ⟨true, bs (cntB start k)⟩, ⟨true, bs ((cntL (c.enc key) start l).take (16 * k + s.1)) ++ List.replicate s.2 .j⟩, ⟨true, bs (c.enc key (cntB start k))⟩])) (fun s => P.length - s.1) (fun s => s.1 ≤ P.length) (0, r) (by simp) ⟨[0, 1, 2, 3, 4, 5, 6, 7, 8], by simp [-List.reduceReplicate, LES, e_ren, e_ok]⟩ ?_
        rintro ⟨j, r⟩ hj
        simp only at hj
        have hT2 : ((cntL (c.enc key) start l).take (16 * k + j)).length = 16 * k + j := by rw [List.length_take, cntL_len]; omega
        rcases Nat.lt_or_ge j P.length with h3 | h3
        · have hcs := cntL_succ (enc := c.enc key) (start := start) (show 16 * k + j < l.length by omega)
          rw [show (16 * k + j) / 16 = k by omega, show (16 * k + j) % 16 = j by omega] at hcs
          simp only [↓VC, VP, TT, List.getElem?_toArray, Nat.reduceEqDiff, reduceCtorEq, Nat.reduceAdd, Nat.reduceSub, Nat.reduceLT, Nat.reduceMul, Nat.reducePow, Nat.reduceLeDiff, Int.reduceToNat, Int.reduceLE, Int.reduceLT, Int.reducePow, (eq_true (by omega) : ((j : Int) < (P.length : Int)) = True), decide_true, hel, hT2]
          refine ⟨by omega, by omega, by omega, by omega, by omega, .inr (by omega), .inr trivial, fun r1 c' hc' _ => ⟨(j + 1, r1), by simp only; omega, by simp only; omega, [0, 1, 2, 3, 4, 5, 6, 10, 8], ?_⟩⟩
          rw [one_moreB, ← hcs, wrap_i64 (by omega) (by omega), hc', show 16 * k + j + 1 = 16 * k + (j + 1) by omega]
          simp [-List.reduceReplicate, LES, e_ren, e_ok]
        · obtain rfl : j = P.length := by omega
          simp only [↓VC, VP, TT, List.getElem?_toArray, Nat.reduceEqDiff, reduceCtorEq, Nat.reduceAdd, Nat.reduceSub, Nat.reduceLT, Nat.reduceMul, Nat.reducePow, Nat.reduceLeDiff, Int.reduceToNat, Int.reduceLE, Int.reduceLT, Int.reducePow, (eq_false (by omega) : ((P.length : Int) < (P.length : Int)) = False), decide_false]
          refine ⟨(k + 1, r), by simp only; omega, by simp only; omega, [0, 1, 2, 3, 4, 5, 6, 7], ?_⟩
          have e1 : 16 * k + P.length = min (16 * (k + 1)) l.length := by omega
          have e2 : (cntL (c.enc key) start l).take (16 * k + P.length) = (cntL (c.enc key) start l).take (16 * (k + 1)) := by
            rcases Nat.lt_or_ge (l.length - 16 * k) 16 with h4 | h4
            · rw [List.take_of_length_le (by rw [cntL_len]; omega), List.take_of_length_le (by rw [cntL_len]; omega)]
            · congr 1; omega
          rw [e2, e1, wrap_i64 (by omega) (by omega)]
          simp [-List.reduceReplicate, LES, e_ren, e_ok]
          omega
    · obtain rfl : k = (l.length + 15) / 16 := by omega
      simp only [↓VC, VP, TT, List.getElem?_toArray, Nat.reduceEqDiff, reduceCtorEq, Nat.reduceAdd, Nat.reduceSub, Nat.reduceLT, Nat.reduceMul, Nat.reducePow, Nat.reduceLeDiff, Int.reduceToNat, Int.reduceLE, Int.reduceLT, Int.reducePow, (eq_false (by omega) : (((16 * ((l.length + 15) / 16) : Nat) : Int) < (l.length : Int)) = False), decide_false]
      rw [List.take_of_length_le (by rw [cntL_len]; omega), Nat.min_eq_right h1]
      refine ⟨_, _, [0, 1, 2, 3, 4, 7], ⟨r, trivial, rfl, rfl⟩, ?_⟩
      simp [-List.reduceReplicate, LES, e_ren, e_ok]
end Go.Proofs.Ytnlkebkonkdahaa

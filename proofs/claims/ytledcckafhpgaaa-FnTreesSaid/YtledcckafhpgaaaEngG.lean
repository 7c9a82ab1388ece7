import Derived.Test.YtledcckafhpgaaaEngF
/- Blocks enciphered by the program's engine. -/
set_option linter.unusedSimpArgs false
set_option linter.unusedVariables false
namespace Go.Proofs.Ytledcckafhpgaaa
open Go Go.Vc
set_option maxRecDepth 10000
set_option maxHeartbeats 1000000
theorem takeX {X : List V} {c : Nat} : List.take (X.length + c) (X ++ List.replicate c V.j) = X ++ List.replicate c V.j := by rw [List.take_of_length_le]; simp
theorem c_encipherWith (m : Nat) (box bb pl bp A T2 key s : List UInt8) (rd : Int) (n q : Nat) (hn : n ≤ 40) (hE : EngL box bb pl bp) (hA : A.length = 16) (hpl : pl16 pl) (hk : key.length = 16) (hs : s.length = 16) :
    LC Try.prog 79 [.p 0 0, .s 3 0 (n + 1) (n + 1 + q), .a (bs s)] [⟨false, engC box bb pl bp 1 2 rd⟩, ⟨false, bs (tabL m A)⟩, ⟨false, bs T2⟩, ⟨false, bs (keysL box key (n + 1)) ++ List.replicate (16 * q) .j⟩]
      (fun v hp => v = .a (bs (encL m box A pl key s n)) ∧ hp = [⟨false, engC box bb pl bp 1 2 rd⟩, ⟨false, bs (tabL m A)⟩, ⟨false, bs T2⟩, ⟨false, bs (keysL box key (n + 1)) ++ List.replicate (16 * q) .j⟩]) := by
  refine LC_of (X := XX (fun | 1 => .one 0 (.one 1 (.one 2 (.one 3 (.one 4 (.one 5 .nil))))) | 10 => .one 0 (.one 1 (.one 2 (.one 3 (.one 4 (.one 5 (.one 6 .nil)))))) | 12 => .one 0 (.one 1 (.one 2 (.one 3 (.one 4 (.one 5 .nil))))) | 13 => .one 0 (.one 1 (.one 2 (.one 3 (.one 4 (.one 5 (.one 6 .nil)))))) | _ => .nil) (fun _ => []) [22, 24, 25, 36, 42, 47, 90] 4) envOK Try.func79 (by kernel_rfl) (by kernel_rfl) rfl (Nat.le_of_ble_eq_true (by kernel_rfl)) ?_
  simp only [kFun, Try.f79, List.length_nil, List.length_cons, Nat.sub_zero, Nat.reduceSub, Nat.reduceAdd, List.nil_append, List.cons_append, List.replicate_succ, List.replicate_zero]
  simp only [XX, ↓VC, VP, TT, List.getElem?_toArray, Nat.reduceEqDiff, reduceCtorEq, Nat.reduceAdd, Nat.reduceSub, Nat.reduceLT, Nat.reduceMul, Nat.reducePow, Nat.reduceLeDiff, Int.reduceToNat, Int.reduceLE, Int.reduceLT, Int.reducePow, hs, ↓keys_load0 hk (Nat.succ_pos n)]
  refine ⟨by omega, ?_⟩
  refine kCall_val (c_impl_XorBlocks s (keyN box key 0) hs (keyN_len hk box 0)) (by rfl) [] (by simp [CALL]) (by simp [CALL, cellsAt]) (by simp [CALL]) (by simp [okL_bs]) ?_
  simp only [CALL, ↓VC, VP, TT, List.getElem?_toArray, Nat.reduceEqDiff, reduceCtorEq, Nat.reduceAdd, Nat.reduceSub, Nat.reduceLT, Nat.reduceMul, Nat.reducePow, Nat.reduceLeDiff, Int.reduceToNat, Int.reduceLE, Int.reduceLT, Int.reducePow, hs, xorN_len]
  refine kLoop_of (fun r : Nat => ([.p 0 0, .s 3 0 (n + 1) (n + 1 + q), .j, .j, .j, .p 4 0, .p 5 0, .c (.int .i64 ((r : Int) + 1)), .j, .j, .j, .j, .j, .j, .j, .j, .j, .j, .j, .j, .j, .j, .j, .j, .j, .j, .j, .j, .j, .j, .j, .j, .j, .j, .j, .j, .j, .j, .j, .j, .j, .j, .j, .j, .j, .j, .j, .j, .j, .j, .j, .j, .j, .j, .j, .j, .j, .j, .j], [⟨false, engC box bb pl bp 1 2 rd⟩, ⟨false, bs (tabL m A)⟩, ⟨false, bs T2⟩, ⟨false, bs (keysL box key (n + 1)) ++ List.replicate (16 * q) .j⟩, ⟨true, bs (encS m box A pl key s n r)⟩, ⟨true, bs (List.replicate 16 0)⟩])) (fun r => n - r) (fun r => r ≤ n) 0 (by omega)
    ⟨[0, 1, 2, 3, 4, 5], by simp [-List.reduceReplicate, LES, renL_eng, okL_eng, encS]⟩ ?_
  intro r hr
  have hl := encS_len m box A pl key s n r
  rcases Nat.lt_or_ge r n with h | h
  · simp only [↓VC, VP, TT, List.getElem?_toArray, Nat.reduceEqDiff, reduceCtorEq, Nat.reduceAdd, Nat.reduceSub, Nat.reduceLT, Nat.reduceMul, Nat.reducePow, Nat.reduceLeDiff, Int.reduceToNat, Int.reduceLE, Int.reduceLT, Int.reducePow, (eq_true (by omega) : ((r : Int) + 1 < ((n + 1 : Nat) : Int)) = True), decide_true, hl]
    refine kLoop_of (fun i : Nat => ([.p 0 0, .s 3 0 (n + 1) (n + 1 + q), .j, .j, .j, .p 4 0, .p 5 0, .c (.int .i64 ((r : Int) + 1)), .j, .j, .j, .j, .j, .j, .j, .j, .j, .j, .j, .j, .j, .a (bs (encS m box A pl key s n r)), .c (.int .i64 (i)), .j, .j, .j, .j, .j, .j, .j, .j, .j, .j, .j, .j, .j, .j, .j, .j, .j, .j, .j, .j, .j, .j, .j, .j, .j, .j, .j, .j, .j, .j, .j, .j, .j, .j, .j, .j], [⟨false, engC box bb pl bp 1 2 rd⟩, ⟨false, bs (tabL m A)⟩, ⟨false, bs T2⟩, ⟨false, bs (keysL box key (n + 1)) ++ List.replicate (16 * q) .j⟩, ⟨true, bs (fl 16 (fun i => (encS m box A pl key s n r).getD i 0) (fun i => box.getD ((encS m box A pl key s n r).getD i 0).toNat 0) i)⟩, ⟨true, bs (List.replicate 16 0)⟩])) (fun i => 16 - i) (fun i => i ≤ 16) 0 (by omega)
      ⟨[0, 1, 2, 3, 4, 5], by rw [← fl_start hl]; simp [-List.reduceReplicate, LES, renL_eng, okL_eng]⟩ ?_
    intro i hi
    rcases Nat.lt_or_ge i 16 with h2 | h2
    · simp only [↓VC, VP, TT, List.getElem?_toArray, Nat.reduceEqDiff, reduceCtorEq, Nat.reduceAdd, Nat.reduceSub, Nat.reduceLT, Nat.reduceMul, Nat.reducePow, Nat.reduceLeDiff, Int.reduceToNat, Int.reduceLE, Int.reduceLT, Int.reducePow, h2, (eq_true (by omega) : ((i : Int) < 16) = True), (eq_true (by omega) : ((i : Int) < ((16 : Nat) : Int)) = True), wrap_i64 (n := (i : Int) + 1) (by omega) (by omega), decide_true, hl, fl_len, fl_set, ↓eng_box hE, int_lt_256]
      exact ⟨i + 1, by omega, by omega, [0, 1, 2, 3, 4, 5], by simp [-List.reduceReplicate, LES, renL_eng, okL_eng]⟩
    · obtain rfl : i = 16 := by omega
      simp only [↓VC, VP, TT, List.getElem?_toArray, Nat.reduceEqDiff, reduceCtorEq, Nat.reduceAdd, Nat.reduceSub, Nat.reduceLT, Nat.reduceMul, Nat.reducePow, Nat.reduceLeDiff, Int.reduceToNat, Int.reduceLE, Int.reduceLT, Int.reducePow, (eq_false (by omega) : (((16 : Nat) : Int) < 16) = False), decide_false, fl_len, ↓eng_pl hE]
      rw [fl_done, show (tab 16 fun i => box.getD ((encS m box A pl key s n r).getD i 0).toNat 0) = boxL 16 box (encS m box A pl key s n r) from rfl]
      refine kCall_val (c_impl_move pl (boxL 16 box (encS m box A pl key s n r)) hE.p (boxL_len _ _ _) hpl) (by rfl) [] (by simp [CALL]) (by simp [CALL, cellsAt]) (by simp [CALL]) (by simp [okL_bs]) ?_
      have w1 : IntKind.i64.wrap (((n + 1 : Nat) : Int) - 1) = (n : Int) := by rw [wrap_i64 (by omega) (by omega)]; omega
      have e1 : ((r : Int) + 1) = ((r + 1 : Nat) : Int) := by omega
      have hx := keyN_len hk box (r + 1)
      have htl := boxL_len 16 box (encS m box A pl key s n r)
      simp only [CALL, ↓VC, VP, TT, List.getElem?_toArray, Nat.reduceEqDiff, reduceCtorEq, Nat.reduceAdd, Nat.reduceSub, Nat.reduceLT, Nat.reduceMul, Nat.reducePow, Nat.reduceLeDiff, Int.reduceToNat, Int.reduceLE, Int.reduceLT, Int.reducePow, htl, moveL_len, w1, ↓eng_mixer hE]
      refine ⟨fun h3 => ?_, fun h3 => ?_⟩
      · refine kCall_M (c_mix m A (moveL pl (boxL 16 box (encS m box A pl key s n r))) 16 4 rfl (by omega) (moveL_len _ _)) (by rfl) [(1, 0), (4, 0)] (by simp [CALL]) (by simp [CALL, cellsAt, tabL_len]) (by simp) (by simp [CALL]) (by simp [okL_bs]) (by simp [keepR, mixL_len, moveL_len, bs_length]) (by simp) fun _ _ => ?_
        simp only [CALL, ↓VC, VP, TT, List.getElem?_toArray, Nat.reduceEqDiff, reduceCtorEq, Nat.reduceAdd, Nat.reduceSub, Nat.reduceLT, Nat.reduceMul, Nat.reducePow, Nat.reduceLeDiff, Int.reduceToNat, Int.reduceLE, Int.reduceLT, Int.reducePow, mixL_len, e1, ↓keys_loadR hk (show r + 1 < n + 1 by omega)]
        refine ⟨by omega, ?_⟩
        refine kCall_val (c_impl_XorBlocks (mixL 16 m A (moveL pl (boxL 16 box (encS m box A pl key s n r)))) (keyN box key (r + 1)) (mixL_len _ _ _ _) hx) (by rfl) [] (by simp [CALL]) (by simp [CALL, cellsAt]) (by simp [CALL]) (by simp [okL_bs]) ?_
        simp only [CALL, ↓VC, VP, TT, List.getElem?_toArray, Nat.reduceEqDiff, reduceCtorEq, Nat.reduceAdd, Nat.reduceSub, Nat.reduceLT, Nat.reduceMul, Nat.reducePow, Nat.reduceLeDiff, Int.reduceToNat, Int.reduceLE, Int.reduceLT, Int.reducePow, mixL_len, xorN_len]
        refine ⟨r + 1, by omega, by omega, [0, 1, 2, 3, 4, 5], ?_⟩
        rw [wrap_i64 (by omega) (by omega)]
        simp [-List.reduceReplicate, LES, renL_eng, okL_eng, encS, show r + 1 < n by omega]
      · simp only [↓VC, VP, TT, List.getElem?_toArray, Nat.reduceEqDiff, reduceCtorEq, Nat.reduceAdd, Nat.reduceSub, Nat.reduceLT, Nat.reduceMul, Nat.reducePow, Nat.reduceLeDiff, Int.reduceToNat, Int.reduceLE, Int.reduceLT, Int.reducePow, moveL_len, e1, ↓keys_loadR hk (show r + 1 < n + 1 by omega)]
        refine ⟨by omega, ?_⟩
        refine kCall_val (c_impl_XorBlocks (moveL pl (boxL 16 box (encS m box A pl key s n r))) (keyN box key (r + 1)) (moveL_len _ _) hx) (by rfl) [] (by simp [CALL]) (by simp [CALL, cellsAt]) (by simp [CALL]) (by simp [okL_bs]) ?_
        simp only [CALL, ↓VC, VP, TT, List.getElem?_toArray, Nat.reduceEqDiff, reduceCtorEq, Nat.reduceAdd, Nat.reduceSub, Nat.reduceLT, Nat.reduceMul, Nat.reducePow, Nat.reduceLeDiff, Int.reduceToNat, Int.reduceLE, Int.reduceLT, Int.reducePow, moveL_len, xorN_len]
        refine ⟨r + 1, by omega, by omega, [0, 1, 2, 3, 4, 5], ?_⟩
        rw [wrap_i64 (by omega) (by omega)]
        simp [-List.reduceReplicate, LES, renL_eng, okL_eng, encS, show ¬ r + 1 < n by omega]
  · obtain rfl : r = n := by omega
    simp only [↓VC, VP, TT, List.getElem?_toArray, Nat.reduceEqDiff, reduceCtorEq, Nat.reduceAdd, Nat.reduceSub, Nat.reduceLT, Nat.reduceMul, Nat.reducePow, Nat.reduceLeDiff, Int.reduceToNat, Int.reduceLE, Int.reduceLT, Int.reducePow, (eq_false (by omega) : ((r : Int) + 1 < ((r + 1 : Nat) : Int)) = False), decide_false, hl]
    refine ⟨_, _, [0, 1, 2, 3], ⟨rfl, rfl⟩, ?_⟩
    simp [-List.reduceReplicate, LES, renL_eng, okL_eng, encL]
theorem c_encipher (m : Nat) (box bb pl bp A T2 key s : List UInt8) (n : Nat) (hn : n ≤ 40) (hE : EngL box bb pl bp) (hA : A.length = 16) (hpl : pl16 pl) (hk : key.length = 16) (hs : s.length = 16) :
    LC Try.prog 67 [.p 0 0, .a (bs key), .a (bs s)] [⟨false, engC box bb pl bp 1 2 n⟩, ⟨false, bs (tabL m A)⟩, ⟨false, bs T2⟩]
      (fun v hp => v = .a (bs (encL m box A pl key s n)) ∧ hp = [⟨false, engC box bb pl bp 1 2 n⟩, ⟨false, bs (tabL m A)⟩, ⟨false, bs T2⟩]) := by
  refine LC_of (X := XX (fun | 1 => .one 0 (.one 1 (.one 2 (.one 3 (.one 4 (.one 5 (.one 6 (.one 8 (.one 7 (.one 9 (.one 10 .nil)))))))))) | _ => .nil) (fun _ => []) [22, 24, 25, 36, 42, 47, 90] 3) envOK Try.func67 (by kernel_rfl) (by kernel_rfl) rfl (Nat.le_of_ble_eq_true (by kernel_rfl)) ?_
  simp only [kFun, Try.f67, List.length_nil, List.length_cons, Nat.sub_zero, Nat.reduceSub, Nat.reduceAdd, List.nil_append, List.cons_append, List.replicate_succ, List.replicate_zero]
  simp only [XX, ↓VC, VP, TT, List.getElem?_toArray, Nat.reduceEqDiff, reduceCtorEq, Nat.reduceAdd, Nat.reduceSub, Nat.reduceLT, Nat.reduceMul, Nat.reducePow, Nat.reduceLeDiff, Int.reduceToNat, Int.reduceLE, Int.reduceLT, Int.reducePow, hk, hs, ↓eng_rd hE]
  refine kCall_Ret (c_impl_keys box bb pl bp (tabL m A) T2 key n n hn hE hk) (by rfl) [(0, 0), (1, 0), (2, 0)] (by simp [CALL]) (by simp [CALL, cellsAt, instL_eng]) (by simp [CALL]) (by simp [okL_bs, okL_eng]) (by simp) fun q _ => ?_
  simp only [CALL, ↓VC, VP, TT, List.getElem?_toArray, Nat.reduceEqDiff, reduceCtorEq, Nat.reduceAdd, Nat.reduceSub, Nat.reduceLT, Nat.reduceMul, Nat.reducePow, Nat.reduceLeDiff, Int.reduceToNat, Int.reduceLE, Int.reduceLT, Int.reducePow, hs]
  refine kCall_val (c_encipherWith m box bb pl bp A T2 key s n n q hn hE hA hpl hk hs) (by rfl) [(0, 0), (1, 0), (2, 0), (6, 0)] (by simp [CALL]) (by simp [CALL, cellsAt, instL_eng, takeX]) (by simp [CALL]) (by simp [okL_bs, okL_eng, okL_app, okL_rep]) ?_
  simp only [CALL, ↓VC, VP, TT, List.getElem?_toArray, Nat.reduceEqDiff, reduceCtorEq, Nat.reduceAdd, Nat.reduceSub, Nat.reduceLT, Nat.reduceMul, Nat.reducePow, Nat.reduceLeDiff, Int.reduceToNat, Int.reduceLE, Int.reduceLT, Int.reducePow, encL_len]
  refine ⟨_, _, [0, 1, 2], ⟨rfl, rfl⟩, ?_⟩
  simp [-List.reduceReplicate, LES, renL_eng, okL_eng]
end Go.Proofs.Ytledcckafhpgaaa

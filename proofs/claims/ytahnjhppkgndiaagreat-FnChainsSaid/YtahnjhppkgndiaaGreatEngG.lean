import Derived.Test.YtahnjhppkgndiaaGreatEngE
import Derived.Test.YtahnjhppkgndiaaGreatEngD
/- Keys of rounds, and blocks enciphered: the program's engine. -/
set_option linter.unusedSimpArgs false
set_option linter.unusedVariables false
namespace Go.Proofs.YtahnjhppkgndiaaGreat
open Go Go.Vc
set_option maxRecDepth 10000
set_option maxHeartbeats 1000000
/-- An engine's cells. -/
def engC (box bb pl bp : List UInt8) (h1 h2 : Nat) (rd : Int) : List V := bs box ++ (bs bb ++ (bs pl ++ (bs bp ++ [.p h1 0, .p h2 0, .c (.int .i64 rd)])))
/-- Their lengths. -/
structure EngL (box bb pl bp : List UInt8) : Prop where
  b : box.length = 256
  bb : bb.length = 256
  p : pl.length = 16
  bp : bp.length = 16
section
variable {rd : Int} {box bb pl bp : List UInt8} {h1 h2 : Nat} {k : V → Prop}
theorem engC_len (h : EngL box bb pl bp) : (engC box bb pl bp h1 h2 rd).length = 547 := by simp [engC, bs_length, h.b, h.bb, h.p, h.bp]
theorem eng_box (h : EngL box bb pl bp) (u : UInt8) : vGet (engC box bb pl bp h1 h2 rd) u.toNat k = k (.c (.int .u8 ((box.getD u.toNat 0).toNat : Int))) := by
  have := u.toNat_lt
  unfold engC; rw [vGet_appL (by rw [bs_length, h.b]; omega), vGet_bs, h.b]; simp; omega
theorem eng_pl (h : EngL box bb pl bp) : vSub (engC box bb pl bp h1 h2 rd) 512 16 k = k (.a (bs pl)) := by
  unfold engC
  rw [vSub_appR (by rw [bs_length, h.b]; omega), bs_length, h.b, vSub_appR (by rw [bs_length, h.bb]; omega), bs_length, h.bb, vSub_app0 (by rw [bs_length, h.p])]
theorem eng_mixer (h : EngL box bb pl bp) : vGet (engC box bb pl bp h1 h2 rd) 544 k = k (.p h1 0) := by
  unfold engC
  rw [vGet_appR (by rw [bs_length, h.b]; omega), bs_length, h.b, vGet_appR (by rw [bs_length, h.bb]; omega), bs_length, h.bb, vGet_appR (by rw [bs_length, h.p]; omega), bs_length, h.p, vGet_appR (by rw [bs_length, h.bp]; omega), bs_length, h.bp, vGet_zero]
theorem eng_rd (h : EngL box bb pl bp) : vGet (engC box bb pl bp h1 h2 rd) 546 k = k (.c (.int .i64 rd)) := by
  unfold engC
  rw [vGet_appR (by rw [bs_length, h.b]; omega), bs_length, h.b, vGet_appR (by rw [bs_length, h.bb]; omega), bs_length, h.bb, vGet_appR (by rw [bs_length, h.p]; omega), bs_length, h.p, vGet_appR (by rw [bs_length, h.bp]; omega), bs_length, h.bp]
  simp [vGet]
theorem renL_eng (σ : List Nat) : V.renL σ (engC box bb pl bp h1 h2 rd) = engC box bb pl bp (σ.getD h1 0) (σ.getD h2 0) rd := by simp [engC, V.renL, V.ren, renL_app, renL_bs]
theorem instL_eng {a b c : Nat} {R : List (Nat × Nat)} (N : Nat) : V.instL ((a, 0) :: (b, 0) :: (c, 0) :: R) N (engC box bb pl bp 1 2 rd) = engC box bb pl bp b c rd := by simp [engC, V.instL, V.inst, instL_app, instL_bs]
theorem okL_eng (N : Nat) : okL N (engC box bb pl bp h1 h2 rd) = (h1 < N ∧ h2 < N) := by simp [engC, okL, okV, okL_app, okL_bs]
end
theorem c_nextKey (box bb pl bp T1 T2 k : List UInt8) (rd r : Int) (hE : EngL box bb pl bp) (hk : k.length = 16) : LC Tryz.prog 199 [.p 0 0, .a (bs k), .c (.int .i64 (r))] [⟨false, engC box bb pl bp 1 2 rd⟩, ⟨false, bs T1⟩, ⟨false, bs T2⟩]
    (fun v hp => v = .a (bs (nextK box k r)) ∧ hp = [⟨false, engC box bb pl bp 1 2 rd⟩, ⟨false, bs T1⟩, ⟨false, bs T2⟩]) := by
  have hl := nkP_len hk box r
  refine LC_of (X := XX (fun | 1 => .one 0 (.one 1 (.one 2 (.one 3 (.one 4 (.one 5 (.one 6 (.one 7 (.one 8 (.one 9 (.one 10 (.one 11 (.one 12 (.one 13 (.one 14 .nil)))))))))))))) | 5 => .one 0 (.one 1 (.one 2 (.one 3 (.one 4 (.one 5 (.one 6 (.one 7 (.one 8 (.one 9 (.one 10 (.one 11 (.one 12 (.one 13 (.one 14 .nil)))))))))))))) | _ => .nil) (fun _ => []) [15, 71, 72, 73, 79, 80, 87, 90, 91, 93, 99, 119, 137, 176, 177, 203, 204, 212, 219] 3) envOK Tryz.func199 (by kernel_rfl) (by kernel_rfl) rfl (Nat.le_of_ble_eq_true (by kernel_rfl)) ?_
  simp only [kFun, Tryz.f199, List.length_nil, List.length_cons, Nat.sub_zero, Nat.reduceSub, Nat.reduceAdd, List.nil_append, List.cons_append, List.replicate_succ, List.replicate_zero]
  simp only [XX, ↓VC, VP, TT, Nat.reduceEqDiff, reduceCtorEq, Nat.reduceAdd, Nat.reduceSub, Nat.reduceLT, Nat.reduceMul, Nat.reducePow, Nat.reduceLeDiff, Int.reduceToNat, Int.reduceLE, Int.reduceLT, Int.reducePow, hk, wrap_u8, ↓eng_box hE, int_lt_256]
  refine ⟨by omega, by omega, by omega, ?_⟩
  refine kLoop_of (fun i : Nat => ([.p 0 0, .j, .c (.int .i64 (r)), .j, .p 3 0, .j, .p 4 0, .c (.int .i64 (i)), .j, .j, .j, .j, .j, .j, .j, .j, .j, .j, .j, .j, .j, .j, .j, .j, .j, .j, .j, .j, .j, .j, .j, .j, .j, .j, .j, .j, .j, .j, .j, .j, .j], [⟨false, engC box bb pl bp 1 2 rd⟩, ⟨false, bs T1⟩, ⟨false, bs T2⟩, ⟨true, bs (nkP box k r i)⟩, ⟨true, bs (List.replicate 16 0)⟩])) (fun i => 16 - i) (fun i => 1 ≤ i ∧ i ≤ 16) 1 (by omega)
    ⟨[0, 1, 2, 3, 4], by simp [-List.reduceReplicate, LES, renL_eng, okL_eng, nkP, ownK]⟩ ?_
  rintro i ⟨hi0, hi⟩
  rcases Nat.lt_or_ge i 16 with h | h
  · have w1 : IntKind.i64.wrap ((i : Int) - 1) = ((i - 1 : Nat) : Int) := by rw [wrap_i64 (by omega) (by omega)]; omega
    simp only [↓VC, VP, TT, Nat.reduceEqDiff, reduceCtorEq, Nat.reduceAdd, Nat.reduceSub, Nat.reduceLT, Nat.reduceMul, Nat.reducePow, Nat.reduceLeDiff, Int.reduceToNat, Int.reduceLE, Int.reduceLT, Int.reducePow, h, (eq_true (by omega) : ((i : Int) < 16) = True), (eq_true (by omega) : ((i : Int) < ((16 : Nat) : Int)) = True), wrap_i64 (n := (i : Int) + 1) (by omega) (by omega), decide_true, hl, w1, ↓eng_box hE, int_lt_256, (eq_true (by omega) : (((i - 1 : Nat) : Int) < ((16 : Nat) : Int)) = True), (eq_true (by omega) : (i - 1 < 16) = True)]
    refine ⟨i + 1, by omega, by omega, [0, 1, 2, 3, 4], ?_⟩
    have e : nkP box k r (i + 1) = (nkP box k r i).set i ((nkP box k r i).getD i 0 ^^^ box.getD ((nkP box k r i).getD (i - 1) 0).toNat 0) := by rw [nkP, ownK, if_neg (by omega)]
    rw [← e]
    simp [-List.reduceReplicate, LES, renL_eng, okL_eng]
  · obtain rfl : i = 16 := by omega
    simp only [↓VC, VP, TT, Nat.reduceEqDiff, reduceCtorEq, Nat.reduceAdd, Nat.reduceSub, Nat.reduceLT, Nat.reduceMul, Nat.reducePow, Nat.reduceLeDiff, Int.reduceToNat, Int.reduceLE, Int.reduceLT, Int.reducePow, (eq_false (by omega) : (((16 : Nat) : Int) < 16) = False), decide_false, hl]
    refine ⟨_, _, [0, 1, 2], ⟨rfl, rfl⟩, ?_⟩
    simp [-List.reduceReplicate, LES, renL_eng, okL_eng, nextK]
theorem c_impl_keys (box bb pl bp T1 T2 key : List UInt8) (rd : Int) (n : Nat) (hn : n ≤ 40) (hE : EngL box bb pl bp) (hk : key.length = 16) : LC Tryz.prog 170 [.p 0 0, .a (bs key), .c (.int .i64 (n))] [⟨false, engC box bb pl bp 1 2 rd⟩, ⟨false, bs T1⟩, ⟨false, bs T2⟩]
    (Ret [⟨false, engC box bb pl bp 1 2 rd⟩, ⟨false, bs T1⟩, ⟨false, bs T2⟩] (fun _ : Nat => True) fun r => (.s 3 0 (n + 1) (n + 1 + r), [⟨true, bs (keysL box key (n + 1)) ++ List.replicate (16 * r) .j⟩])) := by
  refine LC_of (X := XX (fun _ => .nil) (fun _ => []) [15, 71, 72, 73, 79, 80, 87, 90, 91, 93, 99, 119, 137, 176, 177, 203, 204, 212, 219] 3) envOK Tryz.func170 (by kernel_rfl) (by kernel_rfl) rfl (Nat.le_of_ble_eq_true (by kernel_rfl)) ?_
  simp only [kFun, Tryz.f170, List.length_nil, List.length_cons, Nat.sub_zero, Nat.reduceSub, Nat.reduceAdd, List.nil_append, List.cons_append, List.replicate_succ, List.replicate_zero]
  simp only [XX, ↓VC, VP, TT, Nat.reduceEqDiff, reduceCtorEq, Nat.reduceAdd, Nat.reduceSub, Nat.reduceLT, Nat.reduceMul, Nat.reducePow, Nat.reduceLeDiff, Int.reduceToNat, Int.reduceLE, Int.reduceLT, Int.reducePow, hk, repl1]
  refine kLoop_of (fun s : Nat × Nat => ([.p 0 0, .j, .c (.int .i64 (n)), .j, .p 3 0, .j, .j, .s 4 0 (s.1 + 1) (s.1 + 1 + s.2), .c (.int .i64 ((s.1 : Int) + 1)), .j, .j, .j, .j, .j, .j, .j, .j, .j, .j, .j, .j, .j, .j, .j, .j], [⟨false, engC box bb pl bp 1 2 rd⟩, ⟨false, bs T1⟩, ⟨false, bs T2⟩, ⟨true, bs (keyN box key s.1)⟩, ⟨true, bs (keysL box key (s.1 + 1)) ++ List.replicate (16 * s.2) .j⟩])) (fun s => n - s.1) (fun s => s.1 ≤ n) (0, 0) (by simp)
    ⟨[0, 1, 2, 3, 4], by simp [-List.reduceReplicate, LES, renL_eng, okL_eng, keyN, keysL_one]⟩ ?_
  rintro ⟨r, q⟩ hr
  simp only at hr
  have hl := keysL_len hk box (r + 1)
  have hkl := keyN_len hk box
  rcases Nat.lt_or_ge r n with h | h
  · simp only [↓VC, VP, TT, Nat.reduceEqDiff, reduceCtorEq, Nat.reduceAdd, Nat.reduceSub, Nat.reduceLT, Nat.reduceMul, Nat.reducePow, Nat.reduceLeDiff, Int.reduceToNat, Int.reduceLE, Int.reduceLT, Int.reducePow, (eq_true (by omega) : ((r : Int) + 1 ≤ n) = True), decide_true, hkl, repl1]
    refine kCall_val (c_nextKey box bb pl bp T1 T2 (keyN box key r) rd ((r : Int) + 1) hE (hkl r)) (by rfl) [(0, 0), (1, 0), (2, 0)] (by simp [CALL]) (by simp [CALL, cellsAt, instL_eng]) (by simp [CALL]) (by simp [okL_bs, okL_eng]) ?_
    simp only [CALL, ↓VC, VP, TT, Nat.reduceEqDiff, reduceCtorEq, Nat.reduceAdd, Nat.reduceSub, Nat.reduceLT, Nat.reduceMul, Nat.reducePow, Nat.reduceLeDiff, Int.reduceToNat, Int.reduceLE, Int.reduceLT, Int.reducePow, hkl, repl1, nextK_len (hkl r), hl]
    refine ⟨by omega, by omega, by omega, .inr (by omega), .inr trivial, fun r1 c' hc hc' => ⟨(r + 1, c' - (r + 2)), by simp only; omega, by simp only; omega, [0, 1, 2, 3, 6], ?_⟩⟩
    rw [take_room (n := (r + 1) * 16) (by rw [hl]; omega), show nextK box (keyN box key r) ((r : Int) + 1) = keyN box key (r + 1) from rfl, keys_app, show r1 = 16 * (c' - (r + 2)) by omega, show c' = r + 1 + 1 + (c' - (r + 2)) by omega, wrap_i64 (by omega) (by omega)]
    simp [-List.reduceReplicate, LES, renL_eng, okL_eng]
  · obtain rfl : r = n := by omega
    simp only [↓VC, VP, TT, Nat.reduceEqDiff, reduceCtorEq, Nat.reduceAdd, Nat.reduceSub, Nat.reduceLT, Nat.reduceMul, Nat.reducePow, Nat.reduceLeDiff, Int.reduceToNat, Int.reduceLE, Int.reduceLT, Int.reducePow, (eq_false (by omega) : ((r : Int) + 1 ≤ r) = False), decide_false]
    refine ⟨_, _, [0, 1, 2, 4], ⟨q, trivial, rfl, rfl⟩, ?_⟩
    simp [-List.reduceReplicate, LES, renL_eng, okL_eng]
end Go.Proofs.YtahnjhppkgndiaaGreat
/- Blocks enciphered by the program's engine. -/
set_option linter.unusedSimpArgs false
set_option linter.unusedVariables false
namespace Go.Proofs.YtahnjhppkgndiaaGreat
open Go Go.Vc
set_option maxRecDepth 10000
set_option maxHeartbeats 1000000
theorem takeX {X : List V} {c : Nat} : List.take (X.length + c) (X ++ List.replicate c V.j) = X ++ List.replicate c V.j := by rw [List.take_of_length_le]; simp
theorem c_encipherWith (m : Nat) (box bb pl bp A T2 key s : List UInt8) (rd : Int) (n q : Nat) (hn : n ≤ 40) (hE : EngL box bb pl bp) (hA : A.length = 16) (hpl : pl16 pl) (hk : key.length = 16) (hs : s.length = 16) :
    LC Tryz.prog 188 [.p 0 0, .s 3 0 (n + 1) (n + 1 + q), .a (bs s)] [⟨false, engC box bb pl bp 1 2 rd⟩, ⟨false, bs (tabL m A)⟩, ⟨false, bs T2⟩, ⟨false, bs (keysL box key (n + 1)) ++ List.replicate (16 * q) .j⟩]
      (fun v hp => v = .a (bs (encL m box A pl key s n)) ∧ hp = [⟨false, engC box bb pl bp 1 2 rd⟩, ⟨false, bs (tabL m A)⟩, ⟨false, bs T2⟩, ⟨false, bs (keysL box key (n + 1)) ++ List.replicate (16 * q) .j⟩]) := by
  refine LC_of (X := XX (fun | 1 => .one 0 (.one 1 (.one 2 (.one 3 (.one 4 (.one 5 .nil))))) | 10 => .one 0 (.one 1 (.one 2 (.one 3 (.one 4 (.one 5 (.one 6 .nil)))))) | 12 => .one 0 (.one 1 (.one 2 (.one 3 (.one 4 (.one 5 .nil))))) | 13 => .one 0 (.one 1 (.one 2 (.one 3 (.one 4 (.one 5 (.one 6 .nil)))))) | _ => .nil) (fun _ => []) [15, 71, 72, 73, 79, 80, 87, 90, 91, 93, 99, 119, 137, 176, 177, 203, 204, 212, 219] 4) envOK Tryz.func188 (by kernel_rfl) (by kernel_rfl) rfl (Nat.le_of_ble_eq_true (by kernel_rfl)) ?_
  simp only [kFun, Tryz.f188, List.length_nil, List.length_cons, Nat.sub_zero, Nat.reduceSub, Nat.reduceAdd, List.nil_append, List.cons_append, List.replicate_succ, List.replicate_zero]
  simp only [XX, ↓VC, VP, TT, Nat.reduceEqDiff, reduceCtorEq, Nat.reduceAdd, Nat.reduceSub, Nat.reduceLT, Nat.reduceMul, Nat.reducePow, Nat.reduceLeDiff, Int.reduceToNat, Int.reduceLE, Int.reduceLT, Int.reducePow, hs, ↓keys_load0 hk (Nat.succ_pos n)]
  refine ⟨by omega, ?_⟩
  refine kCall_val (c_impl_XorBlocks s (keyN box key 0) hs (keyN_len hk box 0)) (by rfl) [] (by simp [CALL]) (by simp [CALL, cellsAt]) (by simp [CALL]) (by simp [okL_bs]) ?_
  simp only [CALL, ↓VC, VP, TT, Nat.reduceEqDiff, reduceCtorEq, Nat.reduceAdd, Nat.reduceSub, Nat.reduceLT, Nat.reduceMul, Nat.reducePow, Nat.reduceLeDiff, Int.reduceToNat, Int.reduceLE, Int.reduceLT, Int.reducePow, hs, xorN_len]
  refine kLoop_of (fun r : Nat => ([.p 0 0, .s 3 0 (n + 1) (n + 1 + q), .j, .j, .j, .p 4 0, .p 5 0, .c (.int .i64 ((r : Int) + 1)), .j, .j, .j, .j, .j, .j, .j, .j, .j, .j, .j, .j, .j, .j, .j, .j, .j, .j, .j, .j, .j, .j, .j, .j, .j, .j, .j, .j, .j, .j, .j, .j, .j, .j, .j, .j, .j, .j, .j, .j, .j, .j, .j, .j, .j, .j, .j, .j, .j, .j, .j], [⟨false, engC box bb pl bp 1 2 rd⟩, ⟨false, bs (tabL m A)⟩, ⟨false, bs T2⟩, ⟨false, bs (keysL box key (n + 1)) ++ List.replicate (16 * q) .j⟩, ⟨true, bs (encS m box A pl key s n r)⟩, ⟨true, bs (List.replicate 16 0)⟩])) (fun r => n - r) (fun r => r ≤ n) 0 (by omega)
    ⟨[0, 1, 2, 3, 4, 5], by simp [-List.reduceReplicate, LES, renL_eng, okL_eng, encS]⟩ ?_
  intro r hr
  have hl := encS_len m box A pl key s n r
  rcases Nat.lt_or_ge r n with h | h
  · simp only [↓VC, VP, TT, Nat.reduceEqDiff, reduceCtorEq, Nat.reduceAdd, Nat.reduceSub, Nat.reduceLT, Nat.reduceMul, Nat.reducePow, Nat.reduceLeDiff, Int.reduceToNat, Int.reduceLE, Int.reduceLT, Int.reducePow, (eq_true (by omega) : ((r : Int) + 1 < ((n + 1 : Nat) : Int)) = True), decide_true, hl]
    refine kLoop_of (fun i : Nat => ([.p 0 0, .s 3 0 (n + 1) (n + 1 + q), .j, .j, .j, .p 4 0, .p 5 0, .c (.int .i64 ((r : Int) + 1)), .j, .j, .j, .j, .j, .j, .j, .j, .j, .j, .j, .j, .j, .a (bs (encS m box A pl key s n r)), .c (.int .i64 (i)), .j, .j, .j, .j, .j, .j, .j, .j, .j, .j, .j, .j, .j, .j, .j, .j, .j, .j, .j, .j, .j, .j, .j, .j, .j, .j, .j, .j, .j, .j, .j, .j, .j, .j, .j, .j], [⟨false, engC box bb pl bp 1 2 rd⟩, ⟨false, bs (tabL m A)⟩, ⟨false, bs T2⟩, ⟨false, bs (keysL box key (n + 1)) ++ List.replicate (16 * q) .j⟩, ⟨true, bs (fl 16 (fun i => (encS m box A pl key s n r).getD i 0) (fun i => box.getD ((encS m box A pl key s n r).getD i 0).toNat 0) i)⟩, ⟨true, bs (List.replicate 16 0)⟩])) (fun i => 16 - i) (fun i => i ≤ 16) 0 (by omega)
      ⟨[0, 1, 2, 3, 4, 5], by rw [← fl_start hl]; simp [-List.reduceReplicate, LES, renL_eng, okL_eng]⟩ ?_
    intro i hi
    rcases Nat.lt_or_ge i 16 with h2 | h2
    · simp only [↓VC, VP, TT, Nat.reduceEqDiff, reduceCtorEq, Nat.reduceAdd, Nat.reduceSub, Nat.reduceLT, Nat.reduceMul, Nat.reducePow, Nat.reduceLeDiff, Int.reduceToNat, Int.reduceLE, Int.reduceLT, Int.reducePow, h2, (eq_true (by omega) : ((i : Int) < 16) = True), (eq_true (by omega) : ((i : Int) < ((16 : Nat) : Int)) = True), wrap_i64 (n := (i : Int) + 1) (by omega) (by omega), decide_true, hl, fl_len, fl_set, ↓eng_box hE, int_lt_256]
      exact ⟨i + 1, by omega, by omega, [0, 1, 2, 3, 4, 5], by simp [-List.reduceReplicate, LES, renL_eng, okL_eng]⟩
    · obtain rfl : i = 16 := by omega
      simp only [↓VC, VP, TT, Nat.reduceEqDiff, reduceCtorEq, Nat.reduceAdd, Nat.reduceSub, Nat.reduceLT, Nat.reduceMul, Nat.reducePow, Nat.reduceLeDiff, Int.reduceToNat, Int.reduceLE, Int.reduceLT, Int.reducePow, (eq_false (by omega) : (((16 : Nat) : Int) < 16) = False), decide_false, fl_len, ↓eng_pl hE]
      rw [fl_done, show (tab 16 fun i => box.getD ((encS m box A pl key s n r).getD i 0).toNat 0) = boxL 16 box (encS m box A pl key s n r) from rfl]
      refine kCall_val (c_impl_move pl (boxL 16 box (encS m box A pl key s n r)) hE.p (boxL_len _ _ _) hpl) (by rfl) [] (by simp [CALL]) (by simp [CALL, cellsAt]) (by simp [CALL]) (by simp [okL_bs]) ?_
      have w1 : IntKind.i64.wrap (((n + 1 : Nat) : Int) - 1) = (n : Int) := by rw [wrap_i64 (by omega) (by omega)]; omega
      have e1 : ((r : Int) + 1) = ((r + 1 : Nat) : Int) := by omega
      have hx := keyN_len hk box (r + 1)
      have htl := boxL_len 16 box (encS m box A pl key s n r)
      simp only [CALL, ↓VC, VP, TT, Nat.reduceEqDiff, reduceCtorEq, Nat.reduceAdd, Nat.reduceSub, Nat.reduceLT, Nat.reduceMul, Nat.reducePow, Nat.reduceLeDiff, Int.reduceToNat, Int.reduceLE, Int.reduceLT, Int.reducePow, htl, moveL_len, w1, ↓eng_mixer hE]
      refine ⟨fun h3 => ?_, fun h3 => ?_⟩
      · refine kCall_M (c_mix m A (moveL pl (boxL 16 box (encS m box A pl key s n r))) 16 4 rfl (by omega) (moveL_len _ _)) (by rfl) [(1, 0), (4, 0)] (by simp [CALL]) (by simp [CALL, cellsAt, tabL_len]) (by simp) (by simp [CALL]) (by simp [okL_bs]) (by simp [keepR, mixL_len, moveL_len, bs_length]) (by simp) fun _ _ => ?_
        simp only [CALL, ↓VC, VP, TT, Nat.reduceEqDiff, reduceCtorEq, Nat.reduceAdd, Nat.reduceSub, Nat.reduceLT, Nat.reduceMul, Nat.reducePow, Nat.reduceLeDiff, Int.reduceToNat, Int.reduceLE, Int.reduceLT, Int.reducePow, mixL_len, e1, ↓keys_loadR hk (show r + 1 < n + 1 by omega)]
        refine ⟨by omega, ?_⟩
        refine kCall_val (c_impl_XorBlocks (mixL 16 m A (moveL pl (boxL 16 box (encS m box A pl key s n r)))) (keyN box key (r + 1)) (mixL_len _ _ _ _) hx) (by rfl) [] (by simp [CALL]) (by simp [CALL, cellsAt]) (by simp [CALL]) (by simp [okL_bs]) ?_
        simp only [CALL, ↓VC, VP, TT, Nat.reduceEqDiff, reduceCtorEq, Nat.reduceAdd, Nat.reduceSub, Nat.reduceLT, Nat.reduceMul, Nat.reducePow, Nat.reduceLeDiff, Int.reduceToNat, Int.reduceLE, Int.reduceLT, Int.reducePow, mixL_len, xorN_len]
        refine ⟨r + 1, by omega, by omega, [0, 1, 2, 3, 4, 5], ?_⟩
        rw [wrap_i64 (by omega) (by omega)]
        simp [-List.reduceReplicate, LES, renL_eng, okL_eng, encS, show r + 1 < n by omega]
      · simp only [↓VC, VP, TT, Nat.reduceEqDiff, reduceCtorEq, Nat.reduceAdd, Nat.reduceSub, Nat.reduceLT, Nat.reduceMul, Nat.reducePow, Nat.reduceLeDiff, Int.reduceToNat, Int.reduceLE, Int.reduceLT, Int.reducePow, moveL_len, e1, ↓keys_loadR hk (show r + 1 < n + 1 by omega)]
        refine ⟨by omega, ?_⟩
        refine kCall_val (c_impl_XorBlocks (moveL pl (boxL 16 box (encS m box A pl key s n r))) (keyN box key (r + 1)) (moveL_len _ _) hx) (by rfl) [] (by simp [CALL]) (by simp [CALL, cellsAt]) (by simp [CALL]) (by simp [okL_bs]) ?_
        simp only [CALL, ↓VC, VP, TT, Nat.reduceEqDiff, reduceCtorEq, Nat.reduceAdd, Nat.reduceSub, Nat.reduceLT, Nat.reduceMul, Nat.reducePow, Nat.reduceLeDiff, Int.reduceToNat, Int.reduceLE, Int.reduceLT, Int.reducePow, moveL_len, xorN_len]
        refine ⟨r + 1, by omega, by omega, [0, 1, 2, 3, 4, 5], ?_⟩
        rw [wrap_i64 (by omega) (by omega)]
        simp [-List.reduceReplicate, LES, renL_eng, okL_eng, encS, show ¬ r + 1 < n by omega]
  · obtain rfl : r = n := by omega
    simp only [↓VC, VP, TT, Nat.reduceEqDiff, reduceCtorEq, Nat.reduceAdd, Nat.reduceSub, Nat.reduceLT, Nat.reduceMul, Nat.reducePow, Nat.reduceLeDiff, Int.reduceToNat, Int.reduceLE, Int.reduceLT, Int.reducePow, (eq_false (by omega) : ((r : Int) + 1 < ((r + 1 : Nat) : Int)) = False), decide_false, hl]
    refine ⟨_, _, [0, 1, 2, 3], ⟨rfl, rfl⟩, ?_⟩
    simp [-List.reduceReplicate, LES, renL_eng, okL_eng, encL]
theorem c_encipher (m : Nat) (box bb pl bp A T2 key s : List UInt8) (n : Nat) (hn : n ≤ 40) (hE : EngL box bb pl bp) (hA : A.length = 16) (hpl : pl16 pl) (hk : key.length = 16) (hs : s.length = 16) :
    LC Tryz.prog 160 [.p 0 0, .a (bs key), .a (bs s)] [⟨false, engC box bb pl bp 1 2 n⟩, ⟨false, bs (tabL m A)⟩, ⟨false, bs T2⟩]
      (fun v hp => v = .a (bs (encL m box A pl key s n)) ∧ hp = [⟨false, engC box bb pl bp 1 2 n⟩, ⟨false, bs (tabL m A)⟩, ⟨false, bs T2⟩]) := by
  refine LC_of (X := XX (fun | 1 => .one 0 (.one 1 (.one 2 (.one 3 (.one 4 (.one 5 (.one 6 (.one 8 (.one 7 (.one 9 (.one 10 .nil)))))))))) | _ => .nil) (fun _ => []) [15, 71, 72, 73, 79, 80, 87, 90, 91, 93, 99, 119, 137, 176, 177, 203, 204, 212, 219] 3) envOK Tryz.func160 (by kernel_rfl) (by kernel_rfl) rfl (Nat.le_of_ble_eq_true (by kernel_rfl)) ?_
  simp only [kFun, Tryz.f160, List.length_nil, List.length_cons, Nat.sub_zero, Nat.reduceSub, Nat.reduceAdd, List.nil_append, List.cons_append, List.replicate_succ, List.replicate_zero]
  simp only [XX, ↓VC, VP, TT, Nat.reduceEqDiff, reduceCtorEq, Nat.reduceAdd, Nat.reduceSub, Nat.reduceLT, Nat.reduceMul, Nat.reducePow, Nat.reduceLeDiff, Int.reduceToNat, Int.reduceLE, Int.reduceLT, Int.reducePow, hk, hs, ↓eng_rd hE]
  refine kCall_Ret (c_impl_keys box bb pl bp (tabL m A) T2 key n n hn hE hk) (by rfl) [(0, 0), (1, 0), (2, 0)] (by simp [CALL]) (by simp [CALL, cellsAt, instL_eng]) (by simp [CALL]) (by simp [okL_bs, okL_eng]) (by simp) fun q _ => ?_
  simp only [CALL, ↓VC, VP, TT, Nat.reduceEqDiff, reduceCtorEq, Nat.reduceAdd, Nat.reduceSub, Nat.reduceLT, Nat.reduceMul, Nat.reducePow, Nat.reduceLeDiff, Int.reduceToNat, Int.reduceLE, Int.reduceLT, Int.reducePow, hs]
  refine kCall_val (c_encipherWith m box bb pl bp A T2 key s n n q hn hE hA hpl hk hs) (by rfl) [(0, 0), (1, 0), (2, 0), (6, 0)] (by simp [CALL]) (by simp [CALL, cellsAt, instL_eng, takeX]) (by simp [CALL]) (by simp [okL_bs, okL_eng, okL_app, okL_rep]) ?_
  simp only [CALL, ↓VC, VP, TT, Nat.reduceEqDiff, reduceCtorEq, Nat.reduceAdd, Nat.reduceSub, Nat.reduceLT, Nat.reduceMul, Nat.reducePow, Nat.reduceLeDiff, Int.reduceToNat, Int.reduceLE, Int.reduceLT, Int.reducePow, encL_len]
  refine ⟨_, _, [0, 1, 2], ⟨rfl, rfl⟩, ?_⟩
  simp [-List.reduceReplicate, LES, renL_eng, okL_eng]
end Go.Proofs.YtahnjhppkgndiaaGreat

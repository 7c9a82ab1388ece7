import Derived.Test.YtahnjhppkgndiaaGreatEngA
import Derived.Test.YtahnjhppkgndiaaGreatEngD
/- Keys of rounds, and blocks enciphered: the reference. -/
set_option linter.unusedSimpArgs false
set_option linter.unusedVariables false
namespace Go.Proofs.YtahnjhppkgndiaaGreat
open Go Go.Vc
set_option maxRecDepth 10000
set_option maxHeartbeats 1000000
/-- A cipher's cells. -/
def cipC (f : Int) (box A pl : List UInt8) (r : Int) : List V := .c (.int .i64 f) :: (bs box ++ (bs A ++ (bs pl ++ [.c (.int .i64 r)])))
theorem cipC_len {f r : Int} {box A pl : List UInt8} (hb : box.length = 256) (hA : A.length = 16) (hp : pl.length = 16) : (cipC f box A pl r).length = 290 := by
  simp [cipC, bs_length, hb, hA, hp]
section
variable {f r : Int} {box A pl : List UInt8} {k : V → Prop} {kl : List V → Prop}
theorem cip_field : vGet (cipC f box A pl r) 0 k = k (.c (.int .i64 f)) := by unfold cipC; rw [vGet_zero]
theorem cip_box (hb : box.length = 256) : vSub (cipC f box A pl r) 1 256 k = k (.a (bs box)) := by
  unfold cipC; rw [show (1 : Nat) = 0 + 1 from rfl, vSub_succ, vSub_app0 (by rw [bs_length, hb])]
theorem cip_mix (hb : box.length = 256) (hA : A.length = 16) : vSub (cipC f box A pl r) 257 16 k = k (.a (bs A)) := by
  unfold cipC
  rw [show (257 : Nat) = 256 + 1 from rfl, vSub_succ, vSub_appR (by rw [bs_length, hb]; exact Nat.le_refl _), bs_length, hb, vSub_app0 (by rw [bs_length, hA])]
theorem cip_pl (hb : box.length = 256) (hA : A.length = 16) (hp : pl.length = 16) : vSub (cipC f box A pl r) 273 16 k = k (.a (bs pl)) := by
  unfold cipC
  rw [show (273 : Nat) = 272 + 1 from rfl, vSub_succ, vSub_appR (by rw [bs_length, hb]; omega), bs_length, hb, vSub_appR (by rw [bs_length, hA]; omega), bs_length, hA, vSub_app0 (by rw [bs_length, hp])]
theorem cip_rd (hb : box.length = 256) (hA : A.length = 16) (hp : pl.length = 16) : vGet (cipC f box A pl r) 289 k = k (.c (.int .i64 r)) := by
  unfold cipC
  rw [show (289 : Nat) = 288 + 1 from rfl, vGet_succ, vGet_appR (by rw [bs_length, hb]; omega), bs_length, hb, vGet_appR (by rw [bs_length, hA]; omega), bs_length, hA, vGet_appR (by rw [bs_length, hp]; omega), bs_length, hp, vGet_zero]
theorem cip_all {n : Nat} (hb : box.length = 256) (hA : A.length = 16) (hp : pl.length = 16) (hn : n = 290) : vSub (cipC f box A pl r) 0 n k = k (.a (cipC f box A pl r)) := vSub_all (by rw [cipC_len hb hA hp, hn])
theorem renL_cip (σ : List Nat) : V.renL σ (cipC f box A pl r) = cipC f box A pl r := by simp [cipC, V.renL, V.ren, renL_app, renL_bs]
theorem instL_cip (sub : List (Nat × Nat)) (N : Nat) : V.instL sub N (cipC f box A pl r) = cipC f box A pl r := by simp [cipC, V.instL, V.inst, instL_app, instL_bs]
theorem okL_cip (N : Nat) : okL N (cipC f box A pl r) := by simp [cipC, okL, okV, okL_app, okL_bs]
end
/-- The slice of the keys of n rounds, with room behind. -/
theorem keys_app (box key : List UInt8) (n r : Nat) : bs (keysL box key n) ++ bs (keyN box key n) ++ List.replicate r V.j = bs (keysL box key (n + 1)) ++ List.replicate r V.j := by
  rw [bs_append]; rfl
theorem repl1 {l : List V} : (List.replicate 1 l).flatten = l := by simp
theorem keysL_one {box key : List UInt8} : keysL box key 1 = key := rfl
theorem c_spec_l04Keys (f : Int) (box A pl key : List UInt8) (rd : Int) (n : Nat) (hn : n ≤ 40) (hb : box.length = 256) (hA : A.length = 16) (hp : pl.length = 16) (hk : key.length = 16) :
    LC Tryz.prog 189 [.a (cipC f box A pl rd), .a (bs key), .c (.int .i64 (n))] [] (Ret [] (fun _ : Nat => True) fun r => (.s 0 0 (n + 1) (n + 1 + r), [⟨true, bs (keysL box key (n + 1)) ++ List.replicate (16 * r) .j⟩])) := by
  refine LC_of (X := XX (fun _ => .nil) (fun _ => []) [15, 71, 72, 73, 79, 80, 87, 90, 91, 93, 99, 119, 137, 176, 177, 203, 204, 212, 219] 0) envOK Tryz.func189 (by kernel_rfl) (by kernel_rfl) rfl (Nat.le_of_ble_eq_true (by kernel_rfl)) ?_
  simp only [kFun, Tryz.f189, List.length_nil, List.length_cons, Nat.sub_zero, Nat.reduceSub, Nat.reduceAdd, List.nil_append, List.cons_append, List.replicate_succ, List.replicate_zero]
  simp only [XX, ↓VC, VP, TT, Nat.reduceEqDiff, reduceCtorEq, Nat.reduceAdd, Nat.reduceSub, Nat.reduceLT, Nat.reduceMul, Nat.reducePow, Nat.reduceLeDiff, Int.reduceToNat, Int.reduceLE, Int.reduceLT, Int.reducePow, hk, cipC_len hb hA hp, repl1]
  refine kLoop_of (fun s : Nat × Nat => ([.j, .j, .c (.int .i64 (n)), .p 0 0, .p 1 0, .j, .j, .s 2 0 (s.1 + 1) (s.1 + 1 + s.2), .c (.int .i64 ((s.1 : Int) + 1)), .j, .j, .j, .j, .j, .j, .j, .j, .j, .j, .j, .j, .j, .j, .j, .j, .j], [⟨true, cipC f box A pl rd⟩, ⟨true, bs (keyN box key s.1)⟩, ⟨true, bs (keysL box key (s.1 + 1)) ++ List.replicate (16 * s.2) .j⟩])) (fun s => n - s.1) (fun s => s.1 ≤ n) (0, 0) (by simp)
    ⟨[0, 1, 2], by simp [-List.reduceReplicate, LES, renL_cip, okL_cip, keyN, keysL_one]⟩ ?_
  rintro ⟨r, q⟩ hr
  simp only at hr
  have hl := keysL_len hk box (r + 1)
  have hkl := keyN_len hk box
  rcases Nat.lt_or_ge r n with h | h
  · simp only [↓VC, VP, TT, Nat.reduceEqDiff, reduceCtorEq, Nat.reduceAdd, Nat.reduceSub, Nat.reduceLT, Nat.reduceMul, Nat.reducePow, Nat.reduceLeDiff, Int.reduceToNat, Int.reduceLE, Int.reduceLT, Int.reducePow, (eq_true (by omega) : ((r : Int) + 1 ≤ n) = True), decide_true, ↓cip_box hb, hkl, repl1]
    refine kCall_val (c_spec_l04Next box (keyN box key r) ((r : Int) + 1) hb (hkl r)) (by rfl) [] (by simp [CALL]) (by simp [CALL, cellsAt]) (by simp [CALL]) (by simp [okL_bs]) ?_
    simp only [CALL, ↓VC, VP, TT, Nat.reduceEqDiff, reduceCtorEq, Nat.reduceAdd, Nat.reduceSub, Nat.reduceLT, Nat.reduceMul, Nat.reducePow, Nat.reduceLeDiff, Int.reduceToNat, Int.reduceLE, Int.reduceLT, Int.reducePow, hkl, repl1, nextK_len (hkl r), hl]
    refine ⟨by omega, by omega, by omega, .inr (by omega), .inr trivial, fun r1 c' hc hc' => ⟨(r + 1, c' - (r + 2)), by simp only; omega, by simp only; omega, [0, 1, 4], ?_⟩⟩
    rw [take_room (n := (r + 1) * 16) (by rw [hl]; omega), show nextK box (keyN box key r) ((r : Int) + 1) = keyN box key (r + 1) from rfl, keys_app, show r1 = 16 * (c' - (r + 2)) by omega, show c' = r + 1 + 1 + (c' - (r + 2)) by omega, wrap_i64 (by omega) (by omega)]
    simp [-List.reduceReplicate, LES, renL_cip, okL_cip]
  · obtain rfl : r = n := by omega
    simp only [↓VC, VP, TT, Nat.reduceEqDiff, reduceCtorEq, Nat.reduceAdd, Nat.reduceSub, Nat.reduceLT, Nat.reduceMul, Nat.reducePow, Nat.reduceLeDiff, Int.reduceToNat, Int.reduceLE, Int.reduceLT, Int.reducePow, (eq_false (by omega) : ((r : Int) + 1 ≤ r) = False), decide_false]
    refine ⟨_, _, [2], ⟨q, trivial, rfl, rfl⟩, ?_⟩
    simp [-List.reduceReplicate, LES]
theorem keys_load0 {box key : List UInt8} {n : Nat} {R : List V} {k : V → Prop} (hk : key.length = 16) (h : 0 < n) : vSub (bs (keysL box key n) ++ R) 0 16 k = k (.a (bs (keyN box key 0))) := by
  have hl := keysL_len hk box n
  rw [vSub_appL (by rw [bs_length, hl]; omega), vSub_bs, ← keysL_at hk box h]
  simp [hl]; omega
theorem keys_loadR {box key : List UInt8} {n r : Nat} {R : List V} {k : V → Prop} (hk : key.length = 16) (h : r < n) : vSub (bs (keysL box key n) ++ R) (r * 16) 16 k = k (.a (bs (keyN box key r))) := by
  have hl := keysL_len hk box n
  rw [vSub_appL (by rw [bs_length, hl]; omega), vSub_bs, ← keysL_at hk box h, show r * 16 = 16 * r by omega]
  simp [hl]; omega
theorem c_spec_l04Encipher (m : Nat) (box A pl key s : List UInt8) (rd : Int) (n : Nat) (hn : n ≤ 40) (hm : 256 ≤ m) (hm' : m < 512) (hb : box.length = 256) (hA : A.length = 16) (hp : pl.length = 16) (hpl : pl16 pl) (hk : key.length = 16) (hs : s.length = 16) :
    LC Tryz.prog 164 [.a (cipC m box A pl rd), .a (bs key), .a (bs s), .c (.int .i64 (n))] [] (fun v hp => v = .a (bs (encL m box A pl key s n)) ∧ hp = []) := by
  refine LC_of (X := XX (fun | 2 => .one 0 (.one 1 (.one 2 (.one 3 (.one 4 (.one 5 .nil))))) | 6 => .one 0 (.one 1 (.one 2 (.one 3 (.one 4 (.one 5 (.one 6 (.one 7 .nil))))))) | 9 => .one 0 (.one 1 (.one 2 (.one 3 (.one 4 (.one 5 (.one 6 .nil)))))) | _ => .nil) (fun _ => []) [15, 71, 72, 73, 79, 80, 87, 90, 91, 93, 99, 119, 137, 176, 177, 203, 204, 212, 219] 0) envOK Tryz.func164 (by kernel_rfl) (by kernel_rfl) rfl (Nat.le_of_ble_eq_true (by kernel_rfl)) ?_
  simp only [kFun, Tryz.f164, List.length_nil, List.length_cons, Nat.sub_zero, Nat.reduceSub, Nat.reduceAdd, List.nil_append, List.cons_append, List.replicate_succ, List.replicate_zero]
  simp only [XX, ↓VC, VP, TT, Nat.reduceEqDiff, reduceCtorEq, Nat.reduceAdd, Nat.reduceSub, Nat.reduceLT, Nat.reduceMul, Nat.reducePow, Nat.reduceLeDiff, Int.reduceToNat, Int.reduceLE, Int.reduceLT, Int.reducePow, hk, hs, cipC_len hb hA hp, ↓cip_all hb hA hp]
  refine kCall_Ret (c_spec_l04Keys m box A pl key rd n hn hb hA hp hk) (by rfl) [] (by simp [CALL, instL_cip]) (by simp [CALL]) (by simp [CALL, okL_cip]) (by simp) (by simp) fun q _ => ?_
  simp only [CALL, ↓VC, VP, TT, Nat.reduceEqDiff, reduceCtorEq, Nat.reduceAdd, Nat.reduceSub, Nat.reduceLT, Nat.reduceMul, Nat.reducePow, Nat.reduceLeDiff, Int.reduceToNat, Int.reduceLE, Int.reduceLT, Int.reducePow, hs, ↓keys_load0 hk (Nat.succ_pos n)]
  refine ⟨by omega, ?_⟩
  refine kCall_val (c_spec_l01Xor s (keyN box key 0) hs (keyN_len hk box 0)) (by rfl) [] (by simp [CALL]) (by simp [CALL, cellsAt]) (by simp [CALL]) (by simp [okL_bs]) ?_
  simp only [CALL, ↓VC, VP, TT, Nat.reduceEqDiff, reduceCtorEq, Nat.reduceAdd, Nat.reduceSub, Nat.reduceLT, Nat.reduceMul, Nat.reducePow, Nat.reduceLeDiff, Int.reduceToNat, Int.reduceLE, Int.reduceLT, Int.reducePow, hs, xorN_len]
  refine kLoop_of (fun r : Nat => ([.j, .j, .j, .c (.int .i64 (n)), .p 0 0, .p 1 0, .p 2 0, .j, .p 3 0, .s 4 0 (n + 1) (n + 1 + q), .c (.int .i64 ((r : Int) + 1)), .j, .j, .j, .j, .j, .j, .j, .j, .j, .j, .j, .j, .j, .j, .j, .j, .j, .j, .j, .j, .j, .j, .j, .j, .j, .j, .j, .j, .j, .j, .j, .j, .j, .j, .j, .j, .j], [⟨true, cipC m box A pl rd⟩, ⟨true, bs key⟩, ⟨true, bs (encS m box A pl key s n r)⟩, ⟨true, bs (List.replicate 16 0)⟩, ⟨true, bs (keysL box key (n + 1)) ++ List.replicate (16 * q) .j⟩])) (fun r => n - r) (fun r => r ≤ n) 0 (by omega)
    ⟨[0, 1, 2, 3, 4], by simp [-List.reduceReplicate, LES, renL_cip, okL_cip, encS]⟩ ?_
  intro r hr
  have hl := encS_len m box A pl key s n
  rcases Nat.lt_or_ge r n with h | h
  · simp only [↓VC, VP, TT, Nat.reduceEqDiff, reduceCtorEq, Nat.reduceAdd, Nat.reduceSub, Nat.reduceLT, Nat.reduceMul, Nat.reducePow, Nat.reduceLeDiff, Int.reduceToNat, Int.reduceLE, Int.reduceLT, Int.reducePow, (eq_true (by omega) : ((r : Int) + 1 ≤ n) = True), decide_true, hl, ↓cip_pl hb hA hp, ↓cip_box hb]
    refine kCall_val (c_spec_l04Boxes box (encS m box A pl key s n r) hb (hl r)) (by rfl) [] (by simp [CALL]) (by simp [CALL, cellsAt]) (by simp [CALL]) (by simp [okL_bs]) ?_
    simp only [CALL, ↓VC, VP, TT, Nat.reduceEqDiff, reduceCtorEq, Nat.reduceAdd, Nat.reduceSub, Nat.reduceLT, Nat.reduceMul, Nat.reducePow, Nat.reduceLeDiff, Int.reduceToNat, Int.reduceLE, Int.reduceLT, Int.reducePow]
    refine kCall_val (c_spec_l03Move pl (boxL 16 box (encS m box A pl key s n r)) hp (boxL_len _ _ _) hpl) (by rfl) [] (by simp [CALL]) (by simp [CALL, cellsAt]) (by simp [CALL]) (by simp [okL_bs]) ?_
    simp only [CALL, ↓VC, VP, TT, Nat.reduceEqDiff, reduceCtorEq, Nat.reduceAdd, Nat.reduceSub, Nat.reduceLT, Nat.reduceMul, Nat.reducePow, Nat.reduceLeDiff, Int.reduceToNat, Int.reduceLE, Int.reduceLT, Int.reducePow, hl, moveL_len, ↓cip_field, ↓cip_mix hb hA]
    have w1 : IntKind.i64.wrap ((r : Int) + 1 + 1) = ((r + 1 : Nat) : Int) + 1 := by rw [wrap_i64 (by omega) (by omega)]; omega
    have e1 : ((r : Int) + 1) = ((r + 1 : Nat) : Int) := by omega
    have hx := keyN_len hk box (r + 1)
    refine ⟨fun h2 => ?_, fun h2 => ?_⟩
    · refine kCall_val (c_spec_l03Mix m A (moveL pl (boxL 16 box (encS m box A pl key s n r))) hm hm' hA (moveL_len _ _)) (by rfl) [] (by simp [CALL]) (by simp [CALL, cellsAt]) (by simp [CALL]) (by simp [okL_bs]) ?_
      simp only [CALL, ↓VC, VP, TT, Nat.reduceEqDiff, reduceCtorEq, Nat.reduceAdd, Nat.reduceSub, Nat.reduceLT, Nat.reduceMul, Nat.reducePow, Nat.reduceLeDiff, Int.reduceToNat, Int.reduceLE, Int.reduceLT, Int.reducePow, hl, moveL_len, mixL_len, e1, ↓keys_loadR hk (show r + 1 < n + 1 by omega)]
      refine ⟨by omega, ?_⟩
      refine kCall_val (c_spec_l01Xor (mixL 16 m A (moveL pl (boxL 16 box (encS m box A pl key s n r)))) (keyN box key (r + 1)) (mixL_len _ _ _ _) hx) (by rfl) [] (by simp [CALL]) (by simp [CALL, cellsAt]) (by simp [CALL]) (by simp [okL_bs]) ?_
      simp only [CALL, ↓VC, VP, TT, Nat.reduceEqDiff, reduceCtorEq, Nat.reduceAdd, Nat.reduceSub, Nat.reduceLT, Nat.reduceMul, Nat.reducePow, Nat.reduceLeDiff, Int.reduceToNat, Int.reduceLE, Int.reduceLT, Int.reducePow, mixL_len, xorN_len]
      refine ⟨r + 1, by omega, by omega, [0, 1, 2, 3, 4], ?_⟩
      rw [show ((r + 1 : Nat) : Int) + 1 = ((r + 1 : Nat) : Int) + 1 from rfl, wrap_i64 (by omega) (by omega)]
      simp [-List.reduceReplicate, LES, renL_cip, okL_cip, encS, show r + 1 < n by omega]
    · simp only [↓VC, VP, TT, Nat.reduceEqDiff, reduceCtorEq, Nat.reduceAdd, Nat.reduceSub, Nat.reduceLT, Nat.reduceMul, Nat.reducePow, Nat.reduceLeDiff, Int.reduceToNat, Int.reduceLE, Int.reduceLT, Int.reducePow, hl, moveL_len, e1, ↓keys_loadR hk (show r + 1 < n + 1 by omega)]
      refine ⟨by omega, ?_⟩
      refine kCall_val (c_spec_l01Xor (moveL pl (boxL 16 box (encS m box A pl key s n r))) (keyN box key (r + 1)) (moveL_len _ _) hx) (by rfl) [] (by simp [CALL]) (by simp [CALL, cellsAt]) (by simp [CALL]) (by simp [okL_bs]) ?_
      simp only [CALL, ↓VC, VP, TT, Nat.reduceEqDiff, reduceCtorEq, Nat.reduceAdd, Nat.reduceSub, Nat.reduceLT, Nat.reduceMul, Nat.reducePow, Nat.reduceLeDiff, Int.reduceToNat, Int.reduceLE, Int.reduceLT, Int.reducePow, moveL_len, xorN_len]
      refine ⟨r + 1, by omega, by omega, [0, 1, 2, 3, 4], ?_⟩
      rw [wrap_i64 (by omega) (by omega)]
      simp [-List.reduceReplicate, LES, renL_cip, okL_cip, encS, show ¬ r + 1 < n by omega]
  · obtain rfl : r = n := by omega
    simp only [↓VC, VP, TT, Nat.reduceEqDiff, reduceCtorEq, Nat.reduceAdd, Nat.reduceSub, Nat.reduceLT, Nat.reduceMul, Nat.reducePow, Nat.reduceLeDiff, Int.reduceToNat, Int.reduceLE, Int.reduceLT, Int.reducePow, (eq_false (by omega) : ((r : Int) + 1 ≤ r) = False), decide_false, hl]
    refine ⟨_, _, [], ⟨rfl, rfl⟩, ?_⟩; simp [-List.reduceReplicate, LES, encL]
end Go.Proofs.YtahnjhppkgndiaaGreat

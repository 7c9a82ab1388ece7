import Derived.Test.YtahnjhppkgndiaaGreatEngE
/- The house's cipher: the reference and the program make the same one. -/
set_option linter.unusedSimpArgs false
set_option linter.unusedVariables false
namespace Go.Proofs.YtahnjhppkgndiaaGreat
open Go Go.Vc
set_option maxRecDepth 10000
set_option maxHeartbeats 4000000
theorem byte_conv (x : Nat) : IntKind.u8.wrap (x : Int) = (((UInt8.ofInt (x : Int)).toNat : Nat) : Int) := wrap_u8 _
theorem c_spec_l02Power : LC Tryz.prog 195 [.c (.int .i64 (285)), .c (.int .i64 (254))] [] (fun v hp => v = .a (bs powB) ∧ hp = []) := by
  refine LC_of (X := XX (fun _ => .nil) (fun _ => []) [15, 71, 72, 73, 79, 80, 87, 90, 91, 93, 99, 119, 137, 176, 177, 203, 204, 212, 219] 0) envOK Tryz.func195 (by kernel_rfl) (by kernel_rfl) rfl (Nat.le_of_ble_eq_true (by kernel_rfl)) ?_
  simp only [kFun, Tryz.f195, List.length_nil, List.length_cons, Nat.sub_zero, Nat.reduceSub, Nat.reduceAdd, List.nil_append, List.cons_append, List.replicate_succ, List.replicate_zero]
  simp only [XX, ↓VC, VP, TT, Nat.reduceEqDiff, reduceCtorEq, Nat.reduceAdd, Nat.reduceSub, Nat.reduceLT, Nat.reduceMul, Nat.reducePow, Nat.reduceLeDiff, Int.reduceToNat, Int.reduceLE, Int.reduceLT, Int.reducePow]
  refine kLoop_of (fun x : Nat => ([.c (.int .i64 (285)), .c (.int .i64 (254)), .j, .j, .p 0 0, .p 1 0, .c (.int .i64 (x)), .j, .j, .j, .j, .j, .j, .j, .j, .j, .j, .j, .j, .j, .j, .j, .j, .j, .j, .j, .j, .j, .j, .j, .j, .j, .j, .j, .j, .j, .j], [⟨true, bs (List.replicate 256 0)⟩, ⟨true, bs (fl 256 (fun _ => 0) (fun x => pw254 285 (UInt8.ofInt (x : Int))) x)⟩])) (fun x => 256 - x) (fun x => x ≤ 256) 0 (by omega)
    ⟨[0, 1], by rw [← fl_zero]; simp [-List.reduceReplicate, LES]⟩ ?_
  intro x hx
  rcases Nat.lt_or_ge x 256 with h | h
  · simp only [↓VC, VP, TT, Nat.reduceEqDiff, reduceCtorEq, Nat.reduceAdd, Nat.reduceSub, Nat.reduceLT, Nat.reduceMul, Nat.reducePow, Nat.reduceLeDiff, Int.reduceToNat, Int.reduceLE, Int.reduceLT, Int.reducePow, h, (eq_true (by omega) : ((x : Int) < 256) = True), (eq_true (by omega) : ((x : Int) < ((256 : Nat) : Int)) = True), wrap_i64 (n := (x : Int) + 1) (by omega) (by omega), decide_true, byte_conv]
    refine kLoop_of (fun j : Nat => ([.c (.int .i64 (285)), .c (.int .i64 (254)), .j, .j, .p 0 0, .p 1 0, .c (.int .i64 (x)), .c (.int .u8 (((pwS 285 254 j (1, UInt8.ofInt (x : Int))).1).toNat : Int)), .c (.int .u8 (((pwS 285 254 j (1, UInt8.ofInt (x : Int))).2).toNat : Int)), .c (.int .i64 ((254 / 2 ^ j : Nat))), .j, .j, .j, .j, .j, .j, .j, .j, .j, .j, .j, .j, .j, .j, .j, .j, .j, .j, .j, .j, .j, .j, .j, .j, .j, .j, .j], [⟨true, bs (List.replicate 256 0)⟩, ⟨true, bs (fl 256 (fun _ => 0) (fun x => pw254 285 (UInt8.ofInt (x : Int))) x)⟩])) (fun j => 8 - j) (fun j => j ≤ 8) 0 (by omega)
      ⟨[0, 1], by simp [-List.reduceReplicate, LES, pwS]⟩ ?_
    intro j hj
    simp only [↓VC, VP, TT, Nat.reduceEqDiff, reduceCtorEq, Nat.reduceAdd, Nat.reduceSub, Nat.reduceLT, Nat.reduceMul, Nat.reducePow, Nat.reduceLeDiff, Int.reduceToNat, Int.reduceLE, Int.reduceLT, Int.reducePow]
    have e1 : (((254 / 2 ^ j : Nat) : Int).tmod 2 == 1) = decide ((254 / 2 ^ j) % 2 = 1) := by
      rw [Int.tmod_eq_emod_of_nonneg (Int.natCast_nonneg _), Bool.eq_iff_iff, beq_iff_eq, decide_eq_true_eq]; omega
    have hb := pw254_bits j hj
    rw [e1]
    refine ⟨fun h1 => ⟨by omega, fun ht => ?_, fun ht => ?_⟩, fun h1 => ?_⟩
    · refine kCall_val (c_spec_l01Times 285 (pwS 285 254 j (1, UInt8.ofInt (x : Int))).1 (pwS 285 254 j (1, UInt8.ofInt (x : Int))).2 (by omega) (by omega)) (by rfl) [] (by simp [CALL]) (by simp [CALL, cellsAt]) (by simp [CALL]) (by simp [okL_bs]) ?_
      simp only [CALL, ↓VC, VP, TT, Nat.reduceEqDiff, reduceCtorEq, Nat.reduceAdd, Nat.reduceSub, Nat.reduceLT, Nat.reduceMul, Nat.reducePow, Nat.reduceLeDiff, Int.reduceToNat, Int.reduceLE, Int.reduceLT, Int.reducePow]
      refine kCall_val (c_spec_l01Times 285 (pwS 285 254 j (1, UInt8.ofInt (x : Int))).2 (pwS 285 254 j (1, UInt8.ofInt (x : Int))).2 (by omega) (by omega)) (by rfl) [] (by simp [CALL]) (by simp [CALL, cellsAt]) (by simp [CALL]) (by simp [okL_bs]) ?_
      simp only [CALL, ↓VC, VP, TT, Nat.reduceEqDiff, reduceCtorEq, Nat.reduceAdd, Nat.reduceSub, Nat.reduceLT, Nat.reduceMul, Nat.reducePow, Nat.reduceLeDiff, Int.reduceToNat, Int.reduceLE, Int.reduceLT, Int.reducePow]
      refine ⟨by omega, j + 1, by omega, by omega, [0, 1], ?_⟩
      rw [tdiv2 _ _ (by omega)]
      simp [-List.reduceReplicate, LES, pwS, of_decide_eq_true ht]
    · refine kCall_val (c_spec_l01Times 285 (pwS 285 254 j (1, UInt8.ofInt (x : Int))).2 (pwS 285 254 j (1, UInt8.ofInt (x : Int))).2 (by omega) (by omega)) (by rfl) [] (by simp [CALL]) (by simp [CALL, cellsAt]) (by simp [CALL]) (by simp [okL_bs]) ?_
      simp only [CALL, ↓VC, VP, TT, Nat.reduceEqDiff, reduceCtorEq, Nat.reduceAdd, Nat.reduceSub, Nat.reduceLT, Nat.reduceMul, Nat.reducePow, Nat.reduceLeDiff, Int.reduceToNat, Int.reduceLE, Int.reduceLT, Int.reducePow]
      refine ⟨by omega, j + 1, by omega, by omega, [0, 1], ?_⟩
      rw [tdiv2 _ _ (by omega)]
      simp [-List.reduceReplicate, LES, pwS, of_decide_eq_false ht]
    · obtain rfl : j = 8 := by omega
      rw [fl_len, show (pwS 285 254 8 (1, UInt8.ofInt (x : Int))).1 = pw254 285 (UInt8.ofInt (x : Int)) from rfl, fl_set h rfl, wrap_i64 (by omega) (by omega)]
      refine ⟨by omega, h, x + 1, by omega, by omega, [0, 1], ?_⟩
      simp [-List.reduceReplicate, LES]
  · obtain rfl : x = 256 := by omega
    simp only [↓VC, VP, TT, Nat.reduceEqDiff, reduceCtorEq, Nat.reduceAdd, Nat.reduceSub, Nat.reduceLT, Nat.reduceMul, Nat.reducePow, Nat.reduceLeDiff, Int.reduceToNat, Int.reduceLE, Int.reduceLT, Int.reducePow, fl_len, (eq_false (by omega) : (((256 : Nat) : Int) < 256) = False), decide_false]
    rw [fl_done]
    refine ⟨_, _, [], ⟨rfl, rfl⟩, ?_⟩; simp [-List.reduceReplicate, LES, powB]
def rvP (u : UInt8) : Nat → UInt8
  | 0 => 90
  | 1 => 90 ^^^ rot8 u 0
  | 2 => (90 ^^^ rot8 u 0) ^^^ rot8 u 1
  | _ => ((90 ^^^ rot8 u 0) ^^^ rot8 u 1) ^^^ rot8 u 4
theorem c_spec_l02Rotations : LC Tryz.prog 196 [.s 0 0 3 3, .c (.int .u8 90)] [⟨false, nsv [0, 1, 4]⟩] (fun v hp => v = .a (bs rotB) ∧ hp = [⟨false, nsv [0, 1, 4]⟩]) := by
  refine LC_of (X := XX (fun _ => .nil) (fun _ => []) [15, 71, 72, 73, 79, 80, 87, 90, 91, 93, 99, 119, 137, 176, 177, 203, 204, 212, 219] 1) envOK Tryz.func196 (by kernel_rfl) (by kernel_rfl) rfl (Nat.le_of_ble_eq_true (by kernel_rfl)) ?_
  simp only [kFun, Tryz.f196, List.length_nil, List.length_cons, Nat.sub_zero, Nat.reduceSub, Nat.reduceAdd, List.nil_append, List.cons_append, List.replicate_succ, List.replicate_zero]
  simp only [XX, ↓VC, VP, TT, Nat.reduceEqDiff, reduceCtorEq, Nat.reduceAdd, Nat.reduceSub, Nat.reduceLT, Nat.reduceMul, Nat.reducePow, Nat.reduceLeDiff, Int.reduceToNat, Int.reduceLE, Int.reduceLT, Int.reducePow]
  refine kLoop_of (fun x : Nat => ([.s 0 0 3 3, .c (.int .u8 (((90 : UInt8)).toNat : Int)), .j, .j, .p 1 0, .p 2 0, .c (.int .i64 (x)), .j, .j, .j, .j, .j, .j, .j, .j, .j, .j, .j, .j, .j, .j, .j, .j, .j, .j, .j, .j, .j, .j, .j, .j, .j, .j, .j], [⟨false, nsv [0, 1, 4]⟩, ⟨true, bs (List.replicate 256 0)⟩, ⟨true, bs (fl 256 (fun _ => 0) (fun x => rvP (UInt8.ofInt (x : Int)) 3) x)⟩])) (fun x => 256 - x) (fun x => x ≤ 256) 0 (by omega)
    ⟨[0, 1, 2], by rw [← fl_zero]; simp [-List.reduceReplicate, LES]⟩ ?_
  intro x hx
  rcases Nat.lt_or_ge x 256 with h | h
  · simp only [↓VC, VP, TT, Nat.reduceEqDiff, reduceCtorEq, Nat.reduceAdd, Nat.reduceSub, Nat.reduceLT, Nat.reduceMul, Nat.reducePow, Nat.reduceLeDiff, Int.reduceToNat, Int.reduceLE, Int.reduceLT, Int.reducePow, h, (eq_true (by omega) : ((x : Int) < 256) = True), (eq_true (by omega) : ((x : Int) < ((256 : Nat) : Int)) = True), wrap_i64 (n := (x : Int) + 1) (by omega) (by omega), decide_true]
    refine kLoop_of (fun i : Nat => ([.s 0 0 3 3, .c (.int .u8 (((90 : UInt8)).toNat : Int)), .j, .j, .p 1 0, .p 2 0, .c (.int .i64 (x)), .c (.int .u8 ((rvP (UInt8.ofInt (x : Int)) i).toNat : Int)), .c (.int .i64 (i)), .j, .j, .j, .j, .j, .j, .j, .j, .j, .j, .j, .j, .j, .j, .j, .j, .j, .j, .j, .j, .j, .j, .j, .j, .j], [⟨false, nsv [0, 1, 4]⟩, ⟨true, bs (List.replicate 256 0)⟩, ⟨true, bs (fl 256 (fun _ => 0) (fun x => rvP (UInt8.ofInt (x : Int)) 3) x)⟩])) (fun i => 3 - i) (fun i => i ≤ 3) 0 (by omega)
      ⟨[0, 1, 2], by simp [-List.reduceReplicate, LES, rvP]⟩ ?_
    intro i hi
    rcases (by omega : i = 0 ∨ i = 1 ∨ i = 2 ∨ i = 3) with rfl | rfl | rfl | rfl
    · simp only [↓VC, VP, TT, Nat.reduceEqDiff, reduceCtorEq, Nat.reduceAdd, Nat.reduceSub, Nat.reduceLT, Nat.reduceMul, Nat.reducePow, Nat.reduceLeDiff, Int.reduceToNat, Int.reduceLE, Int.reduceLT, Int.reducePow, byte_conv, nsv_length, show (((0 : Nat) : Int) < ((3 : Nat) : Int)) = True from eq_true (by decide), decide_true]
      repeat (refine ⟨by first | omega | (simp; done) | decide, ?_⟩)
      refine kCall_val (c_spec_l02Turn (UInt8.ofInt (x : Int)) 0 (by omega)) (by rfl) [] (by simp [CALL]) (by simp [CALL, cellsAt]) (by simp [CALL]) (by simp [okL_bs]) ?_
      simp only [CALL, ↓VC, VP, TT, Nat.reduceEqDiff, reduceCtorEq, Nat.reduceAdd, Nat.reduceSub, Nat.reduceLT, Nat.reduceMul, Nat.reducePow, Nat.reduceLeDiff, Int.reduceToNat, Int.reduceLE, Int.reduceLT, Int.reducePow]
      exact ⟨1, by omega, by omega, [0, 1, 2], by rw [wrap_i64 (by omega) (by omega)]; simp [-List.reduceReplicate, LES, rvP]⟩
    · simp only [↓VC, VP, TT, Nat.reduceEqDiff, reduceCtorEq, Nat.reduceAdd, Nat.reduceSub, Nat.reduceLT, Nat.reduceMul, Nat.reducePow, Nat.reduceLeDiff, Int.reduceToNat, Int.reduceLE, Int.reduceLT, Int.reducePow, byte_conv, nsv_length, show (((1 : Nat) : Int) < ((3 : Nat) : Int)) = True from eq_true (by decide), decide_true]
      repeat (refine ⟨by first | omega | (simp; done) | decide, ?_⟩)
      refine kCall_val (c_spec_l02Turn (UInt8.ofInt (x : Int)) 1 (by omega)) (by rfl) [] (by simp [CALL]) (by simp [CALL, cellsAt]) (by simp [CALL]) (by simp [okL_bs]) ?_
      simp only [CALL, ↓VC, VP, TT, Nat.reduceEqDiff, reduceCtorEq, Nat.reduceAdd, Nat.reduceSub, Nat.reduceLT, Nat.reduceMul, Nat.reducePow, Nat.reduceLeDiff, Int.reduceToNat, Int.reduceLE, Int.reduceLT, Int.reducePow]
      exact ⟨2, by omega, by omega, [0, 1, 2], by rw [wrap_i64 (by omega) (by omega)]; simp [-List.reduceReplicate, LES, rvP]⟩
    · simp only [↓VC, VP, TT, Nat.reduceEqDiff, reduceCtorEq, Nat.reduceAdd, Nat.reduceSub, Nat.reduceLT, Nat.reduceMul, Nat.reducePow, Nat.reduceLeDiff, Int.reduceToNat, Int.reduceLE, Int.reduceLT, Int.reducePow, byte_conv, nsv_length, show (((2 : Nat) : Int) < ((3 : Nat) : Int)) = True from eq_true (by decide), decide_true]
      repeat (refine ⟨by first | omega | (simp; done) | decide, ?_⟩)
      refine kCall_val (c_spec_l02Turn (UInt8.ofInt (x : Int)) 4 (by omega)) (by rfl) [] (by simp [CALL]) (by simp [CALL, cellsAt]) (by simp [CALL]) (by simp [okL_bs]) ?_
      simp only [CALL, ↓VC, VP, TT, Nat.reduceEqDiff, reduceCtorEq, Nat.reduceAdd, Nat.reduceSub, Nat.reduceLT, Nat.reduceMul, Nat.reducePow, Nat.reduceLeDiff, Int.reduceToNat, Int.reduceLE, Int.reduceLT, Int.reducePow]
      exact ⟨3, by omega, by omega, [0, 1, 2], by rw [wrap_i64 (by omega) (by omega)]; simp [-List.reduceReplicate, LES, rvP]⟩
    · simp only [↓VC, VP, TT, Nat.reduceEqDiff, reduceCtorEq, Nat.reduceAdd, Nat.reduceSub, Nat.reduceLT, Nat.reduceMul, Nat.reducePow, Nat.reduceLeDiff, Int.reduceToNat, Int.reduceLE, Int.reduceLT, Int.reducePow, show (((3 : Nat) : Int) < ((3 : Nat) : Int)) = False from eq_false (by decide), decide_false, fl_len, fl_set, h, (eq_true (by omega) : ((x : Int) < 256) = True), (eq_true (by omega) : ((x : Int) < ((256 : Nat) : Int)) = True), wrap_i64 (n := (x : Int) + 1) (by omega) (by omega), decide_true]
      exact ⟨x + 1, by omega, by omega, [0, 1, 2], by simp [-List.reduceReplicate, LES]⟩
  · obtain rfl : x = 256 := by omega
    simp only [↓VC, VP, TT, Nat.reduceEqDiff, reduceCtorEq, Nat.reduceAdd, Nat.reduceSub, Nat.reduceLT, Nat.reduceMul, Nat.reducePow, Nat.reduceLeDiff, Int.reduceToNat, Int.reduceLE, Int.reduceLT, Int.reducePow, fl_len, (eq_false (by omega) : (((256 : Nat) : Int) < 256) = False), decide_false]
    rw [fl_done]
    refine ⟨_, _, [0], ⟨rfl, rfl⟩, ?_⟩
    simp [-List.reduceReplicate, LES, rotB, rvP]
section
variable {f r : Int} {box A pl : List UInt8} {kl : List V → Prop}
theorem cip_put_box {w : List UInt8} (hb : box.length = 256) (hw : w.length = 256) : vPut (cipC f box A pl r) 1 (bs w) kl = kl (cipC f w A pl r) := by
  unfold cipC
  rw [show (1 : Nat) = 0 + 1 from rfl, vPut_succ, vPut_app0 (by rw [bs_length, bs_length, hb, hw])]
theorem cip_put_box1 {x : Nat} {n : Int} (hb : box.length = 256) (hx : x < 256) (hn : inU8 n) : vPut (cipC f box A pl r) (1 + x) [.c (.int .u8 n)] kl = kl (cipC f (box.set x (UInt8.ofInt n)) A pl r) := by
  unfold cipC
  rw [vPut_oneAdd, vPut_appL (by rw [bs_length, hb]; show x + 1 ≤ 256; omega), vPut_bs hn, hb]
  simp [hx]
theorem cip_put_mix {x : Nat} {n : Int} (hb : box.length = 256) (hA : A.length = 16) (hx : x < 16) (hn : inU8 n) : vPut (cipC f box A pl r) (257 + x) [.c (.int .u8 n)] kl = kl (cipC f box (A.set x (UInt8.ofInt n)) pl r) := by
  unfold cipC
  rw [show 257 + x = 1 + (256 + x) by omega, vPut_oneAdd, vPut_appR (by rw [bs_length, hb]; omega), bs_length, hb, Nat.add_sub_cancel_left, vPut_appL (by rw [bs_length, hA]; show x + 1 ≤ 16; omega), vPut_bs hn, hA]
  simp [hx]
theorem cip_put_mix2 {i j : Nat} {n : Int} (hb : box.length = 256) (hA : A.length = 16) (hi : i < 4) (hj : j < 4) (hn : inU8 n) : vPut (cipC f box A pl r) (257 + i * 4 + j) [.c (.int .u8 n)] kl = kl (cipC f box (A.set (4 * i + j) (UInt8.ofInt n)) pl r) := by
  rw [show 257 + i * 4 + j = 257 + (4 * i + j) by omega, cip_put_mix hb hA (by omega) hn]
theorem cip_put_pl {x : Nat} {n : Int} (hb : box.length = 256) (hA : A.length = 16) (hp : pl.length = 16) (hx : x < 16) (hn : inU8 n) : vPut (cipC f box A pl r) (273 + x) [.c (.int .u8 n)] kl = kl (cipC f box A (pl.set x (UInt8.ofInt n)) r) := by
  unfold cipC
  rw [show 273 + x = 1 + (272 + x) by omega, vPut_oneAdd, vPut_appR (by rw [bs_length, hb]; omega), bs_length, hb, show 272 + x - 256 = 16 + x by omega, vPut_appR (by rw [bs_length, hA]; omega), bs_length, hA, Nat.add_sub_cancel_left, vPut_appL (by rw [bs_length, hp]; show x + 1 ≤ 16; omega), vPut_bs hn, hp]
  simp [hx]
theorem cip_build {r0 : Int} : V.c (.int .i64 f) :: (bs (List.replicate 256 0) ++ (bs (List.replicate 16 0) ++ (bs (List.replicate 16 0) ++ [.c (.int .i64 r0)]))) = cipC f (List.replicate 256 0) (List.replicate 16 0) (List.replicate 16 0) r0 := rfl
theorem cip_spl0 {x : Int} : splice (cipC f box A pl r) 0 [.c (.int .i64 x)] = cipC x box A pl r := by unfold cipC; rw [splice_zero]
theorem cip_spl1 {x : Int} (hb : box.length = 256) (hA : A.length = 16) (hp : pl.length = 16) : splice (cipC f box A pl r) 289 [.c (.int .i64 x)] = cipC f box A pl x := by
  unfold cipC
  rw [show (289 : Nat) = 288 + 1 from rfl, splice_succ, splice_appR (by rw [bs_length, hb]; omega), bs_length, hb, splice_appR (by rw [bs_length, hA]; omega), bs_length, hA, splice_appR (by rw [bs_length, hp]; omega), bs_length, hp]
  rfl
end
def houseC (r : Int) : List V := cipC 285 houseB houseA houseP r
theorem mem5 {α : Type} {a b c d e : α} {p : α → Prop} (ha : p a) (hb : p b) (hc : p c) (hd : p d) (he : p e) : ∀ f ∈ [a, b, c, d, e], p f := by
  intro f hf
  simp only [List.mem_cons, List.not_mem_nil, or_false] at hf
  rcases hf with rfl | rfl | rfl | rfl | rfl <;> assumption
theorem xor_idx : ∀ i, i < 4 → ∀ j, j < 4 → bitI .xor .i64 ((i : Nat) : Int) (IntKind.i64.wrap (4 + (j : Nat))) = ((i ^^^ (4 + j) : Nat) : Int) := by decide +kernel
def houseG (x : Nat) : UInt8 := pw254 285 (UInt8.ofInt (((x / 4) ^^^ (4 + x % 4) : Nat) : Int))
def houseQ (i : Nat) : UInt8 := UInt8.ofInt (((13 * i + 4) % 16 : Nat) : Int)
theorem pl_idx : ∀ i, i < 16 → (IntKind.i64.wrap (IntKind.i64.wrap (13 * ((i : Nat) : Int)) + 4)).tmod 16 = (((13 * i + 4) % 16 : Nat) : Int) := by decide +kernel
theorem c_spec_l04House (r : Int) : LC Tryz.prog 166 [.c (.int .i64 (r))] [] (fun v hp => v = .a (houseC r) ∧ hp = []) := by
  have z256 : (List.replicate 256 (0 : UInt8)).length = 256 := List.length_replicate
  have z16 : (List.replicate 16 (0 : UInt8)).length = 16 := List.length_replicate
  have hpw : powB.length = 256 := tab_len _ _
  have hrt : rotB.length = 256 := tab_len _ _
  have hth : (thenL powB rotB).length = 256 := tab_len _ _
  refine LC_of (X := XX (fun | 9 => .one 0 (.one 1 (.one 2 (.one 3 (.one 4 (.one 5 (.one 6 (.one 8 (.one 9 (.one 7 (.one 10 (.one 11 .nil))))))))))) | _ => .nil) (fun _ => []) [15, 71, 72, 73, 79, 80, 87, 90, 91, 93, 99, 119, 137, 176, 177, 203, 204, 212, 219] 0) envOK Tryz.func166 (by kernel_rfl) (by kernel_rfl) rfl (Nat.le_of_ble_eq_true (by kernel_rfl)) ?_
  simp only [kFun, Tryz.f166, List.length_nil, List.length_cons, Nat.sub_zero, Nat.reduceSub, Nat.reduceAdd, List.nil_append, List.cons_append, List.replicate_succ, List.replicate_zero]
  simp only [XX, ↓VC, VP, TT, Nat.reduceEqDiff, reduceCtorEq, Nat.reduceAdd, Nat.reduceSub, Nat.reduceLT, Nat.reduceMul, Nat.reducePow, Nat.reduceLeDiff, Int.reduceToNat, Int.reduceLE, Int.reduceLT, Int.reducePow, z256, z16, cip_build, cipC_len z256 z16 z16, cip_spl0, cip_spl1 z256 z16 z16]
  refine ⟨mem5 rfl rfl rfl rfl rfl, ?_⟩
  refine kCall_val (c_spec_l02Power) (by rfl) [] (by simp [CALL]) (by simp [CALL, cellsAt]) (by simp [CALL]) (by simp [okL_bs]) ?_
  simp only [CALL, ↓VC, VP, TT, Nat.reduceEqDiff, reduceCtorEq, Nat.reduceAdd, Nat.reduceSub, Nat.reduceLT, Nat.reduceMul, Nat.reducePow, Nat.reduceLeDiff, Int.reduceToNat, Int.reduceLE, Int.reduceLT, Int.reducePow]
  refine kCall_val c_spec_l02Rotations (by rfl) [(2, 0)] (by simp [CALL]) (by simp [CALL, cellsAt, nsv]) (by simp [CALL]) (by simp [okL_nsv]) ?_
  simp only [CALL, ↓VC, VP, TT, Nat.reduceEqDiff, reduceCtorEq, Nat.reduceAdd, Nat.reduceSub, Nat.reduceLT, Nat.reduceMul, Nat.reducePow, Nat.reduceLeDiff, Int.reduceToNat, Int.reduceLE, Int.reduceLT, Int.reducePow]
  refine kCall_val (c_spec_l02Then powB rotB hpw hrt) (by rfl) [] (by simp [CALL]) (by simp [CALL, cellsAt]) (by simp [CALL]) (by simp [okL_bs]) ?_
  simp only [CALL, ↓VC, VP, TT, Nat.reduceEqDiff, reduceCtorEq, Nat.reduceAdd, Nat.reduceSub, Nat.reduceLT, Nat.reduceMul, Nat.reducePow, Nat.reduceLeDiff, Int.reduceToNat, Int.reduceLE, Int.reduceLT, Int.reducePow, houseB_len, ↓cip_put_box z256 houseB_len, house_then]
  refine kLoop_of (fun i : Nat => ([.j, .j, .p 0 0, .p 1 0, .c (.int .i64 (i)), .j, .j, .j, .j, .j, .j, .j, .j, .j, .j, .j, .j, .j, .j, .j, .j, .j, .j, .j, .j, .j, .j, .j, .j, .j, .j, .j, .j, .j, .j, .j, .j, .j, .j, .j, .j, .j, .j, .j, .j, .j], [⟨true, cipC 0 (List.replicate 256 0) (List.replicate 16 0) (List.replicate 16 0) 0⟩, ⟨true, cipC 285 houseB (fl 16 (fun _ => 0) houseG (4 * i)) (List.replicate 16 0) r⟩])) (fun i => 4 - i) (fun i => i ≤ 4) 0 (by omega)
    ⟨[0, 1], by rw [Nat.mul_zero, ← fl_zero]; simp [-List.reduceReplicate, LES, renL_cip, okL_cip]⟩ ?_
  intro i hi
  rcases Nat.lt_or_ge i 4 with h | h
  · simp only [↓VC, VP, TT, Nat.reduceEqDiff, reduceCtorEq, Nat.reduceAdd, Nat.reduceSub, Nat.reduceLT, Nat.reduceMul, Nat.reducePow, Nat.reduceLeDiff, Int.reduceToNat, Int.reduceLE, Int.reduceLT, Int.reducePow, h, (eq_true (by omega) : ((i : Int) < 4) = True), (eq_true (by omega) : ((i : Int) < ((4 : Nat) : Int)) = True), wrap_i64 (n := (i : Int) + 1) (by omega) (by omega), decide_true]
    refine kLoop_of (fun j : Nat => ([.j, .j, .p 0 0, .p 1 0, .c (.int .i64 (i)), .c (.int .i64 (j)), .j, .j, .j, .j, .j, .j, .j, .j, .j, .j, .j, .j, .j, .j, .j, .j, .j, .j, .j, .j, .j, .j, .j, .j, .j, .j, .j, .j, .j, .j, .j, .j, .j, .j, .j, .j, .j, .j, .j, .j], [⟨true, cipC 0 (List.replicate 256 0) (List.replicate 16 0) (List.replicate 16 0) 0⟩, ⟨true, cipC 285 houseB (fl 16 (fun _ => 0) houseG (4 * i + j)) (List.replicate 16 0) r⟩])) (fun j => 4 - j) (fun j => j ≤ 4) 0 (by omega)
      ⟨[0, 1], by simp [-List.reduceReplicate, LES, renL_cip, okL_cip]⟩ ?_
    intro j hj
    rcases Nat.lt_or_ge j 4 with h2 | h2
    · have hfl := fl_len 16 (fun _ => 0) houseG (4 * i + j)
      simp only [↓VC, VP, TT, Nat.reduceEqDiff, reduceCtorEq, Nat.reduceAdd, Nat.reduceSub, Nat.reduceLT, Nat.reduceMul, Nat.reducePow, Nat.reduceLeDiff, Int.reduceToNat, Int.reduceLE, Int.reduceLT, Int.reducePow, h2, (eq_true (by omega) : ((j : Int) < 4) = True), (eq_true (by omega) : ((j : Int) < ((4 : Nat) : Int)) = True), wrap_i64 (n := (j : Int) + 1) (by omega) (by omega), decide_true, h, xor_idx i h j h2, byte_conv, (eq_true (by omega) : ((i : Int) < ((4 : Nat) : Int)) = True)]
      refine kCall_val (c_spec_l01Inv 285 (UInt8.ofInt ((i ^^^ (4 + j) : Nat) : Int)) (by omega) (by omega)) (by rfl) [] (by simp [CALL]) (by simp [CALL, cellsAt]) (by simp [CALL]) (by simp [okL_bs]) ?_
      simp only [CALL, ↓VC, VP, TT, Nat.reduceEqDiff, reduceCtorEq, Nat.reduceAdd, Nat.reduceSub, Nat.reduceLT, Nat.reduceMul, Nat.reducePow, Nat.reduceLeDiff, Int.reduceToNat, Int.reduceLE, Int.reduceLT, Int.reducePow, h, h2, (eq_true (by omega) : ((i : Int) < ((4 : Nat) : Int)) = True), (eq_true (by omega) : ((j : Int) < ((4 : Nat) : Int)) = True), ↓cip_put_mix2 houseB_len hfl h h2 (of_eq_true (inU8_toNat _)), cipC_len houseB_len hfl z16]
      refine ⟨j + 1, by omega, by omega, [0, 1], ?_⟩
      rw [fl_set (by omega) (by unfold houseG; rw [show (4 * i + j) / 4 = i by omega, show (4 * i + j) % 4 = j by omega]), wrap_i64 (by omega) (by omega)]
      simp [-List.reduceReplicate, LES, renL_cip, okL_cip, Nat.add_assoc]
    · obtain rfl : j = 4 := by omega
      simp only [↓VC, VP, TT, Nat.reduceEqDiff, reduceCtorEq, Nat.reduceAdd, Nat.reduceSub, Nat.reduceLT, Nat.reduceMul, Nat.reducePow, Nat.reduceLeDiff, Int.reduceToNat, Int.reduceLE, Int.reduceLT, Int.reducePow, (eq_false (by omega) : (((4 : Nat) : Int) < 4) = False), decide_false, wrap_i64 (n := (i : Int) + 1) (by omega) (by omega)]
      refine ⟨i + 1, by omega, by omega, [0, 1], ?_⟩
      rw [show 4 * i + 4 = 4 * (i + 1) by omega]
      simp [-List.reduceReplicate, LES, renL_cip, okL_cip]
  · obtain rfl : i = 4 := by omega
    simp only [↓VC, VP, TT, Nat.reduceEqDiff, reduceCtorEq, Nat.reduceAdd, Nat.reduceSub, Nat.reduceLT, Nat.reduceMul, Nat.reducePow, Nat.reduceLeDiff, Int.reduceToNat, Int.reduceLE, Int.reduceLT, Int.reducePow, (eq_false (by omega) : (((4 : Nat) : Int) < 4) = False), decide_false]
    rw [fl_done, show tab 16 houseG = houseA from rfl]
    refine kLoop_of (fun i : Nat => ([.j, .j, .p 0 0, .p 1 0, .j, .j, .c (.int .i64 (i)), .j, .j, .j, .j, .j, .j, .j, .j, .j, .j, .j, .j, .j, .j, .j, .j, .j, .j, .j, .j, .j, .j, .j, .j, .j, .j, .j, .j, .j, .j, .j, .j, .j, .j, .j, .j, .j, .j, .j], [⟨true, cipC 0 (List.replicate 256 0) (List.replicate 16 0) (List.replicate 16 0) 0⟩, ⟨true, cipC 285 houseB houseA (fl 16 (fun _ => 0) houseQ i) r⟩])) (fun i => 16 - i) (fun i => i ≤ 16) 0 (by omega)
      ⟨[0, 1], by rw [← fl_zero]; simp [-List.reduceReplicate, LES, renL_cip, okL_cip]⟩ ?_
    intro i hi
    have hfl := fl_len 16 (fun _ => 0) houseQ i
    rcases Nat.lt_or_ge i 16 with h2 | h2
    · have hwu : inU8 (((UInt8.ofInt (((13 * i + 4) % 16 : Nat) : Int)).toNat : Nat) : Int) := of_eq_true (inU8_toNat _)
      simp only [↓VC, VP, TT, Nat.reduceEqDiff, reduceCtorEq, Nat.reduceAdd, Nat.reduceSub, Nat.reduceLT, Nat.reduceMul, Nat.reducePow, Nat.reduceLeDiff, Int.reduceToNat, Int.reduceLE, Int.reduceLT, Int.reducePow, h2, (eq_true (by omega) : ((i : Int) < 16) = True), (eq_true (by omega) : ((i : Int) < ((16 : Nat) : Int)) = True), wrap_i64 (n := (i : Int) + 1) (by omega) (by omega), decide_true, pl_idx i h2, byte_conv, ↓cip_put_pl houseB_len houseA_len hfl h2 hwu]
      refine ⟨by omega, i + 1, by omega, by omega, [0, 1], ?_⟩
      rw [fl_set h2 (show UInt8.ofInt (((13 * i + 4) % 16 : Nat) : Int) = houseQ i from rfl)]
      simp [-List.reduceReplicate, LES, renL_cip, okL_cip]
    · obtain rfl : i = 16 := by omega
      simp only [↓VC, VP, TT, Nat.reduceEqDiff, reduceCtorEq, Nat.reduceAdd, Nat.reduceSub, Nat.reduceLT, Nat.reduceMul, Nat.reducePow, Nat.reduceLeDiff, Int.reduceToNat, Int.reduceLE, Int.reduceLT, Int.reducePow, (eq_false (by omega) : (((16 : Nat) : Int) < 16) = False), decide_false, cipC_len houseB_len houseA_len hfl, ↓cip_all houseB_len houseA_len hfl, cipC_len z256 z16 z16]
      rw [fl_done]
      refine ⟨_, _, [], ⟨rfl, rfl⟩, ?_⟩; simp [-List.reduceReplicate, LES, renL_cip, okL_cip, houseC]; rfl
end Go.Proofs.YtahnjhppkgndiaaGreat

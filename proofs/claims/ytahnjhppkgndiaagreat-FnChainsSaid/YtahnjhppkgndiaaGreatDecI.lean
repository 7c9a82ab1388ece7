import Derived.Test.YtahnjhppkgndiaaGreatCip
import Derived.Test.YtahnjhppkgndiaaGreatListsM
/- Blocks deciphered: the reference. -/
set_option linter.unusedSimpArgs false
set_option linter.unusedVariables false
namespace Go.Proofs.YtahnjhppkgndiaaGreat
open Go Go.Vc
set_option maxRecDepth 10000
set_option maxHeartbeats 4000000
theorem invL_pl16 (b : List UInt8) : ∀ i, i ≤ 16 → pl16 (invL 16 b i)
  | 0, _ => by
    intro j hj
    have h : (List.replicate 16 (0 : UInt8)).getD j 0 = 0 := by rw [List.getD_eq_getElem?_getD, List.getElem?_replicate, if_pos hj]; rfl
    rw [invL, h]; decide
  | i + 1, h => by
    intro j hj
    have hl := invL_len 16 b i
    have hi := invL_pl16 b i (by omega) j hj
    rw [invL]
    simp only [List.getD_eq_getElem?_getD, List.getElem?_set] at hi ⊢
    split
    · split
      · have := toNat_ofInt (i : Int)
        simp only [Option.getD_some]; omega
      · simp
    · exact hi
theorem decS_step {m : Nat} {box ib B ip key s : List UInt8} {n r : Nat} (h : r < n) : decS m box ib B ip key s n (n - r) = boxL 16 ib (moveL ip (if r + 1 < n then mixL 16 m B (xorN 16 (decS m box ib B ip key s n (n - (r + 1))) (keyN box key (r + 1))) else xorN 16 (decS m box ib B ip key s n (n - (r + 1))) (keyN box key (r + 1)))) := by
  rw [show n - r = (n - (r + 1)) + 1 by omega, decS, show n - (n - (r + 1)) = r + 1 by omega]
def Cip.dec (c : Cip) (key s : List UInt8) : List UInt8 := decL c.m c.box (invL 256 c.box 256) (backL c.m c.A) (invL 16 c.pl 16) key s c.n
theorem dec_len (c : Cip) (key s : List UInt8) : (c.dec key s).length = 16 := decL_len _ _ _ _ _ _ _ _
theorem c_spec_l03Turn (b : List UInt8) (hb : b.length = 16) (hp16 : pl16 b) : LC Tryz.prog 216 [.a (bs b)] [] (fun v hp => v = .a (bs (invL 16 b 16)) ∧ hp = []) := by
  refine LC_of (X := XX (fun _ => .nil) (fun _ => []) [15, 71, 72, 73, 79, 80, 87, 90, 91, 93, 99, 119, 137, 176, 177, 203, 204, 212, 219] 0) envOK Tryz.func216 (by kernel_rfl) (by kernel_rfl) rfl (Nat.le_of_ble_eq_true (by kernel_rfl)) ?_
  simp only [kFun, Tryz.f216, List.length_nil, List.length_cons, Nat.sub_zero, Nat.reduceSub, Nat.reduceAdd, List.nil_append, List.cons_append, List.replicate_succ, List.replicate_zero]
  simp only [XX, ↓VC, VP, TT, Nat.reduceEqDiff, reduceCtorEq, Nat.reduceAdd, Nat.reduceSub, Nat.reduceLT, Nat.reduceMul, Nat.reducePow, Nat.reduceLeDiff, Int.reduceToNat, Int.reduceLE, Int.reduceLT, Int.reducePow, hb]
  refine kLoop_of (fun i : Nat => ([.j, .p 0 0, .p 1 0, .p 2 0, .c (.int .i64 (i)), .j, .j, .j, .j, .j, .j, .j, .j, .j, .j, .j, .j], [⟨true, bs b⟩, ⟨true, bs (List.replicate 16 0)⟩, ⟨true, bs (invL 16 b i)⟩])) (fun i => 16 - i) (fun i => i ≤ 16) 0 (by omega)
    ⟨[0, 1, 2], by simp [-List.reduceReplicate, LES, invL]⟩ ?_
  intro i hi
  rcases Nat.lt_or_ge i 16 with h | h
  · have hu := u8_lt (b.getD i 0)
    have hq := hp16 i h
    simp only [↓VC, VP, TT, Nat.reduceEqDiff, reduceCtorEq, Nat.reduceAdd, Nat.reduceSub, Nat.reduceLT, Nat.reduceMul, Nat.reducePow, Nat.reduceLeDiff, Int.reduceToNat, Int.reduceLE, Int.reduceLT, Int.reducePow, hb, invL_len, h, (eq_true (by omega) : ((i : Int) < 16) = True), (eq_true (by omega) : ((i : Int) < ((16 : Nat) : Int)) = True), wrap_i64 (n := (i : Int) + 1) (by omega) (by omega), decide_true, hq, (eq_true (by omega) : (((b.getD i 0).toNat : Int) < 16) = True), (eq_true (by omega) : (((b.getD i 0).toNat : Int) < ((16 : Nat) : Int)) = True), hu, (eq_true (by omega) : (((b.getD i 0).toNat : Int) < ((256 : Nat) : Int)) = True)]
    exact ⟨i + 1, by omega, by omega, [0, 1, 2], by simp [-List.reduceReplicate, LES, invL]⟩
  · obtain rfl : i = 16 := by omega
    simp only [↓VC, VP, TT, Nat.reduceEqDiff, reduceCtorEq, Nat.reduceAdd, Nat.reduceSub, Nat.reduceLT, Nat.reduceMul, Nat.reducePow, Nat.reduceLeDiff, Int.reduceToNat, Int.reduceLE, Int.reduceLT, Int.reducePow, hb, invL_len, (eq_false (by omega) : (((16 : Nat) : Int) < 16) = False), decide_false]
    refine ⟨_, _, [], ⟨rfl, rfl⟩, ?_⟩; simp [-List.reduceReplicate, LES]
theorem c_spec_l03Back (p s : List UInt8) (hp : p.length = 16) (hs : s.length = 16) (hpl : pl16 p) : LC Tryz.prog 202 [.a (bs p), .a (bs s)] [] (fun v hp => v = .a (bs (moveL (invL 16 p 16) s)) ∧ hp = []) := by
  refine LC_of (X := XX (fun | 1 => .one 0 (.one 2 (.one 1 (.one 3 (.one 4 .nil)))) | _ => .nil) (fun _ => []) [15, 71, 72, 73, 79, 80, 87, 90, 91, 93, 99, 119, 137, 176, 177, 203, 204, 212, 219] 0) envOK Tryz.func202 (by kernel_rfl) (by kernel_rfl) rfl (Nat.le_of_ble_eq_true (by kernel_rfl)) ?_
  simp only [kFun, Tryz.f202, List.length_nil, List.length_cons, Nat.sub_zero, Nat.reduceSub, Nat.reduceAdd, List.nil_append, List.cons_append, List.replicate_succ, List.replicate_zero]
  simp only [XX, ↓VC, VP, TT, Nat.reduceEqDiff, reduceCtorEq, Nat.reduceAdd, Nat.reduceSub, Nat.reduceLT, Nat.reduceMul, Nat.reducePow, Nat.reduceLeDiff, Int.reduceToNat, Int.reduceLE, Int.reduceLT, Int.reducePow, hp, hs]
  refine kCall_val (c_spec_l03Turn p hp hpl) (by rfl) [] (by simp [CALL, SCB, instL_cip, okL_cip, k_inst, k_ok, keyN_len, xorN_len, mixL_len, moveL_len, boxL_len, invL_len]) (by simp [CALL, SCB, instL_cip, okL_cip, k_inst, k_ok, keyN_len, xorN_len, mixL_len, moveL_len, boxL_len, invL_len]) (by simp [CALL, SCB, instL_cip, okL_cip, k_inst, k_ok, keyN_len, xorN_len, mixL_len, moveL_len, boxL_len, invL_len]) (by simp [okL_bs, okL_room, okL, okV, instL_cip, okL_cip, k_inst, k_ok, keyN_len, xorN_len, mixL_len, moveL_len, boxL_len, invL_len]) ?_
  simp (config := { maxSteps := 2000000 }) only [CALL, ↓VC, VP, TT, Nat.reduceEqDiff, reduceCtorEq, Nat.reduceAdd, Nat.reduceSub, Nat.reduceLT, Nat.reduceMul, Nat.reducePow, Nat.reduceLeDiff, Int.reduceToNat, Int.reduceLE, Int.reduceLT, Int.reducePow, GOB, k_len, ↓k_all, xorN_len, mixL_len, moveL_len, boxL_len, hp, hs, invL_len]
  refine kCall_val (c_spec_l03Move (invL 16 p 16) s (invL_len _ _ _) hs (invL_pl16 p 16 (by omega))) (by rfl) [] (by simp [CALL, SCB, instL_cip, okL_cip, k_inst, k_ok, keyN_len, xorN_len, mixL_len, moveL_len, boxL_len, invL_len]) (by simp [CALL, SCB, instL_cip, okL_cip, k_inst, k_ok, keyN_len, xorN_len, mixL_len, moveL_len, boxL_len, invL_len]) (by simp [CALL, SCB, instL_cip, okL_cip, k_inst, k_ok, keyN_len, xorN_len, mixL_len, moveL_len, boxL_len, invL_len]) (by simp [okL_bs, okL_room, okL, okV, instL_cip, okL_cip, k_inst, k_ok, keyN_len, xorN_len, mixL_len, moveL_len, boxL_len, invL_len]) ?_
  simp (config := { maxSteps := 2000000 }) only [CALL, ↓VC, VP, TT, Nat.reduceEqDiff, reduceCtorEq, Nat.reduceAdd, Nat.reduceSub, Nat.reduceLT, Nat.reduceMul, Nat.reducePow, Nat.reduceLeDiff, Int.reduceToNat, Int.reduceLE, Int.reduceLT, Int.reducePow, GOB, k_len, ↓k_all, xorN_len, mixL_len, moveL_len, boxL_len, hp, hs, invL_len]
  refine ⟨_, _, [], ⟨rfl, rfl⟩, ?_⟩; simp [-List.reduceReplicate, LES]
theorem k_spec_keys (c : Cip) (key : List UInt8) (hk : key.length = 16) : LC Tryz.prog 189 [.a c.cells, .a (bs key), .c (.int .i64 (c.n))] [] (Ret [] (fun _ : Nat => True) fun r => (.s 0 0 (c.n + 1) (c.n + 1 + r), [⟨true, bs (keysL c.box key (c.n + 1)) ++ List.replicate (16 * r) .j⟩])) :=
  c_spec_l04Keys c.m c.box c.A c.pl key c.n c.n (by have := c.hn; omega) c.hb c.hA c.hp hk
section
variable {c : Cip} {k : V → Prop}
theorem k_fd : vGet c.cells 0 k = k (.c (.int .i64 c.m)) := cip_field
theorem k_bx : vSub c.cells 1 256 k = k (.a (bs c.box)) := cip_box c.hb
theorem k_mx : vSub c.cells 257 16 k = k (.a (bs c.A)) := cip_mix c.hb c.hA
theorem k_pl : vSub c.cells 273 16 k = k (.a (bs c.pl)) := cip_pl c.hb c.hA c.hp
end
theorem k_spec_decipher (c : Cip) (key s : List UInt8) (hk : key.length = 16) (hs : s.length = 16) : LC Tryz.prog 175 [.a c.cells, .a (bs key), .a (bs s), .c (.int .i64 (c.n))] [] (fun v hp => v = .a (bs (c.dec key s)) ∧ hp = []) := by
  have hn := c.hn
  have hIb := invL_len 256 c.box 256
  have hBl := backL_len c.m c.hA
  refine LC_of (X := XX (fun | 1 => .one 0 (.one 1 (.one 2 (.one 4 (.one 5 (.one 3 (.one 6 (.one 7 (.one 8 (.one 9 .nil))))))))) | 6 => .one 0 (.one 1 (.one 2 (.one 3 (.one 4 (.one 5 (.one 6 .nil)))))) | 9 => .one 0 (.one 1 (.one 2 (.one 3 (.one 4 (.one 5 (.one 6 .nil)))))) | 10 => .one 0 (.one 1 (.one 2 (.one 3 (.one 4 (.one 5 .nil))))) | _ => .nil) (fun | 1 => [(7, 10)] | _ => []) [15, 71, 72, 73, 79, 80, 87, 90, 91, 93, 99, 119, 137, 176, 177, 203, 204, 212, 219] 0) envOK Tryz.func175 (by kernel_rfl) (by kernel_rfl) rfl (Nat.le_of_ble_eq_true (by kernel_rfl)) ?_
  simp only [kFun, Tryz.f175, List.length_nil, List.length_cons, Nat.sub_zero, Nat.reduceSub, Nat.reduceAdd, List.nil_append, List.cons_append, List.replicate_succ, List.replicate_zero]
  simp only [XX, ↓VC, VP, TT, Nat.reduceEqDiff, reduceCtorEq, Nat.reduceAdd, Nat.reduceSub, Nat.reduceLT, Nat.reduceMul, Nat.reducePow, Nat.reduceLeDiff, Int.reduceToNat, Int.reduceLE, Int.reduceLT, Int.reducePow, hk, hs, k_len, ↓k_all, ↓k_bx]
  refine kCall_Ret (k_spec_keys c key hk) (by rfl) [] (by simp [CALL, SCB, instL_cip, okL_cip, k_inst, k_ok, keyN_len, xorN_len, mixL_len, moveL_len, boxL_len, invL_len]) (by simp [CALL, SCB, instL_cip, okL_cip, k_inst, k_ok, keyN_len, xorN_len, mixL_len, moveL_len, boxL_len, invL_len]) (by simp [CALL, SCB, instL_cip, okL_cip, k_inst, k_ok, keyN_len, xorN_len, mixL_len, moveL_len, boxL_len, invL_len]) (by simp [okL_bs, okL_room, okL, okV, instL_cip, okL_cip, k_inst, k_ok, keyN_len, xorN_len, mixL_len, moveL_len, boxL_len, invL_len]) (by simp [CALL, SCB, instL_cip, okL_cip, k_inst, k_ok, keyN_len, xorN_len, mixL_len, moveL_len, boxL_len, invL_len]) fun q _ => ?_
  simp (config := { maxSteps := 2000000 }) only [CALL, ↓VC, VP, TT, Nat.reduceEqDiff, reduceCtorEq, Nat.reduceAdd, Nat.reduceSub, Nat.reduceLT, Nat.reduceMul, Nat.reducePow, Nat.reduceLeDiff, Int.reduceToNat, Int.reduceLE, Int.reduceLT, Int.reducePow, GOB, k_len, ↓k_all, xorN_len, mixL_len, moveL_len, boxL_len, hk, hs, ↓k_bx]
  refine kCall_val (c_spec_l02Inverse c.box c.hb) (by rfl) [] (by simp [CALL, SCB, instL_cip, okL_cip, k_inst, k_ok, keyN_len, xorN_len, mixL_len, moveL_len, boxL_len, invL_len]) (by simp [CALL, SCB, instL_cip, okL_cip, k_inst, k_ok, keyN_len, xorN_len, mixL_len, moveL_len, boxL_len, invL_len]) (by simp [CALL, SCB, instL_cip, okL_cip, k_inst, k_ok, keyN_len, xorN_len, mixL_len, moveL_len, boxL_len, invL_len]) (by simp [okL_bs, okL_room, okL, okV, instL_cip, okL_cip, k_inst, k_ok, keyN_len, xorN_len, mixL_len, moveL_len, boxL_len, invL_len]) ?_
  simp (config := { maxSteps := 2000000 }) only [CALL, ↓VC, VP, TT, Nat.reduceEqDiff, reduceCtorEq, Nat.reduceAdd, Nat.reduceSub, Nat.reduceLT, Nat.reduceMul, Nat.reducePow, Nat.reduceLeDiff, Int.reduceToNat, Int.reduceLE, Int.reduceLT, Int.reducePow, GOB, k_len, ↓k_all, xorN_len, mixL_len, moveL_len, boxL_len, hk, hs, hIb, c.hb, ↓k_fd, ↓k_mx]
  refine kCall_val (c_spec_l03Inverse c.m c.A c.hm c.hm' c.hA) (by rfl) [] (by simp [CALL, SCB, instL_cip, okL_cip, k_inst, k_ok, keyN_len, xorN_len, mixL_len, moveL_len, boxL_len, invL_len]) (by simp [CALL, SCB, instL_cip, okL_cip, k_inst, k_ok, keyN_len, xorN_len, mixL_len, moveL_len, boxL_len, invL_len]) (by simp [CALL, SCB, instL_cip, okL_cip, k_inst, k_ok, keyN_len, xorN_len, mixL_len, moveL_len, boxL_len, invL_len]) (by simp [okL_bs, okL_room, okL, okV, instL_cip, okL_cip, k_inst, k_ok, keyN_len, xorN_len, mixL_len, moveL_len, boxL_len, invL_len]) ?_
  simp (config := { maxSteps := 2000000 }) only [CALL, ↓VC, VP, TT, Nat.reduceEqDiff, reduceCtorEq, Nat.reduceAdd, Nat.reduceSub, Nat.reduceLT, Nat.reduceMul, Nat.reducePow, Nat.reduceLeDiff, Int.reduceToNat, Int.reduceLE, Int.reduceLT, Int.reducePow, GOB, k_len, ↓k_all, xorN_len, mixL_len, moveL_len, boxL_len, hk, hs, hIb, hBl]
  generalize hD : decS c.m c.box (invL 256 c.box 256) (backL c.m c.A) (invL 16 c.pl 16) key s c.n = D
  have hl : ∀ j, (D j).length = 16 := fun j => by rw [← hD]; exact decS_len _ _ _ _ _ _ _ _ hs j
  refine kLoop_of (fun r : Nat => ([.j, .j, .j, .c (.int .i64 (c.n)), .p 0 0, .p 1 0, .p 2 0, .j, .p 3 0, .s 4 0 (c.n + 1) (c.n + 1 + q), .p 5 0, .p 6 0, .j, .c (.int .i64 (r)), .j, .j, .j, .j, .j, .j, .j, .j, .j, .j, .j, .j, .j, .j, .j, .j, .j, .j, .j, .j, .j, .j, .j, .j, .j, .j, .j, .j, .j, .j, .j, .j, .j, .j, .j, .j, .j, .j, .j, .j, .j, .j, .j, .j, .j], [⟨true, c.cells⟩, ⟨true, bs key⟩, ⟨true, bs (D (c.n - r))⟩, ⟨true, bs (List.replicate 16 0)⟩, ⟨true, bs (keysL c.box key (c.n + 1)) ++ List.replicate (16 * q) .j⟩, ⟨true, bs (invL 256 c.box 256)⟩, ⟨true, bs (backL c.m c.A)⟩])) (fun r => r) (fun r => r ≤ c.n) c.n (by omega)
    ⟨[0, 1, 2, 3, 4, 5, 6], by rw [← hD]; simp [-List.reduceReplicate, LES, k_ren, k_ok, decS]⟩ ?_
  intro r hr
  rcases Nat.eq_zero_or_pos r with rfl | h
  · simp only [↓VC, VP, TT, Nat.reduceEqDiff, reduceCtorEq, Nat.reduceAdd, Nat.reduceSub, Nat.reduceLT, Nat.reduceMul, Nat.reducePow, Nat.reduceLeDiff, Int.reduceToNat, Int.reduceLE, Int.reduceLT, Int.reducePow, (eq_false (by omega) : (((0 : Nat) : Int) ≥ 1) = False), decide_false, ↓keys_load0 hk (Nat.succ_pos c.n), Nat.sub_zero, hl]
    refine ⟨by omega, ?_⟩
    refine kCall_val (c_spec_l01Xor (D c.n) (keyN c.box key 0) (hl _) (keyN_len hk c.box 0)) (by rfl) [] (by simp [CALL, SCB, instL_cip, okL_cip, k_inst, k_ok, keyN_len, xorN_len, mixL_len, moveL_len, boxL_len, invL_len]) (by simp [CALL, SCB, instL_cip, okL_cip, k_inst, k_ok, keyN_len, xorN_len, mixL_len, moveL_len, boxL_len, invL_len]) (by simp [CALL, SCB, instL_cip, okL_cip, k_inst, k_ok, keyN_len, xorN_len, mixL_len, moveL_len, boxL_len, invL_len]) (by simp [okL_bs, okL_room, okL, okV, instL_cip, okL_cip, k_inst, k_ok, keyN_len, xorN_len, mixL_len, moveL_len, boxL_len, invL_len]) ?_
    simp (config := { maxSteps := 2000000 }) only [CALL, ↓VC, VP, TT, Nat.reduceEqDiff, reduceCtorEq, Nat.reduceAdd, Nat.reduceSub, Nat.reduceLT, Nat.reduceMul, Nat.reducePow, Nat.reduceLeDiff, Int.reduceToNat, Int.reduceLE, Int.reduceLT, Int.reducePow, GOB, k_len, ↓k_all, xorN_len, mixL_len, moveL_len, boxL_len, xorN_len]
    refine ⟨_, _, [], ⟨rfl, rfl⟩, ?_⟩
    simp [-List.reduceReplicate, LES, Cip.dec, decL, hD]
  · obtain ⟨p, rfl⟩ : ∃ p, r = p + 1 := ⟨r - 1, by omega⟩
    have hx := keyN_len hk c.box (p + 1)
    have hst := decS_step (m := c.m) (box := c.box) (ib := invL 256 c.box 256) (B := backL c.m c.A) (ip := invL 16 c.pl 16) (key := key) (s := s) (n := c.n) (r := p) (by omega)
    rw [hD] at hst
    have w1 : IntKind.i64.wrap (((p + 1 : Nat) : Int) - 1) = (p : Int) := by rw [wrap_i64 (by omega) (by omega)]; omega
    simp only [↓VC, VP, TT, Nat.reduceEqDiff, reduceCtorEq, Nat.reduceAdd, Nat.reduceSub, Nat.reduceLT, Nat.reduceMul, Nat.reducePow, Nat.reduceLeDiff, Int.reduceToNat, Int.reduceLE, Int.reduceLT, Int.reducePow, (eq_true (by omega) : (((p + 1 : Nat) : Int) ≥ 1) = True), decide_true, hl, ↓keys_loadR hk (show p + 1 < c.n + 1 by omega)]
    refine ⟨by omega, ?_⟩
    refine kCall_val (c_spec_l01Xor (D (c.n - (p + 1))) (keyN c.box key (p + 1)) (hl _) hx) (by rfl) [] (by simp [CALL, SCB, instL_cip, okL_cip, k_inst, k_ok, keyN_len, xorN_len, mixL_len, moveL_len, boxL_len, invL_len]) (by simp [CALL, SCB, instL_cip, okL_cip, k_inst, k_ok, keyN_len, xorN_len, mixL_len, moveL_len, boxL_len, invL_len]) (by simp [CALL, SCB, instL_cip, okL_cip, k_inst, k_ok, keyN_len, xorN_len, mixL_len, moveL_len, boxL_len, invL_len]) (by simp [okL_bs, okL_room, okL, okV, instL_cip, okL_cip, k_inst, k_ok, keyN_len, xorN_len, mixL_len, moveL_len, boxL_len, invL_len]) ?_
    simp (config := { maxSteps := 2000000 }) only [CALL, ↓VC, VP, TT, Nat.reduceEqDiff, reduceCtorEq, Nat.reduceAdd, Nat.reduceSub, Nat.reduceLT, Nat.reduceMul, Nat.reducePow, Nat.reduceLeDiff, Int.reduceToNat, Int.reduceLE, Int.reduceLT, Int.reducePow, GOB, k_len, ↓k_all, xorN_len, mixL_len, moveL_len, boxL_len, hl, ↓k_fd, ↓k_pl, hBl, hIb]
    have hg := xorN_len 16 (D (c.n - (p + 1))) (keyN c.box key (p + 1))
    generalize xorN 16 (D (c.n - (p + 1))) (keyN c.box key (p + 1)) = g at *
    refine ⟨fun h2 => ?_, fun h2 => ?_⟩
    · refine kCall_val (c_spec_l03Mix c.m (backL c.m c.A) g c.hm c.hm' hBl hg) (by rfl) [] (by simp [CALL, SCB, instL_cip, okL_cip, k_inst, k_ok, keyN_len, xorN_len, mixL_len, moveL_len, boxL_len, invL_len]) (by simp [CALL, SCB, instL_cip, okL_cip, k_inst, k_ok, keyN_len, xorN_len, mixL_len, moveL_len, boxL_len, invL_len]) (by simp [CALL, SCB, instL_cip, okL_cip, k_inst, k_ok, keyN_len, xorN_len, mixL_len, moveL_len, boxL_len, invL_len]) (by simp [okL_bs, okL_room, okL, okV, instL_cip, okL_cip, k_inst, k_ok, keyN_len, xorN_len, mixL_len, moveL_len, boxL_len, invL_len]) ?_
      simp (config := { maxSteps := 2000000 }) only [CALL, ↓VC, VP, TT, Nat.reduceEqDiff, reduceCtorEq, Nat.reduceAdd, Nat.reduceSub, Nat.reduceLT, Nat.reduceMul, Nat.reducePow, Nat.reduceLeDiff, Int.reduceToNat, Int.reduceLE, Int.reduceLT, Int.reducePow, GOB, k_len, ↓k_all, xorN_len, mixL_len, moveL_len, boxL_len, hg, ↓k_pl, hIb, mixL_len]
      refine kCall_val (c_spec_l03Back c.pl (mixL 16 c.m (backL c.m c.A) g) c.hp (mixL_len _ _ _ _) c.hpl) (by rfl) [] (by simp [CALL, SCB, instL_cip, okL_cip, k_inst, k_ok, keyN_len, xorN_len, mixL_len, moveL_len, boxL_len, invL_len]) (by simp [CALL, SCB, instL_cip, okL_cip, k_inst, k_ok, keyN_len, xorN_len, mixL_len, moveL_len, boxL_len, invL_len]) (by simp [CALL, SCB, instL_cip, okL_cip, k_inst, k_ok, keyN_len, xorN_len, mixL_len, moveL_len, boxL_len, invL_len]) (by simp [okL_bs, okL_room, okL, okV, instL_cip, okL_cip, k_inst, k_ok, keyN_len, xorN_len, mixL_len, moveL_len, boxL_len, invL_len]) ?_
      simp (config := { maxSteps := 2000000 }) only [CALL, ↓VC, VP, TT, Nat.reduceEqDiff, reduceCtorEq, Nat.reduceAdd, Nat.reduceSub, Nat.reduceLT, Nat.reduceMul, Nat.reducePow, Nat.reduceLeDiff, Int.reduceToNat, Int.reduceLE, Int.reduceLT, Int.reducePow, GOB, k_len, ↓k_all, xorN_len, mixL_len, moveL_len, boxL_len, hg, hIb]
      refine kCall_val (c_spec_l04Boxes (invL 256 c.box 256) (moveL (invL 16 c.pl 16) (mixL 16 c.m (backL c.m c.A) g)) hIb (moveL_len _ _)) (by rfl) [] (by simp [CALL, SCB, instL_cip, okL_cip, k_inst, k_ok, keyN_len, xorN_len, mixL_len, moveL_len, boxL_len, invL_len]) (by simp [CALL, SCB, instL_cip, okL_cip, k_inst, k_ok, keyN_len, xorN_len, mixL_len, moveL_len, boxL_len, invL_len]) (by simp [CALL, SCB, instL_cip, okL_cip, k_inst, k_ok, keyN_len, xorN_len, mixL_len, moveL_len, boxL_len, invL_len]) (by simp [okL_bs, okL_room, okL, okV, instL_cip, okL_cip, k_inst, k_ok, keyN_len, xorN_len, mixL_len, moveL_len, boxL_len, invL_len]) ?_
      simp (config := { maxSteps := 2000000 }) only [CALL, ↓VC, VP, TT, Nat.reduceEqDiff, reduceCtorEq, Nat.reduceAdd, Nat.reduceSub, Nat.reduceLT, Nat.reduceMul, Nat.reducePow, Nat.reduceLeDiff, Int.reduceToNat, Int.reduceLE, Int.reduceLT, Int.reducePow, GOB, k_len, ↓k_all, xorN_len, mixL_len, moveL_len, boxL_len, hg, hIb, mixL_len, boxL_len]
      rw [if_pos (by omega)] at hst
      refine ⟨p, by omega, by omega, [0, 1, 2, 3, 4, 5, 6], ?_⟩
      rw [w1, ← hst]
      simp [-List.reduceReplicate, LES, k_ren, k_ok]
    · refine kCall_val (c_spec_l03Back c.pl g c.hp hg c.hpl) (by rfl) [] (by simp [CALL, SCB, instL_cip, okL_cip, k_inst, k_ok, keyN_len, xorN_len, mixL_len, moveL_len, boxL_len, invL_len]) (by simp [CALL, SCB, instL_cip, okL_cip, k_inst, k_ok, keyN_len, xorN_len, mixL_len, moveL_len, boxL_len, invL_len]) (by simp [CALL, SCB, instL_cip, okL_cip, k_inst, k_ok, keyN_len, xorN_len, mixL_len, moveL_len, boxL_len, invL_len]) (by simp [okL_bs, okL_room, okL, okV, instL_cip, okL_cip, k_inst, k_ok, keyN_len, xorN_len, mixL_len, moveL_len, boxL_len, invL_len]) ?_
      simp (config := { maxSteps := 2000000 }) only [CALL, ↓VC, VP, TT, Nat.reduceEqDiff, reduceCtorEq, Nat.reduceAdd, Nat.reduceSub, Nat.reduceLT, Nat.reduceMul, Nat.reducePow, Nat.reduceLeDiff, Int.reduceToNat, Int.reduceLE, Int.reduceLT, Int.reducePow, GOB, k_len, ↓k_all, xorN_len, mixL_len, moveL_len, boxL_len, hg, hIb]
      refine kCall_val (c_spec_l04Boxes (invL 256 c.box 256) (moveL (invL 16 c.pl 16) g) hIb (moveL_len _ _)) (by rfl) [] (by simp [CALL, SCB, instL_cip, okL_cip, k_inst, k_ok, keyN_len, xorN_len, mixL_len, moveL_len, boxL_len, invL_len]) (by simp [CALL, SCB, instL_cip, okL_cip, k_inst, k_ok, keyN_len, xorN_len, mixL_len, moveL_len, boxL_len, invL_len]) (by simp [CALL, SCB, instL_cip, okL_cip, k_inst, k_ok, keyN_len, xorN_len, mixL_len, moveL_len, boxL_len, invL_len]) (by simp [okL_bs, okL_room, okL, okV, instL_cip, okL_cip, k_inst, k_ok, keyN_len, xorN_len, mixL_len, moveL_len, boxL_len, invL_len]) ?_
      simp (config := { maxSteps := 2000000 }) only [CALL, ↓VC, VP, TT, Nat.reduceEqDiff, reduceCtorEq, Nat.reduceAdd, Nat.reduceSub, Nat.reduceLT, Nat.reduceMul, Nat.reducePow, Nat.reduceLeDiff, Int.reduceToNat, Int.reduceLE, Int.reduceLT, Int.reducePow, GOB, k_len, ↓k_all, xorN_len, mixL_len, moveL_len, boxL_len, hg, hIb, boxL_len]
      rw [if_neg (by omega)] at hst
      refine ⟨p, by omega, by omega, [0, 1, 2, 3, 4, 5, 6], ?_⟩
      rw [w1, ← hst]
      simp [-List.reduceReplicate, LES, k_ren, k_ok]
end Go.Proofs.YtahnjhppkgndiaaGreat
/- Blocks deciphered by the program's engine; a cipher with its keys. -/
set_option linter.unusedSimpArgs false
set_option linter.unusedVariables false
namespace Go.Proofs.YtahnjhppkgndiaaGreat
open Go Go.Vc
set_option maxRecDepth 10000
set_option maxHeartbeats 4000000
/-- The blocks of a cipher's engine and of its keys. -/
def Cip.kbl (c : Cip) (own : Bool) (key : List UInt8) (q : Nat) : List Blk := [⟨own, c.eng 1 2⟩, ⟨own, bs c.t1⟩, ⟨own, bs c.t2⟩, ⟨own, bs (keysL c.box key (c.n + 1)) ++ List.replicate (16 * q) .j⟩]
/-- A cipher with a key, as the program keeps it. -/
def Cip.kd (c : Cip) (q : Nat) : V := .a [.p 0 0, .s 3 0 (c.n + 1) (c.n + 1 + q)]
theorem keysB_take {l : List UInt8} {q : Nat} : List.take (l.length + q) (bs l ++ List.replicate q V.j) = bs l ++ List.replicate q V.j := by rw [← bs_length l]; exact takeX
theorem keys_take {X : List V} {q : Nat} : List.take (X.length + q) (X ++ List.replicate q V.j) = X ++ List.replicate q V.j := takeX
section
variable {c : Cip} {h1 h2 : Nat} {k : V → Prop}
theorem e_bp : vSub (c.eng h1 h2) 528 16 k = k (.a (bs (invL 16 c.pl 16))) := by
  have h := c.engL
  unfold Cip.eng engC
  rw [vSub_appR (by rw [bs_length, h.b]; omega), bs_length, h.b, vSub_appR (by rw [bs_length, h.bb]; omega), bs_length, h.bb, vSub_appR (by rw [bs_length, h.p]; omega), bs_length, h.p, vSub_app0 (by rw [bs_length, h.bp])]
theorem e_bm : vGet (c.eng h1 h2) 545 k = k (.p h2 0) := by
  have h := c.engL
  unfold Cip.eng engC
  rw [vGet_appR (by rw [bs_length, h.b]; omega), bs_length, h.b, vGet_appR (by rw [bs_length, h.bb]; omega), bs_length, h.bb, vGet_appR (by rw [bs_length, h.p]; omega), bs_length, h.p, vGet_appR (by rw [bs_length, h.bp]; omega), bs_length, h.bp]
  simp [vGet]
theorem e_bb (u : UInt8) : vGet (c.eng h1 h2) (256 + u.toNat) k = k (.c (.int .u8 (((invL 256 c.box 256).getD u.toNat 0).toNat : Int))) := by
  have h := c.engL
  have := u.toNat_lt
  unfold Cip.eng engC
  rw [vGet_appR (by rw [bs_length, h.b]; omega), bs_length, h.b, vGet_appL (by rw [bs_length, h.bb]; omega), show 256 + u.toNat - 256 = u.toNat by omega, vGet_bs, h.bb]; simp; omega
end
theorem t2_len (c : Cip) : c.t2.length = 4096 := tabL_len _ _
theorem k_mix2 (c : Cip) (s : List UInt8) (hs : s.length = 16) : LC Tryz.prog 212 [.p 0 0, .s 1 0 16 16] [⟨false, bs c.t2⟩, ⟨true, bs s⟩]
    (RetM (fun _ : Unit => True) fun _ => (.t [], [⟨false, bs c.t2⟩, ⟨true, bs (mixL 16 c.m (backL c.m c.A) s)⟩], [])) := c_mix c.m (backL c.m c.A) s 16 4 rfl (by omega) hs
theorem k_decipherWith (c : Cip) (key s : List UInt8) (q : Nat) (hk : key.length = 16) (hs : s.length = 16) : LC Tryz.prog 200 [.p 0 0, .s 3 0 (c.n + 1) (c.n + 1 + q), .a (bs s)] (c.kbl false key q) (fun v hp => v = .a (bs (c.dec key s)) ∧ hp = c.kbl false key q) := by
  have hn := c.hn
  unfold Cip.kbl
  refine LC_of (X := XX (fun | 4 => .one 0 (.one 1 (.one 2 (.one 3 (.one 4 (.one 5 (.one 6 .nil)))))) | 6 => .one 0 (.one 1 (.one 2 (.one 3 (.one 4 (.one 5 .nil))))) | 7 => .one 0 (.one 1 (.one 2 (.one 3 (.one 4 (.one 5 (.one 6 .nil)))))) | 13 => .one 0 (.one 1 (.one 2 (.one 3 (.one 4 (.one 5 .nil))))) | _ => .nil) (fun _ => []) [15, 71, 72, 73, 79, 80, 87, 90, 91, 93, 99, 119, 137, 176, 177, 203, 204, 212, 219] 4) envOK Tryz.func200 (by kernel_rfl) (by kernel_rfl) rfl (Nat.le_of_ble_eq_true (by kernel_rfl)) ?_
  simp only [kFun, Tryz.f200, List.length_nil, List.length_cons, Nat.sub_zero, Nat.reduceSub, Nat.reduceAdd, List.nil_append, List.cons_append, List.replicate_succ, List.replicate_zero]
  simp only [XX, ↓VC, VP, TT, Nat.reduceEqDiff, reduceCtorEq, Nat.reduceAdd, Nat.reduceSub, Nat.reduceLT, Nat.reduceMul, Nat.reducePow, Nat.reduceLeDiff, Int.reduceToNat, Int.reduceLE, Int.reduceLT, Int.reducePow, hs]
  have w1 : IntKind.i64.wrap (((c.n + 1 : Nat) : Int) - 1) = (c.n : Int) := by rw [wrap_i64 (by omega) (by omega)]; omega
  rw [w1]
  generalize hD : decS c.m c.box (invL 256 c.box 256) (backL c.m c.A) (invL 16 c.pl 16) key s c.n = D
  have hl : ∀ j, (D j).length = 16 := fun j => by rw [← hD]; exact decS_len _ _ _ _ _ _ _ _ hs j
  refine kLoop_of (fun r : Nat => ([.p 0 0, .s 3 0 (c.n + 1) (c.n + 1 + q), .j, .j, .j, .p 4 0, .p 5 0, .c (.int .i64 (r)), .j, .j, .j, .j, .j, .j, .j, .j, .j, .j, .j, .j, .j, .j, .j, .j, .j, .j, .j, .j, .j, .j, .j, .j, .j, .j, .j, .j, .j, .j, .j, .j, .j, .j, .j, .j, .j, .j, .j, .j, .j, .j, .j, .j, .j, .j, .j, .j, .j, .j, .j], [⟨false, c.eng 1 2⟩, ⟨false, bs c.t1⟩, ⟨false, bs c.t2⟩, ⟨false, bs (keysL c.box key (c.n + 1)) ++ List.replicate (16 * q) .j⟩, ⟨true, bs (D (c.n - r))⟩, ⟨true, bs (List.replicate 16 0)⟩])) (fun r => r) (fun r => r ≤ c.n) c.n (by omega)
    ⟨[0, 1, 2, 3, 4, 5], by rw [← hD]; simp [-List.reduceReplicate, LES, e_ren, e_ok, decS]⟩ ?_
  intro r hr
  rcases Nat.eq_zero_or_pos r with rfl | h
  · simp only [↓VC, VP, TT, Nat.reduceEqDiff, reduceCtorEq, Nat.reduceAdd, Nat.reduceSub, Nat.reduceLT, Nat.reduceMul, Nat.reducePow, Nat.reduceLeDiff, Int.reduceToNat, Int.reduceLE, Int.reduceLT, Int.reducePow, ↓keys_load0 hk (Nat.succ_pos c.n), Nat.sub_zero, hl, (eq_false (by omega) : (((0 : Nat) : Int) > 0) = False), decide_false]
    refine ⟨by omega, ?_⟩
    refine kCall_val (c_impl_XorBlocks (D c.n) (keyN c.box key 0) (hl _) (keyN_len hk c.box 0)) (by rfl) [] (by simp [CALL, SCB, k_inst, k_ok, e_inst, e_take, e_ok, okL, okV, Cip.bl, Cip.kbl, keysB_take, keyN_len, xorN_len, mixL_len, moveL_len, boxL_len, invL_len, tabL_len]) (by simp [CALL, SCB, k_inst, k_ok, e_inst, e_take, e_ok, okL, okV, Cip.bl, Cip.kbl, keysB_take, keyN_len, xorN_len, mixL_len, moveL_len, boxL_len, invL_len, tabL_len]) (by simp [CALL, SCB, k_inst, k_ok, e_inst, e_take, e_ok, okL, okV, Cip.bl, Cip.kbl, keysB_take, keyN_len, xorN_len, mixL_len, moveL_len, boxL_len, invL_len, tabL_len]) (by simp [okL_bs, okL_room, okL, okV, k_inst, k_ok, e_inst, e_take, e_ok, okL, okV, Cip.bl, Cip.kbl, keysB_take, keyN_len, xorN_len, mixL_len, moveL_len, boxL_len, invL_len, tabL_len]) ?_
    simp (config := { maxSteps := 2000000 }) only [CALL, ↓VC, VP, TT, Nat.reduceEqDiff, reduceCtorEq, Nat.reduceAdd, Nat.reduceSub, Nat.reduceLT, Nat.reduceMul, Nat.reducePow, Nat.reduceLeDiff, Int.reduceToNat, Int.reduceLE, Int.reduceLT, Int.reducePow, GOB, Cip.bl, Cip.kbl, e_inst0, e_inst, xorN_len, mixL_len, moveL_len, boxL_len, invL_len, xorN_len]
    refine ⟨_, _, [0, 1, 2, 3], ⟨rfl, rfl⟩, ?_⟩
    simp [-List.reduceReplicate, LES, e_ren, e_ok, Cip.dec, decL, hD]
  · obtain ⟨p, rfl⟩ : ∃ p, r = p + 1 := ⟨r - 1, by omega⟩
    have hx := keyN_len hk c.box (p + 1)
    have hst := decS_step (m := c.m) (box := c.box) (ib := invL 256 c.box 256) (B := backL c.m c.A) (ip := invL 16 c.pl 16) (key := key) (s := s) (n := c.n) (r := p) (by omega)
    rw [hD] at hst
    have w2 : IntKind.i64.wrap (((p + 1 : Nat) : Int) - 1) = (p : Int) := by rw [wrap_i64 (by omega) (by omega)]; omega
    simp only [↓VC, VP, TT, Nat.reduceEqDiff, reduceCtorEq, Nat.reduceAdd, Nat.reduceSub, Nat.reduceLT, Nat.reduceMul, Nat.reducePow, Nat.reduceLeDiff, Int.reduceToNat, Int.reduceLE, Int.reduceLT, Int.reducePow, hl, (eq_true (by omega) : (((p + 1 : Nat) : Int) > 0) = True), decide_true, ↓keys_loadR hk (show p + 1 < c.n + 1 by omega)]
    refine ⟨by omega, ?_⟩
    refine kCall_val (c_impl_XorBlocks (D (c.n - (p + 1))) (keyN c.box key (p + 1)) (hl _) hx) (by rfl) [] (by simp [CALL, SCB, k_inst, k_ok, e_inst, e_take, e_ok, okL, okV, Cip.bl, Cip.kbl, keysB_take, keyN_len, xorN_len, mixL_len, moveL_len, boxL_len, invL_len, tabL_len]) (by simp [CALL, SCB, k_inst, k_ok, e_inst, e_take, e_ok, okL, okV, Cip.bl, Cip.kbl, keysB_take, keyN_len, xorN_len, mixL_len, moveL_len, boxL_len, invL_len, tabL_len]) (by simp [CALL, SCB, k_inst, k_ok, e_inst, e_take, e_ok, okL, okV, Cip.bl, Cip.kbl, keysB_take, keyN_len, xorN_len, mixL_len, moveL_len, boxL_len, invL_len, tabL_len]) (by simp [okL_bs, okL_room, okL, okV, k_inst, k_ok, e_inst, e_take, e_ok, okL, okV, Cip.bl, Cip.kbl, keysB_take, keyN_len, xorN_len, mixL_len, moveL_len, boxL_len, invL_len, tabL_len]) ?_
    simp (config := { maxSteps := 2000000 }) only [CALL, ↓VC, VP, TT, Nat.reduceEqDiff, reduceCtorEq, Nat.reduceAdd, Nat.reduceSub, Nat.reduceLT, Nat.reduceMul, Nat.reducePow, Nat.reduceLeDiff, Int.reduceToNat, Int.reduceLE, Int.reduceLT, Int.reducePow, GOB, Cip.bl, Cip.kbl, e_inst0, e_inst, xorN_len, mixL_len, moveL_len, boxL_len, invL_len, hl, w1, xorN_len, ↓e_bm, ↓e_bp]
    have hg := xorN_len 16 (D (c.n - (p + 1))) (keyN c.box key (p + 1))
    generalize xorN 16 (D (c.n - (p + 1))) (keyN c.box key (p + 1)) = g at *
    refine ⟨fun h2 => ?_, fun h2 => ?_⟩
    · rw [if_pos (by omega)] at hst
      refine kCall_M (k_mix2 c g hg) (by rfl) [(2, 0), (4, 0)] (by simp [CALL, SCB, k_inst, k_ok, e_inst, e_take, e_ok, okL, okV, Cip.bl, Cip.kbl, keysB_take, keyN_len, xorN_len, mixL_len, moveL_len, boxL_len, invL_len, tabL_len, hg, t2_len, mixL_len, tkn (t2_len _)]) (by simp [CALL, SCB, k_inst, k_ok, e_inst, e_take, e_ok, okL, okV, Cip.bl, Cip.kbl, keysB_take, keyN_len, xorN_len, mixL_len, moveL_len, boxL_len, invL_len, tabL_len, hg, t2_len, mixL_len, tkn (t2_len _)]) (by simp) (by simp [CALL, SCB, k_inst, k_ok, e_inst, e_take, e_ok, okL, okV, Cip.bl, Cip.kbl, keysB_take, keyN_len, xorN_len, mixL_len, moveL_len, boxL_len, invL_len, tabL_len, hg, t2_len, mixL_len, tkn (t2_len _)]) (by simp [okL_bs, okL_room, okL, okV, k_inst, k_ok, e_inst, e_take, e_ok, okL, okV, Cip.bl, Cip.kbl, keysB_take, keyN_len, xorN_len, mixL_len, moveL_len, boxL_len, invL_len, tabL_len, hg, t2_len, mixL_len, tkn (t2_len _)]) (by intro x _; simp [keepR, bs_length, k_inst, k_ok, e_inst, e_take, e_ok, okL, okV, Cip.bl, Cip.kbl, keysB_take, keyN_len, xorN_len, mixL_len, moveL_len, boxL_len, invL_len, tabL_len, hg, t2_len, mixL_len, tkn (t2_len _)]) (by simp [CALL, SCB, k_inst, k_ok, e_inst, e_take, e_ok, okL, okV, Cip.bl, Cip.kbl, keysB_take, keyN_len, xorN_len, mixL_len, moveL_len, boxL_len, invL_len, tabL_len, hg, t2_len, mixL_len, tkn (t2_len _)]) fun _ _ => ?_
      simp (config := { maxSteps := 2000000 }) only [CALL, ↓VC, VP, TT, Nat.reduceEqDiff, reduceCtorEq, Nat.reduceAdd, Nat.reduceSub, Nat.reduceLT, Nat.reduceMul, Nat.reducePow, Nat.reduceLeDiff, Int.reduceToNat, Int.reduceLE, Int.reduceLT, Int.reducePow, GOB, Cip.bl, Cip.kbl, e_inst0, e_inst, xorN_len, mixL_len, moveL_len, boxL_len, invL_len, ↓e_bp, mixL_len, hg, t2_len]
      have hy := mixL_len 16 c.m (backL c.m c.A) g
      generalize mixL 16 c.m (backL c.m c.A) g = y at *
      refine kCall_val (c_impl_move (invL 16 c.pl 16) y (invL_len _ _ _) hy (invL_pl16 _ _ (Nat.le_refl _))) (by rfl) [] (by simp [CALL, SCB, k_inst, k_ok, e_inst, e_take, e_ok, okL, okV, Cip.bl, Cip.kbl, keysB_take, keyN_len, xorN_len, mixL_len, moveL_len, boxL_len, invL_len, tabL_len]) (by simp [CALL, SCB, k_inst, k_ok, e_inst, e_take, e_ok, okL, okV, Cip.bl, Cip.kbl, keysB_take, keyN_len, xorN_len, mixL_len, moveL_len, boxL_len, invL_len, tabL_len]) (by simp [CALL, SCB, k_inst, k_ok, e_inst, e_take, e_ok, okL, okV, Cip.bl, Cip.kbl, keysB_take, keyN_len, xorN_len, mixL_len, moveL_len, boxL_len, invL_len, tabL_len]) (by simp [okL_bs, okL_room, okL, okV, k_inst, k_ok, e_inst, e_take, e_ok, okL, okV, Cip.bl, Cip.kbl, keysB_take, keyN_len, xorN_len, mixL_len, moveL_len, boxL_len, invL_len, tabL_len]) ?_
      simp (config := { maxSteps := 2000000 }) only [CALL, ↓VC, VP, TT, Nat.reduceEqDiff, reduceCtorEq, Nat.reduceAdd, Nat.reduceSub, Nat.reduceLT, Nat.reduceMul, Nat.reducePow, Nat.reduceLeDiff, Int.reduceToNat, Int.reduceLE, Int.reduceLT, Int.reducePow, GOB, Cip.bl, Cip.kbl, e_inst0, e_inst, xorN_len, mixL_len, moveL_len, boxL_len, invL_len, moveL_len, hy]
      have hM := moveL_len (invL 16 c.pl 16) y
      generalize moveL (invL 16 c.pl 16) y = M at *
      refine kLoop_of (fun i : Nat => ([.p 0 0, .s 3 0 (c.n + 1) (c.n + 1 + q), .j, .j, .j, .p 4 0, .p 5 0, .c (.int .i64 ((p + 1 : Nat))), .j, .j, .j, .j, .j, .j, .j, .j, .j, .j, .j, .j, .j, .j, .j, .j, .j, .j, .j, .j, .j, .j, .j, .j, .j, .j, .j, .j, .j, .j, .j, .j, .a (bs M), .c (.int .i64 (i)), .j, .j, .j, .j, .j, .j, .j, .j, .j, .j, .j, .j, .j, .j, .j, .j, .j], [⟨false, c.eng 1 2⟩, ⟨false, bs c.t1⟩, ⟨false, bs c.t2⟩, ⟨false, bs (keysL c.box key (c.n + 1)) ++ List.replicate (16 * q) .j⟩, ⟨true, bs (fl 16 (fun i => M.getD i 0) (fun i => (invL 256 c.box 256).getD (M.getD i 0).toNat 0) i)⟩, ⟨true, bs (List.replicate 16 0)⟩])) (fun i => 16 - i) (fun i => i ≤ 16) 0 (by omega)
        ⟨[0, 1, 2, 3, 4, 5], by rw [← fl_start hM]; simp [-List.reduceReplicate, LES, e_ren, e_ok]⟩ ?_
      intro i hi
      rcases Nat.lt_or_ge i 16 with h3 | h3
      · simp only [↓VC, VP, TT, Nat.reduceEqDiff, reduceCtorEq, Nat.reduceAdd, Nat.reduceSub, Nat.reduceLT, Nat.reduceMul, Nat.reducePow, Nat.reduceLeDiff, Int.reduceToNat, Int.reduceLE, Int.reduceLT, Int.reducePow, h3, (eq_true (by omega) : ((i : Int) < 16) = True), (eq_true (by omega) : ((i : Int) < ((16 : Nat) : Int)) = True), wrap_i64 (n := (i : Int) + 1) (by omega) (by omega), decide_true, hM, fl_len, fl_set, ↓e_bb, int_lt_256]
        exact ⟨i + 1, by omega, by omega, [0, 1, 2, 3, 4, 5], by simp [-List.reduceReplicate, LES, e_ren, e_ok]⟩
      · obtain rfl : i = 16 := by omega
        simp only [↓VC, VP, TT, Nat.reduceEqDiff, reduceCtorEq, Nat.reduceAdd, Nat.reduceSub, Nat.reduceLT, Nat.reduceMul, Nat.reducePow, Nat.reduceLeDiff, Int.reduceToNat, Int.reduceLE, Int.reduceLT, Int.reducePow, (eq_false (by omega) : (((16 : Nat) : Int) < 16) = False), decide_false, fl_len]
        rw [fl_done, show (tab 16 fun i => (invL 256 c.box 256).getD (M.getD i 0).toNat 0) = boxL 16 (invL 256 c.box 256) M from rfl, ← hst]
        refine ⟨p, by omega, by omega, [0, 1, 2, 3, 4, 5], ?_⟩
        rw [w2]
        simp [-List.reduceReplicate, LES, e_ren, e_ok]
    · rw [if_neg (by omega)] at hst
      have hy := hg
      generalize g = y at *
      refine kCall_val (c_impl_move (invL 16 c.pl 16) y (invL_len _ _ _) hy (invL_pl16 _ _ (Nat.le_refl _))) (by rfl) [] (by simp [CALL, SCB, k_inst, k_ok, e_inst, e_take, e_ok, okL, okV, Cip.bl, Cip.kbl, keysB_take, keyN_len, xorN_len, mixL_len, moveL_len, boxL_len, invL_len, tabL_len]) (by simp [CALL, SCB, k_inst, k_ok, e_inst, e_take, e_ok, okL, okV, Cip.bl, Cip.kbl, keysB_take, keyN_len, xorN_len, mixL_len, moveL_len, boxL_len, invL_len, tabL_len]) (by simp [CALL, SCB, k_inst, k_ok, e_inst, e_take, e_ok, okL, okV, Cip.bl, Cip.kbl, keysB_take, keyN_len, xorN_len, mixL_len, moveL_len, boxL_len, invL_len, tabL_len]) (by simp [okL_bs, okL_room, okL, okV, k_inst, k_ok, e_inst, e_take, e_ok, okL, okV, Cip.bl, Cip.kbl, keysB_take, keyN_len, xorN_len, mixL_len, moveL_len, boxL_len, invL_len, tabL_len]) ?_
      simp (config := { maxSteps := 2000000 }) only [CALL, ↓VC, VP, TT, Nat.reduceEqDiff, reduceCtorEq, Nat.reduceAdd, Nat.reduceSub, Nat.reduceLT, Nat.reduceMul, Nat.reducePow, Nat.reduceLeDiff, Int.reduceToNat, Int.reduceLE, Int.reduceLT, Int.reducePow, GOB, Cip.bl, Cip.kbl, e_inst0, e_inst, xorN_len, mixL_len, moveL_len, boxL_len, invL_len, moveL_len, hy]
      have hM := moveL_len (invL 16 c.pl 16) y
      generalize moveL (invL 16 c.pl 16) y = M at *
      refine kLoop_of (fun i : Nat => ([.p 0 0, .s 3 0 (c.n + 1) (c.n + 1 + q), .j, .j, .j, .p 4 0, .p 5 0, .c (.int .i64 ((p + 1 : Nat))), .j, .j, .j, .j, .j, .j, .j, .j, .j, .j, .j, .j, .j, .j, .j, .j, .j, .j, .j, .j, .j, .j, .j, .j, .j, .j, .j, .j, .j, .j, .j, .j, .a (bs M), .c (.int .i64 (i)), .j, .j, .j, .j, .j, .j, .j, .j, .j, .j, .j, .j, .j, .j, .j, .j, .j], [⟨false, c.eng 1 2⟩, ⟨false, bs c.t1⟩, ⟨false, bs c.t2⟩, ⟨false, bs (keysL c.box key (c.n + 1)) ++ List.replicate (16 * q) .j⟩, ⟨true, bs (fl 16 (fun i => M.getD i 0) (fun i => (invL 256 c.box 256).getD (M.getD i 0).toNat 0) i)⟩, ⟨true, bs (List.replicate 16 0)⟩])) (fun i => 16 - i) (fun i => i ≤ 16) 0 (by omega)
        ⟨[0, 1, 2, 3, 4, 5], by rw [← fl_start hM]; simp [-List.reduceReplicate, LES, e_ren, e_ok]⟩ ?_
      intro i hi
      rcases Nat.lt_or_ge i 16 with h3 | h3
      · simp only [↓VC, VP, TT, Nat.reduceEqDiff, reduceCtorEq, Nat.reduceAdd, Nat.reduceSub, Nat.reduceLT, Nat.reduceMul, Nat.reducePow, Nat.reduceLeDiff, Int.reduceToNat, Int.reduceLE, Int.reduceLT, Int.reducePow, h3, (eq_true (by omega) : ((i : Int) < 16) = True), (eq_true (by omega) : ((i : Int) < ((16 : Nat) : Int)) = True), wrap_i64 (n := (i : Int) + 1) (by omega) (by omega), decide_true, hM, fl_len, fl_set, ↓e_bb, int_lt_256]
        exact ⟨i + 1, by omega, by omega, [0, 1, 2, 3, 4, 5], by simp [-List.reduceReplicate, LES, e_ren, e_ok]⟩
      · obtain rfl : i = 16 := by omega
        simp only [↓VC, VP, TT, Nat.reduceEqDiff, reduceCtorEq, Nat.reduceAdd, Nat.reduceSub, Nat.reduceLT, Nat.reduceMul, Nat.reducePow, Nat.reduceLeDiff, Int.reduceToNat, Int.reduceLE, Int.reduceLT, Int.reducePow, (eq_false (by omega) : (((16 : Nat) : Int) < 16) = False), decide_false, fl_len]
        rw [fl_done, show (tab 16 fun i => (invL 256 c.box 256).getD (M.getD i 0).toNat 0) = boxL 16 (invL 256 c.box 256) M from rfl, ← hst]
        refine ⟨p, by omega, by omega, [0, 1, 2, 3, 4, 5], ?_⟩
        rw [w2]
        simp [-List.reduceReplicate, LES, e_ren, e_ok]
theorem k_impl_encipherWith (c : Cip) (key s : List UInt8) (q : Nat) (hk : key.length = 16) (hs : s.length = 16) : LC Tryz.prog 188 [.p 0 0, .s 3 0 (c.n + 1) (c.n + 1 + q), .a (bs s)] (c.kbl false key q) (fun v hp => v = .a (bs (c.enc key s)) ∧ hp = c.kbl false key q) :=
  c_encipherWith c.m c.box _ c.pl _ c.A _ key s c.n c.n q (by have := c.hn; omega) c.engL c.hA c.hpl hk hs
theorem k_impl_keys (c : Cip) (key : List UInt8) (hk : key.length = 16) : LC Tryz.prog 170 [.p 0 0, .a (bs key), .c (.int .i64 (c.n))] (c.bl false) (Ret (c.bl false) (fun _ : Nat => True) fun r => (.s 3 0 (c.n + 1) (c.n + 1 + r), [⟨true, bs (keysL c.box key (c.n + 1)) ++ List.replicate (16 * r) .j⟩])) :=
  c_impl_keys c.box _ c.pl _ c.t1 c.t2 key c.n c.n (by have := c.hn; omega) c.engL hk
theorem k_newKeyed (c : Cip) (key : List UInt8) (hk : key.length = 16) : LC Tryz.prog 128 [.a c.cells, .a (bs key)] [] (Ret [] (fun _ : Nat => True) fun q => (c.kd q, c.kbl true key q)) := by
  refine LC_of (X := XX (fun _ => .nil) (fun _ => []) [15, 71, 72, 73, 79, 80, 87, 90, 91, 93, 99, 119, 137, 176, 177, 203, 204, 212, 219] 0) envOK Tryz.func128 (by kernel_rfl) (by kernel_rfl) rfl (Nat.le_of_ble_eq_true (by kernel_rfl)) ?_
  simp only [kFun, Tryz.f128, List.length_nil, List.length_cons, Nat.sub_zero, Nat.reduceSub, Nat.reduceAdd, List.nil_append, List.cons_append, List.replicate_succ, List.replicate_zero]
  simp only [XX, ↓VC, VP, TT, Nat.reduceEqDiff, reduceCtorEq, Nat.reduceAdd, Nat.reduceSub, Nat.reduceLT, Nat.reduceMul, Nat.reducePow, Nat.reduceLeDiff, Int.reduceToNat, Int.reduceLE, Int.reduceLT, Int.reducePow, hk, k_len, ↓k_all, ↓k_rd]
  refine kCall_Ret (k_newEngine c) (by rfl) [] (by simp [CALL, SCB, k_inst, k_ok, e_inst, e_take, e_ok, okL, okV, Cip.bl, Cip.kbl, keysB_take, keyN_len, xorN_len, mixL_len, moveL_len, boxL_len, invL_len, tabL_len]) (by simp [CALL, SCB, k_inst, k_ok, e_inst, e_take, e_ok, okL, okV, Cip.bl, Cip.kbl, keysB_take, keyN_len, xorN_len, mixL_len, moveL_len, boxL_len, invL_len, tabL_len]) (by simp [CALL, SCB, k_inst, k_ok, e_inst, e_take, e_ok, okL, okV, Cip.bl, Cip.kbl, keysB_take, keyN_len, xorN_len, mixL_len, moveL_len, boxL_len, invL_len, tabL_len]) (by simp [okL_bs, okL_room, okL, okV, k_inst, k_ok, e_inst, e_take, e_ok, okL, okV, Cip.bl, Cip.kbl, keysB_take, keyN_len, xorN_len, mixL_len, moveL_len, boxL_len, invL_len, tabL_len]) (by simp [CALL, SCB, k_inst, k_ok, e_inst, e_take, e_ok, okL, okV, Cip.bl, Cip.kbl, keysB_take, keyN_len, xorN_len, mixL_len, moveL_len, boxL_len, invL_len, tabL_len]) fun _ _ => ?_
  simp (config := { maxSteps := 2000000 }) only [CALL, ↓VC, VP, TT, Nat.reduceEqDiff, reduceCtorEq, Nat.reduceAdd, Nat.reduceSub, Nat.reduceLT, Nat.reduceMul, Nat.reducePow, Nat.reduceLeDiff, Int.reduceToNat, Int.reduceLE, Int.reduceLT, Int.reducePow, GOB, Cip.bl, Cip.kbl, e_inst0, e_inst, xorN_len, mixL_len, moveL_len, boxL_len, invL_len, ↓k_rd, hk]
  refine kCall_Ret (k_impl_keys c key hk) (by rfl) [(3, 0), (4, 0), (5, 0)] (by simp [CALL, SCB, k_inst, k_ok, e_inst, e_take, e_ok, okL, okV, Cip.bl, Cip.kbl, keysB_take, keyN_len, xorN_len, mixL_len, moveL_len, boxL_len, invL_len, tabL_len]) (by simp [CALL, SCB, k_inst, k_ok, e_inst, e_take, e_ok, okL, okV, Cip.bl, Cip.kbl, keysB_take, keyN_len, xorN_len, mixL_len, moveL_len, boxL_len, invL_len, tabL_len]) (by simp [CALL, SCB, k_inst, k_ok, e_inst, e_take, e_ok, okL, okV, Cip.bl, Cip.kbl, keysB_take, keyN_len, xorN_len, mixL_len, moveL_len, boxL_len, invL_len, tabL_len]) (by simp [okL_bs, okL_room, okL, okV, k_inst, k_ok, e_inst, e_take, e_ok, okL, okV, Cip.bl, Cip.kbl, keysB_take, keyN_len, xorN_len, mixL_len, moveL_len, boxL_len, invL_len, tabL_len]) (by simp [CALL, SCB, k_inst, k_ok, e_inst, e_take, e_ok, okL, okV, Cip.bl, Cip.kbl, keysB_take, keyN_len, xorN_len, mixL_len, moveL_len, boxL_len, invL_len, tabL_len]) fun q _ => ?_
  simp (config := { maxSteps := 2000000 }) only [CALL, ↓VC, VP, TT, Nat.reduceEqDiff, reduceCtorEq, Nat.reduceAdd, Nat.reduceSub, Nat.reduceLT, Nat.reduceMul, Nat.reducePow, Nat.reduceLeDiff, Int.reduceToNat, Int.reduceLE, Int.reduceLT, Int.reducePow, GOB, Cip.bl, Cip.kbl, e_inst0, e_inst, xorN_len, mixL_len, moveL_len, boxL_len, invL_len, hk]
  refine ⟨by intro f hf; simp only [List.mem_cons, List.not_mem_nil, or_false] at hf; rcases hf with rfl | rfl <;> rfl, _, _, [3, 4, 5, 6], ⟨q, trivial, rfl, rfl⟩, ?_⟩
  simp [-List.reduceReplicate, LES, e_ren, e_ok, Cip.kd]
theorem k_encipher (c : Cip) (key s : List UInt8) (q : Nat) (hk : key.length = 16) (hs : s.length = 16) : LC Tryz.prog 171 [c.kd q, .a (bs s)] (c.kbl false key q) (fun v hp => v = .a (bs (c.enc key s)) ∧ hp = c.kbl false key q) := by
  unfold Cip.kbl Cip.kd
  refine LC_of (X := XX (fun _ => .nil) (fun _ => []) [15, 71, 72, 73, 79, 80, 87, 90, 91, 93, 99, 119, 137, 176, 177, 203, 204, 212, 219] 4) envOK Tryz.func171 (by kernel_rfl) (by kernel_rfl) rfl (Nat.le_of_ble_eq_true (by kernel_rfl)) ?_
  simp only [kFun, Tryz.f171, List.length_nil, List.length_cons, Nat.sub_zero, Nat.reduceSub, Nat.reduceAdd, List.nil_append, List.cons_append, List.replicate_succ, List.replicate_zero]
  simp only [XX, ↓VC, VP, TT, Nat.reduceEqDiff, reduceCtorEq, Nat.reduceAdd, Nat.reduceSub, Nat.reduceLT, Nat.reduceMul, Nat.reducePow, Nat.reduceLeDiff, Int.reduceToNat, Int.reduceLE, Int.reduceLT, Int.reducePow, hs]
  refine kCall_val (k_impl_encipherWith c key s q hk hs) (by rfl) [(0, 0), (1, 0), (2, 0), (3, 0)] (by simp [CALL, SCB, k_inst, k_ok, e_inst, e_take, e_ok, okL, okV, Cip.bl, Cip.kbl, keysB_take, keyN_len, xorN_len, mixL_len, moveL_len, boxL_len, invL_len, tabL_len]) (by simp [CALL, SCB, k_inst, k_ok, e_inst, e_take, e_ok, okL, okV, Cip.bl, Cip.kbl, keysB_take, keyN_len, xorN_len, mixL_len, moveL_len, boxL_len, invL_len, tabL_len]) (by simp [CALL, SCB, k_inst, k_ok, e_inst, e_take, e_ok, okL, okV, Cip.bl, Cip.kbl, keysB_take, keyN_len, xorN_len, mixL_len, moveL_len, boxL_len, invL_len, tabL_len]) (by simp [okL_bs, okL_room, okL, okV, k_inst, k_ok, e_inst, e_take, e_ok, okL, okV, Cip.bl, Cip.kbl, keysB_take, keyN_len, xorN_len, mixL_len, moveL_len, boxL_len, invL_len, tabL_len]) ?_
  simp (config := { maxSteps := 2000000 }) only [CALL, ↓VC, VP, TT, Nat.reduceEqDiff, reduceCtorEq, Nat.reduceAdd, Nat.reduceSub, Nat.reduceLT, Nat.reduceMul, Nat.reducePow, Nat.reduceLeDiff, Int.reduceToNat, Int.reduceLE, Int.reduceLT, Int.reducePow, GOB, Cip.bl, Cip.kbl, e_inst0, e_inst, xorN_len, mixL_len, moveL_len, boxL_len, invL_len, enc_len]
  refine ⟨_, _, [0, 1, 2, 3], ⟨rfl, rfl⟩, ?_⟩
  simp [-List.reduceReplicate, LES, e_ren, e_ok]
theorem k_decipher (c : Cip) (key s : List UInt8) (q : Nat) (hk : key.length = 16) (hs : s.length = 16) : LC Tryz.prog 174 [c.kd q, .a (bs s)] (c.kbl false key q) (fun v hp => v = .a (bs (c.dec key s)) ∧ hp = c.kbl false key q) := by
  unfold Cip.kbl Cip.kd
  refine LC_of (X := XX (fun _ => .nil) (fun _ => []) [15, 71, 72, 73, 79, 80, 87, 90, 91, 93, 99, 119, 137, 176, 177, 203, 204, 212, 219] 4) envOK Tryz.func174 (by kernel_rfl) (by kernel_rfl) rfl (Nat.le_of_ble_eq_true (by kernel_rfl)) ?_
  simp only [kFun, Tryz.f174, List.length_nil, List.length_cons, Nat.sub_zero, Nat.reduceSub, Nat.reduceAdd, List.nil_append, List.cons_append, List.replicate_succ, List.replicate_zero]
  simp only [XX, ↓VC, VP, TT, Nat.reduceEqDiff, reduceCtorEq, Nat.reduceAdd, Nat.reduceSub, Nat.reduceLT, Nat.reduceMul, Nat.reducePow, Nat.reduceLeDiff, Int.reduceToNat, Int.reduceLE, Int.reduceLT, Int.reducePow, hs]
  refine kCall_val (k_decipherWith c key s q hk hs) (by rfl) [(0, 0), (1, 0), (2, 0), (3, 0)] (by simp [CALL, SCB, k_inst, k_ok, e_inst, e_take, e_ok, okL, okV, Cip.bl, Cip.kbl, keysB_take, keyN_len, xorN_len, mixL_len, moveL_len, boxL_len, invL_len, tabL_len]) (by simp [CALL, SCB, k_inst, k_ok, e_inst, e_take, e_ok, okL, okV, Cip.bl, Cip.kbl, keysB_take, keyN_len, xorN_len, mixL_len, moveL_len, boxL_len, invL_len, tabL_len]) (by simp [CALL, SCB, k_inst, k_ok, e_inst, e_take, e_ok, okL, okV, Cip.bl, Cip.kbl, keysB_take, keyN_len, xorN_len, mixL_len, moveL_len, boxL_len, invL_len, tabL_len]) (by simp [okL_bs, okL_room, okL, okV, k_inst, k_ok, e_inst, e_take, e_ok, okL, okV, Cip.bl, Cip.kbl, keysB_take, keyN_len, xorN_len, mixL_len, moveL_len, boxL_len, invL_len, tabL_len]) ?_
  simp (config := { maxSteps := 2000000 }) only [CALL, ↓VC, VP, TT, Nat.reduceEqDiff, reduceCtorEq, Nat.reduceAdd, Nat.reduceSub, Nat.reduceLT, Nat.reduceMul, Nat.reducePow, Nat.reduceLeDiff, Int.reduceToNat, Int.reduceLE, Int.reduceLT, Int.reducePow, GOB, Cip.bl, Cip.kbl, e_inst0, e_inst, xorN_len, mixL_len, moveL_len, boxL_len, invL_len, dec_len]
  refine ⟨_, _, [0, 1, 2, 3], ⟨rfl, rfl⟩, ?_⟩
  simp [-List.reduceReplicate, LES, e_ren, e_ok]
end Go.Proofs.YtahnjhppkgndiaaGreat

import Derived.Test.YtnlkebkonkdahaaDec
/- Blocks deciphered by the program's engine; a cipher with its keys. -/
set_option linter.unusedSimpArgs false
set_option linter.unusedVariables false
namespace Go.Proofs.Ytnlkebkonkdahaa
open Go Go.Vc
set_option maxRecDepth 10000
set_option maxHeartbeats 4000000
/-- The blocks of a cipher's engine and of its keys. -/
def Cip.kbl (c : Cip) (own : Bool) (key : List UInt8) (q : Nat) : List Blk := [⟨own, c.eng 1 2⟩, ⟨own, bs c.t1⟩, ⟨own, bs c.t2⟩, ⟨own, bs (keysL c.box key (c.n + 1)) ++ List.replicate (16 * q) .j⟩]
/-- A cipher with a key, as the program keeps it. -/
def Cip.kd (c : Cip) (q : Nat) : V := .a [.p 0 0, .s 3 0 (c.n + 1) (c.n + 1 + q)]
theorem keysB_take {l : List UInt8} {q : Nat} : List.take (l.length + q) (bs l ++ List.replicate q V.j) = bs l ++ List.replicate q V.j := by rw [← bs_length l]; exact takeX
theorem keys_take {X : List V} {q : Nat} : List.take (X.length + q) (X ++ List.replicate q V.j) = X ++ List.replicate q V.j := takeX
section
variable {c : Cip} {h1 h2 : Nat} {k : V → Prop}
theorem e_bp : vSub (c.eng h1 h2) 528 16 k = k (.a (bs (invL 16 c.pl 16))) := by
  have h := c.engL
  unfold Cip.eng engC
  rw [vSub_appR (by rw [bs_length, h.b]; omega), bs_length, h.b, vSub_appR (by rw [bs_length, h.bb]; omega), bs_length, h.bb, vSub_appR (by rw [bs_length, h.p]; omega), bs_length, h.p, vSub_app0 (by rw [bs_length, h.bp])]
theorem e_bm : vGet (c.eng h1 h2) 545 k = k (.p h2 0) := by
  have h := c.engL
  unfold Cip.eng engC
  rw [vGet_appR (by rw [bs_length, h.b]; omega), bs_length, h.b, vGet_appR (by rw [bs_length, h.bb]; omega), bs_length, h.bb, vGet_appR (by rw [bs_length, h.p]; omega), bs_length, h.p, vGet_appR (by rw [bs_length, h.bp]; omega), bs_length, h.bp]
  simp [vGet]
theorem e_bb (u : UInt8) : vGet (c.eng h1 h2) (256 + u.toNat) k = k (.c (.int .u8 (((invL 256 c.box 256).getD u.toNat 0).toNat : Int))) := by
  have h := c.engL
  have := u.toNat_lt
  unfold Cip.eng engC
  rw [vGet_appR (by rw [bs_length, h.b]; omega), bs_length, h.b, vGet_appL (by rw [bs_length, h.bb]; omega), show 256 + u.toNat - 256 = u.toNat by omega, vGet_bs, h.bb]; simp; omega
end
theorem t2_len (c : Cip) : c.t2.length = 4096 := tabL_len _ _
theorem k_mix2 (c : Cip) (s : List UInt8) (hs : s.length = 16) : LC Try.prog 134 [.p 0 0, .s 1 0 16 16] [⟨false, bs c.t2⟩, ⟨true, bs s⟩]
    (RetM (fun _ : Unit => True) fun _ => (.t [], [⟨false, bs c.t2⟩, ⟨true, bs (mixL 16 c.m (backL c.m c.A) s)⟩], [])) := c_mix c.m (backL c.m c.A) s 16 4 rfl (by omega) hs
theorem k_impl_encipherWith (c : Cip) (key s : List UInt8) (q : Nat) (hk : key.length = 16) (hs : s.length = 16) : LC Try.prog 111 [.p 0 0, .s 3 0 (c.n + 1) (c.n + 1 + q), .a (bs s)] (c.kbl false key q) (fun v hp => v = .a (bs (c.enc key s)) ∧ hp = c.kbl false key q) :=
  c_encipherWith c.m c.box _ c.pl _ c.A _ key s c.n c.n q (by have := c.hn; omega) c.engL c.hA c.hpl hk hs
theorem k_impl_keys (c : Cip) (key : List UInt8) (hk : key.length = 16) : LC Try.prog 78 [.p 0 0, .a (bs key), .c (.int .i64 (c.n))] (c.bl false) (Ret (c.bl false) (fun _ : Nat => True) fun r => (.s 3 0 (c.n + 1) (c.n + 1 + r), [⟨true, bs (keysL c.box key (c.n + 1)) ++ List.replicate (16 * r) .j⟩])) :=
  c_impl_keys c.box _ c.pl _ c.t1 c.t2 key c.n c.n (by have := c.hn; omega) c.engL hk
theorem k_newKeyed (c : Cip) (key : List UInt8) (hk : key.length = 16) : LC Try.prog 55 [.a c.cells, .a (bs key)] [] (Ret [] (fun _ : Nat => True) fun q => (c.kd q, c.kbl true key q)) := by
  refine LC_of (X := XX (fun _ => .nil) (fun _ => []) [23, 35, 36, 47, 61, 66, 104, 105, 128, 129, 134, 138, 139, 146] 0) envOK Try.func55 (by kernel_rfl) (by kernel_rfl) rfl (Nat.le_of_ble_eq_true (by kernel_rfl)) ?_
  simp only [kFun, Try.f55, List.length_nil, List.length_cons, Nat.sub_zero, Nat.reduceSub, Nat.reduceAdd, List.nil_append, List.cons_append, List.replicate_succ, List.replicate_zero]
  simp only [XX, ↓VC, VP, TT, List.getElem?_toArray, Nat.reduceEqDiff, reduceCtorEq, Nat.reduceAdd, Nat.reduceSub, Nat.reduceLT, Nat.reduceMul, Nat.reducePow, Nat.reduceLeDiff, Int.reduceToNat, Int.reduceLE, Int.reduceLT, Int.reducePow, hk, k_len, ↓k_all, ↓k_rd]
  refine kCall_Ret (k_newEngine c) (by rfl) [] (by simp [CALL, cellsAt, tk, take_room, bs_length, bs_nil, k_inst, k_ok, e_inst, e_take, e_ok, okL, okV, Cip.bl, Cip.kbl, keysB_take, keyN_len, xorN_len, mixL_len, moveL_len, boxL_len, invL_len, tabL_len]) (by simp [CALL, cellsAt, tk, take_room, bs_length, bs_nil, k_inst, k_ok, e_inst, e_take, e_ok, okL, okV, Cip.bl, Cip.kbl, keysB_take, keyN_len, xorN_len, mixL_len, moveL_len, boxL_len, invL_len, tabL_len]) (by simp [CALL, cellsAt, tk, take_room, bs_length, bs_nil, k_inst, k_ok, e_inst, e_take, e_ok, okL, okV, Cip.bl, Cip.kbl, keysB_take, keyN_len, xorN_len, mixL_len, moveL_len, boxL_len, invL_len, tabL_len]) (by simp [okL_bs, okL_room, okL, okV, k_inst, k_ok, e_inst, e_take, e_ok, okL, okV, Cip.bl, Cip.kbl, keysB_take, keyN_len, xorN_len, mixL_len, moveL_len, boxL_len, invL_len, tabL_len]) (by simp [CALL, cellsAt, tk, take_room, bs_length, bs_nil, k_inst, k_ok, e_inst, e_take, e_ok, okL, okV, Cip.bl, Cip.kbl, keysB_take, keyN_len, xorN_len, mixL_len, moveL_len, boxL_len, invL_len, tabL_len]) fun _ _ => ?_
  simp (config := { maxSteps := 2000000 }) only [CALL, ↓VC, VP, TT, List.getElem?_toArray, Nat.reduceEqDiff, reduceCtorEq, Nat.reduceAdd, Nat.reduceSub, Nat.reduceLT, Nat.reduceMul, Nat.reducePow, Nat.reduceLeDiff, Int.reduceToNat, Int.reduceLE, Int.reduceLT, Int.reducePow, instL_room, Bool.not_true, Bool.not_false, Cip.bl, Cip.kbl, e_inst0, e_inst, xorN_len, mixL_len, moveL_len, boxL_len, invL_len, ↓k_rd, hk]
  refine kCall_Ret (k_impl_keys c key hk) (by rfl) [(3, 0), (4, 0), (5, 0)] (by simp [CALL, cellsAt, tk, take_room, bs_length, bs_nil, k_inst, k_ok, e_inst, e_take, e_ok, okL, okV, Cip.bl, Cip.kbl, keysB_take, keyN_len, xorN_len, mixL_len, moveL_len, boxL_len, invL_len, tabL_len]) (by simp [CALL, cellsAt, tk, take_room, bs_length, bs_nil, k_inst, k_ok, e_inst, e_take, e_ok, okL, okV, Cip.bl, Cip.kbl, keysB_take, keyN_len, xorN_len, mixL_len, moveL_len, boxL_len, invL_len, tabL_len]) (by simp [CALL, cellsAt, tk, take_room, bs_length, bs_nil, k_inst, k_ok, e_inst, e_take, e_ok, okL, okV, Cip.bl, Cip.kbl, keysB_take, keyN_len, xorN_len, mixL_len, moveL_len, boxL_len, invL_len, tabL_len]) (by simp [okL_bs, okL_room, okL, okV, k_inst, k_ok, e_inst, e_take, e_ok, okL, okV, Cip.bl, Cip.kbl, keysB_take, keyN_len, xorN_len, mixL_len, moveL_len, boxL_len, invL_len, tabL_len]) (by simp [CALL, cellsAt, tk, take_room, bs_length, bs_nil, k_inst, k_ok, e_inst, e_take, e_ok, okL, okV, Cip.bl, Cip.kbl, keysB_take, keyN_len, xorN_len, mixL_len, moveL_len, boxL_len, invL_len, tabL_len]) fun q _ => ?_
  simp (config := { maxSteps := 2000000 }) only [CALL, ↓VC, VP, TT, List.getElem?_toArray, Nat.reduceEqDiff, reduceCtorEq, Nat.reduceAdd, Nat.reduceSub, Nat.reduceLT, Nat.reduceMul, Nat.reducePow, Nat.reduceLeDiff, Int.reduceToNat, Int.reduceLE, Int.reduceLT, Int.reducePow, instL_room, Bool.not_true, Bool.not_false, Cip.bl, Cip.kbl, e_inst0, e_inst, xorN_len, mixL_len, moveL_len, boxL_len, invL_len, hk]
  refine ⟨by intro f hf; simp only [List.mem_cons, List.not_mem_nil, or_false] at hf; rcases hf with rfl | rfl <;> rfl, _, _, [3, 4, 5, 6], ⟨q, trivial, rfl, rfl⟩, ?_⟩
  simp [-List.reduceReplicate, LES, e_ren, e_ok, Cip.kd]
theorem k_encipher (c : Cip) (key s : List UInt8) (q : Nat) (hk : key.length = 16) (hs : s.length = 16) : LC Try.prog 79 [c.kd q, .a (bs s)] (c.kbl false key q) (fun v hp => v = .a (bs (c.enc key s)) ∧ hp = c.kbl false key q) := by
  unfold Cip.kbl Cip.kd
  refine LC_of (X := XX (fun _ => .nil) (fun _ => []) [23, 35, 36, 47, 61, 66, 104, 105, 128, 129, 134, 138, 139, 146] 4) envOK Try.func79 (by kernel_rfl) (by kernel_rfl) rfl (Nat.le_of_ble_eq_true (by kernel_rfl)) ?_
  simp only [kFun, Try.f79, List.length_nil, List.length_cons, Nat.sub_zero, Nat.reduceSub, Nat.reduceAdd, List.nil_append, List.cons_append, List.replicate_succ, List.replicate_zero]
  simp only [XX, ↓VC, VP, TT, List.getElem?_toArray, Nat.reduceEqDiff, reduceCtorEq, Nat.reduceAdd, Nat.reduceSub, Nat.reduceLT, Nat.reduceMul, Nat.reducePow, Nat.reduceLeDiff, Int.reduceToNat, Int.reduceLE, Int.reduceLT, Int.reducePow, hs]
  refine kCall_val (k_impl_encipherWith c key s q hk hs) (by rfl) [(0, 0), (1, 0), (2, 0), (3, 0)] (by simp [CALL, cellsAt, tk, take_room, bs_length, bs_nil, k_inst, k_ok, e_inst, e_take, e_ok, okL, okV, Cip.bl, Cip.kbl, keysB_take, keyN_len, xorN_len, mixL_len, moveL_len, boxL_len, invL_len, tabL_len]) (by simp [CALL, cellsAt, tk, take_room, bs_length, bs_nil, k_inst, k_ok, e_inst, e_take, e_ok, okL, okV, Cip.bl, Cip.kbl, keysB_take, keyN_len, xorN_len, mixL_len, moveL_len, boxL_len, invL_len, tabL_len]) (by simp [CALL, cellsAt, tk, take_room, bs_length, bs_nil, k_inst, k_ok, e_inst, e_take, e_ok, okL, okV, Cip.bl, Cip.kbl, keysB_take, keyN_len, xorN_len, mixL_len, moveL_len, boxL_len, invL_len, tabL_len]) (by simp [okL_bs, okL_room, okL, okV, k_inst, k_ok, e_inst, e_take, e_ok, okL, okV, Cip.bl, Cip.kbl, keysB_take, keyN_len, xorN_len, mixL_len, moveL_len, boxL_len, invL_len, tabL_len]) ?_
  simp (config := { maxSteps := 2000000 }) only [CALL, ↓VC, VP, TT, List.getElem?_toArray, Nat.reduceEqDiff, reduceCtorEq, Nat.reduceAdd, Nat.reduceSub, Nat.reduceLT, Nat.reduceMul, Nat.reducePow, Nat.reduceLeDiff, Int.reduceToNat, Int.reduceLE, Int.reduceLT, Int.reducePow, instL_room, Bool.not_true, Bool.not_false, Cip.bl, Cip.kbl, e_inst0, e_inst, xorN_len, mixL_len, moveL_len, boxL_len, invL_len, enc_len]
  refine ⟨_, _, [0, 1, 2, 3], ⟨rfl, rfl⟩, ?_⟩
  simp [-List.reduceReplicate, LES, e_ren, e_ok]
end Go.Proofs.Ytnlkebkonkdahaa

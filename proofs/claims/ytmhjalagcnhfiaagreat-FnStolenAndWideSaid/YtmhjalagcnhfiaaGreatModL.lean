import Derived.Test.YtmhjalagcnhfiaaGreatModK
import Derived.Test.YtmhjalagcnhfiaaGreatConcatB
/- Stealing: the program and the reference decipher. -/
set_option linter.unusedSimpArgs false
set_option linter.unusedVariables false
namespace Go.Proofs.YtmhjalagcnhfiaaGreat
open Go Go.Vc
set_option maxRecDepth 10000
set_option maxHeartbeats 4000000
/-- The last block's first bytes before the block of the deciphered one. -/
def befB (r : Nat) (tail mixed : List UInt8) : List UInt8 := tab 16 fun j => if j < r then tail.getD j 0 else mixed.getD j 0
theorem befB_len (r : Nat) (a b : List UInt8) : (befB r a b).length = 16 := tab_len _ _
theorem parts_blk {l : List UInt8} {m r : Nat} (hl : l.length = 16 * (m + 1) + r) (hr : 1 ≤ r ∧ r ≤ 16) : (partsL l (m + 2)).take (16 * m) = l.take (16 * m) ∧ ((partsL l (m + 2)).drop (16 * m)).take 16 = (l.drop (16 * m)).take 16 ∧ ((partsL l (m + 2)).drop (16 * (m + 1))).take 16 = fillB (l.drop (16 * (m + 1))) := by
  rw [parts_zero hl hr]
  refine ⟨List.take_append_of_le_length (by omega), ?_, ?_⟩
  · rw [List.drop_append_of_le_length (by omega), List.take_append_of_le_length (by rw [List.length_drop]; omega)]
  · rw [List.drop_append_of_le_length (by omega), List.take_of_length_le (by simp only [List.length_append, List.length_drop, List.length_replicate]; omega), fillB_app (by rw [List.length_drop]; omega), List.length_drop]
    congr 2; omega
theorem spl_two {C F : List UInt8} {m : Nat} (h : C.length = 16 * (m + 2)) (hF : F.length = 16) : splB (splB C (16 * (m + 1)) ((C.drop (16 * m)).take 16)) (16 * m) F = C.take (16 * m) ++ (F ++ (C.drop (16 * m)).take 16) := by
  obtain ⟨X, B, A, rfl, hX, hB, hA⟩ := three h
  have e1 : List.drop (16 * m) (X ++ (B ++ A)) = B ++ A := List.drop_left' hX
  have e3 : List.take 16 (B ++ A) = B := List.take_left' hB
  have e5 : List.take (16 * m) (X ++ (B ++ A)) = X := List.take_left' hX
  have e6 : List.take (16 * (m + 1)) (X ++ (B ++ A)) = X ++ B := by rw [← List.append_assoc]; exact List.take_left' (by rw [List.length_append]; omega)
  have e7 : splB (X ++ (B ++ A)) (16 * (m + 1)) B = X ++ (B ++ B) := by
    unfold splB
    rw [e6, hB, List.drop_eq_nil_of_le (by simp only [List.length_append]; omega), List.append_nil, List.append_assoc]
  rw [e1, e3, e5, e7]
  unfold splB
  rw [List.take_left' hX, hF, ← List.append_assoc X B B, List.drop_left' (by rw [List.length_append]; omega), List.append_assoc]
theorem bef_spl {T M : List UInt8} (hT : T.length ≤ 16) (hM : M.length = 16) : splB M 0 T = befB T.length (fillB T) M := by
  refine ext_getD (n := 16) (by rw [splB_length (by omega)]; exact hM) (befB_len _ _ _) fun j hj => ?_
  unfold befB
  rw [map_getD hj, fillB_get hj]
  unfold splB
  simp only [List.take_zero, List.nil_append, Nat.zero_add, List.getD_eq_getElem?_getD]
  split
  · rw [List.getElem?_append_left (by assumption)]
  · rw [List.getElem?_append_right (by omega), List.getElem?_drop]; congr 2; omega
theorem blkB_load2 {P : List UInt8} {i : Nat} {k : V → Prop} (h : 16 * i + 16 ≤ P.length) : vSub (bs P) (16 * i) 16 k = k (.a (bs ((P.drop (16 * i)).take 16))) := by
  rw [show 16 * i = i * 16 from Nat.mul_comm _ _, blkB_load h, Nat.mul_comm]
def Cip.mixL (c : Cip) (key l : List UInt8) (m : Nat) : List UInt8 :=
  let P := partsL l (m + 2)
  splB (splB P (16 * (m + 1)) ((P.drop (16 * m)).take 16)) (16 * m) (befB (l.length - 16 * (m + 1)) ((P.drop (16 * (m + 1))).take 16) (c.dec key ((P.drop (16 * m)).take 16)))
def Cip.unsteal (c : Cip) (key start l : List UInt8) : List UInt8 := (unchL (c.dec key) start (c.mixL key l ((l.length + 15) / 16 - 2)) ((l.length + 15) / 16)).take l.length
theorem fl_from {f0 g : Nat → UInt8} {n r : Nat} (h : ∀ j, j < r → g j = f0 j) : fl n f0 g r = tab n f0 := by
  unfold fl tab
  refine List.map_congr_left fun j _ => ?_
  split
  · exact h j (by assumption)
  · rfl
theorem c_spec_StealDecipher_bad (z n : Int) (box A pl key start l : List UInt8) (q : Nat) (hb : box.length = 256) (hA : A.length = 16) (hp : pl.length = 16) (hkey : key.length = 16) (hstart : start.length = 16) (hE : modE z box A pl n l.length 17 2000 ≠ 0) : LC Tryz.prog 28 [.a (cipC z box A pl n), .a (bs key), .a (bs start), .s 0 0 l.length q] [⟨false, bs l⟩]
    (Ret [⟨false, bs l⟩] (fun _ : Unit => True) fun _ => (.t [.c (.slice none 0 0), .c (.int .i64 (modE z box A pl n l.length 17 2000))], [])) := by
  refine LC_of (X := XX (fun | 6 => .one 0 (.one 1 (.one 2 (.one 3 (.one 4 (.one 5 (.one 6 (.one 7 (.one 8 (.one 9 (.one 10 (.one 11 .nil))))))))))) | _ => .nil) (fun | 6 => [(10, 14)] | _ => []) [42, 74, 94, 95, 96, 97, 111, 117, 118, 129, 130, 141] 1) envOK Tryz.func28 (by kernel_rfl) (by kernel_rfl) rfl (Nat.le_of_ble_eq_true (by kernel_rfl)) ?_
  simp only [kFun, Tryz.f28, List.length_nil, List.length_cons, Nat.sub_zero, Nat.reduceSub, Nat.reduceAdd, List.nil_append, List.cons_append, List.replicate_succ, List.replicate_zero]
  simp only [XX, ↓VC, VP, TT, List.getElem?_toArray, Nat.reduceEqDiff, reduceCtorEq, Nat.reduceAdd, Nat.reduceSub, Nat.reduceLT, Nat.reduceMul, Nat.reducePow, Nat.reduceLeDiff, Int.reduceToNat, Int.reduceLE, Int.reduceLT, Int.reducePow, cipC_len hb hA hp, ↓cip_all hb hA hp, hkey, hstart]
  refine kCall_val (c_spec_l07Code z n box A pl hb hA hp l.length 17 2000) (by rfl) [] (by simp [CALL, cellsAt, tk, take_room, bs_length, bs_nil, MB, okL, okV, Cip.bl, Cip.kbl, Cip.kd]) (by simp [CALL, cellsAt, tk, take_room, bs_length, bs_nil, MB, okL, okV, Cip.bl, Cip.kbl, Cip.kd]) (by simp [CALL, cellsAt, tk, take_room, bs_length, bs_nil, MB, okL, okV, Cip.bl, Cip.kbl, Cip.kd]) (by simp [okL_bs, okL_room, okL, okV, MB, okL, okV, Cip.bl, Cip.kbl, Cip.kd]) ?_
  simp (config := { maxSteps := 2000000 }) only [CALL, ↓VC, VP, TT, List.getElem?_toArray, Nat.reduceEqDiff, reduceCtorEq, Nat.reduceAdd, Nat.reduceSub, Nat.reduceLT, Nat.reduceMul, Nat.reducePow, Nat.reduceLeDiff, Int.reduceToNat, Int.reduceLE, Int.reduceLT, Int.reducePow, instL_room, Bool.not_true, Bool.not_false, Cip.bl, Cip.kbl, Cip.kd, e_inst0, e_inst, k_len, ↓k_all, ↓k_rd, enc_len, xorN_len]
  refine ⟨fun _ => ⟨_, _, [0], ⟨(), trivial, rfl, rfl⟩, ?_⟩, fun h => absurd (bne_eq_false_iff_eq.1 h) hE⟩
  simp [-List.reduceReplicate, LES]
theorem c_impl_StealDecipher_bad (z n : Int) (box A pl key start l : List UInt8) (q : Nat) (hb : box.length = 256) (hA : A.length = 16) (hp : pl.length = 16) (hkey : key.length = 16) (hstart : start.length = 16) (hE : modE z box A pl n l.length 17 2000 ≠ 0) : LC Tryz.prog 26 [.a (cipC z box A pl n), .a (bs key), .a (bs start), .s 0 0 l.length q] [⟨false, bs l⟩]
    (Ret [⟨false, bs l⟩] (fun _ : Unit => True) fun _ => (.t [.c (.slice none 0 0), .c (.int .i64 (modE z box A pl n l.length 17 2000))], [])) := by
  refine LC_of (X := XX (fun | 8 => .one 0 (.one 1 (.one 2 (.one 3 (.one 4 .nil)))) | 9 => .one 0 (.one 1 (.one 2 (.one 3 (.one 4 (.one 5 (.one 6 (.one 7 (.one 8 (.one 9 (.one 10 (.one 11 .nil))))))))))) | _ => .nil) (fun _ => []) [42, 74, 94, 95, 96, 97, 111, 117, 118, 129, 130, 141] 1) envOK Tryz.func26 (by kernel_rfl) (by kernel_rfl) rfl (Nat.le_of_ble_eq_true (by kernel_rfl)) ?_
  simp only [kFun, Tryz.f26, List.length_nil, List.length_cons, Nat.sub_zero, Nat.reduceSub, Nat.reduceAdd, List.nil_append, List.cons_append, List.replicate_succ, List.replicate_zero]
  simp only [XX, ↓VC, VP, TT, List.getElem?_toArray, Nat.reduceEqDiff, reduceCtorEq, Nat.reduceAdd, Nat.reduceSub, Nat.reduceLT, Nat.reduceMul, Nat.reducePow, Nat.reduceLeDiff, Int.reduceToNat, Int.reduceLE, Int.reduceLT, Int.reducePow, cipC_len hb hA hp, ↓cip_all hb hA hp, hkey, hstart]
  refine kCall_val (c_impl_checkMode z n box A pl l q hb hA hp 17 2000) (by rfl) [(0, 0)] (by simp [CALL, cellsAt, tk, take_room, bs_length, bs_nil, MB, okL, okV, Cip.bl, Cip.kbl, Cip.kd]) (by simp [CALL, cellsAt, tk, take_room, bs_length, bs_nil, MB, okL, okV, Cip.bl, Cip.kbl, Cip.kd]) (by simp [CALL, cellsAt, tk, take_room, bs_length, bs_nil, MB, okL, okV, Cip.bl, Cip.kbl, Cip.kd]) (by simp [okL_bs, okL_room, okL, okV, MB, okL, okV, Cip.bl, Cip.kbl, Cip.kd]) ?_
  simp (config := { maxSteps := 2000000 }) only [CALL, ↓VC, VP, TT, List.getElem?_toArray, Nat.reduceEqDiff, reduceCtorEq, Nat.reduceAdd, Nat.reduceSub, Nat.reduceLT, Nat.reduceMul, Nat.reducePow, Nat.reduceLeDiff, Int.reduceToNat, Int.reduceLE, Int.reduceLT, Int.reducePow, instL_room, Bool.not_true, Bool.not_false, Cip.bl, Cip.kbl, Cip.kd, e_inst0, e_inst, k_len, ↓k_all, ↓k_rd, enc_len, xorN_len]
  refine ⟨fun _ => ⟨_, _, [0], ⟨(), trivial, rfl, rfl⟩, ?_⟩, fun h => absurd (bne_eq_false_iff_eq.1 h) hE⟩
  simp [-List.reduceReplicate, LES]
theorem c_spec_StealDecipher_t (c : Cip) (key start l : List UInt8) (q : Nat) (hkey : key.length = 16) (hstart : start.length = 16) (hq : l.length ≤ q) (h : 17 ≤ l.length ∧ l.length ≤ 2000) : LC Tryz.prog 28 [.a c.cells, .a (bs key), .a (bs start), .s 0 0 l.length q] [⟨false, bs l⟩]
    (Ret [⟨false, bs l⟩] (fun _ : List UInt8 × Nat => True) fun x => (.t [.s 1 0 (c.unsteal key start l).length ((c.unsteal key start l).length + (x.1.length + x.2)), .c (.int .i64 (0))], [⟨true, bs ((c.unsteal key start l) ++ x.1) ++ List.replicate x.2 .j⟩])) := by
  refine LC_of (X := XX (fun | 6 => .one 0 (.one 1 (.one 2 (.one 3 (.one 4 (.one 5 (.one 6 (.one 7 (.one 8 (.one 9 (.one 10 (.one 11 .nil))))))))))) | _ => .nil) (fun | 6 => [(10, 14)] | _ => []) [42, 74, 94, 95, 96, 97, 111, 117, 118, 129, 130, 141] 1) envOK Tryz.func28 (by kernel_rfl) (by kernel_rfl) rfl (Nat.le_of_ble_eq_true (by kernel_rfl)) ?_
  simp only [kFun, Tryz.f28, List.length_nil, List.length_cons, Nat.sub_zero, Nat.reduceSub, Nat.reduceAdd, List.nil_append, List.cons_append, List.replicate_succ, List.replicate_zero]
  simp only [XX, ↓VC, VP, TT, List.getElem?_toArray, Nat.reduceEqDiff, reduceCtorEq, Nat.reduceAdd, Nat.reduceSub, Nat.reduceLT, Nat.reduceMul, Nat.reducePow, Nat.reduceLeDiff, Int.reduceToNat, Int.reduceLE, Int.reduceLT, Int.reducePow, k_len, ↓k_all, hkey, hstart]
  refine kCall_val (k_spec_code c h) (by rfl) [] (by simp [CALL, cellsAt, tk, take_room, bs_length, bs_nil, MB, okL, okV, Cip.bl, Cip.kbl, Cip.kd]) (by simp [CALL, cellsAt, tk, take_room, bs_length, bs_nil, MB, okL, okV, Cip.bl, Cip.kbl, Cip.kd]) (by simp [CALL, cellsAt, tk, take_room, bs_length, bs_nil, MB, okL, okV, Cip.bl, Cip.kbl, Cip.kd]) (by simp [okL_bs, okL_room, okL, okV, MB, okL, okV, Cip.bl, Cip.kbl, Cip.kd]) ?_
  simp (config := { maxSteps := 2000000 }) only [CALL, ↓VC, VP, TT, List.getElem?_toArray, Nat.reduceEqDiff, reduceCtorEq, Nat.reduceAdd, Nat.reduceSub, Nat.reduceLT, Nat.reduceMul, Nat.reducePow, Nat.reduceLeDiff, Int.reduceToNat, Int.reduceLE, Int.reduceLT, Int.reducePow, instL_room, Bool.not_true, Bool.not_false, Cip.bl, Cip.kbl, Cip.kd, e_inst0, e_inst, k_len, ↓k_all, ↓k_rd, enc_len, xorN_len, hkey, hstart, bne_self_eq_false]
  obtain ⟨m, hK⟩ : ∃ m, (l.length + 15) / 16 = m + 2 := ⟨(l.length + 15) / 16 - 2, by omega⟩
  obtain ⟨r, hr⟩ : ∃ r, l.length = 16 * (m + 1) + r := ⟨l.length - 16 * (m + 1), by omega⟩
  have hr2 : 1 ≤ r ∧ r ≤ 16 := by omega
  have e1 : IntKind.i64.wrap (((m + 2 : Nat) : Int) - 1) = ((m + 1 : Nat) : Int) := by rw [wrap_i64 (by omega) (by omega)]; omega
  have e2 : IntKind.i64.wrap (((m + 2 : Nat) : Int) - 2) = (m : Int) := by rw [wrap_i64 (by omega) (by omega)]; omega
  have e3 : IntKind.i64.wrap ((l.length : Int) - 1) = ((l.length - 1 : Nat) : Int) := by rw [wrap_i64 (by omega) (by omega)]; omega
  have e4 : ((l.length - 1 : Nat) : Int).tmod 16 = ((r - 1 : Nat) : Int) := by rw [Int.tmod_eq_emod_of_nonneg (by omega)]; omega
  have e5 : IntKind.i64.wrap (((r - 1 : Nat) : Int) + 1) = (r : Int) := by rw [wrap_i64 (by omega) (by omega)]; omega
  have hS : c.unsteal key start l = (unchL (c.dec key) start (c.mixL key l m) (m + 2)).take l.length := by unfold Cip.unsteal; rw [hK]; rfl
  have hlr : l.length - 16 * (m + 1) = r := by omega
  have hPt := c_spec_l07Parts l q hq (by omega)
  have hpl := partsL_len l (m + 2)
  rw [hK] at hPt
  have hmx : c.mixL key l m = splB (splB (partsL l (m + 2)) (16 * (m + 1)) (((partsL l (m + 2)).drop (16 * m)).take 16)) (16 * m) (befB r (((partsL l (m + 2)).drop (16 * (m + 1))).take 16) (c.dec key (((partsL l (m + 2)).drop (16 * m)).take 16))) := by unfold Cip.mixL; rw [hlr]
  have hB := blkB_len (P := partsL l (m + 2)) (i := m) (by omega)
  have hA := blkB_len (P := partsL l (m + 2)) (i := m + 1) (by omega)
  generalize partsL l (m + 2) = P at *
  generalize hBe : (P.drop (16 * m)).take 16 = B at *
  generalize hAe : (P.drop (16 * (m + 1))).take 16 = A at *
  refine kCall_Ret (hPt) (by rfl) [(0, 0)] (by simp [CALL, cellsAt, tk, take_room, bs_length, bs_nil, MB, okL, okV, Cip.bl, Cip.kbl, Cip.kd]) (by simp [CALL, cellsAt, tk, take_room, bs_length, bs_nil, MB, okL, okV, Cip.bl, Cip.kbl, Cip.kd]) (by simp [CALL, cellsAt, tk, take_room, bs_length, bs_nil, MB, okL, okV, Cip.bl, Cip.kbl, Cip.kd]) (by simp [okL_bs, okL_room, okL, okV, MB, okL, okV, Cip.bl, Cip.kbl, Cip.kd]) (by simp [CALL, cellsAt, tk, take_room, bs_length, bs_nil, MB, okL, okV, Cip.bl, Cip.kbl, Cip.kd]) fun r0 _ => ?_
  simp (config := { maxSteps := 2000000 }) only [CALL, ↓VC, VP, TT, List.getElem?_toArray, Nat.reduceEqDiff, reduceCtorEq, Nat.reduceAdd, Nat.reduceSub, Nat.reduceLT, Nat.reduceMul, Nat.reducePow, Nat.reduceLeDiff, Int.reduceToNat, Int.reduceLE, Int.reduceLT, Int.reducePow, instL_room, Bool.not_true, Bool.not_false, Cip.bl, Cip.kbl, Cip.kd, e_inst0, e_inst, k_len, ↓k_all, ↓k_rd, enc_len, xorN_len, hkey, hstart, e1, e2, e3, e4, e5, ↓blkR_load (P := P) (i := m) (by omega), hBe, hB]
  refine ⟨by omega, by omega, ?_⟩
  refine kCall_val (k_spec_decipher c key B hkey hB) (by rfl) [] (by simp [CALL, cellsAt, tk, take_room, bs_length, bs_nil, MB, okL, okV, Cip.bl, Cip.kbl, Cip.kd]) (by simp [CALL, cellsAt, tk, take_room, bs_length, bs_nil, MB, okL, okV, Cip.bl, Cip.kbl, Cip.kd]) (by simp [CALL, cellsAt, tk, take_room, bs_length, bs_nil, MB, okL, okV, Cip.bl, Cip.kbl, Cip.kd]) (by simp [okL_bs, okL_room, okL, okV, MB, okL, okV, Cip.bl, Cip.kbl, Cip.kd]) ?_
  simp (config := { maxSteps := 2000000 }) only [CALL, ↓VC, VP, TT, List.getElem?_toArray, Nat.reduceEqDiff, reduceCtorEq, Nat.reduceAdd, Nat.reduceSub, Nat.reduceLT, Nat.reduceMul, Nat.reducePow, Nat.reduceLeDiff, Int.reduceToNat, Int.reduceLE, Int.reduceLT, Int.reducePow, instL_room, Bool.not_true, Bool.not_false, Cip.bl, Cip.kbl, Cip.kd, e_inst0, e_inst, k_len, ↓k_all, ↓k_rd, enc_len, xorN_len, hkey, hstart, e1, e2, dec_len, ↓blkR_load (P := P) (i := m + 1) (by omega), hAe, hA]
  refine ⟨by omega, ?_⟩
  have hM := dec_len c key B
  generalize c.dec key B = M at *
  refine kLoop_of (fun i : Nat => ([.j, .j, .j, .s 0 0 l.length q, .p 1 0, .p 2 0, .p 3 0, .j, .j, .j, .j, .s 4 0 (m + 2) (m + 2 + r0), .c (.int .i64 ((m + 2 : Nat))), .j, .p 5 0, .p 6 0, .c (.int .i64 (i)), .j, .j, .j, .j, .j, .j, .j, .j, .j, .j, .j, .j, .j, .j, .j, .j, .j, .j, .j, .j, .j, .j, .j, .j, .j, .j, .j, .j, .j, .j, .j, .j, .j, .j, .j, .j, .j, .j, .j, .j, .j, .j, .j, .j, .j, .j, .j, .j, .j, .j, .j, .j, .j, .j, .j, .j, .j, .j, .j, .j, .j, .j, .j, .j], [⟨false, bs l⟩, ⟨true, c.cells⟩, ⟨true, bs key⟩, ⟨true, bs start⟩, ⟨true, bs P ++ List.replicate (16 * r0) .j⟩, ⟨true, bs M⟩, ⟨true, bs (fl 16 (fun j => A.getD j 0) (fun j => if j < r then A.getD j 0 else M.getD j 0) i)⟩])) (fun i => 16 - i) (fun i => r ≤ i ∧ i ≤ 16) r (by omega) ⟨[0, 1, 2, 3, 4, 5, 6], by rw [fl_from (fun j hj => if_pos hj), range_getD hA]; simp [-List.reduceReplicate, LES, k_ren, k_ok]⟩ ?_
  rintro i ⟨hi0, hi⟩
  rcases Nat.lt_or_ge i 16 with h1 | h1
  · simp only [↓VC, VP, TT, List.getElem?_toArray, Nat.reduceEqDiff, reduceCtorEq, Nat.reduceAdd, Nat.reduceSub, Nat.reduceLT, Nat.reduceMul, Nat.reducePow, Nat.reduceLeDiff, Int.reduceToNat, Int.reduceLE, Int.reduceLT, Int.reducePow, h1, (eq_true (by omega) : ((i : Int) < 16) = True), (eq_true (by omega) : ((i : Int) < ((16 : Nat) : Int)) = True), wrap_i64 (n := (i : Int) + 1) (by omega) (by omega), decide_true, hM, fl_len]
    refine ⟨i + 1, by omega, by omega, [0, 1, 2, 3, 4, 5, 6], ?_⟩
    rw [fl_set h1 (by rw [if_neg (by omega)])]
    simp [-List.reduceReplicate, LES, k_ren, k_ok]
  obtain rfl : i = 16 := by omega
  rw [fl_done, show (tab 16 fun j => if j < r then A.getD j 0 else M.getD j 0) = befB r A M from rfl]
  have hF := befB_len r A M
  generalize befB r A M = F at *
  have hc1 : (splB P (16 * (m + 1)) B).length = 16 * (m + 2) := by rw [splB_length (by omega)]; exact hpl
  have hc2 : (splB (splB P (16 * (m + 1)) B) (16 * m) F).length = 16 * (m + 2) := by rw [splB_length (by omega)]; exact hc1
  simp only [↓VC, VP, TT, List.getElem?_toArray, Nat.reduceEqDiff, reduceCtorEq, Nat.reduceAdd, Nat.reduceSub, Nat.reduceLT, Nat.reduceMul, Nat.reducePow, Nat.reduceLeDiff, Int.reduceToNat, Int.reduceLE, Int.reduceLT, Int.reducePow, (eq_false (by omega) : (((16 : Nat) : Int) < 16) = False), decide_false]
  simp (config := { maxSteps := 2000000 }) only [CALL, ↓VC, VP, TT, List.getElem?_toArray, Nat.reduceEqDiff, reduceCtorEq, Nat.reduceAdd, Nat.reduceSub, Nat.reduceLT, Nat.reduceMul, Nat.reducePow, Nat.reduceLeDiff, Int.reduceToNat, Int.reduceLE, Int.reduceLT, Int.reducePow, instL_room, Bool.not_true, Bool.not_false, Cip.bl, Cip.kbl, Cip.kd, e_inst0, e_inst, k_len, ↓k_all, ↓k_rd, enc_len, xorN_len, e1, e2, ↓blkR_load (P := P) (i := m) (by omega), hBe, hB, hF, ↓blkR_put (C := P) (B := B) (i := m + 1) (by omega) hB, ↓blkR_put (C := splB P (16 * (m + 1)) B) (B := F) (i := m) (by omega) hF, ↓k_all, k_len, hkey, hstart]
  rw [← hmx] at hc2 ⊢
  generalize c.mixL key l m = X at *
  refine ⟨by omega, by omega, by omega, ?_⟩
  refine kCall_Ret (k_spec_unchain c key start X (m + 2) (m + 2 + r0) hkey hstart hc2 (by omega) (by omega)) (by rfl) [(4, 0)] (by simp [CALL, cellsAt, tk, take_room, bs_length, bs_nil, MB, okL, okV, Cip.bl, Cip.kbl, Cip.kd]) (by simp [CALL, cellsAt, tk, take_room, bs_length, bs_nil, MB, okL, okV, Cip.bl, Cip.kbl, Cip.kd]) (by simp [CALL, cellsAt, tk, take_room, bs_length, bs_nil, MB, okL, okV, Cip.bl, Cip.kbl, Cip.kd]) (by simp [okL_bs, okL_room, okL, okV, MB, okL, okV, Cip.bl, Cip.kbl, Cip.kd]) (by simp [CALL, cellsAt, tk, take_room, bs_length, bs_nil, MB, okL, okV, Cip.bl, Cip.kbl, Cip.kd]) fun r1 _ => ?_
  simp (config := { maxSteps := 2000000 }) only [CALL, ↓VC, VP, TT, List.getElem?_toArray, Nat.reduceEqDiff, reduceCtorEq, Nat.reduceAdd, Nat.reduceSub, Nat.reduceLT, Nat.reduceMul, Nat.reducePow, Nat.reduceLeDiff, Int.reduceToNat, Int.reduceLE, Int.reduceLT, Int.reducePow, instL_room, Bool.not_true, Bool.not_false, Cip.bl, Cip.kbl, Cip.kd, e_inst0, e_inst, k_len, ↓k_all, ↓k_rd, enc_len, xorN_len, hkey, hstart]
  have hul := unchL_len (c.dec key) start X (m + 2)
  generalize unchL (c.dec key) start X (m + 2) = U at *
  refine kCall_Ret (c_spec_l07Join U (m + 2) (m + 2 + r1) hul (by omega) (by omega)) (by rfl) [(7, 0)] (by simp [CALL, cellsAt, tk, take_room, bs_length, bs_nil, MB, okL, okV, Cip.bl, Cip.kbl, Cip.kd]) (by simp [CALL, cellsAt, tk, take_room, bs_length, bs_nil, MB, okL, okV, Cip.bl, Cip.kbl, Cip.kd]) (by simp [CALL, cellsAt, tk, take_room, bs_length, bs_nil, MB, okL, okV, Cip.bl, Cip.kbl, Cip.kd]) (by simp [okL_bs, okL_room, okL, okV, MB, okL, okV, Cip.bl, Cip.kbl, Cip.kd]) (by simp [CALL, cellsAt, tk, take_room, bs_length, bs_nil, MB, okL, okV, Cip.bl, Cip.kbl, Cip.kd]) fun r2 _ => ?_
  simp (config := { maxSteps := 2000000 }) only [CALL, ↓VC, VP, TT, List.getElem?_toArray, Nat.reduceEqDiff, reduceCtorEq, Nat.reduceAdd, Nat.reduceSub, Nat.reduceLT, Nat.reduceMul, Nat.reducePow, Nat.reduceLeDiff, Int.reduceToNat, Int.reduceLE, Int.reduceLT, Int.reducePow, instL_room, Bool.not_true, Bool.not_false, Cip.bl, Cip.kbl, Cip.kd, e_inst0, e_inst, k_len, ↓k_all, ↓k_rd, enc_len, xorN_len, hkey, hstart]
  have hd : (List.take l.length U).length = l.length := by rw [List.length_take]; omega
  have hd2 : (List.drop l.length U).length = 16 * (m + 2) - l.length := by rw [List.length_drop, hul]
  refine ⟨by omega, _, _, [0, 8], ⟨(U.drop l.length, r2), trivial, rfl, rfl⟩, ?_⟩
  simp only [hS, List.take_append_drop, hd, hd2, hul, Nat.sub_zero]
  rw [show l.length + (16 * (m + 2) - l.length + r2) = 16 * (m + 2) + r2 by omega]
  simp [-List.reduceReplicate, LES]
theorem c_spec_StealDecipher_k (c : Cip) (key start l : List UInt8) (q : Nat) (hkey : key.length = 16) (hstart : start.length = 16) (hq : l.length ≤ q) (h : 17 ≤ l.length ∧ l.length ≤ 2000) : LC Tryz.prog 28 [.a c.cells, .a (bs key), .a (bs start), .s 0 0 l.length q] [⟨false, bs l⟩]
    (Ret [⟨false, bs l⟩] (fun _ : Nat => True) fun r => (.t [.s 1 0 (c.unsteal key start l).length ((c.unsteal key start l).length + r), .c (.int .i64 (0))], [⟨true, bs (c.unsteal key start l) ++ List.replicate r .j⟩])) :=
  LC_weak (c_spec_StealDecipher_t c key start l q hkey hstart hq h) fun x _ => ⟨x.1.length + x.2, trivial, rfl, _, _, rfl, rfl, rfl, by simp [bs_length]; omega, fun j v h => weak_bs j v h⟩
theorem c_impl_StealDecipher_k (c : Cip) (key start l : List UInt8) (q : Nat) (hkey : key.length = 16) (hstart : start.length = 16) (hq : l.length ≤ q) (h : 17 ≤ l.length ∧ l.length ≤ 2000) : LC Tryz.prog 26 [.a c.cells, .a (bs key), .a (bs start), .s 0 0 l.length q] [⟨false, bs l⟩]
    (Ret [⟨false, bs l⟩] (fun _ : Nat => True) fun r => (.t [.s 1 0 (c.unsteal key start l).length ((c.unsteal key start l).length + r), .c (.int .i64 (0))], [⟨true, bs (c.unsteal key start l) ++ List.replicate r .j⟩])) := by
  refine LC_of (X := XX (fun | 8 => .one 0 (.one 1 (.one 2 (.one 3 (.one 4 .nil)))) | 9 => .one 0 (.one 1 (.one 2 (.one 3 (.one 4 (.one 5 (.one 6 (.one 7 (.one 8 (.one 9 (.one 10 (.one 11 .nil))))))))))) | _ => .nil) (fun _ => []) [42, 74, 94, 95, 96, 97, 111, 117, 118, 129, 130, 141] 1) envOK Tryz.func26 (by kernel_rfl) (by kernel_rfl) rfl (Nat.le_of_ble_eq_true (by kernel_rfl)) ?_
  simp only [kFun, Tryz.f26, List.length_nil, List.length_cons, Nat.sub_zero, Nat.reduceSub, Nat.reduceAdd, List.nil_append, List.cons_append, List.replicate_succ, List.replicate_zero]
  simp only [XX, ↓VC, VP, TT, List.getElem?_toArray, Nat.reduceEqDiff, reduceCtorEq, Nat.reduceAdd, Nat.reduceSub, Nat.reduceLT, Nat.reduceMul, Nat.reducePow, Nat.reduceLeDiff, Int.reduceToNat, Int.reduceLE, Int.reduceLT, Int.reducePow, k_len, ↓k_all, hkey, hstart]
  refine kCall_val (k_impl_code c q h) (by rfl) [(0, 0)] (by simp [CALL, cellsAt, tk, take_room, bs_length, bs_nil, MB, okL, okV, Cip.bl, Cip.kbl, Cip.kd]) (by simp [CALL, cellsAt, tk, take_room, bs_length, bs_nil, MB, okL, okV, Cip.bl, Cip.kbl, Cip.kd]) (by simp [CALL, cellsAt, tk, take_room, bs_length, bs_nil, MB, okL, okV, Cip.bl, Cip.kbl, Cip.kd]) (by simp [okL_bs, okL_room, okL, okV, MB, okL, okV, Cip.bl, Cip.kbl, Cip.kd]) ?_
  simp (config := { maxSteps := 2000000 }) only [CALL, ↓VC, VP, TT, List.getElem?_toArray, Nat.reduceEqDiff, reduceCtorEq, Nat.reduceAdd, Nat.reduceSub, Nat.reduceLT, Nat.reduceMul, Nat.reducePow, Nat.reduceLeDiff, Int.reduceToNat, Int.reduceLE, Int.reduceLT, Int.reducePow, instL_room, Bool.not_true, Bool.not_false, Cip.bl, Cip.kbl, Cip.kd, e_inst0, e_inst, k_len, ↓k_all, ↓k_rd, enc_len, xorN_len, hkey, hstart, bne_self_eq_false]
  obtain ⟨m, hK⟩ : ∃ m, (l.length + 15) / 16 = m + 2 := ⟨(l.length + 15) / 16 - 2, by omega⟩
  obtain ⟨r, hr⟩ : ∃ r, l.length = 16 * (m + 1) + r := ⟨l.length - 16 * (m + 1), by omega⟩
  have hr2 : 1 ≤ r ∧ r ≤ 16 := by omega
  have e1 : IntKind.i64.wrap (((m + 2 : Nat) : Int) - 1) = ((m + 1 : Nat) : Int) := by rw [wrap_i64 (by omega) (by omega)]; omega
  have e2 : IntKind.i64.wrap (((m + 2 : Nat) : Int) - 2) = (m : Int) := by rw [wrap_i64 (by omega) (by omega)]; omega
  have e3 : IntKind.i64.wrap ((l.length : Int) - 1) = ((l.length - 1 : Nat) : Int) := by rw [wrap_i64 (by omega) (by omega)]; omega
  have e4 : ((l.length - 1 : Nat) : Int).tmod 16 = ((r - 1 : Nat) : Int) := by rw [Int.tmod_eq_emod_of_nonneg (by omega)]; omega
  have e5 : IntKind.i64.wrap (((r - 1 : Nat) : Int) + 1) = (r : Int) := by rw [wrap_i64 (by omega) (by omega)]; omega
  have hS : c.unsteal key start l = (unchL (c.dec key) start (c.mixL key l m) (m + 2)).take l.length := by unfold Cip.unsteal; rw [hK]; rfl
  have hlr : l.length - 16 * (m + 1) = r := by omega
  have e6 : IntKind.i64.wrap (((16 * (m + 1) : Nat) : Int) - 16) = ((16 * m : Nat) : Int) := by rw [wrap_i64 (by omega) (by omega)]; omega
  obtain ⟨hp1, hp2, hp3⟩ := parts_blk hr hr2
  have hpl := partsL_len l (m + 2)
  have hB := blkB_len (P := l) (i := m) (by omega)
  have hmx : c.mixL key l m = l.take (16 * m) ++ (befB r (fillB (l.drop (16 * (m + 1)))) (c.dec key ((l.drop (16 * m)).take 16)) ++ (l.drop (16 * m)).take 16) := by
    unfold Cip.mixL
    simp only
    rw [spl_two hpl (befB_len _ _ _), hp1, hp2, hp3, hlr]
  have hTl : (l.drop (16 * (m + 1))).length = r := by rw [List.length_drop]; omega
  have hXl : (l.take (16 * m)).length = 16 * m := by rw [List.length_take]; omega
  have hX : List.take (16 * m) (bs l) = bs (l.take (16 * m)) := bs_take _ _
  have hT : List.take r (List.drop (16 * (m + 1)) (bs l)) = bs (l.drop (16 * (m + 1))) := by rw [bs_drop, bs_take, List.take_of_length_le (by omega)]
  generalize hBe : (l.drop (16 * m)).take 16 = B at *
  generalize hTe : l.drop (16 * (m + 1)) = T at *
  generalize hXe : l.take (16 * m) = X at *
  refine kCall_Ret (k_newKeyed c key hkey) (by rfl) [] (by simp [CALL, cellsAt, tk, take_room, bs_length, bs_nil, MB, okL, okV, Cip.bl, Cip.kbl, Cip.kd]) (by simp [CALL, cellsAt, tk, take_room, bs_length, bs_nil, MB, okL, okV, Cip.bl, Cip.kbl, Cip.kd]) (by simp [CALL, cellsAt, tk, take_room, bs_length, bs_nil, MB, okL, okV, Cip.bl, Cip.kbl, Cip.kd]) (by simp [okL_bs, okL_room, okL, okV, MB, okL, okV, Cip.bl, Cip.kbl, Cip.kd]) (by simp [CALL, cellsAt, tk, take_room, bs_length, bs_nil, MB, okL, okV, Cip.bl, Cip.kbl, Cip.kd]) fun kq _ => ?_
  simp (config := { maxSteps := 2000000 }) only [CALL, ↓VC, VP, TT, List.getElem?_toArray, Nat.reduceEqDiff, reduceCtorEq, Nat.reduceAdd, Nat.reduceSub, Nat.reduceLT, Nat.reduceMul, Nat.reducePow, Nat.reduceLeDiff, Int.reduceToNat, Int.reduceLE, Int.reduceLT, Int.reducePow, instL_room, Bool.not_true, Bool.not_false, Cip.bl, Cip.kbl, Cip.kd, e_inst0, e_inst, k_len, ↓k_all, ↓k_rd, enc_len, xorN_len, hkey, hstart]
  refine kCall_val (c_impl_lastBytes l q m r hr hr2 (by omega)) (by rfl) [(0, 0)] (by simp [CALL, cellsAt, tk, take_room, bs_length, bs_nil, MB, okL, okV, Cip.bl, Cip.kbl, Cip.kd]) (by simp [CALL, cellsAt, tk, take_room, bs_length, bs_nil, MB, okL, okV, Cip.bl, Cip.kbl, Cip.kd]) (by simp [CALL, cellsAt, tk, take_room, bs_length, bs_nil, MB, okL, okV, Cip.bl, Cip.kbl, Cip.kd]) (by simp [okL_bs, okL_room, okL, okV, MB, okL, okV, Cip.bl, Cip.kbl, Cip.kd]) ?_
  simp (config := { maxSteps := 2000000 }) only [CALL, ↓VC, VP, TT, List.getElem?_toArray, Nat.reduceEqDiff, reduceCtorEq, Nat.reduceAdd, Nat.reduceSub, Nat.reduceLT, Nat.reduceMul, Nat.reducePow, Nat.reduceLeDiff, Int.reduceToNat, Int.reduceLE, Int.reduceLT, Int.reducePow, instL_room, Bool.not_true, Bool.not_false, Cip.bl, Cip.kbl, Cip.kd, e_inst0, e_inst, k_len, ↓k_all, ↓k_rd, enc_len, xorN_len, hkey, hstart, e6, ↓blkB_load2 (P := l) (i := m) (by omega), hBe, hB]
  refine ⟨by omega, by omega, by omega, by omega, ?_⟩
  have hM := dec_len c key B
  generalize hMe : c.dec key B = M at *
  have hde := k_decipher c key B kq hkey hB
  rw [hMe] at hde
  refine kCall_val (hde) (by rfl) [(4, 0), (5, 0), (6, 0), (7, 0)] (by simp [CALL, cellsAt, tk, take_room, bs_length, bs_nil, MB, okL, okV, Cip.bl, Cip.kbl, Cip.kd]) (by simp [CALL, cellsAt, tk, take_room, bs_length, bs_nil, MB, okL, okV, Cip.bl, Cip.kbl, Cip.kd]) (by simp [CALL, cellsAt, tk, take_room, bs_length, bs_nil, MB, okL, okV, Cip.bl, Cip.kbl, Cip.kd]) (by simp [okL_bs, okL_room, okL, okV, MB, okL, okV, Cip.bl, Cip.kbl, Cip.kd]) ?_
  simp (config := { maxSteps := 2000000 }) only [CALL, ↓VC, VP, TT, List.getElem?_toArray, Nat.reduceEqDiff, reduceCtorEq, Nat.reduceAdd, Nat.reduceSub, Nat.reduceLT, Nat.reduceMul, Nat.reducePow, Nat.reduceLeDiff, Int.reduceToNat, Int.reduceLE, Int.reduceLT, Int.reducePow, instL_room, Bool.not_true, Bool.not_false, Cip.bl, Cip.kbl, Cip.kd, e_inst0, e_inst, k_len, ↓k_all, ↓k_rd, enc_len, xorN_len, hB, hM, hstart]
  have hm16 : min (l.length - 16 * (m + 1)) 16 = r := by omega
  have e8 : IntKind.i64.wrap (((16 * (m + 1) : Nat) : Int) + (r : Int)) = (l.length : Int) := by rw [wrap_i64 (by omega) (by omega)]; omega
  have hF := befB_len r (fillB T) M
  rw [hm16, hT, splice_bss, bef_spl (by omega) hM, hTl, e6]
  refine ⟨by omega, by omega, by omega, by omega, by omega, ?_⟩
  rw [Int.toNat_natCast, Nat.sub_zero, Nat.sub_zero]
  generalize befB r (fillB T) M = F at *
  refine kCall_Ret (c_Concat3 X F B q 16 16 (by omega) (by omega) (by omega) (by omega)) (by rfl) [(11, 0), (0, 0), (10, 0), (9, 0)] (by simp [CALL, cellsAt, tk, take_room, bs_length, bs_nil, MB, okL, okV, Cip.bl, Cip.kbl, Cip.kd, hXl, hF, hB, tkn hF, tkn hB, hX]) (by simp [CALL, cellsAt, tk, take_room, bs_length, bs_nil, MB, okL, okV, Cip.bl, Cip.kbl, Cip.kd, hXl, hF, hB, tkn hF, tkn hB, hX]) (by simp [CALL, cellsAt, tk, take_room, bs_length, bs_nil, MB, okL, okV, Cip.bl, Cip.kbl, Cip.kd, hXl, hF, hB, tkn hF, tkn hB, hX]) (by simp [okL_bs, okL_room, okL, okV, MB, okL, okV, Cip.bl, Cip.kbl, Cip.kd, hXl, hF, hB, tkn hF, tkn hB, hX]) (by simp [CALL, cellsAt, tk, take_room, bs_length, bs_nil, MB, okL, okV, Cip.bl, Cip.kbl, Cip.kd, hXl, hF, hB, tkn hF, tkn hB, hX]) fun r1 _ => ?_
  simp (config := { maxSteps := 2000000 }) only [CALL, ↓VC, VP, TT, List.getElem?_toArray, Nat.reduceEqDiff, reduceCtorEq, Nat.reduceAdd, Nat.reduceSub, Nat.reduceLT, Nat.reduceMul, Nat.reducePow, Nat.reduceLeDiff, Int.reduceToNat, Int.reduceLE, Int.reduceLT, Int.reducePow, instL_room, Bool.not_true, Bool.not_false, Cip.bl, Cip.kbl, Cip.kd, e_inst0, e_inst, k_len, ↓k_all, ↓k_rd, enc_len, xorN_len, hkey, hstart]
  have hL : (X ++ F ++ B).length = 16 * (m + 2) := by simp only [List.length_append]; omega
  have hXe2 : X ++ F ++ B = c.mixL key l m := by rw [hmx, List.append_assoc]
  rw [hXe2] at hL ⊢
  have hln : X.length + F.length + B.length = (c.mixL key l m).length := by omega
  try rw [hln]
  refine kCall_Ret (k_impl_unchain c key start (c.mixL key l m) kq ((c.mixL key l m).length + r1) (m + 2) hkey hstart (by omega) hL (by omega)) (by rfl) [(4, 0), (5, 0), (6, 0), (7, 0), (12, 0)] (by simp [CALL, cellsAt, tk, take_room, bs_length, bs_nil, MB, okL, okV, Cip.bl, Cip.kbl, Cip.kd]) (by simp [CALL, cellsAt, tk, take_room, bs_length, bs_nil, MB, okL, okV, Cip.bl, Cip.kbl, Cip.kd]) (by simp [CALL, cellsAt, tk, take_room, bs_length, bs_nil, MB, okL, okV, Cip.bl, Cip.kbl, Cip.kd]) (by simp [okL_bs, okL_room, okL, okV, MB, okL, okV, Cip.bl, Cip.kbl, Cip.kd]) (by simp [CALL, cellsAt, tk, take_room, bs_length, bs_nil, MB, okL, okV, Cip.bl, Cip.kbl, Cip.kd]) fun r2 _ => ?_
  simp (config := { maxSteps := 2000000 }) only [CALL, ↓VC, VP, TT, List.getElem?_toArray, Nat.reduceEqDiff, reduceCtorEq, Nat.reduceAdd, Nat.reduceSub, Nat.reduceLT, Nat.reduceMul, Nat.reducePow, Nat.reduceLeDiff, Int.reduceToNat, Int.reduceLE, Int.reduceLT, Int.reducePow, instL_room, Bool.not_true, Bool.not_false, Cip.bl, Cip.kbl, Cip.kd, e_inst0, e_inst, k_len, ↓k_all, ↓k_rd, enc_len, xorN_len, hkey, hstart, e8]
  have hul := unchL_len (c.dec key) start (c.mixL key l m) (m + 2)
  generalize unchL (c.dec key) start (c.mixL key l m) (m + 2) = U at *
  have hUt : List.take l.length (bs U ++ List.replicate r2 V.j) = bs (U.take l.length) := by rw [List.take_append_of_le_length (by rw [bs_length]; omega), bs_take]
  have hd : (List.take l.length U).length = l.length := by rw [List.length_take]; omega
  refine ⟨by omega, ?_⟩
  refine kCall_Ret (c_CloneP (U.take l.length) (U.length + r2) (by omega) (by omega) (by omega)) (by rfl) [(13, 0)] (by simp [CALL, cellsAt, tk, take_room, bs_length, bs_nil, MB, okL, okV, Cip.bl, Cip.kbl, Cip.kd, hd, hUt]) (by simp [CALL, cellsAt, tk, take_room, bs_length, bs_nil, MB, okL, okV, Cip.bl, Cip.kbl, Cip.kd, hd, hUt]) (by simp [CALL, cellsAt, tk, take_room, bs_length, bs_nil, MB, okL, okV, Cip.bl, Cip.kbl, Cip.kd, hd, hUt]) (by simp [okL_bs, okL_room, okL, okV, MB, okL, okV, Cip.bl, Cip.kbl, Cip.kd, hd, hUt]) (by simp [CALL, cellsAt, tk, take_room, bs_length, bs_nil, MB, okL, okV, Cip.bl, Cip.kbl, Cip.kd, hd, hUt]) fun r3 _ => ?_
  simp (config := { maxSteps := 2000000 }) only [CALL, ↓VC, VP, TT, List.getElem?_toArray, Nat.reduceEqDiff, reduceCtorEq, Nat.reduceAdd, Nat.reduceSub, Nat.reduceLT, Nat.reduceMul, Nat.reducePow, Nat.reduceLeDiff, Int.reduceToNat, Int.reduceLE, Int.reduceLT, Int.reducePow, instL_room, Bool.not_true, Bool.not_false, Cip.bl, Cip.kbl, Cip.kd, e_inst0, e_inst, k_len, ↓k_all, ↓k_rd, enc_len, xorN_len]
  refine ⟨_, _, [0, 14], ⟨r3, trivial, rfl, rfl⟩, ?_⟩
  rw [hS]
  simp [-List.reduceReplicate, LES, e_ren, e_ok]
theorem both_StealDecipher (z n : Int) (box A pl key start l : List UInt8) (q : Nat) (hb : box.length = 256) (hA : A.length = 16) (hp : pl.length = 16) (hkey : key.length = 16) (hstart : start.length = 16) (hq : l.length ≤ q) : ∃ (o : List UInt8) (e : Int), o.length ≤ 4096 ∧
    LC Tryz.prog 28 [.a (cipC z box A pl n), .a (bs key), .a (bs start), .s 0 0 l.length q] [⟨false, bs l⟩] (Ret [⟨false, bs l⟩] (fun _ : Nat => True) fun r => (.t [.s 1 0 o.length (o.length + r), .c (.int .i64 (e))], [⟨true, bs o ++ List.replicate r .j⟩])) ∧
    LC Tryz.prog 26 [.a (cipC z box A pl n), .a (bs key), .a (bs start), .s 0 0 l.length q] [⟨false, bs l⟩] (Ret [⟨false, bs l⟩] (fun _ : Nat => True) fun r => (.t [.s 1 0 o.length (o.length + r), .c (.int .i64 (e))], [⟨true, bs o ++ List.replicate r .j⟩])) := by
  rcases modE_cases (z := z) (n := n) hb hA hp l 17 2000 with hE | ⟨h, c, rfl, rfl, rfl, rfl, rfl⟩
  · exact ⟨[], modE z box A pl n l.length 17 2000, by simp, LC_nil (c_spec_StealDecipher_bad z n box A pl key start l q hb hA hp hkey hstart hE) (none_uni1 _), LC_nil (c_impl_StealDecipher_bad z n box A pl key start l q hb hA hp hkey hstart hE) (none_uni1 _)⟩
  · exact ⟨c.unsteal key start l, 0, by unfold Cip.unsteal; rw [List.length_take]; omega, c_spec_StealDecipher_k c key start l q hkey hstart hq h, c_impl_StealDecipher_k c key start l q hkey hstart hq h⟩
end Go.Proofs.YtmhjalagcnhfiaaGreat

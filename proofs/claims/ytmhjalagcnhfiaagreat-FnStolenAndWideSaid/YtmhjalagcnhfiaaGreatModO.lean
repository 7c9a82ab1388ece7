import Derived.Test.YtmhjalagcnhfiaaGreatModK
import Derived.Test.YtmhjalagcnhfiaaGreatConcatB
/- Stealing: the program enciphers. -/
set_option linter.unusedSimpArgs false
set_option linter.unusedVariables false
namespace Go.Proofs.YtmhjalagcnhfiaaGreat
open Go Go.Vc
set_option maxRecDepth 10000
set_option maxHeartbeats 4000000
theorem steal_eq {C : List UInt8} {m r : Nat} (h : C.length = 16 * (m + 2)) (hr : r ≤ 16) : C.take (16 * m) ++ C.drop (16 * (m + 1)) ++ (C.drop (16 * m)).take r = (swapL C m).take (16 * (m + 1) + r) := by
  obtain ⟨X, B, A, rfl, hX, hB, hA⟩ := three h
  have e1 : List.drop (16 * m) (X ++ (B ++ A)) = B ++ A := List.drop_left' hX
  have e2 : List.drop (16 * (m + 1)) (X ++ (B ++ A)) = A := by rw [← List.append_assoc]; exact List.drop_left' (by rw [List.length_append]; omega)
  have e3 : List.take 16 (B ++ A) = B := List.take_left' hB
  have e4 : List.take 16 A = A := List.take_of_length_le (by omega)
  have e5 : List.take (16 * m) (X ++ (B ++ A)) = X := List.take_left' hX
  have e6 : List.take r (B ++ A) = List.take r B := List.take_append_of_le_length (by omega)
  have e7 : (X ++ A).length = 16 * (m + 1) := by rw [List.length_append]; omega
  unfold swapL
  rw [e1, e2, e3, e4, e5, e6, List.take_append, List.take_of_length_le (l := X ++ A) (by omega), e7, Nat.add_sub_cancel_left]
theorem c_impl_StealEncipher_k (c : Cip) (key start l : List UInt8) (q : Nat) (hkey : key.length = 16) (hstart : start.length = 16) (hq : l.length ≤ q) (h : 17 ≤ l.length ∧ l.length ≤ 2000) : LC Tryz.prog 24 [.a c.cells, .a (bs key), .a (bs start), .s 0 0 l.length q] [⟨false, bs l⟩]
    (Ret [⟨false, bs l⟩] (fun _ : Nat => True) fun r => (.t [.s 1 0 (c.steal key start l).length ((c.steal key start l).length + r), .c (.int .i64 (0))], [⟨true, bs (c.steal key start l) ++ List.replicate r .j⟩])) := by
  refine LC_of (X := XX (fun | 6 => .one 0 (.one 1 (.one 3 (.one 4 (.one 2 (.one 5 (.one 6 .nil)))))) | 7 => .one 0 (.one 1 (.one 2 (.one 3 (.one 4 (.one 5 (.one 6 (.one 7 (.one 8 (.one 9 (.one 10 (.one 11 (.one 12 (.one 13 (.one 14 (.one 15 (.one 16 (.one 17 (.one 18 .nil)))))))))))))))))) | _ => .nil) (fun _ => []) [42, 74, 94, 95, 96, 97, 111, 117, 118, 129, 130, 141] 1) envOK Tryz.func24 (by kernel_rfl) (by kernel_rfl) rfl (Nat.le_of_ble_eq_true (by kernel_rfl)) ?_
  simp only [kFun, Tryz.f24, List.length_nil, List.length_cons, Nat.sub_zero, Nat.reduceSub, Nat.reduceAdd, List.nil_append, List.cons_append, List.replicate_succ, List.replicate_zero]
  simp only [XX, ↓VC, VP, TT, List.getElem?_toArray, Nat.reduceEqDiff, reduceCtorEq, Nat.reduceAdd, Nat.reduceSub, Nat.reduceLT, Nat.reduceMul, Nat.reducePow, Nat.reduceLeDiff, Int.reduceToNat, Int.reduceLE, Int.reduceLT, Int.reducePow, k_len, ↓k_all, hkey, hstart]
  refine kCall_val (k_impl_code c q h) (by rfl) [(0, 0)] (by simp [CALL, cellsAt, tk, take_room, bs_length, bs_nil, MB, okL, okV, Cip.bl, Cip.kbl, Cip.kd]) (by simp [CALL, cellsAt, tk, take_room, bs_length, bs_nil, MB, okL, okV, Cip.bl, Cip.kbl, Cip.kd]) (by simp [CALL, cellsAt, tk, take_room, bs_length, bs_nil, MB, okL, okV, Cip.bl, Cip.kbl, Cip.kd]) (by simp [okL_bs, okL_room, okL, okV, MB, okL, okV, Cip.bl, Cip.kbl, Cip.kd]) ?_
  simp (config := { maxSteps := 2000000 }) only [CALL, ↓VC, VP, TT, List.getElem?_toArray, Nat.reduceEqDiff, reduceCtorEq, Nat.reduceAdd, Nat.reduceSub, Nat.reduceLT, Nat.reduceMul, Nat.reducePow, Nat.reduceLeDiff, Int.reduceToNat, Int.reduceLE, Int.reduceLT, Int.reducePow, instL_room, Bool.not_true, Bool.not_false, Cip.bl, Cip.kbl, Cip.kd, e_inst0, e_inst, k_len, ↓k_all, ↓k_rd, enc_len, xorN_len, hkey, hstart, bne_self_eq_false]
  have hcl := chnL_len (enc := c.enc key) (start := start) (data := partsL l ((l.length + 15) / 16)) (fun x => enc_len _ _) ((l.length + 15) / 16)
  have hpl := partsL_len l ((l.length + 15) / 16)
  obtain ⟨m, hK⟩ : ∃ m, (l.length + 15) / 16 = m + 2 := ⟨(l.length + 15) / 16 - 2, by omega⟩
  obtain ⟨r, hr⟩ : ∃ r, l.length = 16 * (m + 1) + r := ⟨l.length - 16 * (m + 1), by omega⟩
  have hr2 : 1 ≤ r ∧ r ≤ 16 := by omega
  have hS : c.steal key start l = (swapL (chnL (c.enc key) start (partsL l (m + 2)) (m + 2)) m).take l.length := by unfold Cip.steal; rw [hK]; rfl
  have hpz := parts_zero hr hr2
  rw [hK] at hcl hpl
  have e7 : IntKind.i64.wrap (16 - (r : Int)) = ((16 - r : Nat) : Int) := by rw [wrap_i64 (by omega) (by omega)]; omega
  refine kCall_val (c_impl_lastBytes l q m r hr hr2 (by omega)) (by rfl) [(0, 0)] (by simp [CALL, cellsAt, tk, take_room, bs_length, bs_nil, MB, okL, okV, Cip.bl, Cip.kbl, Cip.kd]) (by simp [CALL, cellsAt, tk, take_room, bs_length, bs_nil, MB, okL, okV, Cip.bl, Cip.kbl, Cip.kd]) (by simp [CALL, cellsAt, tk, take_room, bs_length, bs_nil, MB, okL, okV, Cip.bl, Cip.kbl, Cip.kd]) (by simp [okL_bs, okL_room, okL, okV, MB, okL, okV, Cip.bl, Cip.kbl, Cip.kd]) ?_
  simp (config := { maxSteps := 2000000 }) only [CALL, ↓VC, VP, TT, List.getElem?_toArray, Nat.reduceEqDiff, reduceCtorEq, Nat.reduceAdd, Nat.reduceSub, Nat.reduceLT, Nat.reduceMul, Nat.reducePow, Nat.reduceLeDiff, Int.reduceToNat, Int.reduceLE, Int.reduceLT, Int.reducePow, instL_room, Bool.not_true, Bool.not_false, Cip.bl, Cip.kbl, Cip.kd, e_inst0, e_inst, k_len, ↓k_all, ↓k_rd, enc_len, xorN_len, hkey, hstart]
  refine kCall_Ret (c_CloneP l q hq (by omega) (by omega)) (by rfl) [(0, 0)] (by simp [CALL, cellsAt, tk, take_room, bs_length, bs_nil, MB, okL, okV, Cip.bl, Cip.kbl, Cip.kd]) (by simp [CALL, cellsAt, tk, take_room, bs_length, bs_nil, MB, okL, okV, Cip.bl, Cip.kbl, Cip.kd]) (by simp [CALL, cellsAt, tk, take_room, bs_length, bs_nil, MB, okL, okV, Cip.bl, Cip.kbl, Cip.kd]) (by simp [okL_bs, okL_room, okL, okV, MB, okL, okV, Cip.bl, Cip.kbl, Cip.kd]) (by simp [CALL, cellsAt, tk, take_room, bs_length, bs_nil, MB, okL, okV, Cip.bl, Cip.kbl, Cip.kd]) fun r0 _ => ?_
  simp (config := { maxSteps := 2000000 }) only [CALL, ↓VC, VP, TT, List.getElem?_toArray, Nat.reduceEqDiff, reduceCtorEq, Nat.reduceAdd, Nat.reduceSub, Nat.reduceLT, Nat.reduceMul, Nat.reducePow, Nat.reduceLeDiff, Int.reduceToNat, Int.reduceLE, Int.reduceLT, Int.reducePow, instL_room, Bool.not_true, Bool.not_false, Cip.bl, Cip.kbl, Cip.kd, e_inst0, e_inst, k_len, ↓k_all, ↓k_rd, enc_len, xorN_len, hkey, hstart, emptyS_pos (n := l.length) (by omega), e7, flat_zeros]
  refine ⟨by omega, by omega, by omega, by omega, fun r1 c' hc' _ => ?_⟩
  rw [bs_append, ← hpz]
  have hl2 : l.length + (16 - r) = (partsL l (m + 2)).length := by omega
  rw [hl2] at hc' ⊢
  generalize partsL l (m + 2) = P at *
  refine kCall_Ret (k_newKeyed c key hkey) (by rfl) [] (by simp [CALL, cellsAt, tk, take_room, bs_length, bs_nil, MB, okL, okV, Cip.bl, Cip.kbl, Cip.kd]) (by simp [CALL, cellsAt, tk, take_room, bs_length, bs_nil, MB, okL, okV, Cip.bl, Cip.kbl, Cip.kd]) (by simp [CALL, cellsAt, tk, take_room, bs_length, bs_nil, MB, okL, okV, Cip.bl, Cip.kbl, Cip.kd]) (by simp [okL_bs, okL_room, okL, okV, MB, okL, okV, Cip.bl, Cip.kbl, Cip.kd]) (by simp [CALL, cellsAt, tk, take_room, bs_length, bs_nil, MB, okL, okV, Cip.bl, Cip.kbl, Cip.kd]) fun kq _ => ?_
  simp (config := { maxSteps := 2000000 }) only [CALL, ↓VC, VP, TT, List.getElem?_toArray, Nat.reduceEqDiff, reduceCtorEq, Nat.reduceAdd, Nat.reduceSub, Nat.reduceLT, Nat.reduceMul, Nat.reducePow, Nat.reduceLeDiff, Int.reduceToNat, Int.reduceLE, Int.reduceLT, Int.reducePow, instL_room, Bool.not_true, Bool.not_false, Cip.bl, Cip.kbl, Cip.kd, e_inst0, e_inst, k_len, ↓k_all, ↓k_rd, enc_len, xorN_len, hkey, hstart]
  refine kCall_Ret (k_impl_chain c key start P kq c' (m + 2) hkey hstart (by omega) hpl (by omega)) (by rfl) [(6, 0), (7, 0), (8, 0), (9, 0), (5, 0)] (by simp [CALL, cellsAt, tk, take_room, bs_length, bs_nil, MB, okL, okV, Cip.bl, Cip.kbl, Cip.kd]) (by simp [CALL, cellsAt, tk, take_room, bs_length, bs_nil, MB, okL, okV, Cip.bl, Cip.kbl, Cip.kd]) (by simp [CALL, cellsAt, tk, take_room, bs_length, bs_nil, MB, okL, okV, Cip.bl, Cip.kbl, Cip.kd]) (by simp [okL_bs, okL_room, okL, okV, MB, okL, okV, Cip.bl, Cip.kbl, Cip.kd]) (by simp [CALL, cellsAt, tk, take_room, bs_length, bs_nil, MB, okL, okV, Cip.bl, Cip.kbl, Cip.kd]) fun r2 _ => ?_
  simp (config := { maxSteps := 2000000 }) only [CALL, ↓VC, VP, TT, List.getElem?_toArray, Nat.reduceEqDiff, reduceCtorEq, Nat.reduceAdd, Nat.reduceSub, Nat.reduceLT, Nat.reduceMul, Nat.reducePow, Nat.reduceLeDiff, Int.reduceToNat, Int.reduceLE, Int.reduceLT, Int.reducePow, instL_room, Bool.not_true, Bool.not_false, Cip.bl, Cip.kbl, Cip.kd, e_inst0, e_inst, k_len, ↓k_all, ↓k_rd, enc_len, xorN_len, hkey, hstart]
  generalize chnL (c.enc key) start P (m + 2) = C at *
  have e8 : IntKind.i64.wrap (((16 * (m + 1) : Nat) : Int) - 16) = ((16 * m : Nat) : Int) := by rw [wrap_i64 (by omega) (by omega)]; omega
  have e9 : IntKind.i64.wrap (((16 * m : Nat) : Int) + (r : Int)) = ((16 * m + r : Nat) : Int) := by rw [wrap_i64 (by omega) (by omega)]; omega
  rw [e8, e9]
  refine ⟨by omega, by omega, by omega, by omega, by omega, by omega, by omega, ?_⟩
  have hst := steal_eq hcl hr2.2
  have hl1 : (C.take (16 * m)).length = 16 * m := by rw [List.length_take]; omega
  have hl3 : (C.drop (16 * (m + 1))).length = 16 := by rw [List.length_drop]; omega
  have hl4 : ((C.drop (16 * m)).take r).length = r := by rw [List.length_take, List.length_drop]; omega
  have hs1 : List.take (16 * m) (bs C ++ List.replicate r2 V.j) = bs (C.take (16 * m)) := by rw [List.take_append_of_le_length (by rw [bs_length]; omega), bs_take]
  have hs2 : List.take 16 (List.drop (16 * (m + 1)) (bs C ++ List.replicate r2 V.j)) = bs (C.drop (16 * (m + 1))) := by rw [List.drop_append_of_le_length (by rw [bs_length]; omega), bs_drop, take_room hl3.symm]
  have hs3 : List.take r (List.drop (16 * m) (bs C ++ List.replicate r2 V.j)) = bs ((C.drop (16 * m)).take r) := by rw [List.drop_append_of_le_length (by rw [bs_length]; omega), bs_drop, List.take_append_of_le_length (by rw [bs_length, List.length_drop]; omega), bs_take]
  rw [← hr] at hst
  rw [← hst] at hS
  generalize C.take (16 * m) = X at *
  generalize C.drop (16 * (m + 1)) = Y at *
  generalize (C.drop (16 * m)).take r = Z at *
  rw [Int.toNat_natCast, Int.toNat_natCast, Nat.sub_zero, Nat.sub_zero, Nat.add_sub_cancel_left, show C.length - 16 * (m + 1) = 16 by omega]
  refine kCall_Ret (c_Concat3 X Y Z (C.length + r2) (C.length + r2 - 16 * (m + 1)) (C.length + r2 - 16 * m) (by omega) (by omega) (by omega) (by omega)) (by rfl) [(11, 0), (10, 0), (10, 16 * (m + 1)), (10, 16 * m)] (by simp [CALL, cellsAt, tk, take_room, bs_length, bs_nil, MB, okL, okV, Cip.bl, Cip.kbl, Cip.kd, hl1, hl3, hl4, hs1, hs2, hs3]) (by simp [CALL, cellsAt, tk, take_room, bs_length, bs_nil, MB, okL, okV, Cip.bl, Cip.kbl, Cip.kd, hl1, hl3, hl4, hs1, hs2, hs3]) (by simp [CALL, cellsAt, tk, take_room, bs_length, bs_nil, MB, okL, okV, Cip.bl, Cip.kbl, Cip.kd, hl1, hl3, hl4, hs1, hs2, hs3]) (by simp [okL_bs, okL_room, okL, okV, MB, okL, okV, Cip.bl, Cip.kbl, Cip.kd, hl1, hl3, hl4, hs1, hs2, hs3]) (by simp [CALL, cellsAt, tk, take_room, bs_length, bs_nil, MB, okL, okV, Cip.bl, Cip.kbl, Cip.kd, hl1, hl3, hl4, hs1, hs2, hs3]) fun r3 _ => ?_
  simp (config := { maxSteps := 2000000 }) only [CALL, ↓VC, VP, TT, List.getElem?_toArray, Nat.reduceEqDiff, reduceCtorEq, Nat.reduceAdd, Nat.reduceSub, Nat.reduceLT, Nat.reduceMul, Nat.reducePow, Nat.reduceLeDiff, Int.reduceToNat, Int.reduceLE, Int.reduceLT, Int.reducePow, instL_room, Bool.not_true, Bool.not_false, Cip.bl, Cip.kbl, Cip.kd, e_inst0, e_inst, k_len, ↓k_all, ↓k_rd, enc_len, xorN_len, hkey, hstart]
  rw [hS]
  refine ⟨_, _, [0, 12], ⟨r3, trivial, rfl, rfl⟩, ?_⟩
  simp [-List.reduceReplicate, LES, e_ren, e_ok]
  omega
theorem both_StealEncipher (z n : Int) (box A pl key start l : List UInt8) (q : Nat) (hb : box.length = 256) (hA : A.length = 16) (hp : pl.length = 16) (hkey : key.length = 16) (hstart : start.length = 16) (hq : l.length ≤ q) : ∃ (o : List UInt8) (e : Int), o.length ≤ 4096 ∧
    LC Tryz.prog 25 [.a (cipC z box A pl n), .a (bs key), .a (bs start), .s 0 0 l.length q] [⟨false, bs l⟩] (Ret [⟨false, bs l⟩] (fun _ : Nat => True) fun r => (.t [.s 1 0 o.length (o.length + r), .c (.int .i64 (e))], [⟨true, bs o ++ List.replicate r .j⟩])) ∧
    LC Tryz.prog 24 [.a (cipC z box A pl n), .a (bs key), .a (bs start), .s 0 0 l.length q] [⟨false, bs l⟩] (Ret [⟨false, bs l⟩] (fun _ : Nat => True) fun r => (.t [.s 1 0 o.length (o.length + r), .c (.int .i64 (e))], [⟨true, bs o ++ List.replicate r .j⟩])) := by
  rcases modE_cases (z := z) (n := n) hb hA hp l 17 2000 with hE | ⟨h, c, rfl, rfl, rfl, rfl, rfl⟩
  · exact ⟨[], modE z box A pl n l.length 17 2000, by simp, LC_nil (c_spec_StealEncipher_bad z n box A pl key start l q hb hA hp hkey hstart hE) (none_uni1 _), LC_nil (c_impl_StealEncipher_bad z n box A pl key start l q hb hA hp hkey hstart hE) (none_uni1 _)⟩
  · exact ⟨c.steal key start l, 0, by unfold Cip.steal; rw [List.length_take]; omega, c_spec_StealEncipher_k c key start l q hkey hstart hq h, c_impl_StealEncipher_k c key start l q hkey hstart hq h⟩
end Go.Proofs.YtmhjalagcnhfiaaGreat

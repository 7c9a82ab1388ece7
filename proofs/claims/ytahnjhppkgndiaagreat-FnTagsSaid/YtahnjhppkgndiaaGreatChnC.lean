import Derived.Test.YtahnjhppkgndiaaGreatChn
import Derived.Test.YtahnjhppkgndiaaGreatVcgU
/- Chains of tags: the program. -/
set_option linter.unusedSimpArgs false
set_option linter.unusedVariables false
namespace Go.Proofs.YtahnjhppkgndiaaGreat
open Go Go.Vc
set_option maxRecDepth 10000
set_option maxHeartbeats 4000000
/-- The program's code of a list of data, without its length. -/
def lstI (z : Int) (box A pl : List UInt8) (n : Int) (D : List (List UInt8 × Nat)) : Int := if cipB z box A pl n then (if bigB D = true then 2 else 0) else 1
theorem c_impl_checkDigestN (z n : Int) (box A pl : List UInt8) (hb : box.length = 256) (hA : A.length = 16) (hp : pl.length = 16) (D : List (List UInt8 × Nat)) (c : Nat) (hm : D.length ≤ 1048576) : LC Tryz.prog 74 [.a (cipC z box A pl n), .s 0 0 D.length c] (⟨false, ptrV 1 (bPs D)⟩ :: partB false (bPs D))
    (fun v hp => v = .c (.int .i64 (lstI z box A pl n D)) ∧ hp = (⟨false, ptrV 1 (bPs D)⟩ :: partB false (bPs D))) := by
  have hPn := bPs_length D
  refine LC_of (X := XX (fun _ => .nil) (fun _ => []) [15, 71, 72, 73, 79, 80, 87, 90, 91, 93, 99, 119, 137, 176, 177, 203, 204, 212, 219] (D.length + 1)) envOK Tryz.func74 (by kernel_rfl) (by kernel_rfl) (by simp [XX, partB_length, bPs_length]) (Nat.le_of_ble_eq_true (by kernel_rfl)) ?_
  simp only [kFun, Tryz.f74, List.length_nil, List.length_cons, Nat.sub_zero, Nat.reduceSub, Nat.reduceAdd, List.nil_append, List.cons_append, List.replicate_succ, List.replicate_zero]
  simp only [XX, ↓VC, VP, TT, Nat.reduceEqDiff, reduceCtorEq, Nat.reduceAdd, Nat.reduceSub, Nat.reduceLT, Nat.reduceMul, Nat.reducePow, Nat.reduceLeDiff, Int.reduceToNat, Int.reduceLE, Int.reduceLT, Int.reducePow, cipC_len hb hA hp, ↓cip_all hb hA hp, partB_length, bPs_length, partB_skip hPn, partB_skip0 hPn]
  refine kCall_val (c_impl_IsCipher z n box A pl hb hA hp) (by rfl) [] (by simp [CALL, SCB, instL_cip, okL_cip, k_inst, k_ok, e_inst, e_take, e_ok, Cip.bl, okL, okV, partB_length, bPs_length, cellsAt]) (by simp [CALL, SCB, instL_cip, okL_cip, k_inst, k_ok, e_inst, e_take, e_ok, Cip.bl, okL, okV, partB_length, bPs_length, cellsAt]) (by simp [CALL, SCB, instL_cip, okL_cip, k_inst, k_ok, e_inst, e_take, e_ok, Cip.bl, okL, okV, partB_length, bPs_length, cellsAt]) (by simp [okL_bs, okL_room, okL, okV, instL_cip, okL_cip, k_inst, k_ok, e_inst, e_take, e_ok, Cip.bl, okL, okV, partB_length, bPs_length, cellsAt]) ?_
  simp (config := { maxSteps := 2000000 }) only [CALL, ↓VC, VP, TT, Nat.reduceEqDiff, reduceCtorEq, Nat.reduceAdd, Nat.reduceSub, Nat.reduceLT, Nat.reduceMul, Nat.reducePow, Nat.reduceLeDiff, Int.reduceToNat, Int.reduceLE, Int.reduceLT, Int.reducePow, GOB, Cip.bl, e_inst0, k_inst, k_len, ↓k_all, dig_len, tag_len, partB_length, bPs_length, ptrV_length, bP, List.append_assoc, List.cons_append, cipC_len hb hA hp, ↓cip_all hb hA hp, hPn, partB_skip hPn, partB_skip0 hPn]
  cases hB : cipB z box A pl n with
  | false =>
    simp only [↓VC, VP, TT, Nat.reduceEqDiff, reduceCtorEq, Nat.reduceAdd, Nat.reduceSub, Nat.reduceLT, Nat.reduceMul, Nat.reducePow, Nat.reduceLeDiff, Int.reduceToNat, Int.reduceLE, Int.reduceLT, Int.reducePow, Bool.not_false]
    have e : lstI z box A pl n D = 1 := by unfold lstI; rw [hB]; rfl
    rw [e]
    exact ⟨_, _, List.range (D.length + 1), ⟨rfl, rfl⟩, LeS_nest rfl rfl (by simp [leT]) (by simp [stL, stV])⟩
  | true =>
    simp only [↓VC, VP, TT, Nat.reduceEqDiff, reduceCtorEq, Nat.reduceAdd, Nat.reduceSub, Nat.reduceLT, Nat.reduceMul, Nat.reducePow, Nat.reduceLeDiff, Int.reduceToNat, Int.reduceLE, Int.reduceLT, Int.reducePow, Bool.not_true]
    refine kCall_val (c_ContainsFuncN D c hm) (by rfl) ((0, 0) :: rng 1 D.length) (by simp [CALL]) (seg_nest hPn (by simp [partB_length, hPn]) (by simp [cellsAt]; rw [List.take_of_length_le (by rw [ptrV_length, hPn]; exact Nat.le_refl _)]) (fun i p hp => ?_) bPs_id) (by simp [okL, okV]) (okB_nest (by simp [partB_length, hPn])) ?_
    · have hi := (List.getElem?_eq_some_iff.1 hp).1
      unfold cellsAt
      rw [Nat.add_comm 1 i, List.getElem?_cons_succ, partB_get hp]
      exact ⟨by simp [partB_length]; omega, by simp⟩
    simp only [CALL, ↓VC, VP, TT, Nat.reduceEqDiff, reduceCtorEq, Nat.reduceAdd, Nat.reduceSub, Nat.reduceLT, Nat.reduceMul, Nat.reducePow, Nat.reduceLeDiff, Int.reduceToNat, Int.reduceLE, Int.reduceLT, Int.reducePow]
    refine ⟨fun h => ?_, fun h => ?_⟩
    · have e : lstI z box A pl n D = 2 := by unfold lstI; rw [if_pos hB, if_pos h]
      rw [e]
      exact ⟨_, _, List.range (D.length + 1), ⟨rfl, rfl⟩, LeS_nest rfl rfl (by simp [leT]) (by simp [stL, stV])⟩
    · have e : lstI z box A pl n D = 0 := by unfold lstI; rw [if_pos hB, if_neg (by rw [h]; exact Bool.false_ne_true)]
      rw [e]
      exact ⟨_, _, List.range (D.length + 1), ⟨rfl, rfl⟩, LeS_nest rfl rfl (by simp [leT]) (by simp [stL, stV])⟩
theorem seg_nest0 {D : List (List UInt8 × Nat)} {R : List Blk} : segOK (⟨false, ptrV 1 (bPs D)⟩ :: (partB false (bPs D) ++ R)) ((0, 0) :: rng 1 D.length) ((0, 0) :: rng 1 D.length) (⟨false, ptrV 1 (bPs D)⟩ :: partB false (bPs D)) := by
  have hPn := bPs_length D
  refine seg_nest hPn (by simp) (by simp [cellsAt]; rw [List.take_of_length_le (by rw [ptrV_length, hPn]; exact Nat.le_refl _)]) (fun i p hp => ?_) bPs_id
  have hi := (List.getElem?_eq_some_iff.1 hp).1
  unfold cellsAt
  rw [Nat.add_comm 1 i, List.getElem?_cons_succ, partB_get hp]
  exact ⟨by simp [partB_length]; omega, by simp⟩
theorem e_st {c : Cip} {h1 h2 N : Nat} (h : h1 < N) (h' : h2 < N) : stL N (c.eng h1 h2) := by unfold Cip.eng; simp [engC, stL, stV, stL_app, stL_bs, h, h']
theorem k_impl_ChainOfTags (c : Cip) (key : List UInt8) (hk : key.length = 16) (D : List (List UInt8 × Nat)) (cc : Nat) (hm : D.length ≤ 20) (hL : ∀ p ∈ D, p.1.length ≤ p.2 ∧ p.1.length ≤ 2000) : LC Tryz.prog 19 [.a c.cells, .a (bs key), .s 0 0 D.length cc] (⟨false, ptrV 1 (bPs D)⟩ :: partB false (bPs D))
    (Ret (⟨false, ptrV 1 (bPs D)⟩ :: partB false (bPs D)) (fun _ : Nat => True) fun r => (.t [.s (D.length + 1) 0 D.length (D.length + r), .c (.int .i64 (0))], [⟨true, bs (tgL c key D D.length) ++ List.replicate (32 * r) .j⟩])) := by
  have hPn := bPs_length D
  have key1 := c_impl_checkDigestN c.m c.n c.box c.A c.pl c.hb c.hA c.hp D cc (by omega)
  have e0 : lstI c.m c.box c.A c.pl c.n D = 0 := by
    have : bigB D = false := by
      unfold bigB; rw [List.any_eq_false]; intro p hp; have := (hL p hp).2; simpa using this
    unfold lstI; rw [if_pos c.is, this]; rfl
  rw [e0] at key1
  rw [show cipC c.m c.box c.A c.pl c.n = c.cells from rfl] at *
  refine LC_of (X := XX (fun | 11 => .one 0 (.one 1 (.one 4 (.one 2 (.one 3 (.one 5 (.one 6 .nil)))))) | _ => .nil) (fun _ => []) [15, 71, 72, 73, 79, 80, 87, 90, 91, 93, 99, 119, 137, 176, 177, 203, 204, 212, 219] (D.length + 1)) envOK Tryz.func19 (by kernel_rfl) (by kernel_rfl) (by simp [XX, partB_length, bPs_length]) (Nat.le_of_ble_eq_true (by kernel_rfl)) ?_
  simp only [kFun, Tryz.f19, List.length_nil, List.length_cons, Nat.sub_zero, Nat.reduceSub, Nat.reduceAdd, List.nil_append, List.cons_append, List.replicate_succ, List.replicate_zero]
  simp only [XX, ↓VC, VP, TT, Nat.reduceEqDiff, reduceCtorEq, Nat.reduceAdd, Nat.reduceSub, Nat.reduceLT, Nat.reduceMul, Nat.reducePow, Nat.reduceLeDiff, Int.reduceToNat, Int.reduceLE, Int.reduceLT, Int.reducePow, k_len, ↓k_all, hk, partB_length, bPs_length, partB_skip hPn, partB_skip0 hPn, List.append_assoc, List.cons_append, List.nil_append]
  refine kCall_val key1 (by rfl) ((0, 0) :: rng 1 D.length) (by simp [CALL, k_inst]) seg_nest0 (by simp [okL, okV, k_ok]) (okB_nest (by simp [partB_length, hPn])) ?_
  simp only [CALL, ↓VC, VP, TT, Nat.reduceEqDiff, reduceCtorEq, Nat.reduceAdd, Nat.reduceSub, Nat.reduceLT, Nat.reduceMul, Nat.reducePow, Nat.reduceLeDiff, Int.reduceToNat, Int.reduceLE, Int.reduceLT, Int.reducePow, ↓k_all, k_len, hk, partB_length, bPs_length, partB_skip hPn, partB_skip0 hPn, List.append_assoc, List.cons_append, List.nil_append, bne_self_eq_false, (eq_false (by omega) : ((D.length : Int) > 20) = False), decide_false]
  refine kCall_Ret (k_newEngine c) (by rfl) [] (by simp [CALL, SCB, instL_cip, okL_cip, k_inst, k_ok, e_inst, e_take, e_ok, Cip.bl, okL, okV, partB_length, bPs_length, cellsAt]) (by simp [CALL, SCB, instL_cip, okL_cip, k_inst, k_ok, e_inst, e_take, e_ok, Cip.bl, okL, okV, partB_length, bPs_length, cellsAt]) (by simp [CALL, SCB, instL_cip, okL_cip, k_inst, k_ok, e_inst, e_take, e_ok, Cip.bl, okL, okV, partB_length, bPs_length, cellsAt]) (by simp [okL_bs, okL_room, okL, okV, instL_cip, okL_cip, k_inst, k_ok, e_inst, e_take, e_ok, Cip.bl, okL, okV, partB_length, bPs_length, cellsAt]) (by simp [CALL, SCB, instL_cip, okL_cip, k_inst, k_ok, e_inst, e_take, e_ok, Cip.bl, okL, okV, partB_length, bPs_length, cellsAt]) fun _ _ => ?_
  simp (config := { maxSteps := 2000000 }) only [CALL, ↓VC, VP, TT, Nat.reduceEqDiff, reduceCtorEq, Nat.reduceAdd, Nat.reduceSub, Nat.reduceLT, Nat.reduceMul, Nat.reducePow, Nat.reduceLeDiff, Int.reduceToNat, Int.reduceLE, Int.reduceLT, Int.reducePow, GOB, Cip.bl, e_inst0, k_inst, k_len, ↓k_all, dig_len, tag_len, partB_length, bPs_length, ptrV_length, bP, List.append_assoc, List.cons_append, hPn, List.append_assoc]
  have hn1 : D.length + 2 + 1 + 1 = D.length + 4 := rfl
  have hn2 : D.length + 2 + 1 + 2 = D.length + 5 := rfl
  have hst : ∀ (j : Nat) (T X : List V), (∀ N, stL N T) → (∀ N, stL N X) → ∀ b ∈ (⟨false, ptrV 1 (bPs D)⟩ : Blk) :: (partB false (bPs D) ++ [⟨true, c.cells⟩, ⟨true, bs key⟩, ⟨true, c.eng (D.length + 4) (D.length + 5)⟩, ⟨true, bs c.t1⟩, ⟨true, bs c.t2⟩, ⟨true, T⟩, ⟨true, X⟩]), stL (D.length + 8) b.cells := fun j T X hT hX =>
    stB_cons (stL_ptrV (by omega)) (stB_app (stB_part bPs_st) (stB_cons (k_st _) (stB_cons (stL_bs _ _) (stB_cons (e_st (by omega) (by omega)) (stB_cons (stL_bs _ _) (stB_cons (stL_bs _ _) (stB_cons (hT _) (stB_cons (hX _) stB_nil))))))))
  refine kLoop_of (fun s : Nat × Nat => ([.j, .j, .j, .j, .p (D.length + 2) 0, .j, .j, .j, .j, .p (D.length + 3) 0, .s (D.length + 6) 0 s.1 (s.1 + s.2), .s (D.length + 7) 0 (tgN c key D s.1).length (tgN c key D s.1).length, .j, .j, .j, .j, .j, .j, .j, .j, .j, .j, .j, .j, .j, .j, .j, .j, .s 0 0 D.length cc, .c (.int .i64 (D.length)), .c (.int .i64 (s.1)), .j, .j, .j, .j, .j, .j, .j, .j, .j, .j, .j, .j, .j, .j, .j, .j], ⟨false, ptrV 1 (bPs D)⟩ :: (partB false (bPs D) ++ [⟨true, c.cells⟩, ⟨true, bs key⟩, ⟨true, c.eng (D.length + 4) (D.length + 5)⟩, ⟨true, bs c.t1⟩, ⟨true, bs c.t2⟩, ⟨true, bs (tgL c key D s.1) ++ List.replicate (32 * s.2) .j⟩, ⟨true, bs (tgN c key D s.1)⟩]))) (fun s => D.length - s.1) (fun s => s.1 ≤ D.length) (0, 0) (by simp) ⟨List.range (D.length + 8), ?_⟩ ?_
  · refine LeS_id (ex := []) (by simp [partB_length, hPn]) (Nat.le_add_right _ 7) (by simp [tgL, tgN, bs_nil]) (by simp [leT, tgN]) (by simp [stL, stV]) (hst 0 _ _ (fun _ => stL_room _ _ _) fun _ => stL_bs _ _)
  rintro ⟨j, r⟩ hj
  simp only at hj
  rcases Nat.lt_or_ge j D.length with h | h
  · have hpi : D[j]? = some D[j] := List.getElem?_eq_getElem h
    generalize D[j] = p at hpi
    obtain ⟨hp1, hp2⟩ := hL p (List.mem_of_getElem? hpi)
    have hL1 := bPs_get hpi
    have hS : (tgL c key D j).length = 32 * j := tgL_len j
    have hlk : ∀ R, ((⟨false, ptrV 1 (bPs D)⟩ : Blk) :: (partB false (bPs D) ++ R))[j + 1]? = some ⟨false, bs p.1⟩ := fun R => partB_get hL1
    have hT : (tgN c key D j).length ≤ 32 := by
      cases j with
      | zero => simp [tgN]
      | succ j => rw [tgN_len]; exact Nat.le_refl _
    simp only [↓VC, VP, TT, Nat.reduceEqDiff, reduceCtorEq, Nat.reduceAdd, Nat.reduceSub, Nat.reduceLT, Nat.reduceMul, Nat.reducePow, Nat.reduceLeDiff, Int.reduceToNat, Int.reduceLE, Int.reduceLT, Int.reducePow, (eq_true (by omega) : ((j : Int) < (D.length : Int)) = True), decide_true, List.cons_append, List.append_assoc, List.nil_append, partB_skip hPn, partB_skip0 hPn, partB_set hPn, partB_set0 hPn, List.set_cons_zero, List.set_cons_succ, partB_length, hPn, Nat.add_comm 1 j, ↓hlk, ↓vGet_ptrV0 hL1, bP, hk]
    refine kCall_val (k_impl_tag2 c key (tgN c key D j) p.1 (tgN c key D j).length p.2 hk (Nat.le_refl _) hp1 (by omega)) (by rfl) [(D.length + 3, 0), (D.length + 4, 0), (D.length + 5, 0), (D.length + 8, 0), (D.length + 7, 0), (j + 1, 0)] (by simp [CALL, SCB, instL_cip, okL_cip, k_inst, k_ok, e_inst, e_take, e_ok, Cip.bl, okL, okV, partB_length, bPs_length, cellsAt, partB_skip hPn, ↓hlk, (by omega : j < D.length + 9), (by omega : j < D.length + 8)]) (by simp [CALL, SCB, instL_cip, okL_cip, k_inst, k_ok, e_inst, e_take, e_ok, Cip.bl, okL, okV, partB_length, bPs_length, cellsAt, partB_skip hPn, ↓hlk, (by omega : j < D.length + 9), (by omega : j < D.length + 8)]) (by simp [CALL, SCB, instL_cip, okL_cip, k_inst, k_ok, e_inst, e_take, e_ok, Cip.bl, okL, okV, partB_length, bPs_length, cellsAt, partB_skip hPn, ↓hlk, (by omega : j < D.length + 9), (by omega : j < D.length + 8)]) (by simp [okL_bs, okL_room, okL, okV, instL_cip, okL_cip, k_inst, k_ok, e_inst, e_take, e_ok, Cip.bl, okL, okV, partB_length, bPs_length, cellsAt, partB_skip hPn, ↓hlk, (by omega : j < D.length + 9), (by omega : j < D.length + 8)]) ?_
    simp (config := { maxSteps := 2000000 }) only [CALL, ↓VC, VP, TT, Nat.reduceEqDiff, reduceCtorEq, Nat.reduceAdd, Nat.reduceSub, Nat.reduceLT, Nat.reduceMul, Nat.reducePow, Nat.reduceLeDiff, Int.reduceToNat, Int.reduceLE, Int.reduceLT, Int.reducePow, GOB, Cip.bl, e_inst0, k_inst, k_len, ↓k_all, dig_len, tag_len, partB_length, bPs_length, ptrV_length, bP, List.append_assoc, List.cons_append, ← tgN_eq hpi, tgN_len, hk, List.append_assoc, List.cons_append, List.nil_append, partB_skip hPn, partB_skip0 hPn, partB_set hPn, partB_set0 hPn, List.set_cons_zero, List.set_cons_succ, partB_length, hPn, flatZ, Nat.mul_one, bs_length, List.length_replicate, Nat.le_refl, if_true, splice_bs, splB0 (show (tgN c key D (j + 1)).length = (List.replicate 32 (0 : UInt8)).length by rw [tgN_len, List.length_replicate])]
    refine ⟨by omega, by omega, by omega, .inr (by omega), .inr trivial, fun r2 c2 e5 e6 => ?_⟩
    refine ⟨(j + 1, c2 - (j + 1)), by simp only; omega, by simp only; omega, List.range (D.length + 6) ++ [D.length + 11, D.length + 9], ?_⟩
    have e7 : List.take (j * 32) (bs (tgL c key D j) ++ List.replicate (32 * r) V.j) ++ (bs (tgN c key D (j + 1)) ++ List.replicate r2 V.j) = bs (tgL c key D (j + 1)) ++ List.replicate r2 .j := by
      rw [take_room (by rw [hS, Nat.mul_comm]), ← List.append_assoc, bs_append, ← tgL]
    rw [e7]
    simp only [tgN_len, show j + 1 + (c2 - (j + 1)) = c2 by omega, show 32 * (c2 - (j + 1)) = r2 by omega]
    rw [wrap_i64 (by omega) (by omega)]
    refine LeS_nx (a := D.length + 6) (B := [_, _]) [⟨true, c.cells⟩, ⟨true, bs key⟩, ⟨true, c.eng (D.length + 4) (D.length + 5)⟩, ⟨true, bs c.t1⟩, ⟨true, bs c.t2⟩] (by simp [partB_length, hPn]) (by omega) (by simp; rfl) (by simp) (by simp) rfl (by simp [leTm, leV, V.ren, range_getD_lt, range_getD_ge, range_getD_eq]) ?_ (by simp [leHp, partB_skip hPn, renL_room, renL_bs]) (by simp [okL, okV]) (by simp [okL_room, okL_bs])
    exact stB_cons (stL_ptrV (by omega)) (stB_app (stB_part bPs_st) (stB_cons (k_st _) (stB_cons (stL_bs _ _) (stB_cons (e_st (by omega) (by omega)) (stB_cons (stL_bs _ _) (stB_cons (stL_bs _ _) stB_nil))))))
  · obtain rfl : j = D.length := by omega
    simp only [↓VC, VP, TT, Nat.reduceEqDiff, reduceCtorEq, Nat.reduceAdd, Nat.reduceSub, Nat.reduceLT, Nat.reduceMul, Nat.reducePow, Nat.reduceLeDiff, Int.reduceToNat, Int.reduceLE, Int.reduceLT, Int.reducePow, (eq_false (by omega) : ((D.length : Int) < (D.length : Int)) = False), decide_false, List.cons_append]
    refine ⟨_, _, List.range (D.length + 1) ++ [D.length + 6], ⟨r, trivial, rfl, rfl⟩, ?_⟩
    refine LeS_nx (a := D.length + 1) (B := [_]) [] (by simp [partB_length, hPn]) (by omega) (by simp; rfl) (by simp) (by simp) rfl (by simp [leTm, leV, V.ren, V.renL, range_getD_lt, range_getD_ge, range_getD_eq]) (stB_cons (stL_ptrV (by omega)) (stB_app (stB_part bPs_st) stB_nil)) (by simp [leHp, partB_skip hPn, renL_room]) (by simp [okL, okV]) (by simp [okL_room])
theorem lstE_no {z n : Int} {box A pl : List UInt8} {D : List (List UInt8 × Nat)} (h : ¬ (cipB z box A pl n = true ∧ D.length ≤ 20 ∧ bigB D = false)) : lstE z box A pl n D ≠ 0 := by
  unfold lstE
  split
  · rw [if_pos]
    · decide
    · rename_i h1
      by_cases h2 : 20 < D.length
      · exact .inl h2
      · refine .inr ?_
        cases hb : bigB D with
        | true => rfl
        | false => exact absurd ⟨h1, by omega, hb⟩ h
  · decide
theorem bigB_all {D : List (List UInt8 × Nat)} (h : bigB D = false) : ∀ p ∈ D, p.1.length ≤ 2000 := fun p hp => bigB_get h hp
theorem c_spec_ChainOfTags_no (z n : Int) (box A pl key : List UInt8) (hb : box.length = 256) (hA : A.length = 16) (hp : pl.length = 16) (hk : key.length = 16) (D : List (List UInt8 × Nat)) (c : Nat) (hm : D.length ≤ 1048576) (hL : ∀ p ∈ D, p.1.length ≤ 1048576) (hE : lstE z box A pl n D ≠ 0) : LC Tryz.prog 20 [.a (cipC z box A pl n), .a (bs key), .s 0 0 D.length c] (⟨false, ptrV 1 (bPs D)⟩ :: partB false (bPs D))
    (Ret (⟨false, ptrV 1 (bPs D)⟩ :: partB false (bPs D)) (fun _ : Unit => True) fun _ => (.t [.c (.slice none 0 0), .c (.int .i64 (lstE z box A pl n D))], [])) := by
  have hPn := bPs_length D
  refine LC_of (X := XX (fun _ => .nil) (fun _ => []) [15, 71, 72, 73, 79, 80, 87, 90, 91, 93, 99, 119, 137, 176, 177, 203, 204, 212, 219] (D.length + 1)) envOK Tryz.func20 (by kernel_rfl) (by kernel_rfl) (by simp [XX, partB_length, bPs_length]) (Nat.le_of_ble_eq_true (by kernel_rfl)) ?_
  simp only [kFun, Tryz.f20, List.length_nil, List.length_cons, Nat.sub_zero, Nat.reduceSub, Nat.reduceAdd, List.nil_append, List.cons_append, List.replicate_succ, List.replicate_zero]
  simp only [XX, ↓VC, VP, TT, Nat.reduceEqDiff, reduceCtorEq, Nat.reduceAdd, Nat.reduceSub, Nat.reduceLT, Nat.reduceMul, Nat.reducePow, Nat.reduceLeDiff, Int.reduceToNat, Int.reduceLE, Int.reduceLT, Int.reducePow, cipC_len hb hA hp, ↓cip_all hb hA hp, hk, partB_length, bPs_length, partB_skip hPn, partB_skip0 hPn, List.append_assoc, List.cons_append, List.nil_append]
  refine kCall_val (c_spec_l08Lists z n box A pl hb hA hp D c hm hL) (by rfl) ((0, 0) :: rng 1 D.length) (by simp [CALL, instL_cip]) seg_nest0 (by simp [okL, okV, okL_cip]) (okB_nest (by simp [partB_length, hPn])) ?_
  simp only [CALL, ↓VC, VP, TT, Nat.reduceEqDiff, reduceCtorEq, Nat.reduceAdd, Nat.reduceSub, Nat.reduceLT, Nat.reduceMul, Nat.reducePow, Nat.reduceLeDiff, Int.reduceToNat, Int.reduceLE, Int.reduceLT, Int.reducePow, cipC_len hb hA hp, ↓cip_all hb hA hp, hk, partB_length, bPs_length, partB_skip hPn, partB_skip0 hPn, List.append_assoc, List.cons_append, List.nil_append, (bne_iff_ne.2 hE : (lstE z box A pl n D != 0) = true)]
  exact ⟨_, _, List.range (D.length + 1), ⟨(), trivial, rfl, (List.append_nil _).symm⟩, LeS_nest rfl rfl (by simp [leT]) (by simp [stL, stV])⟩
theorem c_impl_ChainOfTags_no (z n : Int) (box A pl key : List UInt8) (hb : box.length = 256) (hA : A.length = 16) (hp : pl.length = 16) (hk : key.length = 16) (D : List (List UInt8 × Nat)) (c : Nat) (hm : D.length ≤ 1048576) (hE : lstE z box A pl n D ≠ 0) : LC Tryz.prog 19 [.a (cipC z box A pl n), .a (bs key), .s 0 0 D.length c] (⟨false, ptrV 1 (bPs D)⟩ :: partB false (bPs D))
    (Ret (⟨false, ptrV 1 (bPs D)⟩ :: partB false (bPs D)) (fun _ : Unit => True) fun _ => (.t [.c (.slice none 0 0), .c (.int .i64 (lstE z box A pl n D))], [])) := by
  have hPn := bPs_length D
  refine LC_of (X := XX (fun | 11 => .one 0 (.one 1 (.one 4 (.one 2 (.one 3 (.one 5 (.one 6 .nil)))))) | _ => .nil) (fun _ => []) [15, 71, 72, 73, 79, 80, 87, 90, 91, 93, 99, 119, 137, 176, 177, 203, 204, 212, 219] (D.length + 1)) envOK Tryz.func19 (by kernel_rfl) (by kernel_rfl) (by simp [XX, partB_length, bPs_length]) (Nat.le_of_ble_eq_true (by kernel_rfl)) ?_
  simp only [kFun, Tryz.f19, List.length_nil, List.length_cons, Nat.sub_zero, Nat.reduceSub, Nat.reduceAdd, List.nil_append, List.cons_append, List.replicate_succ, List.replicate_zero]
  simp only [XX, ↓VC, VP, TT, Nat.reduceEqDiff, reduceCtorEq, Nat.reduceAdd, Nat.reduceSub, Nat.reduceLT, Nat.reduceMul, Nat.reducePow, Nat.reduceLeDiff, Int.reduceToNat, Int.reduceLE, Int.reduceLT, Int.reducePow, cipC_len hb hA hp, ↓cip_all hb hA hp, hk, partB_length, bPs_length, partB_skip hPn, partB_skip0 hPn, List.append_assoc, List.cons_append, List.nil_append]
  refine kCall_val (c_impl_checkDigestN z n box A pl hb hA hp D c hm) (by rfl) ((0, 0) :: rng 1 D.length) (by simp [CALL, instL_cip]) seg_nest0 (by simp [okL, okV, okL_cip]) (okB_nest (by simp [partB_length, hPn])) ?_
  by_cases h0 : lstI z box A pl n D = 0
  · rw [h0]
    simp only [CALL, ↓VC, VP, TT, Nat.reduceEqDiff, reduceCtorEq, Nat.reduceAdd, Nat.reduceSub, Nat.reduceLT, Nat.reduceMul, Nat.reducePow, Nat.reduceLeDiff, Int.reduceToNat, Int.reduceLE, Int.reduceLT, Int.reducePow, cipC_len hb hA hp, ↓cip_all hb hA hp, hk, partB_length, bPs_length, partB_skip hPn, partB_skip0 hPn, List.append_assoc, List.cons_append, List.nil_append, bne_self_eq_false]
    have h20 : 20 < D.length ∧ lstE z box A pl n D = 2 := by
      unfold lstI at h0
      unfold lstE at hE ⊢
      by_cases hc : cipB z box A pl n = true
      · rw [if_pos hc] at h0 hE ⊢
        by_cases hb : bigB D = true
        · rw [if_pos hb] at h0; exact absurd h0 (by decide)
        · by_cases hd : 20 < D.length
          · exact ⟨hd, if_pos (.inl hd)⟩
          · rw [if_neg (by rintro (x | x); exact hd x; exact hb x)] at hE; exact absurd rfl hE
      · rw [if_neg hc] at h0; exact absurd h0 (by decide)
    simp only [↓VC, VP, TT, Nat.reduceEqDiff, reduceCtorEq, Nat.reduceAdd, Nat.reduceSub, Nat.reduceLT, Nat.reduceMul, Nat.reducePow, Nat.reduceLeDiff, Int.reduceToNat, Int.reduceLE, Int.reduceLT, Int.reducePow, (eq_true (by omega) : ((D.length : Int) > 20) = True), decide_true, h20.2]
    exact ⟨_, _, List.range (D.length + 1), ⟨(), trivial, rfl, (List.append_nil _).symm⟩, LeS_nest rfl rfl (by simp [leT]) (by simp [stL, stV])⟩
  · have e : lstI z box A pl n D = lstE z box A pl n D := by
      unfold lstI at h0 ⊢
      unfold lstE
      by_cases hc : cipB z box A pl n = true
      · rw [if_pos hc] at h0 ⊢
        by_cases hb : bigB D = true
        · rw [if_pos hb, if_pos hc, if_pos (.inr hb)]
        · rw [if_neg hb] at h0; exact absurd rfl h0
      · rw [if_neg hc, if_neg hc]
    rw [e]
    simp only [CALL, ↓VC, VP, TT, Nat.reduceEqDiff, reduceCtorEq, Nat.reduceAdd, Nat.reduceSub, Nat.reduceLT, Nat.reduceMul, Nat.reducePow, Nat.reduceLeDiff, Int.reduceToNat, Int.reduceLE, Int.reduceLT, Int.reducePow, cipC_len hb hA hp, ↓cip_all hb hA hp, hk, partB_length, bPs_length, partB_skip hPn, partB_skip0 hPn, List.append_assoc, List.cons_append, List.nil_append, (bne_iff_ne.2 hE : (lstE z box A pl n D != 0) = true)]
    exact ⟨_, _, List.range (D.length + 1), ⟨(), trivial, rfl, (List.append_nil _).symm⟩, LeS_nest rfl rfl (by simp [leT]) (by simp [stL, stV])⟩
theorem k_spec_ChainOfTags (c : Cip) (key : List UInt8) (hk : key.length = 16) (D : List (List UInt8 × Nat)) (cc : Nat) (hm : D.length ≤ 20) (hL : ∀ p ∈ D, p.1.length ≤ p.2 ∧ p.1.length ≤ 2000) : LC Tryz.prog 20 [.a c.cells, .a (bs key), .s 0 0 D.length cc] (⟨false, ptrV 1 (bPs D)⟩ :: partB false (bPs D))
    (Ret (⟨false, ptrV 1 (bPs D)⟩ :: partB false (bPs D)) (fun _ : Nat => True) fun r => (.t [.s (D.length + 1) 0 D.length (D.length + r), .c (.int .i64 (0))], [⟨true, bs (tgL c key D D.length) ++ List.replicate (32 * r) .j⟩])) := by
  have hPn := bPs_length D
  have key1 := c_spec_l08Lists c.m c.n c.box c.A c.pl c.hb c.hA c.hp D cc (by omega) fun p hp => by have := (hL p hp).2; omega
  have e0 : lstE c.m c.box c.A c.pl c.n D = 0 := by
    have : bigB D = false := by
      unfold bigB; rw [List.any_eq_false]; intro p hp; have := (hL p hp).2; simpa using this
    unfold lstE; rw [if_pos c.is, this, if_neg]; simp; omega
  rw [e0] at key1
  rw [show cipC c.m c.box c.A c.pl c.n = c.cells from rfl] at *
  refine LC_of (X := XX (fun _ => .nil) (fun _ => []) [15, 71, 72, 73, 79, 80, 87, 90, 91, 93, 99, 119, 137, 176, 177, 203, 204, 212, 219] (D.length + 1)) envOK Tryz.func20 (by kernel_rfl) (by kernel_rfl) (by simp [XX, partB_length, bPs_length]) (Nat.le_of_ble_eq_true (by kernel_rfl)) ?_
  simp only [kFun, Tryz.f20, List.length_nil, List.length_cons, Nat.sub_zero, Nat.reduceSub, Nat.reduceAdd, List.nil_append, List.cons_append, List.replicate_succ, List.replicate_zero]
  simp only [XX, ↓VC, VP, TT, Nat.reduceEqDiff, reduceCtorEq, Nat.reduceAdd, Nat.reduceSub, Nat.reduceLT, Nat.reduceMul, Nat.reducePow, Nat.reduceLeDiff, Int.reduceToNat, Int.reduceLE, Int.reduceLT, Int.reducePow, k_len, ↓k_all, hk, partB_length, bPs_length, partB_skip hPn, partB_skip0 hPn, List.append_assoc, List.cons_append, List.nil_append]
  refine kCall_val key1 (by rfl) ((0, 0) :: rng 1 D.length) (by simp [CALL, k_inst]) seg_nest0 (by simp [okL, okV, k_ok]) (okB_nest (by simp [partB_length, hPn])) ?_
  simp only [CALL, ↓VC, VP, TT, Nat.reduceEqDiff, reduceCtorEq, Nat.reduceAdd, Nat.reduceSub, Nat.reduceLT, Nat.reduceMul, Nat.reducePow, Nat.reduceLeDiff, Int.reduceToNat, Int.reduceLE, Int.reduceLT, Int.reducePow, ↓k_all, k_len, hk, partB_length, bPs_length, partB_skip hPn, partB_skip0 hPn, List.append_assoc, List.cons_append, List.nil_append, bne_self_eq_false]
  refine kCall_Ret (k_spec_chain c key hk D cc hm hL) (by rfl) ((0, 0) :: rng 1 D.length) (by simp [CALL, k_inst, instL_bs]) seg_nest0 (by simp [okL, okV, k_ok, okL_bs]) (okB_nest (by simp [partB_length, hPn])) (by simp [okL_room]) fun r _ => ?_
  simp only [CALL, ↓VC, VP, TT, Nat.reduceEqDiff, reduceCtorEq, Nat.reduceAdd, Nat.reduceSub, Nat.reduceLT, Nat.reduceMul, Nat.reducePow, Nat.reduceLeDiff, Int.reduceToNat, Int.reduceLE, Int.reduceLT, Int.reducePow, hk, partB_length, hPn, rng_length, rng_end, instL_room, List.append_assoc, List.cons_append, List.nil_append]
  refine ⟨_, _, List.range (D.length + 1) ++ [D.length + 3], ⟨r, trivial, rfl, rfl⟩, ?_⟩
  refine LeS_nx (a := D.length + 1) (B := [_]) [] (by simp [partB_length, hPn]) (by omega) (by simp; rfl) (by simp) (by simp) rfl (by simp [leTm, leV, V.ren, V.renL, range_getD_lt, range_getD_ge, range_getD_eq]) (stB_cons (stL_ptrV (by omega)) (stB_app (stB_part bPs_st) stB_nil)) (by simp [leHp, partB_skip hPn, renL_room]) (by simp [okL, okV]) (by simp [okL_room])
end Go.Proofs.YtahnjhppkgndiaaGreat
/- The first broken tag: both functions. -/
set_option linter.unusedSimpArgs false
set_option linter.unusedVariables false
namespace Go.Proofs.YtahnjhppkgndiaaGreat
open Go Go.Vc
set_option maxRecDepth 10000
set_option maxHeartbeats 4000000
/-- The first place at which digests differ. -/
def fbF (A B : List UInt8) : Nat → Nat → Nat
  | 0, i => i
  | f + 1, i => if dgA A i = dgA B i then fbF A B f (i + 1) else i
theorem LeS_nestX {D : List (List UInt8 × Nat)} {N : Nat} {tm tm' : List V} {hp ex : List Blk} {T : List UInt8} (hN : N = D.length + 2) (he : hp = ⟨false, ptrV 1 (bPs D)⟩ :: (partB false (bPs D) ++ ⟨false, bs T⟩ :: ex)) (ht : leT tm tm') (hs : stL N tm') : LeS N (List.range N) tm hp tm' (⟨false, ptrV 1 (bPs D)⟩ :: (partB false (bPs D) ++ [⟨false, bs T⟩])) :=
  LeS_id (ex := ex) (by simp [partB_length, bPs_length, hN]) (Nat.le_refl _) (by rw [he]; simp) ht hs (stB_cons (stL_ptrV (by rw [bPs_length]; omega)) (stB_app (stB_part bPs_st) (stB_cons (stL_bs _ _) stB_nil)))
theorem k_spec_FirstBroken (c : Cip) (key T : List UInt8) (hk : key.length = 16) (D : List (List UInt8 × Nat)) (cc ct : Nat) (hm : D.length ≤ 20) (hL : ∀ p ∈ D, p.1.length ≤ p.2 ∧ p.1.length ≤ 2000) (hT : T.length = 32 * D.length) (hct : D.length ≤ ct) : LC Tryz.prog 18 [.a c.cells, .a (bs key), .s 0 0 D.length cc, .s (D.length + 1) 0 D.length ct] (⟨false, ptrV 1 (bPs D)⟩ :: (partB false (bPs D) ++ [⟨false, bs T⟩]))
    (fun v hp => v = .t [.c (.int .i64 ((fbF (tgL c key D D.length) T D.length 0 : Nat))), .c (.int .i64 (0))] ∧ hp = (⟨false, ptrV 1 (bPs D)⟩ :: (partB false (bPs D) ++ [⟨false, bs T⟩]))) := by
  have hPn := bPs_length D
  have key1 := c_spec_l08Lists c.m c.n c.box c.A c.pl c.hb c.hA c.hp D cc (by omega) fun p hp => by have := (hL p hp).2; omega
  have e0 : lstE c.m c.box c.A c.pl c.n D = 0 := by
    have : bigB D = false := by
      unfold bigB; rw [List.any_eq_false]; intro p hp; have := (hL p hp).2; simpa using this
    unfold lstE; rw [if_pos c.is, this, if_neg]; simp; omega
  rw [e0] at key1
  rw [show cipC c.m c.box c.A c.pl c.n = c.cells from rfl] at *
  refine LC_of (X := XX (fun | 10 => .one 0 (.one 1 (.one 2 (.one 3 (.one 4 (.one 5 (.one 6 (.one 7 (.one 8 .nil)))))))) | _ => .nil) (fun _ => []) [15, 71, 72, 73, 79, 80, 87, 90, 91, 93, 99, 119, 137, 176, 177, 203, 204, 212, 219] (D.length + 2)) envOK Tryz.func18 (by kernel_rfl) (by kernel_rfl) (by simp [XX, partB_length, bPs_length]) (Nat.le_of_ble_eq_true (by kernel_rfl)) ?_
  simp only [kFun, Tryz.f18, List.length_nil, List.length_cons, Nat.sub_zero, Nat.reduceSub, Nat.reduceAdd, List.nil_append, List.cons_append, List.replicate_succ, List.replicate_zero]
  simp only [XX, ↓VC, VP, TT, Nat.reduceEqDiff, reduceCtorEq, Nat.reduceAdd, Nat.reduceSub, Nat.reduceLT, Nat.reduceMul, Nat.reducePow, Nat.reduceLeDiff, Int.reduceToNat, Int.reduceLE, Int.reduceLT, Int.reducePow, k_len, ↓k_all, hk, partB_length, bPs_length, partB_skip hPn, partB_skip0 hPn, List.append_assoc, List.cons_append, List.nil_append]
  refine kCall_val key1 (by rfl) ((0, 0) :: rng 1 D.length) (by simp [CALL, k_inst]) seg_nest0 (by simp [okL, okV, k_ok]) (okB_nest (by simp [partB_length, hPn])) ?_
  simp only [CALL, ↓VC, VP, TT, Nat.reduceEqDiff, reduceCtorEq, Nat.reduceAdd, Nat.reduceSub, Nat.reduceLT, Nat.reduceMul, Nat.reducePow, Nat.reduceLeDiff, Int.reduceToNat, Int.reduceLE, Int.reduceLT, Int.reducePow, ↓k_all, k_len, hk, partB_length, bPs_length, partB_skip hPn, partB_skip0 hPn, List.append_assoc, List.cons_append, List.nil_append, bne_self_eq_false, beq_self_eq_true]
  refine kCall_Ret (k_spec_chain c key hk D cc hm hL) (by rfl) ((0, 0) :: rng 1 D.length) (by simp [CALL, k_inst, instL_bs]) seg_nest0 (by simp [okL, okV, k_ok, okL_bs]) (okB_nest (by simp [partB_length, hPn])) (by simp [okL_room]) fun r _ => ?_
  simp only [CALL, ↓VC, VP, TT, Nat.reduceEqDiff, reduceCtorEq, Nat.reduceAdd, Nat.reduceSub, Nat.reduceLT, Nat.reduceMul, Nat.reducePow, Nat.reduceLeDiff, Int.reduceToNat, Int.reduceLE, Int.reduceLT, Int.reducePow, hk, partB_length, hPn, rng_length, rng_end, instL_room, List.append_assoc, List.cons_append, List.nil_append]
  have hA := tgL_len (c := c) (key := key) (D := D) D.length
  generalize tgL c key D D.length = A at *
  have hst : ∀ b ∈ (⟨false, ptrV 1 (bPs D)⟩ : Blk) :: (partB false (bPs D) ++ [⟨false, bs T⟩, ⟨true, c.cells⟩, ⟨true, bs key⟩, ⟨true, bs A ++ List.replicate (32 * r) .j⟩]), stL (D.length + 5) b.cells :=
    stB_cons (stL_ptrV (by omega)) (stB_app (stB_part bPs_st) (stB_cons (stL_bs _ _) (stB_cons (k_st _) (stB_cons (stL_bs _ _) (stB_cons (stL_room _ _ _) stB_nil)))))
  refine kLoop_of (fun i : Nat => ([.j, .j, .j, .s (D.length + 1) 0 D.length ct, .j, .j, .j, .j, .j, .j, .j, .s (D.length + 4) 0 D.length (D.length + r), .c (.int .i64 (i)), .j, .j, .j, .j, .j, .j, .j, .j, .j, .j, .j, .j, .j, .j, .j, .j, .j, .j, .j, .j, .j, .j, .j, .j, .j, .j, .j, .j, .j, .j, .j, .j, .j, .j, .j, .j, .j], ⟨false, ptrV 1 (bPs D)⟩ :: (partB false (bPs D) ++ [⟨false, bs T⟩, ⟨true, c.cells⟩, ⟨true, bs key⟩, ⟨true, bs A ++ List.replicate (32 * r) .j⟩]))) (fun i => D.length - i) (fun i => i ≤ D.length ∧ fbF A T (D.length - i) i = fbF A T D.length 0) 0 (by simp) ⟨List.range (D.length + 5), ?_⟩ ?_
  · refine LeS_id (ex := []) (by simp [partB_length, hPn]) (Nat.le_add_right _ 3) (by simp) (by simp [leT]) (by simp [stL, stV]) hst
  rintro i ⟨hi, hf⟩
  rcases Nat.lt_or_ge i D.length with h | h
  · have hA1 : i * 32 + 32 ≤ A.length := by omega
    have hT1 : i * 32 + 32 ≤ T.length := by omega
    rw [show D.length - i = (D.length - (i + 1)) + 1 by omega, fbF] at hf
    simp only [↓VC, VP, TT, Nat.reduceEqDiff, reduceCtorEq, Nat.reduceAdd, Nat.reduceSub, Nat.reduceLT, Nat.reduceMul, Nat.reducePow, Nat.reduceLeDiff, Int.reduceToNat, Int.reduceLE, Int.reduceLT, Int.reducePow, (eq_true (by omega) : ((i : Int) < (D.length : Int)) = True), decide_true, List.cons_append, List.append_assoc, List.nil_append, partB_skip hPn, partB_skip0 hPn, ↓vSub_appL (l := bs A) (o := i * 32) (n := 32) (by rw [bs_length]; exact hA1), dgA_eq, hA1, hT1]
    refine ⟨dgA_len hA h, dgA_len hT h, intCells_bs _, intCells_bs _, fun b hb => ⟨fun h1 => ?_, fun h1 => ?_⟩⟩
    · have hne : dgA A i ≠ dgA T i := fun e => by rw [bs_inj.symm, ← hb] at e; rw [e] at h1; exact absurd h1 (by decide)
      rw [if_neg hne] at hf
      rw [← hf]
      exact ⟨_, _, List.range (D.length + 2), ⟨rfl, rfl⟩, LeS_nestX rfl rfl (by simp [leT]) (by simp [stL, stV])⟩
    · have he : dgA A i = dgA T i := by
        rw [← bs_inj, ← hb]
        simpa using h1
      rw [if_pos he] at hf
      refine ⟨i + 1, ⟨by omega, hf⟩, by omega, List.range (D.length + 5), ?_⟩
      rw [wrap_i64 (by omega) (by omega)]
      refine LeS_id (ex := []) (by simp [partB_length, hPn]) (Nat.le_add_right _ 3) (by simp) (by simp [leT]) (by simp [stL, stV]) hst
  · obtain rfl : i = D.length := by omega
    simp only [↓VC, VP, TT, Nat.reduceEqDiff, reduceCtorEq, Nat.reduceAdd, Nat.reduceSub, Nat.reduceLT, Nat.reduceMul, Nat.reducePow, Nat.reduceLeDiff, Int.reduceToNat, Int.reduceLE, Int.reduceLT, Int.reducePow, (eq_false (by omega) : ((D.length : Int) < (D.length : Int)) = False), decide_false, List.cons_append]
    rw [Nat.sub_self, fbF] at hf
    rw [← hf]
    exact ⟨_, _, List.range (D.length + 2), ⟨rfl, rfl⟩, LeS_nestX rfl rfl (by simp [leT]) (by simp [stL, stV])⟩
theorem c_impl_lengthN (D : List (List UInt8 × Nat)) (c : Nat) : LC Tryz.prog 92 [.s 0 0 D.length c] (⟨false, ptrV 1 (bPs D)⟩ :: partB false (bPs D)) (fun v hp => v = .c (.int .i64 ((D.length : Nat))) ∧ hp = (⟨false, ptrV 1 (bPs D)⟩ :: partB false (bPs D))) := by
  refine LC_of (X := XX (fun _ => .nil) (fun _ => []) [15, 71, 72, 73, 79, 80, 87, 90, 91, 93, 99, 119, 137, 176, 177, 203, 204, 212, 219] (D.length + 1)) envOK Tryz.func92 (by kernel_rfl) (by kernel_rfl) (by simp [XX, partB_length, bPs_length]) (Nat.le_of_ble_eq_true (by kernel_rfl)) ?_
  simp only [kFun, Tryz.f92, List.length_nil, List.length_cons, Nat.sub_zero, Nat.reduceSub, Nat.reduceAdd, List.nil_append, List.cons_append, List.replicate_succ, List.replicate_zero]
  simp only [XX, ↓VC, VP, TT, Nat.reduceEqDiff, reduceCtorEq, Nat.reduceAdd, Nat.reduceSub, Nat.reduceLT, Nat.reduceMul, Nat.reducePow, Nat.reduceLeDiff, Int.reduceToNat, Int.reduceLE, Int.reduceLT, Int.reducePow, partB_length, bPs_length]
  exact ⟨_, _, List.range (D.length + 1), ⟨rfl, rfl⟩, LeS_nest rfl (List.append_nil _).symm (by simp [leT]) (by simp [stL, stV])⟩
theorem k_impl_FirstBroken (c : Cip) (key T : List UInt8) (hk : key.length = 16) (D : List (List UInt8 × Nat)) (cc ct : Nat) (hm : D.length ≤ 20) (hL : ∀ p ∈ D, p.1.length ≤ p.2 ∧ p.1.length ≤ 2000) (hT : T.length = 32 * D.length) (hct : D.length ≤ ct) : LC Tryz.prog 17 [.a c.cells, .a (bs key), .s 0 0 D.length cc, .s (D.length + 1) 0 D.length ct] (⟨false, ptrV 1 (bPs D)⟩ :: (partB false (bPs D) ++ [⟨false, bs T⟩]))
    (fun v hp => v = .t [.c (.int .i64 ((fbF (tgL c key D D.length) T D.length 0 : Nat))), .c (.int .i64 (0))] ∧ hp = (⟨false, ptrV 1 (bPs D)⟩ :: (partB false (bPs D) ++ [⟨false, bs T⟩]))) := by
  have hPn := bPs_length D
  have key1 := k_impl_ChainOfTags c key hk D cc hm hL
  refine LC_of (X := XX (fun | 9 => .one 0 (.one 1 (.one 2 (.one 3 (.one 4 (.one 5 .nil))))) | _ => .nil) (fun _ => []) [15, 71, 72, 73, 79, 80, 87, 90, 91, 93, 99, 119, 137, 176, 177, 203, 204, 212, 219] (D.length + 2)) envOK Tryz.func17 (by kernel_rfl) (by kernel_rfl) (by simp [XX, partB_length, bPs_length]) (Nat.le_of_ble_eq_true (by kernel_rfl)) ?_
  simp only [kFun, Tryz.f17, List.length_nil, List.length_cons, Nat.sub_zero, Nat.reduceSub, Nat.reduceAdd, List.nil_append, List.cons_append, List.replicate_succ, List.replicate_zero]
  simp only [XX, ↓VC, VP, TT, Nat.reduceEqDiff, reduceCtorEq, Nat.reduceAdd, Nat.reduceSub, Nat.reduceLT, Nat.reduceMul, Nat.reducePow, Nat.reduceLeDiff, Int.reduceToNat, Int.reduceLE, Int.reduceLT, Int.reducePow, k_len, ↓k_all, hk, partB_length, bPs_length, partB_skip hPn, partB_skip0 hPn, List.append_assoc, List.cons_append, List.nil_append]
  refine kCall_Ret key1 (by rfl) ((0, 0) :: rng 1 D.length) (by simp [CALL, k_inst, instL_bs]) seg_nest0 (by simp [okL, okV, k_ok, okL_bs]) (okB_nest (by simp [partB_length, hPn])) (by simp [okL_room]) fun r _ => ?_
  simp only [CALL, ↓VC, VP, TT, Nat.reduceEqDiff, reduceCtorEq, Nat.reduceAdd, Nat.reduceSub, Nat.reduceLT, Nat.reduceMul, Nat.reducePow, Nat.reduceLeDiff, Int.reduceToNat, Int.reduceLE, Int.reduceLT, Int.reducePow, hk, partB_length, hPn, rng_length, rng_end, instL_room, List.append_assoc, List.cons_append, List.nil_append, bne_self_eq_false]
  have hA := tgL_len (c := c) (key := key) (D := D) D.length
  generalize tgL c key D D.length = A at *
  have hst : ∀ b ∈ (⟨false, ptrV 1 (bPs D)⟩ : Blk) :: (partB false (bPs D) ++ [⟨false, bs T⟩, ⟨true, c.cells⟩, ⟨true, bs key⟩, ⟨true, bs A ++ List.replicate (32 * r) .j⟩]), stL (D.length + 5) b.cells :=
    stB_cons (stL_ptrV (by omega)) (stB_app (stB_part bPs_st) (stB_cons (stL_bs _ _) (stB_cons (k_st _) (stB_cons (stL_bs _ _) (stB_cons (stL_room _ _ _) stB_nil)))))
  refine kLoop_of (fun i : Nat => ([.j, .j, .s 0 0 D.length cc, .s (D.length + 1) 0 D.length ct, .j, .j, .j, .j, .j, .j, .j, .j, .j, .j, .j, .j, .j, .j, .j, .j, .j, .j, .j, .j, .j, .j, .j, .j, .j, .j, .j, .s (D.length + 4) 0 D.length (D.length + r), .c (.int .i64 (D.length)), .c (.int .i64 (i)), .j, .j, .j, .j, .j, .j, .j, .j, .j, .j, .j, .j, .j, .j], ⟨false, ptrV 1 (bPs D)⟩ :: (partB false (bPs D) ++ [⟨false, bs T⟩, ⟨true, c.cells⟩, ⟨true, bs key⟩, ⟨true, bs A ++ List.replicate (32 * r) .j⟩]))) (fun i => D.length - i) (fun i => i ≤ D.length ∧ fbF A T (D.length - i) i = fbF A T D.length 0) 0 (by simp) ⟨List.range (D.length + 5), ?_⟩ ?_
  · refine LeS_id (ex := []) (by simp [partB_length, hPn]) (Nat.le_add_right _ 3) (by simp) (by simp [leT]) (by simp [stL, stV]) hst
  rintro i ⟨hi, hf⟩
  rcases Nat.lt_or_ge i D.length with h | h
  · have hA1 : i * 32 + 32 ≤ A.length := by omega
    have hT1 : i * 32 + 32 ≤ T.length := by omega
    have hdA := dgA_len hA h
    have hdT := dgA_len hT h
    rw [show D.length - i = (D.length - (i + 1)) + 1 by omega, fbF] at hf
    simp only [↓VC, VP, TT, Nat.reduceEqDiff, reduceCtorEq, Nat.reduceAdd, Nat.reduceSub, Nat.reduceLT, Nat.reduceMul, Nat.reducePow, Nat.reduceLeDiff, Int.reduceToNat, Int.reduceLE, Int.reduceLT, Int.reducePow, (eq_true (by omega) : ((i : Int) < (D.length : Int)) = True), decide_true, List.cons_append, List.append_assoc, List.nil_append, partB_skip hPn, partB_skip0 hPn, partB_set hPn, partB_set0 hPn, List.set_cons_zero, List.set_cons_succ, partB_length, hPn, ↓vSub_appL (l := bs A) (o := i * 32) (n := 32) (by rw [bs_length]; exact hA1), dgA_eq, hA1, hT1, hdA, hdT, flatZ, Nat.mul_one, bs_length, List.length_replicate, Nat.le_refl, if_true, splice_bs, splB0 (show (dgA A i).length = (List.replicate 32 (0 : UInt8)).length by rw [hdA, List.length_replicate])]
    refine ⟨intCells_bs _, intCells_bs _, fun b hb => ⟨fun h1 => ?_, fun h1 => ?_⟩⟩
    · have hne : dgA A i ≠ dgA T i := fun e => by rw [bs_inj.symm, ← hb] at e; rw [e] at h1; exact absurd h1 (by decide)
      rw [if_neg hne] at hf
      rw [← hf]
      exact ⟨_, _, List.range (D.length + 2), ⟨rfl, rfl⟩, LeS_nestX rfl rfl (by simp [leT]) (by simp [stL, stV])⟩
    · have he : dgA A i = dgA T i := by
        rw [← bs_inj, ← hb]
        simpa using h1
      rw [if_pos he] at hf
      refine ⟨i + 1, ⟨by omega, hf⟩, by omega, List.range (D.length + 5), ?_⟩
      rw [wrap_i64 (by omega) (by omega)]
      refine LeS_id (ex := [_]) (by simp [partB_length, hPn]) (Nat.le_add_right _ 3) (by simp; rfl) (by simp [leT]) (by simp [stL, stV]) hst
  · obtain rfl : i = D.length := by omega
    simp only [↓VC, VP, TT, Nat.reduceEqDiff, reduceCtorEq, Nat.reduceAdd, Nat.reduceSub, Nat.reduceLT, Nat.reduceMul, Nat.reducePow, Nat.reduceLeDiff, Int.reduceToNat, Int.reduceLE, Int.reduceLT, Int.reducePow, (eq_false (by omega) : ((D.length : Int) < (D.length : Int)) = False), decide_false, List.cons_append]
    rw [Nat.sub_self, fbF] at hf
    rw [← hf]
    refine kCall_val (c_impl_lengthN D cc) (by rfl) ((0, 0) :: rng 1 D.length) (by simp [CALL]) seg_nest0 (by simp [okL, okV]) (okB_nest (by simp [partB_length, hPn])) ?_
    simp only [CALL, ↓VC, VP, TT, Nat.reduceEqDiff, reduceCtorEq, Nat.reduceAdd, Nat.reduceSub, Nat.reduceLT, Nat.reduceMul, Nat.reducePow, Nat.reduceLeDiff, Int.reduceToNat, Int.reduceLE, Int.reduceLT, Int.reducePow]
    exact ⟨_, _, List.range (D.length + 2), ⟨rfl, rfl⟩, LeS_nestX rfl rfl (by simp [leT]) (by simp [stL, stV])⟩
theorem c_spec_FirstBroken_no (z n : Int) (box A pl key T : List UInt8) (hb : box.length = 256) (hA : A.length = 16) (hp : pl.length = 16) (hk : key.length = 16) (D : List (List UInt8 × Nat)) (c m ct : Nat) (hm : D.length ≤ 1048576) (hmm : m ≤ 1048576) (hL : ∀ p ∈ D, p.1.length ≤ 1048576) (hE : ¬ (lstE z box A pl n D = 0 ∧ D.length = m)) : LC Tryz.prog 18 [.a (cipC z box A pl n), .a (bs key), .s 0 0 D.length c, .s (D.length + 1) 0 m ct] (⟨false, ptrV 1 (bPs D)⟩ :: (partB false (bPs D) ++ [⟨false, bs T⟩]))
    (fun v hp => v = .t [.c (.int .i64 (0)), .c (.int .i64 ((if lstE z box A pl n D = 0 then 2 else lstE z box A pl n D)))] ∧ hp = (⟨false, ptrV 1 (bPs D)⟩ :: (partB false (bPs D) ++ [⟨false, bs T⟩]))) := by
  have hPn := bPs_length D
  refine LC_of (X := XX (fun | 10 => .one 0 (.one 1 (.one 2 (.one 3 (.one 4 (.one 5 (.one 6 (.one 7 (.one 8 .nil)))))))) | _ => .nil) (fun _ => []) [15, 71, 72, 73, 79, 80, 87, 90, 91, 93, 99, 119, 137, 176, 177, 203, 204, 212, 219] (D.length + 2)) envOK Tryz.func18 (by kernel_rfl) (by kernel_rfl) (by simp [XX, partB_length, bPs_length]) (Nat.le_of_ble_eq_true (by kernel_rfl)) ?_
  simp only [kFun, Tryz.f18, List.length_nil, List.length_cons, Nat.sub_zero, Nat.reduceSub, Nat.reduceAdd, List.nil_append, List.cons_append, List.replicate_succ, List.replicate_zero]
  simp only [XX, ↓VC, VP, TT, Nat.reduceEqDiff, reduceCtorEq, Nat.reduceAdd, Nat.reduceSub, Nat.reduceLT, Nat.reduceMul, Nat.reducePow, Nat.reduceLeDiff, Int.reduceToNat, Int.reduceLE, Int.reduceLT, Int.reducePow, cipC_len hb hA hp, ↓cip_all hb hA hp, hk, partB_length, bPs_length, partB_skip hPn, partB_skip0 hPn, List.append_assoc, List.cons_append, List.nil_append]
  refine kCall_val (c_spec_l08Lists z n box A pl hb hA hp D c hm hL) (by rfl) ((0, 0) :: rng 1 D.length) (by simp [CALL, instL_cip]) seg_nest0 (by simp [okL, okV, okL_cip]) (okB_nest (by simp [partB_length, hPn])) ?_
  by_cases h0 : lstE z box A pl n D = 0
  · have hne : D.length ≠ m := fun e => hE ⟨h0, e⟩
    rw [h0, if_pos rfl]
    simp only [CALL, ↓VC, VP, TT, Nat.reduceEqDiff, reduceCtorEq, Nat.reduceAdd, Nat.reduceSub, Nat.reduceLT, Nat.reduceMul, Nat.reducePow, Nat.reduceLeDiff, Int.reduceToNat, Int.reduceLE, Int.reduceLT, Int.reducePow, cipC_len hb hA hp, ↓cip_all hb hA hp, hk, partB_length, bPs_length, partB_skip hPn, partB_skip0 hPn, List.append_assoc, List.cons_append, List.nil_append, beq_self_eq_true, (bne_iff_ne.2 (by omega) : ((D.length : Int) != (m : Int)) = true), (by decide : ((2 : Int) != 0) = true)]
    exact ⟨_, _, List.range (D.length + 2), ⟨rfl, rfl⟩, LeS_nestX rfl rfl (by simp [leT]) (by simp [stL, stV])⟩
  · rw [if_neg h0]
    simp only [CALL, ↓VC, VP, TT, Nat.reduceEqDiff, reduceCtorEq, Nat.reduceAdd, Nat.reduceSub, Nat.reduceLT, Nat.reduceMul, Nat.reducePow, Nat.reduceLeDiff, Int.reduceToNat, Int.reduceLE, Int.reduceLT, Int.reducePow, cipC_len hb hA hp, ↓cip_all hb hA hp, hk, partB_length, bPs_length, partB_skip hPn, partB_skip0 hPn, List.append_assoc, List.cons_append, List.nil_append, (beq_eq_false_iff_ne.2 h0 : (lstE z box A pl n D == 0) = false), (bne_iff_ne.2 h0 : (lstE z box A pl n D != 0) = true)]
    exact ⟨_, _, List.range (D.length + 2), ⟨rfl, rfl⟩, LeS_nestX rfl rfl (by simp [leT]) (by simp [stL, stV])⟩
theorem c_impl_FirstBroken_no (z n : Int) (box A pl key T : List UInt8) (hb : box.length = 256) (hA : A.length = 16) (hp : pl.length = 16) (hk : key.length = 16) (D : List (List UInt8 × Nat)) (c m ct : Nat) (hm : D.length ≤ 1048576) (hmm : m ≤ 1048576) (hL : ∀ p ∈ D, p.1.length ≤ p.2 ∧ p.1.length ≤ 1048576) (hE : ¬ (lstE z box A pl n D = 0 ∧ D.length = m)) : LC Tryz.prog 17 [.a (cipC z box A pl n), .a (bs key), .s 0 0 D.length c, .s (D.length + 1) 0 m ct] (⟨false, ptrV 1 (bPs D)⟩ :: (partB false (bPs D) ++ [⟨false, bs T⟩]))
    (fun v hp => v = .t [.c (.int .i64 (0)), .c (.int .i64 ((if lstE z box A pl n D = 0 then 2 else lstE z box A pl n D)))] ∧ hp = (⟨false, ptrV 1 (bPs D)⟩ :: (partB false (bPs D) ++ [⟨false, bs T⟩]))) := by
  have hPn := bPs_length D
  refine LC_of (X := XX (fun | 9 => .one 0 (.one 1 (.one 2 (.one 3 (.one 4 (.one 5 .nil))))) | _ => .nil) (fun _ => []) [15, 71, 72, 73, 79, 80, 87, 90, 91, 93, 99, 119, 137, 176, 177, 203, 204, 212, 219] (D.length + 2)) envOK Tryz.func17 (by kernel_rfl) (by kernel_rfl) (by simp [XX, partB_length, bPs_length]) (Nat.le_of_ble_eq_true (by kernel_rfl)) ?_
  simp only [kFun, Tryz.f17, List.length_nil, List.length_cons, Nat.sub_zero, Nat.reduceSub, Nat.reduceAdd, List.nil_append, List.cons_append, List.replicate_succ, List.replicate_zero]
  simp only [XX, ↓VC, VP, TT, Nat.reduceEqDiff, reduceCtorEq, Nat.reduceAdd, Nat.reduceSub, Nat.reduceLT, Nat.reduceMul, Nat.reducePow, Nat.reduceLeDiff, Int.reduceToNat, Int.reduceLE, Int.reduceLT, Int.reducePow, cipC_len hb hA hp, ↓cip_all hb hA hp, hk, partB_length, bPs_length, partB_skip hPn, partB_skip0 hPn, List.append_assoc, List.cons_append, List.nil_append]
  by_cases h0 : lstE z box A pl n D = 0
  · have hne : D.length ≠ m := fun e => hE ⟨h0, e⟩
    rw [h0, if_pos rfl]
    have hB : cipB z box A pl n = true ∧ D.length ≤ 20 ∧ bigB D = false := by
      by_cases h : cipB z box A pl n = true ∧ D.length ≤ 20 ∧ bigB D = false
      · exact h
      · exact absurd h0 (lstE_no h)
    obtain ⟨hB, h20, hbig⟩ := hB
    obtain ⟨k, rfl, rfl, rfl, rfl, rfl⟩ := cip_of hb hA hp hB
    rw [show cipC k.m k.box k.A k.pl k.n = k.cells from rfl] at *
    refine kCall_Ret (k_impl_ChainOfTags k key hk D c h20 fun p hp => ⟨(hL p hp).1, bigB_all hbig p hp⟩) (by rfl) ((0, 0) :: rng 1 D.length) (by simp [CALL, k_inst, instL_bs]) seg_nest0 (by simp [okL, okV, k_ok, okL_bs]) (okB_nest (by simp [partB_length, hPn])) (by simp [okL_room]) fun r _ => ?_
    simp only [CALL, ↓VC, VP, TT, Nat.reduceEqDiff, reduceCtorEq, Nat.reduceAdd, Nat.reduceSub, Nat.reduceLT, Nat.reduceMul, Nat.reducePow, Nat.reduceLeDiff, Int.reduceToNat, Int.reduceLE, Int.reduceLT, Int.reducePow, hk, partB_length, hPn, rng_length, rng_end, instL_room, List.append_assoc, List.cons_append, List.nil_append, bne_self_eq_false, (bne_iff_ne.2 (by omega) : ((m : Int) != (D.length : Int)) = true)]
    exact ⟨_, _, List.range (D.length + 2), ⟨rfl, rfl⟩, LeS_nestX rfl rfl (by simp [leT]) (by simp [stL, stV])⟩
  · rw [if_neg h0]
    refine kCall_Ret (c_impl_ChainOfTags_no z n box A pl key hb hA hp hk D c hm h0) (by rfl) ((0, 0) :: rng 1 D.length) (by simp [CALL, instL_cip, instL_bs]) seg_nest0 (by simp [okL, okV, okL_cip, okL_bs]) (okB_nest (by simp [partB_length, hPn])) (by simp [okL_room]) fun r _ => ?_
    simp only [CALL, ↓VC, VP, TT, Nat.reduceEqDiff, reduceCtorEq, Nat.reduceAdd, Nat.reduceSub, Nat.reduceLT, Nat.reduceMul, Nat.reducePow, Nat.reduceLeDiff, Int.reduceToNat, Int.reduceLE, Int.reduceLT, Int.reducePow, hk, partB_length, hPn, rng_length, rng_end, instL_room, List.append_assoc, List.cons_append, List.nil_append, (bne_iff_ne.2 h0 : (lstE z box A pl n D != 0) = true)]
    exact ⟨_, _, List.range (D.length + 2), ⟨rfl, rfl⟩, LeS_nestX rfl rfl (by simp [leT]) (by simp [stL, stV])⟩
end Go.Proofs.YtahnjhppkgndiaaGreat

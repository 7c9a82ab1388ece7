import Derived.Test.YtcfhdogmkbfnhaaChnB
import Derived.Test.YtcfhdogmkbfnhaaVals
import Derived.Test.YtcfhdogmkbfnhaaDigS
import Derived.Test.YtcfhdogmkbfnhaaMarkD
import Derived.Test.YtcfhdogmkbfnhaaByteSS
import Derived.Test.YtcfhdogmkbfnhaaVcgR
/- ChainOfTags: the program and the reference hand back the same, in memory of its own. -/
set_option linter.unusedSimpArgs false
set_option linter.unusedVariables false
namespace Go.Proofs.Ytcfhdogmkbfnhaa
open Go Go.Vc
set_option maxRecDepth 10000
set_option maxHeartbeats 4000000
/-- What both hand back: k tags T, the code e, room for r more. -/
def chS (n k : Nat) (T : List UInt8) (e : Int) (r : Nat) : V × List Blk := (.t [.s (n + 1) 0 k (k + r), .c (.int .i64 (e))], [⟨true, bs T ++ List.replicate (32 * r) .j⟩])
theorem none_uniT (n : Nat) (e : Int) : ∀ _ : Unit, True → ∃ r : Nat, True ∧ nilV ((fun _ : Unit => (V.t [.c (.slice none 0 0), .c (.int .i64 (e))], ([] : List Blk))) ()).1 (chS n 0 [] e r).1 ∧ ∃ ex, (chS n 0 [] e r).2 = ((fun _ : Unit => (V.t [.c (.slice none 0 0), .c (.int .i64 (e))], ([] : List Blk))) ()).2 ++ ex ∧ ∀ b ∈ ex, b.cells = [] :=
  fun _ _ => ⟨0, trivial, by simp [chS, nilV, nilVs], _, by simp [chS, bs_nil]; rfl, by simp⟩
theorem ch_both (z n : Int) (box A pl key : List UInt8) (hb : box.length = 256) (hA : A.length = 16) (hp : pl.length = 16) (hk : key.length = 16) (D : List (List UInt8 × Nat)) (c : Nat) (hm : D.length ≤ 1048576) (hL : ∀ p ∈ D, p.1.length ≤ p.2 ∧ p.1.length ≤ 1048576) : ∃ (k : Nat) (T : List UInt8) (e : Int), T.length = 32 * k ∧ k ≤ 20 ∧
    LC Try.prog 12 [.a (cipC z box A pl n), .a (bs key), .s 0 0 D.length c] (⟨false, ptrV 1 (bPs D)⟩ :: partB false (bPs D)) (Ret (⟨false, ptrV 1 (bPs D)⟩ :: partB false (bPs D)) (fun _ : Nat => True) (chS D.length k T e)) ∧
    LC Try.prog 16 [.a (cipC z box A pl n), .a (bs key), .s 0 0 D.length c] (⟨false, ptrV 1 (bPs D)⟩ :: partB false (bPs D)) (Ret (⟨false, ptrV 1 (bPs D)⟩ :: partB false (bPs D)) (fun _ : Nat => True) (chS D.length k T e)) := by
  by_cases hE : cipB z box A pl n = true ∧ D.length ≤ 20 ∧ bigB D = false
  · obtain ⟨h1, h2, h3⟩ := hE
    obtain ⟨c', rfl, rfl, rfl, rfl, rfl⟩ := cip_of hb hA hp h1
    have hL' : ∀ p ∈ D, p.1.length ≤ p.2 ∧ p.1.length ≤ 2000 := fun p hp => ⟨(hL p hp).1, bigB_all h3 p hp⟩
    exact ⟨D.length, tgL c' key D D.length, 0, tgL_len _, h2, k_spec_ChainOfTags c' key hk D c h2 hL', k_impl_ChainOfTags c' key hk D c h2 hL'⟩
  · have hE' := lstE_no (z := z) (n := n) (box := box) (A := A) (pl := pl) (D := D) hE
    exact ⟨0, [], lstE z box A pl n D, rfl, by omega, LC_nil (c_spec_ChainOfTags_no z n box A pl key hb hA hp hk D c hm (fun p hp => (hL p hp).2) hE') (none_uniT _ _), LC_nil (c_impl_ChainOfTags_no z n box A pl key hb hA hp hk D c hm hE') (none_uniT _ _)⟩
theorem ch_blk {n k : Nat} {T : List UInt8} {e : Int} {sub : List (Nat × Nat)} {N r : Nat} : ((chS n k T e r).2.map fun b => (⟨b.own, V.instL sub N b.cells⟩ : Blk)) = [⟨true, bs T ++ List.replicate (32 * r) .j⟩] := by simp [chS, instL_room]
theorem law_FnExactChainOfTags (z1 : Int) (wz1 : (Lit.int .i64 z1).wf = true) (bx1 : List UInt8) (lb1 : bx1.length = 256) (mx1 : List UInt8) (lm1 : mx1.length = 16) (pl1 : List UInt8) (lp1 : pl1.length = 16) (n1 : Int) (wn1 : (Lit.int .i64 n1).wf = true) (key : List UInt8) (hkey : key.length = 16) (D : List (List UInt8 × Nat)) (cD : Nat) (hcD : D.length ≤ cD) (mxD : cD ≤ maxLen) (hD : ∀ p ∈ D, p.1.length ≤ p.2 ∧ p.2 ≤ maxLen) :
    LC Try.prog 3 [.a (cipC z1 bx1 mx1 pl1 n1), .a (bs key), .s 0 0 D.length cD] (⟨false, ptrV 1 (bPs D)⟩ :: partB false (bPs D)) (fun v _ => v = .c (.bool true)) := by
  have hPn := bPs_length D
  have hst : ∀ b ∈ (⟨false, ptrV 1 (bPs D)⟩ : Blk) :: partB false (bPs D), stL (D.length + 1) b.cells := stB_cons (stL_ptrV (by omega)) (stB_part bPs_st)
  have hN0 : ((⟨false, ptrV 1 (bPs D)⟩ : Blk) :: partB false (bPs D)).length = D.length + 1 := by simp [partB_length, hPn]
  have g0 : nAt (⟨false, ptrV 1 (bPs D)⟩ :: partB false (bPs D)) 0 1 (bPs D) := by
    refine ⟨bAt_of rfl, fun i p hp => ?_⟩
    rw [Nat.add_comm]
    exact bAt_of (partB_get0 hp)
  generalize eH : (⟨false, ptrV 1 (bPs D)⟩ : Blk) :: partB false (bPs D) = H at *
  refine LC_of (X := XX (fun | 5 => .one 0 (.one 2 (.one 4 (.one 1 (.one 3 (.one 5 (.one 6 (.one 7 (.one 8 (.one 9 (.one 10 (.one 11 .nil))))))))))) | 7 => .one 0 (.one 2 (.one 4 (.one 1 (.one 3 (.one 5 (.one 6 (.one 7 (.one 8 (.one 9 (.one 10 .nil)))))))))) | 24 => .one 0 (.one 2 (.one 4 (.one 1 (.one 3 (.one 5 (.one 6 (.one 7 (.one 8 (.one 9 (.one 10 (.one 11 .nil))))))))))) | _ => .nil) (fun _ => []) [19, 20, 48, 49, 59, 72, 93, 112, 174] (D.length + 1)) envOK Try.func3 (by kernel_rfl) (by kernel_rfl) (by simp only [XX, hN0]) (Nat.le_of_ble_eq_true (by kernel_rfl)) ?_
  simp only [kFun, Try.f3, List.length_nil, List.length_cons, Nat.sub_zero, Nat.reduceSub, Nat.reduceAdd, List.nil_append, List.cons_append, List.replicate_succ, List.replicate_zero]
  simp only [XX, ↓VC, VP, TT, List.getElem?_toArray, Nat.reduceEqDiff, reduceCtorEq, Nat.reduceAdd, Nat.reduceSub, Nat.reduceLT, Nat.reduceMul, Nat.reducePow, Nat.reduceLeDiff, Int.reduceToNat, Int.reduceLE, Int.reduceLT, Int.reducePow, hkey, cipC_len lb1 lm1 lp1, ↓cip_all lb1 lm1 lp1, hN0, List.length_append, List.length_cons, List.length_nil, Nat.zero_add]
  have nat_lt0X : ∀ x : Nat, ((x : Int) < 0) = False := fun x => eq_false (by omega)
  obtain ⟨hp1, e1⟩ : ∃ hp1, hp1 = H ++ [⟨true, cipC z1 bx1 mx1 pl1 n1⟩] ++ [⟨true, bs key⟩] := ⟨_, rfl⟩
  rw [← e1]
  have x1 : Ext H hp1 := ⟨_, by rw [e1, List.append_assoc]⟩
  have fC : hp1[D.length + 1]? = some ⟨true, cipC z1 bx1 mx1 pl1 n1⟩ := by rw [e1, List.append_assoc]; exact at_app hN0
  have fK : hp1[D.length + 1 + 1]? = some ⟨true, bs key⟩ := by rw [e1]; exact at_app (by simp [hN0])
  replace g0 := g0.mono x1
  refine kCall_val (c_laws_szByteSS D cD 1048576 (by omega) (fun p hp => by have := hD p hp; omega) (by omega)) (by rfl) ((0, 0) :: rng 1 D.length) (by simp [CALL]) (seg_nAt0 g0 hPn bPs_id) (by simp [okL, okV]) (okB_nest (by simp [partB_length, hPn])) ?_
  simp only [CALL, ↓VC, VP, TT, List.getElem?_toArray, Nat.reduceEqDiff, reduceCtorEq, Nat.reduceAdd, Nat.reduceSub, Nat.reduceLT, Nat.reduceMul, Nat.reducePow, Nat.reduceLeDiff, Int.reduceToNat, Int.reduceLE, Int.reduceLT, Int.reducePow]
  refine ⟨fun _ => ⟨_, H, List.range (D.length + 1), rfl, LeS_ext x1 hN0 (Nat.le_refl _) (by simp [leT]) (by simp [stL, stV]) hst⟩, fun h => ?_⟩
  have hS : D.length + sumD D ≤ 1048576 := by
    by_cases h' : D.length + sumD D ≤ 1048576
    · exact h'
    · rw [if_neg h'] at h; omega
  clear h
  have hDc : ∀ p ∈ D, p.1.length ≤ 1048576 := fun p hp => by
    obtain ⟨i, hi⟩ := List.mem_iff_getElem?.1 hp
    have h1 := sumD_succ hi
    have h2 := sumD_le D (i + 1)
    omega
  have hDq : ∀ p ∈ D, p.1.length ≤ p.2 ∧ p.1.length ≤ 1048576 := fun p hp => ⟨(hD p hp).1, hDc p hp⟩
  have hDr : ∀ p ∈ cpD D, p.1.length ≤ p.2 ∧ p.1.length ≤ 1048576 := fun p hp => by
    simp only [cpD, List.mem_map] at hp
    obtain ⟨q, hq, rfl⟩ := hp
    exact ⟨Nat.le_refl _, hDc q hq⟩
  have hsum : sumD (cpD D) = sumD D := by unfold sumD cpD; rw [List.map_map]; rfl
  have hQn : (bPs (cpD D)).length = D.length := by rw [bPs_length, cpD_length]
  obtain ⟨k, T, e, hT, hk, hs, hi⟩ := ch_both z1 n1 bx1 mx1 pl1 key lb1 lm1 lp1 hkey (cpD D) D.length (by rw [cpD_length]; omega) hDr
  simp only [cpD_length] at hs hi
  simp (config := { maxSteps := 2000000 }) only [CALL, ↓VC, VP, TT, List.getElem?_toArray, Nat.reduceEqDiff, reduceCtorEq, Nat.reduceAdd, Nat.reduceSub, Nat.reduceLT, Nat.reduceMul, Nat.reducePow, Nat.reduceLeDiff, Int.reduceToNat, Int.reduceLE, Int.reduceLT, Int.reducePow, instL_room, Bool.not_true, Bool.not_false, instL_cip, nat_lt0X, bne_self_eq_false, beq_self_eq_true, Bool.not_true, Bool.not_false, decide_false, List.replicate_zero, List.append_nil, cipC_len lb1 lm1 lp1, ↓cip_all lb1 lm1 lp1, hkey, fC, fK, rng_length, rng_end, chS]
  refine kCall_val (c_laws_toCipher z1 n1 lb1 lm1 lp1) (by rfl) [] (by simp [CALL, cellsAt, tk, take_room, bs_length, bs_nil, instL_cip, okL_cip]) (by simp [CALL, cellsAt, tk, take_room, bs_length, bs_nil, instL_cip, okL_cip]) (by simp [CALL, cellsAt, tk, take_room, bs_length, bs_nil, instL_cip, okL_cip]) (by simp [okL_bs, okL_room, okL, okV, instL_cip, okL_cip]) ?_
  simp (config := { maxSteps := 2000000 }) only [CALL, ↓VC, VP, TT, List.getElem?_toArray, Nat.reduceEqDiff, reduceCtorEq, Nat.reduceAdd, Nat.reduceSub, Nat.reduceLT, Nat.reduceMul, Nat.reducePow, Nat.reduceLeDiff, Int.reduceToNat, Int.reduceLE, Int.reduceLT, Int.reducePow, instL_room, Bool.not_true, Bool.not_false, instL_cip, nat_lt0X, bne_self_eq_false, beq_self_eq_true, Bool.not_true, Bool.not_false, decide_false, List.replicate_zero, List.append_nil, cipC_len lb1 lm1 lp1, ↓cip_all lb1 lm1 lp1, hkey, fC, fK, rng_length, rng_end, chS]
  refine kCall_val (c_laws_toBlock key hkey) (by rfl) [] (by simp [CALL, cellsAt, tk, take_room, bs_length, bs_nil, instL_cip, okL_cip]) (by simp [CALL, cellsAt, tk, take_room, bs_length, bs_nil, instL_cip, okL_cip]) (by simp [CALL, cellsAt, tk, take_room, bs_length, bs_nil, instL_cip, okL_cip]) (by simp [okL_bs, okL_room, okL, okV, instL_cip, okL_cip]) ?_
  simp (config := { maxSteps := 2000000 }) only [CALL, ↓VC, VP, TT, List.getElem?_toArray, Nat.reduceEqDiff, reduceCtorEq, Nat.reduceAdd, Nat.reduceSub, Nat.reduceLT, Nat.reduceMul, Nat.reducePow, Nat.reduceLeDiff, Int.reduceToNat, Int.reduceLE, Int.reduceLT, Int.reducePow, instL_room, Bool.not_true, Bool.not_false, instL_cip, nat_lt0X, bne_self_eq_false, beq_self_eq_true, Bool.not_true, Bool.not_false, decide_false, List.replicate_zero, List.append_nil, cipC_len lb1 lm1 lp1, ↓cip_all lb1 lm1 lp1, hkey, fC, fK, rng_length, rng_end, chS]
  refine kA_ret (c_laws_toByteSS D cD hcD (by omega) hDq) (by rfl) ((0, 0) :: rng 1 D.length) (by simp [CALL]) (seg_nAt0 g0 hPn bPs_id) (by simp [okL, okV]) (okB_nest (by simp [partB_length, hPn])) (fun _ => own_nest) fun _ N2 hp2 _ eN2 e2 => ?_
  rw [inst_nest (by simp [rng_length]) (fun p hp => bPs_id _ _ p hp)] at e2
  have x2 := new_ext e2
  have q2 : nAt hp2 N2 (N2 + 1) (bPs (cpD D)) := new_nAt (R := []) eN2 (by rw [e2, List.append_nil])
  replace fC := x2.get fC; replace fK := x2.get fK; replace g0 := g0.mono x2; replace x1 := x1.trans x2
  clear e2 x2
  simp (config := { maxSteps := 2000000 }) only [CALL, ↓VC, VP, TT, List.getElem?_toArray, Nat.reduceEqDiff, reduceCtorEq, Nat.reduceAdd, Nat.reduceSub, Nat.reduceLT, Nat.reduceMul, Nat.reducePow, Nat.reduceLeDiff, Int.reduceToNat, Int.reduceLE, Int.reduceLT, Int.reducePow, instL_room, Bool.not_true, Bool.not_false, instL_cip, nat_lt0X, bne_self_eq_false, beq_self_eq_true, Bool.not_true, Bool.not_false, decide_false, List.replicate_zero, List.append_nil, cipC_len lb1 lm1 lp1, ↓cip_all lb1 lm1 lp1, hkey, fC, fK, rng_length, rng_end, chS]
  refine kA_ret hs (by rfl) ((N2, 0) :: rng (N2 + 1) D.length) (by simp [CALL, instL_cip]) (seg_nAt0 q2 hQn bPs_id) (by simp [okL, okV, okL_cip, okL_bs]) (okB_nest (by simp [partB_length, hQn, cpD_length])) (by simp [chS]) fun r3 N3 hp3 _ eN3 e3 => ?_
  rw [ch_blk] at e3
  have x3 := new_ext e3
  have f3 : hp3[N3]? = some ⟨true, bs T ++ List.replicate (32 * r3) .j⟩ := new_at (R := []) eN3 e3
  replace fC := x3.get fC; replace fK := x3.get fK; replace g0 := g0.mono x3; replace x1 := x1.trans x3
  clear e3 x3 q2
  simp (config := { maxSteps := 2000000 }) only [CALL, ↓VC, VP, TT, List.getElem?_toArray, Nat.reduceEqDiff, reduceCtorEq, Nat.reduceAdd, Nat.reduceSub, Nat.reduceLT, Nat.reduceMul, Nat.reducePow, Nat.reduceLeDiff, Int.reduceToNat, Int.reduceLE, Int.reduceLT, Int.reducePow, instL_room, Bool.not_true, Bool.not_false, instL_cip, nat_lt0X, bne_self_eq_false, beq_self_eq_true, Bool.not_true, Bool.not_false, decide_false, List.replicate_zero, List.append_nil, cipC_len lb1 lm1 lp1, ↓cip_all lb1 lm1 lp1, hkey, fC, fK, rng_length, rng_end, chS]
  refine kA_ret (c_laws_toByteSS D cD hcD (by omega) hDq) (by rfl) ((0, 0) :: rng 1 D.length) (by simp [CALL]) (seg_nAt0 g0 hPn bPs_id) (by simp [okL, okV]) (okB_nest (by simp [partB_length, hPn])) (fun _ => own_nest) fun _ N4 hp4 _ eN4 e4 => ?_
  rw [inst_nest (by simp [rng_length]) (fun p hp => bPs_id _ _ p hp)] at e4
  have x4 := new_ext e4
  have q4 : nAt hp4 N4 (N4 + 1) (bPs (cpD D)) := new_nAt (R := []) eN4 (by rw [e4, List.append_nil])
  have o4 := new_own eN4 e4
  have d34 : N3 < N4 := by rw [eN4]; exact at_lt f3
  have d14 : D.length + 1 + 1 < N4 := by rw [eN4]; exact at_lt fK
  have l4 : hp4.length = N4 + 1 + D.length := by rw [e4, eN4]; simp [partB_length, hQn]; omega
  replace fC := x4.get fC; replace fK := x4.get fK; replace f3 := x4.get f3; replace g0 := g0.mono x4; replace x1 := x1.trans x4
  clear e4 x4
  simp (config := { maxSteps := 2000000 }) only [CALL, ↓VC, VP, TT, List.getElem?_toArray, Nat.reduceEqDiff, reduceCtorEq, Nat.reduceAdd, Nat.reduceSub, Nat.reduceLT, Nat.reduceMul, Nat.reducePow, Nat.reduceLeDiff, Int.reduceToNat, Int.reduceLE, Int.reduceLT, Int.reducePow, instL_room, Bool.not_true, Bool.not_false, instL_cip, nat_lt0X, bne_self_eq_false, beq_self_eq_true, Bool.not_true, Bool.not_false, decide_false, List.replicate_zero, List.append_nil, cipC_len lb1 lm1 lp1, ↓cip_all lb1 lm1 lp1, hkey, fC, fK, rng_length, rng_end, chS]
  refine kCall_val (c_laws_toCipher z1 n1 lb1 lm1 lp1) (by rfl) [] (by simp [CALL, cellsAt, tk, take_room, bs_length, bs_nil, instL_cip, okL_cip]) (by simp [CALL, cellsAt, tk, take_room, bs_length, bs_nil, instL_cip, okL_cip]) (by simp [CALL, cellsAt, tk, take_room, bs_length, bs_nil, instL_cip, okL_cip]) (by simp [okL_bs, okL_room, okL, okV, instL_cip, okL_cip]) ?_
  simp (config := { maxSteps := 2000000 }) only [CALL, ↓VC, VP, TT, List.getElem?_toArray, Nat.reduceEqDiff, reduceCtorEq, Nat.reduceAdd, Nat.reduceSub, Nat.reduceLT, Nat.reduceMul, Nat.reducePow, Nat.reduceLeDiff, Int.reduceToNat, Int.reduceLE, Int.reduceLT, Int.reducePow, instL_room, Bool.not_true, Bool.not_false, instL_cip, nat_lt0X, bne_self_eq_false, beq_self_eq_true, Bool.not_true, Bool.not_false, decide_false, List.replicate_zero, List.append_nil, cipC_len lb1 lm1 lp1, ↓cip_all lb1 lm1 lp1, hkey, fC, fK, rng_length, rng_end, chS]
  refine kCall_val (c_laws_toBlock key hkey) (by rfl) [] (by simp [CALL, cellsAt, tk, take_room, bs_length, bs_nil, instL_cip, okL_cip]) (by simp [CALL, cellsAt, tk, take_room, bs_length, bs_nil, instL_cip, okL_cip]) (by simp [CALL, cellsAt, tk, take_room, bs_length, bs_nil, instL_cip, okL_cip]) (by simp [okL_bs, okL_room, okL, okV, instL_cip, okL_cip]) ?_
  simp (config := { maxSteps := 2000000 }) only [CALL, ↓VC, VP, TT, List.getElem?_toArray, Nat.reduceEqDiff, reduceCtorEq, Nat.reduceAdd, Nat.reduceSub, Nat.reduceLT, Nat.reduceMul, Nat.reducePow, Nat.reduceLeDiff, Int.reduceToNat, Int.reduceLE, Int.reduceLT, Int.reducePow, instL_room, Bool.not_true, Bool.not_false, instL_cip, nat_lt0X, bne_self_eq_false, beq_self_eq_true, Bool.not_true, Bool.not_false, decide_false, List.replicate_zero, List.append_nil, cipC_len lb1 lm1 lp1, ↓cip_all lb1 lm1 lp1, hkey, fC, fK, rng_length, rng_end, chS]
  refine kA_ret hi (by rfl) ((N4, 0) :: rng (N4 + 1) D.length) (by simp [CALL, instL_cip]) (seg_nAt0 q4 hQn bPs_id) (by simp [okL, okV, okL_cip, okL_bs]) (okB_nest (by simp [partB_length, hQn, cpD_length])) (by simp [chS]) fun r5 N5 hp5 _ eN5 e5 => ?_
  rw [ch_blk] at e5
  have x5 := new_ext e5
  have f5 : hp5[N5]? = some ⟨true, bs T ++ List.replicate (32 * r5) .j⟩ := new_at (R := []) eN5 e5
  replace fC := x5.get fC; replace fK := x5.get fK; replace f3 := x5.get f3; replace g0 := g0.mono x5; replace q4 := q4.mono x5; replace x1 := x1.trans x5
  replace o4 : ∀ i p, (bPs (cpD D))[i]? = some p → hp5[N4 + 1 + i]? = some ⟨true, p.cells⟩ := fun i p hp => x5.get (o4 i p hp)
  clear e5 x5
  simp (config := { maxSteps := 2000000 }) only [CALL, ↓VC, VP, TT, List.getElem?_toArray, Nat.reduceEqDiff, reduceCtorEq, Nat.reduceAdd, Nat.reduceSub, Nat.reduceLT, Nat.reduceMul, Nat.reducePow, Nat.reduceLeDiff, Int.reduceToNat, Int.reduceLE, Int.reduceLT, Int.reducePow, instL_room, Bool.not_true, Bool.not_false, instL_cip, nat_lt0X, bne_self_eq_false, beq_self_eq_true, Bool.not_true, Bool.not_false, decide_false, List.replicate_zero, List.append_nil, cipC_len lb1 lm1 lp1, ↓cip_all lb1 lm1 lp1, hkey, fC, fK, rng_length, rng_end, chS]
  refine kCall_val (c_laws_eqDigestS k k (k + r5) (k + r3) T T hT hT (by omega) (by omega) (by omega)) (by rfl) [(N5, 0), (N3, 0)] (by simp [CALL]) (seg_bAt (bAt_room f5) (instL_bs _ _ _) (seg_bAt (bAt_room f3) (instL_bs _ _ _) trivial)) (by simp [okL, okV]) (by simp [okL_bs]) ?_
  simp (config := { maxSteps := 2000000 }) only [CALL, ↓VC, VP, TT, List.getElem?_toArray, Nat.reduceEqDiff, reduceCtorEq, Nat.reduceAdd, Nat.reduceSub, Nat.reduceLT, Nat.reduceMul, Nat.reducePow, Nat.reduceLeDiff, Int.reduceToNat, Int.reduceLE, Int.reduceLT, Int.reducePow, instL_room, Bool.not_true, Bool.not_false, instL_cip, nat_lt0X, bne_self_eq_false, beq_self_eq_true, Bool.not_true, Bool.not_false, decide_false, List.replicate_zero, List.append_nil, cipC_len lb1 lm1 lp1, ↓cip_all lb1 lm1 lp1, hkey, fC, fK, rng_length, rng_end, chS]
  refine kA_ret (c_laws_toByteSS D cD hcD (by omega) hDq) (by rfl) ((0, 0) :: rng 1 D.length) (by simp [CALL]) (seg_nAt0 g0 hPn bPs_id) (by simp [okL, okV]) (okB_nest (by simp [partB_length, hPn])) (fun _ => own_nest) fun _ N6 hp6 _ eN6 e6 => ?_
  rw [inst_nest (by simp [rng_length]) (fun p hp => bPs_id _ _ p hp)] at e6
  have x6 := new_ext e6
  have q6 : nAt hp6 N6 (N6 + 1) (bPs (cpD D)) := new_nAt (R := []) eN6 (by rw [e6, List.append_nil])
  replace fC := x6.get fC; replace fK := x6.get fK; replace f3 := x6.get f3; replace f5 := x6.get f5; replace g0 := g0.mono x6; replace q4 := q4.mono x6; replace x1 := x1.trans x6
  replace o4 : ∀ i p, (bPs (cpD D))[i]? = some p → hp6[N4 + 1 + i]? = some ⟨true, p.cells⟩ := fun i p hp => x6.get (o4 i p hp)
  clear e6 x6
  simp (config := { maxSteps := 2000000 }) only [CALL, ↓VC, VP, TT, List.getElem?_toArray, Nat.reduceEqDiff, reduceCtorEq, Nat.reduceAdd, Nat.reduceSub, Nat.reduceLT, Nat.reduceMul, Nat.reducePow, Nat.reduceLeDiff, Int.reduceToNat, Int.reduceLE, Int.reduceLT, Int.reducePow, instL_room, Bool.not_true, Bool.not_false, instL_cip, nat_lt0X, bne_self_eq_false, beq_self_eq_true, Bool.not_true, Bool.not_false, decide_false, List.replicate_zero, List.append_nil, cipC_len lb1 lm1 lp1, ↓cip_all lb1 lm1 lp1, hkey, fC, fK, rng_length, rng_end, chS]
  refine kCall_val (c_laws_eqByteSS (cpD D) D.length D.length (by rw [cpD_length]; exact Nat.le_refl _) (by rw [cpD_length]; exact Nat.le_refl _) (by rw [cpD_length]; omega) hDr) (by rfl) ((N4, 0) :: (N6, 0) :: (rng (N4 + 1) D.length ++ rng (N6 + 1) D.length)) (by rw [cpD_length]; simp [CALL]) (by rw [cpD_length]; exact seg_two q4 q6 hQn bPs_id) (by simp [okL, okV]) (okB_two (by simp [partB_length, hQn, cpD_length])) ?_
  simp (config := { maxSteps := 2000000 }) only [CALL, ↓VC, VP, TT, List.getElem?_toArray, Nat.reduceEqDiff, reduceCtorEq, Nat.reduceAdd, Nat.reduceSub, Nat.reduceLT, Nat.reduceMul, Nat.reducePow, Nat.reduceLeDiff, Int.reduceToNat, Int.reduceLE, Int.reduceLT, Int.reducePow, instL_room, Bool.not_true, Bool.not_false, instL_cip, nat_lt0X, bne_self_eq_false, beq_self_eq_true, Bool.not_true, Bool.not_false, decide_false, List.replicate_zero, List.append_nil, cipC_len lb1 lm1 lp1, ↓cip_all lb1 lm1 lp1, hkey, fC, fK, rng_length, rng_end, chS]
  have km := c_laws_markByteSS (cpD D) D.length 1 (by rw [cpD_length]; exact Nat.le_refl _) (by rw [cpD_length]; omega) hDr (by rw [hsum]; omega)
  rw [cpD_length] at km
  refine kA_M km (by rfl) ((N4, 0) :: rng (N4 + 1) D.length) (by simp [CALL]) (segM_nest q4 o4 hQn bPs_id) (nest_nodup (by omega)) (by simp [okL, okV]) (fun b hb => stL_ok (stB_cons (stL_ptrV (by simp [partB_length, hQn]; omega)) (stB_part bPs_st) b hb)) (fun _ _ => ⟨rfl, keepR_part (by simp [bPs_length, mkD_length]) (mkD_cells _ _)⟩) (fun _ => rfl) fun _ N7 hp7 _ eN7 e7 => ?_
  have hkp : ptrV 1 (bPs (cpD D)) = ptrV 1 (bPs (mkD 1 (cpD D))) := mkD_ptr _ _ _
  obtain ⟨u7, _⟩ := put_nest (S := (N4, 0) :: rng (N4 + 1) D.length) (N := N7) (own := false) (Q := bPs (mkD 1 (cpD D))) q4 hQn (by rw [bPs_length, mkD_length, cpD_length]) (fun p hp => bPs_id _ _ p hp)
  rw [← hkp, ← e7] at u7
  replace fC := u7.get (by omega) fC; replace fK := u7.get (by omega) fK; replace f3 := u7.get (by omega) f3; replace f5 := u7.get (by omega) f5; replace g0 := g0.upd u7 (by omega) (by intro i hi; omega); replace x1 := x1.uext u7 (by intro h hh; omega)
  clear e7 u7 o4 q4 q6
  simp (config := { maxSteps := 2000000 }) only [CALL, ↓VC, VP, TT, List.getElem?_toArray, Nat.reduceEqDiff, reduceCtorEq, Nat.reduceAdd, Nat.reduceSub, Nat.reduceLT, Nat.reduceMul, Nat.reducePow, Nat.reduceLeDiff, Int.reduceToNat, Int.reduceLE, Int.reduceLT, Int.reducePow, instL_room, Bool.not_true, Bool.not_false, instL_cip, nat_lt0X, bne_self_eq_false, beq_self_eq_true, Bool.not_true, Bool.not_false, decide_false, List.replicate_zero, List.append_nil, cipC_len lb1 lm1 lp1, ↓cip_all lb1 lm1 lp1, hkey, fC, fK, rng_length, rng_end, chS]
  refine kCall_val (c_laws_eqDigestS k k (k + r5) (k + r3) T T hT hT (by omega) (by omega) (by omega)) (by rfl) [(N5, 0), (N3, 0)] (by simp [CALL]) (seg_bAt (bAt_room f5) (instL_bs _ _ _) (seg_bAt (bAt_room f3) (instL_bs _ _ _) trivial)) (by simp [okL, okV]) (by simp [okL_bs]) ?_
  simp (config := { maxSteps := 2000000 }) only [CALL, ↓VC, VP, TT, List.getElem?_toArray, Nat.reduceEqDiff, reduceCtorEq, Nat.reduceAdd, Nat.reduceSub, Nat.reduceLT, Nat.reduceMul, Nat.reducePow, Nat.reduceLeDiff, Int.reduceToNat, Int.reduceLE, Int.reduceLT, Int.reducePow, instL_room, Bool.not_true, Bool.not_false, instL_cip, nat_lt0X, bne_self_eq_false, beq_self_eq_true, Bool.not_true, Bool.not_false, decide_false, List.replicate_zero, List.append_nil, cipC_len lb1 lm1 lp1, ↓cip_all lb1 lm1 lp1, hkey, fC, fK, rng_length, rng_end, chS]
  refine kA_M (c_laws_markDigestS k (k + r5) (32 * r5) 1 T hT (by omega) (by omega) (by omega)) (by rfl) [(N5, 0)] (by simp [CALL]) ⟨.inr ⟨rfl, rfl, by rw [f5, instL_room]⟩, trivial⟩ (by simp) (by simp [okL, okV]) (by simp [okL_room]) (by intro x _; simp [keepR, bs_length, markL_len, hT]) (fun _ => rfl) fun _ N8 hp8 _ eN8 e8 => ?_
  simp only [putSegs, if_true, instL_room] at e8
  have u8 := set_upd (b := ⟨true, bs (markL 1 (32 * k)) ++ List.replicate (32 * r5) .j⟩) f5
  have f8 := set_at (b := ⟨true, bs (markL 1 (32 * k)) ++ List.replicate (32 * r5) .j⟩) f5
  rw [← e8] at u8 f8
  replace fC := u8.get (by omega) fC; replace fK := u8.get (by omega) fK; replace f3 := u8.get (by omega) f3; replace g0 := g0.upd u8 (by omega) (by intro i hi; omega); replace x1 := x1.uext u8 (by intro h hh; omega)
  clear e8 u8 f5
  simp (config := { maxSteps := 2000000 }) only [CALL, ↓VC, VP, TT, List.getElem?_toArray, Nat.reduceEqDiff, reduceCtorEq, Nat.reduceAdd, Nat.reduceSub, Nat.reduceLT, Nat.reduceMul, Nat.reducePow, Nat.reduceLeDiff, Int.reduceToNat, Int.reduceLE, Int.reduceLT, Int.reducePow, instL_room, Bool.not_true, Bool.not_false, instL_cip, nat_lt0X, bne_self_eq_false, beq_self_eq_true, Bool.not_true, Bool.not_false, decide_false, List.replicate_zero, List.append_nil, cipC_len lb1 lm1 lp1, ↓cip_all lb1 lm1 lp1, hkey, fC, fK, rng_length, rng_end, chS]
  refine kCall_val (c_laws_heldDigestS k (k + r5) 1 (by omega) (by omega) (by omega)) (by rfl) [(N5, 0)] (by simp [CALL]) (seg_bAt (bAt_room f8) (instL_bs _ _ _) trivial) (by simp [okL, okV]) (by simp [okL_bs]) ?_
  simp (config := { maxSteps := 2000000 }) only [CALL, ↓VC, VP, TT, List.getElem?_toArray, Nat.reduceEqDiff, reduceCtorEq, Nat.reduceAdd, Nat.reduceSub, Nat.reduceLT, Nat.reduceMul, Nat.reducePow, Nat.reduceLeDiff, Int.reduceToNat, Int.reduceLE, Int.reduceLT, Int.reducePow, instL_room, Bool.not_true, Bool.not_false, instL_cip, nat_lt0X, bne_self_eq_false, beq_self_eq_true, Bool.not_true, Bool.not_false, decide_false, List.replicate_zero, List.append_nil, cipC_len lb1 lm1 lp1, ↓cip_all lb1 lm1 lp1, hkey, fC, fK, rng_length, rng_end, chS]
  refine kCall_val (c_laws_toCipher z1 n1 lb1 lm1 lp1) (by rfl) [] (by simp [CALL, cellsAt, tk, take_room, bs_length, bs_nil, instL_cip, okL_cip]) (by simp [CALL, cellsAt, tk, take_room, bs_length, bs_nil, instL_cip, okL_cip]) (by simp [CALL, cellsAt, tk, take_room, bs_length, bs_nil, instL_cip, okL_cip]) (by simp [okL_bs, okL_room, okL, okV, instL_cip, okL_cip]) ?_
  simp (config := { maxSteps := 2000000 }) only [CALL, ↓VC, VP, TT, List.getElem?_toArray, Nat.reduceEqDiff, reduceCtorEq, Nat.reduceAdd, Nat.reduceSub, Nat.reduceLT, Nat.reduceMul, Nat.reducePow, Nat.reduceLeDiff, Int.reduceToNat, Int.reduceLE, Int.reduceLT, Int.reducePow, instL_room, Bool.not_true, Bool.not_false, instL_cip, nat_lt0X, bne_self_eq_false, beq_self_eq_true, Bool.not_true, Bool.not_false, decide_false, List.replicate_zero, List.append_nil, cipC_len lb1 lm1 lp1, ↓cip_all lb1 lm1 lp1, hkey, fC, fK, rng_length, rng_end, chS]
  refine kCall_val (c_laws_toBlock key hkey) (by rfl) [] (by simp [CALL, cellsAt, tk, take_room, bs_length, bs_nil, instL_cip, okL_cip]) (by simp [CALL, cellsAt, tk, take_room, bs_length, bs_nil, instL_cip, okL_cip]) (by simp [CALL, cellsAt, tk, take_room, bs_length, bs_nil, instL_cip, okL_cip]) (by simp [okL_bs, okL_room, okL, okV, instL_cip, okL_cip]) ?_
  simp (config := { maxSteps := 2000000 }) only [CALL, ↓VC, VP, TT, List.getElem?_toArray, Nat.reduceEqDiff, reduceCtorEq, Nat.reduceAdd, Nat.reduceSub, Nat.reduceLT, Nat.reduceMul, Nat.reducePow, Nat.reduceLeDiff, Int.reduceToNat, Int.reduceLE, Int.reduceLT, Int.reducePow, instL_room, Bool.not_true, Bool.not_false, instL_cip, nat_lt0X, bne_self_eq_false, beq_self_eq_true, Bool.not_true, Bool.not_false, decide_false, List.replicate_zero, List.append_nil, cipC_len lb1 lm1 lp1, ↓cip_all lb1 lm1 lp1, hkey, fC, fK, rng_length, rng_end, chS]
  refine kA_ret (c_laws_toByteSS D cD hcD (by omega) hDq) (by rfl) ((0, 0) :: rng 1 D.length) (by simp [CALL]) (seg_nAt0 g0 hPn bPs_id) (by simp [okL, okV]) (okB_nest (by simp [partB_length, hPn])) (fun _ => own_nest) fun _ N9 hp9 _ eN9 e9 => ?_
  rw [inst_nest (by simp [rng_length]) (fun p hp => bPs_id _ _ p hp)] at e9
  have x9 := new_ext e9
  have q9 : nAt hp9 N9 (N9 + 1) (bPs (cpD D)) := new_nAt (R := []) eN9 (by rw [e9, List.append_nil])
  replace fC := x9.get fC; replace fK := x9.get fK; replace f3 := x9.get f3; replace f8 := x9.get f8; replace g0 := g0.mono x9; replace x1 := x1.trans x9
  clear e9 x9
  simp (config := { maxSteps := 2000000 }) only [CALL, ↓VC, VP, TT, List.getElem?_toArray, Nat.reduceEqDiff, reduceCtorEq, Nat.reduceAdd, Nat.reduceSub, Nat.reduceLT, Nat.reduceMul, Nat.reducePow, Nat.reduceLeDiff, Int.reduceToNat, Int.reduceLE, Int.reduceLT, Int.reducePow, instL_room, Bool.not_true, Bool.not_false, instL_cip, nat_lt0X, bne_self_eq_false, beq_self_eq_true, Bool.not_true, Bool.not_false, decide_false, List.replicate_zero, List.append_nil, cipC_len lb1 lm1 lp1, ↓cip_all lb1 lm1 lp1, hkey, fC, fK, rng_length, rng_end, chS]
  refine kA_ret hi (by rfl) ((N9, 0) :: rng (N9 + 1) D.length) (by simp [CALL, instL_cip]) (seg_nAt0 q9 hQn bPs_id) (by simp [okL, okV, okL_cip, okL_bs]) (okB_nest (by simp [partB_length, hQn, cpD_length])) (by simp [chS]) fun r10 N10 hp10 _ eN10 e10 => ?_
  rw [ch_blk] at e10
  have x10 := new_ext e10
  have f10 : hp10[N10]? = some ⟨true, bs T ++ List.replicate (32 * r10) .j⟩ := new_at (R := []) eN10 e10
  replace f3 := x10.get f3; replace f8 := x10.get f8; replace x1 := x1.trans x10
  clear e10 x10
  simp (config := { maxSteps := 2000000 }) only [CALL, ↓VC, VP, TT, List.getElem?_toArray, Nat.reduceEqDiff, reduceCtorEq, Nat.reduceAdd, Nat.reduceSub, Nat.reduceLT, Nat.reduceMul, Nat.reducePow, Nat.reduceLeDiff, Int.reduceToNat, Int.reduceLE, Int.reduceLT, Int.reducePow, instL_room, Bool.not_true, Bool.not_false, instL_cip, nat_lt0X, bne_self_eq_false, beq_self_eq_true, Bool.not_true, Bool.not_false, decide_false, List.replicate_zero, List.append_nil, cipC_len lb1 lm1 lp1, ↓cip_all lb1 lm1 lp1, hkey, fC, fK, rng_length, rng_end, chS]
  refine kCall_val (c_laws_eqDigestS k k (k + r10) (k + r3) T T hT hT (by omega) (by omega) (by omega)) (by rfl) [(N10, 0), (N3, 0)] (by simp [CALL]) (seg_bAt (bAt_room f10) (instL_bs _ _ _) (seg_bAt (bAt_room f3) (instL_bs _ _ _) trivial)) (by simp [okL, okV]) (by simp [okL_bs]) ?_
  simp (config := { maxSteps := 2000000 }) only [CALL, ↓VC, VP, TT, List.getElem?_toArray, Nat.reduceEqDiff, reduceCtorEq, Nat.reduceAdd, Nat.reduceSub, Nat.reduceLT, Nat.reduceMul, Nat.reducePow, Nat.reduceLeDiff, Int.reduceToNat, Int.reduceLE, Int.reduceLT, Int.reducePow, instL_room, Bool.not_true, Bool.not_false, instL_cip, nat_lt0X, bne_self_eq_false, beq_self_eq_true, Bool.not_true, Bool.not_false, decide_false, List.replicate_zero, List.append_nil, cipC_len lb1 lm1 lp1, ↓cip_all lb1 lm1 lp1, hkey, fC, fK, rng_length, rng_end, chS]
  refine kCall_val (c_laws_heldDigestS k (k + r5) 1 (by omega) (by omega) (by omega)) (by rfl) [(N5, 0)] (by simp [CALL]) (seg_bAt (bAt_room f8) (instL_bs _ _ _) trivial) (by simp [okL, okV]) (by simp [okL_bs]) ?_
  simp (config := { maxSteps := 2000000 }) only [CALL, ↓VC, VP, TT, List.getElem?_toArray, Nat.reduceEqDiff, reduceCtorEq, Nat.reduceAdd, Nat.reduceSub, Nat.reduceLT, Nat.reduceMul, Nat.reducePow, Nat.reduceLeDiff, Int.reduceToNat, Int.reduceLE, Int.reduceLT, Int.reducePow, instL_room, Bool.not_true, Bool.not_false, instL_cip, nat_lt0X, bne_self_eq_false, beq_self_eq_true, Bool.not_true, Bool.not_false, decide_false, List.replicate_zero, List.append_nil, cipC_len lb1 lm1 lp1, ↓cip_all lb1 lm1 lp1, hkey, fC, fK, rng_length, rng_end, chS]
  exact ⟨_, H, List.range (D.length + 1), rfl, LeS_ext x1 hN0 (Nat.le_refl _) (by simp [leT]) (by simp [stL, stV]) hst⟩
end Go.Proofs.Ytcfhdogmkbfnhaa

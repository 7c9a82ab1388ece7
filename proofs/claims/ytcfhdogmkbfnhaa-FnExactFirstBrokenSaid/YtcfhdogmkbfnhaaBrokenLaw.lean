import Derived.Test.YtcfhdogmkbfnhaaChnC
import Derived.Test.YtcfhdogmkbfnhaaVals
import Derived.Test.YtcfhdogmkbfnhaaDigS
import Derived.Test.YtcfhdogmkbfnhaaVcgR
/- FirstBroken: the program and the reference hand back the same. -/
set_option linter.unusedSimpArgs false
set_option linter.unusedVariables false
namespace Go.Proofs.Ytcfhdogmkbfnhaa
open Go Go.Vc
set_option maxRecDepth 10000
set_option maxHeartbeats 4000000
theorem law_FnExactFirstBroken (z1 : Int) (wz1 : (Lit.int .i64 z1).wf = true) (bx1 : List UInt8) (lb1 : bx1.length = 256) (mx1 : List UInt8) (lm1 : mx1.length = 16) (pl1 : List UInt8) (lp1 : pl1.length = 16) (n1 : Int) (wn1 : (Lit.int .i64 n1).wf = true) (key : List UInt8) (hkey : key.length = 16) (D : List (List UInt8 × Nat)) (cD : Nat) (hcD : D.length ≤ cD) (mxD : cD ≤ maxLen) (hD : ∀ p ∈ D, p.1.length ≤ p.2 ∧ p.2 ≤ maxLen) (m cT : Nat) (T : List UInt8) (hT : T.length = 32 * m) (hcT : m ≤ cT) (mxT : cT ≤ maxLen) :
    LC Try.prog 4 [.a (cipC z1 bx1 mx1 pl1 n1), .a (bs key), .s 0 0 D.length cD, .s 1 0 m cT] (⟨false, ptrV 2 (bPs D)⟩ :: ⟨false, bs T⟩ :: partB false (bPs D)) (fun v _ => v = .c (.bool true)) := by
  have hPn := bPs_length D
  have hst : ∀ b ∈ (⟨false, ptrV 2 (bPs D)⟩ : Blk) :: ⟨false, bs T⟩ :: partB false (bPs D), stL (D.length + 2) b.cells := stB_cons (stL_ptrV (by omega)) (stB_cons (stL_bs _ _) (stB_part bPs_st))
  have hN0 : ((⟨false, ptrV 2 (bPs D)⟩ : Blk) :: ⟨false, bs T⟩ :: partB false (bPs D)).length = D.length + 2 := by simp [partB_length, hPn]
  have g0 : nAt (⟨false, ptrV 2 (bPs D)⟩ :: ⟨false, bs T⟩ :: partB false (bPs D)) 0 2 (bPs D) := by
    refine ⟨bAt_of rfl, fun i p hp => ?_⟩
    rw [Nat.add_comm]
    exact bAt_of (partB_get0 hp)
  have g1 : bAt (⟨false, ptrV 2 (bPs D)⟩ :: ⟨false, bs T⟩ :: partB false (bPs D)) 1 (bs T) := bAt_of rfl
  generalize eH : (⟨false, ptrV 2 (bPs D)⟩ : Blk) :: ⟨false, bs T⟩ :: partB false (bPs D) = H at *
  refine LC_of (X := XX (fun | 8 => .one 0 (.one 2 (.one 4 (.one 6 (.one 1 (.one 3 (.one 5 (.one 7 (.one 8 (.one 9 (.one 10 (.one 11 (.one 12 (.one 13 .nil))))))))))))) | 11 => .one 0 (.one 2 (.one 4 (.one 5 (.one 1 (.one 3 (.one 6 (.one 7 (.one 8 (.one 9 (.one 10 (.one 11 .nil))))))))))) | _ => .nil) (fun _ => []) [19, 20, 48, 49, 59, 72, 93, 112, 174] (D.length + 2)) envOK Try.func4 (by kernel_rfl) (by kernel_rfl) (by simp only [XX, hN0]) (Nat.le_of_ble_eq_true (by kernel_rfl)) ?_
  simp only [kFun, Try.f4, List.length_nil, List.length_cons, Nat.sub_zero, Nat.reduceSub, Nat.reduceAdd, List.nil_append, List.cons_append, List.replicate_succ, List.replicate_zero]
  simp only [XX, ↓VC, VP, TT, List.getElem?_toArray, Nat.reduceEqDiff, reduceCtorEq, Nat.reduceAdd, Nat.reduceSub, Nat.reduceLT, Nat.reduceMul, Nat.reducePow, Nat.reduceLeDiff, Int.reduceToNat, Int.reduceLE, Int.reduceLT, Int.reducePow, hkey, cipC_len lb1 lm1 lp1, ↓cip_all lb1 lm1 lp1, hN0, List.length_append, List.length_cons, List.length_nil, Nat.zero_add]
  have nat_lt0X : ∀ x : Nat, ((x : Int) < 0) = False := fun x => eq_false (by omega)
  obtain ⟨hp1, e1⟩ : ∃ hp1, hp1 = H ++ [⟨true, cipC z1 bx1 mx1 pl1 n1⟩] ++ [⟨true, bs key⟩] := ⟨_, rfl⟩
  rw [← e1]
  have x1 : Ext H hp1 := ⟨_, by rw [e1, List.append_assoc]⟩
  have fC : hp1[D.length + 2]? = some ⟨true, cipC z1 bx1 mx1 pl1 n1⟩ := by rw [e1, List.append_assoc]; exact at_app hN0
  have fK : hp1[D.length + 2 + 1]? = some ⟨true, bs key⟩ := by rw [e1]; exact at_app (by simp [hN0])
  have g0a := g0.mono x1
  have g1a := g1.mono x1
  refine kCall_val (c_laws_szByteSS D cD 1048576 (by omega) (fun p hp => by have := hD p hp; omega) (by omega)) (by rfl) ((0, 0) :: rng 2 D.length) (by simp [CALL]) (seg_nAt0 g0a hPn bPs_id) (by simp [okL, okV]) (okB_nest (by simp [partB_length, hPn])) ?_
  simp only [CALL, ↓VC, VP, TT, List.getElem?_toArray, Nat.reduceEqDiff, reduceCtorEq, Nat.reduceAdd, Nat.reduceSub, Nat.reduceLT, Nat.reduceMul, Nat.reducePow, Nat.reduceLeDiff, Int.reduceToNat, Int.reduceLE, Int.reduceLT, Int.reducePow]
  refine ⟨fun _ => ⟨_, H, List.range (D.length + 2), rfl, LeS_ext x1 hN0 (Nat.le_refl _) (by simp [leT]) (by simp [stL, stV]) hst⟩, fun h => ?_⟩
  have hS : D.length + sumD D ≤ 1048576 := by
    by_cases h' : D.length + sumD D ≤ 1048576
    · exact h'
    · rw [if_neg h'] at h; omega
  rw [if_pos hS]
  refine kCall_val (c_laws_szDigestS m cT (1048576 - (D.length + sumD D)) T hT hcT (by omega) (by omega)) (by rfl) [(1, 0)] (by simp [CALL]; omega) (seg_bAt g1a (instL_bs _ _ _) trivial) (by simp [okL, okV]) (by simp [okL_bs]) ?_
  simp only [CALL, ↓VC, VP, TT, List.getElem?_toArray, Nat.reduceEqDiff, reduceCtorEq, Nat.reduceAdd, Nat.reduceSub, Nat.reduceLT, Nat.reduceMul, Nat.reducePow, Nat.reduceLeDiff, Int.reduceToNat, Int.reduceLE, Int.reduceLT, Int.reducePow]
  refine ⟨fun _ => ⟨_, H, List.range (D.length + 2), rfl, LeS_ext x1 hN0 (Nat.le_refl _) (by simp [leT]) (by simp [stL, stV]) hst⟩, fun h2 => ?_⟩
  have hmT : m ≤ 1048576 := by
    by_cases h' : m ≤ 1048576 - (D.length + sumD D)
    · omega
    · rw [if_neg h'] at h2; omega
  have hDc : ∀ p ∈ D, p.1.length ≤ 1048576 := fun p hp => by
    obtain ⟨i, hi⟩ := List.mem_iff_getElem?.1 hp
    have h1 := sumD_succ hi
    have h2 := sumD_le D (i + 1)
    omega
  have hDq : ∀ p ∈ D, p.1.length ≤ p.2 ∧ p.1.length ≤ 1048576 := fun p hp => ⟨(hD p hp).1, hDc p hp⟩
  have hDr : ∀ p ∈ cpD D, p.1.length ≤ p.2 ∧ p.1.length ≤ 1048576 := fun p hp => by
    simp only [cpD, List.mem_map] at hp
    obtain ⟨q, hq, rfl⟩ := hp
    exact ⟨Nat.le_refl _, hDc q hq⟩
  have hQn : (bPs (cpD D)).length = D.length := by rw [bPs_length, cpD_length]
  obtain ⟨v, e, hs, hi⟩ := fb_both z1 n1 bx1 mx1 pl1 key T lb1 lm1 lp1 hkey (cpD D) D.length m m (by rw [cpD_length]; omega) (by omega) hDr hT (Nat.le_refl _)
  simp only [cpD_length] at hs hi
  simp (config := { maxSteps := 2000000 }) only [CALL, ↓VC, VP, TT, List.getElem?_toArray, Nat.reduceEqDiff, reduceCtorEq, Nat.reduceAdd, Nat.reduceSub, Nat.reduceLT, Nat.reduceMul, Nat.reducePow, Nat.reduceLeDiff, Int.reduceToNat, Int.reduceLE, Int.reduceLT, Int.reducePow, instL_room, Bool.not_true, Bool.not_false, instL_cip, nat_lt0X, bne_self_eq_false, Bool.not_true, Bool.not_false, decide_false, List.replicate_zero, List.append_nil, cipC_len lb1 lm1 lp1, ↓cip_all lb1 lm1 lp1, hkey, fC, fK, rng_length, rng_end]
  refine kCall_val (c_laws_toCipher z1 n1 lb1 lm1 lp1) (by rfl) [] (by simp [CALL, cellsAt, tk, take_room, bs_length, bs_nil, instL_cip, okL_cip]) (by simp [CALL, cellsAt, tk, take_room, bs_length, bs_nil, instL_cip, okL_cip]) (by simp [CALL, cellsAt, tk, take_room, bs_length, bs_nil, instL_cip, okL_cip]) (by simp [okL_bs, okL_room, okL, okV, instL_cip, okL_cip]) ?_
  simp (config := { maxSteps := 2000000 }) only [CALL, ↓VC, VP, TT, List.getElem?_toArray, Nat.reduceEqDiff, reduceCtorEq, Nat.reduceAdd, Nat.reduceSub, Nat.reduceLT, Nat.reduceMul, Nat.reducePow, Nat.reduceLeDiff, Int.reduceToNat, Int.reduceLE, Int.reduceLT, Int.reducePow, instL_room, Bool.not_true, Bool.not_false, instL_cip, nat_lt0X, bne_self_eq_false, Bool.not_true, Bool.not_false, decide_false, List.replicate_zero, List.append_nil, cipC_len lb1 lm1 lp1, ↓cip_all lb1 lm1 lp1, hkey, fC, fK, rng_length, rng_end]
  refine kCall_val (c_laws_toBlock key hkey) (by rfl) [] (by simp [CALL, cellsAt, tk, take_room, bs_length, bs_nil, instL_cip, okL_cip]) (by simp [CALL, cellsAt, tk, take_room, bs_length, bs_nil, instL_cip, okL_cip]) (by simp [CALL, cellsAt, tk, take_room, bs_length, bs_nil, instL_cip, okL_cip]) (by simp [okL_bs, okL_room, okL, okV, instL_cip, okL_cip]) ?_
  simp (config := { maxSteps := 2000000 }) only [CALL, ↓VC, VP, TT, List.getElem?_toArray, Nat.reduceEqDiff, reduceCtorEq, Nat.reduceAdd, Nat.reduceSub, Nat.reduceLT, Nat.reduceMul, Nat.reducePow, Nat.reduceLeDiff, Int.reduceToNat, Int.reduceLE, Int.reduceLT, Int.reducePow, instL_room, Bool.not_true, Bool.not_false, instL_cip, nat_lt0X, bne_self_eq_false, Bool.not_true, Bool.not_false, decide_false, List.replicate_zero, List.append_nil, cipC_len lb1 lm1 lp1, ↓cip_all lb1 lm1 lp1, hkey, fC, fK, rng_length, rng_end]
  refine kA_ret (c_laws_toByteSS D cD hcD (by omega) hDq) (by rfl) ((0, 0) :: rng 2 D.length) (by simp [CALL]) (seg_nAt0 g0a hPn bPs_id) (by simp [okL, okV]) (okB_nest (by simp [partB_length, hPn])) (fun _ => own_nest) fun _ N2 hp2 _ eN2 e2 => ?_
  rw [inst_nest (by simp [rng_length]) (fun p hp => bPs_id _ _ p hp)] at e2
  have x2 := new_ext e2
  have q2 : nAt hp2 N2 (N2 + 1) (bPs (cpD D)) := new_nAt (R := []) eN2 (by rw [e2, List.append_nil])
  replace fC := x2.get fC; replace fK := x2.get fK; replace g0a := g0a.mono x2; replace g1a := g1a.mono x2; replace x1 := x1.trans x2
  clear e2 eN2 x2
  simp (config := { maxSteps := 2000000 }) only [CALL, ↓VC, VP, TT, List.getElem?_toArray, Nat.reduceEqDiff, reduceCtorEq, Nat.reduceAdd, Nat.reduceSub, Nat.reduceLT, Nat.reduceMul, Nat.reducePow, Nat.reduceLeDiff, Int.reduceToNat, Int.reduceLE, Int.reduceLT, Int.reducePow, instL_room, Bool.not_true, Bool.not_false, instL_cip, nat_lt0X, bne_self_eq_false, Bool.not_true, Bool.not_false, decide_false, List.replicate_zero, List.append_nil, cipC_len lb1 lm1 lp1, ↓cip_all lb1 lm1 lp1, hkey, fC, fK, rng_length, rng_end]
  refine kA_ret (c_laws_toDigestS m cT T hT hcT hmT) (by rfl) [(1, 0)] (by simp [CALL]) (seg_bAt g1a (instL_bs _ _ _) trivial) (by simp [okL, okV]) (by simp [okL_bs]) (by simp) fun _ N3 hp3 _ eN3 e3 => ?_
  have x3 := new_ext e3
  have f3 : hp3[N3]? = some ⟨true, bs T⟩ := by rw [new_at (R := []) eN3 (by rw [e3]; rfl)]; simp [instL_bs]
  replace fC := x3.get fC; replace fK := x3.get fK; replace g0a := g0a.mono x3; replace g1a := g1a.mono x3; replace x1 := x1.trans x3; replace q2 := q2.mono x3
  clear e3 eN3 x3
  simp (config := { maxSteps := 2000000 }) only [CALL, ↓VC, VP, TT, List.getElem?_toArray, Nat.reduceEqDiff, reduceCtorEq, Nat.reduceAdd, Nat.reduceSub, Nat.reduceLT, Nat.reduceMul, Nat.reducePow, Nat.reduceLeDiff, Int.reduceToNat, Int.reduceLE, Int.reduceLT, Int.reducePow, instL_room, Bool.not_true, Bool.not_false, instL_cip, nat_lt0X, bne_self_eq_false, Bool.not_true, Bool.not_false, decide_false, List.replicate_zero, List.append_nil, cipC_len lb1 lm1 lp1, ↓cip_all lb1 lm1 lp1, hkey, fC, fK, rng_length, rng_end]
  refine kCall_val hs (by rfl) ((N2, 0) :: (rng (N2 + 1) D.length ++ [(N3, 0)])) (by simp [CALL, instL_cip, rng_at]) (seg_nAt q2 hQn bPs_id (seg_bAt (bAt_of f3) (instL_bs _ _ _) trivial)) (by simp [okL, okV, okL_cip, okL_bs, partB_length, hQn]) (okB_nestT (by simp [partB_length, hQn, cpD_length])) ?_
  simp (config := { maxSteps := 2000000 }) only [CALL, ↓VC, VP, TT, List.getElem?_toArray, Nat.reduceEqDiff, reduceCtorEq, Nat.reduceAdd, Nat.reduceSub, Nat.reduceLT, Nat.reduceMul, Nat.reducePow, Nat.reduceLeDiff, Int.reduceToNat, Int.reduceLE, Int.reduceLT, Int.reducePow, instL_room, Bool.not_true, Bool.not_false, instL_cip, nat_lt0X, bne_self_eq_false, Bool.not_true, Bool.not_false, decide_false, List.replicate_zero, List.append_nil, cipC_len lb1 lm1 lp1, ↓cip_all lb1 lm1 lp1, hkey, fC, fK, rng_length, rng_end]
  refine kA_ret (c_laws_toByteSS D cD hcD (by omega) hDq) (by rfl) ((0, 0) :: rng 2 D.length) (by simp [CALL]) (seg_nAt0 g0a hPn bPs_id) (by simp [okL, okV]) (okB_nest (by simp [partB_length, hPn])) (fun _ => own_nest) fun _ N4 hp4 _ eN4 e4 => ?_
  rw [inst_nest (by simp [rng_length]) (fun p hp => bPs_id _ _ p hp)] at e4
  have x4 := new_ext e4
  have q4 : nAt hp4 N4 (N4 + 1) (bPs (cpD D)) := new_nAt (R := []) eN4 (by rw [e4, List.append_nil])
  replace fC := x4.get fC; replace fK := x4.get fK; replace f3 := x4.get f3; replace g0a := g0a.mono x4; replace g1a := g1a.mono x4; replace q2 := q2.mono x4; replace x1 := x1.trans x4
  clear e4 eN4 x4
  simp (config := { maxSteps := 2000000 }) only [CALL, ↓VC, VP, TT, List.getElem?_toArray, Nat.reduceEqDiff, reduceCtorEq, Nat.reduceAdd, Nat.reduceSub, Nat.reduceLT, Nat.reduceMul, Nat.reducePow, Nat.reduceLeDiff, Int.reduceToNat, Int.reduceLE, Int.reduceLT, Int.reducePow, instL_room, Bool.not_true, Bool.not_false, instL_cip, nat_lt0X, bne_self_eq_false, Bool.not_true, Bool.not_false, decide_false, List.replicate_zero, List.append_nil, cipC_len lb1 lm1 lp1, ↓cip_all lb1 lm1 lp1, hkey, fC, fK, rng_length, rng_end]
  refine kA_ret (c_laws_toDigestS m cT T hT hcT hmT) (by rfl) [(1, 0)] (by simp [CALL]) (seg_bAt g1a (instL_bs _ _ _) trivial) (by simp [okL, okV]) (by simp [okL_bs]) (by simp) fun _ N5 hp5 _ eN5 e5 => ?_
  have x5 := new_ext e5
  have f5 : hp5[N5]? = some ⟨true, bs T⟩ := by rw [new_at (R := []) eN5 (by rw [e5]; rfl)]; simp [instL_bs]
  replace fC := x5.get fC; replace fK := x5.get fK; replace f3 := x5.get f3; replace g0a := g0a.mono x5; replace g1a := g1a.mono x5; replace q2 := q2.mono x5; replace q4 := q4.mono x5; replace x1 := x1.trans x5
  clear e5 eN5 x5
  simp (config := { maxSteps := 2000000 }) only [CALL, ↓VC, VP, TT, List.getElem?_toArray, Nat.reduceEqDiff, reduceCtorEq, Nat.reduceAdd, Nat.reduceSub, Nat.reduceLT, Nat.reduceMul, Nat.reducePow, Nat.reduceLeDiff, Int.reduceToNat, Int.reduceLE, Int.reduceLT, Int.reducePow, instL_room, Bool.not_true, Bool.not_false, instL_cip, nat_lt0X, bne_self_eq_false, Bool.not_true, Bool.not_false, decide_false, List.replicate_zero, List.append_nil, cipC_len lb1 lm1 lp1, ↓cip_all lb1 lm1 lp1, hkey, fC, fK, rng_length, rng_end]
  refine kCall_val (c_laws_toCipher z1 n1 lb1 lm1 lp1) (by rfl) [] (by simp [CALL, cellsAt, tk, take_room, bs_length, bs_nil, instL_cip, okL_cip]) (by simp [CALL, cellsAt, tk, take_room, bs_length, bs_nil, instL_cip, okL_cip]) (by simp [CALL, cellsAt, tk, take_room, bs_length, bs_nil, instL_cip, okL_cip]) (by simp [okL_bs, okL_room, okL, okV, instL_cip, okL_cip]) ?_
  simp (config := { maxSteps := 2000000 }) only [CALL, ↓VC, VP, TT, List.getElem?_toArray, Nat.reduceEqDiff, reduceCtorEq, Nat.reduceAdd, Nat.reduceSub, Nat.reduceLT, Nat.reduceMul, Nat.reducePow, Nat.reduceLeDiff, Int.reduceToNat, Int.reduceLE, Int.reduceLT, Int.reducePow, instL_room, Bool.not_true, Bool.not_false, instL_cip, nat_lt0X, bne_self_eq_false, Bool.not_true, Bool.not_false, decide_false, List.replicate_zero, List.append_nil, cipC_len lb1 lm1 lp1, ↓cip_all lb1 lm1 lp1, hkey, fC, fK, rng_length, rng_end]
  refine kCall_val (c_laws_toBlock key hkey) (by rfl) [] (by simp [CALL, cellsAt, tk, take_room, bs_length, bs_nil, instL_cip, okL_cip]) (by simp [CALL, cellsAt, tk, take_room, bs_length, bs_nil, instL_cip, okL_cip]) (by simp [CALL, cellsAt, tk, take_room, bs_length, bs_nil, instL_cip, okL_cip]) (by simp [okL_bs, okL_room, okL, okV, instL_cip, okL_cip]) ?_
  simp (config := { maxSteps := 2000000 }) only [CALL, ↓VC, VP, TT, List.getElem?_toArray, Nat.reduceEqDiff, reduceCtorEq, Nat.reduceAdd, Nat.reduceSub, Nat.reduceLT, Nat.reduceMul, Nat.reducePow, Nat.reduceLeDiff, Int.reduceToNat, Int.reduceLE, Int.reduceLT, Int.reducePow, instL_room, Bool.not_true, Bool.not_false, instL_cip, nat_lt0X, bne_self_eq_false, Bool.not_true, Bool.not_false, decide_false, List.replicate_zero, List.append_nil, cipC_len lb1 lm1 lp1, ↓cip_all lb1 lm1 lp1, hkey, fC, fK, rng_length, rng_end]
  refine kCall_val hi (by rfl) ((N4, 0) :: (rng (N4 + 1) D.length ++ [(N5, 0)])) (by simp [CALL, instL_cip, rng_at]) (seg_nAt q4 hQn bPs_id (seg_bAt (bAt_of f5) (instL_bs _ _ _) trivial)) (by simp [okL, okV, okL_cip, okL_bs, partB_length, hQn]) (okB_nestT (by simp [partB_length, hQn, cpD_length])) ?_
  simp (config := { maxSteps := 2000000 }) only [CALL, ↓VC, VP, TT, List.getElem?_toArray, Nat.reduceEqDiff, reduceCtorEq, Nat.reduceAdd, Nat.reduceSub, Nat.reduceLT, Nat.reduceMul, Nat.reducePow, Nat.reduceLeDiff, Int.reduceToNat, Int.reduceLE, Int.reduceLT, Int.reducePow, instL_room, Bool.not_true, Bool.not_false, instL_cip, nat_lt0X, bne_self_eq_false, Bool.not_true, Bool.not_false, decide_false, List.replicate_zero, List.append_nil, cipC_len lb1 lm1 lp1, ↓cip_all lb1 lm1 lp1, hkey, fC, fK, rng_length, rng_end]
  refine kA_ret (c_laws_toByteSS D cD hcD (by omega) hDq) (by rfl) ((0, 0) :: rng 2 D.length) (by simp [CALL]) (seg_nAt0 g0a hPn bPs_id) (by simp [okL, okV]) (okB_nest (by simp [partB_length, hPn])) (fun _ => own_nest) fun _ N6 hp6 _ eN6 e6 => ?_
  rw [inst_nest (by simp [rng_length]) (fun p hp => bPs_id _ _ p hp)] at e6
  have x6 := new_ext e6
  have q6 : nAt hp6 N6 (N6 + 1) (bPs (cpD D)) := new_nAt (R := []) eN6 (by rw [e6, List.append_nil])
  replace fC := x6.get fC; replace fK := x6.get fK; replace f5 := x6.get f5; replace g0a := g0a.mono x6; replace g1a := g1a.mono x6; replace q4 := q4.mono x6; replace x1 := x1.trans x6
  clear e6 eN6 x6
  simp (config := { maxSteps := 2000000 }) only [CALL, ↓VC, VP, TT, List.getElem?_toArray, Nat.reduceEqDiff, reduceCtorEq, Nat.reduceAdd, Nat.reduceSub, Nat.reduceLT, Nat.reduceMul, Nat.reducePow, Nat.reduceLeDiff, Int.reduceToNat, Int.reduceLE, Int.reduceLT, Int.reducePow, instL_room, Bool.not_true, Bool.not_false, instL_cip, nat_lt0X, bne_self_eq_false, Bool.not_true, Bool.not_false, decide_false, List.replicate_zero, List.append_nil, cipC_len lb1 lm1 lp1, ↓cip_all lb1 lm1 lp1, hkey, fC, fK, rng_length, rng_end]
  refine kCall_val (c_laws_eqByteSS (cpD D) D.length D.length (by rw [cpD_length]; exact Nat.le_refl _) (by rw [cpD_length]; exact Nat.le_refl _) (by rw [cpD_length]; omega) hDr) (by rfl) ((N4, 0) :: (N6, 0) :: (rng (N4 + 1) D.length ++ rng (N6 + 1) D.length)) (by rw [cpD_length]; simp [CALL]) (by rw [cpD_length]; exact seg_two q4 q6 hQn bPs_id) (by simp [okL, okV]) (okB_two (by simp [partB_length, hQn, cpD_length])) ?_
  simp (config := { maxSteps := 2000000 }) only [CALL, ↓VC, VP, TT, List.getElem?_toArray, Nat.reduceEqDiff, reduceCtorEq, Nat.reduceAdd, Nat.reduceSub, Nat.reduceLT, Nat.reduceMul, Nat.reducePow, Nat.reduceLeDiff, Int.reduceToNat, Int.reduceLE, Int.reduceLT, Int.reducePow, instL_room, Bool.not_true, Bool.not_false, instL_cip, nat_lt0X, bne_self_eq_false, Bool.not_true, Bool.not_false, decide_false, List.replicate_zero, List.append_nil, cipC_len lb1 lm1 lp1, ↓cip_all lb1 lm1 lp1, hkey, fC, fK, rng_length, rng_end]
  refine kA_ret (c_laws_toDigestS m cT T hT hcT hmT) (by rfl) [(1, 0)] (by simp [CALL]) (seg_bAt g1a (instL_bs _ _ _) trivial) (by simp [okL, okV]) (by simp [okL_bs]) (by simp) fun _ N7 hp7 _ eN7 e7 => ?_
  have x7 := new_ext e7
  have f7 : hp7[N7]? = some ⟨true, bs T⟩ := by rw [new_at (R := []) eN7 (by rw [e7]; rfl)]; simp [instL_bs]
  replace f5 := x7.get f5; replace x1 := x1.trans x7
  clear e7 eN7 x7
  simp (config := { maxSteps := 2000000 }) only [CALL, ↓VC, VP, TT, List.getElem?_toArray, Nat.reduceEqDiff, reduceCtorEq, Nat.reduceAdd, Nat.reduceSub, Nat.reduceLT, Nat.reduceMul, Nat.reducePow, Nat.reduceLeDiff, Int.reduceToNat, Int.reduceLE, Int.reduceLT, Int.reducePow, instL_room, Bool.not_true, Bool.not_false, instL_cip, nat_lt0X, bne_self_eq_false, Bool.not_true, Bool.not_false, decide_false, List.replicate_zero, List.append_nil, cipC_len lb1 lm1 lp1, ↓cip_all lb1 lm1 lp1, hkey, fC, fK, rng_length, rng_end]
  refine kCall_val (c_laws_eqDigestS m m m m T T hT hT (Nat.le_refl _) (Nat.le_refl _) hmT) (by rfl) [(N5, 0), (N7, 0)] (by simp [CALL]) (seg_bAt (bAt_of f5) (instL_bs _ _ _) (seg_bAt (bAt_of f7) (instL_bs _ _ _) trivial)) (by simp [okL, okV]) (by simp [okL_bs]) ?_
  simp (config := { maxSteps := 2000000 }) only [CALL, ↓VC, VP, TT, List.getElem?_toArray, Nat.reduceEqDiff, reduceCtorEq, Nat.reduceAdd, Nat.reduceSub, Nat.reduceLT, Nat.reduceMul, Nat.reducePow, Nat.reduceLeDiff, Int.reduceToNat, Int.reduceLE, Int.reduceLT, Int.reducePow, instL_room, Bool.not_true, Bool.not_false, instL_cip, nat_lt0X, bne_self_eq_false, Bool.not_true, Bool.not_false, decide_false, List.replicate_zero, List.append_nil, cipC_len lb1 lm1 lp1, ↓cip_all lb1 lm1 lp1, hkey, fC, fK, rng_length, rng_end, beq_self_eq_true]
  exact ⟨_, H, List.range (D.length + 2), rfl, LeS_ext x1 hN0 (Nat.le_refl _) (by simp [leT]) (by simp [stL, stV]) hst⟩
end Go.Proofs.Ytcfhdogmkbfnhaa

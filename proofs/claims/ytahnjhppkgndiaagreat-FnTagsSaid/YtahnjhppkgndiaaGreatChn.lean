import Derived.Test.YtahnjhppkgndiaaGreatChnI
import Derived.Test.YtahnjhppkgndiaaGreatStreamB
import Derived.Test.YtahnjhppkgndiaaGreatEngP
/- Chains of tags: the reference. -/
set_option linter.unusedSimpArgs false
set_option linter.unusedVariables false
namespace Go.Proofs.YtahnjhppkgndiaaGreat
open Go Go.Vc
set_option maxRecDepth 10000
set_option maxHeartbeats 4000000
/-- The code of a list of data. -/
def lstE (z : Int) (box A pl : List UInt8) (n : Int) (D : List (List UInt8 × Nat)) : Int := if cipB z box A pl n then (if 20 < D.length ∨ bigB D = true then 2 else 0) else 1
theorem c_spec_l08Lists (z n : Int) (box A pl : List UInt8) (hb : box.length = 256) (hA : A.length = 16) (hp : pl.length = 16) (D : List (List UInt8 × Nat)) (c : Nat) (hm : D.length ≤ 1048576) (hL : ∀ p ∈ D, p.1.length ≤ 1048576) : LC Tryz.prog 88 [.a (cipC z box A pl n), .s 0 0 D.length c] (⟨false, ptrV 1 (bPs D)⟩ :: partB false (bPs D))
    (fun v hp => v = .c (.int .i64 (lstE z box A pl n D)) ∧ hp = (⟨false, ptrV 1 (bPs D)⟩ :: partB false (bPs D))) := by
  have hPn := bPs_length D
  refine LC_of (X := XX (fun _ => .nil) (fun _ => []) [15, 71, 72, 73, 79, 80, 87, 90, 91, 93, 99, 119, 137, 176, 177, 203, 204, 212, 219] (D.length + 1)) envOK Tryz.func88 (by kernel_rfl) (by kernel_rfl) (by simp [XX, partB_length, bPs_length]) (Nat.le_of_ble_eq_true (by kernel_rfl)) ?_
  simp only [kFun, Tryz.f88, List.length_nil, List.length_cons, Nat.sub_zero, Nat.reduceSub, Nat.reduceAdd, List.nil_append, List.cons_append, List.replicate_succ, List.replicate_zero]
  simp only [XX, ↓VC, VP, TT, Nat.reduceEqDiff, reduceCtorEq, Nat.reduceAdd, Nat.reduceSub, Nat.reduceLT, Nat.reduceMul, Nat.reducePow, Nat.reduceLeDiff, Int.reduceToNat, Int.reduceLE, Int.reduceLT, Int.reducePow, cipC_len hb hA hp, ↓cip_all hb hA hp, partB_length, bPs_length, partB_skip0 hPn]
  refine kCall_val (c_spec_l04Is z n box A pl hb hA hp) (by rfl) [] (by simp [CALL, SCB, instL_cip, okL_cip, k_inst, k_ok, e_inst, e_take, e_ok, Cip.bl, okL, okV, partB_length, bPs_length, cellsAt]) (by simp [CALL, SCB, instL_cip, okL_cip, k_inst, k_ok, e_inst, e_take, e_ok, Cip.bl, okL, okV, partB_length, bPs_length, cellsAt]) (by simp [CALL, SCB, instL_cip, okL_cip, k_inst, k_ok, e_inst, e_take, e_ok, Cip.bl, okL, okV, partB_length, bPs_length, cellsAt]) (by simp [okL_bs, okL_room, okL, okV, instL_cip, okL_cip, k_inst, k_ok, e_inst, e_take, e_ok, Cip.bl, okL, okV, partB_length, bPs_length, cellsAt]) ?_
  simp (config := { maxSteps := 2000000 }) only [CALL, ↓VC, VP, TT, Nat.reduceEqDiff, reduceCtorEq, Nat.reduceAdd, Nat.reduceSub, Nat.reduceLT, Nat.reduceMul, Nat.reducePow, Nat.reduceLeDiff, Int.reduceToNat, Int.reduceLE, Int.reduceLT, Int.reducePow, GOB, Cip.bl, e_inst0, k_inst, k_len, ↓k_all, dig_len, tag_len, partB_length, bPs_length, ptrV_length, bP, List.append_assoc, List.cons_append, cipC_len hb hA hp, ↓cip_all hb hA hp, hPn]
  refine ⟨fun h1 => ?_, fun h1 => ?_⟩
  · have e : lstE z box A pl n D = 1 := by unfold lstE; rw [if_neg (by simpa using h1)]
    rw [e]
    exact ⟨_, _, List.range (D.length + 1), ⟨rfl, rfl⟩, LeS_nest rfl rfl (by simp [leT]) (by simp [stL, stV])⟩
  simp only [Bool.not_eq_false'] at h1
  refine ⟨fun h2 => ?_, fun h2 => ?_⟩
  · have e : lstE z box A pl n D = 2 := by unfold lstE; rw [if_pos h1, if_pos (.inl (by omega))]
    rw [e]
    exact ⟨_, _, List.range (D.length + 1), ⟨rfl, rfl⟩, LeS_nest rfl rfl (by simp [leT]) (by simp [stL, stV])⟩
  refine kLoop_of (fun i : Nat => ([.j, .s 0 0 D.length c, .j, .j, .j, .c (.int .i64 (i)), .j, .j, .j, .j, .j, .j, .j, .j, .j, .j, .j, .j, .j, .j, .j, .j, .j, .j, .j, .j], ⟨false, ptrV 1 (bPs D)⟩ :: partB false (bPs D))) (fun i => D.length - i) (fun i => i ≤ D.length ∧ bigB (D.take i) = false) 0 ⟨by omega, by simp [bigB]⟩ ⟨List.range (D.length + 1), ?_⟩ ?_
  · exact LeS_nest rfl rfl (by simp [leT]) (by simp [stL, stV])
  rintro i ⟨hi, hs⟩
  rcases Nat.lt_or_ge i D.length with h3 | h3
  · have hpi : D[i]? = some D[i] := List.getElem?_eq_getElem h3
    generalize D[i] = p at hpi
    have hL := bPs_get hpi
    have hbs := bigB_succ hpi
    rw [hs, Bool.false_or] at hbs
    simp only [↓VC, VP, TT, Nat.reduceEqDiff, reduceCtorEq, Nat.reduceAdd, Nat.reduceSub, Nat.reduceLT, Nat.reduceMul, Nat.reducePow, Nat.reduceLeDiff, Int.reduceToNat, Int.reduceLE, Int.reduceLT, Int.reducePow, (eq_true (by omega) : ((i : Int) < (D.length : Int)) = True), decide_true, ↓vGet_ptrV0 hL, bP, ptrV_length, hPn]
    refine ⟨fun h4 => ?_, fun h4 => ?_⟩
    · have hbb : bigB D = true := bigB_mono (i := i + 1) (by rw [hbs, decide_eq_true_eq]; omega)
      have e : lstE z box A pl n D = 2 := by unfold lstE; rw [if_pos h1, if_pos (.inr hbb)]
      rw [e]
      exact ⟨_, _, List.range (D.length + 1), ⟨rfl, rfl⟩, LeS_nest rfl (List.append_nil _).symm (by simp [leT]) (by simp [stL, stV])⟩
    · refine ⟨i + 1, ⟨by omega, by rw [hbs, decide_eq_false_iff_not]; omega⟩, by omega, List.range (D.length + 1), ?_⟩
      rw [wrap_i64 (by omega) (by omega)]
      exact LeS_nest rfl (List.append_nil _).symm (by simp [leT]) (by simp [stL, stV])
  · obtain rfl : i = D.length := by omega
    simp only [↓VC, VP, TT, Nat.reduceEqDiff, reduceCtorEq, Nat.reduceAdd, Nat.reduceSub, Nat.reduceLT, Nat.reduceMul, Nat.reducePow, Nat.reduceLeDiff, Int.reduceToNat, Int.reduceLE, Int.reduceLT, Int.reducePow, (eq_false (by omega) : ((D.length : Int) < (D.length : Int)) = False), decide_false]
    rw [List.take_length] at hs
    have e : lstE z box A pl n D = 0 := by unfold lstE; rw [if_pos h1, if_neg (by rw [hs]; simp; omega)]
    rw [e]
    exact ⟨_, _, List.range (D.length + 1), ⟨rfl, rfl⟩, LeS_nest rfl (List.append_nil _).symm (by simp [leT]) (by simp [stL, stV])⟩
theorem k_st {c : Cip} (N : Nat) : stL N c.cells := by unfold Cip.cells; simp [cipC, stL, stV, stL_app, stL_bs]
/-- The tags of a chain. -/
def tgN (c : Cip) (key : List UInt8) (D : List (List UInt8 × Nat)) : Nat → List UInt8
  | 0 => []
  | i + 1 => c.tag key (tgN c key D i ++ (D.getD i default).1)
def tgL (c : Cip) (key : List UInt8) (D : List (List UInt8 × Nat)) : Nat → List UInt8
  | 0 => []
  | i + 1 => tgL c key D i ++ tgN c key D (i + 1)
theorem tgN_len {c : Cip} {key : List UInt8} {D : List (List UInt8 × Nat)} {i : Nat} : (tgN c key D (i + 1)).length = 32 := by rw [tgN]; exact tag_len _ _
theorem tgL_len {c : Cip} {key : List UInt8} {D : List (List UInt8 × Nat)} : ∀ i, (tgL c key D i).length = 32 * i
  | 0 => rfl
  | i + 1 => by rw [tgL, List.length_append, tgL_len i, tgN_len, Nat.mul_succ]
theorem tgL_last {c : Cip} {key : List UInt8} {D : List (List UInt8 × Nat)} {i : Nat} : (tgL c key D (i + 1)).drop (32 * i) = tgN c key D (i + 1) := by
  rw [tgL, List.drop_append_of_le_length (by rw [tgL_len]; exact Nat.le_refl _), List.drop_of_length_le (by rw [tgL_len]; exact Nat.le_refl _), List.nil_append]
theorem tgN_eq {c : Cip} {key : List UInt8} {D : List (List UInt8 × Nat)} {j : Nat} {p : List UInt8 × Nat} (h : D[j]? = some p) : tgN c key D (j + 1) = c.tag key (tgN c key D j ++ p.1) := by
  rw [tgN, List.getD_eq_getElem?_getD, h]; rfl
theorem vSub_last {c : Cip} {key : List UInt8} {D : List (List UInt8 × Nat)} {j : Nat} {X : List V} {k : V → Prop} : vSub (bs (tgL c key D (j + 1)) ++ X) (j * 32) 32 k = k (.a (bs (tgN c key D (j + 1)))) := by
  have hl := tgL_len (c := c) (key := key) (D := D) (j + 1)
  rw [vSub_appL (by rw [bs_length, hl]; omega), vSub_bs, hl, Nat.mul_comm j 32, tgL_last, List.take_of_length_le (by rw [tgN_len]; exact Nat.le_refl _)]
  simp only [eq_iff_iff, and_iff_right_iff_imp]
  intro _; omega
theorem k_spec_chain (c : Cip) (key : List UInt8) (hk : key.length = 16) (D : List (List UInt8 × Nat)) (cc : Nat) (hm : D.length ≤ 20) (hL : ∀ p ∈ D, p.1.length ≤ p.2 ∧ p.1.length ≤ 2000) : LC Tryz.prog 89 [.a c.cells, .a (bs key), .s 0 0 D.length cc] (⟨false, ptrV 1 (bPs D)⟩ :: partB false (bPs D))
    (Ret (⟨false, ptrV 1 (bPs D)⟩ :: partB false (bPs D)) (fun _ : Nat => True) fun r => (.s (D.length + 1) 0 D.length (D.length + r), [⟨true, bs (tgL c key D D.length) ++ List.replicate (32 * r) .j⟩])) := by
  have hPn := bPs_length D
  refine LC_of (X := XX (fun | 8 => .cut (.one 0 (.one 3 (.one 4 (.one 5 (.one 6 (.one 7 (.alt (.one 1 (.alt (.one 2 (.one 8 (.one 9 (.one 10 (.one 11 (.one 12 .nil)))))) (.one 8 (.one 2 (.one 9 (.one 10 (.one 11 (.one 12 .nil)))))))) (.alt (.one 2 (.alt (.one 1 (.one 8 (.one 9 (.one 10 (.one 11 (.one 12 .nil)))))) (.one 8 (.one 1 (.one 9 (.one 10 (.one 11 (.one 12 .nil)))))))) (.one 8 (.one 1 (.one 2 (.one 9 (.one 10 (.one 11 (.one 12 .nil))))))))))))))) | _ => .nil) (fun _ => []) [15, 71, 72, 73, 79, 80, 87, 90, 91, 93, 99, 119, 137, 176, 177, 203, 204, 212, 219] (D.length + 1)) envOK Tryz.func89 (by kernel_rfl) (by kernel_rfl) (by simp [XX, partB_length, bPs_length]) (Nat.le_of_ble_eq_true (by kernel_rfl)) ?_
  simp only [kFun, Tryz.f89, List.length_nil, List.length_cons, Nat.sub_zero, Nat.reduceSub, Nat.reduceAdd, List.nil_append, List.cons_append, List.replicate_succ, List.replicate_zero]
  simp only [XX, ↓VC, VP, TT, Nat.reduceEqDiff, reduceCtorEq, Nat.reduceAdd, Nat.reduceSub, Nat.reduceLT, Nat.reduceMul, Nat.reducePow, Nat.reduceLeDiff, Int.reduceToNat, Int.reduceLE, Int.reduceLT, Int.reducePow, k_len, ↓k_all, hk, partB_length, bPs_length]
  refine kLoop_of (fun s : Nat × Nat => ([.j, .j, .s 0 0 D.length cc, .p (D.length + 1) 0, .p (D.length + 2) 0, .j, .j, .s (D.length + 3) 0 s.1 (s.1 + s.2), .c (.int .i64 (s.1)), .j, .j, .j, .j, .j, .j, .j, .j, .j, .j, .j, .j, .j, .j, .j, .j, .j, .j, .j, .j, .j, .j, .j, .j, .j, .j, .j, .j, .j, .j], (⟨false, ptrV 1 (bPs D)⟩ :: partB false (bPs D)) ++ [⟨true, c.cells⟩, ⟨true, bs key⟩, ⟨true, bs (tgL c key D s.1) ++ List.replicate (32 * s.2) .j⟩])) (fun s => D.length - s.1) (fun s => s.1 ≤ D.length) (0, 0) (by simp) ⟨List.range (D.length + 4), ?_⟩ ?_
  · refine LeS_id (ex := []) (by simp [partB_length, hPn]) (Nat.le_add_right _ 3) (by simp [tgL, bs_nil]) (by simp [leT]) (by simp [stL, stV]) ?_
    exact stB_app (stB_cons (stL_ptrV (by omega)) (stB_part bPs_st)) (stB_cons (k_st _) (stB_cons (stL_bs _ _) (stB_cons (stL_room _ _ _) stB_nil)))
  rintro ⟨j, r⟩ hj
  simp only at hj
  rcases Nat.lt_or_ge j D.length with h | h
  · have hpi : D[j]? = some D[j] := List.getElem?_eq_getElem h
    generalize D[j] = p at hpi
    have hL1 := bPs_get hpi
    have hS : (tgL c key D j).length = 32 * j := tgL_len j
    have hlk : ∀ R, ((⟨false, ptrV 1 (bPs D)⟩ : Blk) :: (partB false (bPs D) ++ R))[j + 1]? = some ⟨false, bs p.1⟩ := fun R => partB_get hL1
    simp only [↓VC, VP, TT, Nat.reduceEqDiff, reduceCtorEq, Nat.reduceAdd, Nat.reduceSub, Nat.reduceLT, Nat.reduceMul, Nat.reducePow, Nat.reduceLeDiff, Int.reduceToNat, Int.reduceLE, Int.reduceLT, Int.reducePow, (eq_true (by omega) : ((j : Int) < (D.length : Int)) = True), decide_true, List.cons_append]
    refine ⟨fun h0 => ?_, fun h0 => ?_⟩
    · obtain ⟨j, rfl⟩ : ∃ j', j = j' + 1 := ⟨j - 1, by omega⟩
      have e0 : IntKind.i64.wrap (((j + 1 : Nat) : Int) - 1) = (j : Int) := by rw [wrap_i64 (by omega) (by omega)]; omega
      rw [e0]
      refine ⟨by omega, by omega, ?_⟩
      simp only [↓VC, VP, TT, Nat.reduceEqDiff, reduceCtorEq, Nat.reduceAdd, Nat.reduceSub, Nat.reduceLT, Nat.reduceMul, Nat.reducePow, Nat.reduceLeDiff, Int.reduceToNat, Int.reduceLE, Int.reduceLT, Int.reducePow, List.append_assoc, List.cons_append, List.nil_append, partB_skip hPn, partB_skip0 hPn, partB_length, hPn, ↓vSub_last]
      refine kCall_Ret (c_spec_l08Bytes (tgN c key D (j + 1)) tgN_len) (by rfl) [] (by simp [CALL, SCB, instL_cip, okL_cip, k_inst, k_ok, e_inst, e_take, e_ok, Cip.bl, okL, okV, partB_length, bPs_length, cellsAt]) (by simp [CALL, SCB, instL_cip, okL_cip, k_inst, k_ok, e_inst, e_take, e_ok, Cip.bl, okL, okV, partB_length, bPs_length, cellsAt]) (by simp [CALL, SCB, instL_cip, okL_cip, k_inst, k_ok, e_inst, e_take, e_ok, Cip.bl, okL, okV, partB_length, bPs_length, cellsAt]) (by simp [okL_bs, okL_room, okL, okV, instL_cip, okL_cip, k_inst, k_ok, e_inst, e_take, e_ok, Cip.bl, okL, okV, partB_length, bPs_length, cellsAt]) (by simp [CALL, SCB, instL_cip, okL_cip, k_inst, k_ok, e_inst, e_take, e_ok, Cip.bl, okL, okV, partB_length, bPs_length, cellsAt]) fun r0 _ => ?_
      simp (config := { maxSteps := 2000000 }) only [CALL, ↓VC, VP, TT, Nat.reduceEqDiff, reduceCtorEq, Nat.reduceAdd, Nat.reduceSub, Nat.reduceLT, Nat.reduceMul, Nat.reducePow, Nat.reduceLeDiff, Int.reduceToNat, Int.reduceLE, Int.reduceLT, Int.reducePow, GOB, Cip.bl, e_inst0, k_inst, k_len, ↓k_all, dig_len, tag_len, partB_length, bPs_length, ptrV_length, bP, List.append_assoc, List.cons_append, List.append_assoc, hPn]
      refine kCut_of (fun r : Nat => ([.j, .j, .s 0 0 D.length cc, .p (D.length + 1) 0, .p (D.length + 2) 0, .j, .j, .s (D.length + 3) 0 (j + 1 + 1) (j + 1 + 1 + r), .c (.int .i64 ((j + 1 : Nat))), .j, .j, .j, .j, .j, .j, .j, .j, .j, .j, .j, .j, .j, .j, .j, .j, .j, .j, .j, .j, .j, .j, .j, .j, .j, .j, .j, .j, .j, .j], (⟨false, ptrV 1 (bPs D)⟩ :: partB false (bPs D)) ++ [⟨true, c.cells⟩, ⟨true, bs key⟩, ⟨true, bs (tgL c key D (j + 1 + 1)) ++ List.replicate (32 * r) .j⟩])) (fun _ => True) ?_ (fun r' _ => ?_)
      · simp only [↓VC, VP, TT, Nat.reduceEqDiff, reduceCtorEq, Nat.reduceAdd, Nat.reduceSub, Nat.reduceLT, Nat.reduceMul, Nat.reducePow, Nat.reduceLeDiff, Int.reduceToNat, Int.reduceLE, Int.reduceLT, Int.reducePow, ↓k_all, k_len, hk, List.append_assoc, List.cons_append, List.nil_append, partB_skip hPn, partB_skip0 hPn, partB_set hPn, partB_set0 hPn, List.set_cons_zero, List.set_cons_succ, partB_length, hPn, Nat.add_comm 1 (j + 1), ↓hlk, ↓vGet_ptrV0 hL1, bP, (eq_true (by omega) : (((j + 1 : Nat) : Int) < (D.length : Int)) = True)]
        obtain ⟨hp1, hp2⟩ := hL p (List.mem_of_getElem? hpi)
        have hT : (tgN c key D (j + 1)).length = 32 := tgN_len
        have e2 : ∀ r1, List.take 32 (bs (tgN c key D (j + 1)) ++ List.replicate r0 V.j) ++ (bs p.1 ++ List.replicate r1 V.j) = bs (tgN c key D (j + 1) ++ p.1) ++ List.replicate r1 .j := fun r1 => by
          rw [take_room hT.symm, ← List.append_assoc, bs_append]
        have e7 : ∀ r2, List.take ((j + 1) * 32) (bs (tgL c key D (j + 1)) ++ List.replicate (32 * r) V.j) ++ (bs (c.tag key (tgN c key D (j + 1) ++ p.1)) ++ List.replicate r2 V.j) = bs (tgL c key D (j + 1 + 1)) ++ List.replicate r2 .j := fun r2 => by
          rw [take_room (by rw [hS, Nat.mul_comm]), ← List.append_assoc, bs_append, ← tgN_eq hpi, ← tgL]
        have e4 : List.take p.1.length (bs p.1) = bs p.1 := tkn rfl
        simp only [e4, e2, hT, bs_length]
        repeat' apply And.intro
        all_goals first | omega | exact .inr trivial | exact .inr (by omega) | skip
        all_goals intro r1 c1 e1 e3
        all_goals refine kCall_val (k_spec_tag c key (tgN c key D (j + 1) ++ p.1) c1 hk (by simp [hT]; omega) (by simp [hT]; omega)) (by rfl) [(D.length + 6, 0)] (by simp [CALL, SCB, instL_cip, okL_cip, k_inst, k_ok, e_inst, e_take, e_ok, Cip.bl, okL, okV, partB_length, bPs_length, cellsAt, hT, partB_skip hPn]) (by simp [CALL, SCB, instL_cip, okL_cip, k_inst, k_ok, e_inst, e_take, e_ok, Cip.bl, okL, okV, partB_length, bPs_length, cellsAt, hT, partB_skip hPn]) (by simp [CALL, SCB, instL_cip, okL_cip, k_inst, k_ok, e_inst, e_take, e_ok, Cip.bl, okL, okV, partB_length, bPs_length, cellsAt, hT, partB_skip hPn]) (by simp [okL_bs, okL_room, okL, okV, instL_cip, okL_cip, k_inst, k_ok, e_inst, e_take, e_ok, Cip.bl, okL, okV, partB_length, bPs_length, cellsAt, hT, partB_skip hPn]) ?_
                  simp (config := { maxSteps := 2000000 }) only [CALL, ↓VC, VP, TT, Nat.reduceEqDiff, reduceCtorEq, Nat.reduceAdd, Nat.reduceSub, Nat.reduceLT, Nat.reduceMul, Nat.reducePow, Nat.reduceLeDiff, Int.reduceToNat, Int.reduceLE, Int.reduceLT, Int.reducePow, GOB, Cip.bl, e_inst0, k_inst, k_len, ↓k_all, dig_len, tag_len, partB_length, bPs_length, ptrV_length, bP, List.append_assoc, List.cons_append, ↓k_all, k_len, hk, List.append_assoc, List.cons_append, List.nil_append, partB_skip hPn, partB_skip0 hPn, partB_set hPn, partB_set0 hPn, List.set_cons_zero, List.set_cons_succ, partB_length, hPn, tag_len, flatZ, Nat.mul_one, bs_length, List.length_replicate, Nat.le_refl, if_true, splice_bs, splB0 (show (c.tag key (tgN c key D (j + 1) ++ p.1)).length = (List.replicate 32 (0 : UInt8)).length by rw [tag_len, List.length_replicate])]
        all_goals refine ⟨by omega, by omega, by omega, .inr (by omega), .inr trivial, fun r2 c2 e5 e6 => ?_⟩
        all_goals refine ⟨c2 - (j + 2), List.range (D.length + 3) ++ [D.length + 8], ?_⟩
        all_goals rw [e7, show j + 1 + 1 + (c2 - (j + 2)) = c2 by omega, show 32 * (c2 - (j + 2)) = r2 by omega]
        all_goals refine LeS_nx (a := D.length + 3) (B := [_]) [⟨true, c.cells⟩, ⟨true, bs key⟩] (by simp [partB_length, hPn]) (by omega) (by simp; rfl) (by simp) (by simp) rfl (by simp [leTm, leV, V.ren, range_getD_lt, range_getD_ge, range_getD_eq]) (stB_cons (stL_ptrV (by omega)) (stB_app (stB_part bPs_st) (stB_cons (k_st _) (stB_cons (stL_bs _ _) stB_nil)))) (by simp [leHp, partB_skip hPn, renL_room]) (by simp [okL, okV]) (by simp [okL_room])
      · simp only [↓VC, VP, TT, Nat.reduceEqDiff, reduceCtorEq, Nat.reduceAdd, Nat.reduceSub, Nat.reduceLT, Nat.reduceMul, Nat.reducePow, Nat.reduceLeDiff, Int.reduceToNat, Int.reduceLE, Int.reduceLT, Int.reducePow, List.cons_append]
        refine ⟨(j + 1 + 1, r'), by simp only; omega, by simp only; omega, List.range (D.length + 4), ?_⟩
        rw [wrap_i64 (by omega) (by omega)]
        refine LeS_id (ex := []) (by simp [partB_length, hPn]) (Nat.le_add_right _ 3) (by simp) (by simp [leT]) (by simp [stL, stV]) ?_
        exact stB_cons (stL_ptrV (by omega)) (stB_app (stB_part bPs_st) (stB_cons (k_st _) (stB_cons (stL_bs _ _) (stB_cons (stL_room _ _ _) stB_nil))))
    · obtain rfl : j = 0 := by omega
      refine kCut_of (fun r : Nat => ([.j, .j, .s 0 0 D.length cc, .p (D.length + 1) 0, .p (D.length + 2) 0, .j, .j, .s (D.length + 3) 0 1 (1 + r), .c (.int .i64 ((0 : Nat))), .j, .j, .j, .j, .j, .j, .j, .j, .j, .j, .j, .j, .j, .j, .j, .j, .j, .j, .j, .j, .j, .j, .j, .j, .j, .j, .j, .j, .j, .j], (⟨false, ptrV 1 (bPs D)⟩ :: partB false (bPs D)) ++ [⟨true, c.cells⟩, ⟨true, bs key⟩, ⟨true, bs (tgL c key D 1) ++ List.replicate (32 * r) .j⟩])) (fun _ => True) ?_ (fun r' _ => ?_)
      · simp only [↓VC, VP, TT, Nat.reduceEqDiff, reduceCtorEq, Nat.reduceAdd, Nat.reduceSub, Nat.reduceLT, Nat.reduceMul, Nat.reducePow, Nat.reduceLeDiff, Int.reduceToNat, Int.reduceLE, Int.reduceLT, Int.reducePow, ↓k_all, k_len, hk, List.append_assoc, List.cons_append, List.nil_append, partB_skip hPn, partB_skip0 hPn, partB_set hPn, partB_set0 hPn, List.set_cons_zero, List.set_cons_succ, partB_length, hPn, Nat.add_comm 1 0, ↓hlk, ↓vGet_ptrV0 hL1, bP, (eq_true (by omega) : (((0 : Nat) : Int) < (D.length : Int)) = True)]
        obtain ⟨hp1, hp2⟩ := hL p (List.mem_of_getElem? hpi)
        have hT : tgN c key D 1 = c.tag key p.1 := by rw [tgN_eq hpi, tgN, List.nil_append]
        have e7 : tgL c key D 1 = c.tag key p.1 := by rw [tgL, tgL, List.nil_append, hT]
        repeat' apply And.intro
        all_goals first | omega | exact .inr trivial | exact .inl trivial | exact .inr (by omega) | skip
        all_goals intro r1 c1 e1 e3
        all_goals refine kCall_val (k_spec_tag c key p.1 c1 hk (by omega) (by omega)) (by rfl) [(D.length + 5, 0)] (by simp [CALL, SCB, instL_cip, okL_cip, k_inst, k_ok, e_inst, e_take, e_ok, Cip.bl, okL, okV, partB_length, bPs_length, cellsAt, partB_skip hPn]) (by simp [CALL, SCB, instL_cip, okL_cip, k_inst, k_ok, e_inst, e_take, e_ok, Cip.bl, okL, okV, partB_length, bPs_length, cellsAt, partB_skip hPn]) (by simp [CALL, SCB, instL_cip, okL_cip, k_inst, k_ok, e_inst, e_take, e_ok, Cip.bl, okL, okV, partB_length, bPs_length, cellsAt, partB_skip hPn]) (by simp [okL_bs, okL_room, okL, okV, instL_cip, okL_cip, k_inst, k_ok, e_inst, e_take, e_ok, Cip.bl, okL, okV, partB_length, bPs_length, cellsAt, partB_skip hPn]) ?_
                  simp (config := { maxSteps := 2000000 }) only [CALL, ↓VC, VP, TT, Nat.reduceEqDiff, reduceCtorEq, Nat.reduceAdd, Nat.reduceSub, Nat.reduceLT, Nat.reduceMul, Nat.reducePow, Nat.reduceLeDiff, Int.reduceToNat, Int.reduceLE, Int.reduceLT, Int.reducePow, GOB, Cip.bl, e_inst0, k_inst, k_len, ↓k_all, dig_len, tag_len, partB_length, bPs_length, ptrV_length, bP, List.append_assoc, List.cons_append, ↓k_all, k_len, hk, List.append_assoc, List.cons_append, List.nil_append, partB_skip hPn, partB_skip0 hPn, partB_set hPn, partB_set0 hPn, List.set_cons_zero, List.set_cons_succ, partB_length, hPn, tag_len, flatZ, Nat.mul_one, bs_length, List.length_replicate, Nat.le_refl, if_true, splice_bs, splB0 (show (c.tag key p.1).length = (List.replicate 32 (0 : UInt8)).length by rw [tag_len, List.length_replicate])]
        all_goals refine ⟨by omega, .inl trivial, .inr trivial, fun r2 c2 e5 e6 => ?_⟩
        all_goals refine ⟨c2 - 1, List.range (D.length + 3) ++ [D.length + 7], ?_⟩
        all_goals rw [e7, show 1 + (c2 - 1) = c2 by omega, show 32 * (c2 - 1) = r2 by omega]
        all_goals refine LeS_nx (a := D.length + 3) (B := [_]) [⟨true, c.cells⟩, ⟨true, bs key⟩] (by simp [partB_length, hPn]) (by omega) (by simp; rfl) (by simp) (by simp) rfl (by simp [leTm, leV, V.ren, range_getD_lt, range_getD_ge, range_getD_eq]) (stB_cons (stL_ptrV (by omega)) (stB_app (stB_part bPs_st) (stB_cons (k_st _) (stB_cons (stL_bs _ _) stB_nil)))) (by simp [leHp, partB_skip hPn, renL_room]) (by simp [okL, okV]) (by simp [okL_room])
      · simp only [↓VC, VP, TT, Nat.reduceEqDiff, reduceCtorEq, Nat.reduceAdd, Nat.reduceSub, Nat.reduceLT, Nat.reduceMul, Nat.reducePow, Nat.reduceLeDiff, Int.reduceToNat, Int.reduceLE, Int.reduceLT, Int.reducePow, List.cons_append]
        refine ⟨(1, r'), by simp only; omega, by simp only; omega, List.range (D.length + 4), ?_⟩
        rw [wrap_i64 (by omega) (by omega)]
        refine LeS_id (ex := []) (by simp [partB_length, hPn]) (Nat.le_add_right _ 3) (by simp) (by simp [leT]) (by simp [stL, stV]) ?_
        exact stB_cons (stL_ptrV (by omega)) (stB_app (stB_part bPs_st) (stB_cons (k_st _) (stB_cons (stL_bs _ _) (stB_cons (stL_room _ _ _) stB_nil))))
  · obtain rfl : j = D.length := by omega
    simp only [↓VC, VP, TT, Nat.reduceEqDiff, reduceCtorEq, Nat.reduceAdd, Nat.reduceSub, Nat.reduceLT, Nat.reduceMul, Nat.reducePow, Nat.reduceLeDiff, Int.reduceToNat, Int.reduceLE, Int.reduceLT, Int.reducePow, (eq_false (by omega) : ((D.length : Int) < (D.length : Int)) = False), decide_false, List.cons_append]
    refine ⟨_, _, List.range (D.length + 1) ++ [D.length + 3], ⟨r, trivial, rfl, rfl⟩, ?_⟩
    refine LeS_nx (a := D.length + 1) (B := [_]) [] (by simp [partB_length, hPn]) (by omega) (by simp; rfl) (by simp) (by simp) rfl (by simp [leTm, leV, V.ren, range_getD_lt, range_getD_ge, range_getD_eq]) (stB_cons (stL_ptrV (by omega)) (stB_app (stB_part bPs_st) stB_nil)) (by simp [leHp, partB_skip hPn, renL_room]) (by simp [okL, okV]) (by simp [okL_room])
end Go.Proofs.YtahnjhppkgndiaaGreat

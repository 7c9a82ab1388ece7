import Derived.Test.YtcfhdogmkbfnhaaBlob
import Derived.Test.YtcfhdogmkbfnhaaIsProof
import Derived.Test.YtcfhdogmkbfnhaaVcgR
/- Absences: does one show a root? (both functions, over any memory). -/
set_option linter.unusedSimpArgs false
set_option linter.unusedVariables false
namespace Go.Proofs.Ytcfhdogmkbfnhaa
open Go Go.Vc
set_option maxRecDepth 10000
set_option maxHeartbeats 4000000
/-- How many neighbours there are. -/
def cntA (n z : Nat) : Nat := min (z + 1) n - (z - 1)
/-- Is the k-th neighbour right? -/
def chkA (r d : List UInt8) (n z i : Nat) (nb : List UInt8) (p : List UInt8 × Nat) : Bool := (if i < z then lesD nb d else lesD d nb) && isProofB r nb i n (p.1.length / 32) p.1
def absB (r d : List UInt8) (n z : Int) (m : Nat) (K : List UInt8) (D : List (List UInt8 × Nat)) : Bool :=
  decide (0 ≤ n ∧ n ≤ 64 ∧ 0 ≤ z ∧ z ≤ n) && (decide (m = cntA n.toNat z.toNat ∧ D.length = cntA n.toNat z.toNat) && (((List.range (cntA n.toNat z.toNat)).all fun k => chkA r d n.toNat z.toNat (z.toNat - 1 + k) (dgA K k) (D.getD k default)) && (decide (0 < n) || r == houseD [])))
theorem abs_no {r d : List UInt8} {n z : Int} {m : Nat} {K : List UInt8} {D : List (List UInt8 × Nat)} (h : ¬ (0 ≤ n ∧ n ≤ 64 ∧ 0 ≤ z ∧ z ≤ n)) : absB r d n z m K D = false := by unfold absB; rw [decide_eq_false h]; rfl
theorem abs_len {r d : List UInt8} {n z m : Nat} {K : List UInt8} {D : List (List UInt8 × Nat)} (h : ¬ (m = cntA n z ∧ D.length = cntA n z)) : absB r d n z m K D = false := by
  unfold absB; rw [Int.toNat_natCast, Int.toNat_natCast, decide_eq_false h]; simp
theorem abs_chk {r d : List UInt8} {n z m k : Nat} {K : List UInt8} {D : List (List UInt8 × Nat)} (hk : k < cntA n z) (h : chkA r d n z (z - 1 + k) (dgA K k) (D.getD k default) = false) : absB r d n z m K D = false := by
  have : ((List.range (cntA n z)).all fun k => chkA r d n z (z - 1 + k) (dgA K k) (D.getD k default)) = false := by
    rw [List.all_eq_false]
    exact ⟨k, List.mem_range.2 hk, by rw [h]; exact Bool.false_ne_true⟩
  unfold absB; rw [Int.toNat_natCast, Int.toNat_natCast, this]; simp
theorem abs_root {r d : List UInt8} {z : Int} {m : Nat} {K : List UInt8} {D : List (List UInt8 × Nat)} (h : (r == houseD []) = false) : absB r d 0 z m K D = false := by
  unfold absB; rw [h]; simp
theorem abs_yes {r d : List UInt8} {n z m : Nat} {K : List UInt8} {D : List (List UInt8 × Nat)} (h1 : n ≤ 64 ∧ z ≤ n) (h2 : m = cntA n z ∧ D.length = cntA n z) (h3 : ∀ k, k < cntA n z → chkA r d n z (z - 1 + k) (dgA K k) (D.getD k default) = true) (h4 : n = 0 → (r == houseD []) = true) : absB r d n z m K D = true := by
  have : ((List.range (cntA n z)).all fun k => chkA r d n z (z - 1 + k) (dgA K k) (D.getD k default)) = true := by
    rw [List.all_eq_true]
    intro k hk
    exact h3 k (List.mem_range.1 hk)
  unfold absB
  rw [Int.toNat_natCast, Int.toNat_natCast, this, decide_eq_true h2, decide_eq_true (by omega)]
  rcases Nat.eq_zero_or_pos n with h | h
  · rw [h4 h]; simp
  · rw [decide_eq_true (show (0 : Int) < n by omega)]; rfl
theorem vSub_r {r : List UInt8} (hr : r.length = 32) {k : V → Prop} : vSub (bs r) 0 32 k = k (.a (bs r)) := vSub_all (by rw [bs_length, hr])
theorem set_2 {H : List Blk} {x y b : Blk} : ((H ++ [x]) ++ [y]).set H.length b = (H ++ [b]) ++ [y] := by
  rw [List.append_assoc, List.set_append_right _ _ (Nat.le_refl _), Nat.sub_self, List.append_assoc]; rfl
theorem app_3a {H : List Blk} {x y z : Blk} : (((H ++ [x]) ++ [y]) ++ [z])[H.length]? = some x := by rw [List.append_assoc, List.append_assoc]; exact at_app rfl
theorem app_3b {H : List Blk} {x y z : Blk} : (((H ++ [x]) ++ [y]) ++ [z])[H.length + 1]? = some y := by rw [List.append_assoc]; exact at_app (by simp)
theorem app_3c {H : List Blk} {x y z : Blk} : (((H ++ [x]) ++ [y]) ++ [z])[H.length + 1 + 1]? = some z := at_app (by simp)
section
variable {H : List Blk} {m c1 c2 g1 g2 b : Nat} {K r d : List UInt8} {D : List (List UInt8 × Nat)}
theorem c_spec_IsAbsence (hst : stM H) (hr : r.length = 32) (hd : d.length = 32) (n z : Int) (hK : K.length = 32 * m) (hc1 : m ≤ c1) (hm : m ≤ 1048576) (hDn : D.length ≤ 1048576) (hL : ∀ p ∈ D, p.1.length = 32 * (p.1.length / 32) ∧ p.1.length / 32 ≤ p.2 ∧ p.1.length / 32 ≤ 1048576) (f1 : bAt H g1 (bs K)) (f2 : nAt H g2 b (dPs D)) :
    LC Try.prog 52 [.a (bs r), .c (.int .i64 (n)), .a (bs d), .a [.c (.int .i64 (z)), .s g1 0 m c1, .s g2 0 D.length c2]] H (fun v hp => v = .c (.bool (absB r d n z m K D)) ∧ hp = H) := by
  have l1 := f1.lt
  have l2 := f2.1.lt
  have fin : ∀ {hp : List Blk} {v : Bool}, Ext H hp → ∃ (v' : V) (hp' : List Blk) (σ : List Nat), (v' = .c (.bool (v)) ∧ hp' = H) ∧ LeS H.length σ [.c (.bool (v))] hp [v'] hp' := fun x => ⟨_, _, List.range H.length, ⟨rfl, rfl⟩, LeS_mem rfl x (by simp [leT]) (by simp [stL, stV]) hst⟩
  have hll : ∀ x, (H ++ [x]).length = H.length + 1 := fun x => by simp
  have hll2 : ∀ x y, ((H ++ [x]) ++ [y]).length = H.length + 1 + 1 := fun x y => by simp
  refine LC_of (X := XX (fun | 3 => .one 0 (.one 1 (.one 2 (.one 3 (.one 4 (.one 5 (.one 6 .nil)))))) | 9 => .one 0 (.one 1 (.one 2 (.one 3 (.one 4 (.one 5 (.one 6 (.one 7 (.one 8 (.one 9 (.one 10 (.one 11 (.one 12 (.one 13 (.one 14 (.one 15 (.one 16 (.one 17 (.one 18 (.one 19 (.one 20 (.one 21 .nil))))))))))))))))))))) | 11 => .one 0 (.one 1 (.one 2 (.one 3 (.one 4 (.one 5 (.one 6 (.one 7 (.one 8 (.one 9 (.one 10 (.one 11 (.one 12 (.one 13 (.one 14 (.one 15 (.one 16 (.one 17 (.one 18 (.one 19 (.one 20 (.one 21 (.one 22 (.one 23 (.one 24 (.one 25 (.one 26 (.one 27 (.one 28 (.one 29 .nil))))))))))))))))))))))))))))) | _ => .nil) (fun _ => []) [19, 20, 48, 49, 59, 72, 93, 112, 174] (H.length)) envOK Try.func52 (by kernel_rfl) (by kernel_rfl) (by simp [XX]) (Nat.le_of_ble_eq_true (by kernel_rfl)) ?_
  simp only [kFun, Try.f52, List.length_nil, List.length_cons, Nat.sub_zero, Nat.reduceSub, Nat.reduceAdd, List.nil_append, List.cons_append, List.replicate_succ, List.replicate_zero]
  simp only [XX, ↓VC, VP, TT, List.getElem?_toArray, Nat.reduceEqDiff, reduceCtorEq, Nat.reduceAdd, Nat.reduceSub, Nat.reduceLT, Nat.reduceMul, Nat.reducePow, Nat.reduceLeDiff, Int.reduceToNat, Int.reduceLE, Int.reduceLT, Int.reducePow, hr, hd, hll, hll2]
  obtain ⟨hp1, e1⟩ : ∃ hp1, hp1 = H ++ [⟨true, bs r⟩] ++ [⟨true, bs d⟩] ++ [⟨true, [.c (.int .i64 (z)), V.s g1 0 m c1, V.s g2 0 D.length c2]⟩] := ⟨_, rfl⟩
  rw [← e1]
  have x1 : Ext H hp1 := ⟨_, by rw [e1, List.append_assoc, List.append_assoc]⟩
  have fr : hp1[H.length]? = some ⟨true, bs r⟩ := by rw [e1]; exact app_3a
  have fd : hp1[H.length + 1]? = some ⟨true, bs d⟩ := by rw [e1]; exact app_3b
  have fa : hp1[H.length + 1 + 1]? = some ⟨true, [.c (.int .i64 (z)), V.s g1 0 m c1, V.s g2 0 D.length c2]⟩ := by rw [e1]; exact app_3c
  have hst1 : stM hp1 := by
    rw [e1]
    exact ((hst.app (stB_cons (stL_bs _ _) stB_nil)).app (stB_cons (stL_bs _ _) stB_nil)).app (by simp [stL, stV]; omega)
  have ll : hp1.length = H.length + 3 := by simp [e1]
  clear e1
  refine kCall_val (c_spec_l01In n 0 64) (by rfl) [] (by simp [CALL]) (by simp [CALL, cellsAt]) (by simp [CALL]) (by simp [okL_bs]) ?_
  by_cases h1 : 0 ≤ n ∧ n ≤ 64
  · simp only [CALL, ↓VC, VP, TT, List.getElem?_toArray, Nat.reduceEqDiff, reduceCtorEq, Nat.reduceAdd, Nat.reduceSub, Nat.reduceLT, Nat.reduceMul, Nat.reducePow, Nat.reduceLeDiff, Int.reduceToNat, Int.reduceLE, Int.reduceLT, Int.reducePow, h1, and_self, decide_true, Bool.not_true, fa]
    refine kCall_val (c_spec_l01In z 0 n) (by rfl) [] (by simp [CALL]) (by simp [CALL, cellsAt]) (by simp [CALL]) (by simp [okL_bs]) ?_
    by_cases h2 : 0 ≤ z ∧ z ≤ n
    · obtain ⟨n, rfl⟩ : ∃ k : Nat, n = k := ⟨n.toNat, by omega⟩
      obtain ⟨z, rfl⟩ : ∃ k : Nat, z = k := ⟨z.toNat, by omega⟩
      by_cases h3 : m = D.length
      · subst h3
        simp only [CALL, ↓VC, VP, TT, List.getElem?_toArray, Nat.reduceEqDiff, reduceCtorEq, Nat.reduceAdd, Nat.reduceSub, Nat.reduceLT, Nat.reduceMul, Nat.reducePow, Nat.reduceLeDiff, Int.reduceToNat, Int.reduceLE, Int.reduceLT, Int.reducePow, h2, and_self, decide_true, Bool.not_true, fa, bne_self_eq_false]
        obtain ⟨o1, X1, f1⟩ := f1
        obtain ⟨⟨o2, X2, f2⟩, f3⟩ := f2
        replace f1 := x1.get f1; replace f2 := x1.get f2
        rcases Nat.eq_zero_or_pos n with hn0 | hn0
        · subst hn0
          obtain rfl : z = 0 := by omega
          simp only [↓VC, VP, TT, List.getElem?_toArray, Nat.reduceEqDiff, reduceCtorEq, Nat.reduceAdd, Nat.reduceSub, Nat.reduceLT, Nat.reduceMul, Nat.reducePow, Nat.reduceLeDiff, Int.reduceToNat, Int.reduceLE, Int.reduceLT, Int.reducePow, Int.ofNat_zero, Int.natCast_zero, beq_self_eq_true, fr, hr, ↓vSub_r hr]
          refine kCall_val (c_spec_l08Digest [] 0 (by simp) (by simp)) (by rfl) [(0, 0)] (by simp [CALL]) (by simp [CALL, cellsAt, bs_nil]; omega) (by simp [CALL]) (by simp [okL_bs]) ?_
          simp only [CALL, ↓VC, VP, TT, List.getElem?_toArray, Nat.reduceEqDiff, reduceCtorEq, Nat.reduceAdd, Nat.reduceSub, Nat.reduceLT, Nat.reduceMul, Nat.reducePow, Nat.reduceLeDiff, Int.reduceToNat, Int.reduceLE, Int.reduceLT, Int.reducePow, fr, hr, ↓vSub_r hr]
          refine ⟨houseD_len _, intCells_bs _, intCells_bs _, fun b' hb' => ⟨fun h5 => ?_, fun h5 => ?_⟩⟩
          · have e : (r == houseD []) = false := by
              rw [beq_eq_false_iff_ne]; intro e
              rw [hb'.2 (by rw [e])] at h5; cases h5
            rw [abs_root e]
            exact fin x1
          · have e : (r == houseD []) = true := by
              have : b' = true := by simpa using h5
              rw [beq_iff_eq]; exact bs_inj.1 (hb'.1 this)
            replace fa : hp1[H.length + 1 + 1]? = some ⟨true, [.c (.int .i64 (0)), V.s g1 0 D.length c1, V.s g2 0 D.length c2]⟩ := fa
            have w0 : max 0 (IntKind.i64.wrap (0 - 1)) = 0 := by decide
            simp only [↓VC, VP, TT, List.getElem?_toArray, Nat.reduceEqDiff, reduceCtorEq, Nat.reduceAdd, Nat.reduceSub, Nat.reduceLT, Nat.reduceMul, Nat.reducePow, Nat.reduceLeDiff, Int.reduceToNat, Int.reduceLE, Int.reduceLT, Int.reducePow, fa, w0]
            refine kLoop_of (fun _ : Unit => ([.j, .c (.int .i64 (0)), .j, .j, .j, .j, .j, .p (H.length + 1 + 1) 0, .j, .c (.int .i64 (0)), .c (.int .i64 (0)), .j, .j, .j, .j, .j, .j, .j, .j, .j, .j, .j, .j, .j, .j, .j, .j, .j, .j, .j, .j, .j, .j, .j, .j, .j, .j, .j, .j, .j, .j, .j, .j, .j, .j, .j, .j, .j, .j, .j, .j, .j, .j, .j, .j, .j, .j, .j, .j, .j, .j, .j, .j, .j, .j, .j, .j, .j, .j, .j, .j, .j, .j, .j, .j, .j, .j, .j, .j, .j, .j, .j, .j, .j, .j, .j, .j, .j, .j, .j, .j, .j, .j, .j, .j, .j, .j, .j, .j, .j, .j, .j, .j, .j, .j, .j, .j, .j, .j, .j, .j], hp1)) (fun _ => 0) (fun _ => True) () trivial ⟨List.range hp1.length, LeS_id (ex := []) rfl (show H.length ≤ hp1.length by omega) (by simp) (by simp [leT]) (by simp [stL, stV]; omega) hst1⟩ fun _ _ => ?_
            simp only [↓VC, VP, TT, List.getElem?_toArray, Nat.reduceEqDiff, reduceCtorEq, Nat.reduceAdd, Nat.reduceSub, Nat.reduceLT, Nat.reduceMul, Nat.reducePow, Nat.reduceLeDiff, Int.reduceToNat, Int.reduceLE, Int.reduceLT, Int.reducePow, fa, Int.le_refl, Int.lt_irrefl, decide_true, decide_false]
            by_cases hD0 : D.length = 0
            · have e2 : absB r d 0 0 D.length K D = true := abs_yes (n := 0) (z := 0) ⟨by omega, by omega⟩ ⟨hD0, hD0⟩ (fun k hk => by unfold cntA at hk; omega) (fun _ => e)
              rw [e2, hD0]
              exact fin x1
            · have e2 : absB r d 0 0 D.length K D = false := abs_len (n := 0) (z := 0) (by unfold cntA; omega)
              rw [e2, (beq_eq_false_iff_ne.2 (by omega) : ((0 : Int) == (D.length : Int)) = false)]
              exact fin x1
        · simp only [↓VC, VP, TT, List.getElem?_toArray, Nat.reduceEqDiff, reduceCtorEq, Nat.reduceAdd, Nat.reduceSub, Nat.reduceLT, Nat.reduceMul, Nat.reducePow, Nat.reduceLeDiff, Int.reduceToNat, Int.reduceLE, Int.reduceLT, Int.reducePow, (beq_eq_false_iff_ne.2 (by omega) : ((n : Int) == 0) = false), fa]
          have e0 : max (0 : Int) (IntKind.i64.wrap ((z : Int) - 1)) = ((z - 1 : Nat) : Int) := by rw [wrap_i64 (by omega) (by omega)]; omega
          simp only [e0]
          refine kLoop_of (fun k : Nat => ([.j, .c (.int .i64 (n)), .j, .j, .p H.length 0, .j, .p (H.length + 1) 0, .p (H.length + 1 + 1) 0, .j, .c (.int .i64 (k)), .c (.int .i64 ((z - 1 + k : Nat))), .j, .j, .j, .j, .j, .j, .j, .j, .j, .j, .j, .j, .j, .j, .j, .j, .j, .j, .j, .j, .j, .j, .j, .j, .j, .j, .j, .j, .j, .j, .j, .j, .j, .j, .j, .j, .j, .j, .j, .j, .j, .j, .j, .j, .j, .j, .j, .j, .j, .j, .j, .j, .j, .j, .j, .j, .j, .j, .j, .j, .j, .j, .j, .j, .j, .j, .j, .j, .j, .j, .j, .j, .j, .j, .j, .j, .j, .j, .j, .j, .j, .j, .j, .j, .j, .j, .j, .j, .j, .j, .j, .j, .j, .j, .j, .j, .j, .j, .j, .j], hp1)) (fun k => n + 1 - k) (fun k => k ≤ cntA n z ∧ k ≤ D.length ∧ ∀ j, j < k → chkA r d n z (z - 1 + j) (dgA K j) (D.getD j default) = true) 0 ⟨by omega, by omega, by intro j hj; omega⟩ ⟨List.range hp1.length, LeS_id (ex := []) rfl (show H.length ≤ hp1.length by omega) (by simp) (by simp [leT]) (by simp [stL, stV]; omega) hst1⟩ ?_
          rintro k ⟨hk, hkD, he⟩
          rcases Nat.lt_or_ge k (cntA n z) with h | h
          · have g1' : z - 1 + k ≤ z ∧ z - 1 + k < n := by unfold cntA at h; omega
            rcases Nat.lt_or_ge k D.length with hkD | hkD'
            · have hpi : D[k]? = some D[k] := List.getElem?_eq_getElem hkD
              generalize D[k] = p at hpi
              have hp : D.getD k default = p := by rw [List.getD_eq_getElem?_getD, hpi]; rfl
              have hL1 := dPs_get hpi
              obtain ⟨q1, q2, q3⟩ := hL p (List.mem_of_getElem? hpi)
              have hb4 := (f3 k _ hL1).mono x1
              have no : chkA r d n z (z - 1 + k) (dgA K k) p = false → absB r d n z D.length K D = false := fun h' => abs_chk h (by rw [hp]; exact h')
              simp only [↓VC, VP, TT, List.getElem?_toArray, Nat.reduceEqDiff, reduceCtorEq, Nat.reduceAdd, Nat.reduceSub, Nat.reduceLT, Nat.reduceMul, Nat.reducePow, Nat.reduceLeDiff, Int.reduceToNat, Int.reduceLE, Int.reduceLT, Int.reducePow, fr, fd, fa, f1, f2, ↓vGet_ptrV hL1, ↓vSub_dgR hK hkD, ↓vSub_r hr, ↓vSub_r hd, dP, if_true, (eq_true (by omega) : (((z - 1 + k : Nat) : Int) ≤ (z : Int)) = True), (eq_true (by omega) : (((z - 1 + k : Nat) : Int) < (n : Int)) = True), (eq_false (by omega) : ((k : Int) ≥ (D.length : Int)) = False), decide_true, decide_false]
              repeat (refine ⟨by first | omega | (simp; done) | decide, ?_⟩)
              refine kCall_val (c_spec_l09Shows r (dgA K k) hr (dgA_len hK hkD) ((z - 1 + k : Nat) : Int) n (p.1.length / 32) p.2 p.1 q1 q2 (by omega)) (by rfl) [(b + k, 0)] (by simp [CALL]) (seg_bAt hb4 (instL_bs _ _ _) trivial) (by simp [okL, okV, okL_bs]) (by simp [okL_bs]) ?_
              cases hP : isProofB r (dgA K k) ((z - 1 + k : Nat) : Int) n (p.1.length / 32) p.1 with
              | false =>
                simp only [CALL, ↓VC, VP, TT, List.getElem?_toArray, Nat.reduceEqDiff, reduceCtorEq, Nat.reduceAdd, Nat.reduceSub, Nat.reduceLT, Nat.reduceMul, Nat.reducePow, Nat.reduceLeDiff, Int.reduceToNat, Int.reduceLE, Int.reduceLT, Int.reducePow, Bool.not_false]
                rw [no (by unfold chkA; rw [hP]; simp)]
                exact fin x1
              | true =>
                have hln := dgA_len hK hkD
                rcases Nat.lt_or_ge (z - 1 + k) z with h7 | h7
                · simp only [CALL, ↓VC, VP, TT, List.getElem?_toArray, Nat.reduceEqDiff, reduceCtorEq, Nat.reduceAdd, Nat.reduceSub, Nat.reduceLT, Nat.reduceMul, Nat.reducePow, Nat.reduceLeDiff, Int.reduceToNat, Int.reduceLE, Int.reduceLT, Int.reducePow, Bool.not_true, (eq_true (by omega) : (((z - 1 + k : Nat) : Int) < (z : Int)) = True), decide_true, fr, fd, fa, f1, f2, ↓vGet_ptrV hL1, ↓vSub_dgR hK hkD, ↓vSub_r hr, ↓vSub_r hd, dP, if_true]
                  repeat (refine ⟨by first | omega | (simp; done) | decide, ?_⟩)
                  refine kCall_val (c_spec_l09Less (dgA K k) d hln hd) (by rfl) [] (by simp [CALL]) (by simp [CALL]) (by simp [okL, okV, okL_bs]) (by simp) ?_
                  cases h5 : lesD (dgA K k) d with
                  | false =>
                    simp only [CALL, ↓VC, VP, TT, List.getElem?_toArray, Nat.reduceEqDiff, reduceCtorEq, Nat.reduceAdd, Nat.reduceSub, Nat.reduceLT, Nat.reduceMul, Nat.reducePow, Nat.reduceLeDiff, Int.reduceToNat, Int.reduceLE, Int.reduceLT, Int.reducePow, Bool.not_false]
                    rw [no (by unfold chkA; rw [if_pos h7, h5]; rfl)]
                    exact fin x1
                  | true =>
                    simp only [CALL, ↓VC, VP, TT, List.getElem?_toArray, Nat.reduceEqDiff, reduceCtorEq, Nat.reduceAdd, Nat.reduceSub, Nat.reduceLT, Nat.reduceMul, Nat.reducePow, Nat.reduceLeDiff, Int.reduceToNat, Int.reduceLE, Int.reduceLT, Int.reducePow, Bool.not_true, fa, (beq_eq_false_iff_ne.2 (by omega) : (((z - 1 + k : Nat) : Int) == (z : Int)) = false)]
                    refine ⟨k + 1, ⟨by omega, by omega, fun j hj => ?_⟩, by omega, List.range hp1.length, ?_⟩
                    · rcases Nat.lt_or_ge j k with h6 | h6
                      · exact he j h6
                      · rw [show j = k by omega, hp]
                        unfold chkA
                        rw [hP, if_pos h7, h5]; rfl
                    rw [wrap_i64 (by omega) (by omega), wrap_i64 (by omega) (by omega)]
                    exact LeS_id (ex := []) rfl (show H.length ≤ hp1.length by omega) (by simp) (by simp [leT]; omega) (by simp [stL, stV]; omega) hst1
                · simp only [CALL, ↓VC, VP, TT, List.getElem?_toArray, Nat.reduceEqDiff, reduceCtorEq, Nat.reduceAdd, Nat.reduceSub, Nat.reduceLT, Nat.reduceMul, Nat.reducePow, Nat.reduceLeDiff, Int.reduceToNat, Int.reduceLE, Int.reduceLT, Int.reducePow, Bool.not_true, (eq_false (by omega) : (((z - 1 + k : Nat) : Int) < (z : Int)) = False), decide_false, (beq_iff_eq.2 (by omega) : (((z - 1 + k : Nat) : Int) == (z : Int)) = true), fr, fd, fa, f1, f2, ↓vGet_ptrV hL1, ↓vSub_dgR hK hkD, ↓vSub_r hr, ↓vSub_r hd, dP, if_true]
                  repeat (refine ⟨by first | omega | (simp; done) | decide, ?_⟩)
                  refine kCall_val (c_spec_l09Less d (dgA K k) hd hln) (by rfl) [] (by simp [CALL]) (by simp [CALL]) (by simp [okL, okV, okL_bs]) (by simp) ?_
                  cases h5 : lesD d (dgA K k) with
                  | false =>
                    simp only [CALL, ↓VC, VP, TT, List.getElem?_toArray, Nat.reduceEqDiff, reduceCtorEq, Nat.reduceAdd, Nat.reduceSub, Nat.reduceLT, Nat.reduceMul, Nat.reducePow, Nat.reduceLeDiff, Int.reduceToNat, Int.reduceLE, Int.reduceLT, Int.reducePow, Bool.not_false]
                    rw [no (by unfold chkA; rw [if_neg (by omega), h5]; rfl)]
                    exact fin x1
                  | true =>
                    simp only [CALL, ↓VC, VP, TT, List.getElem?_toArray, Nat.reduceEqDiff, reduceCtorEq, Nat.reduceAdd, Nat.reduceSub, Nat.reduceLT, Nat.reduceMul, Nat.reducePow, Nat.reduceLeDiff, Int.reduceToNat, Int.reduceLE, Int.reduceLT, Int.reducePow, Bool.not_true]
                    refine ⟨k + 1, ⟨by omega, by omega, fun j hj => ?_⟩, by omega, List.range hp1.length, ?_⟩
                    · rcases Nat.lt_or_ge j k with h6 | h6
                      · exact he j h6
                      · rw [show j = k by omega, hp]
                        unfold chkA
                        rw [hP, if_neg (show ¬ (z - 1 + k < z) by omega), h5]; rfl
                    rw [wrap_i64 (by omega) (by omega), wrap_i64 (by omega) (by omega)]
                    exact LeS_id (ex := []) rfl (show H.length ≤ hp1.length by omega) (by simp) (by simp [leT]; omega) (by simp [stL, stV]; omega) hst1
            · simp only [↓VC, VP, TT, List.getElem?_toArray, Nat.reduceEqDiff, reduceCtorEq, Nat.reduceAdd, Nat.reduceSub, Nat.reduceLT, Nat.reduceMul, Nat.reducePow, Nat.reduceLeDiff, Int.reduceToNat, Int.reduceLE, Int.reduceLT, Int.reducePow, fa, (eq_true (by omega) : (((z - 1 + k : Nat) : Int) ≤ (z : Int)) = True), (eq_true (by omega) : (((z - 1 + k : Nat) : Int) < (n : Int)) = True), (eq_true (by omega) : ((k : Int) ≥ (D.length : Int)) = True), decide_true]
              rw [abs_len (by omega)]
              exact fin x1
          · obtain rfl : k = cntA n z := by omega
            have g2' : ¬ (z - 1 + cntA n z ≤ z ∧ z - 1 + cntA n z < n) := by unfold cntA; omega
            have res : ∀ {hp : List Blk}, Ext H hp → ∃ (v' : V) (hp' : List Blk) (σ : List Nat), (v' = .c (.bool (absB r d n z D.length K D)) ∧ hp' = H) ∧ LeS H.length σ [.c (.bool ((((cntA n z : Nat) : Int) == (D.length : Int))))] hp [v'] hp' := fun x => by
              have e2 : (((cntA n z : Nat) : Int) == (D.length : Int)) = absB r d n z D.length K D := by
                by_cases h6 : D.length = cntA n z
                · rw [abs_yes ⟨by omega, by omega⟩ ⟨h6, h6⟩ he (fun h => by omega), h6]; simp
                · rw [abs_len (by omega)]; rw [beq_eq_false_iff_ne]; omega
              rw [e2]
              exact fin x
            by_cases h8 : z - 1 + cntA n z ≤ z
            · simp only [↓VC, VP, TT, List.getElem?_toArray, Nat.reduceEqDiff, reduceCtorEq, Nat.reduceAdd, Nat.reduceSub, Nat.reduceLT, Nat.reduceMul, Nat.reducePow, Nat.reduceLeDiff, Int.reduceToNat, Int.reduceLE, Int.reduceLT, Int.reducePow, fa, (eq_true (by omega) : (((z - 1 + cntA n z : Nat) : Int) ≤ (z : Int)) = True), (eq_false (by omega) : (((z - 1 + cntA n z : Nat) : Int) < (n : Int)) = False), decide_true, decide_false]
              exact res x1
            · simp only [↓VC, VP, TT, List.getElem?_toArray, Nat.reduceEqDiff, reduceCtorEq, Nat.reduceAdd, Nat.reduceSub, Nat.reduceLT, Nat.reduceMul, Nat.reducePow, Nat.reduceLeDiff, Int.reduceToNat, Int.reduceLE, Int.reduceLT, Int.reducePow, fa, (eq_false (by omega) : (((z - 1 + cntA n z : Nat) : Int) ≤ (z : Int)) = False), decide_false]
              exact res x1
      · simp only [CALL, ↓VC, VP, TT, List.getElem?_toArray, Nat.reduceEqDiff, reduceCtorEq, Nat.reduceAdd, Nat.reduceSub, Nat.reduceLT, Nat.reduceMul, Nat.reducePow, Nat.reduceLeDiff, Int.reduceToNat, Int.reduceLE, Int.reduceLT, Int.reducePow, h2, and_self, decide_true, Bool.not_true, fa, (bne_iff_ne.2 (by omega) : ((m : Int) != (D.length : Int)) = true)]
        rw [abs_len (by omega)]
        exact fin x1
    · simp only [CALL, ↓VC, VP, TT, List.getElem?_toArray, Nat.reduceEqDiff, reduceCtorEq, Nat.reduceAdd, Nat.reduceSub, Nat.reduceLT, Nat.reduceMul, Nat.reducePow, Nat.reduceLeDiff, Int.reduceToNat, Int.reduceLE, Int.reduceLT, Int.reducePow, h2, decide_false, Bool.not_false]
      rw [abs_no (by omega)]
      exact fin x1
  · simp only [CALL, ↓VC, VP, TT, List.getElem?_toArray, Nat.reduceEqDiff, reduceCtorEq, Nat.reduceAdd, Nat.reduceSub, Nat.reduceLT, Nat.reduceMul, Nat.reducePow, Nat.reduceLeDiff, Int.reduceToNat, Int.reduceLE, Int.reduceLT, Int.reducePow, h1, decide_false, Bool.not_false]
    rw [abs_no (by omega)]
    exact fin x1
/-- The places, one after the other. -/
def plA (n z : Nat) : Nat → List Int
  | 0 => []
  | 1 => if 1 ≤ z then [((z - 1 : Nat) : Int)] else []
  | _ + 2 => (if 1 ≤ z then [((z - 1 : Nat) : Int)] else []) ++ (if z < n then [(z : Int)] else [])
theorem plA_le {n z j : Nat} (h : j ≤ 1 := by omega) : (plA n z j).length ≤ 1 := by
  match j, h with
  | 0, _ => simp [plA]
  | 1, _ => simp only [plA]; split <;> simp
theorem plA_len {n z : Nat} (h : z ≤ n) : (plA n z 2).length = cntA n z := by
  unfold plA cntA
  by_cases h1 : 1 ≤ z <;> by_cases h2 : z < n <;> simp [h1, h2] <;> omega
theorem plA_get {n z k : Nat} (h : z ≤ n) (hk : k < cntA n z) : (plA n z 2).getD k 0 = ((z - 1 + k : Nat) : Int) := by
  unfold cntA at hk
  unfold plA
  by_cases h1 : 1 ≤ z
  · rw [if_pos h1]
    by_cases h2 : z < n
    · rw [if_pos h2]
      have : k = 0 ∨ k = 1 := by omega
      rcases this with rfl | rfl
      · simp
      · simp; omega
    · rw [if_neg h2]
      obtain rfl : k = 0 := by omega
      simp
  · rw [if_neg h1, if_pos (by omega)]
    obtain rfl : k = 0 := by omega
    simp; omega
theorem nsv_take {L : List Int} {X : List V} : List.take L.length (nsv L ++ X) = nsv L := by rw [← nsv_length L, List.take_left]
theorem nsv_snoc {L : List Int} {x : Int} : nsv L ++ [.c (.int .i64 (x))] = nsv (L ++ [x]) := by simp [nsv]
end
end Go.Proofs.Ytcfhdogmkbfnhaa

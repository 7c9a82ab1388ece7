import Derived.Test.YtcfhdogmkbfnhaaCmp
import Derived.Test.YtcfhdogmkbfnhaaNodeOf
import Derived.Test.YtcfhdogmkbfnhaaPadB
import Derived.Test.YtcfhdogmkbfnhaaByteSS
import Derived.Test.YtcfhdogmkbfnhaaVcgR
/- Stores of blobs: is it one? (both functions, over any memory). -/
set_option linter.unusedSimpArgs false
set_option linter.unusedVariables false
namespace Go.Proofs.Ytcfhdogmkbfnhaa
open Go Go.Vc
set_option maxRecDepth 10000
set_option maxHeartbeats 4000000
/-- Is this entry one? -/
def oneB (d : List UInt8) (q : Int) (k : List UInt8) : Bool := decide (d.length ≤ 2000) && (decide (1 ≤ q) && (decide (q ≤ 1000000) && (houseD d == k)))
def blobB (n : Nat) (K : List UInt8) (D : List (List UInt8 × Nat)) (Q : List Int) : Bool := decide (n ≤ 32 ∧ D.length = n ∧ Q.length = n) && (ascD n K && (List.range n).all fun i => oneB (D.getD i default).1 (Q.getD i 0) (dgA K i))
theorem blob_no {n i : Nat} {K : List UInt8} {D : List (List UInt8 × Nat)} {Q : List Int} (hi : i < n) (h : oneB (D.getD i default).1 (Q.getD i 0) (dgA K i) = false) : blobB n K D Q = false := by
  have : ((List.range n).all fun i => oneB (D.getD i default).1 (Q.getD i 0) (dgA K i)) = false := by
    rw [List.all_eq_false]
    exact ⟨i, List.mem_range.2 hi, by rw [h]; exact Bool.false_ne_true⟩
  unfold blobB; rw [this]; simp
theorem blob_yes {n : Nat} {K : List UInt8} {D : List (List UInt8 × Nat)} {Q : List Int} (h1 : n ≤ 32 ∧ D.length = n ∧ Q.length = n) (h2 : ascD n K = true) (h : ∀ i, i < n → oneB (D.getD i default).1 (Q.getD i 0) (dgA K i) = true) : blobB n K D Q = true := by
  have : ((List.range n).all fun i => oneB (D.getD i default).1 (Q.getD i 0) (dgA K i)) = true := by
    rw [List.all_eq_true]
    intro i hi
    exact h i (List.mem_range.1 hi)
  unfold blobB; rw [this, h2, decide_eq_true h1]; rfl
theorem app_last {H : List Blk} {x : Blk} : (H ++ [x])[H.length]? = some x := at_app rfl
theorem vGet_bsR {K : List Int} {X : List V} {i : Nat} {k : V → Prop} (h : i < K.length) : vGet (nsv K ++ X) i k = k (.c (.int .i64 (K.getD i 0))) := by
  unfold vGet
  have e : (nsv K ++ X)[i]? = some (.c (.int .i64 (K.getD i 0))) := by
    rw [List.getElem?_append_left (by simpa [nsv] using h)]
    simp [nsv, List.getElem?_map, h, List.getD_eq_getElem?_getD]
  rw [List.getD_eq_getElem?_getD, e, Option.getD_some]
  apply propext
  refine ⟨fun x => x.2, fun x => ⟨(List.getElem?_eq_some_iff.1 e).1, x⟩⟩
theorem vSub_dgR {K : List UInt8} {n i : Nat} {X : List V} {k : V → Prop} (hK : K.length = 32 * n) (h : i < n) : vSub (bs K ++ X) (i * 32) 32 k = k (.a (bs (dgA K i))) := by
  rw [vSub_appL (by rw [bs_length, hK]; omega), vSub_bs, dgA_eq]
  simp only [eq_iff_iff, and_iff_right_iff_imp]
  intro _; omega
section
variable {H : List Blk} {n c0 c1 c2 g0 g1 g2 b : Nat} {K : List UInt8} {D : List (List UInt8 × Nat)} {Q : List Int}
theorem c_spec_l09Is (hst : stM H) (hK : K.length = 32 * n) (hc0 : n ≤ c0) (hn : n ≤ 1048576) (hDn : D.length ≤ 1048576) (hQn : Q.length ≤ 1048576) (hL : ∀ p ∈ D, p.1.length ≤ p.2 ∧ p.1.length ≤ 1048576) (f0 : bAt H g0 (bs K)) (f1 : nAt H g1 b (bPs D)) (f2 : bAt H g2 (nsv Q)) :
    LC Try.prog 75 [.a [.s g0 0 n c0, .s g1 0 D.length c1, .s g2 0 Q.length c2]] H (fun v hp => v = .c (.bool (blobB n K D Q)) ∧ hp = H) := by
  have l0 := f0.lt
  have l1 := f1.1.lt
  have l2 := f2.lt
  have fin : ∀ {tm : List V} {hp : List Blk} {v : Bool}, Ext H hp → ∃ (v' : V) (hp' : List Blk) (σ : List Nat), (v' = .c (.bool (v)) ∧ hp' = H) ∧ LeS H.length σ [.c (.bool (v))] hp [v'] hp' := fun x => ⟨_, _, List.range H.length, ⟨rfl, rfl⟩, LeS_mem rfl x (by simp [leT]) (by simp [stL, stV]) hst⟩
  refine LC_of (X := XX (fun | 7 => .one 0 (.one 1 (.one 2 (.one 3 (.one 4 (.one 5 (.one 6 (.one 7 (.one 8 (.one 9 (.one 10 (.one 11 (.one 12 (.one 13 (.one 14 (.one 15 (.one 16 (.one 17 (.one 18 (.one 19 (.one 20 (.one 21 (.one 22 (.one 23 (.one 24 (.one 25 (.one 26 (.one 27 (.one 28 (.one 30 (.one 31 (.one 32 (.one 33 (.one 34 (.one 29 (.one 35 (.one 36 .nil)))))))))))))))))))))))))))))))))))) | _ => .nil) (fun _ => []) [19, 20, 48, 49, 59, 72, 93, 112, 174] (H.length)) envOK Try.func75 (by kernel_rfl) (by kernel_rfl) (by simp [XX]) (Nat.le_of_ble_eq_true (by kernel_rfl)) ?_
  simp only [kFun, Try.f75, List.length_nil, List.length_cons, Nat.sub_zero, Nat.reduceSub, Nat.reduceAdd, List.nil_append, List.cons_append, List.replicate_succ, List.replicate_zero]
  simp only [XX, ↓VC, VP, TT, List.getElem?_toArray, Nat.reduceEqDiff, reduceCtorEq, Nat.reduceAdd, Nat.reduceSub, Nat.reduceLT, Nat.reduceMul, Nat.reducePow, Nat.reduceLeDiff, Int.reduceToNat, Int.reduceLE, Int.reduceLT, Int.reducePow, ↓app_last]
  by_cases h1 : n ≤ 32 ∧ D.length = n ∧ Q.length = n
  · obtain ⟨a1, rfl, a3⟩ := h1
    simp only [↓VC, VP, TT, List.getElem?_toArray, Nat.reduceEqDiff, reduceCtorEq, Nat.reduceAdd, Nat.reduceSub, Nat.reduceLT, Nat.reduceMul, Nat.reducePow, Nat.reduceLeDiff, Int.reduceToNat, Int.reduceLE, Int.reduceLT, Int.reducePow, (eq_false (by omega) : ((D.length : Int) > 32) = False), decide_false, bne_self_eq_false, ↓app_last, a3]
    refine kCall_val (c_spec_l09Ascending D.length c0 K hK hc0 hn) (by rfl) [(g0, 0)] (by simp [CALL]) (seg_bAt (f0.mono ⟨_, rfl⟩) (instL_bs _ _ _) trivial) (by simp [okL, okV]) (by simp [okL_bs]) ?_
    simp only [CALL, ↓VC, VP, TT, List.getElem?_toArray, Nat.reduceEqDiff, reduceCtorEq, Nat.reduceAdd, Nat.reduceSub, Nat.reduceLT, Nat.reduceMul, Nat.reducePow, Nat.reduceLeDiff, Int.reduceToNat, Int.reduceLE, Int.reduceLT, Int.reducePow]
    cases hA : ascD D.length K with
    | false =>
      have e : blobB D.length K D Q = false := by unfold blobB; rw [hA]; simp
      rw [e]
      simp only [↓VC, VP, TT, List.getElem?_toArray, Nat.reduceEqDiff, reduceCtorEq, Nat.reduceAdd, Nat.reduceSub, Nat.reduceLT, Nat.reduceMul, Nat.reducePow, Nat.reduceLeDiff, Int.reduceToNat, Int.reduceLE, Int.reduceLT, Int.reducePow, Bool.not_false]
      exact fin (tm := []) ⟨_, rfl⟩
    | true =>
      simp only [↓VC, VP, TT, List.getElem?_toArray, Nat.reduceEqDiff, reduceCtorEq, Nat.reduceAdd, Nat.reduceSub, Nat.reduceLT, Nat.reduceMul, Nat.reducePow, Nat.reduceLeDiff, Int.reduceToNat, Int.reduceLE, Int.reduceLT, Int.reducePow, Bool.not_true]
      obtain ⟨o0, X0, f0⟩ := f0
      obtain ⟨o2, X2, f2⟩ := f2
      obtain ⟨⟨o1, X1, f1⟩, f3⟩ := f1
      obtain ⟨box, eb⟩ : ∃ x : Blk, x = ⟨true, [.s g0 0 D.length c0, .s g1 0 D.length c1, .s g2 0 D.length c2]⟩ := ⟨_, rfl⟩
      rw [← eb]
      have x1 : Ext H (H ++ [box]) := ⟨_, rfl⟩
      replace f0 := x1.get f0; replace f1 := x1.get f1; replace f2 := x1.get f2
      have fb : (H ++ [box])[H.length]? = some box := app_last
      have hst1 : stM (H ++ [box]) := hst.app (by simp [eb, stL, stV]; omega)
      have hl1 : (H ++ [box]).length = H.length + 1 := by simp
      generalize H ++ [box] = hp1 at *
      rw [eb] at fb
      refine kLoop_of (fun i : Nat => ([.j, .p H.length 0, .j, .c (.int .i64 (D.length)), .c (.int .i64 (i)), .j, .j, .j, .j, .j, .j, .j, .j, .j, .j, .j, .j, .j, .j, .j, .j, .j, .j, .j, .j, .j, .j, .j, .j, .j, .j, .j, .j, .j, .j, .j, .j, .j, .j, .j, .j, .j, .j, .j, .j, .j, .j, .j, .j, .j, .j, .j, .j, .j, .j, .j, .j, .j, .j, .j, .j, .j, .j, .j, .j, .j, .j, .j, .j, .j, .j, .j], hp1)) (fun i => D.length - i) (fun i => i ≤ D.length ∧ ∀ j, j < i → oneB (D.getD j default).1 (Q.getD j 0) (dgA K j) = true) 0 ⟨by omega, by intro j hj; omega⟩ ⟨List.range hp1.length, LeS_id (ex := []) rfl (show H.length ≤ hp1.length by omega) (by simp) (by simp [leT]) (by simp [stL, stV]; omega) hst1⟩ ?_
      rintro i ⟨hi, he⟩
      rcases Nat.lt_or_ge i D.length with h | h
      · have hpi : D[i]? = some D[i] := List.getElem?_eq_getElem h
        generalize D[i] = p at hpi
        have hd : D.getD i default = p := by rw [List.getD_eq_getElem?_getD, hpi]; rfl
        have hL1 := bPs_get hpi
        obtain ⟨o4, X4, f4⟩ := (f3 i _ hL1).mono x1
        obtain ⟨hp1', hp2'⟩ := hL p (List.mem_of_getElem? hpi)
        have hq : i < Q.length := by omega
        simp only [↓VC, VP, TT, List.getElem?_toArray, Nat.reduceEqDiff, reduceCtorEq, Nat.reduceAdd, Nat.reduceSub, Nat.reduceLT, Nat.reduceMul, Nat.reducePow, Nat.reduceLeDiff, Int.reduceToNat, Int.reduceLE, Int.reduceLT, Int.reducePow, (eq_true (by omega) : ((i : Int) < (D.length : Int)) = True), decide_true, fb, f0, f1, f2, ↓vGet_ptrV hL1, ↓vGet_bsR hq, ↓vSub_dgR hK h, bP]
        have no : oneB p.1 (Q.getD i 0) (dgA K i) = false → blobB D.length K D Q = false := fun h' => blob_no h (by rw [hd]; exact h')
        by_cases b1 : p.1.length ≤ 2000
        · by_cases b2 : 1 ≤ Q.getD i 0
          · by_cases b3 : Q.getD i 0 ≤ 1000000
            · simp only [↓VC, VP, TT, List.getElem?_toArray, Nat.reduceEqDiff, reduceCtorEq, Nat.reduceAdd, Nat.reduceSub, Nat.reduceLT, Nat.reduceMul, Nat.reducePow, Nat.reduceLeDiff, Int.reduceToNat, Int.reduceLE, Int.reduceLT, Int.reducePow, (eq_false (by omega) : ((p.1.length : Int) > 2000) = False), (eq_false (by omega) : (Q.getD i 0 < 1) = False), (eq_false (by omega) : (Q.getD i 0 > 1000000) = False), decide_false, fb, f0, f1, f2, f4, ↓vGet_ptrV hL1, ↓vGet_bsR hq, ↓vSub_dgR hK h, bP, if_true]
              repeat (refine ⟨by first | omega | (simp; done) | decide, ?_⟩)
              refine kCall_val (c_spec_l08Digest p.1 p.2 hp1' (by omega)) (by rfl) [(b + i, 0)] (by simp [CALL]) (seg_bAt ⟨_, _, f4⟩ (instL_bs _ _ _) trivial) (by simp [okL, okV]) (by simp [okL_bs]) ?_
              simp only [CALL, ↓VC, VP, TT, List.getElem?_toArray, Nat.reduceEqDiff, reduceCtorEq, Nat.reduceAdd, Nat.reduceSub, Nat.reduceLT, Nat.reduceMul, Nat.reducePow, Nat.reduceLeDiff, Int.reduceToNat, Int.reduceLE, Int.reduceLT, Int.reducePow, fb, f0, f1, f2, f4, ↓vGet_ptrV hL1, ↓vGet_bsR hq, ↓vSub_dgR hK h, bP, if_true]
              refine ⟨houseD_len _, dgA_len hK h, intCells_bs _, intCells_bs _, fun b' hb' => ⟨fun h5 => ?_, fun h5 => ?_⟩⟩
              · rw [no (by
                  have : (houseD p.1 == dgA K i) = false := by
                    rw [beq_eq_false_iff_ne]
                    intro e
                    rw [hb'.2 (by rw [e])] at h5; cases h5
                  unfold oneB; rw [this]; simp)]
                exact fin (tm := []) x1
              · have e5 : houseD p.1 = dgA K i := bs_inj.1 (hb'.1 (by simpa using h5))
                refine ⟨i + 1, ⟨by omega, fun j hj => ?_⟩, by omega, List.range hp1.length, ?_⟩
                · rcases Nat.lt_or_ge j i with h6 | h6
                  · exact he j h6
                  · rw [show j = i by omega, hd]
                    unfold oneB
                    rw [decide_eq_true b1, decide_eq_true b2, decide_eq_true b3, e5]; simp
                rw [wrap_i64 (by omega) (by omega)]
                exact LeS_id (ex := []) rfl (show H.length ≤ hp1.length by omega) (by simp) (by simp [leT]) (by simp [stL, stV]; omega) hst1
            · simp only [↓VC, VP, TT, List.getElem?_toArray, Nat.reduceEqDiff, reduceCtorEq, Nat.reduceAdd, Nat.reduceSub, Nat.reduceLT, Nat.reduceMul, Nat.reducePow, Nat.reduceLeDiff, Int.reduceToNat, Int.reduceLE, Int.reduceLT, Int.reducePow, (eq_false (by omega) : ((p.1.length : Int) > 2000) = False), (eq_false (by omega) : (Q.getD i 0 < 1) = False), (eq_true (by omega) : (Q.getD i 0 > 1000000) = True), decide_true, decide_false, fb, f0, f1, f2, f4, ↓vGet_ptrV hL1, ↓vGet_bsR hq, ↓vSub_dgR hK h, bP, if_true]
              repeat (refine ⟨by first | omega | (simp; done) | decide, ?_⟩)
              rw [no (by unfold oneB; rw [decide_eq_false b3]; simp)]
              exact fin (tm := []) x1
          · simp only [↓VC, VP, TT, List.getElem?_toArray, Nat.reduceEqDiff, reduceCtorEq, Nat.reduceAdd, Nat.reduceSub, Nat.reduceLT, Nat.reduceMul, Nat.reducePow, Nat.reduceLeDiff, Int.reduceToNat, Int.reduceLE, Int.reduceLT, Int.reducePow, (eq_false (by omega) : ((p.1.length : Int) > 2000) = False), (eq_true (by omega) : (Q.getD i 0 < 1) = True), decide_true, decide_false, fb, f0, f1, f2, f4, ↓vGet_ptrV hL1, ↓vGet_bsR hq, ↓vSub_dgR hK h, bP, if_true]
            repeat (refine ⟨by first | omega | (simp; done) | decide, ?_⟩)
            rw [no (by unfold oneB; rw [decide_eq_false b2]; simp)]
            exact fin (tm := []) x1
        · simp only [↓VC, VP, TT, List.getElem?_toArray, Nat.reduceEqDiff, reduceCtorEq, Nat.reduceAdd, Nat.reduceSub, Nat.reduceLT, Nat.reduceMul, Nat.reducePow, Nat.reduceLeDiff, Int.reduceToNat, Int.reduceLE, Int.reduceLT, Int.reducePow, (eq_true (by omega) : ((p.1.length : Int) > 2000) = True), decide_true, fb, f0, f1, f2, f4, ↓vGet_ptrV hL1, ↓vGet_bsR hq, ↓vSub_dgR hK h, bP, if_true]
          repeat (refine ⟨by first | omega | (simp; done) | decide, ?_⟩)
          rw [no (by unfold oneB; rw [decide_eq_false b1]; simp)]
          exact fin (tm := []) x1
      · obtain rfl : i = D.length := by omega
        simp only [↓VC, VP, TT, List.getElem?_toArray, Nat.reduceEqDiff, reduceCtorEq, Nat.reduceAdd, Nat.reduceSub, Nat.reduceLT, Nat.reduceMul, Nat.reducePow, Nat.reduceLeDiff, Int.reduceToNat, Int.reduceLE, Int.reduceLT, Int.reducePow, (eq_false (by omega) : ((D.length : Int) < (D.length : Int)) = False), decide_false]
        rw [blob_yes ⟨a1, rfl, a3⟩ hA he]
        exact fin (tm := []) x1
  · have e : blobB n K D Q = false := by unfold blobB; rw [decide_eq_false h1]; rfl
    rw [e]
    by_cases a1 : n ≤ 32
    · by_cases a2 : D.length = n
      · have a3 : Q.length ≠ n := fun a3 => h1 ⟨a1, a2, a3⟩
        simp only [↓VC, VP, TT, List.getElem?_toArray, Nat.reduceEqDiff, reduceCtorEq, Nat.reduceAdd, Nat.reduceSub, Nat.reduceLT, Nat.reduceMul, Nat.reducePow, Nat.reduceLeDiff, Int.reduceToNat, Int.reduceLE, Int.reduceLT, Int.reducePow, (eq_false (by omega) : ((n : Int) > 32) = False), decide_false, ↓app_last, (bne_eq_false_iff_eq.2 (by omega) : ((D.length : Int) != (n : Int)) = false), (bne_iff_ne.2 (by omega) : ((Q.length : Int) != (n : Int)) = true)]
        exact fin (tm := []) ⟨_, rfl⟩
      · simp only [↓VC, VP, TT, List.getElem?_toArray, Nat.reduceEqDiff, reduceCtorEq, Nat.reduceAdd, Nat.reduceSub, Nat.reduceLT, Nat.reduceMul, Nat.reducePow, Nat.reduceLeDiff, Int.reduceToNat, Int.reduceLE, Int.reduceLT, Int.reducePow, (eq_false (by omega) : ((n : Int) > 32) = False), decide_false, ↓app_last, (bne_iff_ne.2 (by omega) : ((D.length : Int) != (n : Int)) = true)]
        exact fin (tm := []) ⟨_, rfl⟩
    · simp only [↓VC, VP, TT, List.getElem?_toArray, Nat.reduceEqDiff, reduceCtorEq, Nat.reduceAdd, Nat.reduceSub, Nat.reduceLT, Nat.reduceMul, Nat.reducePow, Nat.reduceLeDiff, Int.reduceToNat, Int.reduceLE, Int.reduceLT, Int.reducePow, (eq_true (by omega) : ((n : Int) > 32) = True), decide_true]
      exact fin (tm := []) ⟨_, rfl⟩
/-- The hasher's engine in the memory. -/
structure eAt (H : List Blk) (e : Nat) : Prop where
  a : bAt H e (hEng (e + 1) (e + 2))
  b : bAt H (e + 1) (bs hT1)
  c : bAt H (e + 2) (bs hT2)
theorem eAt.mono {H H2 : List Blk} {e : Nat} (h : eAt H e) (x : Ext H H2) : eAt H2 e := ⟨h.a.mono x, h.b.mono x, h.c.mono x⟩
theorem eAt.frz {H : List Blk} {e : Nat} (h : eAt H e) : eAt (frz H) e := ⟨h.a.frz, h.b.frz, h.c.frz⟩
theorem seg_eng {hp : List Blk} {e : Nat} {τ : List (Nat × Nat)} {T : List Blk} (h : eAt hp e) (hT : segOK hp ((e, 0) :: (e + 1, 0) :: (e + 2, 0) :: τ) τ T) :
    segOK hp ((e, 0) :: (e + 1, 0) :: (e + 2, 0) :: τ) ((e, 0) :: (e + 1, 0) :: (e + 2, 0) :: τ) (⟨false, hEng 1 2⟩ :: ⟨false, bs hT1⟩ :: ⟨false, bs hT2⟩ :: T) := by
  refine ⟨⟨rfl, h.a.lt, ?_⟩, ⟨rfl, h.b.lt, by rw [List.drop_zero, instL_bs]; exact h.b.cells⟩, ⟨rfl, h.c.lt, by rw [List.drop_zero, instL_bs]; exact h.c.cells⟩, hT⟩
  have := h.a.cells
  rw [hEng_len] at this
  rw [List.drop_zero, instL_hEng, hEng_len, this]
theorem app_last2 {H : List Blk} {x y : Blk} : ((H ++ [x]) ++ [y])[H.length]? = some x := by rw [List.append_assoc]; exact at_app rfl
theorem app_last1 {H : List Blk} {x y : Blk} : ((H ++ [x]) ++ [y])[H.length + 1]? = some y := at_app (by simp)
theorem c_hasher_isBlobs (hst : stM H) {e0 : Nat} (he0 : eAt H e0) (hK : K.length = 32 * n) (hc0 : n ≤ c0) (hn : n ≤ 1048576) (hDn : D.length ≤ 1048576) (hQn : Q.length ≤ 1048576) (hL : ∀ p ∈ D, p.1.length ≤ p.2 ∧ p.1.length ≤ 1048576) (f0 : bAt H g0 (bs K)) (f1 : nAt H g1 b (bPs D)) (f2 : bAt H g2 (nsv Q)) :
    LC Try.prog 78 [.a [.p e0 0], .a [.s g0 0 n c0, .s g1 0 D.length c1, .s g2 0 Q.length c2]] H (fun v hp => v = .c (.bool (blobB n K D Q)) ∧ hp = H) := by
  have l0 := f0.lt
  have l1 := f1.1.lt
  have l2 := f2.lt
  have l3 := he0.a.lt
  have fin : ∀ {tm : List V} {hp : List Blk} {v : Bool}, Ext H hp → ∃ (v' : V) (hp' : List Blk) (σ : List Nat), (v' = .c (.bool (v)) ∧ hp' = H) ∧ LeS H.length σ [.c (.bool (v))] hp [v'] hp' := fun x => ⟨_, _, List.range H.length, ⟨rfl, rfl⟩, LeS_mem rfl x (by simp [leT]) (by simp [stL, stV]) hst⟩
  have hll : ∀ x, (H ++ [x]).length = H.length + 1 := fun x => by simp
  refine LC_of (X := XX (fun | 6 => .one 0 (.one 1 (.one 2 (.one 3 (.one 4 (.one 5 (.one 6 (.one 7 (.one 8 (.one 9 (.one 10 (.one 11 (.one 12 (.one 13 (.one 14 (.one 15 (.one 18 (.one 19 (.one 20 (.one 21 (.one 22 (.one 16 (.one 17 (.one 23 (.one 24 .nil)))))))))))))))))))))))) | _ => .nil) (fun _ => []) [19, 20, 48, 49, 59, 72, 93, 112, 174] (H.length)) envOK Try.func78 (by kernel_rfl) (by kernel_rfl) (by simp [XX]) (Nat.le_of_ble_eq_true (by kernel_rfl)) ?_
  simp only [kFun, Try.f78, List.length_nil, List.length_cons, Nat.sub_zero, Nat.reduceSub, Nat.reduceAdd, List.nil_append, List.cons_append, List.replicate_succ, List.replicate_zero]
  simp only [XX, ↓VC, VP, TT, List.getElem?_toArray, Nat.reduceEqDiff, reduceCtorEq, Nat.reduceAdd, Nat.reduceSub, Nat.reduceLT, Nat.reduceMul, Nat.reducePow, Nat.reduceLeDiff, Int.reduceToNat, Int.reduceLE, Int.reduceLT, Int.reducePow, hll, ↓app_last2, ↓app_last1]
  by_cases h1 : n ≤ 32 ∧ D.length = n ∧ Q.length = n
  · obtain ⟨a1, rfl, a3⟩ := h1
    simp only [↓VC, VP, TT, List.getElem?_toArray, Nat.reduceEqDiff, reduceCtorEq, Nat.reduceAdd, Nat.reduceSub, Nat.reduceLT, Nat.reduceMul, Nat.reducePow, Nat.reduceLeDiff, Int.reduceToNat, Int.reduceLE, Int.reduceLT, Int.reducePow, (eq_false (by omega) : ((D.length : Int) > 32) = False), decide_false, bne_self_eq_false, hll, ↓app_last2, ↓app_last1, a3]
    refine kCall_val (c_impl_ascends D.length c0 K hK hc0 hn) (by rfl) [(g0, 0)] (by simp [CALL]) (seg_bAt (f0.mono ⟨[_, _], by rw [List.append_assoc]; rfl⟩) (instL_bs _ _ _) trivial) (by simp [okL, okV]) (by simp [okL_bs]) ?_
    simp only [CALL, ↓VC, VP, TT, List.getElem?_toArray, Nat.reduceEqDiff, reduceCtorEq, Nat.reduceAdd, Nat.reduceSub, Nat.reduceLT, Nat.reduceMul, Nat.reducePow, Nat.reduceLeDiff, Int.reduceToNat, Int.reduceLE, Int.reduceLT, Int.reducePow]
    cases hA : ascD D.length K with
    | false =>
      have e : blobB D.length K D Q = false := by unfold blobB; rw [hA]; simp
      rw [e]
      simp only [↓VC, VP, TT, List.getElem?_toArray, Nat.reduceEqDiff, reduceCtorEq, Nat.reduceAdd, Nat.reduceSub, Nat.reduceLT, Nat.reduceMul, Nat.reducePow, Nat.reduceLeDiff, Int.reduceToNat, Int.reduceLE, Int.reduceLT, Int.reducePow, Bool.not_false]
      exact fin (tm := []) ⟨[_, _], by rw [List.append_assoc]; rfl⟩
    | true =>
      simp only [↓VC, VP, TT, List.getElem?_toArray, Nat.reduceEqDiff, reduceCtorEq, Nat.reduceAdd, Nat.reduceSub, Nat.reduceLT, Nat.reduceMul, Nat.reducePow, Nat.reduceLeDiff, Int.reduceToNat, Int.reduceLE, Int.reduceLT, Int.reducePow, Bool.not_true, hll, ↓app_last2, ↓app_last1]
      obtain ⟨o0, X0, f0⟩ := f0
      obtain ⟨o2, X2, f2⟩ := f2
      obtain ⟨⟨o1, X1, f1⟩, f3⟩ := f1
      obtain ⟨bh, ebh⟩ : ∃ x : Blk, x = ⟨true, [.p e0 0]⟩ := ⟨_, rfl⟩
      obtain ⟨box, eb⟩ : ∃ x : Blk, x = ⟨true, [.s g0 0 D.length c0, .s g1 0 D.length c1, .s g2 0 D.length c2]⟩ := ⟨_, rfl⟩
      rw [← eb, ← ebh]
      have x1 : Ext H ((H ++ [bh]) ++ [box]) := ⟨[_, _], by rw [List.append_assoc]; rfl⟩
      replace f0 := x1.get f0; replace f1 := x1.get f1; replace f2 := x1.get f2; replace he0 := he0.mono x1
      have fh : ((H ++ [bh]) ++ [box])[H.length]? = some bh := app_last2
      have fb : ((H ++ [bh]) ++ [box])[H.length + 1]? = some box := app_last1
      have hst1 : stM ((H ++ [bh]) ++ [box]) := (hst.app (by simp [ebh, stL, stV]; omega)).app (by simp [eb, stL, stV]; omega)
      have hl1 : ((H ++ [bh]) ++ [box]).length = H.length + 2 := by simp
      generalize (H ++ [bh]) ++ [box] = hp1 at *
      rw [eb] at fb
      rw [ebh] at fh
      refine kLoop_of (fun i : Nat => ([.j, .j, .p H.length 0, .p (H.length + 1) 0, .j, .j, .j, .j, .j, .j, .j, .j, .j, .j, .j, .j, .j, .j, .j, .j, .j, .j, .j, .j, .j, .j, .j, .j, .j, .j, .j, .j, .j, .j, .j, .j, .s g1 0 D.length c1, .c (.int .i64 (D.length)), .c (.int .i64 (i)), .j, .j, .j, .j, .j, .j, .j, .j, .j, .j, .j, .j, .j, .j, .j, .j, .j, .j, .j, .j, .j, .j, .j, .j, .j, .j, .j, .j, .j, .j], hp1)) (fun i => D.length - i) (fun i => i ≤ D.length ∧ ∀ j, j < i → oneB (D.getD j default).1 (Q.getD j 0) (dgA K j) = true) 0 ⟨by omega, by intro j hj; omega⟩ ⟨List.range hp1.length, LeS_id (ex := []) rfl (show H.length ≤ hp1.length by omega) (by simp) (by simp [leT]) (by simp [stL, stV]; omega) hst1⟩ ?_
      rintro i ⟨hi, he⟩
      rcases Nat.lt_or_ge i D.length with h | h
      · have hpi : D[i]? = some D[i] := List.getElem?_eq_getElem h
        generalize D[i] = p at hpi
        have hd : D.getD i default = p := by rw [List.getD_eq_getElem?_getD, hpi]; rfl
        have hL1 := bPs_get hpi
        have q4 := (f3 i _ hL1).mono x1
        obtain ⟨o4, X4, f4⟩ := q4
        obtain ⟨hp1', hp2'⟩ := hL p (List.mem_of_getElem? hpi)
        have hq : i < Q.length := by omega
        simp only [↓VC, VP, TT, List.getElem?_toArray, Nat.reduceEqDiff, reduceCtorEq, Nat.reduceAdd, Nat.reduceSub, Nat.reduceLT, Nat.reduceMul, Nat.reducePow, Nat.reduceLeDiff, Int.reduceToNat, Int.reduceLE, Int.reduceLT, Int.reducePow, (eq_true (by omega) : ((i : Int) < (D.length : Int)) = True), decide_true, fb, fh, f0, f1, f2, f4, ↓vGet_ptrV hL1, ↓vGet_bsR hq, ↓vSub_dgR hK h, bP, if_true]
        repeat (refine ⟨by first | omega | (simp; done) | decide, ?_⟩)
        have no : oneB p.1 (Q.getD i 0) (dgA K i) = false → blobB D.length K D Q = false := fun h' => blob_no h (by rw [hd]; exact h')
        refine kCall_val (c_impl_isData p.1 p.2) (by rfl) [(b + i, 0)] (by simp [CALL]) (seg_bAt ⟨_, _, f4⟩ (instL_bs _ _ _) trivial) (by simp [okL, okV]) (by simp [okL_bs]) ?_
        by_cases b1 : p.1.length ≤ 2000
        · simp only [CALL, ↓VC, VP, TT, List.getElem?_toArray, Nat.reduceEqDiff, reduceCtorEq, Nat.reduceAdd, Nat.reduceSub, Nat.reduceLT, Nat.reduceMul, Nat.reducePow, Nat.reduceLeDiff, Int.reduceToNat, Int.reduceLE, Int.reduceLT, Int.reducePow, b1, decide_true, Bool.not_true, fb, fh, f0, f1, f2, f4, ↓vGet_ptrV hL1, ↓vGet_bsR hq, ↓vSub_dgR hK h, bP, if_true]
          repeat (refine ⟨by first | omega | (simp; done) | decide, ?_⟩)
          refine kCall_val (c_impl_inRange (Q.getD i 0) 1 1000000) (by rfl) [] (by simp [CALL, cellsAt, tk, take_room, bs_length, bs_nil]) (by simp [CALL, cellsAt, tk, take_room, bs_length, bs_nil]) (by simp [CALL, cellsAt, tk, take_room, bs_length, bs_nil]) (by simp [okL_bs, okL_room, okL, okV]) ?_
          simp (config := { maxSteps := 2000000 }) only [CALL, ↓VC, VP, TT, List.getElem?_toArray, Nat.reduceEqDiff, reduceCtorEq, Nat.reduceAdd, Nat.reduceSub, Nat.reduceLT, Nat.reduceMul, Nat.reducePow, Nat.reduceLeDiff, Int.reduceToNat, Int.reduceLE, Int.reduceLT, Int.reducePow, instL_room, Bool.not_true, Bool.not_false]
          by_cases b2 : 1 ≤ Q.getD i 0 ∧ Q.getD i 0 ≤ 1000000
          · simp only [↓VC, VP, TT, List.getElem?_toArray, Nat.reduceEqDiff, reduceCtorEq, Nat.reduceAdd, Nat.reduceSub, Nat.reduceLT, Nat.reduceMul, Nat.reducePow, Nat.reduceLeDiff, Int.reduceToNat, Int.reduceLE, Int.reduceLT, Int.reducePow, b2, and_self, decide_true, Bool.not_true, fb, fh, f0, f1, f2, f4, ↓vGet_ptrV hL1, ↓vGet_bsR hq, ↓vSub_dgR hK h, bP, if_true]
            repeat (refine ⟨by first | omega | (simp; done) | decide, ?_⟩)
            obtain ⟨hp2, e2⟩ : ∃ hp2, hp2 = hp1 ++ [⟨true, [V.s (b + i) 0 p.1.length p.2]⟩] := ⟨_, rfl⟩
            rw [← e2]
            have x2 : Ext hp1 hp2 := ⟨_, e2⟩
            have hl2 : hp2.length = hp1.length + 1 := by simp [e2]
            have fs : hp2[hp1.length]? = some ⟨true, [V.s (b + i) 0 p.1.length p.2]⟩ := by rw [e2]; exact at_app rfl
            have g4 := x2.get f4
            refine kCall_val (h_digest1 p.1 p.2 hp1' (by omega)) (by rfl) [(e0, 0), (e0 + 1, 0), (e0 + 2, 0), (hp1.length, 0), (b + i, 0)] (by simp [CALL]) (seg_eng (he0.mono x2) ⟨⟨rfl, by omega, by simp [cellsAt, fs, V.instL, V.inst]⟩, seg_bAt ⟨_, _, g4⟩ (instL_bs _ _ _) trivial⟩) (by simp [okL, okV]) (by simp [okL_bs, okL_hEng, okL, okV]) ?_
            replace fb := x2.get fb; replace fh := x2.get fh; replace f0 := x2.get f0; replace f1 := x2.get f1; replace f2 := x2.get f2
            simp only [CALL, ↓VC, VP, TT, List.getElem?_toArray, Nat.reduceEqDiff, reduceCtorEq, Nat.reduceAdd, Nat.reduceSub, Nat.reduceLT, Nat.reduceMul, Nat.reducePow, Nat.reduceLeDiff, Int.reduceToNat, Int.reduceLE, Int.reduceLT, Int.reducePow, fb, fh, f0, f1, f2, f4, ↓vGet_ptrV hL1, ↓vGet_bsR hq, ↓vSub_dgR hK h, bP, if_true]
            repeat (refine ⟨by first | omega | (simp; done) | decide, ?_⟩)
            refine ⟨houseD_len _, dgA_len hK h, intCells_bs _, intCells_bs _, fun b' hb' => ⟨fun h5 => ?_, fun h5 => ?_⟩⟩
            · rw [no (by
                have : (houseD p.1 == dgA K i) = false := by
                  rw [beq_eq_false_iff_ne]
                  intro e
                  rw [hb'.2 (by rw [e])] at h5; cases h5
                unfold oneB; rw [this]; simp)]
              exact fin (tm := []) (x1.trans x2)
            · have e5 : houseD p.1 = dgA K i := bs_inj.1 (hb'.1 (by simpa using h5))
              refine ⟨i + 1, ⟨by omega, fun j hj => ?_⟩, by omega, List.range hp1.length, ?_⟩
              · rcases Nat.lt_or_ge j i with h6 | h6
                · exact he j h6
                · rw [show j = i by omega, hd]
                  unfold oneB
                  rw [decide_eq_true b1, decide_eq_true b2.1, decide_eq_true b2.2, e5]; simp
              rw [wrap_i64 (by omega) (by omega)]
              exact LeS_id rfl (show H.length ≤ hp1.length by omega) e2 (by simp [leT]) (by simp [stL, stV]; omega) hst1
          · simp only [↓VC, VP, TT, List.getElem?_toArray, Nat.reduceEqDiff, reduceCtorEq, Nat.reduceAdd, Nat.reduceSub, Nat.reduceLT, Nat.reduceMul, Nat.reducePow, Nat.reduceLeDiff, Int.reduceToNat, Int.reduceLE, Int.reduceLT, Int.reducePow, b2, decide_false, Bool.not_false, fb, fh, f0, f1, f2, f4, ↓vGet_ptrV hL1, ↓vGet_bsR hq, ↓vSub_dgR hK h, bP, if_true]
            repeat (refine ⟨by first | omega | (simp; done) | decide, ?_⟩)
            rw [no (by
              have : (decide (1 ≤ Q.getD i 0) && (decide (Q.getD i 0 ≤ 1000000) && (houseD p.1 == dgA K i))) = false := by
                rw [← Bool.and_assoc, ← Bool.decide_and, decide_eq_false b2]; rfl
              unfold oneB; rw [this]; simp)]
            exact fin (tm := []) x1
        · simp only [CALL, ↓VC, VP, TT, List.getElem?_toArray, Nat.reduceEqDiff, reduceCtorEq, Nat.reduceAdd, Nat.reduceSub, Nat.reduceLT, Nat.reduceMul, Nat.reducePow, Nat.reduceLeDiff, Int.reduceToNat, Int.reduceLE, Int.reduceLT, Int.reducePow, b1, decide_false, Bool.not_false, fb, fh, f0, f1, f2, f4, ↓vGet_ptrV hL1, ↓vGet_bsR hq, ↓vSub_dgR hK h, bP, if_true]
          repeat (refine ⟨by first | omega | (simp; done) | decide, ?_⟩)
          rw [no (by unfold oneB; rw [decide_eq_false b1]; simp)]
          exact fin (tm := []) x1
      · obtain rfl : i = D.length := by omega
        simp only [↓VC, VP, TT, List.getElem?_toArray, Nat.reduceEqDiff, reduceCtorEq, Nat.reduceAdd, Nat.reduceSub, Nat.reduceLT, Nat.reduceMul, Nat.reducePow, Nat.reduceLeDiff, Int.reduceToNat, Int.reduceLE, Int.reduceLT, Int.reducePow, (eq_false (by omega) : ((D.length : Int) < (D.length : Int)) = False), decide_false]
        rw [blob_yes ⟨a1, rfl, a3⟩ hA he]
        exact fin (tm := []) x1
  · have e : blobB n K D Q = false := by unfold blobB; rw [decide_eq_false h1]; rfl
    rw [e]
    have x0 : ∀ x y : Blk, Ext H ((H ++ [x]) ++ [y]) := fun x y => ⟨[x, y], by rw [List.append_assoc]; rfl⟩
    by_cases a1 : n ≤ 32
    · by_cases a2 : D.length = n
      · have a3 : Q.length ≠ n := fun a3 => h1 ⟨a1, a2, a3⟩
        simp only [↓VC, VP, TT, List.getElem?_toArray, Nat.reduceEqDiff, reduceCtorEq, Nat.reduceAdd, Nat.reduceSub, Nat.reduceLT, Nat.reduceMul, Nat.reducePow, Nat.reduceLeDiff, Int.reduceToNat, Int.reduceLE, Int.reduceLT, Int.reducePow, (eq_false (by omega) : ((n : Int) > 32) = False), decide_false, hll, ↓app_last2, ↓app_last1, (bne_eq_false_iff_eq.2 (by omega) : ((D.length : Int) != (n : Int)) = false), (bne_iff_ne.2 (by omega) : ((Q.length : Int) != (n : Int)) = true)]
        exact fin (tm := []) (x0 _ _)
      · simp only [↓VC, VP, TT, List.getElem?_toArray, Nat.reduceEqDiff, reduceCtorEq, Nat.reduceAdd, Nat.reduceSub, Nat.reduceLT, Nat.reduceMul, Nat.reducePow, Nat.reduceLeDiff, Int.reduceToNat, Int.reduceLE, Int.reduceLT, Int.reducePow, (eq_false (by omega) : ((n : Int) > 32) = False), decide_false, hll, ↓app_last2, ↓app_last1, (bne_iff_ne.2 (by omega) : ((D.length : Int) != (n : Int)) = true)]
        exact fin (tm := []) (x0 _ _)
    · simp only [↓VC, VP, TT, List.getElem?_toArray, Nat.reduceEqDiff, reduceCtorEq, Nat.reduceAdd, Nat.reduceSub, Nat.reduceLT, Nat.reduceMul, Nat.reducePow, Nat.reduceLeDiff, Int.reduceToNat, Int.reduceLE, Int.reduceLT, Int.reducePow, (eq_true (by omega) : ((n : Int) > 32) = True), decide_true]
      exact fin (tm := []) (x0 _ _)
end
theorem set_last {H : List Blk} {x y : Blk} : (H ++ [x]).set H.length y = H ++ [y] := by
  rw [List.set_append_right _ _ (Nat.le_refl _), Nat.sub_self]; rfl
/-- The blocks of the house's engine, as they come. -/
theorem hB_new {hp hp2 : List Blk} {N : Nat} (hN : N = hp.length) (e : hp2 = hp ++ ((hB true).map fun b => (⟨b.own, V.instL [] N b.cells⟩ : Blk))) : Ext hp hp2 ∧ eAt hp2 N ∧ hp2.length = N + 3 ∧ (stM hp → stM hp2) := by
  simp only [hB, List.map_cons, List.map_nil, instL_hEng0, instL_bs] at e
  subst hN
  refine ⟨⟨_, e⟩, ⟨bAt_of (by rw [e]; exact at_app rfl), bAt_of (own := true) ?_, bAt_of (own := true) ?_⟩, by simp [e], fun h => ?_⟩
  · have e' : hp2 = (hp ++ [⟨true, hEng (hp.length + 1) (hp.length + 2)⟩]) ++ (⟨true, bs hT1⟩ :: [⟨true, bs hT2⟩]) := by rw [e]; simp
    rw [e']; exact at_app (by simp)
  · have e' : hp2 = (hp ++ [⟨true, hEng (hp.length + 1) (hp.length + 2)⟩, ⟨true, bs hT1⟩]) ++ (⟨true, bs hT2⟩ :: []) := by rw [e]; simp
    rw [e']; exact at_app (by simp)
  · rw [e]
    refine h.app (stB_cons ?_ (stB_cons (stL_bs _ _) (stB_cons (stL_bs _ _) stB_nil)))
    simp [hEng, engC, stL, stV, stL_app, stL_bs]
end Go.Proofs.Ytcfhdogmkbfnhaa

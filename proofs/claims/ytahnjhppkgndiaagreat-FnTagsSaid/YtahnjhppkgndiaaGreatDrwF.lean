import Derived.Test.YtahnjhppkgndiaaGreatDrwL
import Derived.Test.YtahnjhppkgndiaaGreatChn
import Derived.Test.YtahnjhppkgndiaaGreatVcgJ
import Derived.Test.YtahnjhppkgndiaaGreatVcgZV
/- The draw of a chain of tags that may be broken. In sections. -/
set_option linter.unusedSimpArgs false
set_option linter.unusedVariables false
namespace Go.Proofs.YtahnjhppkgndiaaGreat
open Go Go.Vc
set_option maxRecDepth 10000
set_option maxHeartbeats 40000000
noncomputable def cx_DrawFirstBroken : Cx := XX (fun | 15 => .one 0 (.one 2 (.one 3 (.alt (.one 1 (.one 4 (.one 5 (.one 6 (.one 7 .nil))))) (.one 4 (.one 1 (.one 5 (.one 6 (.one 7 .nil)))))))) | 1000004 => .cut .nil | 1000006 => .cut .nil | 1000013 => .cut .nil | 1000015 => .cut .nil | _ => .nil) (fun _ => []) [15, 71, 72, 73, 79, 80, 87, 90, 91, 93, 99, 119, 137, 176, 177, 203, 204, 212, 219] 1
theorem cx_DrawFirstBroken_E : cx_DrawFirstBroken.E = E := rfl
theorem cx_DrawFirstBroken_P : cx_DrawFirstBroken.P = Tryz.prog := rfl
theorem cx_DrawFirstBroken_mu : cx_DrawFirstBroken.mu = [15, 71, 72, 73, 79, 80, 87, 90, 91, 93, 99, 119, 137, 176, 177, 203, 204, 212, 219] := rfl
theorem cx_DrawFirstBroken_m : cx_DrawFirstBroken.m = 1 := rfl
theorem cx_DrawFirstBroken_ord15 : cx_DrawFirstBroken.ord 15 = .one 0 (.one 2 (.one 3 (.alt (.one 1 (.one 4 (.one 5 (.one 6 (.one 7 .nil))))) (.one 4 (.one 1 (.one 5 (.one 6 (.one 7 .nil)))))))) := rfl
theorem cx_DrawFirstBroken_ord1000004 : cx_DrawFirstBroken.ord 1000004 = .cut .nil := rfl
theorem cx_DrawFirstBroken_ord1000006 : cx_DrawFirstBroken.ord 1000006 = .cut .nil := rfl
theorem cx_DrawFirstBroken_ord1000013 : cx_DrawFirstBroken.ord 1000013 = .cut .nil := rfl
theorem cx_DrawFirstBroken_ord1000015 : cx_DrawFirstBroken.ord 1000015 = .cut .nil := rfl
theorem cx_DrawFirstBroken_flt15 : cx_DrawFirstBroken.flt 15 = [] := rfl
theorem cx_DrawFirstBroken_flt1000004 : cx_DrawFirstBroken.flt 1000004 = [] := rfl
theorem cx_DrawFirstBroken_flt1000006 : cx_DrawFirstBroken.flt 1000006 = [] := rfl
theorem cx_DrawFirstBroken_flt1000013 : cx_DrawFirstBroken.flt 1000013 = [] := rfl
theorem cx_DrawFirstBroken_flt1000015 : cx_DrawFirstBroken.flt 1000015 = [] := rfl
theorem CX_DrawFirstBroken : type_of% (
  And.intro @cx_DrawFirstBroken_E <|
  And.intro @cx_DrawFirstBroken_P <|
  And.intro @cx_DrawFirstBroken_mu <|
  And.intro @cx_DrawFirstBroken_m <|
  And.intro @cx_DrawFirstBroken_ord15 <|
  And.intro @cx_DrawFirstBroken_ord1000004 <|
  And.intro @cx_DrawFirstBroken_ord1000006 <|
  And.intro @cx_DrawFirstBroken_ord1000013 <|
  And.intro @cx_DrawFirstBroken_ord1000015 <|
  And.intro @cx_DrawFirstBroken_flt15 <|
  And.intro @cx_DrawFirstBroken_flt1000004 <|
  And.intro @cx_DrawFirstBroken_flt1000006 <|
  And.intro @cx_DrawFirstBroken_flt1000013 <|
  @cx_DrawFirstBroken_flt1000015) :=
  And.intro @cx_DrawFirstBroken_E <|
  And.intro @cx_DrawFirstBroken_P <|
  And.intro @cx_DrawFirstBroken_mu <|
  And.intro @cx_DrawFirstBroken_m <|
  And.intro @cx_DrawFirstBroken_ord15 <|
  And.intro @cx_DrawFirstBroken_ord1000004 <|
  And.intro @cx_DrawFirstBroken_ord1000006 <|
  And.intro @cx_DrawFirstBroken_ord1000013 <|
  And.intro @cx_DrawFirstBroken_ord1000015 <|
  And.intro @cx_DrawFirstBroken_flt15 <|
  And.intro @cx_DrawFirstBroken_flt1000004 <|
  And.intro @cx_DrawFirstBroken_flt1000006 <|
  And.intro @cx_DrawFirstBroken_flt1000013 <|
  @cx_DrawFirstBroken_flt1000015
section
variable {l : List UInt8} {c : Nat} {q : Nat × Nat}
/-- What is drawn: cipher, key, list, its room, tags, their number and room. -/
structure FB where
  z : Int
  n : Int
  b : List UInt8
  A : List UInt8
  pl : List UInt8
  key : List UInt8
  D : List (List UInt8 × Nat)
  r : Nat
  T : List UInt8
  k : Nat
  r2 : Nat
structure FB.ok (x : FB) : Prop where
  hb : x.b.length = 256
  hA : x.A.length = 16
  hp : x.pl.length = 16
  hk : x.key.length = 16
  hD : x.D.length ≤ 21
  hL : ∀ p ∈ x.D, p.1.length ≤ 61
  hT : x.T.length = 32 * x.k
  hkn : x.k ≤ 1000
abbrev fbA (l : List UInt8) (c : Nat) (q : Nat × Nat) : List Blk := [⟨false, bs l⟩, ⟨true, cipC 0 (List.replicate 256 0) (List.replicate 16 0) (List.replicate 16 0) 0⟩, ⟨true, bs (List.replicate 16 0)⟩, ⟨true, sv 0 l.length c q⟩]
abbrev fbH (l : List UInt8) (c : Nat) (q : Nat × Nat) (x : FB) : List Blk := ⟨false, bs l⟩ :: ⟨true, cipC 0 (List.replicate 256 0) (List.replicate 16 0) (List.replicate 16 0) 0⟩ :: ⟨true, bs (List.replicate 16 0)⟩ :: ⟨true, sv 0 l.length c q⟩ :: ⟨true, ptrV 8 (tPs x.D) ++ List.replicate x.r .j⟩ :: ⟨true, bs x.T ++ List.replicate (32 * x.r2) .j⟩ :: ⟨true, cipC x.z x.b x.A x.pl x.n⟩ :: ⟨true, bs x.key⟩ :: partB true (tPs x.D)
abbrev fbS (l : List UInt8) (c : Nat) (x : FB) : List V := ((.s 0 0 l.length c) :: (@HAppend.hAppend (List V) (List V) (List V) _ (List.replicate 1 V.j) ((.p 1 0) :: ((.p 2 0) :: (@HAppend.hAppend (List V) (List V) (List V) _ (List.replicate 2 V.j) ((.p 3 0) :: ((.p 6 0) :: ((.p 7 0) :: ((.s 4 0 x.D.length (x.D.length + x.r)) :: ((.s 5 0 x.k (x.k + x.r2)) :: (List.replicate 56 .j)))))))))))
def fbR (x : FB) : V × List Blk := (.t [.a (cipC x.z x.b x.A x.pl x.n), .a (bs x.key), .s 1 0 x.D.length (x.D.length + x.r), .s 2 0 x.k (x.k + x.r2)], ⟨true, ptrV 3 (tPs x.D) ++ List.replicate x.r .j⟩ :: ⟨true, bs x.T ++ List.replicate (32 * x.r2) .j⟩ :: partB true (tPs x.D))
theorem fbA_st (q : Nat × Nat) : stM (fbA l c q) := by
  intro b hb
  simp only [fbA, List.mem_cons, List.not_mem_nil, or_false] at hb
  rcases hb with rfl | rfl | rfl | rfl
  · exact stL_bs _ _
  · simp [cipC, stL, stV, stL_app, stL_bs]
  · exact stL_bs _ _
  · simp [sv, stL, stV]
theorem cip_ren {z n : Int} {b A pl : List UInt8} (σ : List Nat) : V.renL σ (cipC z b A pl n) = cipC z b A pl n := renL_cip σ
/-- The drawn things, wherever they lie, told anew. -/
theorem LeS_fb {q : Nat × Nat} {x : FB} {hp : List Blk} {tm tm' : List V} {o g5 g6 g7 b0 : Nat} (e : Ext (fbA l c q) hp) (fO : hp[o]? = some (⟨true, ptrV b0 (tPs x.D) ++ List.replicate x.r .j⟩ : Blk)) (fQ : ∀ (k : Nat) (p : Prt), (tPs x.D)[k]? = some p → hp[b0 + k]? = some (⟨true, p.cells⟩ : Blk))
    (f5 : hp[g5]? = some (⟨true, bs x.T ++ List.replicate (32 * x.r2) .j⟩ : Blk)) (f6 : hp[g6]? = some (⟨true, cipC x.z x.b x.A x.pl x.n⟩ : Blk)) (f7 : hp[g7]? = some (⟨true, bs x.key⟩ : Blk)) (hnd : [o, g5, g6, g7].Nodup) (hge : ∀ g ∈ [o, g5, g6, g7], 4 ≤ g ∧ (g < b0 ∨ b0 + x.D.length ≤ g)) (hb : 4 ≤ b0)
    (ht : leTm (0 :: 1 :: 2 :: 3 :: o :: g5 :: g6 :: g7 :: List.range' b0 x.D.length) tm tm') (hok : okL (8 + x.D.length) tm') : LeS 1 (0 :: 1 :: 2 :: 3 :: o :: g5 :: g6 :: g7 :: List.range' b0 x.D.length) tm hp tm' (fbH l c q x) := by
  have key := LeS_t (m := 1) (A := fbA l c q) (o := o) (b := b0) (r := x.r) (τ := [g5, g6, g7]) (B := [⟨true, bs x.T ++ List.replicate (32 * x.r2) .j⟩, ⟨true, cipC x.z x.b x.A x.pl x.n⟩, ⟨true, bs x.key⟩]) (D := x.D) (tm := tm) (tm' := tm') (fbA_st q) e (by simp [fbA]) fO fQ hnd hge hb rfl (fun i cc hi => ?_) (fun cc hcc M => ?_) ht (show okL (4 + (1 + 3 + x.D.length)) tm' by rw [show 4 + (1 + 3 + x.D.length) = 8 + x.D.length by omega]; exact hok)
  · exact key
  · match i, hi with
    | 0, hi => cases hi; exact ⟨f5, fun σ => renL_room _ _ _⟩
    | 1, hi => cases hi; exact ⟨f6, fun σ => cip_ren _⟩
    | 2, hi => cases hi; exact ⟨f7, fun σ => renL_bs _ _⟩
  · simp only [List.mem_cons, List.not_mem_nil, or_false] at hcc
    rcases hcc with rfl | rfl | rfl
    · exact okL_room _ _ _
    · exact okL_cip _
    · exact okL_bs _ _
theorem vPut_one {cs : List V} {o : Nat} {v : V} {k : List V → Prop} (h : o < cs.length) : vPut cs o [v] k = k (cs.set o v) := by
  unfold vPut splice
  rw [List.set_eq_take_append_cons_drop, if_pos h]
  apply propext
  simp only [List.length_singleton, List.append_assoc, List.singleton_append]
  exact ⟨fun x => x.2, fun x => ⟨by omega, x⟩⟩
theorem splitD {D : List (List UInt8 × Nat)} {j : Nat} (h : j < D.length) : ∃ D1 d D2, D = D1 ++ d :: D2 ∧ D1.length = j := ⟨D.take j, D[j], D.drop (j + 1), by rw [← List.drop_eq_getElem_cons h, List.take_append_drop], by rw [List.length_take]; omega⟩
/-- One part of the list is another one now. -/
theorem LeS_fbS {q : Nat × Nat} {z n : Int} {b A pl key T W : List UInt8} {D1 D2 : List (List UInt8 × Nat)} {d : List UInt8 × Nat} {r k r2 rW N : Nat} {tm tm' : List V} (hN : N = D1.length + (1 + D2.length))
    (ht : leTm (0 :: 1 :: 2 :: 3 :: 4 :: 5 :: 6 :: 7 :: (List.range' 8 D1.length ++ ((N + 8) :: List.range' (8 + D1.length + 1) D2.length))) tm tm') (hok : okL (8 + N) tm') :
    LeS 1 (0 :: 1 :: 2 :: 3 :: 4 :: 5 :: 6 :: 7 :: (List.range' 8 D1.length ++ ((N + 8) :: List.range' (8 + D1.length + 1) D2.length))) tm
      (⟨false, bs l⟩ :: ⟨true, cipC 0 (List.replicate 256 0) (List.replicate 16 0) (List.replicate 16 0) 0⟩ :: ⟨true, bs (List.replicate 16 0)⟩ :: ⟨true, sv 0 l.length c q⟩ :: ⟨true, (ptrV 8 (tPs (D1 ++ d :: D2))).set D1.length (.s (N + 8) 0 W.length (W.length + rW)) ++ List.replicate r .j⟩ :: ⟨true, bs T ++ List.replicate (32 * r2) .j⟩ :: ⟨true, cipC z b A pl n⟩ :: ⟨true, bs key⟩ :: (partB true (tPs (D1 ++ d :: D2)) ++ [⟨true, bs W ++ List.replicate rW .j⟩])) tm'
      (fbH l c q ⟨z, n, b, A, pl, key, D1 ++ (W, rW) :: D2, r, T, k, r2⟩) := by
  have h1 := tPs_length D1
  have h2 := tPs_length D2
  have eP : ∀ (h : Nat) (w : List UInt8 × Nat), ptrV h (tPs (D1 ++ w :: D2)) = ptrV h (tPs D1) ++ (V.s (h + D1.length) 0 w.1.length (w.1.length + w.2) :: ptrV (h + D1.length + 1) (tPs D2)) := fun h w => by
    rw [tPs_app, ptrV_app, h1]; rfl
  have eS : (ptrV 8 (tPs (D1 ++ d :: D2))).set D1.length (.s (N + 8) 0 W.length (W.length + rW)) = ptrV 8 (tPs D1) ++ (V.s (N + 8) 0 W.length (W.length + rW) :: ptrV (8 + D1.length + 1) (tPs D2)) := by
    rw [eP, List.set_append_right _ _ (by rw [ptrV_length, h1]; exact Nat.le_refl _), ptrV_length, h1, Nat.sub_self]; rfl
  have eB : partB true (tPs (D1 ++ d :: D2)) = partB true (tPs D1) ++ (⟨true, (tP d).cells⟩ :: partB true (tPs D2)) := by rw [tPs_app]; simp [partB, tPs]
  have g0 : ∀ i, i < D1.length → (0 :: 1 :: 2 :: 3 :: 4 :: 5 :: 6 :: 7 :: (List.range' 8 D1.length ++ ((N + 8) :: List.range' (8 + D1.length + 1) D2.length))).getD (8 + i) 0 = 8 + i := fun i hi => by
    rw [show 8 + i = i + 1 + 1 + 1 + 1 + 1 + 1 + 1 + 1 by omega]
    simp only [List.getD_cons_succ]
    rw [List.getD_eq_getElem?_getD, List.getElem?_append_left (by simp; exact hi), ← List.getD_eq_getElem?_getD, getD_range' hi]
    omega
  have g1 : (0 :: 1 :: 2 :: 3 :: 4 :: 5 :: 6 :: 7 :: (List.range' 8 D1.length ++ ((N + 8) :: List.range' (8 + D1.length + 1) D2.length))).getD (8 + D1.length) 0 = N + 8 := by
    rw [show 8 + D1.length = D1.length + 1 + 1 + 1 + 1 + 1 + 1 + 1 + 1 by omega]
    simp only [List.getD_cons_succ]
    rw [List.getD_eq_getElem?_getD, List.getElem?_append_right (by simp), List.length_range', Nat.sub_self]
    rfl
  have g2 : ∀ i, i < D2.length → (0 :: 1 :: 2 :: 3 :: 4 :: 5 :: 6 :: 7 :: (List.range' 8 D1.length ++ ((N + 8) :: List.range' (8 + D1.length + 1) D2.length))).getD (8 + D1.length + 1 + i) 0 = 8 + D1.length + 1 + i := fun i hi => by
    rw [show 8 + D1.length + 1 + i = (D1.length + 1 + i) + 1 + 1 + 1 + 1 + 1 + 1 + 1 + 1 by omega]
    simp only [List.getD_cons_succ]
    rw [List.getD_eq_getElem?_getD, List.getElem?_append_right (by simp; omega), List.length_range', show D1.length + 1 + i - D1.length = i + 1 by omega, List.getElem?_cons_succ, ← List.getD_eq_getElem?_getD, getD_range' hi]
    omega
  have hr : V.renL (0 :: 1 :: 2 :: 3 :: 4 :: 5 :: 6 :: 7 :: (List.range' 8 D1.length ++ ((N + 8) :: List.range' (8 + D1.length + 1) D2.length))) (ptrV 8 (tPs (D1 ++ (W, rW) :: D2))) = (ptrV 8 (tPs (D1 ++ d :: D2))).set D1.length (.s (N + 8) 0 W.length (W.length + rW)) := by
    rw [eS, eP, renL_app, renL_ptrV (b := 8) (fun i hi => g0 i (by rw [h1] at hi; exact hi)), V.renL, V.ren, g1, renL_ptrV (b := 8 + D1.length + 1) (fun i hi => g2 i (by rw [h2] at hi; exact hi))]
  have hr2 : V.renL (0 :: 1 :: 2 :: 3 :: 4 :: 5 :: 6 :: 7 :: (List.range' 8 D1.length ++ ((N + 8) :: List.range' (8 + D1.length + 1) D2.length))) (ptrV 8 (tPs (D1 ++ (W, rW) :: D2)) ++ List.replicate r V.j) = (ptrV 8 (tPs (D1 ++ d :: D2))).set D1.length (.s (N + 8) 0 W.length (W.length + rW)) ++ List.replicate r .j := by rw [renL_app, hr, renL_rep]
  have hl : (tPs (D1 ++ (W, rW) :: D2)).length = N := by rw [tPs_length, List.length_append, List.length_cons]; omega
  have key0 := LeS_gen (m := 1) (N := 4) (H := fbA l c q) (τ := [4, 5, 6, 7]) (γ := List.range' 8 D1.length ++ ((N + 8) :: List.range' (8 + D1.length + 1) D2.length)) (B := [⟨true, ptrV 8 (tPs (D1 ++ (W, rW) :: D2)) ++ List.replicate r .j⟩, ⟨true, bs T ++ List.replicate (32 * r2) .j⟩, ⟨true, cipC z b A pl n⟩, ⟨true, bs key⟩]) (P := tPs (D1 ++ (W, rW) :: D2)) (tm := tm) (tm' := tm')
    (hp := ⟨false, bs l⟩ :: ⟨true, cipC 0 (List.replicate 256 0) (List.replicate 16 0) (List.replicate 16 0) 0⟩ :: ⟨true, bs (List.replicate 16 0)⟩ :: ⟨true, sv 0 l.length c q⟩ :: ⟨true, (ptrV 8 (tPs (D1 ++ d :: D2))).set D1.length (.s (N + 8) 0 W.length (W.length + rW)) ++ List.replicate r .j⟩ :: ⟨true, bs T ++ List.replicate (32 * r2) .j⟩ :: ⟨true, cipC z b A pl n⟩ :: ⟨true, bs key⟩ :: (partB true (tPs (D1 ++ d :: D2)) ++ [⟨true, bs W ++ List.replicate rW .j⟩]))
    rfl ⟨_, rfl⟩ (fbA_st q) (by decide) rfl (by rw [hl]; simp; omega) ?_ ?_ ?_ (fun _ => tPs_ren) (fun _ p hp => stL_ok (tPs_st p hp)) ht ?_ (by rw [hl]; exact (show okL (4 + (4 + N)) tm' by rw [show 4 + (4 + N) = 8 + N by omega]; exact hok)) ?_
  · exact key0
  · rw [List.nodup_append]
    refine ⟨by simp, ?_, fun a ha e he => ?_⟩
    · rw [List.nodup_append]
      refine ⟨List.nodup_range', List.nodup_cons.2 ⟨?_, List.nodup_range'⟩, fun a ha e he => ?_⟩
      · rw [List.mem_range'_1]; omega
      · rw [List.mem_range'_1] at ha
        rcases List.mem_cons.1 he with rfl | he
        · omega
        · rw [List.mem_range'_1] at he; omega
    · simp only [List.mem_cons, List.not_mem_nil, or_false] at ha
      rcases List.mem_append.1 he with he | he
      · rw [List.mem_range'_1] at he; omega
      · rcases List.mem_cons.1 he with rfl | he
        · omega
        · rw [List.mem_range'_1] at he; omega
  · intro g hg
    rcases List.mem_append.1 hg with hg | hg
    · simp only [List.mem_cons, List.not_mem_nil, or_false] at hg; omega
    · rcases List.mem_append.1 hg with hg | hg
      · rw [List.mem_range'_1] at hg; omega
      · rcases List.mem_cons.1 hg with rfl | hg
        · omega
        · rw [List.mem_range'_1] at hg; omega
  · intro i p hp
    rw [eB]
    rcases Nat.lt_trichotomy i D1.length with hi | hi | hi
    · rw [tPs_app, List.getElem?_append_left (by rw [h1]; exact hi)] at hp
      rw [List.getD_eq_getElem?_getD, List.getElem?_append_left (by simp; exact hi), ← List.getD_eq_getElem?_getD, getD_range' hi, show 8 + i = i + 1 + 1 + 1 + 1 + 1 + 1 + 1 + 1 by omega]
      show ((partB true (tPs D1) ++ _) ++ _)[i]? = _
      rw [List.append_assoc]
      exact partB_get hp
    · subst hi
      rw [tPs_app, List.getElem?_append_right (by rw [h1]; exact Nat.le_refl _), h1, Nat.sub_self] at hp
      simp only [tPs, List.map_cons, List.getElem?_cons_zero, Option.some.injEq] at hp
      subst hp
      rw [List.getD_eq_getElem?_getD, List.getElem?_append_right (by simp), List.length_range', Nat.sub_self]
      show ((partB true (tPs D1) ++ _) ++ _)[N]? = _
      rw [List.getElem?_append_right (by simp [partB_length, tPs_length]; omega)]
      rw [show N - _ = 0 by simp [partB_length, tPs_length]; omega]
      rfl
    · rw [tPs_app, List.getElem?_append_right (by rw [h1]; omega), h1] at hp
      obtain ⟨e, he⟩ : ∃ e, i = D1.length + 1 + e := ⟨i - D1.length - 1, by omega⟩
      subst he
      rw [show D1.length + 1 + e - D1.length = e + 1 by omega] at hp
      have hp' : (tPs D2)[e]? = some p := hp
      have hlt : e < D2.length := by have := (List.getElem?_eq_some_iff.1 hp').1; rw [h2] at this; exact this
      rw [List.getD_eq_getElem?_getD, List.getElem?_append_right (by simp; omega), List.length_range', show D1.length + 1 + e - D1.length = e + 1 by omega, List.getElem?_cons_succ, ← List.getD_eq_getElem?_getD, getD_range' hlt, show 8 + D1.length + 1 + e = (D1.length + (e + 1)) + 1 + 1 + 1 + 1 + 1 + 1 + 1 + 1 by omega]
      show ((partB true (tPs D1) ++ _) ++ _)[D1.length + (e + 1)]? = _
      rw [List.append_assoc, List.getElem?_append_right (by rw [partB_length, h1]; omega), partB_length, h1, Nat.add_sub_cancel_left]
      show (partB true (tPs D2) ++ _)[e]? = _
      exact partB_get hp'
  · refine ⟨.inr ?_, .inr ?_, .inr ?_, .inr ?_, trivial⟩
    · exact ⟨hr2.symm, fun _ => rfl⟩
    · exact ⟨(renL_room _ _ _).symm, fun _ => rfl⟩
    · exact ⟨(cip_ren _).symm, fun _ => rfl⟩
    · exact ⟨(renL_bs _ _).symm, fun _ => rfl⟩
  · intro cc hcc
    rw [hl]
    simp only [List.mem_cons, List.not_mem_nil, or_false] at hcc
    rcases hcc with rfl | rfl | rfl | rfl
    · rw [okL_app]; exact ⟨stL_ok (stL_ptrV (by rw [hl]; simp; omega)), okL_rep _ _⟩
    · exact okL_room _ _ _
    · exact okL_cip _
    · exact okL_bs _ _
theorem fb_fifteen {x : FB} (hx : x.ok) : kFrom cx_DrawFirstBroken Tryz.f16 [4, 6, 13, 15] 15 (fun v hp => ∃ v' hp' σ, Ret [⟨false, bs l⟩] FB.ok fbR v' hp' ∧ LeS 1 σ [v] hp [v'] hp') (fbS l c x) (fbH l c q x) := by
  obtain ⟨z, n, b, A, pl, key, D, r, T, k, r2⟩ := x
  have hx0 := hx
  obtain ⟨hb, hA, hp, hk, hD, hL, hT, hkn⟩ := hx
  simp only at hb hA hp hk hD hL hT hkn
  simp only [kFrom, kFromK, kAt, Go.Vc.mark, lawPost, List.contains_cons, List.contains_nil, Nat.reduceBEq, Bool.or_false, Bool.false_or, Bool.true_or, Bool.or_true, Bool.false_eq_true, if_true, if_false, Nat.reduceAdd, Nat.reduceEqDiff, reduceCtorEq, Tryz.f16]
  simp only [CX_DrawFirstBroken, SPV, lawPost, ↓VC2, ZP, VP, TT, Nat.reduceEqDiff, reduceCtorEq, Nat.reduceAdd, Nat.reduceSub, Nat.reduceLT, Nat.reduceMul, Nat.reducePow, Nat.reduceLeDiff, Int.reduceToNat, Int.reduceLE, Int.reduceLT, Int.reducePow, fbS, fbH, hk, cipC_len hb hA hp, ↓cip_put_all z256 z16 z16 hb hA hp, ↓cip_all hb hA hp]
  have hn := tPs_length D
  have fin : ∃ v' hp' σ, Ret [⟨false, bs l⟩] FB.ok fbR v' hp' ∧ LeS 1 σ [V.t [V.a (cipC z b A pl n), V.a (bs key), V.s 4 0 D.length (D.length + r), V.s 5 0 k (k + r2)]] (⟨false, bs l⟩ :: ⟨true, cipC z b A pl n⟩ :: ⟨true, bs key⟩ :: ⟨true, sv 0 l.length c q⟩ :: ⟨true, ptrV 8 (tPs D) ++ List.replicate r .j⟩ :: ⟨true, bs T ++ List.replicate (32 * r2) .j⟩ :: ⟨true, cipC z b A pl n⟩ :: ⟨true, bs key⟩ :: partB true (tPs D)) [v'] hp' := by
    refine ⟨_, _, List.range 1 ++ (4 :: [5] ++ List.range' 8 D.length), ⟨⟨z, n, b, A, pl, key, D, r, T, k, r2⟩, hx0, rfl, rfl⟩, ?_⟩
    refine LeS_t (m := 1) (A := [⟨false, bs l⟩]) (o := 4) (b := 8) (r := r) (τ := [5]) (B := [⟨true, bs T ++ List.replicate (32 * r2) .j⟩]) (D := D) (fun b hb => ?_) ?_ (Nat.le_refl _) ?_ (fun i p hp => ?_) (by simp) (by simp) (by simp) rfl (fun i cc hi => ?_) (fun cc hcc M => ?_) ?_ ?_
    · rw [List.mem_singleton] at hb; subst hb; exact stL_bs _ _
    · exact ⟨_, rfl⟩
    · rfl
    · rw [show 8 + i = i + 1 + 1 + 1 + 1 + 1 + 1 + 1 + 1 by omega]
      exact partB_get0 hp
    · match i, hi with
      | 0, hi => cases hi; exact ⟨rfl, fun σ => renL_room _ _ _⟩
    · rw [List.mem_singleton] at hcc; subst hcc; exact okL_room _ _ _
    · simp [fbR, leTm, leV, V.ren, V.renL, List.range_succ, renL_cip, renL_bs]
    · simp [fbR, okL, okV, okL_cip, okL_bs] <;> omega
  exact ⟨fin, fin⟩
theorem fb_thirteen (hc : l.length ≤ c) (hm : l.length ≤ 4096) (hq : okS l q) {x : FB} (hx : x.ok) (hx2 : x.k ≤ 999) : kFrom cx_DrawFirstBroken Tryz.f16 [4, 6, 13, 15] 13 (fun v hp => ∃ v' hp' σ, Ret [⟨false, bs l⟩] FB.ok fbR v' hp' ∧ LeS 1 σ [v] hp [v'] hp') (fbS l c x) (fbH l c q x) := by
  obtain ⟨z, n, b, A, pl, key, D, r, T, k, r2⟩ := x
  have hx0 := hx
  obtain ⟨hb, hA, hp, hk, hD, hL, hT, hkn⟩ := hx
  simp only at hb hA hp hk hD hL hT hkn hx2
  simp only [kFrom, kFromK, kAt, Go.Vc.mark, lawPost, List.contains_cons, List.contains_nil, Nat.reduceBEq, Bool.or_false, Bool.false_or, Bool.true_or, Bool.or_true, Bool.false_eq_true, if_true, if_false, Nat.reduceAdd, Nat.reduceEqDiff, reduceCtorEq, Tryz.f16]
  simp only [CX_DrawFirstBroken, SPV, lawPost, ↓VC2, ZP, VP, TT, Nat.reduceEqDiff, reduceCtorEq, Nat.reduceAdd, Nat.reduceSub, Nat.reduceLT, Nat.reduceMul, Nat.reducePow, Nat.reduceLeDiff, Int.reduceToNat, Int.reduceLE, Int.reduceLT, Int.reducePow, fbS, fbH, hk, cipC_len hb hA hp, ↓cip_all hb hA hp]
  refine kCall_M (d_next hc hm hq 20) (by rfl) [(3, 0), (0, 0)] (by simp [CALL, SCB, SD, nsv, instL_cip, okL_cip]) (by simp [CALL, SCB, SD, nsv, instL_cip, okL_cip]) (by simp) (by simp [CALL, SCB, SD, nsv, instL_cip, okL_cip]) (by simp [okL_bs, okL_room, okL, okV, SD, nsv, instL_cip, okL_cip]) (by intro x _; simp [keepR, bs_length, SD, nsv, instL_cip, okL_cip]) (by simp [CALL, SCB, SD, nsv, instL_cip, okL_cip]) fun x1 h1 => ?_
  simp (config := { maxSteps := 2000000 }) only [CALL, ↓VC2, ZP, VP, TT, Nat.reduceEqDiff, reduceCtorEq, Nat.reduceAdd, Nat.reduceSub, Nat.reduceLT, Nat.reduceMul, Nat.reducePow, Nat.reduceLeDiff, Int.reduceToNat, Int.reduceLE, Int.reduceLT, Int.reducePow, GOB, CX_DrawFirstBroken, lawPost, SPV, GD, instL_cip, cipC_len z256 z16 z16, DC.cells, hk, cipC_len hb hA hp, ↓cip_all hb hA hp]
  have hPn := tPs_length D
  have hT' : ∀ X, List.take (k * 32) (bs T ++ X) = bs T := fun X => by rw [List.take_append_of_le_length (by rw [bs_length]; omega), List.take_of_length_le (by rw [bs_length]; omega)]
  obtain ⟨q1, i1⟩ := x1
  obtain ⟨hq1, _⟩ := h1
  simp only at hq1 ⊢
  have fQ0 : ∀ (R : List Blk) (kk : Nat) (p : Prt), (tPs D)[kk]? = some p → (partB true (tPs D) ++ R)[kk]? = some (⟨true, p.cells⟩ : Blk) := fun R kk p hp => partB_get hp
  refine zIf (fun _ => ?_) (fun _ => ?_)
  · have eR : (List.replicate 1 (bs (List.replicate 32 0))).flatten = bs (List.replicate 32 0) := rfl
    have eS : splice (bs (List.replicate 32 0)) 0 (bs (List.replicate 32 0)) = bs (List.replicate 32 0) := splice_all rfl
    have hT8 : List.take 32 (bs (List.replicate 32 0)) = bs (List.replicate 32 0) := List.take_of_length_le (Nat.le_of_eq (by rw [bs_length, List.length_replicate]))
    have gN : ∀ (y : Blk) R, (partB true (tPs D) ++ (y :: R))[D.length]? = some y := fun y R => by
      rw [List.getElem?_append_right (Nat.le_of_eq (by rw [partB_length, hPn])), partB_length, hPn, Nat.sub_self]; rfl
    have gN1 : ∀ (x y : Blk) R, (partB true (tPs D) ++ (x :: y :: R))[D.length + 1]? = some y := fun x y R => by
      rw [List.getElem?_append_right (by rw [partB_length, hPn]; omega), partB_length, hPn, Nat.add_sub_cancel_left]; rfl
    simp only [eR, eS, bs_length, List.length_replicate, Nat.le_refl, if_true, partB_length, hPn, List.append_assoc, List.cons_append, List.nil_append, gN, hT', hT8, bs_append]
    repeat (first | refine ⟨by omega, ?_⟩ | refine ⟨.inr (by omega), ?_⟩ | refine ⟨.inr trivial, ?_⟩)
    intro r1 c' e1 e2
    obtain rfl : r1 = 32 * (c' - (k + 1)) := by omega
    have hx1 : FB.ok ⟨z, n, b, A, pl, key, D, r, T ++ List.replicate 32 0, k + 1, c' - (k + 1)⟩ := ⟨hb, hA, hp, hk, hD, hL, by simp [hT]; omega, by simp only; omega⟩
    refine kMeet (fb_fifteen (l := l) (c := c) (q := q1) hx1) (by kernel_rfl) ⟨_, LeS_fb (o := 4) (g5 := D.length + 9) (g6 := 6) (g7 := 7) (b0 := 8) ⟨_, rfl⟩ rfl (fun kk p hp => ?_) ?_ rfl rfl ?_ ?_ (by omega) ?_ ?_⟩
    · rw [show 8 + kk = kk + 1 + 1 + 1 + 1 + 1 + 1 + 1 + 1 by omega]
      exact partB_get hp
    · exact gN1 _ _ _
    · simp
    · simp; omega
    · simp [fbS, leTm, leV, V.ren, SPL]
      omega
    · simp [fbS, okL, okV, okL_app, okL_rep] <;> omega
  · refine kMeet (fb_fifteen (l := l) (c := c) (q := q1) hx0) (by kernel_rfl) ⟨_, LeS_fb (o := 4) (g5 := 5) (g6 := 6) (g7 := 7) (b0 := 8) ⟨_, rfl⟩ rfl (fun kk p hp => ?_) rfl rfl rfl (by simp) (by simp) (by omega) ?_ ?_⟩
    · rw [show 8 + kk = kk + 1 + 1 + 1 + 1 + 1 + 1 + 1 + 1 by omega]
      exact partB_get0 hp
    · simp [fbS, leTm, leV, V.ren, SPL]
    · simp [fbS, okL, okV, okL_app, okL_rep] <;> omega
theorem fb_six (hc : l.length ≤ c) (hm : l.length ≤ 4096) (hq : okS l q) {x : FB} (hx : x.ok) (hx2 : x.k ≤ 999) : kFrom cx_DrawFirstBroken Tryz.f16 [4, 6, 13, 15] 6 (fun v hp => ∃ v' hp' σ, Ret [⟨false, bs l⟩] FB.ok fbR v' hp' ∧ LeS 1 σ [v] hp [v'] hp') (fbS l c x) (fbH l c q x) := by
  obtain ⟨z, n, b, A, pl, key, D, r, T, k, r2⟩ := x
  have hx0 := hx
  obtain ⟨hb, hA, hp, hk, hD, hL, hT, hkn⟩ := hx
  simp only at hb hA hp hk hD hL hT hkn hx2
  have hPn := tPs_length D
  simp only [kFrom, kFromK, kAt, Go.Vc.mark, lawPost, List.contains_cons, List.contains_nil, Nat.reduceBEq, Bool.or_false, Bool.false_or, Bool.true_or, Bool.or_true, Bool.false_eq_true, if_true, if_false, Nat.reduceAdd, Nat.reduceEqDiff, reduceCtorEq, Tryz.f16]
  simp only [CX_DrawFirstBroken, SPV, lawPost, ↓VC2, ZP, VP, TT, Nat.reduceEqDiff, reduceCtorEq, Nat.reduceAdd, Nat.reduceSub, Nat.reduceLT, Nat.reduceMul, Nat.reducePow, Nat.reduceLeDiff, Int.reduceToNat, Int.reduceLE, Int.reduceLT, Int.reducePow, fbS, fbH, hk, cipC_len hb hA hp, ↓cip_all hb hA hp]
  refine kCall_M (d_next hc hm hq 4) (by rfl) [(3, 0), (0, 0)] (by simp [CALL, SCB, SD, nsv, instL_cip, okL_cip]) (by simp [CALL, SCB, SD, nsv, instL_cip, okL_cip]) (by simp) (by simp [CALL, SCB, SD, nsv, instL_cip, okL_cip]) (by simp [okL_bs, okL_room, okL, okV, SD, nsv, instL_cip, okL_cip]) (by intro x _; simp [keepR, bs_length, SD, nsv, instL_cip, okL_cip]) (by simp [CALL, SCB, SD, nsv, instL_cip, okL_cip]) fun x1 h1 => ?_
  obtain ⟨q1, i1⟩ := x1
  obtain ⟨hq1, _⟩ := h1
  simp only at hq1 ⊢
  simp (config := { maxSteps := 2000000 }) only [CALL, ↓VC2, ZP, VP, TT, Nat.reduceEqDiff, reduceCtorEq, Nat.reduceAdd, Nat.reduceSub, Nat.reduceLT, Nat.reduceMul, Nat.reducePow, Nat.reduceLeDiff, Int.reduceToNat, Int.reduceLE, Int.reduceLT, Int.reducePow, GOB, CX_DrawFirstBroken, lawPost, SPV, GD, instL_cip, cipC_len z256 z16 z16, DC.cells]
  have same : ∀ (q' : Nat × Nat) (T' : List UInt8) (tm : List V), leTm (0 :: 1 :: 2 :: 3 :: 4 :: 5 :: 6 :: 7 :: List.range' 8 D.length) tm (fbS l c ⟨z, n, b, A, pl, key, D, r, T', k, r2⟩) → ∃ σ, LeS 1 σ tm (fbH l c q' ⟨z, n, b, A, pl, key, D, r, T', k, r2⟩) (fbS l c ⟨z, n, b, A, pl, key, D, r, T', k, r2⟩) (fbH l c q' ⟨z, n, b, A, pl, key, D, r, T', k, r2⟩) := fun q' T' tm ht => by
    refine ⟨_, LeS_fb (o := 4) (g5 := 5) (g6 := 6) (g7 := 7) (b0 := 8) ⟨_, rfl⟩ rfl (fun kk p hp => ?_) rfl rfl rfl (by simp) (by simp) (by omega) ht ?_⟩
    · rw [show 8 + kk = kk + 1 + 1 + 1 + 1 + 1 + 1 + 1 + 1 by omega]
      exact partB_get0 hp
    · simp [fbS, okL, okV, okL_app, okL_rep] <;> omega
  refine zIf (fun _ => ?_) (fun _ => zIf (fun _ => ?_) (fun _ => ?_))
  · rcases Nat.eq_zero_or_pos k with h0 | h0
    · subst h0
      simp (config := { maxSteps := 2000000 }) only [CALL, ↓VC2, ZP, VP, TT, Nat.reduceEqDiff, reduceCtorEq, Nat.reduceAdd, Nat.reduceSub, Nat.reduceLT, Nat.reduceMul, Nat.reducePow, Nat.reduceLeDiff, Int.reduceToNat, Int.reduceLE, Int.reduceLT, Int.reducePow, GOB, CX_DrawFirstBroken, lawPost, SPV, GD, instL_cip, cipC_len z256 z16 z16, DC.cells, (eq_false (by omega) : (((0 : Nat) : Int) > 0) = False), decide_false]
      exact kMeet (fb_thirteen (l := l) (c := c) (q := q1) hc hm hq1 hx0 hx2) (by kernel_rfl) (same _ _ _ (by simp [fbS, leTm, leV, V.ren, SPL]))
    · simp (config := { maxSteps := 2000000 }) only [CALL, ↓VC2, ZP, VP, TT, Nat.reduceEqDiff, reduceCtorEq, Nat.reduceAdd, Nat.reduceSub, Nat.reduceLT, Nat.reduceMul, Nat.reducePow, Nat.reduceLeDiff, Int.reduceToNat, Int.reduceLE, Int.reduceLT, Int.reducePow, GOB, CX_DrawFirstBroken, lawPost, SPV, GD, instL_cip, cipC_len z256 z16 z16, DC.cells, (eq_true (by omega) : ((k : Int) > 0) = True), decide_true]
      refine kCall_M (d_next hc hm hq1 (k : Int)) (by rfl) [(3, 0), (0, 0)] (by simp [CALL, SCB, SD, nsv, instL_cip, okL_cip]) (by simp [CALL, SCB, SD, nsv, instL_cip, okL_cip]) (by simp) (by simp [CALL, SCB, SD, nsv, instL_cip, okL_cip]) (by simp [okL_bs, okL_room, okL, okV, SD, nsv, instL_cip, okL_cip]) (by intro x _; simp [keepR, bs_length, SD, nsv, instL_cip, okL_cip]) (by simp [CALL, SCB, SD, nsv, instL_cip, okL_cip]) fun x2 h2 => ?_
      obtain ⟨q2, i2⟩ := x2
      obtain ⟨hq2, a1, a2, _⟩ := h2
      simp only at hq2 a1 a2 ⊢
      have a2 := a2 (by omega)
      obtain ⟨j, rfl⟩ : ∃ j : Nat, i2 = j := ⟨i2.toNat, by omega⟩
      have hj : j < k := by omega
      simp (config := { maxSteps := 2000000 }) only [CALL, ↓VC2, ZP, VP, TT, Nat.reduceEqDiff, reduceCtorEq, Nat.reduceAdd, Nat.reduceSub, Nat.reduceLT, Nat.reduceMul, Nat.reducePow, Nat.reduceLeDiff, Int.reduceToNat, Int.reduceLE, Int.reduceLT, Int.reducePow, GOB, CX_DrawFirstBroken, lawPost, SPV, GD, instL_cip, cipC_len z256 z16 z16, DC.cells]
      refine kCall_M (d_digest hc hm hq2) (by rfl) [(3, 0), (0, 0)] (by simp [CALL, SCB, SD, nsv, instL_cip, okL_cip]) (by simp [CALL, SCB, SD, nsv, instL_cip, okL_cip]) (by simp) (by simp [CALL, SCB, SD, nsv, instL_cip, okL_cip]) (by simp [okL_bs, okL_room, okL, okV, SD, nsv, instL_cip, okL_cip]) (by intro x _; simp [keepR, bs_length, SD, nsv, instL_cip, okL_cip]) (by simp [CALL, SCB, SD, nsv, instL_cip, okL_cip]) fun x3 h3 => ?_
      obtain ⟨q3, w⟩ := x3
      obtain ⟨hq3, hw⟩ := h3
      simp only at hq3 hw ⊢
      simp (config := { maxSteps := 2000000 }) only [CALL, ↓VC2, ZP, VP, TT, Nat.reduceEqDiff, reduceCtorEq, Nat.reduceAdd, Nat.reduceSub, Nat.reduceLT, Nat.reduceMul, Nat.reducePow, Nat.reduceLeDiff, Int.reduceToNat, Int.reduceLE, Int.reduceLT, Int.reducePow, GOB, CX_DrawFirstBroken, lawPost, SPV, GD, instL_cip, cipC_len z256 z16 z16, DC.cells, Int.toNat_natCast, hw]
      rw [vPut_appL (by rw [bs_length, bs_length, hw]; omega), vPut_bss]
      refine ⟨by omega, by omega, ?_⟩
      have hx3 : FB.ok ⟨z, n, b, A, pl, key, D, r, splB T (j * 32) w, k, r2⟩ := ⟨hb, hA, hp, hk, hD, hL, by simp only; rw [splB_length (by omega)]; exact hT, hkn⟩
      exact kMeet (fb_thirteen (l := l) (c := c) (q := q3) hc hm hq3 hx3 hx2) (by kernel_rfl) (same _ _ _ (by simp [fbS, leTm, leV, V.ren, SPL]))
  · rcases Nat.eq_zero_or_pos D.length with h0 | h0
    · simp (config := { maxSteps := 2000000 }) only [CALL, ↓VC2, ZP, VP, TT, Nat.reduceEqDiff, reduceCtorEq, Nat.reduceAdd, Nat.reduceSub, Nat.reduceLT, Nat.reduceMul, Nat.reducePow, Nat.reduceLeDiff, Int.reduceToNat, Int.reduceLE, Int.reduceLT, Int.reducePow, GOB, CX_DrawFirstBroken, lawPost, SPV, GD, instL_cip, cipC_len z256 z16 z16, DC.cells, (eq_false (by omega) : ((D.length : Int) > 0) = False), decide_false]
      exact kMeet (fb_thirteen (l := l) (c := c) (q := q1) hc hm hq1 hx0 hx2) (by kernel_rfl) (same _ _ _ (by simp [fbS, leTm, leV, V.ren, SPL]))
    · simp (config := { maxSteps := 2000000 }) only [CALL, ↓VC2, ZP, VP, TT, Nat.reduceEqDiff, reduceCtorEq, Nat.reduceAdd, Nat.reduceSub, Nat.reduceLT, Nat.reduceMul, Nat.reducePow, Nat.reduceLeDiff, Int.reduceToNat, Int.reduceLE, Int.reduceLT, Int.reducePow, GOB, CX_DrawFirstBroken, lawPost, SPV, GD, instL_cip, cipC_len z256 z16 z16, DC.cells, (eq_true (by omega) : ((D.length : Int) > 0) = True), decide_true]
      refine kCall_M (d_next hc hm hq1 (D.length : Int)) (by rfl) [(3, 0), (0, 0)] (by simp [CALL, SCB, SD, nsv, instL_cip, okL_cip]) (by simp [CALL, SCB, SD, nsv, instL_cip, okL_cip]) (by simp) (by simp [CALL, SCB, SD, nsv, instL_cip, okL_cip]) (by simp [okL_bs, okL_room, okL, okV, SD, nsv, instL_cip, okL_cip]) (by intro x _; simp [keepR, bs_length, SD, nsv, instL_cip, okL_cip]) (by simp [CALL, SCB, SD, nsv, instL_cip, okL_cip]) fun x2 h2 => ?_
      obtain ⟨q2, i2⟩ := x2
      obtain ⟨hq2, a1, a2, _⟩ := h2
      simp only at hq2 a1 a2 ⊢
      have a2 := a2 (by omega)
      obtain ⟨j, rfl⟩ : ∃ j : Nat, i2 = j := ⟨i2.toNat, by omega⟩
      have hj : j < D.length := by omega
      simp (config := { maxSteps := 2000000 }) only [CALL, ↓VC2, ZP, VP, TT, Nat.reduceEqDiff, reduceCtorEq, Nat.reduceAdd, Nat.reduceSub, Nat.reduceLT, Nat.reduceMul, Nat.reducePow, Nat.reduceLeDiff, Int.reduceToNat, Int.reduceLE, Int.reduceLT, Int.reducePow, GOB, CX_DrawFirstBroken, lawPost, SPV, GD, instL_cip, cipC_len z256 z16 z16, DC.cells]
      refine kCall_M (z_bytes hc hm hq2 20 (by omega)) (by rfl) [(3, 0), (0, 0)] (by simp [CALL, SCB, SD, nsv, instL_cip, okL_cip]) (by simp [CALL, SCB, SD, nsv, instL_cip, okL_cip]) (by simp) (by simp [CALL, SCB, SD, nsv, instL_cip, okL_cip]) (by simp [okL_bs, okL_room, okL, okV, SD, nsv, instL_cip, okL_cip]) (by intro x _; simp [keepR, bs_length, SD, nsv, instL_cip, okL_cip]) (by simp [CALL, SCB, SD, nsv, instL_cip, okL_cip]) fun x3 h3 => ?_
      obtain ⟨q3, W, rW⟩ := x3
      obtain ⟨hq3, hW⟩ := h3
      simp only at hq3 hW ⊢
      simp (config := { maxSteps := 2000000 }) only [CALL, ↓VC2, ZP, VP, TT, Nat.reduceEqDiff, reduceCtorEq, Nat.reduceAdd, Nat.reduceSub, Nat.reduceLT, Nat.reduceMul, Nat.reducePow, Nat.reduceLeDiff, Int.reduceToNat, Int.reduceLE, Int.reduceLT, Int.reducePow, GOB, CX_DrawFirstBroken, lawPost, SPV, GD, instL_cip, cipC_len z256 z16 z16, DC.cells, Int.toNat_natCast, partB_length, hPn]
      rw [vPut_appL (by rw [ptrV_length, hPn]; simp; omega), vPut_one (by rw [ptrV_length, hPn]; exact hj)]
      refine ⟨by omega, ?_⟩
      obtain ⟨D1, d, D2, eD, hj1⟩ := splitD hj
      have hN : D.length = D1.length + (1 + D2.length) := by rw [eD, List.length_append, List.length_cons]; omega
      have hl2 : (D1 ++ (W, rW) :: D2).length = D.length := by rw [hN, List.length_append, List.length_cons]; omega
      have hx3 : FB.ok ⟨z, n, b, A, pl, key, D1 ++ (W, rW) :: D2, r, T, k, r2⟩ := ⟨hb, hA, hp, hk, by simp only; rw [hl2]; exact hD, fun p hp => by
        rcases List.mem_append.1 hp with h | h
        · exact hL p (by rw [eD]; exact List.mem_append_left _ h)
        · rcases List.mem_cons.1 h with rfl | h
          · exact hW
          · exact hL p (by rw [eD]; exact List.mem_append_right _ (List.mem_cons_of_mem _ h)), hT, hkn⟩
      have key3 := fun tm ht ho => LeS_fbS (l := l) (c := c) (q := q3) (z := z) (n := n) (b := b) (A := A) (pl := pl) (key := key) (T := T) (W := W) (D1 := D1) (D2 := D2) (d := d) (r := r) (k := k) (r2 := r2) (rW := rW) (N := D.length) (tm := tm) (tm' := fbS l c ⟨z, n, b, A, pl, key, D1 ++ (W, rW) :: D2, r, T, k, r2⟩) hN ht ho
      rw [← eD, hj1] at key3
      refine kMeet (fb_thirteen (l := l) (c := c) (q := q3) hc hm hq3 hx3 hx2) (by kernel_rfl) ⟨_, key3 _ ?_ ?_⟩
      · simp [fbS, leTm, leV, V.ren, SPL]
        omega
      · simp [fbS, okL, okV, okL_app, okL_rep] <;> omega
  · exact kMeet (fb_thirteen (l := l) (c := c) (q := q1) hc hm hq1 hx0 hx2) (by kernel_rfl) (same _ _ _ (by simp [fbS, leTm, leV, V.ren, SPL]))
theorem fb_four (hc : l.length ≤ c) (hm : l.length ≤ 4096) (hq : okS l q) {z n : Int} {b A pl key : List UInt8} {D : List (List UInt8 × Nat)} {r r2 : Nat} (hx : FB.ok ⟨z, n, b, A, pl, key, D, r, [], 0, r2⟩) : kFrom cx_DrawFirstBroken Tryz.f16 [4, 6, 13, 15] 4 (fun v hp => ∃ v' hp' σ, Ret [⟨false, bs l⟩] FB.ok fbR v' hp' ∧ LeS 1 σ [v] hp [v'] hp') (fbS l c ⟨z, n, b, A, pl, key, D, r, [], 0, r2⟩) (fbH l c q ⟨z, n, b, A, pl, key, D, r, [], 0, r2⟩) := by
  have hx0 := hx
  obtain ⟨hb, hA, hp, hk, hD, hL, hT, hkn⟩ := hx
  simp only at hb hA hp hk hD hL hT hkn
  have hPn := tPs_length D
  have hRn := rmD_length D
  simp only [kFrom, kFromK, kAt, Go.Vc.mark, lawPost, List.contains_cons, List.contains_nil, Nat.reduceBEq, Bool.or_false, Bool.false_or, Bool.true_or, Bool.or_true, Bool.false_eq_true, if_true, if_false, Nat.reduceAdd, Nat.reduceEqDiff, reduceCtorEq, Tryz.f16]
  simp only [CX_DrawFirstBroken, SPV, lawPost, ↓VC2, ZP, VP, TT, Nat.reduceEqDiff, reduceCtorEq, Nat.reduceAdd, Nat.reduceSub, Nat.reduceLT, Nat.reduceMul, Nat.reducePow, Nat.reduceLeDiff, Int.reduceToNat, Int.reduceLE, Int.reduceLT, Int.reducePow, fbS, fbH, hk, cipC_len hb hA hp, ↓cip_all hb hA hp]
  obtain ⟨hp0, e0⟩ : ∃ hp0 : List Blk, hp0 = fbH l c q ⟨z, n, b, A, pl, key, D, r, [], 0, r2⟩ := ⟨_, rfl⟩
  have f4 : hp0[4]? = some ⟨true, ptrV 8 (tPs D) ++ List.replicate r .j⟩ := by rw [e0]; rfl
  have fP : ∀ (kk : Nat) (p : Prt), (tPs D)[kk]? = some p → hp0[8 + kk]? = some (⟨true, p.cells⟩ : Blk) := fun kk p hp => by
    rw [e0, show 8 + kk = kk + 1 + 1 + 1 + 1 + 1 + 1 + 1 + 1 by omega]
    exact partB_get0 hp
  have nA := nAt_t f4 fP
  have C1 := c_spec_l08Lists z n b A pl hb hA hp (rmD D) (D.length + r) (by rw [hRn]; omega) (fun p hp => by have := (rmD_ok hL p hp).2; omega)
  rw [hRn] at C1
  rw [show (⟨false, bs l⟩ : Blk) :: _ = hp0 from e0.symm]
  refine kCall_val C1 (by rfl) ((4, 0) :: rng 8 D.length) (by simp [CALL, instL_cip]) (seg_t nA) (by simp [okL, okV, okL_cip]) (okB_nest (by simp [partB_length, bPs_length, hRn])) ?_
  by_cases hE : lstE z b A pl n (rmD D) = 0
  · rw [hE, e0]
    simp (config := { maxSteps := 2000000 }) only [CALL, ↓VC2, ZP, VP, TT, Nat.reduceEqDiff, reduceCtorEq, Nat.reduceAdd, Nat.reduceSub, Nat.reduceLT, Nat.reduceMul, Nat.reducePow, Nat.reduceLeDiff, Int.reduceToNat, Int.reduceLE, Int.reduceLT, Int.reducePow, GOB, CX_DrawFirstBroken, lawPost, SPV, GD, instL_cip, cipC_len z256 z16 z16, DC.cells, beq_self_eq_true, hk, cipC_len hb hA hp, ↓cip_all hb hA hp]
    have hB : cipB z b A pl n = true ∧ D.length ≤ 20 ∧ bigB (rmD D) = false := by
      unfold lstE at hE
      split at hE
      · rename_i h1
        split at hE
        · cases hE
        · rename_i h2
          rw [hRn] at h2
          exact ⟨h1, by omega, by cases hb : bigB (rmD D) with | false => rfl | true => exact absurd (.inr hb) h2⟩
      · cases hE
    obtain ⟨hB, h20, _⟩ := hB
    obtain ⟨k, rfl, rfl, rfl, rfl, rfl⟩ := cip_of hb hA hp hB
    have C2 := k_spec_chain k key hk (rmD D) (D.length + r) (by rw [hRn]; exact h20) (fun p hp => ⟨(rmD_ok hL p hp).1, by have := (rmD_ok hL p hp).2; omega⟩)
    rw [hRn] at C2
    have hTl := tgL_len (c := k) (key := key) (D := rmD D) D.length
    generalize tgL k key (rmD D) D.length = T at *
    unfold Cip.cells at C2
    rw [← e0]
    refine kCall_Ret C2 (by rfl) ((4, 0) :: rng 8 D.length) (by simp [CALL, instL_cip, instL_bs]) (seg_t nA) (by simp [okL, okV, okL_cip, okL_bs]) (okB_nest (by simp [partB_length, bPs_length, hRn])) (by simp [okL_room]) fun r3 _ => ?_
    have hlen : hp0.length = 8 + D.length := by rw [e0]; simp [partB_length, hPn]; omega
    have f5 : ∀ y : Blk, (hp0 ++ [y])[8 + D.length]? = some y := fun y => by rw [← hlen]; exact at_app rfl
    simp (config := { maxSteps := 2000000 }) only [CALL, ↓VC2, ZP, VP, TT, Nat.reduceEqDiff, reduceCtorEq, Nat.reduceAdd, Nat.reduceSub, Nat.reduceLT, Nat.reduceMul, Nat.reducePow, Nat.reduceLeDiff, Int.reduceToNat, Int.reduceLE, Int.reduceLT, Int.reducePow, GOB, CX_DrawFirstBroken, lawPost, SPV, GD, instL_cip, cipC_len z256 z16 z16, DC.cells, rng_length, rng_end, instL_room, hlen]
    have hx3 : FB.ok ⟨(k.m : Int), (k.n : Int), k.box, k.A, k.pl, key, D, r, T, D.length, r3⟩ := ⟨hb, hA, hp, hk, hD, hL, hTl, by simp only; omega⟩
    have at' : ∀ {h : Nat} {x : Blk} (R : List Blk), hp0[h]? = some x → (hp0 ++ R)[h]? = some x := fun R e => Ext.get ⟨R, rfl⟩ e
    refine kMeet (fb_six (l := l) (c := c) (q := q) hc hm hq hx3 (by simp only; omega)) (by kernel_rfl) ⟨_, LeS_fb (o := 4) (g5 := 8 + D.length) (g6 := 6) (g7 := 7) (b0 := 8) (by rw [e0]; exact ⟨_, rfl⟩) (at' _ f4) (fun kk p hp => at' _ (fP kk p hp)) (f5 _) (at' _ (by rw [e0]; rfl)) (at' _ (by rw [e0]; rfl)) (by simp; omega) (by simp; omega) (by omega) ?_ ?_⟩
    · simp [fbS, leTm, leV, V.ren, SPL]
      try omega
    · simp [fbS, okL, okV, okL_app, okL_rep] <;> omega
  · have f0 : (lstE z b A pl n (rmD D) == 0) = false := beq_eq_false_iff_ne.2 hE
    rw [e0]
    simp (config := { maxSteps := 2000000 }) only [CALL, ↓VC2, ZP, VP, TT, Nat.reduceEqDiff, reduceCtorEq, Nat.reduceAdd, Nat.reduceSub, Nat.reduceLT, Nat.reduceMul, Nat.reducePow, Nat.reduceLeDiff, Int.reduceToNat, Int.reduceLE, Int.reduceLT, Int.reducePow, GOB, CX_DrawFirstBroken, lawPost, SPV, GD, instL_cip, cipC_len z256 z16 z16, DC.cells, f0]
    refine kMeet (fb_six (l := l) (c := c) (q := q) hc hm hq hx0 (by simp)) (by kernel_rfl) ⟨_, LeS_fb (o := 4) (g5 := 5) (g6 := 6) (g7 := 7) (b0 := 8) ⟨_, rfl⟩ rfl (fun kk p hp => ?_) rfl rfl rfl (by simp) (by simp) (by omega) ?_ ?_⟩
    · rw [show 8 + kk = kk + 1 + 1 + 1 + 1 + 1 + 1 + 1 + 1 by omega]
      exact partB_get0 hp
    · simp [fbS, leTm, leV, V.ren, SPL]
    · simp [fbS, okL, okV, okL_app, okL_rep] <;> omega
theorem d_FirstBroken (hc : l.length ≤ c) (hm : l.length ≤ 4096) : LC Tryz.prog 16 [.s 0 0 l.length c] [⟨false, bs l⟩] (Ret [⟨false, bs l⟩] FB.ok fbR) := by
  refine LC_ofM (X := cx_DrawFirstBroken) [4, 6, 13, 15] envOK Tryz.func16 (by kernel_rfl) (ord_two (by kernel_rfl)) rfl (Nat.le_of_ble_eq_true (by kernel_rfl)) ?_
  simp only [kFunM, Go.Vc.mark, List.contains_cons, List.contains_nil, Nat.reduceBEq, Bool.or_false, Bool.false_or, Bool.true_or, Bool.or_true, Bool.false_eq_true, if_true, if_false, Nat.reduceAdd, Nat.reduceEqDiff, Tryz.f16, List.length_nil, List.length_cons, Nat.sub_zero, Nat.reduceSub, List.nil_append, List.cons_append]
  simp only [CX_DrawFirstBroken, SPV, ↓VC2, ZP, VP, TT, Nat.reduceEqDiff, reduceCtorEq, Nat.reduceAdd, Nat.reduceSub, Nat.reduceLT, Nat.reduceMul, Nat.reducePow, Nat.reduceLeDiff, Int.reduceToNat, Int.reduceLE, Int.reduceLT, Int.reducePow, cip_build, cipC_len z256 z16 z16]
  refine kCall_Ret (d_from hc hm) (by rfl) [(0, 0)] (by simp [CALL, SCB, SD, nsv, instL_cip, okL_cip]) (by simp [CALL, SCB, SD, nsv, instL_cip, okL_cip]) (by simp [CALL, SCB, SD, nsv, instL_cip, okL_cip]) (by simp [okL_bs, okL_room, okL, okV, SD, nsv, instL_cip, okL_cip]) (by simp [CALL, SCB, SD, nsv, instL_cip, okL_cip]) fun q hq => ?_
  simp (config := { maxSteps := 2000000 }) only [CALL, ↓VC2, ZP, VP, TT, Nat.reduceEqDiff, reduceCtorEq, Nat.reduceAdd, Nat.reduceSub, Nat.reduceLT, Nat.reduceMul, Nat.reducePow, Nat.reduceLeDiff, Int.reduceToNat, Int.reduceLE, Int.reduceLT, Int.reducePow, GOB, CX_DrawFirstBroken, lawPost, SPV, GD, instL_cip, cipC_len z256 z16 z16, DC.cells]
  refine kCall_M (d_dcipher hc hm hq) (by rfl) [(3, 0), (0, 0)] (by simp [CALL, SCB, SD, nsv, instL_cip, okL_cip]) (by simp [CALL, SCB, SD, nsv, instL_cip, okL_cip]) (by simp) (by simp [CALL, SCB, SD, nsv, instL_cip, okL_cip]) (by simp [okL_bs, okL_room, okL, okV, SD, nsv, instL_cip, okL_cip]) (by intro x _; simp [keepR, bs_length, SD, nsv, instL_cip, okL_cip]) (by simp [CALL, SCB, SD, nsv, instL_cip, okL_cip]) fun x1 h1 => ?_
  obtain ⟨q1, ⟨z, b, A, pl, n⟩⟩ := x1
  obtain ⟨hq1, ⟨hb, hA, hp⟩⟩ := h1
  simp only [DC.cells] at hq1 hb hA hp ⊢
  simp (config := { maxSteps := 2000000 }) only [CALL, ↓VC2, ZP, VP, TT, Nat.reduceEqDiff, reduceCtorEq, Nat.reduceAdd, Nat.reduceSub, Nat.reduceLT, Nat.reduceMul, Nat.reducePow, Nat.reduceLeDiff, Int.reduceToNat, Int.reduceLE, Int.reduceLT, Int.reducePow, GOB, CX_DrawFirstBroken, lawPost, SPV, GD, instL_cip, cipC_len z256 z16 z16, DC.cells, cipC_len hb hA hp]
  refine kCall_M (z_block hc hm hq1) (by rfl) [(3, 0), (0, 0)] (by simp [CALL, SCB, SD, nsv, instL_cip, okL_cip]) (by simp [CALL, SCB, SD, nsv, instL_cip, okL_cip]) (by simp) (by simp [CALL, SCB, SD, nsv, instL_cip, okL_cip]) (by simp [okL_bs, okL_room, okL, okV, SD, nsv, instL_cip, okL_cip]) (by intro x _; simp [keepR, bs_length, SD, nsv, instL_cip, okL_cip]) (by simp [CALL, SCB, SD, nsv, instL_cip, okL_cip]) fun x2 h2 => ?_
  obtain ⟨q2, key⟩ := x2
  obtain ⟨hq2, hk⟩ := h2
  simp only at hq2 hk ⊢
  simp (config := { maxSteps := 2000000 }) only [CALL, ↓VC2, ZP, VP, TT, Nat.reduceEqDiff, reduceCtorEq, Nat.reduceAdd, Nat.reduceSub, Nat.reduceLT, Nat.reduceMul, Nat.reducePow, Nat.reduceLeDiff, Int.reduceToNat, Int.reduceLE, Int.reduceLT, Int.reducePow, GOB, CX_DrawFirstBroken, lawPost, SPV, GD, instL_cip, cipC_len z256 z16 z16, DC.cells, hk]
  refine kCall_M (d_list hc hm hq2) (by rfl) [(3, 0), (0, 0)] (by simp [CALL, SCB, SD, nsv, instL_cip, okL_cip]) (by simp [CALL, SCB, SD, nsv, instL_cip, okL_cip]) (by simp) (by simp [CALL, SCB, SD, nsv, instL_cip, okL_cip]) (by simp [okL_bs, okL_room, okL, okV, SD, nsv, instL_cip, okL_cip]) (by intro x _; simp [keepR, bs_length, SD, nsv, instL_cip, okL_cip]) (fun _ => newT_own) fun x3 h3 => ?_
  obtain ⟨q3, D, r⟩ := x3
  obtain ⟨hq3, hD, hL⟩ := h3
  simp only at hq3 hD hL ⊢
  rw [inst_newT (sub := [(3, 0), (0, 0)]) (k := 2) rfl]
  have hPn := tPs_length D
  have gA : ∀ (x : Blk) R, (partB true (tPs D) ++ x :: R)[D.length]? = some x := fun x R => by
    rw [List.getElem?_append_right (Nat.le_of_eq (by rw [partB_length, hPn])), partB_length, hPn, Nat.sub_self]; rfl
  have gA1 : ∀ (x y : Blk) R, (partB true (tPs D) ++ x :: y :: R)[D.length + 1]? = some y := fun x y R => by
    rw [List.getElem?_append_right (by rw [partB_length, hPn]; omega), partB_length, hPn, Nat.add_sub_cancel_left]; rfl
  have sA : ∀ (x y : Blk) R, (partB true (tPs D) ++ x :: R).set D.length y = partB true (tPs D) ++ y :: R := fun x y R => by
    rw [List.set_append_right _ _ (Nat.le_of_eq (by rw [partB_length, hPn])), partB_length, hPn, Nat.sub_self]; rfl
  have sA1 : ∀ (x y z : Blk) R, (partB true (tPs D) ++ x :: y :: R).set (D.length + 1) z = partB true (tPs D) ++ x :: z :: R := fun x y z R => by
    rw [List.set_append_right _ _ (by rw [partB_length, hPn]; omega), partB_length, hPn, Nat.add_sub_cancel_left]; rfl
  simp (config := { maxSteps := 2000000 }) only [CALL, ↓VC2, ZP, VP, TT, Nat.reduceEqDiff, reduceCtorEq, Nat.reduceAdd, Nat.reduceSub, Nat.reduceLT, Nat.reduceMul, Nat.reducePow, Nat.reduceLeDiff, Int.reduceToNat, Int.reduceLE, Int.reduceLT, Int.reducePow, GOB, CX_DrawFirstBroken, lawPost, SPV, GD, instL_cip, cipC_len z256 z16 z16, DC.cells, newT, gA, gA1, sA, sA1, partB_length, hPn, hk, cipC_len hb hA hp, ↓cip_put_all z256 z16 z16 hb hA hp, ↓cip_all hb hA hp, List.append_assoc, List.cons_append, List.nil_append]
  have hx3 : FB.ok ⟨z, n, b, A, pl, key, D, r, [], 0, 0⟩ := ⟨hb, hA, hp, hk, hD, hL, rfl, Nat.zero_le _⟩
  refine kMeet (fb_four (l := l) (c := c) (q := q3) hc hm hq3 hx3) (by kernel_rfl) ⟨_, LeS_fb (o := 4) (g5 := D.length + 7) (g6 := D.length + 5) (g7 := D.length + 6) (b0 := 5) ⟨_, rfl⟩ rfl (fun kk p hp => ?_) ?_ ?_ ?_ (by simp) (by simp; omega) (by omega) ?_ ?_⟩
  · rw [show 5 + kk = kk + 1 + 1 + 1 + 1 + 1 by omega]
    exact partB_get hp
  · show (partB true (tPs D) ++ _)[D.length + 2]? = _
    rw [List.getElem?_append_right (by rw [partB_length, hPn]; omega), partB_length, hPn, Nat.add_sub_cancel_left]
    simp [bs_nil]
  · exact gA _ _
  · exact gA1 _ _ _
  · simp [fbS, leTm, leV, V.ren, SPL]
  · simp [fbS, okL, okV, okL_app, okL_rep] <;> omega
end
end Go.Proofs.YtahnjhppkgndiaaGreat

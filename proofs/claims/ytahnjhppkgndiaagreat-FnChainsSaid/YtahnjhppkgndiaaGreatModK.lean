import Derived.Test.YtahnjhppkgndiaaGreatModG
/- Stealing: the program and the reference encipher. -/
set_option linter.unusedSimpArgs false
set_option linter.unusedVariables false
namespace Go.Proofs.YtahnjhppkgndiaaGreat
open Go Go.Vc
set_option maxRecDepth 10000
set_option maxHeartbeats 4000000
theorem Hd_weak {M : Nat → Prop} {w0 w : World} {ρ : Vc.Loc} {hp : List Blk} {b b' : Blk} (h : Hd M w0 ρ (hp ++ [b]) w) (ho : b'.own = b.own) (hl : b'.cells.length = b.cells.length) (hc : ∀ (j : Nat) (v : V), b'.cells[j]? = some v → v = .j ∨ b.cells[j]? = some v) : Hd M w0 ρ (hp ++ [b']) w := by
  have key : ∀ (g : Nat) (x : Blk), (hp ++ [b'])[g]? = some x → ∃ y : Blk, (hp ++ [b])[g]? = some y ∧ x.own = y.own ∧ x.cells.length = y.cells.length ∧ ∀ (j : Nat) (v : V), x.cells[j]? = some v → v = .j ∨ y.cells[j]? = some v := by
    intro g x hg
    rcases Nat.lt_or_ge g hp.length with h1 | h1
    · rw [List.getElem?_append_left h1] at hg ⊢
      exact ⟨x, hg, rfl, rfl, fun j v hv => .inr hv⟩
    · rw [List.getElem?_append_right h1] at hg ⊢
      rcases Nat.eq_zero_or_pos (g - hp.length) with h2 | h2
      · rw [h2] at hg ⊢
        simp only [List.getElem?_cons_zero, Option.some.injEq] at hg
        subst hg
        exact ⟨b, rfl, ho, hl, hc⟩
      · obtain ⟨k, hk⟩ : ∃ k, g - hp.length = k + 1 := ⟨g - hp.length - 1, by omega⟩
        rw [hk] at hg
        simp at hg
  have ne : ∀ x y : Blk, x.cells.length = y.cells.length → x.cells ≠ [] → y.cells ≠ [] := by
    intro x y hxy hx hy
    rw [hy] at hxy
    exact hx (List.eq_nil_of_length_eq_zero hxy)
  refine ⟨h.keep, ?_, ?_, ?_, ?_⟩
  · intro x hx
    obtain ⟨g, hg⟩ := List.getElem?_of_mem hx
    obtain ⟨y, hy, _, _, hv⟩ := key g x hg
    have := okL_iff.1 (h.ok y (List.mem_of_getElem? hy))
    rw [okL_iff]
    intro v hvm
    obtain ⟨j, hj⟩ := List.getElem?_of_mem hvm
    rcases hv j v hj with rfl | hv2
    · trivial
    · have := this v (List.mem_of_getElem? hv2)
      simpa using this
  · intro g x hg j v hv
    obtain ⟨y, hy, _, hlen, hw⟩ := key g x hg
    have hjl : j < y.cells.length := by rw [← hlen]; exact (List.getElem?_eq_some_iff.1 hv).1
    obtain ⟨z, h1, h2, h3⟩ := h.cell g y hy j (y.cells[j]) (List.getElem?_eq_getElem hjl)
    refine ⟨z, h1, h2, ?_⟩
    rcases hw j v hv with rfl | hw2
    · trivial
    · rw [List.getElem?_eq_getElem hjl] at hw2
      cases hw2
      exact h3
  · intro g x hg hox hne
    obtain ⟨y, hy, ho2, hlen, _⟩ := key g x hg
    have := h.own g y hy (by rw [← ho2]; exact hox) (ne _ _ hlen hne)
    rw [hlen]; exact this
  · intro g x g' x' hg hg' hgg hox hne hne'
    obtain ⟨y, hy, ho2, hlen, _⟩ := key g x hg
    obtain ⟨y', hy', _, hlen', _⟩ := key g' x' hg'
    exact h.sep g y g' y' hy hy' hgg (by rw [← ho2]; exact hox) (ne _ _ hlen hne) (ne _ _ hlen' hne')
/-- What lies behind a slice forgotten. -/
theorem LC_weak {P : Program} {f : FuncId} {args : List V} {ha : List Blk} {α β : Type} {G : α → Prop} {S : α → V × List Blk} {G' : β → Prop} {S' : β → V × List Blk} (h : LC P f args ha (Ret ha G S))
    (hc : ∀ x, G x → ∃ y, G' y ∧ (S x).1 = (S' y).1 ∧ ∃ b b' : Blk, (S x).2 = [b] ∧ (S' y).2 = [b'] ∧ b'.own = b.own ∧ b'.cells.length = b.cells.length ∧ ∀ (j : Nat) (v : V), b'.cells[j]? = some v → v = .j ∨ b.cells[j]? = some v) : LC P f args ha (Ret ha G' S') := by
  refine ⟨h.1, fun w ρ xs hd hr hk => (h.2 w ρ xs hd hr hk).mono fun e w' hR => ?_⟩
  obtain ⟨v, hp', ρ', x, rfl, ⟨a, hGa, rfl, rfl⟩, hd', hlen, hsame, hrel, hok⟩ := hR
  obtain ⟨y, hGy, hv, b, b', hb, hb', ho, hl, hw⟩ := hc a hGa
  rw [hb] at hd' hok
  refine ⟨_, _, ρ', x, rfl, ⟨y, hGy, rfl, rfl⟩, ?_, by simp, hsame, by rw [← hv]; exact hrel, ?_⟩
  · rw [hb']; exact Hd_weak hd' ho hl hw
  · rw [hb', ← hv]; simpa using hok
theorem weak_bs {l T : List UInt8} {r : Nat} (j : Nat) (v : V) (h : (bs l ++ List.replicate (T.length + r) V.j)[j]? = some v) : v = .j ∨ (bs (l ++ T) ++ List.replicate r V.j)[j]? = some v := by
  rcases Nat.lt_or_ge j l.length with h1 | h1
  · rw [List.getElem?_append_left (by rw [bs_length]; exact h1)] at h
    rw [← bs_append, List.append_assoc, List.getElem?_append_left (by rw [bs_length]; exact h1)]
    exact .inr h
  · rw [List.getElem?_append_right (by rw [bs_length]; exact h1)] at h
    exact .inl (List.eq_of_mem_replicate (List.mem_of_getElem? h))
theorem c_CloneP (l : List UInt8) (q : Nat) (hq : l.length ≤ q) (hm : l.length ≤ 4194304) (h0 : 0 < l.length) : LC Tryz.prog 109 [.s 0 0 l.length q] [⟨false, bs l⟩] (Ret [⟨false, bs l⟩] (fun _ : Nat => True) fun r => (.s 1 0 l.length (l.length + r), [⟨true, bs l ++ List.replicate r .j⟩])) := by
  refine LC_nil (c_slices_Clone l q hq hm) fun o ho => ?_
  cases o with
  | none => rw [(ho rfl).1] at h0; simp at h0
  | some r => exact ⟨r, trivial, by simp [nilV], [], by simp, by simp⟩
theorem blkR_put {C B : List UInt8} {i : Nat} {R : List V} {k : List V → Prop} (h : 16 * i + 16 ≤ C.length) (hB : B.length = 16) : vPut (bs C ++ R) (i * 16) (bs B) k = k (bs (splB C (16 * i) B) ++ R) := by
  rw [vPut_appL (by rw [bs_length, bs_length]; omega), vPut_bss, Nat.mul_comm i 16]
  apply propext
  constructor
  · exact fun x => x.2
  · exact fun x => ⟨by omega, x⟩
theorem fillB_app {l : List UInt8} (h : l.length ≤ 16) : fillB l = l ++ List.replicate (16 - l.length) 0 := by
  refine ext_getD (n := 16) (fillB_len _) (by rw [List.length_append, List.length_replicate]; omega) fun i hi => ?_
  rw [fillB_get hi]
  simp only [List.getD_eq_getElem?_getD]
  rcases Nat.lt_or_ge i l.length with h1 | h1
  · rw [List.getElem?_append_left h1]
  · rw [List.getElem?_append_right h1, List.getElem?_eq_none h1, List.getElem?_replicate, if_pos (by omega)]; rfl
theorem parts_zero {l : List UInt8} {m r : Nat} (hl : l.length = 16 * (m + 1) + r) (hr : 1 ≤ r ∧ r ≤ 16) : partsL l (m + 2) = l ++ List.replicate (16 - r) 0 := by
  have h1 : ((l.drop (16 * (m + 1))).take 16) = l.drop (16 * (m + 1)) := List.take_of_length_le (by rw [List.length_drop]; omega)
  rw [show m + 2 = (m + 1) + 1 from rfl, partsL, partsL_take (by omega), h1, fillB_app (by rw [List.length_drop]; omega), ← List.append_assoc, List.take_append_drop, List.length_drop, hl]
  congr 2; omega
def swapL (C : List UInt8) (m : Nat) : List UInt8 := C.take (16 * m) ++ (C.drop (16 * (m + 1))).take 16 ++ (C.drop (16 * m)).take 16
theorem swap_len {C : List UInt8} {m : Nat} (h : C.length = 16 * (m + 2)) : (swapL C m).length = 16 * (m + 2) := by
  unfold swapL; simp only [List.length_append, List.length_take, List.length_drop]; omega
theorem three {C : List UInt8} {m : Nat} (h : C.length = 16 * (m + 2)) : ∃ X B A : List UInt8, C = X ++ (B ++ A) ∧ X.length = 16 * m ∧ B.length = 16 ∧ A.length = 16 := by
  refine ⟨C.take (16 * m), (C.drop (16 * m)).take 16, C.drop (16 * m + 16), ?_, by rw [List.length_take]; omega, by rw [List.length_take, List.length_drop]; omega, by rw [List.length_drop]; omega⟩
  rw [← List.drop_drop, List.take_append_drop, List.take_append_drop]
theorem swap_spl {C : List UInt8} {m : Nat} (h : C.length = 16 * (m + 2)) : splB (splB C (16 * (m + 1)) ((C.drop (16 * m)).take 16)) (16 * m) ((C.drop (16 * (m + 1))).take 16) = swapL C m := by
  obtain ⟨X, B, A, rfl, hX, hB, hA⟩ := three h
  have e1 : List.drop (16 * m) (X ++ (B ++ A)) = B ++ A := List.drop_left' hX
  have e2 : List.drop (16 * (m + 1)) (X ++ (B ++ A)) = A := by rw [← List.append_assoc]; exact List.drop_left' (by rw [List.length_append]; omega)
  have e3 : List.take 16 (B ++ A) = B := List.take_left' hB
  have e4 : List.take 16 A = A := List.take_of_length_le (by omega)
  have e5 : List.take (16 * m) (X ++ (B ++ A)) = X := List.take_left' hX
  have e6 : List.take (16 * (m + 1)) (X ++ (B ++ A)) = X ++ B := by rw [← List.append_assoc]; exact List.take_left' (by rw [List.length_append]; omega)
  have e7 : splB (X ++ (B ++ A)) (16 * (m + 1)) B = X ++ (B ++ B) := by
    unfold splB
    rw [e6, hB, List.drop_eq_nil_of_le (by simp only [List.length_append]; omega), List.append_nil, List.append_assoc]
  unfold swapL
  rw [e1, e2, e3, e4, e5, e7]
  unfold splB
  rw [List.take_left' hX, hA, ← List.append_assoc X B B, List.drop_left' (by rw [List.length_append]; omega)]
def Cip.steal (c : Cip) (key start l : List UInt8) : List UInt8 := (swapL (chnL (c.enc key) start (partsL l ((l.length + 15) / 16)) ((l.length + 15) / 16)) ((l.length + 15) / 16 - 2)).take l.length
end Go.Proofs.YtahnjhppkgndiaaGreat

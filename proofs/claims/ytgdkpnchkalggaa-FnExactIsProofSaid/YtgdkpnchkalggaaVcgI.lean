/- Writing into a block; moving a block to a new handle; rows of zero cells. -/
import Derived.Test.YtgdkpnchkalggaaVcgH
set_option linter.unusedSimpArgs false
set_option linter.unusedVariables false
namespace Go.Vc
open Go
section
variable {P : Program} {E : Env} {t : TypeId} {d : TD} {M : Nat → Prop} {w0 w : World} {ρ ρ' : Loc} {hp : List Blk}

theorem heap_setCells (b : Nat) : ∀ (vs : List Value) (o : Nat) (w : World) (k : Nat), k ≠ b → (w.setCells b o vs).heap[k]? = w.heap[k]?
  | [], _, _, _, _ => rfl
  | v :: r, o, w, k, h => by rw [World.setCells, heap_setCells b r (o + 1) _ k h]; exact RowKit.Below.heap_setCell _ _ _ _ h
theorem size_setCells (b : Nat) : ∀ (vs : List Value) (o : Nat) (w : World), (w.setCells b o vs).heap.size = w.heap.size
  | [], _, _ => rfl
  | v :: r, o, w => by rw [World.setCells, size_setCells b r]; simp
theorem os_setCells (b : Nat) : ∀ (vs : List Value) (o : Nat) (w : World), (w.setCells b o vs).os = w.os ∧ (w.setCells b o vs).tape = w.tape ∧ (w.setCells b o vs).output = w.output
  | [], _, _ => ⟨rfl, rfl, rfl⟩
  | v :: r, o, w => by rw [World.setCells]; exact os_setCells b r (o + 1) _

theorem Keep.setCells {M : Nat → Prop} {b o : Nat} (vs : List Value) (hb : w0.heap.size ≤ b ∨ M b) (h : Keep M w0 w) : Keep M w0 (w.setCells b o vs) := by
  obtain ⟨h1, h2, h3⟩ := os_setCells b vs o w
  refine ⟨h1.trans h.os, h2.trans h.tape, h3.trans h.output, by rw [size_setCells]; exact h.size, fun k hk hm => ?_⟩
  rw [heap_setCells b vs o w k (fun e => by subst e; rcases hb with hb | hb; omega; exact hm hb)]
  exact h.block k hk hm

theorem splice_get {cs vs : List V} {o j : Nat} (h : o + vs.length ≤ cs.length) : (splice cs o vs)[j]? = if j < o then cs[j]? else if j < o + vs.length then vs[j - o]? else cs[j]? := by
  unfold splice
  have ht : (cs.take o).length = o := by simp; omega
  by_cases h1 : j < o
  · rw [if_pos h1, List.append_assoc, List.getElem?_append_left (by omega), List.getElem?_take, if_pos h1]
  · rw [if_neg h1]
    by_cases h2 : j < o + vs.length
    · rw [if_pos h2, List.getElem?_append_left (by simp; omega), List.getElem?_append_right (by omega), ht]
    · rw [if_neg h2, List.getElem?_append_right (by simp; omega), List.getElem?_drop]
      congr 1
      simp; omega
theorem splice_length {cs vs : List V} {o : Nat} (h : o + vs.length ≤ cs.length) : (splice cs o vs).length = cs.length := by
  unfold splice; simp; omega

/-- A write into an own block. -/
theorem Hd.write (h : Hd M w0 ρ hp w) {g : Nat} {b : Blk} (hg : hp[g]? = some b) (ho : b.own = true) {o : Nat} {vs : List V} {xs : List Value} (hr : relL ρ vs xs) (hok : okL hp.length vs) (h1 : ∀ x ∈ xs, x.oneCell' = true)
    (hlen : o + vs.length ≤ b.cells.length) :
    (Go.storeCells ⟨(ρ g).1, (ρ g).2 + o, none⟩ xs).run P w = .ok () (w.setCells (ρ g).1 ((ρ g).2 + o) xs) ∧
    Hd M w0 ρ (hp.set g ⟨true, splice b.cells o vs⟩) (w.setCells (ρ g).1 ((ρ g).2 + o) xs) := by
  have hxl := relL_length hr
  rcases Nat.eq_zero_or_pos vs.length with hz | hz
  · have hv : vs = [] := List.eq_nil_of_length_eq_zero hz
    subst hv
    have hx : xs = [] := List.eq_nil_of_length_eq_zero (by simpa using hxl)
    subst hx
    refine ⟨rfl, ?_⟩
    have hs : splice b.cells o [] = b.cells := by unfold splice; simp
    have hb : (⟨true, splice b.cells o []⟩ : Blk) = b := by rw [hs]; cases b; simp at ho; subst ho; rfl
    rw [hb]
    have : hp.set g b = hp := by
      apply List.ext_getElem?
      intro i
      rw [List.getElem?_set]
      split
      · rename_i e
        subst e
        have := (List.getElem?_eq_some_iff.1 hg).1
        rw [if_pos this]; exact hg.symm
      · rfl
    rw [this]
    exact h
  · have hne : b.cells ≠ [] := fun e => by rw [e] at hlen; simp only [List.length_nil] at hlen; omega
    obtain ⟨hw, hfz⟩ := h.own g b hg ho hne
    have cellAt : ∀ j, j < vs.length → (w.cell? ⟨(ρ g).1, (ρ g).2 + o + j, none⟩).isSome = true := fun j hj => by
      have hlt : o + j < b.cells.length := by omega
      obtain ⟨x, hx, _⟩ := h.cell g b hg (o + j) _ (List.getElem?_eq_getElem hlt)
      rw [Nat.add_assoc, hx]; rfl
    refine ⟨?_, ?_⟩
    · have := run_storeCells_cells (P := P) (ρ g).1 ((ρ g).2 + o) xs 0 w (fun j hj => by simpa using cellAt j (by omega)) (fun j hj => by rw [Nat.add_zero, Nat.add_assoc]; exact hfz _ (by omega)) h1
      simpa using this
    · have hsl := splice_length hlen
      have hlt := (List.getElem?_eq_some_iff.1 hg).1
      refine ⟨h.keep.setCells xs hw, ?_, ?_, ?_, ?_⟩
      · intro b' hb'
        rw [List.length_set]
        rcases List.mem_or_eq_of_mem_set hb' with hb' | rfl
        · exact h.ok b' hb'
        · exact okL_splice (h.ok b (List.mem_of_getElem? hg)) hok o
      · intro g' b' hg' j v hv
        rcases getElem?_set_cases hg' with ⟨rfl, rfl, _⟩ | ⟨hne', hg'⟩
        · simp only at hv
          rw [splice_get hlen] at hv
          by_cases h2 : j < o
          · rw [if_pos h2] at hv
            obtain ⟨x, hx, e1, e2⟩ := h.cell g' b hg j v hv
            exact ⟨x, by rw [World.cell?_setCells_out _ _ _ _ _ (fun _ _ => .inl (by simp; omega))]; exact hx, e1, e2⟩
          · rw [if_neg h2] at hv
            by_cases h3 : j < o + vs.length
            · rw [if_pos h3] at hv
              obtain ⟨x, hx, e2⟩ := relL_get hr hv
              have hxj : j - o < xs.length := (List.getElem?_eq_some_iff.1 hx).1
              refine ⟨x, ?_, h1 x (List.mem_of_getElem? hx), e2⟩
              have := World.cell?_setCells_in (ρ g').1 xs ((ρ g').2 + o) w (fun j hj => cellAt j (by omega)) (j - o) hxj
              rw [show (ρ g').2 + o + (j - o) = (ρ g').2 + j by omega] at this
              rw [this]
              rw [List.getElem?_eq_getElem hxj] at hx
              exact hx
            · rw [if_neg h3] at hv
              obtain ⟨x, hx, e1, e2⟩ := h.cell g' b hg j v hv
              exact ⟨x, by rw [World.cell?_setCells_out _ _ _ _ _ (fun _ _ => .inr (by simp; omega))]; exact hx, e1, e2⟩
        · obtain ⟨x, hx, e1, e2⟩ := h.cell g' b' hg' j v hv
          have hne2 : b'.cells ≠ [] := fun e => by rw [e] at hv; simp at hv
          have hsep := h.sep g b g' b' hg hg' (fun e => hne' e.symm) ho hne hne2
          exact ⟨x, by rw [World.cell?_setCells_out _ _ _ _ _ (fun e _ => absurd e.symm hsep)]; exact hx, e1, e2⟩
      · intro g' b' hg' ho' hne2
        rcases getElem?_set_cases hg' with ⟨rfl, rfl, _⟩ | ⟨hne', hg'⟩
        · refine ⟨hw, fun j hj => ?_⟩
          rw [World.frozen?_setCells]
          simp only at hj
          exact hfz j (by omega)
        · obtain ⟨q1, q2⟩ := h.own g' b' hg' ho' hne2
          exact ⟨q1, fun j hj => by rw [World.frozen?_setCells]; exact q2 j hj⟩
      · intro g1 b1 g2 b2 hg1 hg2 hgg ho1 hne1 hne2
        rcases getElem?_set_cases hg1 with ⟨e1, e2, _⟩ | ⟨hn1, k1⟩
        · subst e1
          rcases getElem?_set_cases hg2 with ⟨e3, _, _⟩ | ⟨hn2, k2⟩
          · exact absurd e3.symm hgg
          · exact h.sep _ b g2 b2 hg k2 hgg ho hne hne2
        · rcases getElem?_set_cases hg2 with ⟨e3, _, _⟩ | ⟨hn2, k2⟩
          · subst e3
            exact h.sep g1 b1 _ b k1 hg hgg ho1 hne1 hne
          · exact h.sep g1 b1 g2 b2 k1 k2 hgg ho1 hne1 hne2

/-- A part of an own block gets a handle of its own; the old handle is dead. -/
theorem Hd.move (h : Hd M w0 ρ hp w) {g : Nat} {b : Blk} (hg : hp[g]? = some b) (ho : b.own = true) {o : Nat} {cs : List V} (hlen : o + cs.length ≤ b.cells.length)
    (hc : ∀ j v, cs[j]? = some v → v = .j ∨ b.cells[o + j]? = some v) :
    Hd M w0 (ρ.upd hp.length ((ρ g).1, (ρ g).2 + o)) (hp.set g ⟨false, []⟩ ++ [⟨true, cs⟩]) w := by
  have hk := h.kill g
  have hL : (hp.set g ⟨false, []⟩).length = hp.length := List.length_set
  have lt_of : ∀ g' b', (hp.set g ⟨false, []⟩)[g']? = some b' → g' < hp.length := fun g' b' hg' => by have := (List.getElem?_eq_some_iff.1 hg').1; omega
  have snoc : ∀ {i : Nat} {y : Blk}, (hp.set g ⟨false, []⟩ ++ [⟨true, cs⟩])[i]? = some y → (hp.set g ⟨false, []⟩)[i]? = some y ∨ (i = hp.length ∧ y = ⟨true, cs⟩) := fun hi => by
    rcases getElem?_snoc hi with h1 | ⟨h1, h2⟩
    · exact .inl h1
    · exact .inr ⟨by omega, h2⟩
  have bok := h.ok b (List.mem_of_getElem? hg)
  refine ⟨h.keep, ?_, ?_, ?_, ?_⟩
  · intro b' hb'
    rcases List.mem_append.1 hb' with hb' | hb'
    · exact okL_mono (by simp) (hk.ok b' hb')
    · simp at hb'; subst hb'
      refine okL_iff.2 fun v hv => ?_
      obtain ⟨j, hj, rfl⟩ := List.mem_iff_getElem.1 hv
      rcases hc j cs[j] (List.getElem?_eq_getElem hj) with e | e
      · rw [e]; trivial
      · exact okV_mono (by simp) (okL_get bok e)
  · intro g' b' hg' j v hv
    rcases snoc hg' with hg' | ⟨rfl, rfl⟩
    · rw [Loc.upd_lt ρ _ g' (lt_of g' b' hg')]
      obtain ⟨x, hx, e1, e2⟩ := hk.cell g' b' hg' j v hv
      exact ⟨x, hx, e1, rel_congr (N := hp.length) (Loc.upd_lt ρ _) (by have := okL_iff.1 (hk.ok b' (List.mem_of_getElem? hg')) v (List.mem_of_getElem? hv); rwa [hL] at this) e2⟩
    · rw [Loc.upd_same]
      have hj : j < cs.length := (List.getElem?_eq_some_iff.1 hv).1
      have hlt : o + j < b.cells.length := by omega
      obtain ⟨x, hx, e1, e2⟩ := h.cell g b hg (o + j) _ (List.getElem?_eq_getElem hlt)
      refine ⟨x, by simpa [Nat.add_assoc] using hx, e1, ?_⟩
      rcases hc j v hv with e | e
      · rw [e]; trivial
      · rw [List.getElem?_eq_getElem hlt] at e
        cases e
        exact rel_congr (N := hp.length) (Loc.upd_lt ρ _) (okL_get bok (List.getElem?_eq_getElem hlt)) e2
  · intro g' b' hg' ho' hne'
    rcases snoc hg' with hg' | ⟨rfl, rfl⟩
    · rw [Loc.upd_lt ρ _ g' (lt_of g' b' hg')]
      exact hk.own g' b' hg' ho' hne'
    · rw [Loc.upd_same]
      simp only at hne'
      have hne : b.cells ≠ [] := fun e => by
        rw [e] at hlen
        have : cs.length = 0 := by simp only [List.length_nil] at hlen; omega
        exact hne' (List.eq_nil_of_length_eq_zero this)
      obtain ⟨q1, q2⟩ := h.own g b hg ho hne
      exact ⟨q1, fun j hj => by simp only at hj; have := q2 (o + j) (by omega); simpa [Nat.add_assoc] using this⟩
  · intro g1 b1 g2 b2 hg1 hg2 hgg ho1 hne1 hne2
    have nonempty : cs ≠ [] → b.cells ≠ [] := fun hne' e => by
      rw [e] at hlen
      have : cs.length = 0 := by simp only [List.length_nil] at hlen; omega
      exact hne' (List.eq_nil_of_length_eq_zero this)
    have old : ∀ {g' : Nat} {b' : Blk}, (hp.set g ⟨false, []⟩)[g']? = some b' → b'.cells ≠ [] → hp[g']? = some b' ∧ g' ≠ g := fun hg' hne => by
      rcases getElem?_set_cases hg' with ⟨rfl, rfl, _⟩ | ⟨h1, h2⟩
      · exact absurd rfl hne
      · exact ⟨h2, h1⟩
    rcases snoc hg1 with hg1 | ⟨rfl, rfl⟩ <;> rcases snoc hg2 with hg2 | ⟨rfl, rfl⟩
    · rw [Loc.upd_lt ρ _ g1 (lt_of _ _ hg1), Loc.upd_lt ρ _ g2 (lt_of _ _ hg2)]
      exact hk.sep g1 b1 g2 b2 hg1 hg2 hgg ho1 hne1 hne2
    · rw [Loc.upd_lt ρ _ g1 (lt_of _ _ hg1), Loc.upd_same]
      obtain ⟨q1, q2⟩ := old hg1 hne1
      exact h.sep g1 b1 g b q1 hg q2 ho1 hne1 (nonempty hne2)
    · rw [Loc.upd_lt ρ _ g2 (lt_of _ _ hg2), Loc.upd_same]
      obtain ⟨q1, q2⟩ := old hg2 hne2
      exact h.sep g b g2 b2 hg q1 (fun e => q2 e.symm) ho (nonempty hne1) hne2
    · exact absurd rfl hgg

/-! ### Rows of zero cells -/
theorem zero_row (z : Array Value) : ∀ (n : Nat), (Array.range (n * z.size)).map (fun i => z[i % z.size]!) = ((List.replicate n z.toList).flatten).toArray
  | 0 => by simp
  | n + 1 => by
    rcases Nat.eq_zero_or_pos z.size with h0 | h0
    · have : z = #[] := Array.eq_empty_of_size_eq_zero h0
      subst this
      simp
    · have ih := zero_row z n
      apply Array.ext'
      have ih' := congrArg Array.toList ih
      simp only [Array.toList_map, Array.toList_range, List.toList_toArray] at ih' ⊢
      rw [show (n + 1) * z.size = z.size + n * z.size by rw [Nat.add_mul]; omega, List.range_add, List.map_append, List.replicate_succ, List.flatten_cons]
      congr 1
      · apply List.ext_getElem
        · simp
        · intro i h1 h2
          simp at h1 h2
          simp [Nat.mod_eq_of_lt h1, h1]
      · rw [← ih', List.map_map]
        apply List.map_congr_left
        intro i _
        show z[(z.size + i) % z.size]! = z[i % z.size]!
        rw [Nat.add_mod_left]

theorem flatten_replicate_map (n : Nat) (l : List Value) (zs : List V) (h : l.map V.c = zs) : (List.replicate n zs).flatten = ((List.replicate n l).flatten).map V.c := by
  subst h
  induction n with
  | zero => simp
  | succ n ih => rw [List.replicate_succ, List.replicate_succ, List.flatten_cons, List.flatten_cons, List.map_append, ih]

theorem one_flatten (n : Nat) (l : List Value) (h : ∀ c ∈ l, c.oneCell' = true) : ∀ c ∈ (List.replicate n l).flatten, c.oneCell' = true := by
  intro c hc
  obtain ⟨l', hl', hc'⟩ := List.mem_flatten.1 hc
  rw [List.mem_replicate] at hl'
  exact h c (hl'.2 ▸ hc')
theorem zeroCells_eq (z : Array Value) (n : Nat) : Builtin.zeroCells z n = ((List.replicate n z.toList).flatten).toArray := zero_row z n
end
end Go.Vc

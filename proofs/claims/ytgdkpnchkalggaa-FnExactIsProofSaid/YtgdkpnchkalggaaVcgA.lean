/- The abstract state of my verification conditions: values with handles in the place of block numbers, blocks by handle, and what it means that a world holds such a state. -/
import Derived.WalkKit
import Derived.OrdersHeld
namespace Go.Vc
open Go

/-- Abstract values. 'c': a plain value; 'p h o': a pointer into block h at offset o; 's h o n c': a slice; 'a': an aggregate; 't': a tuple; 'j': nothing is known. -/
inductive V where
  | c (v : Value)
  | p (h o : Nat)
  | s (h o n c : Nat)
  | a (cs : List V)
  | t (vs : List V)
  | j
  deriving Inhabited

structure Blk where
  own : Bool
  cells : List V
  deriving Inhabited

abbrev Loc := Nat → Nat × Nat

mutual
def rel (ρ : Loc) : V → Value → Prop
  | .c x, v => v = x
  | .p h o, v => v = .pointer (some ⟨(ρ h).1, (ρ h).2 + o, none⟩)
  | .s h o n c, v => n ≤ c ∧ ∃ a, v = .slice a n c ∧ (0 < c → a = some ⟨(ρ h).1, (ρ h).2 + o, none⟩)
  | .a cs, v => ∃ l : List Value, v = .agg l.toArray ∧ relL ρ cs l ∧ ∀ x ∈ l, x.oneCell' = true
  | .t vs, v => ∃ l : List Value, v = .tuple l.toArray ∧ relL ρ vs l
  | .j, _ => True
def relL (ρ : Loc) : List V → List Value → Prop
  | [], l => l = []
  | v :: vs, l => ∃ x xs, l = x :: xs ∧ rel ρ v x ∧ relL ρ vs xs
end

mutual
def okV (N : Nat) : V → Prop
  | .c _ => True
  | .p h _ => h < N
  | .s h _ _ c => 0 < c → h < N
  | .a cs => okL N cs
  | .t vs => okL N vs
  | .j => True
def okL (N : Nat) : List V → Prop
  | [] => True
  | v :: vs => okV N v ∧ okL N vs
end

section
variable {ρ ρ' : Loc} {N N' : Nat}

theorem okL_iff : ∀ {l : List V}, okL N l ↔ ∀ v ∈ l, okV N v
  | [] => by simp [okL]
  | v :: vs => by simp [okL, okL_iff (l := vs)]

mutual
theorem okV_mono (h : N ≤ N') : ∀ {v : V}, okV N v → okV N' v
  | .c _, _ => trivial
  | .p _ _, hv => by unfold okV at *; omega
  | .s _ _ _ _, hv => by unfold okV at *; intro hc; have := hv hc; omega
  | .a _, hv => by unfold okV at *; exact okL_mono h hv
  | .t _, hv => by unfold okV at *; exact okL_mono h hv
  | .j, _ => trivial
theorem okL_mono (h : N ≤ N') : ∀ {l : List V}, okL N l → okL N' l
  | [], _ => trivial
  | _ :: _, hv => by unfold okL at *; exact ⟨okV_mono h hv.1, okL_mono h hv.2⟩
end

mutual
theorem rel_congr (hρ : ∀ h, h < N → ρ' h = ρ h) : ∀ {v : V} {x : Value}, okV N v → rel ρ v x → rel ρ' v x
  | .c _, _, _, h => h
  | .p h o, x, hk, hr => by unfold rel okV at *; rw [hρ h hk]; exact hr
  | .s h o n c, x, hk, hr => by
    unfold rel okV at *
    obtain ⟨h0, a, h1, h2⟩ := hr
    exact ⟨h0, a, h1, fun hc => by rw [hρ h (hk hc)]; exact h2 hc⟩
  | .a cs, x, hk, hr => by
    unfold rel okV at *
    obtain ⟨l, h1, h2, h3⟩ := hr
    exact ⟨l, h1, relL_congr hρ hk h2, h3⟩
  | .t vs, x, hk, hr => by
    unfold rel okV at *
    obtain ⟨l, h1, h2⟩ := hr
    exact ⟨l, h1, relL_congr hρ hk h2⟩
  | .j, _, _, _ => trivial
theorem relL_congr (hρ : ∀ h, h < N → ρ' h = ρ h) : ∀ {vs : List V} {xs : List Value}, okL N vs → relL ρ vs xs → relL ρ' vs xs
  | [], _, _, h => h
  | v :: vs, l, hk, hr => by
    unfold relL okL at *
    obtain ⟨x, xs, h1, h2, h3⟩ := hr
    exact ⟨x, xs, h1, rel_congr hρ hk.1 h2, relL_congr hρ hk.2 h3⟩
end

theorem relL_length : ∀ {vs : List V} {xs : List Value}, relL ρ vs xs → xs.length = vs.length
  | [], _, h => by unfold relL at h; simp [h]
  | v :: vs, l, h => by
    unfold relL at h
    obtain ⟨x, xs, rfl, _, h3⟩ := h
    simp [relL_length h3]

theorem relL_get : ∀ {vs : List V} {xs : List Value}, relL ρ vs xs → ∀ {j : Nat} {v : V}, vs[j]? = some v → ∃ x, xs[j]? = some x ∧ rel ρ v x
  | [], _, _, j, v, hj => by simp at hj
  | u :: vs, l, h, j, v, hj => by
    unfold relL at h
    obtain ⟨x, xs, rfl, h2, h3⟩ := h
    cases j with
    | zero => simp at hj; subst hj; exact ⟨x, by simp, h2⟩
    | succ j => simp at hj; obtain ⟨y, hy, hr⟩ := relL_get h3 hj; exact ⟨y, by simpa using hy, hr⟩

theorem relL_of_get : ∀ {vs : List V} {xs : List Value}, xs.length = vs.length → (∀ (j : Nat) (v : V) (x : Value), vs[j]? = some v → xs[j]? = some x → rel ρ v x) → relL ρ vs xs
  | [], xs, hl, _ => by unfold relL; exact List.eq_nil_of_length_eq_zero (by simpa using hl)
  | v :: vs, [], hl, _ => by simp at hl
  | v :: vs, x :: xs, hl, h => by
    unfold relL
    exact ⟨x, xs, rfl, h 0 v x (by simp) (by simp), relL_of_get (by simpa using hl) (fun j w y hw hy => h (j + 1) w y (by simpa using hw) (by simpa using hy))⟩

theorem relL_append {vs us : List V} {xs ys : List Value} (h : relL ρ vs xs) (h' : relL ρ us ys) : relL ρ (vs ++ us) (xs ++ ys) := by
  have hl := relL_length h
  refine relL_of_get (by simp [hl, relL_length h']) fun j v x hv hx => ?_
  rcases Nat.lt_or_ge j vs.length with hj | hj
  · rw [List.getElem?_append_left hj] at hv
    rw [List.getElem?_append_left (by omega)] at hx
    obtain ⟨y, hy, hr⟩ := relL_get h hv
    rw [hy] at hx; cases hx; exact hr
  · rw [List.getElem?_append_right hj] at hv
    rw [List.getElem?_append_right (by omega), hl] at hx
    obtain ⟨y, hy, hr⟩ := relL_get h' hv
    rw [hy] at hx; cases hx; exact hr

theorem relL_take {vs : List V} {xs : List Value} (h : relL ρ vs xs) (n : Nat) : relL ρ (vs.take n) (xs.take n) := by
  refine relL_of_get (by simp [relL_length h]) fun j v x hv hx => ?_
  rw [List.getElem?_take] at hv hx
  split at hv
  · rename_i hj
    rw [if_pos hj] at hx
    obtain ⟨y, hy, hr⟩ := relL_get h hv
    rw [hy] at hx; cases hx; exact hr
  · cases hv

theorem relL_drop {vs : List V} {xs : List Value} (h : relL ρ vs xs) (n : Nat) : relL ρ (vs.drop n) (xs.drop n) := by
  refine relL_of_get (by simp [relL_length h]) fun j v x hv hx => ?_
  rw [List.getElem?_drop] at hv hx
  obtain ⟨y, hy, hr⟩ := relL_get h hv
  rw [hy] at hx; cases hx; exact hr

theorem relL_set {vs : List V} {xs : List Value} (h : relL ρ vs xs) {v : V} {x : Value} (hv : rel ρ v x) (n : Nat) : relL ρ (vs.set n v) (xs.set n x) := by
  have hl := relL_length h
  refine relL_of_get (by simp [hl]) fun j u y hu hy => ?_
  rw [List.getElem?_set] at hu hy
  split at hu
  · rename_i e
    rw [if_pos e] at hy
    split at hu
    · rw [if_pos (by omega)] at hy; cases hu; cases hy; exact hv
    · cases hu
  · rename_i e
    rw [if_neg e] at hy
    obtain ⟨z, hz, hr⟩ := relL_get h hu
    rw [hz] at hy; cases hy; exact hr

theorem relL_map_c {α : Type} (f : α → Value) : ∀ (l : List α), relL ρ (l.map fun a => V.c (f a)) (l.map f)
  | [] => by simp [relL]
  | a :: l => by
    simp only [List.map_cons]
    unfold relL
    exact ⟨_, _, rfl, rfl, relL_map_c f l⟩

theorem relL_of_map_c {α : Type} {f : α → Value} : ∀ {l : List α} {xs : List Value}, relL ρ (l.map fun a => V.c (f a)) xs → xs = l.map f
  | [], _, h => by simpa [relL] using h
  | a :: l, xs, h => by
    simp only [List.map_cons] at h
    unfold relL at h
    obtain ⟨x, ys, rfl, h2, h3⟩ := h
    unfold rel at h2
    rw [h2, relL_of_map_c h3]
    rfl
end

/-- What was there when the call began has not turned, but for the blocks in M. -/
structure Keep (M : Nat → Prop) (w0 w : World) : Prop where
  os : w.os = w0.os
  tape : w.tape = w0.tape
  output : w.output = w0.output
  size : w0.heap.size ≤ w.heap.size
  block : ∀ k, k < w0.heap.size → ¬ M k → w.heap[k]? = w0.heap[k]?

def none' : Nat → Prop := fun _ => False
theorem Keep.refl (M : Nat → Prop) (w : World) : Keep M w w := ⟨rfl, rfl, rfl, Nat.le_refl _, fun _ _ _ => rfl⟩
theorem Keep.trans {M : Nat → Prop} {a b c : World} (h : Keep M a b) (k : Keep M b c) : Keep M a c :=
  ⟨k.os.trans h.os, k.tape.trans h.tape, k.output.trans h.output, Nat.le_trans h.size k.size,
   fun i hi hm => (k.block i (Nat.lt_of_lt_of_le hi h.size) hm).trans (h.block i hi hm)⟩
theorem Keep.mono {M M' : Nat → Prop} {a b : World} (h : Keep M a b) (hm : ∀ k, M k → M' k) : Keep M' a b :=
  ⟨h.os, h.tape, h.output, h.size, fun i hi hn => h.block i hi (fun hk => hn (hm i hk))⟩
theorem Keep.below {w0 w : World} (h : Keep none' w0 w) : RowKit.Below w0.heap.size w0 w :=
  ⟨h.os, h.tape, h.output, h.size, fun k hk => h.block k hk (fun h => h)⟩
theorem Keep.of_below {w0 w : World} (h : RowKit.Below w0.heap.size w0 w) : Keep none' w0 w :=
  ⟨h.os, h.tape, h.output, h.size, fun k hk _ => h.block k hk⟩
theorem Keep.cell {M : Nat → Prop} {w0 w : World} (h : Keep M w0 w) {a : Addr} (ha : a.block < w0.heap.size) (hm : ¬ M a.block) : w.cell? a = w0.cell? a :=
  World.cell?_of_block (h.block _ ha hm)
theorem Keep.frozen {M : Nat → Prop} {w0 w : World} (h : Keep M w0 w) {a : Addr} (ha : a.block < w0.heap.size) (hm : ¬ M a.block) : w.frozen? a = w0.frozen? a :=
  World.frozen?_of_block (h.block _ ha hm)
theorem Keep.alloc (M : Nat → Prop) (w : World) (o : Obj) : Keep M w (w.alloc o) :=
  ⟨rfl, rfl, rfl, by simp, fun _ hk _ => heap_alloc_old w o hk⟩
theorem Keep.drew (M : Nat → Prop) (w : World) : Keep M w w.drew := ⟨rfl, rfl, rfl, Nat.le_refl _, fun _ _ _ => rfl⟩

/-- The world w holds the blocks hp at the places ρ; w0: the world in which the call began; M: blocks of the caller's that may be written. -/
structure Hd (M : Nat → Prop) (w0 : World) (ρ : Loc) (hp : List Blk) (w : World) : Prop where
  keep : Keep M w0 w
  ok : ∀ b ∈ hp, okL hp.length b.cells
  cell : ∀ h b, hp[h]? = some b → ∀ j v, b.cells[j]? = some v → ∃ x, w.cell? ⟨(ρ h).1, (ρ h).2 + j, none⟩ = some x ∧ x.oneCell' = true ∧ rel ρ v x
  own : ∀ h b, hp[h]? = some b → b.own = true → b.cells ≠ [] →
    (w0.heap.size ≤ (ρ h).1 ∨ M (ρ h).1) ∧ ∀ j, j < b.cells.length → w.frozen? ⟨(ρ h).1, (ρ h).2 + j, none⟩ = false
  sep : ∀ h b h' b', hp[h]? = some b → hp[h']? = some b' → h ≠ h' → b.own = true → b.cells ≠ [] → b'.cells ≠ [] → (ρ h).1 ≠ (ρ h').1

def Loc.upd (ρ : Loc) (n : Nat) (a : Nat × Nat) : Loc := fun h => if h = n then a else ρ h
theorem Loc.upd_lt (ρ : Loc) {n : Nat} (a : Nat × Nat) : ∀ h, h < n → ρ.upd n a h = ρ h := fun h hh => by unfold Loc.upd; rw [if_neg (by omega)]
theorem Loc.upd_same (ρ : Loc) (n : Nat) (a : Nat × Nat) : ρ.upd n a n = a := by simp [Loc.upd]

section
variable {M : Nat → Prop} {w0 w : World} {ρ : Loc} {hp : List Blk}

theorem Hd.lt (h : Hd M w0 ρ hp w) {g : Nat} {b : Blk} (hg : hp[g]? = some b) (hne : b.cells ≠ []) : (ρ g).1 < w.heap.size := by
  obtain ⟨v, hv⟩ : ∃ v, b.cells[0]? = some v := by
    cases hc : b.cells with
    | nil => exact absurd hc hne
    | cons x xs => exact ⟨x, by simp⟩
  obtain ⟨x, hx, _⟩ := h.cell g b hg 0 v hv
  exact World.block_lt_of_cell? _ ⟨(ρ g).1, (ρ g).2 + 0, none⟩ hx

/-- The same blocks in a world in which all old blocks are as they were. -/
theorem Hd.keep_none (h : Hd M w0 ρ hp w) {w' : World} (k : Keep none' w w') : Hd M w0 ρ hp w' where
  keep := h.keep.trans (k.mono (fun _ hf => hf.elim))
  ok := h.ok
  cell g b hg j v hv := by
    obtain ⟨x, hx, h1, h2⟩ := h.cell g b hg j v hv
    exact ⟨x, (k.cell (World.block_lt_of_cell? _ _ hx) (fun hf => hf)).trans hx, h1, h2⟩
  own g b hg ho hne := by
    obtain ⟨h1, h2⟩ := h.own g b hg ho hne
    exact ⟨h1, fun j hj => (k.frozen (by simpa using h.lt hg hne) (fun hf => hf)).trans (h2 j hj)⟩
  sep := h.sep

theorem Hd.drew (h : Hd M w0 ρ hp w) : Hd M w0 ρ hp w.drew := h.keep_none (Keep.drew _ _)

theorem getElem?_snoc {α : Type} {l : List α} {x y : α} {i : Nat} (h : (l ++ [x])[i]? = some y) : l[i]? = some y ∨ (i = l.length ∧ y = x) := by
  rcases Nat.lt_trichotomy i l.length with hi | hi | hi
  · rw [List.getElem?_append_left hi] at h; exact .inl h
  · subst hi; simp at h; exact .inr ⟨rfl, h.symm⟩
  · rw [List.getElem?_append_right (by omega)] at h
    rw [List.getElem?_eq_none (by simp; omega)] at h; cases h

/-- A new block. -/
theorem Hd.push (h : Hd M w0 ρ hp w) {cs : List V} {xs : List Value} (hr : relL ρ cs xs) (hok : okL hp.length cs) (h1 : ∀ x ∈ xs, x.oneCell' = true) (T : TypeId) (own : Bool) :
    Hd M w0 (ρ.upd hp.length (w.heap.size, 0)) (hp ++ [⟨own, cs⟩]) (w.alloc (.cells xs.toArray T)) := by
  have hk : Keep none' w (w.alloc (.cells xs.toArray T)) := Keep.alloc _ _ _
  have h' := h.keep_none hk
  have lt_of : ∀ g b, hp[g]? = some b → g < hp.length := fun g b hg => (List.getElem?_eq_some_iff.1 hg).1
  refine ⟨h'.keep, ?_, ?_, ?_, ?_⟩
  · intro b hb
    rcases List.mem_append.1 hb with hb | hb
    · exact okL_mono (by simp) (h.ok b hb)
    · simp at hb; subst hb; exact okL_mono (by simp) hok
  · intro g b hg j v hv
    rcases getElem?_snoc hg with hg | ⟨rfl, rfl⟩
    · have hlt := lt_of g b hg
      rw [Loc.upd_lt ρ _ g hlt]
      obtain ⟨x, hx, h1, h2⟩ := h'.cell g b hg j v hv
      exact ⟨x, hx, h1, rel_congr (Loc.upd_lt ρ _) (okL_iff.1 (h.ok b (List.mem_of_getElem? hg)) v (List.mem_of_getElem? hv)) h2⟩
    · rw [Loc.upd_same]
      obtain ⟨x, hx, h2⟩ := relL_get hr hv
      exact ⟨x, by simp [hx], h1 x (List.mem_of_getElem? hx), rel_congr (Loc.upd_lt ρ _) (okL_iff.1 hok v (List.mem_of_getElem? hv)) h2⟩
  · intro g b hg ho hne
    rcases getElem?_snoc hg with hg | ⟨rfl, rfl⟩
    · rw [Loc.upd_lt ρ _ g (lt_of g b hg)]
      exact h'.own g b hg ho hne
    · rw [Loc.upd_same]
      exact ⟨.inl h.keep.size, fun j _ => by simp⟩
  · intro g b g' b' hg hg' hgg ho hne hne'
    rcases getElem?_snoc hg with hg | ⟨rfl, rfl⟩ <;> rcases getElem?_snoc hg' with hg' | ⟨rfl, rfl⟩
    · rw [Loc.upd_lt ρ _ g (lt_of g b hg), Loc.upd_lt ρ _ g' (lt_of g' b' hg')]
      exact h.sep g b g' b' hg hg' hgg ho hne hne'
    · rw [Loc.upd_lt ρ _ g (lt_of g b hg), Loc.upd_same]
      have := h.lt hg hne; simp only; omega
    · rw [Loc.upd_lt ρ _ g' (lt_of g' b' hg'), Loc.upd_same]
      have := h.lt hg' hne'; simp only; omega
    · exact absurd rfl hgg

theorem getElem?_set_cases {α : Type} {l : List α} {x y : α} {i j : Nat} (h : (l.set i x)[j]? = some y) : (j = i ∧ y = x ∧ i < l.length) ∨ (j ≠ i ∧ l[j]? = some y) := by
  rw [List.getElem?_set] at h
  split at h
  · rename_i e
    split at h
    · cases h; exact .inl ⟨e.symm, rfl, by omega⟩
    · cases h
  · rename_i e; exact .inr ⟨fun e' => e e'.symm, h⟩

/-- Less is known. -/
theorem Hd.kill (h : Hd M w0 ρ hp w) (g : Nat) : Hd M w0 ρ (hp.set g ⟨false, []⟩) w := by
  refine ⟨h.keep, ?_, ?_, ?_, ?_⟩
  · intro b hb
    rw [List.length_set]
    rcases List.mem_or_eq_of_mem_set hb with hb | rfl
    · exact h.ok b hb
    · simp [okL]
  · intro g' b hg j v hv
    rcases getElem?_set_cases hg with ⟨rfl, rfl, _⟩ | ⟨_, hg⟩
    · simp at hv
    · exact h.cell g' b hg j v hv
  · intro g' b hg ho hne
    rcases getElem?_set_cases hg with ⟨rfl, rfl, _⟩ | ⟨_, hg⟩
    · simp at ho
    · exact h.own g' b hg ho hne
  · intro g1 b1 g2 b2 hg1 hg2 hgg ho hne hne'
    rcases getElem?_set_cases hg1 with ⟨rfl, rfl, _⟩ | ⟨_, hg1⟩
    · simp at ho
    · rcases getElem?_set_cases hg2 with ⟨rfl, rfl, _⟩ | ⟨_, hg2⟩
      · simp at hne'
      · exact h.sep g1 b1 g2 b2 hg1 hg2 hgg ho hne hne'
end
end Go.Vc

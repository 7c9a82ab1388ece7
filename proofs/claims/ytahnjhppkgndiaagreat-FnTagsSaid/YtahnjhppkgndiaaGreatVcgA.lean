import Derived.WalkKit
import Derived.OrdersHeld
/- The abstract state of my verification conditions: values with handles in the place of block numbers, blocks by handle, and what it means that a world holds such a state. -/
namespace Go.Vc
open Go

/-- Abstract values. 'c': a plain value; 'p h o': a pointer into block h at offset o; 's h o n c': a slice; 'a': an aggregate; 't': a tuple; 'j': nothing is known. -/
inductive V where
  | c (v : Value)
  | p (h o : Nat)
  | s (h o n c : Nat)
  | a (cs : List V)
  | t (vs : List V)
  | j
  deriving Inhabited

structure Blk where
  own : Bool
  cells : List V
  deriving Inhabited

abbrev Loc := Nat → Nat × Nat

mutual
def rel (ρ : Loc) : V → Value → Prop
  | .c x, v => v = x
  | .p h o, v => v = .pointer (some ⟨(ρ h).1, (ρ h).2 + o, none⟩)
  | .s h o n c, v => n ≤ c ∧ ∃ a, v = .slice a n c ∧ (0 < c → a = some ⟨(ρ h).1, (ρ h).2 + o, none⟩)
  | .a cs, v => ∃ l : List Value, v = .agg l.toArray ∧ relL ρ cs l ∧ ∀ x ∈ l, x.oneCell' = true
  | .t vs, v => ∃ l : List Value, v = .tuple l.toArray ∧ relL ρ vs l
  | .j, _ => True
def relL (ρ : Loc) : List V → List Value → Prop
  | [], l => l = []
  | v :: vs, l => ∃ x xs, l = x :: xs ∧ rel ρ v x ∧ relL ρ vs xs
end

mutual
def okV (N : Nat) : V → Prop
  | .c _ => True
  | .p h _ => h < N
  | .s h _ _ c => 0 < c → h < N
  | .a cs => okL N cs
  | .t vs => okL N vs
  | .j => True
def okL (N : Nat) : List V → Prop
  | [] => True
  | v :: vs => okV N v ∧ okL N vs
end

section
variable {ρ ρ' : Loc} {N N' : Nat}

theorem okL_iff : ∀ {l : List V}, okL N l ↔ ∀ v ∈ l, okV N v
  | [] => by simp [okL]
  | v :: vs => by simp [okL, okL_iff (l := vs)]

mutual
theorem okV_mono (h : N ≤ N') : ∀ {v : V}, okV N v → okV N' v
  | .c _, _ => trivial
  | .p _ _, hv => by unfold okV at *; omega
  | .s _ _ _ _, hv => by unfold okV at *; intro hc; have := hv hc; omega
  | .a _, hv => by unfold okV at *; exact okL_mono h hv
  | .t _, hv => by unfold okV at *; exact okL_mono h hv
  | .j, _ => trivial
theorem okL_mono (h : N ≤ N') : ∀ {l : List V}, okL N l → okL N' l
  | [], _ => trivial
  | _ :: _, hv => by unfold okL at *; exact ⟨okV_mono h hv.1, okL_mono h hv.2⟩
end

mutual
theorem rel_congr (hρ : ∀ h, h < N → ρ' h = ρ h) : ∀ {v : V} {x : Value}, okV N v → rel ρ v x → rel ρ' v x
  | .c _, _, _, h => h
  | .p h o, x, hk, hr => by unfold rel okV at *; rw [hρ h hk]; exact hr
  | .s h o n c, x, hk, hr => by
    unfold rel okV at *
    obtain ⟨h0, a, h1, h2⟩ := hr
    exact ⟨h0, a, h1, fun hc => by rw [hρ h (hk hc)]; exact h2 hc⟩
  | .a cs, x, hk, hr => by
    unfold rel okV at *
    obtain ⟨l, h1, h2, h3⟩ := hr
    exact ⟨l, h1, relL_congr hρ hk h2, h3⟩
  | .t vs, x, hk, hr => by
    unfold rel okV at *
    obtain ⟨l, h1, h2⟩ := hr
    exact ⟨l, h1, relL_congr hρ hk h2⟩
  | .j, _, _, _ => trivial
theorem relL_congr (hρ : ∀ h, h < N → ρ' h = ρ h) : ∀ {vs : List V} {xs : List Value}, okL N vs → relL ρ vs xs → relL ρ' vs xs
  | [], _, _, h => h
  | v :: vs, l, hk, hr => by
    unfold relL okL at *
    obtain ⟨x, xs, h1, h2, h3⟩ := hr
    exact ⟨x, xs, h1, rel_congr hρ hk.1 h2, relL_congr hρ hk.2 h3⟩
end

theorem relL_length : ∀ {vs : List V} {xs : List Value}, relL ρ vs xs → xs.length = vs.length
  | [], _, h => by unfold relL at h; simp [h]
  | v :: vs, l, h => by
    unfold relL at h
    obtain ⟨x, xs, rfl, _, h3⟩ := h
    simp [relL_length h3]

theorem relL_get : ∀ {vs : List V} {xs : List Value}, relL ρ vs xs → ∀ {j : Nat} {v : V}, vs[j]? = some v → ∃ x, xs[j]? = some x ∧ rel ρ v x
  | [], _, _, j, v, hj => by simp at hj
  | u :: vs, l, h, j, v, hj => by
    unfold relL at h
    obtain ⟨x, xs, rfl, h2, h3⟩ := h
    cases j with
    | zero => simp at hj; subst hj; exact ⟨x, by simp, h2⟩
    | succ j => simp at hj; obtain ⟨y, hy, hr⟩ := relL_get h3 hj; exact ⟨y, by simpa using hy, hr⟩

theorem relL_of_get : ∀ {vs : List V} {xs : List Value}, xs.length = vs.length → (∀ (j : Nat) (v : V) (x : Value), vs[j]? = some v → xs[j]? = some x → rel ρ v x) → relL ρ vs xs
  | [], xs, hl, _ => by unfold relL; exact List.eq_nil_of_length_eq_zero (by simpa using hl)
  | v :: vs, [], hl, _ => by simp at hl
  | v :: vs, x :: xs, hl, h => by
    unfold relL
    exact ⟨x, xs, rfl, h 0 v x (by simp) (by simp), relL_of_get (by simpa using hl) (fun j w y hw hy => h (j + 1) w y (by simpa using hw) (by simpa using hy))⟩

theorem relL_append {vs us : List V} {xs ys : List Value} (h : relL ρ vs xs) (h' : relL ρ us ys) : relL ρ (vs ++ us) (xs ++ ys) := by
  have hl := relL_length h
  refine relL_of_get (by simp [hl, relL_length h']) fun j v x hv hx => ?_
  rcases Nat.lt_or_ge j vs.length with hj | hj
  · rw [List.getElem?_append_left hj] at hv
    rw [List.getElem?_append_left (by omega)] at hx
    obtain ⟨y, hy, hr⟩ := relL_get h hv
    rw [hy] at hx; cases hx; exact hr
  · rw [List.getElem?_append_right hj] at hv
    rw [List.getElem?_append_right (by omega), hl] at hx
    obtain ⟨y, hy, hr⟩ := relL_get h' hv
    rw [hy] at hx; cases hx; exact hr

theorem relL_take {vs : List V} {xs : List Value} (h : relL ρ vs xs) (n : Nat) : relL ρ (vs.take n) (xs.take n) := by
  refine relL_of_get (by simp [relL_length h]) fun j v x hv hx => ?_
  rw [List.getElem?_take] at hv hx
  split at hv
  · rename_i hj
    rw [if_pos hj] at hx
    obtain ⟨y, hy, hr⟩ := relL_get h hv
    rw [hy] at hx; cases hx; exact hr
  · cases hv

theorem relL_drop {vs : List V} {xs : List Value} (h : relL ρ vs xs) (n : Nat) : relL ρ (vs.drop n) (xs.drop n) := by
  refine relL_of_get (by simp [relL_length h]) fun j v x hv hx => ?_
  rw [List.getElem?_drop] at hv hx
  obtain ⟨y, hy, hr⟩ := relL_get h hv
  rw [hy] at hx; cases hx; exact hr

theorem relL_set {vs : List V} {xs : List Value} (h : relL ρ vs xs) {v : V} {x : Value} (hv : rel ρ v x) (n : Nat) : relL ρ (vs.set n v) (xs.set n x) := by
  have hl := relL_length h
  refine relL_of_get (by simp [hl]) fun j u y hu hy => ?_
  rw [List.getElem?_set] at hu hy
  split at hu
  · rename_i e
    rw [if_pos e] at hy
    split at hu
    · rw [if_pos (by omega)] at hy; cases hu; cases hy; exact hv
    · cases hu
  · rename_i e
    rw [if_neg e] at hy
    obtain ⟨z, hz, hr⟩ := relL_get h hu
    rw [hz] at hy; cases hy; exact hr

theorem relL_map_c {α : Type} (f : α → Value) : ∀ (l : List α), relL ρ (l.map fun a => V.c (f a)) (l.map f)
  | [] => by simp [relL]
  | a :: l => by
    simp only [List.map_cons]
    unfold relL
    exact ⟨_, _, rfl, rfl, relL_map_c f l⟩

theorem relL_of_map_c {α : Type} {f : α → Value} : ∀ {l : List α} {xs : List Value}, relL ρ (l.map fun a => V.c (f a)) xs → xs = l.map f
  | [], _, h => by simpa [relL] using h
  | a :: l, xs, h => by
    simp only [List.map_cons] at h
    unfold relL at h
    obtain ⟨x, ys, rfl, h2, h3⟩ := h
    unfold rel at h2
    rw [h2, relL_of_map_c h3]
    rfl
end

/-- What was there when the call began has not turned, but for the blocks in M. -/
structure Keep (M : Nat → Prop) (w0 w : World) : Prop where
  os : w.os = w0.os
  tape : w.tape = w0.tape
  output : w.output = w0.output
  size : w0.heap.size ≤ w.heap.size
  block : ∀ k, k < w0.heap.size → ¬ M k → w.heap[k]? = w0.heap[k]?

def none' : Nat → Prop := fun _ => False
theorem Keep.refl (M : Nat → Prop) (w : World) : Keep M w w := ⟨rfl, rfl, rfl, Nat.le_refl _, fun _ _ _ => rfl⟩
theorem Keep.trans {M : Nat → Prop} {a b c : World} (h : Keep M a b) (k : Keep M b c) : Keep M a c :=
  ⟨k.os.trans h.os, k.tape.trans h.tape, k.output.trans h.output, Nat.le_trans h.size k.size,
   fun i hi hm => (k.block i (Nat.lt_of_lt_of_le hi h.size) hm).trans (h.block i hi hm)⟩
theorem Keep.mono {M M' : Nat → Prop} {a b : World} (h : Keep M a b) (hm : ∀ k, M k → M' k) : Keep M' a b :=
  ⟨h.os, h.tape, h.output, h.size, fun i hi hn => h.block i hi (fun hk => hn (hm i hk))⟩
theorem Keep.below {w0 w : World} (h : Keep none' w0 w) : RowKit.Below w0.heap.size w0 w :=
  ⟨h.os, h.tape, h.output, h.size, fun k hk => h.block k hk (fun h => h)⟩
theorem Keep.cell {M : Nat → Prop} {w0 w : World} (h : Keep M w0 w) {a : Addr} (ha : a.block < w0.heap.size) (hm : ¬ M a.block) : w.cell? a = w0.cell? a :=
  World.cell?_of_block (h.block _ ha hm)
theorem Keep.frozen {M : Nat → Prop} {w0 w : World} (h : Keep M w0 w) {a : Addr} (ha : a.block < w0.heap.size) (hm : ¬ M a.block) : w.frozen? a = w0.frozen? a :=
  World.frozen?_of_block (h.block _ ha hm)
theorem Keep.alloc (M : Nat → Prop) (w : World) (o : Obj) : Keep M w (w.alloc o) :=
  ⟨rfl, rfl, rfl, by simp, fun _ hk _ => heap_alloc_old w o hk⟩
theorem Keep.drew (M : Nat → Prop) (w : World) : Keep M w w.drew := ⟨rfl, rfl, rfl, Nat.le_refl _, fun _ _ _ => rfl⟩

/-- The world w holds the blocks hp at the places ρ; w0: the world in which the call began; M: blocks of the caller's that may be written. -/
structure Hd (M : Nat → Prop) (w0 : World) (ρ : Loc) (hp : List Blk) (w : World) : Prop where
  keep : Keep M w0 w
  ok : ∀ b ∈ hp, okL hp.length b.cells
  cell : ∀ h b, hp[h]? = some b → ∀ j v, b.cells[j]? = some v → ∃ x, w.cell? ⟨(ρ h).1, (ρ h).2 + j, none⟩ = some x ∧ x.oneCell' = true ∧ rel ρ v x
  own : ∀ h b, hp[h]? = some b → b.own = true → b.cells ≠ [] →
    (w0.heap.size ≤ (ρ h).1 ∨ M (ρ h).1) ∧ ∀ j, j < b.cells.length → w.frozen? ⟨(ρ h).1, (ρ h).2 + j, none⟩ = false
  sep : ∀ h b h' b', hp[h]? = some b → hp[h']? = some b' → h ≠ h' → b.own = true → b.cells ≠ [] → b'.cells ≠ [] → (ρ h).1 ≠ (ρ h').1

def Loc.upd (ρ : Loc) (n : Nat) (a : Nat × Nat) : Loc := fun h => if h = n then a else ρ h
theorem Loc.upd_lt (ρ : Loc) {n : Nat} (a : Nat × Nat) : ∀ h, h < n → ρ.upd n a h = ρ h := fun h hh => by unfold Loc.upd; rw [if_neg (by omega)]
theorem Loc.upd_same (ρ : Loc) (n : Nat) (a : Nat × Nat) : ρ.upd n a n = a := by simp [Loc.upd]

section
variable {M : Nat → Prop} {w0 w : World} {ρ : Loc} {hp : List Blk}

theorem Hd.lt (h : Hd M w0 ρ hp w) {g : Nat} {b : Blk} (hg : hp[g]? = some b) (hne : b.cells ≠ []) : (ρ g).1 < w.heap.size := by
  obtain ⟨v, hv⟩ : ∃ v, b.cells[0]? = some v := by
    cases hc : b.cells with
    | nil => exact absurd hc hne
    | cons x xs => exact ⟨x, by simp⟩
  obtain ⟨x, hx, _⟩ := h.cell g b hg 0 v hv
  exact World.block_lt_of_cell? _ ⟨(ρ g).1, (ρ g).2 + 0, none⟩ hx

/-- The same blocks in a world in which all old blocks are as they were. -/
theorem Hd.keep_none (h : Hd M w0 ρ hp w) {w' : World} (k : Keep none' w w') : Hd M w0 ρ hp w' where
  keep := h.keep.trans (k.mono (fun _ hf => hf.elim))
  ok := h.ok
  cell g b hg j v hv := by
    obtain ⟨x, hx, h1, h2⟩ := h.cell g b hg j v hv
    exact ⟨x, (k.cell (World.block_lt_of_cell? _ _ hx) (fun hf => hf)).trans hx, h1, h2⟩
  own g b hg ho hne := by
    obtain ⟨h1, h2⟩ := h.own g b hg ho hne
    exact ⟨h1, fun j hj => (k.frozen (by simpa using h.lt hg hne) (fun hf => hf)).trans (h2 j hj)⟩
  sep := h.sep

theorem Hd.drew (h : Hd M w0 ρ hp w) : Hd M w0 ρ hp w.drew := h.keep_none (Keep.drew _ _)

theorem getElem?_snoc {α : Type} {l : List α} {x y : α} {i : Nat} (h : (l ++ [x])[i]? = some y) : l[i]? = some y ∨ (i = l.length ∧ y = x) := by
  rcases Nat.lt_trichotomy i l.length with hi | hi | hi
  · rw [List.getElem?_append_left hi] at h; exact .inl h
  · subst hi; simp at h; exact .inr ⟨rfl, h.symm⟩
  · rw [List.getElem?_append_right (by omega)] at h
    rw [List.getElem?_eq_none (by simp; omega)] at h; cases h

/-- A new block. -/
theorem Hd.push (h : Hd M w0 ρ hp w) {cs : List V} {xs : List Value} (hr : relL ρ cs xs) (hok : okL hp.length cs) (h1 : ∀ x ∈ xs, x.oneCell' = true) (T : TypeId) (own : Bool) :
    Hd M w0 (ρ.upd hp.length (w.heap.size, 0)) (hp ++ [⟨own, cs⟩]) (w.alloc (.cells xs.toArray T)) := by
  have hk : Keep none' w (w.alloc (.cells xs.toArray T)) := Keep.alloc _ _ _
  have h' := h.keep_none hk
  have lt_of : ∀ g b, hp[g]? = some b → g < hp.length := fun g b hg => (List.getElem?_eq_some_iff.1 hg).1
  refine ⟨h'.keep, ?_, ?_, ?_, ?_⟩
  · intro b hb
    rcases List.mem_append.1 hb with hb | hb
    · exact okL_mono (by simp) (h.ok b hb)
    · simp at hb; subst hb; exact okL_mono (by simp) hok
  · intro g b hg j v hv
    rcases getElem?_snoc hg with hg | ⟨rfl, rfl⟩
    · have hlt := lt_of g b hg
      rw [Loc.upd_lt ρ _ g hlt]
      obtain ⟨x, hx, h1, h2⟩ := h'.cell g b hg j v hv
      exact ⟨x, hx, h1, rel_congr (Loc.upd_lt ρ _) (okL_iff.1 (h.ok b (List.mem_of_getElem? hg)) v (List.mem_of_getElem? hv)) h2⟩
    · rw [Loc.upd_same]
      obtain ⟨x, hx, h2⟩ := relL_get hr hv
      exact ⟨x, by simp [hx], h1 x (List.mem_of_getElem? hx), rel_congr (Loc.upd_lt ρ _) (okL_iff.1 hok v (List.mem_of_getElem? hv)) h2⟩
  · intro g b hg ho hne
    rcases getElem?_snoc hg with hg | ⟨rfl, rfl⟩
    · rw [Loc.upd_lt ρ _ g (lt_of g b hg)]
      exact h'.own g b hg ho hne
    · rw [Loc.upd_same]
      exact ⟨.inl h.keep.size, fun j _ => by simp⟩
  · intro g b g' b' hg hg' hgg ho hne hne'
    rcases getElem?_snoc hg with hg | ⟨rfl, rfl⟩ <;> rcases getElem?_snoc hg' with hg' | ⟨rfl, rfl⟩
    · rw [Loc.upd_lt ρ _ g (lt_of g b hg), Loc.upd_lt ρ _ g' (lt_of g' b' hg')]
      exact h.sep g b g' b' hg hg' hgg ho hne hne'
    · rw [Loc.upd_lt ρ _ g (lt_of g b hg), Loc.upd_same]
      have := h.lt hg hne; simp only; omega
    · rw [Loc.upd_lt ρ _ g' (lt_of g' b' hg'), Loc.upd_same]
      have := h.lt hg' hne'; simp only; omega
    · exact absurd rfl hgg

theorem getElem?_set_cases {α : Type} {l : List α} {x y : α} {i j : Nat} (h : (l.set i x)[j]? = some y) : (j = i ∧ y = x ∧ i < l.length) ∨ (j ≠ i ∧ l[j]? = some y) := by
  rw [List.getElem?_set] at h
  split at h
  · rename_i e
    split at h
    · cases h; exact .inl ⟨e.symm, rfl, by omega⟩
    · cases h
  · rename_i e; exact .inr ⟨fun e' => e e'.symm, h⟩

/-- Less is known. -/
theorem Hd.kill (h : Hd M w0 ρ hp w) (g : Nat) : Hd M w0 ρ (hp.set g ⟨false, []⟩) w := by
  refine ⟨h.keep, ?_, ?_, ?_, ?_⟩
  · intro b hb
    rw [List.length_set]
    rcases List.mem_or_eq_of_mem_set hb with hb | rfl
    · exact h.ok b hb
    · simp [okL]
  · intro g' b hg j v hv
    rcases getElem?_set_cases hg with ⟨rfl, rfl, _⟩ | ⟨_, hg⟩
    · simp at hv
    · exact h.cell g' b hg j v hv
  · intro g' b hg ho hne
    rcases getElem?_set_cases hg with ⟨rfl, rfl, _⟩ | ⟨_, hg⟩
    · simp at ho
    · exact h.own g' b hg ho hne
  · intro g1 b1 g2 b2 hg1 hg2 hgg ho hne hne'
    rcases getElem?_set_cases hg1 with ⟨rfl, rfl, _⟩ | ⟨_, hg1⟩
    · simp at ho
    · rcases getElem?_set_cases hg2 with ⟨rfl, rfl, _⟩ | ⟨_, hg2⟩
      · simp at hne'
      · exact h.sep g1 b1 g2 b2 hg1 hg2 hgg ho hne hne'
end
end Go.Vc
/- The verification conditions: a proposition computed from a function's code and an abstract state. -/
namespace Go.Vc
open Go

structure TD where
  und : TypeDesc
  size : Nat
  bytes : Nat
  zero : List V
  eqg : Bool
  deriving Inhabited

abbrev Env := TypeId → Option TD

def isAggD : TypeDesc → Bool
  | .struct _ => true
  | .array _ _ => true
  | _ => false

def ev (tm : List V) : Operand → V
  | .tmp t => tm.getD t (.c undef)
  | .const v => .c v
  | .global g => .c (.pointer (some ⟨g, 0, none⟩))
  | .func f => .c (.func (.func f) #[] #[])

def cellsOf : V → Option (List V)
  | .a cs => some cs
  | .t _ => none
  | .j => none
  | .c (.agg _) => none
  | .c (.tuple _) => none
  | v => some [v]

def asS : V → Option (Nat × Nat × Nat × Nat)
  | .s h o n c => some (h, o, n, c)
  | .c (.slice none 0 0) => some (0, 0, 0, 0)
  | _ => none

def asI : V → Option (IntKind × Int)
  | .c (.int k n) => some (k, n)
  | _ => none

/-- 'cells' with 'vs' from place 'off' on. -/
def splice (cells : List V) (off : Nat) (vs : List V) : List V := cells.take off ++ vs ++ cells.drop (off + vs.length)

/-- The cells of a block, none where there is no such block. -/
def cellsAt (hp : List Blk) (h : Nat) : List V :=
  match hp[h]? with
  | some b => b.cells
  | none => []

def bitI (op : BinOp) (k : IntKind) (x y : Int) : Int :=
  let a := BitVec.ofInt k.bits x
  let b := BitVec.ofInt k.bits y
  match op with
  | .and => k.wrap (a &&& b).toNat
  | .or => k.wrap (a ||| b).toNat
  | .xor => k.wrap (a ^^^ b).toNat
  | _ => k.wrap (a &&& ~~~b).toNat

def vInt (op : BinOp) (ka : IntKind) (a : Int) (kb : IntKind) (b : Int) (k : V → Prop) : Prop :=
  match op with
  | .add => ka = kb ∧ k (.c (.int ka (ka.wrap (a + b))))
  | .sub => ka = kb ∧ k (.c (.int ka (ka.wrap (a - b))))
  | .mul => ka = kb ∧ k (.c (.int ka (ka.wrap (a * b))))
  | .quo => ka = kb ∧ b ≠ 0 ∧ k (.c (.int ka (ka.wrap (a.tdiv b))))
  | .rem => ka = kb ∧ b ≠ 0 ∧ k (.c (.int ka (a.tmod b)))
  | .and | .or | .xor | .andNot => ka = kb ∧ k (.c (.int ka (bitI op ka a b)))
  | .shl => 0 ≤ b ∧ k (.c (.int ka (ka.wrap (a * 2 ^ (min b.toNat ka.bits)))))
  | .shr => 0 ≤ b ∧ k (.c (.int ka (a.fdiv (2 ^ (min b.toNat ka.bits)))))
  | .eql => ka = kb ∧ k (.c (.bool (a == b)))
  | .neq => ka = kb ∧ k (.c (.bool (a != b)))
  | .lss => ka = kb ∧ k (.c (.bool (decide (a < b))))
  | .leq => ka = kb ∧ k (.c (.bool (decide (a ≤ b))))
  | .gtr => ka = kb ∧ k (.c (.bool (decide (a > b))))
  | .geq => ka = kb ∧ k (.c (.bool (decide (a ≥ b))))

/-- All cells are integers of one kind. -/
def intCells (k : IntKind) (cs : List V) : Prop := ∀ c ∈ cs, ∃ n, c = .c (.int k n)

def isI : V → Bool
  | .c (.int _ _) => true
  | _ => false
/-- Types whose leaves are integers alone. -/
def plainT (E : Env) : Nat → TypeId → Bool
  | 0, _ => false
  | d + 1, t => match E t with
    | some td => match td.und with
      | .int _ => td.size == 1
      | .array n e => plainT E d e && (match E e with | some de => n * de.size == td.size | none => false)
      | .struct fs => td.zero.all isI && fs.toList.all fun f => plainT E d f.type && (match E f.type with | some df => decide (f.offset + df.size ≤ td.size) | none => false)
      | _ => false
    | none => false
/-- All cells are integers. -/
def allInt (cs : List V) : Prop := ∀ c ∈ cs, ∃ k n, c = .c (.int k n)

def vBin (E : Env) (op : BinOp) (t : TypeId) (x y : V) (k : V → Prop) : Prop :=
  match x, y with
  | .c (.int ka a), .c (.int kb b) => vInt op ka a kb b k
  | .c (.bool a), .c (.bool b) =>
    (match E t with | some d => d.und = .bool | none => False) ∧
    match op with
    | .eql => k (.c (.bool (a == b)))
    | .neq => k (.c (.bool (!(a == b))))
    | _ => False
  | .c (.string a), .c (.string b) =>
    match op with
    | .eql => k (.c (.bool (a.toList == b.toList)))
    | .neq => k (.c (.bool !(a.toList == b.toList)))
    | .add => a.size + b.size ≤ 9223372036854775807 ∧ k (.c (.string (a ++ b)))
    | _ => False
  | .s _ _ _ c, .c (.slice none 0 0) => (match E t with | some d => (match d.und with | .slice _ => True | _ => False) | none => False) ∧
    match op with
    | .eql => ∀ b : Bool, (0 < c → b = false) → k (.c (.bool b))
    | .neq => ∀ b : Bool, (0 < c → b = false) → k (.c (.bool !b))
    | _ => False
  | .c (.slice none 0 0), .c (.slice none 0 0) => (match E t with | some d => (match d.und with | .slice _ => True | _ => False) | none => False) ∧
    match op with
    | .eql => k (.c (.bool true))
    | .neq => k (.c (.bool false))
    | _ => False
  | .a cs, .a ds =>
    match E t with
    | some d => match d.und with
      | .array n e => match E e with
        | some de => match de.und with
          | .int ki => d.eqg = false ∧ de.size = 1 ∧ cs.length = n ∧ ds.length = n ∧ intCells ki cs ∧ intCells ki ds ∧
            match op with
            | .eql => ∀ b : Bool, (b = true ↔ cs = ds) → k (.c (.bool b))
            | .neq => ∀ b : Bool, (b = true ↔ cs = ds) → k (.c (.bool !b))
            | _ => False
          | _ => False
        | none => False
      | .struct _ => d.eqg = false ∧ plainT E 8 t = true ∧ cs.length = d.size ∧ allInt cs ∧ cs = ds ∧
        match op with
        | .eql => k (.c (.bool true))
        | .neq => k (.c (.bool false))
        | _ => False
      | _ => False
    | none => False
  | _, _ => False

def vUn (op : UnOp) (x : V) (k : V → Prop) : Prop :=
  match op, x with
  | .not, .c (.bool b) => k (.c (.bool !b))
  | .neg, .c (.int ki n) => k (.c (.int ki (ki.wrap (0 - n))))
  | .xor, .c (.int ki n) => k (.c (.int ki (bitI .xor ki (if ki.signed then -1 else ki.max) n)))
  | _, _ => False

/-- A cell | some cells as an aggregate | cells written over. -/
def vGet (cells : List V) (o : Nat) (k : V → Prop) : Prop := o < cells.length ∧ k (cells.getD o .j)
def vSub (cells : List V) (o n : Nat) (k : V → Prop) : Prop := o + n ≤ cells.length ∧ k (.a ((cells.drop o).take n))
def vPut (cells : List V) (o : Nat) (vs : List V) (k : List V → Prop) : Prop := o + vs.length ≤ cells.length ∧ k (splice cells o vs)

def vLoad (E : Env) (t : TypeId) (x : V) (hp : List Blk) (k : V → Prop) : Prop :=
  match E t, x with
  | some d, .p h o => match hp[h]? with
    | some b => if isAggD d.und then vSub b.cells o d.size k else vGet b.cells o k
    | none => False
  | _, _ => False

def vNil (x : V) (k : V → Prop) : Prop :=
  match x with
  | .p _ _ => k x
  | .c (.int _ _) => k x
  | .c (.func (.func _) _ _) => k x
  | _ => False

/-- A slice's bounds: low, high, the room. -/
def vBounds (len cap : Nat) (low high max : Option V) (k : Nat → Nat → Nat → Prop) : Prop :=
  match max with
  | none =>
    match high with
    | some vh => match asI vh with
      | some (_, ih) => 0 ≤ ih ∧ ih ≤ cap ∧ (match low with
        | some vl => match asI vl with
          | some (_, il) => 0 ≤ il ∧ il ≤ ih ∧ k il.toNat ih.toNat cap
          | none => False
        | none => k 0 ih.toNat cap)
      | none => False
    | none => match low with
      | some vl => match asI vl with
        | some (_, il) => 0 ≤ il ∧ il ≤ len ∧ k il.toNat len cap
        | none => False
      | none => k 0 len cap
  | some _ => False

def vSlice (E : Env) (t : TypeId) (x : V) (low high max : Option V) (k : V → Prop) : Prop :=
  match E t with
  | some d => match d.und with
    | .array n e => match E e, x with
      | some de, .p h o => vBounds n n low high max fun l u m => k (.s h (o + l * de.size) (u - l) (m - l))
      | _, _ => False
    | .slice e => match E e, asS x with
      | some de, some (h, o, n, c) => vBounds n c low high max fun l u m => k (.s h (o + l * de.size) (u - l) (m - l))
      | _, _ => False
    | .string => match x with
      | .c (.string s) => vBounds s.size s.size low high max fun l u _ => k (.c (.string (s.extract l u)))
      | _ => False
    | _ => False
  | none => False

def vConv (E : Env) (src dst : TypeId) (x : V) (hp : List Blk) (k : V → Prop) : Prop :=
  match E src, E dst with
  | some ds, some dd => match x with
    | .c (.int _ n) => match dd.und with
      | .int kd => k (.c (.int kd (kd.wrap n)))
      | _ => False
    | _ => match dd.und, ds.und with
      | .string, .slice e => match E e, asS x with
        | some de, some (h, o, n, _) => de.und = .int .u8 ∧ ∃ bs : List UInt8, bs.length = n ∧
            (n = 0 ∨ o + n ≤ (cellsAt hp h).length ∧ ((cellsAt hp h).drop o).take n = bs.map (fun u => V.c (.int .u8 u.toNat))) ∧
            k (.c (.string ⟨bs.toArray⟩))
        | _, _ => False
      | _, _ => False
  | _, _ => False

def vArrPtr (E : Env) (t : TypeId) (x : V) (k : V → Prop) : Prop :=
  match E t with
  | some d => match d.und with
    | .array n _ => match x with
      | .s h o len c => n ≤ len ∧ 0 < c ∧ k (.p h o)
      | _ => False
    | _ => False
  | none => False

def vFieldAddr (E : Env) (t : TypeId) (x : V) (f : Nat) (k : V → Prop) : Prop :=
  match E t with
  | some d => match d.und with
    | .struct fs => match fs[f]?, x with
      | some fd, .p h o => match E fd.type with
        | some df => df.size ≠ 0 ∧ k (.p h (o + fd.offset))
        | none => False
      | _, _ => False
    | _ => False
  | none => False

/-- A part of an aggregate: of type t, at place off. -/
def vPart (E : Env) (t : TypeId) (cs : List V) (off : Nat) (k : V → Prop) : Prop :=
  match E t with
  | some d => if isAggD d.und then vSub cs off d.size k else d.size = 1 ∧ vGet cs off k
  | none => False

def vField (E : Env) (t : TypeId) (x : V) (f : Nat) (k : V → Prop) : Prop :=
  match E t with
  | some d => match d.und with
    | .struct fs => match fs[f]?, x with
      | some fd, .a cs => vPart E fd.type cs fd.offset k
      | _, _ => False
    | _ => False
  | none => False

def vIndexAddr (E : Env) (t : TypeId) (x i : V) (k : V → Prop) : Prop :=
  match E t, asI i with
  | some d, some (_, n) => match d.und with
    | .array len e => match E e, x with
      | some de, .p h o => 0 ≤ n ∧ n < len ∧ k (.p h (o + n.toNat * de.size))
      | _, _ => False
    | .slice e => match E e, x with
      | some de, .s h o len _ => 0 ≤ n ∧ n < len ∧ k (.p h (o + n.toNat * de.size))
      | _, _ => False
    | _ => False
  | _, _ => False

def vIndex (E : Env) (t : TypeId) (x i : V) (k : V → Prop) : Prop :=
  match E t, asI i with
  | some d, some (_, n) => match d.und with
    | .array len e => match E e, x with
      | some de, .a cs => 0 ≤ n ∧ n < len ∧ vPart E e cs (n.toNat * de.size) k
      | _, _ => False
    | .string => match x with
      | .c (.string s) => 0 ≤ n ∧ n < s.size ∧ k (.c (.int .u8 (s.data.toList.getD n.toNat 0).toNat))
      | _ => False
    | _ => False
  | _, _ => False

def vExtract (x : V) (i : Nat) (k : V → Prop) : Prop :=
  match x with
  | .t vs => match vs[i]? with
    | some v => k v
    | none => False
  | _ => False

def vPick (c x y : V) (k : V → Prop) : Prop :=
  match c with
  | .c (.bool t) => k (cond t x y)
  | _ => False

def vLen (E : Env) (ts : List TypeId) (xs : List V) (k : V → Prop) : Prop :=
  match ts, xs with
  | t :: _, x :: _ => match E t with
    | some d => match d.und with
      | .array n _ => k (.c (.int .i64 n))
      | .string => match x with
        | .c (.string s) => k (.c (.int .i64 s.size))
        | _ => False
      | .slice _ => match asS x with
        | some (_, _, n, _) => k (.c (.int .i64 n))
        | none => False
      | _ => False
    | none => False
  | _, _ => False

def vCap (E : Env) (ts : List TypeId) (xs : List V) (k : V → Prop) : Prop :=
  match ts, xs with
  | t :: _, x :: _ => match E t with
    | some d => match d.und with
      | .slice _ => match asS x with
        | some (_, _, _, c) => k (.c (.int .i64 c))
        | none => False
      | _ => False
    | none => False
  | _, _ => False

def vMin (mx : Bool) (xs : List V) (k : V → Prop) : Prop :=
  match xs with
  | [x, y] => match asI x, asI y with
    | some (ka, a), some (kb, b) => ka = kb ∧ k (.c (.int ka (if mx then max a b else min a b)))
    | _, _ => False
  | _ => False

/-- Parts of an aggregate, laid into its zero cells. -/
def fillV (place : Nat → Option (Nat × Nat)) (cells : List V) : List (Nat × V) → Option (List V)
  | [] => some cells
  | (i, v) :: rest => match place i, cellsOf v with
    | some (off, size), some vs => if vs.length = size ∧ off + size ≤ cells.length then fillV place (splice cells off vs) rest else none
    | _, _ => none

def vBuild (E : Env) (t : TypeId) (ps : List (Nat × V)) (k : V → Prop) : Prop :=
  match E t with
  | some d => match d.und with
    | .struct fs => match fillV (fun i => (fs[i]?).bind fun f => (E f.type).map fun df => (f.offset, df.size)) d.zero ps with
      | some cs => (∀ f ∈ fs.toList, (E f.type).isSome = true) ∧ k (.a cs)
      | none => False
    | .array _ e => match E e with
      | some de => match fillV (fun i => some (i * de.size, de.size)) d.zero ps with
        | some cs => k (.a cs)
        | none => False
      | none => False
    | _ => False
  | none => False

/-- Operations that leave the world as it is. -/
def vcS (E : Env) (op : Op) (tm : List V) (hp : List Blk) (k : V → Prop) : Prop :=
  match op with
  | .move x => k (ev tm x)
  | .assign x => k (ev tm x)
  | .build t ps => vBuild E t (ps.toList.map fun q => (q.1, ev tm q.2)) k
  | .load t x => vLoad E t (ev tm x) hp k
  | .nilCheck x => vNil (ev tm x) k
  | .binOp op t x y _ => vBin E op t (ev tm x) (ev tm y) k
  | .unOp op _ x => vUn op (ev tm x) k
  | .convert s d x => vConv E s d (ev tm x) hp k
  | .sliceToArrayPointer t x => vArrPtr E t (ev tm x) k
  | .slice t x lo hi mx => vSlice E t (ev tm x) (lo.map (ev tm)) (hi.map (ev tm)) (mx.map (ev tm)) k
  | .fieldAddr t x f => vFieldAddr E t (ev tm x) f k
  | .field t x f => vField E t (ev tm x) f k
  | .indexAddr t x i => vIndexAddr E t (ev tm x) (ev tm i) k
  | .index t x i => vIndex E t (ev tm x) (ev tm i) k
  | .extract x i => vExtract (ev tm x) i k
  | .pick c x y => vPick (ev tm c) (ev tm x) (ev tm y) k
  | .makeFunc f first captured => first = #[] ∧ captured = #[] ∧ k (.c (.func f #[] #[]))
  | .call { callee := .builtin .len, args, argTypes } => vLen E argTypes.toList (args.toList.map (ev tm)) k
  | .call { callee := .builtin .cap, args, argTypes } => vCap E argTypes.toList (args.toList.map (ev tm)) k
  | .call { callee := .builtin .min, args, .. } => vMin false (args.toList.map (ev tm)) k
  | .call { callee := .builtin .max, args, .. } => vMin true (args.toList.map (ev tm)) k
  | _ => False

def isS : Op → Bool
  | .move _ | .assign _ | .build .. | .load .. | .nilCheck _ | .binOp .. | .unOp .. | .convert .. | .sliceToArrayPointer .. | .slice ..
  | .fieldAddr .. | .field .. | .indexAddr .. | .index .. | .extract .. | .makeFunc .. | .pick .. => true
  | .call { callee := .builtin .len, .. } | .call { callee := .builtin .cap, .. } | .call { callee := .builtin .min, .. } | .call { callee := .builtin .max, .. } => true
  | _ => false

/-! ### Calls -/
-- A callee's abstract value seen by the caller: handles below m are the caller's segments 'sub', the others are the caller's new handles from N on.
mutual
def V.inst (sub : List (Nat × Nat)) (N : Nat) : V → V
  | .c x => .c x
  | .p h o => match sub[h]? with
    | some (g, q) => .p g (q + o)
    | none => .p (N + (h - sub.length)) o
  | .s h o n m => match sub[h]? with
    | some (g, q) => .s g (q + o) n m
    | none => .s (N + (h - sub.length)) o n m
  | .a cs => .a (V.instL sub N cs)
  | .t vs => .t (V.instL sub N vs)
  | .j => .j
def V.instL (sub : List (Nat × Nat)) (N : Nat) : List V → List V
  | [] => []
  | v :: vs => v.inst sub N :: V.instL sub N vs
end

/-- Own blocks of the caller's that a callee may write. -/
def modOf (ha : List Blk) (ρ : Loc) : Nat → Prop := fun k => ∃ (h : Nat) (b : Blk), ha[h]? = some b ∧ b.own = true ∧ b.cells ≠ [] ∧ k = (ρ h).1

def hasBody (P : Program) (f : FuncId) : Prop := ∃ fn, P.funcs[f]? = some fn ∧ fn.body.isSome = true ∧ (fn.name == "runtime.NumGoroutine") = false

/-- What a call of function f does, told by abstract values alone: called with these arguments over these blocks it returns, and 'post' holds of the result and the blocks behind it. -/
def LC (P : Program) (f : FuncId) (args : List V) (ha : List Blk) (post : V → List Blk → Prop) : Prop :=
  hasBody P f ∧ ∀ (w : World) (ρ : Loc) (xs : List Value), Hd (modOf ha ρ) w ρ ha w → relL ρ args xs → okL ha.length args →
    Calls P f xs.toArray w fun e w' => ∃ v hp' ρ' x, e = .returned x ∧ post v hp' ∧ Hd (modOf ha ρ) w ρ' hp' w' ∧ ha.length ≤ hp'.length ∧
      (∀ h, h < ha.length → ρ' h = ρ h) ∧ rel ρ' v x ∧ okV hp'.length v

/-- The caller's segments hold what the callee reads. -/
def segOK (hp : List Blk) (sub : List (Nat × Nat)) : List (Nat × Nat) → List Blk → Prop
  | [], [] => True
  | (g, q) :: r, b :: ha => (b.own = false ∧ g < hp.length ∧ ((cellsAt hp g).drop q).take b.cells.length = V.instL sub hp.length b.cells) ∧ segOK hp sub r ha
  | _, _ => False

def leArg (v u : V) : Prop := v = u ∨ ((∃ h o, asS v = some (h, o, 0, 0)) ∧ ∃ g q, u = .s g q 0 0)
def leArgs : List V → List V → Prop
  | [], [] => True
  | v :: vs, u :: us => leArg v u ∧ leArgs vs us
  | _, _ => False

def vCall (P : Program) (f : FuncId) (args : List V) (hp : List Blk) (k : V → List Blk → Prop) : Prop :=
  ∃ (args0 : List V) (ha : List Blk) (post : V → List Blk → Prop) (sub : List (Nat × Nat)), LC P f args0 ha post ∧
    leArgs args (V.instL sub hp.length args0) ∧ segOK hp sub sub ha ∧ okL ha.length args0 ∧ (∀ b ∈ ha, okL ha.length b.cells) ∧
    ∀ v hp', post v hp' → ∃ hr, hp' = ha ++ hr ∧ (∀ b ∈ hr, b.own = true ∨ b.cells = []) ∧
      k (v.inst sub hp.length) (hp ++ hr.map fun b => ⟨b.own, V.instL sub hp.length b.cells⟩)

/-- The same, where the callee may write: an own block is handed over whole. -/
def segM (hp : List Blk) (sub : List (Nat × Nat)) : List (Nat × Nat) → List Blk → Prop
  | [], [] => True
  | (g, q) :: r, b :: ha => ((b.own = false ∧ g < hp.length ∧ ((cellsAt hp g).drop q).take b.cells.length = V.instL sub hp.length b.cells) ∨
      (b.own = true ∧ q = 0 ∧ hp[g]? = some ⟨true, V.instL sub hp.length b.cells⟩)) ∧ segM hp sub r ha
  | _, _ => False
def putSegs (sub : List (Nat × Nat)) (N : Nat) : List Blk → List (Nat × Nat) → List Blk → List Blk → List Blk
  | hp, (g, _) :: r, b :: ha, b' :: ha' => putSegs sub N (if b.own then hp.set g ⟨b'.own, V.instL sub N b'.cells⟩ else hp) r ha ha'
  | hp, _, _, _ => hp
def keepR : List Blk → List Blk → Prop
  | [], [] => True
  | b :: ha, b' :: ha' => (if b.own then b'.cells.length = b.cells.length else b' = b) ∧ keepR ha ha'
  | _, _ => False
def vCallM (P : Program) (f : FuncId) (args : List V) (hp : List Blk) (k : V → List Blk → Prop) : Prop :=
  ∃ (args0 : List V) (ha : List Blk) (post : V → List Blk → Prop) (sub : List (Nat × Nat)), LC P f args0 ha post ∧
    leArgs args (V.instL sub hp.length args0) ∧ segM hp sub sub ha ∧ (sub.map (·.1)).Nodup ∧ okL ha.length args0 ∧ (∀ b ∈ ha, okL ha.length b.cells) ∧
    ∀ v hp', post v hp' → ∃ ha' hr, hp' = ha' ++ hr ∧ keepR ha ha' ∧ (∀ b ∈ hr, b.own = true ∨ b.cells = []) ∧
      k (v.inst sub hp.length) (putSegs sub hp.length hp sub ha ha' ++ hr.map fun b => ⟨b.own, V.instL sub hp.length b.cells⟩)

/-- May the block be written from o on, c elements of this size; or must an append leave it? -/
def roomOK (hp : List Blk) (h o c sz need : Nat) : Prop :=
  match hp[h]? with
  | some b => if b.own then o + c * sz ≤ b.cells.length else c = 0 ∨ c < need
  | none => c = 0

def killS (hp : List Blk) : V → List Blk
  | .s h _ _ _ => hp.set h ⟨false, []⟩
  | _ => hp

def vAppend (E : Env) (ts : List TypeId) (args : List V) (hp : List Blk) (k : V → List Blk → Prop) : Prop :=
  match ts, args with
  | [t, t'], [s, x] => t = t' ∧ match E t with
    | some d => match d.und with
      | .slice e => match E e, asS s, asS x with
        | some de, some (h, o, n, c), some (h2, o2, m, _) =>
          0 < de.size ∧ n + m ≤ 1099511627776 ∧ (n + m) * de.bytes ≤ 1099511627776 ∧ roomOK hp h o c de.size (n + m) ∧
            (n = 0 ∨ o + n * de.size ≤ (cellsAt hp h).length) ∧ (m = 0 ∨ o2 + m * de.size ≤ (cellsAt hp h2).length) ∧
            ∀ r c' : Nat, c' * de.size = (n + m) * de.size + r → n + m ≤ c' →
              k (.s hp.length 0 (n + m) c') (killS hp s ++ [⟨true, ((cellsAt hp h).drop o).take (n * de.size) ++ ((cellsAt hp h2).drop o2).take (m * de.size) ++ List.replicate r V.j⟩])
        | _, _, _ => False
      | _ => False
    | none => False
  | _, _ => False

/-- append(s, make([]T, m)...) to a slice without room. -/
def vAppendZ (E : Env) (ts : List TypeId) (args : List V) (hp : List Blk) (k : V → List Blk → Prop) : Prop :=
  match ts, args with
  | [t, t'], [s, .c (.int _ m)] =>
    match E t, E t' with
    | some d, some d' => match d.und, d'.und with
      | .slice e, .int _ => match E e, asS s with
        | some de, some (_, _, 0, 0) => 0 < m ∧ m ≤ 1099511627776 ∧ m.toNat * de.bytes ≤ 1099511627776 ∧ 0 < de.size ∧
            ∀ r c' : Nat, c' * de.size = m.toNat * de.size + r → m.toNat ≤ c' →
              k (.s hp.length 0 m.toNat c') (hp ++ [⟨true, (List.replicate m.toNat de.zero).flatten ++ List.replicate r V.j⟩])
        | _, _ => False
      | _, _ => False
    | _, _ => False
  | _, _ => False

/-- append(s, make([]T, m)...) to a slice that is not empty. -/
def vAppendY (E : Env) (ts : List TypeId) (args : List V) (hp : List Blk) (k : V → List Blk → Prop) : Prop :=
  match ts, args with
  | [t, t'], [s, .c (.int _ mi)] =>
    match E t, E t' with
    | some d, some d' => match d.und, d'.und with
      | .slice e, .int _ => match E e, asS s with
        | some de, some (h, o, n, c) => 0 < n ∧ 0 ≤ mi ∧ 0 < de.size ∧ n + mi.toNat ≤ 1099511627776 ∧ (n + mi.toNat) * de.bytes ≤ 1099511627776 ∧ roomOK hp h o c de.size (n + mi.toNat) ∧
            o + n * de.size ≤ (cellsAt hp h).length ∧
            ∀ r c' : Nat, c' * de.size = (n + mi.toNat) * de.size + r → n + mi.toNat ≤ c' →
              k (.s hp.length 0 (n + mi.toNat) c') (killS hp s ++ [⟨true, ((cellsAt hp h).drop o).take (n * de.size) ++ (List.replicate mi.toNat de.zero).flatten ++ List.replicate r V.j⟩])
        | _, _ => False
      | _, _ => False
    | _, _ => False
  | _, _ => False
/-- Has a slice neither elements nor room? -/
def emptyS (s : V) : Bool := match asS s with
  | some (_, _, 0, 0) => true
  | _ => false
theorem emptyS_nil : emptyS (.c (.slice none 0 0)) = true := rfl
theorem emptyS_zero {h o : Nat} : emptyS (.s h o 0 0) = true := rfl
def vCopy (E : Env) (ts : List TypeId) (args : List V) (hp : List Blk) (k : V → List Blk → Prop) : Prop :=
  match ts, args with
  | t :: _, [s, x] => match E t with
    | some d => match d.und with
      | .slice e => match E e, asS s, asS x with
        | some de, some (h, o, n, _), some (h2, o2, m, _) => match hp[h]? with
          | some b => b.own = true ∧ 0 < de.size ∧ 0 < n ∧ o + min m n * de.size ≤ b.cells.length ∧ (min m n = 0 ∨ o2 + min m n * de.size ≤ (cellsAt hp h2).length) ∧
              k (.c (.int .i64 (min m n : Nat))) (hp.set h ⟨true, splice b.cells o (((cellsAt hp h2).drop o2).take (min m n * de.size))⟩)
          | none => False
        | _, _, _ => False
      | _ => False
    | none => False
  | _, _ => False

def vStore (E : Env) (t : TypeId) (x y : V) (hp : List Blk) (k : V → List Blk → Prop) : Prop :=
  match E t, x, cellsOf y with
  | some d, .p h o, some vs => match hp[h]? with
    | some b => b.own = true ∧ vs.length = d.size ∧ vPut b.cells o vs fun cs => k (.c undef) (hp.set h ⟨true, cs⟩)
    | none => False
  | _, _, _ => False

def vMakeSlice (E : Env) (t : TypeId) (len cap : V) (hp : List Blk) (k : V → List Blk → Prop) : Prop :=
  match E t with
  | some d => match d.und, asI len, asI cap with
    | .slice e, some (_, n), some (_, c) => match E e with
      | some de => 0 ≤ n ∧ n ≤ c ∧ de.bytes * c ≤ 140737488355328 ∧ c ≤ 9223372036854775807 ∧
        k (.s hp.length 0 n.toNat c.toNat) (hp ++ [⟨true, (List.replicate c.toNat de.zero).flatten⟩])
      | none => False
    | _, _, _ => False
  | none => False

def vBuildSlice (E : Env) (t : TypeId) (len : Nat) (ps : List (Nat × V)) (hp : List Blk) (k : V → List Blk → Prop) : Prop :=
  match E t with
  | some d => match d.und with
    | .slice e => match E e with
      | some de => len * de.size ≤ 16777216 ∧ match fillV (fun i => some (i * de.size, de.size)) (List.replicate len de.zero).flatten ps with
        | some cs => k (.s hp.length 0 len len) (hp ++ [⟨true, cs⟩])
        | none => False
      | none => False
    | _ => False
  | none => False

def vApp (E : Env) (ts : List TypeId) (args : List V) (hp : List Blk) (k : V → List Blk → Prop) : Prop :=
  match args with
  | [s, .c (.int _ _)] => if emptyS s then vAppendZ E ts args hp k else vAppendY E ts args hp k
  | _ => vAppend E ts args hp k

/-- A call of a function without a body, which only reads: a plain value comes back. -/
def vExt (P : Program) (f : FuncId) (args : List V) (hp : List Blk) (k : V → List Blk → Prop) : Prop :=
  ∃ z : Value, k (.c z) hp ∧ ∀ (M : Nat → Prop) (w0 w : World) (ρ : Loc) (xs : List Value), Hd M w0 ρ hp w → relL ρ args xs → (callFunc f xs.toArray).run P w = .ok (.value z) w
/-- A call of a function value that captured nothing. -/
def vCallV (P : Program) (mu : List FuncId) (f : V) (args : List V) (hp : List Blk) (k : V → List Blk → Prop) : Prop :=
  match f with
  | .c (.func (.func f) fi ca) => fi = #[] ∧ ca = #[] ∧ mu.contains f = false ∧ (vCall P f args hp k ∨ vExt P f args hp k)
  | _ => False
/-- Operations that make or write memory. -/
def vcE (E : Env) (P : Program) (mu : List FuncId) (op : Op) (tm : List V) (hp : List Blk) (k : V → List Blk → Prop) : Prop :=
  match op with
  | .alloc t => match E t with
    | some d => k (.p hp.length 0) (hp ++ [⟨true, d.zero⟩])
    | none => False
  | .box _ x => match cellsOf (ev tm x) with
    | some cs => k (.p hp.length 0) (hp ++ [⟨true, cs⟩])
    | none => False
  | .buildSlice t len ps => vBuildSlice E t len (ps.toList.map fun q => (q.1, ev tm q.2)) hp k
  | .store t x y => vStore E t (ev tm x) (ev tm y) hp k
  | .makeSlice t l c => vMakeSlice E t (ev tm l) (ev tm c) hp k
  | .call { callee := .builtin .append, args, argTypes } => vApp E argTypes.toList (args.toList.map (ev tm)) hp k
  | .call { callee := .builtin .copy, args, argTypes } => vCopy E argTypes.toList (args.toList.map (ev tm)) hp k
  | .call { callee := .value (.func f), args, .. } => if mu.contains f then vCallM P f (args.toList.map (ev tm)) hp k else (vCall P f (args.toList.map (ev tm)) hp k ∨ vExt P f (args.toList.map (ev tm)) hp k)
  | .call { callee := .value (.tmp t), args, .. } => vCallV P mu (ev tm (.tmp t)) (args.toList.map (ev tm)) hp k
  | _ => False

def putV (tm : List V) (d : Option Tmp) (v : V) : List V :=
  match d with
  | some t => tm.set t v
  | none => tm

def vcOne (E : Env) (P : Program) (mu : List FuncId) (o : Oper) (tm : List V) (hp : List Blk) (k : List V → List Blk → Prop) : Prop :=
  if isS o.op then vcS E o.op tm hp fun v => k (putV tm o.dst v) hp
  else vcE E P mu o.op tm hp fun v hp' => k (putV tm o.dst v) hp'

/-- Under its guard. -/
def vcG (E : Env) (P : Program) (mu : List FuncId) (ops : List Oper) (o : Oper) (tm : List V) (hp : List Blk) (k : List V → List Blk → Prop) : Prop :=
  match o.guard with
  | none => vcOne E P mu o tm hp k
  | some (j, want) => match (ops[j]?).bind (·.dst) with
    | some d => match tm[d]? with
      | some (.c (.bool b)) => (b = want → vcOne E P mu o tm hp k) ∧ (b ≠ want → k (putV tm o.dst (.c undef)) hp)
      | some (.c (.tuple _)) => k (putV tm o.dst (.c undef)) hp
      | _ => False
    | none => False

def vcList (E : Env) (P : Program) (mu : List FuncId) (ops : List Oper) : List Oper → List V → List Blk → (List V → List Blk → Prop) → Prop
  | [], tm, hp, k => k tm hp
  | o :: rest, tm, hp, k => vcG E P mu ops o tm hp fun tm' hp' => vcList E P mu ops rest tm' hp' k

/-! ### Forgetting, for loops -/
-- A renaming of handles.
mutual
def V.ren (σ : List Nat) : V → V
  | .c x => .c x
  | .p h o => .p (σ.getD h 0) o
  | .s h o n m => .s (σ.getD h 0) o n m
  | .a cs => .a (V.renL σ cs)
  | .t vs => .t (V.renL σ vs)
  | .j => .j
def V.renL (σ : List Nat) : List V → List V
  | [] => []
  | v :: vs => v.ren σ :: V.renL σ vs
end

def leV (σ : List Nat) (v : V) : V → Prop
  | .j => True
  | u => v = u.ren σ
def leTm (σ : List Nat) : List V → List V → Prop
  | [], [] => True
  | v :: vs, u :: us => leV σ v u ∧ leTm σ vs us
  | _, _ => False
def leHp (σ : List Nat) (hp : List Blk) : List Nat → List Blk → Prop
  | [], [] => True
  | g :: gs, b :: bs => (b.cells = [] ∨ match hp[g]? with | some c => c.cells = V.renL σ b.cells ∧ (b.own = true → c.own = true) | none => False) ∧ leHp σ hp gs bs
  | _, _ => False
/-- The state (tm, hp) is one of those that (tm', hp') tells of, its handles renamed by σ. -/
def LeS (m : Nat) (σ : List Nat) (tm : List V) (hp : List Blk) (tm' : List V) (hp' : List Blk) : Prop :=
  σ.take m = List.range m ∧ σ.Nodup ∧ leTm σ tm tm' ∧ leHp σ hp σ hp' ∧ okL hp'.length tm' ∧ ∀ b ∈ hp', okL hp'.length b.cells

/-! ### Regions that draw their order: the order in which the operations are walked is given, and checked -/
/-- Operations that leave all blocks as they were that were there before (they may make new ones). -/
def presOp (mu : List FuncId) : Op → Bool
  | .alloc _ | .box .. | .buildSlice .. | .makeSlice .. => true
  | .call { callee := .value (.func f), .. } => !mu.contains f
  | .call { callee := .value (.tmp _), .. } => true
  | op => isS op

def isLoad : Op → Bool
  | .load .. => true
  | .convert .. => true
  | _ => false

/-- Whom an operation waits for, by a chain of at most n steps. -/
def waitsB (ops : Array Oper) (i : Nat) : Nat → Nat → Bool
  | 0, _ => false
  | n + 1, j => match ops[j]? with
    | some o => o.after.any fun e => Region.binds .any e && (e.on == i || waitsB ops i n e.on)
    | none => false

def takeB (mu : List FuncId) (ops : Array Oper) (listed : Array Bool) (i : Nat) : Bool :=
  match ops[i]? with
  | some o => isS o.op && Region.free .any ops listed i && (Region.ready .any ops listed).contains i &&
      (!isLoad o.op || (List.range ops.size).all fun j => j == i || listed.getD j true || waitsB ops i ops.size j || ((ops[j]?).map fun q => presOp mu q.op).getD true)
  | none => false

/-- The orders in which a region is walked: one operation and on; or, where several effects are ready at once, several ways, each from here. -/
inductive Tr where
  | nil
  | one (i : Nat) (t : Tr)
  | alt (a b : Tr)
  | cut (t : Tr)
/-- Without the mark that the ways meet behind the region. -/
def Tr.core : Tr → Tr
  | .cut t => t
  | t => t
def Tr.heads : Tr → List Nat
  | .nil => []
  | .one i _ => [i]
  | .alt a b => a.heads ++ b.heads
  | .cut _ => []
def Tr.size : Tr → Nat
  | .nil => 0
  | .one _ t => t.size + 1
  | .alt a b => a.size + b.size + 1
  | .cut t => t.size + 1

/-- Whatever variables of F were allocated ahead of their place: c holds of what is listed then, and of those that were not. -/
def chkSub (c : Array Bool → List Nat → Bool) : List Nat → Array Bool → List Nat → Bool
  | [], L, rest => c L rest
  | f :: F, L, rest => chkSub c F (L.setIfInBounds f true) rest && chkSub c F L (f :: rest)

def chkT (mu : List FuncId) (ops : Array Oper) : Bool → Array Bool → List Nat → Tr → Bool
  | cov, listed, F, .nil => !cov && F.isEmpty && (Region.ready .any ops listed).isEmpty
  | cov, listed, F, .one i t =>
    if F.contains i then !cov && chkSub (fun L rest => !rest.contains i || ((Region.ready .any ops L).contains i && (Region.ready .any ops L).all fun j => rest.contains j)) F listed [] && chkT mu ops false (listed.setIfInBounds i true) (F.filter (· != i)) t
    else (cov || chkSub (fun L rest => takeB mu ops L i || ((Region.ready .any ops L).contains i && (Region.ready .any ops L).all fun j => j == i || rest.contains j)) F listed []) && chkT mu ops false (listed.setIfInBounds i true) F t
  | cov, listed, F, .alt a b =>
    (cov || chkSub (fun L rest => !(Region.ready .any ops L).isEmpty && (Region.ready .any ops L).all fun j => (a.heads ++ b.heads).contains j || rest.contains j) F listed []) && chkT mu ops true listed F a && chkT mu ops true listed F b
  | _, _, _, .cut _ => false

/-- Variables that may be allocated ahead of their place: operation, slot. -/
abbrev Flt := List (Nat × Tmp)
def isAlloc (E : Env) (d : Tmp) : Oper → Bool
  | ⟨some d', .alloc t, _, _, _, none⟩ => d == d' && (match E t with | some dd => !dd.zero.isEmpty | none => false)
  | _ => false
def fltOK (E : Env) (ops : Array Oper) (F : Flt) : Bool :=
  F.all fun q => (match ops[q.1]? with | some o => isAlloc E q.2 o | none => false) &&
    (List.range ops.size).all fun j => j == q.1 || !((ops[j]?).bind (·.dst) == some q.2)
/-- Their slots are unknown until their place comes. -/
def killT : Flt → List V → List V
  | [], tm => tm
  | q :: F, tm => killT F (tm.set q.2 .j)

/-- All regions of a code that draw are walked in orders that are right. -/
def ordOK (E : Env) (mu : List FuncId) (ord : Nat → Tr) (flt : Nat → Flt) : Code → Bool
  | .region id ops draw => !draw || (Region.noSelect ops && fltOK E ops (flt id) && chkT mu ops false (Array.replicate ops.size false) ((flt id).map (·.1)) (ord id).core)
  | .seq a b => ordOK E mu ord flt a && ordOK E mu ord flt b
  | .cond _ a b => ordOK E mu ord flt a && ordOK E mu ord flt b
  | .block _ b => ordOK E mu ord flt b
  | .loop b => ordOK E mu ord flt b
  | .scope b => ordOK E mu ord flt b
  | .rangeFunc _ _ a b => ordOK E mu ord flt a && ordOK E mu ord flt b
  | _ => true

def vcSeq (E : Env) (P : Program) (mu : List FuncId) (ops : List Oper) : Tr → List V → List Blk → (List V → List Blk → Prop) → Prop
  | .nil, tm, hp, k => k tm hp
  | .one i t, tm, hp, k => match ops[i]? with
    | some o => vcG E P mu ops o tm hp fun tm' hp' => vcSeq E P mu ops t tm' hp' k
    | none => False
  | .alt a b, tm, hp, k => vcSeq E P mu ops a tm hp k ∧ vcSeq E P mu ops b tm hp k
  | .cut _, _, _, _ => False

/-- The rest behind a code: by how it ended. -/
def vThen (next : List V → List Blk → Prop) (Q : Exit → List V → List Blk → Prop) : Exit → List V → List Blk → Prop
  | .normal, tm, hp => next tm hp
  | e, tm, hp => Q e tm hp
def vBlock (id : Nat) (Q : Exit → List V → List Blk → Prop) : Exit → List V → List Blk → Prop
  | .exit id', tm, hp => if id' = id then Q .normal tm hp else Q (.exit id') tm hp
  | e, tm, hp => Q e tm hp

/-- What a function's conditions hang on: the types, the program, the orders of the regions that draw, the functions that write into an argument's memory, the number of blocks that came in. -/
structure Cx where
  E : Env
  P : Program
  ord : Nat → Tr
  flt : Nat → Flt
  mu : List FuncId
  m : Nat

/-- A loop: an invariant with a measure, chosen by the prover; 'body' says what a round must do. -/
def vLoop (m : Nat) (body : List V → List Blk → (Exit → List V → List Blk → Prop) → Prop) (tm : List V) (hp : List Blk) (Q : Exit → List V → List Blk → Prop) : Prop :=
  ∃ I : Nat → List V → List Blk → Prop, (∃ n tm' hp' σ, I n tm' hp' ∧ LeS m σ tm hp tm' hp') ∧
    ∀ n tm' hp', I n tm' hp' → body tm' hp' (vThen (fun tm1 hp1 => ∃ n', n' < n ∧ ∃ tm2 hp2 σ, I n' tm2 hp2 ∧ LeS m σ tm1 hp1 tm2 hp2) Q)

/-- A region that draws its order; if its tree is marked, all ways meet in states that I tells of. -/
def vCut (m : Nat) (E : Env) (P : Program) (mu : List FuncId) (ops : List Oper) (t : Tr) (tm : List V) (hp : List Blk) (k : List V → List Blk → Prop) : Prop :=
  ∃ I : List V → List Blk → Prop, vcSeq E P mu ops t tm hp (fun tm1 hp1 => ∃ tm2 hp2 σ, I tm2 hp2 ∧ LeS m σ tm1 hp1 tm2 hp2) ∧ ∀ tm' hp', I tm' hp' → k tm' hp'
def vcTop (m : Nat) (E : Env) (P : Program) (mu : List FuncId) (ops : List Oper) : Tr → List V → List Blk → (List V → List Blk → Prop) → Prop
  | .cut t, tm, hp, k => vCut m E P mu ops t tm hp k
  | t, tm, hp, k => vcSeq E P mu ops t tm hp k

def vCond (x : V) (A B : Prop) : Prop :=
  match x with
  | .c (.bool t) => (t = true → A) ∧ (t = false → B)
  | _ => False

def vcCode (X : Cx) : Code → List V → List Blk → (Exit → List V → List Blk → Prop) → Prop
  | .skip, tm, hp, Q => Q .normal tm hp
  | .ret, tm, hp, Q => Q .ret tm hp
  | .exit id, tm, hp, Q => Q (.exit id) tm hp
  | .seq a b, tm, hp, Q => vcCode X a tm hp (vThen (fun tm' hp' => vcCode X b tm' hp' Q) Q)
  | .cond x a b, tm, hp, Q => vCond (ev tm x) (vcCode X a tm hp Q) (vcCode X b tm hp Q)
  | .block id body, tm, hp, Q => vcCode X body tm hp (vBlock id Q)
  | .region id ops draw, tm, hp, Q => if draw then vcTop X.m X.E X.P X.mu ops.toList (X.ord id) (killT (X.flt id) tm) hp (Q .normal) else vcList X.E X.P X.mu ops.toList ops.toList tm hp (Q .normal)
  | .loop body, tm, hp, Q => vLoop X.m (vcCode X body) tm hp Q
  | _, _, _, _ => False

/-- What a function's end hands back. -/
def vResL (E : Env) : List ResultVar → List V → List Blk → (List V → Prop) → Prop
  | [], _, _, k => k []
  | .tmp t :: rs, tm, hp, k => vResL E rs tm hp fun vs => k (tm.getD t (.c undef) :: vs)
  | .cell p ty :: rs, tm, hp, k => vLoad E ty (tm.getD p (.c undef)) hp fun v => vResL E rs tm hp fun vs => k (v :: vs)
def vRes1 (k : V → Prop) : List V → Prop
  | [v] => k v
  | vs => k (.t vs)
def vRes (E : Env) (rs : List ResultVar) (tm : List V) (hp : List Blk) (k : V → Prop) : Prop := vResL E rs tm hp (vRes1 k)

def vEnd (E : Env) (rs : List ResultVar) (post : V → List Blk → Prop) : Exit → List V → List Blk → Prop
  | .normal, tm, hp => vRes E rs tm hp fun v => post v hp
  | .ret, tm, hp => vRes E rs tm hp fun v => post v hp
  | _, _, _ => False

/-- The rest, as data: so that a rewriting of the goal does not go into it. -/
inductive K where
  | fin (rs : List ResultVar) (post : V → List Blk → Prop)
  | seq (b : Code) (q : K)
  | blk (id : Nat) (q : K)
  | rnd (next : List V → List Blk → Prop) (q : K)

def den (X : Cx) : K → Exit → List V → List Blk → Prop
  | .fin rs post => vEnd X.E rs post
  | .seq b q => vThen (fun tm hp => vcCode X b tm hp (den X q)) (den X q)
  | .blk id q => vBlock id (den X q)
  | .rnd next q => vThen next (den X q)

def kC (X : Cx) (c : Code) (tm : List V) (hp : List Blk) (q : K) : Prop := vcCode X c tm hp (den X q)
def kL (X : Cx) (ops l : List Oper) (tm : List V) (hp : List Blk) (q : K) : Prop := vcList X.E X.P X.mu ops l tm hp (den X q .normal)
def kS (X : Cx) (ops : List Oper) (l : Tr) (tm : List V) (hp : List Blk) (q : K) : Prop := vcSeq X.E X.P X.mu ops l tm hp (den X q .normal)
def kT (X : Cx) (ops : List Oper) (l : Tr) (tm : List V) (hp : List Blk) (q : K) : Prop := vcTop X.m X.E X.P X.mu ops l tm hp (den X q .normal)
def kCut (X : Cx) (ops : List Oper) (l : Tr) (tm : List V) (hp : List Blk) (q : K) : Prop := vCut X.m X.E X.P X.mu ops l tm hp (den X q .normal)
def kLoop (X : Cx) (body : Code) (tm : List V) (hp : List Blk) (q : K) : Prop := vLoop X.m (vcCode X body) tm hp (den X q)
/-- Behind an operation: the rest of a region in the text's order | in a given order. -/
inductive R where
  | list (l : List Oper)
  | seq (l : Tr)
def kR (X : Cx) (ops : List Oper) (r : R) (tm : List V) (hp : List Blk) (q : K) : Prop :=
  match r with
  | .list l => kL X ops l tm hp q
  | .seq l => kS X ops l tm hp q
def kCall (X : Cx) (f : FuncId) (args : List V) (d : Option Tmp) (ops : List Oper) (r : R) (tm : List V) (hp : List Blk) (q : K) : Prop :=
  if X.mu.contains f then vCallM X.P f args hp fun v hp' => kR X ops r (putV tm d v) hp' q else (vCall X.P f args hp (fun v hp' => kR X ops r (putV tm d v) hp' q) ∨ vExt X.P f args hp fun v hp' => kR X ops r (putV tm d v) hp' q)
/-- A call of a function value. -/
def kCallV (X : Cx) (f : V) (args : List V) (d : Option Tmp) (ops : List Oper) (r : R) (tm : List V) (hp : List Blk) (q : K) : Prop :=
  vCallV X.P X.mu f args hp fun v hp' => kR X ops r (putV tm d v) hp' q
def kO (X : Cx) (ops : List Oper) (o : Oper) (r : R) (tm : List V) (hp : List Blk) (q : K) : Prop :=
  vcG X.E X.P X.mu ops o tm hp fun tm' hp' => kR X ops r tm' hp' q

section
variable {X : Cx} {tm : List V} {hp : List Blk} {q : K} {a b c : Code} {ops l : List Oper} {o : Oper} {r : R}
theorem kC_skip : kC X .skip tm hp q = den X q .normal tm hp := by unfold kC; rw [vcCode]
theorem kC_ret : kC X .ret tm hp q = den X q .ret tm hp := by unfold kC; rw [vcCode]
theorem kC_exit {id : Nat} : kC X (.exit id) tm hp q = den X q (.exit id) tm hp := by unfold kC; rw [vcCode]
theorem kC_seq : kC X (.seq a b) tm hp q = kC X a tm hp (.seq b q) := by unfold kC; rw [vcCode, den]
theorem kC_cond {x : Operand} : kC X (.cond x a b) tm hp q = vCond (ev tm x) (kC X a tm hp q) (kC X b tm hp q) := by unfold kC; rw [vcCode]
theorem kC_block {id : Nat} : kC X (.block id b) tm hp q = kC X b tm hp (.blk id q) := by unfold kC; rw [vcCode, den]
theorem kC_loop : kC X (.loop b) tm hp q = kLoop X b tm hp q := by unfold kC kLoop; rw [vcCode]
theorem kC_region {id : Nat} {l : List Oper} : kC X (.region id l.toArray false) tm hp q = kL X l l tm hp q := by unfold kC kL; rw [vcCode, if_neg (by simp)]
theorem kC_draw {id : Nat} {l : List Oper} : kC X (.region id l.toArray true) tm hp q = kT X l (X.ord id) (killT (X.flt id) tm) hp q := by unfold kC kT; rw [vcCode, if_pos rfl]
theorem den_fin {rs : List ResultVar} {post : V → List Blk → Prop} : den X (.fin rs post) .normal tm hp = vRes X.E rs tm hp fun v => post v hp := by rw [den, vEnd]
theorem den_fin_ret {rs : List ResultVar} {post : V → List Blk → Prop} : den X (.fin rs post) .ret tm hp = vRes X.E rs tm hp fun v => post v hp := by rw [den, vEnd]
theorem den_seq : den X (.seq b q) .normal tm hp = kC X b tm hp q := by rw [den, vThen, kC]
theorem den_seq_ret : den X (.seq b q) .ret tm hp = den X q .ret tm hp := by rw [den, vThen]; simp
theorem den_seq_exit {i : Nat} : den X (.seq b q) (.exit i) tm hp = den X q (.exit i) tm hp := by rw [den, vThen]; simp
theorem den_blk {id : Nat} : den X (.blk id q) .normal tm hp = den X q .normal tm hp := by rw [den, vBlock]; simp
theorem den_blk_ret {id : Nat} : den X (.blk id q) .ret tm hp = den X q .ret tm hp := by rw [den, vBlock]; simp
theorem den_blk_exit {id i : Nat} : den X (.blk id q) (.exit i) tm hp = if i = id then den X q .normal tm hp else den X q (.exit i) tm hp := by rw [den, vBlock]
theorem den_rnd {next : List V → List Blk → Prop} : den X (.rnd next q) .normal tm hp = next tm hp := by rw [den, vThen]
theorem den_rnd_ret {next : List V → List Blk → Prop} : den X (.rnd next q) .ret tm hp = den X q .ret tm hp := by rw [den, vThen]; simp
theorem den_rnd_exit {next : List V → List Blk → Prop} {i : Nat} : den X (.rnd next q) (.exit i) tm hp = den X q (.exit i) tm hp := by rw [den, vThen]; simp
theorem kL_nil : kL X ops [] tm hp q = den X q .normal tm hp := by unfold kL; rw [vcList]
theorem kL_cons : kL X ops (o :: l) tm hp q = kO X ops o (.list l) tm hp q := by unfold kL kO kR; rw [vcList]; rfl
theorem kS_nil : kS X ops .nil tm hp q = den X q .normal tm hp := by unfold kS; rw [vcSeq]
theorem kS_cons {i : Nat} {is : Tr} : kS X ops (.one i is) tm hp q = (match ops[i]? with | some o => kO X ops o (.seq is) tm hp q | none => False) := by unfold kS kO kR; rw [vcSeq]; rfl
theorem kS_alt {a b : Tr} : kS X ops (.alt a b) tm hp q = (kS X ops a tm hp q ∧ kS X ops b tm hp q) := by unfold kS; rw [vcSeq]
theorem kT_nil : kT X ops .nil tm hp q = kS X ops .nil tm hp q := rfl
theorem kT_one {i : Nat} {is : Tr} : kT X ops (.one i is) tm hp q = kS X ops (.one i is) tm hp q := rfl
theorem kT_alt {a b : Tr} : kT X ops (.alt a b) tm hp q = kS X ops (.alt a b) tm hp q := rfl
theorem kT_cut {a : Tr} : kT X ops (.cut a) tm hp q = kCut X ops a tm hp q := rfl
theorem kCut_of {α : Type} (S : α → List V × List Blk) (G : α → Prop) {a : Tr} (h : kS X ops a tm hp (.rnd (fun tm1 hp1 => ∃ a, G a ∧ ∃ σ, LeS X.m σ tm1 hp1 (S a).1 (S a).2) q))
    (hr : ∀ a, G a → den X q .normal (S a).1 (S a).2) : kCut X ops a tm hp q := by
  refine ⟨fun tm' hp' => ∃ a, G a ∧ tm' = (S a).1 ∧ hp' = (S a).2, ?_, ?_⟩
  · unfold kS at h
    have e : den X (.rnd (fun tm1 hp1 => ∃ a, G a ∧ ∃ σ, LeS X.m σ tm1 hp1 (S a).1 (S a).2) q) .normal = fun tm1 hp1 => ∃ tm2 hp2 σ, (∃ a, G a ∧ tm2 = (S a).1 ∧ hp2 = (S a).2) ∧ LeS X.m σ tm1 hp1 tm2 hp2 := by
      funext tm1 hp1
      rw [den_rnd]
      apply propext
      constructor
      · rintro ⟨a, h1, σ, h2⟩; exact ⟨_, _, σ, ⟨a, h1, rfl, rfl⟩, h2⟩
      · rintro ⟨_, _, σ, ⟨a, h1, rfl, rfl⟩, h2⟩; exact ⟨a, h1, σ, h2⟩
    rw [e] at h
    exact h
  · rintro tm' hp' ⟨a, h1, rfl, rfl⟩
    exact hr a h1
theorem kR_list : kR X ops (.list l) tm hp q = kL X ops l tm hp q := by rw [kR]
theorem kR_seq {is : Tr} : kR X ops (.seq is) tm hp q = kS X ops is tm hp q := by rw [kR]
end

section
variable {X : Cx} {tm : List V} {hp : List Blk} {q : K} {ops : List Oper} {r : R} {d : Option Tmp} {ty : TypeId} {pos : String} {af : Array Edge}
/-- An operation under a guard: the guard's value is the last argument. -/
def kGd (X : Cx) (ops : List Oper) (o : Oper) (want : Bool) (r : R) (tm : List V) (hp : List Blk) (q : K) (j : Option Nat) (g : Option V) : Prop :=
  match j, g with
  | some _, some (.c (.bool b)) => (b = want → kO X ops { o with guard := none } r tm hp q) ∧ (b ≠ want → kR X ops r (putV tm o.dst (.c undef)) hp q)
  | some _, some (.c (.tuple _)) => kR X ops r (putV tm o.dst (.c undef)) hp q
  | _, _ => False
theorem kO_guard {op : Op} {j : Nat} {want : Bool} : kO X ops ⟨d, op, ty, pos, af, some (j, want)⟩ r tm hp q =
    kGd X ops ⟨d, op, ty, pos, af, none⟩ want r tm hp q ((ops[j]?).bind (·.dst)) (((ops[j]?).bind (·.dst)).bind fun d' => tm[d']?) := by
  unfold kO kGd; rw [vcG]
  simp only
  cases h : (ops[j]?).bind (·.dst) with
  | none => rfl
  | some d' =>
    simp only [Option.bind_some]
    cases tm[d']? with
    | none => rfl
    | some v =>
      cases v with
      | c x => cases x <;> rfl
      | _ => rfl
theorem kGd_on {op : Op} {want : Bool} {j : Nat} : kGd X ops ⟨d, op, ty, pos, af, none⟩ want r tm hp q (some j) (some (.c (.bool want))) = kO X ops ⟨d, op, ty, pos, af, none⟩ r tm hp q := by
  simp [kGd]
theorem kGd_tf {op : Op} {j : Nat} : kGd X ops ⟨d, op, ty, pos, af, none⟩ true r tm hp q (some j) (some (.c (.bool false))) = kR X ops r (putV tm d (.c undef)) hp q := by simp [kGd]
theorem kGd_ft {op : Op} {j : Nat} : kGd X ops ⟨d, op, ty, pos, af, none⟩ false r tm hp q (some j) (some (.c (.bool true))) = kR X ops r (putV tm d (.c undef)) hp q := by simp [kGd]
/-- The guard's own operation was passed over. -/
theorem kGd_off {op : Op} {j : Nat} {want : Bool} : kGd X ops ⟨d, op, ty, pos, af, none⟩ want r tm hp q (some j) (some (.c undef)) = kR X ops r (putV tm d (.c undef)) hp q := by simp [kGd, undef]
theorem set_same {tm : List V} {j : Nat} {v : V} (h : tm[j]? = some v) : tm.set j v = tm := by
  apply List.ext_getElem?
  intro i
  rw [List.getElem?_set]
  split
  · rename_i e; subst e
    split
    · exact h.symm
    · rename_i hl; rw [List.getElem?_eq_none (by omega)]
  · rfl
/-- Split on a guard: the slot then holds the answer. -/
theorem kGd_split {o : Oper} {want : Bool} {j : Nat} {b : Bool} (hj : tm[j]? = some (.c (.bool b)))
    (h1 : b = true → kGd X ops o want r (tm.set j (.c (.bool true))) hp q (some j) (some (.c (.bool true))))
    (h2 : b = false → kGd X ops o want r (tm.set j (.c (.bool false))) hp q (some j) (some (.c (.bool false)))) : kGd X ops o want r tm hp q (some j) (some (.c (.bool b))) := by
  cases b with
  | true => have := h1 rfl; rwa [set_same hj] at this
  | false => have := h2 rfl; rwa [set_same hj] at this
theorem kO_S {op : Op} (h : isS op = true) : kO X ops ⟨d, op, ty, pos, af, none⟩ r tm hp q = vcS X.E op tm hp fun v => kR X ops r (putV tm d v) hp q := by
  unfold kO; rw [vcG]; simp only [vcOne, h, if_true]
theorem kO_E {op : Op} (h : isS op = false) : kO X ops ⟨d, op, ty, pos, af, none⟩ r tm hp q = vcE X.E X.P X.mu op tm hp fun v hp' => kR X ops r (putV tm d v) hp' q := by
  unfold kO; rw [vcG]; simp only [vcOne, h, Bool.false_eq_true, if_false]
theorem kO_move {x : Operand} : kO X ops ⟨d, .move x, ty, pos, af, none⟩ r tm hp q = kR X ops r (putV tm d (ev tm x)) hp q := by rw [kO_S rfl, vcS]
theorem kO_assign {x : Operand} : kO X ops ⟨d, .assign x, ty, pos, af, none⟩ r tm hp q = kR X ops r (putV tm d (ev tm x)) hp q := by rw [kO_S rfl, vcS]
theorem kO_build {t : TypeId} {ps : Array (Nat × Operand)} : kO X ops ⟨d, .build t ps, ty, pos, af, none⟩ r tm hp q = vBuild X.E t (ps.toList.map fun q => (q.1, ev tm q.2)) fun v => kR X ops r (putV tm d v) hp q := by rw [kO_S rfl, vcS]
theorem kO_load {t : TypeId} {x : Operand} : kO X ops ⟨d, .load t x, ty, pos, af, none⟩ r tm hp q = vLoad X.E t (ev tm x) hp fun v => kR X ops r (putV tm d v) hp q := by rw [kO_S rfl, vcS]
theorem kO_nilCheck {x : Operand} : kO X ops ⟨d, .nilCheck x, ty, pos, af, none⟩ r tm hp q = vNil (ev tm x) fun v => kR X ops r (putV tm d v) hp q := by rw [kO_S rfl, vcS]
theorem kO_binOp {op : BinOp} {t t' : TypeId} {x y : Operand} : kO X ops ⟨d, .binOp op t x y t', ty, pos, af, none⟩ r tm hp q = vBin X.E op t (ev tm x) (ev tm y) fun v => kR X ops r (putV tm d v) hp q := by rw [kO_S rfl, vcS]
theorem kO_unOp {op : UnOp} {t : TypeId} {x : Operand} : kO X ops ⟨d, .unOp op t x, ty, pos, af, none⟩ r tm hp q = vUn op (ev tm x) fun v => kR X ops r (putV tm d v) hp q := by rw [kO_S rfl, vcS]
theorem kO_convert {t t' : TypeId} {x : Operand} : kO X ops ⟨d, .convert t t' x, ty, pos, af, none⟩ r tm hp q = vConv X.E t t' (ev tm x) hp fun v => kR X ops r (putV tm d v) hp q := by rw [kO_S rfl, vcS]
theorem kO_arrPtr {t : TypeId} {x : Operand} : kO X ops ⟨d, .sliceToArrayPointer t x, ty, pos, af, none⟩ r tm hp q = vArrPtr X.E t (ev tm x) fun v => kR X ops r (putV tm d v) hp q := by rw [kO_S rfl, vcS]
theorem kO_slice {t : TypeId} {x : Operand} {lo hi mx : Option Operand} : kO X ops ⟨d, .slice t x lo hi mx, ty, pos, af, none⟩ r tm hp q = vSlice X.E t (ev tm x) (lo.map (ev tm)) (hi.map (ev tm)) (mx.map (ev tm)) fun v => kR X ops r (putV tm d v) hp q := by rw [kO_S rfl, vcS]
theorem kO_fieldAddr {t : TypeId} {x : Operand} {f : Nat} : kO X ops ⟨d, .fieldAddr t x f, ty, pos, af, none⟩ r tm hp q = vFieldAddr X.E t (ev tm x) f fun v => kR X ops r (putV tm d v) hp q := by rw [kO_S rfl, vcS]
theorem kO_field {t : TypeId} {x : Operand} {f : Nat} : kO X ops ⟨d, .field t x f, ty, pos, af, none⟩ r tm hp q = vField X.E t (ev tm x) f fun v => kR X ops r (putV tm d v) hp q := by rw [kO_S rfl, vcS]
theorem kO_indexAddr {t : TypeId} {x i : Operand} : kO X ops ⟨d, .indexAddr t x i, ty, pos, af, none⟩ r tm hp q = vIndexAddr X.E t (ev tm x) (ev tm i) fun v => kR X ops r (putV tm d v) hp q := by rw [kO_S rfl, vcS]
theorem kO_index {t : TypeId} {x i : Operand} : kO X ops ⟨d, .index t x i, ty, pos, af, none⟩ r tm hp q = vIndex X.E t (ev tm x) (ev tm i) fun v => kR X ops r (putV tm d v) hp q := by rw [kO_S rfl, vcS]
theorem kO_extract {x : Operand} {i : Nat} : kO X ops ⟨d, .extract x i, ty, pos, af, none⟩ r tm hp q = vExtract (ev tm x) i fun v => kR X ops r (putV tm d v) hp q := by rw [kO_S rfl, vcS]
theorem kO_pick {x y z : Operand} : kO X ops ⟨d, .pick x y z, ty, pos, af, none⟩ r tm hp q = vPick (ev tm x) (ev tm y) (ev tm z) fun v => kR X ops r (putV tm d v) hp q := by rw [kO_S rfl, vcS]
theorem kO_makeFunc {f : Fn} : kO X ops ⟨d, .makeFunc f #[] #[], ty, pos, af, none⟩ r tm hp q = kR X ops r (putV tm d (.c (.func f #[] #[]))) hp q := by rw [kO_S rfl, vcS]; simp
theorem kO_len {xs : Array Operand} {ts : Array TypeId} : kO X ops ⟨d, .call ⟨.builtin .len, xs, ts⟩, ty, pos, af, none⟩ r tm hp q = vLen X.E ts.toList (xs.toList.map (ev tm)) fun v => kR X ops r (putV tm d v) hp q := by rw [kO_S rfl, vcS]
theorem kO_cap {xs : Array Operand} {ts : Array TypeId} : kO X ops ⟨d, .call ⟨.builtin .cap, xs, ts⟩, ty, pos, af, none⟩ r tm hp q = vCap X.E ts.toList (xs.toList.map (ev tm)) fun v => kR X ops r (putV tm d v) hp q := by rw [kO_S rfl, vcS]
theorem kO_makeInterface {t : TypeId} {x : Operand} : kO X ops ⟨d, .makeInterface t x, ty, pos, af, none⟩ r tm hp q = False := by rw [kO_E rfl, vcE]; all_goals simp
theorem kO_min {xs : Array Operand} {ts : Array TypeId} : kO X ops ⟨d, .call ⟨.builtin .min, xs, ts⟩, ty, pos, af, none⟩ r tm hp q = vMin false (xs.toList.map (ev tm)) fun v => kR X ops r (putV tm d v) hp q := by rw [kO_S rfl, vcS]
theorem kO_max {xs : Array Operand} {ts : Array TypeId} : kO X ops ⟨d, .call ⟨.builtin .max, xs, ts⟩, ty, pos, af, none⟩ r tm hp q = vMin true (xs.toList.map (ev tm)) fun v => kR X ops r (putV tm d v) hp q := by rw [kO_S rfl, vcS]
theorem kO_alloc {t : TypeId} : kO X ops ⟨d, .alloc t, ty, pos, af, none⟩ r tm hp q = (match X.E t with | some dd => kR X ops r (putV tm d (.p hp.length 0)) (hp ++ [⟨true, dd.zero⟩]) q | none => False) := by rw [kO_E rfl, vcE]
theorem kO_box {t : TypeId} {x : Operand} : kO X ops ⟨d, .box t x, ty, pos, af, none⟩ r tm hp q = (match cellsOf (ev tm x) with | some cs => kR X ops r (putV tm d (.p hp.length 0)) (hp ++ [⟨true, cs⟩]) q | none => False) := by rw [kO_E rfl, vcE]
theorem kO_buildSlice {t : TypeId} {n : Nat} {ps : Array (Nat × Operand)} : kO X ops ⟨d, .buildSlice t n ps, ty, pos, af, none⟩ r tm hp q = vBuildSlice X.E t n (ps.toList.map fun q => (q.1, ev tm q.2)) hp fun v hp' => kR X ops r (putV tm d v) hp' q := by rw [kO_E rfl, vcE]
theorem kO_store {t : TypeId} {x y : Operand} : kO X ops ⟨d, .store t x y, ty, pos, af, none⟩ r tm hp q = vStore X.E t (ev tm x) (ev tm y) hp fun v hp' => kR X ops r (putV tm d v) hp' q := by rw [kO_E rfl, vcE]
theorem kO_makeSlice {t : TypeId} {x y : Operand} : kO X ops ⟨d, .makeSlice t x y, ty, pos, af, none⟩ r tm hp q = vMakeSlice X.E t (ev tm x) (ev tm y) hp fun v hp' => kR X ops r (putV tm d v) hp' q := by rw [kO_E rfl, vcE]
theorem kO_append {xs : Array Operand} {ts : Array TypeId} : kO X ops ⟨d, .call ⟨.builtin .append, xs, ts⟩, ty, pos, af, none⟩ r tm hp q = vApp X.E ts.toList (xs.toList.map (ev tm)) hp fun v hp' => kR X ops r (putV tm d v) hp' q := by rw [kO_E rfl, vcE]
theorem kO_copy {xs : Array Operand} {ts : Array TypeId} : kO X ops ⟨d, .call ⟨.builtin .copy, xs, ts⟩, ty, pos, af, none⟩ r tm hp q = vCopy X.E ts.toList (xs.toList.map (ev tm)) hp fun v hp' => kR X ops r (putV tm d v) hp' q := by rw [kO_E rfl, vcE]
theorem kO_callV {t : Tmp} {xs : Array Operand} {ts : Array TypeId} : kO X ops ⟨d, .call ⟨.value (.tmp t), xs, ts⟩, ty, pos, af, none⟩ r tm hp q = kCallV X (ev tm (.tmp t)) (xs.toList.map (ev tm)) d ops r tm hp q := by rw [kO_E rfl, vcE]; rfl
theorem kCallV_of {f : FuncId} {args : List V} (hmu : X.mu.contains f = false) (h : kCall X f args d ops r tm hp q) : kCallV X (.c (.func (.func f) #[] #[])) args d ops r tm hp q := by
  unfold kCall at h
  rw [if_neg (by rw [hmu]; simp)] at h
  exact ⟨rfl, rfl, hmu, h⟩
theorem kO_call {f : FuncId} {xs : Array Operand} {ts : Array TypeId} : kO X ops ⟨d, .call ⟨.value (.func f), xs, ts⟩, ty, pos, af, none⟩ r tm hp q = kCall X f (xs.toList.map (ev tm)) d ops r tm hp q := by rw [kO_E rfl, vcE]; rfl
end

/-- What is to be shown of a function. -/
def kFun (X : Cx) (fn : Func) (args : List V) (ha : List Blk) (post : V → List Blk → Prop) : Prop :=
  match fn.body with
  | some c => kC X c (args ++ List.replicate (fn.ntmps - args.length) (.c undef)) ha (.fin fn.results.toList post)
  | none => False
end Go.Vc
/- The verification conditions of the operations that leave the world as it is: each is sound. -/
set_option linter.unusedSimpArgs false
set_option linter.unusedVariables false
namespace Go.Vc
open Go

structure EnvOK (P : Program) (E : Env) : Prop where
  und : ∀ {t d}, E t = some d → P.underlying t = some d.und
  info : ∀ {t d}, E t = some d → ∃ i z, P.info? t = some i ∧ i.size = d.size ∧ i.bytes = d.bytes ∧ i.zero = some z ∧ z.cells.toList.map V.c = d.zero ∧
    (∀ c ∈ z.cells.toList, c.oneCell' = true) ∧ d.zero.length = d.size
  eqg : ∀ {t d}, E t = some d → P.eqGuardType P.depth t = d.eqg
  mixed : P.follows .mixedOrders = true
  stood : ∀ {t d}, E t = some d → d.zero.all isI = true → P.stoodInHeld t = false

section
variable {P : Program} {E : Env} {t : TypeId} {d : TD} {M : Nat → Prop} {w0 w : World} {ρ : Loc} {hp : List Blk}

theorem EnvOK.run_und (hE : EnvOK P E) (h : E t = some d) (w : World) : (underlying t).run P w = .ok d.und w := run_underlying (hE.und h) w
theorem EnvOK.run_size (hE : EnvOK P E) (h : E t = some d) (w : World) : (sizeOf t).run P w = .ok d.size w := by
  obtain ⟨i, z, hi, hs, _⟩ := hE.info h
  simp [sizeOf, typeInfo, hi, hs]
theorem EnvOK.run_isAgg (hE : EnvOK P E) (h : E t = some d) (w : World) : (isAgg t).run P w = .ok (isAggD d.und) w := by
  unfold isAgg
  rw [Sem.run_bind, hE.run_und h w]
  cases hd : d.und <;> simp [isAggD]
theorem EnvOK.zero (hE : EnvOK P E) (h : E t = some d) : ∃ z : Value, (∀ w, (zeroValue t).run P w = .ok z w) ∧ z.cells.toList.map V.c = d.zero ∧ (∀ c ∈ z.cells.toList, c.oneCell' = true) ∧ d.zero.length = d.size ∧ z.cells.size = d.size := by
  obtain ⟨i, z, hi, hs, _, hz, h1, h2, h3⟩ := hE.info h
  refine ⟨z, fun w => by simp [zeroValue, typeInfo, hi, hz], h1, h2, h3, ?_⟩
  rw [← h3, ← h1]; simp

theorem relL_of_c : ∀ (l : List Value), relL ρ (l.map V.c) l
  | [] => by simp [relL]
  | a :: l => by
    simp only [List.map_cons]
    unfold relL
    exact ⟨_, _, rfl, rfl, relL_of_c l⟩

theorem okL_of_c : ∀ {N : Nat} (l : List Value), okL N (l.map V.c)
  | _, [] => by simp [okL]
  | _, _ :: l => by simp only [List.map_cons, okL]; exact ⟨trivial, okL_of_c l⟩

theorem okL_get {N : Nat} {l : List V} (h : okL N l) {i : Nat} {v : V} (hv : l[i]? = some v) : okV N v := okL_iff.1 h v (List.mem_of_getElem? hv)
theorem okL_take {N : Nat} {l : List V} (h : okL N l) (n : Nat) : okL N (l.take n) := okL_iff.2 fun v hv => okL_iff.1 h v (List.mem_of_mem_take hv)
theorem okL_drop {N : Nat} {l : List V} (h : okL N l) (n : Nat) : okL N (l.drop n) := okL_iff.2 fun v hv => okL_iff.1 h v (List.mem_of_mem_drop hv)
theorem okL_append {N : Nat} {l l' : List V} (h : okL N l) (h' : okL N l') : okL N (l ++ l') := okL_iff.2 fun v hv => (List.mem_append.1 hv).elim (okL_iff.1 h v) (okL_iff.1 h' v)
theorem okL_set {N : Nat} {l : List V} (h : okL N l) {v : V} (hv : okV N v) (n : Nat) : okL N (l.set n v) := okL_iff.2 fun u hu => (List.mem_or_eq_of_mem_set hu).elim (okL_iff.1 h u) (fun e => e ▸ hv)

theorem ev_ok {N : Nat} {tm : List V} (h : okL N tm) (x : Operand) : okV N (ev tm x) := by
  cases x with
  | tmp t =>
    simp only [ev, List.getD_eq_getElem?_getD]
    cases ht : tm[t]? with
    | none => simp [okV]
    | some v => simpa using okL_get h ht
  | const v => simp [ev, okV]
  | global g => simp [ev, okV]
  | func f => simp [ev, okV]

theorem ev_rel {tm : List V} {a : Act} (h : relL ρ tm a.tmps.toList) (x : Operand) : rel ρ (ev tm x) (a.eval x) := by
  cases x with
  | tmp t =>
    simp only [ev, Act.eval, List.getD_eq_getElem?_getD]
    have hl := relL_length h
    cases ht : tm[t]? with
    | none =>
      have : tm.length ≤ t := by simpa using ht
      have h2 : a.tmps[t]? = none := by simp at hl ⊢; omega
      simp [rel, Array.getD_eq_getD_getElem?, h2]
    | some v =>
      obtain ⟨y, hy, hr⟩ := relL_get h ht
      have hy' : a.tmps[t]? = some y := by simpa using hy
      simpa [Array.getD_eq_getD_getElem?, hy'] using hr
  | const v => simp [ev, Act.eval, rel]
  | global g => simp [ev, Act.eval, rel]
  | func f => simp [ev, Act.eval, rel]

theorem evs_rel {tm : List V} {a : Act} (h : relL ρ tm a.tmps.toList) : ∀ (l : List Operand), relL ρ (l.map (ev tm)) (l.map a.eval)
  | [] => by simp [relL]
  | x :: l => by simp only [List.map_cons]; unfold relL; exact ⟨_, _, rfl, ev_rel h x, evs_rel h l⟩
theorem evs_ok {N : Nat} {tm : List V} (h : okL N tm) : ∀ (l : List Operand), okL N (l.map (ev tm))
  | [] => by simp [okL]
  | x :: l => by simp only [List.map_cons, okL]; exact ⟨ev_ok h x, evs_ok h l⟩

theorem addr_add (b o n : Nat) : (⟨b, o, none⟩ : Addr).add n = ⟨b, o + n, none⟩ := by
  unfold Addr.add; split <;> simp_all

theorem range_map_get {α : Type} {f : Nat → α} {n j : Nat} {u : α} (h : ((List.range n).map f)[j]? = some u) : j < n ∧ u = f j := by
  rw [List.getElem?_map] at h
  by_cases hj : j < n
  · rw [List.getElem?_range hj] at h; simp at h; exact ⟨hj, h.symm⟩
  · rw [List.getElem?_eq_none (by simp; omega)] at h; simp at h

/-- Reading a run of cells. -/
theorem Hd.loadCells (h : Hd M w0 ρ hp w) {g : Nat} {b : Blk} (hg : hp[g]? = some b) (o n : Nat) (hn : o + n ≤ b.cells.length) :
    ∃ xs : List Value, relL ρ ((b.cells.drop o).take n) xs ∧ (∀ x ∈ xs, x.oneCell' = true) ∧ xs.length = n ∧
      (∀ j u, xs[j]? = some u → w.cell? ⟨(ρ g).1, (ρ g).2 + o + j, none⟩ = some u) ∧
      ∀ w', Keep none' w w' → (Go.loadCells ⟨(ρ g).1, (ρ g).2 + o, none⟩ n).run P w' = .ok xs.toArray w' := by
  have key : ∀ j, j < n → ∃ x, w.cell? ⟨(ρ g).1, (ρ g).2 + (o + j), none⟩ = some x ∧ x.oneCell' = true ∧ ∀ v, b.cells[o + j]? = some v → rel ρ v x := by
    intro j hj
    have hlt : o + j < b.cells.length := by omega
    obtain ⟨x, hx, h1, h2⟩ := h.cell g b hg (o + j) _ (List.getElem?_eq_getElem hlt)
    exact ⟨x, hx, h1, fun v hv => by rw [List.getElem?_eq_getElem hlt] at hv; cases hv; exact h2⟩
  let f : Nat → Value := fun j => (w.cell? ⟨(ρ g).1, (ρ g).2 + (o + j), none⟩).getD undef
  have hf : ∀ j, j < n → w.cell? ⟨(ρ g).1, (ρ g).2 + (o + j), none⟩ = some (f j) := fun j hj => by
    obtain ⟨x, hx, _⟩ := key j hj
    simp only [f, hx, Option.getD_some]
  refine ⟨(List.range n).map f, ?_, ?_, by simp, ?_, ?_⟩
  · refine relL_of_get (by simp; omega) fun j v x hv hx => ?_
    obtain ⟨hj, rfl⟩ := range_map_get hx
    rw [List.getElem?_take, if_pos hj, List.getElem?_drop] at hv
    obtain ⟨y, hy, _, h2⟩ := key j hj
    have := hf j hj
    rw [hy] at this; cases this
    exact h2 v hv
  · intro x hx
    simp at hx
    obtain ⟨j, hj, rfl⟩ := hx
    obtain ⟨y, hy, h1, _⟩ := key j hj
    have := hf j hj
    rw [hy] at this; cases this
    exact h1
  · intro j u hu
    obtain ⟨hj, rfl⟩ := range_map_get hu
    rw [Nat.add_assoc]; exact hf j hj
  · intro w' k
    refine run_loadCells w' _ n f fun j hj => ?_
    rw [addr_add, Nat.add_assoc]
    exact (k.cell (World.block_lt_of_cell? _ _ (hf j hj)) (fun hf => hf)).trans (hf j hj)

theorem getD_some {l : List V} {o : Nat} (h : o < l.length) : l[o]? = some (l.getD o .j) := by
  rw [List.getD_eq_getElem?_getD, List.getElem?_eq_getElem h]; simp

theorem vLoad_sound (hE : EnvOK P E) (hd : Hd M w0 ρ hp w) {x : V} {v : Value} (hx : rel ρ x v) {k : V → Prop} (h : vLoad E t x hp k) :
    ∃ u y, k u ∧ rel ρ u y ∧ okV hp.length u ∧ ∀ w', Keep none' w w' → (Instr.loadAt t v).run P w' = .ok y w' := by
  unfold vLoad vSub vGet at h
  cases hE0 : E t with
  | none => simp [hE0] at h
  | some dd =>
    cases x <;> simp only [hE0] at h
    case p h0 o =>
    unfold rel at hx
    subst hx
    cases hb : hp[h0]? with
    | none => simp [hb] at h
    | some b =>
      simp only [hb] at h
      by_cases ha : isAggD dd.und = true
      · rw [if_pos ha] at h
        obtain ⟨hl, hk⟩ := h
        obtain ⟨xs, h1, h2, h3, _, h5⟩ := hd.loadCells (P := P) hb o dd.size hl
        refine ⟨_, .agg xs.toArray, hk, ?_, ?_, fun w' k' => ?_⟩
        · unfold rel; exact ⟨xs, rfl, h1, h2⟩
        · unfold okV; exact okL_take (okL_drop (hd.ok b (List.mem_of_getElem? hb)) _) _
        · simp [Instr.loadAt, Instr.sureAddr, loadVar, hE.run_isAgg hE0, ha, hE.run_size hE0, h5 w' k']
      · rw [if_neg ha] at h
        obtain ⟨hl, hk⟩ := h
        have hg := getD_some hl
        obtain ⟨y, hy, h1, h2⟩ := hd.cell h0 b hb o _ hg
        refine ⟨_, y, hk, h2, okL_get (hd.ok b (List.mem_of_getElem? hb)) hg, fun w' k' => ?_⟩
        have hy' := (k'.cell (World.block_lt_of_cell? _ _ hy) (fun hf => hf)).trans hy
        simp [Instr.loadAt, Instr.sureAddr, loadVar, hE.run_isAgg hE0, ha, hy']
    all_goals exact h.elim

theorem vNil_sound {N : Nat} {x : V} {v : Value} (hx : rel ρ x v) (hk : okV N x) {k : V → Prop} (h : vNil x k) {o : Oper} {ρ' : Operand → Value} {z : Operand} (ho : o.op = .nilCheck z) (hz : ρ' z = v) :
    ∃ u y, k u ∧ rel ρ u y ∧ okV N u ∧ ∀ w', (execOp ρ' o).run P w' = .ok (.value y) w' := by
  unfold vNil at h
  split at h
  · unfold rel at hx; subst hx
    exact ⟨_, _, h, rfl, hk, fun w' => by simp [execOp, ho, hz]⟩
  · unfold rel at hx; subst hx
    exact ⟨_, _, h, rfl, hk, fun w' => by simp [execOp, ho, hz]⟩
  · unfold rel at hx; subst hx
    exact ⟨_, _, h, rfl, hk, fun w' => by simp [execOp, ho, hz]⟩
  · exact h.elim

theorem vInt_sound {op : BinOp} {ka kb : IntKind} {a b : Int} {k : V → Prop} (h : vInt op ka a kb b k) :
    ∃ y, k (.c y) ∧ ∀ w, (binOp op t (.int ka a) (.int kb b)).run P w = .ok y w := by
  cases op <;> simp only [vInt] at h
  case add => obtain ⟨rfl, h⟩ := h; exact ⟨_, h, fun w => by simp [binOp, Op.intArith]⟩
  case sub => obtain ⟨rfl, h⟩ := h; exact ⟨_, h, fun w => by simp [binOp, Op.intArith]⟩
  case mul => obtain ⟨rfl, h⟩ := h; exact ⟨_, h, fun w => by simp [binOp, Op.intArith]⟩
  case quo => obtain ⟨rfl, h0, h⟩ := h; exact ⟨_, h, fun w => by simp [binOp, Op.intDiv, h0]⟩
  case rem => obtain ⟨rfl, h0, h⟩ := h; exact ⟨_, h, fun w => by simp [binOp, Op.intDiv, h0]⟩
  case and => obtain ⟨rfl, h⟩ := h; exact ⟨_, h, fun w => by simp [binOp, Op.intBits, bitI]⟩
  case or => obtain ⟨rfl, h⟩ := h; exact ⟨_, h, fun w => by simp [binOp, Op.intBits, bitI]⟩
  case xor => obtain ⟨rfl, h⟩ := h; exact ⟨_, h, fun w => by simp [binOp, Op.intBits, bitI]⟩
  case andNot => obtain ⟨rfl, h⟩ := h; exact ⟨_, h, fun w => by simp [binOp, Op.intBits, bitI]⟩
  case shl => obtain ⟨h0, h⟩ := h; exact ⟨_, h, fun w => by simp [binOp, Op.shift, show ¬ b < 0 by omega]⟩
  case shr => obtain ⟨h0, h⟩ := h; exact ⟨_, h, fun w => by simp [binOp, Op.shift, show ¬ b < 0 by omega]⟩
  case eql => obtain ⟨rfl, h⟩ := h; exact ⟨_, h, fun w => by simp [binOp, Op.intCmp]⟩
  case neq => obtain ⟨rfl, h⟩ := h; exact ⟨_, h, fun w => by simp [binOp, Op.intCmp]⟩
  case lss => obtain ⟨rfl, h⟩ := h; exact ⟨_, h, fun w => by simp [binOp, Op.intCmp]⟩
  case leq => obtain ⟨rfl, h⟩ := h; exact ⟨_, h, fun w => by simp [binOp, Op.intCmp]⟩
  case gtr => obtain ⟨rfl, h⟩ := h; exact ⟨_, h, fun w => by simp [binOp, Op.intCmp]⟩
  case geq => obtain ⟨rfl, h⟩ := h; exact ⟨_, h, fun w => by simp [binOp, Op.intCmp]⟩

/-! Equality of arrays of integers. -/
theorem relL_intCells {ki : IntKind} : ∀ {cs : List V} {l : List Value}, intCells ki cs → relL ρ cs l → ∃ ns : List Int, l = ns.map (Value.int ki) ∧ cs = ns.map fun n => V.c (.int ki n)
  | [], l, _, h => by unfold relL at h; subst h; exact ⟨[], rfl, rfl⟩
  | c :: cs, l, hi, h => by
    unfold relL at h
    obtain ⟨x, xs, rfl, h2, h3⟩ := h
    obtain ⟨n, rfl⟩ := hi c (by simp)
    obtain ⟨ns, rfl, rfl⟩ := relL_intCells (fun c hc => hi c (by simp [hc])) h3
    unfold rel at h2
    subst h2
    exact ⟨n :: ns, rfl, rfl⟩

theorem run_part_int (hE : EnvOK P E) {e : TypeId} {de : TD} (he : E e = some de) {ki : IntKind} (hi : de.und = .int ki) (l : List Value) (off : Nat) (v : Value) (hv : l[off]? = some v) (w : World) :
    (part e l.toArray off).run P w = .ok v w := by
  unfold part
  simp [hE.run_isAgg he, hi, isAggD, hv]

theorem run_forIn_eq {ms ns : List Int} {n : Nat} (hm : ms.length = n) (hn : ns.length = n) {w : World} {f : Nat → Option Bool × Unit → Sem (ForInStep (Option Bool × Unit))}
    (hf : ∀ i, i < n → ∀ s, (f i s).run P w = .ok (if ms[i]? = ns[i]? then ForInStep.yield (none, ()) else ForInStep.done (some false, ())) w) :
    ∀ (m i : Nat), i + m = n → (forIn (List.range' i m) ((none, ()) : Option Bool × Unit) f).run P w = .ok (if ms.drop i = ns.drop i then (none, ()) else (some false, ())) w
  | 0, i, hi => by
    have h1 : ms.drop i = [] := List.drop_eq_nil_of_le (by omega)
    have h2 : ns.drop i = [] := List.drop_eq_nil_of_le (by omega)
    simp [h1, h2]
  | m + 1, i, hi => by
    have hmi : i < ms.length := by omega
    have hni : i < ns.length := by omega
    rw [List.range'_succ, List.forIn_cons, Sem.run_bind, hf i (by omega), Result.andThen_ok]
    rw [List.drop_eq_getElem_cons hmi, List.drop_eq_getElem_cons hni, List.getElem?_eq_getElem hmi, List.getElem?_eq_getElem hni]
    by_cases hq : ms[i] = ns[i]
    · rw [if_pos (by rw [hq])]
      simp only [run_forIn_eq hm hn hf m (i + 1) (by omega), hq, List.cons.injEq, true_and]
    · rw [if_neg (by simpa using hq)]
      simp only [Result.andThen_ok, List.cons.injEq, hq, false_and, if_false, Sem.run_pure]

theorem run_equal_ints (hE : EnvOK P E) {e : TypeId} {de : TD} (he : E e = some de) {ki : IntKind} (hi : de.und = .int ki) (h1 : de.size = 1) {n : Nat} (ht : P.underlying t = some (.array n e))
    (ms ns : List Int) (hm : ms.length = n) (hn : ns.length = n) (w : World) :
    (Op.equal t (.agg (ms.map (Value.int ki)).toArray) (.agg (ns.map (Value.int ki)).toArray)).run P w = .ok (decide (ms = ns)) w := by
  unfold Op.equal Op.maxDepth
  rw [show (10000 : Nat) = 9999 + 1 from rfl]
  generalize hD : (9999 : Nat) = D
  simp only [Op.equalIn, Sem.run_bind, run_underlying ht, Result.andThen_ok, hE.run_size he, h1, Nat.mul_one]
  obtain ⟨D', rfl⟩ : ∃ D', D = D' + 1 := ⟨9998, by omega⟩
  have hu := hE.und he
  rw [hi] at hu
  simp only [Std.Legacy.Range.forIn_eq_forIn_range', Std.Legacy.Range.size, Nat.sub_zero, Nat.add_sub_cancel, Nat.div_one]
  rw [run_forIn_eq hm hn (w := w) (fun i hi' s => ?_) n 0 (by omega)]
  · simp only [Result.andThen_ok, List.drop_zero]
    by_cases hq : ms = ns <;> simp [hq]
  · have hmi : i < ms.length := by omega
    have hni : i < ns.length := by omega
    have p1 := run_part_int hE he hi (ms.map (Value.int ki)) i (.int ki ms[i]) (by simp [hmi]) w
    have p2 := run_part_int hE he hi (ns.map (Value.int ki)) i (.int ki ns[i]) (by simp [hni]) w
    have p3 := run_equalIn_int (P := P) w D' e ki ki ms[i] ns[i] hu
    simp only [Sem.run_bind, p1, p2, p3, Result.andThen_ok, List.getElem?_eq_getElem hmi, List.getElem?_eq_getElem hni, Option.some.injEq]
    by_cases hq : ms[i] = ns[i] <;> simp [hq]

/-! Equality of a value of integers with itself. -/
def valP (td : TD) (vs : List Value) : Value := if isAggD td.und then .agg vs.toArray else vs.getD 0 (.int .i64 0)
theorem plain_one {t : TypeId} {td : TD} (ht : E t = some td) : ∀ {n : Nat}, plainT E n t = true → isAggD td.und = false → td.size = 1
  | 0, h, _ => by simp [plainT] at h
  | n + 1, h, ha => by
    rw [plainT, ht] at h
    simp only at h
    cases hd : td.und <;> simp only [hd] at h ha <;> first | exact Bool.noConfusion h | exact beq_iff_eq.1 h | exact Bool.noConfusion ha
theorem run_part_plain (hE : EnvOK P E) {e : TypeId} {de : TD} (he : E e = some de) (vs : List Value) (off : Nat) (h : off + de.size ≤ vs.length) (h1 : isAggD de.und = false → de.size = 1) (w : World) :
    (part e vs.toArray off).run P w = .ok (valP de ((vs.drop off).take de.size)) w := by
  unfold part valP
  rw [Sem.run_bind, hE.run_isAgg he, Result.andThen_ok]
  cases hd : isAggD de.und
  · have h2 := h1 hd
    have hl : off < vs.length := by omega
    simp [h2, hl, List.getD_eq_getElem?_getD, List.getElem?_take]
  · simp [hE.run_size he]
theorem run_forIn_all {α : Type} {w : World} {f : α → Option Bool × Unit → Sem (ForInStep (Option Bool × Unit))} : ∀ (l : List α), (∀ x ∈ l, (f x (none, ())).run P w = .ok (.yield (none, ())) w) → (forIn l ((none, ()) : Option Bool × Unit) f).run P w = .ok (none, ()) w
  | [], _ => by simp
  | x :: l, h => by
    rw [List.forIn_cons, Sem.run_bind, h x (by simp), Result.andThen_ok]
    exact run_forIn_all l fun y hy => h y (by simp [hy])
theorem run_equal_plain (hE : EnvOK P E) (w : World) : ∀ (n : Nat) (t : TypeId) (td : TD) (vs : List Value) (D : Nat), plainT E n t = true → E t = some td → vs.length = td.size → (∀ v ∈ vs, ∃ k m, v = Value.int k m) → (Op.equalIn (D + n) t (valP td vs) (valP td vs)).run P w = .ok true w
  | 0, t, td, vs, D, h, _, _, _ => by simp [plainT] at h
  | n + 1, t, td, vs, D, h, ht, hl, hv => by
    have h0 := h
    rw [plainT, ht] at h
    simp only at h
    have hu := hE.und ht
    rw [← Nat.add_assoc]
    cases hd : td.und <;> simp only [hd] at h hu <;> first | exact Bool.noConfusion h | skip
    case int ki =>
      have h1 : td.size = 1 := by simpa using h
      obtain ⟨v, rfl⟩ : ∃ v, vs = [v] := List.length_eq_one_iff.1 (by rw [hl, h1])
      obtain ⟨k, m, rfl⟩ := hv v (by simp)
      simp [valP, hd, isAggD, Op.equalIn, run_underlying hu]
    case array len e =>
      cases he : E e with
      | none => simp [he] at h
      | some de =>
        simp only [he, Bool.and_eq_true, beq_iff_eq] at h
        obtain ⟨hp, hs⟩ := h
        simp only [valP, hd, isAggD, if_true, Op.equalIn, Sem.run_bind, run_underlying hu, Result.andThen_ok, hE.run_size he]
        simp only [Std.Legacy.Range.forIn_eq_forIn_range', Std.Legacy.Range.size, Nat.sub_zero, Nat.add_sub_cancel, Nat.div_one]
        rw [run_forIn_all (w := w) _ fun i hi => ?_]
        · simp
        · have hi2 : i < len := by simpa [List.mem_range'] using hi
          have hb : i * de.size + de.size ≤ vs.length := by
            rw [hl, ← hs]
            calc i * de.size + de.size = (i + 1) * de.size := by rw [Nat.succ_mul]
              _ ≤ len * de.size := Nat.mul_le_mul_right _ hi2
          have p1 := run_part_plain hE he vs (i * de.size) hb (plain_one he hp) w
          have p2 := run_equal_plain hE w n e de ((vs.drop (i * de.size)).take de.size) D hp he (by rw [List.length_take, List.length_drop]; omega) (fun v h => hv v (List.mem_of_mem_drop (List.mem_of_mem_take h)))
          simp only [Sem.run_bind, p1, p2, Result.andThen_ok]
          simp
    case struct fs =>
      rw [Bool.and_eq_true] at h
      obtain ⟨hz, h⟩ := h
      simp only [valP, hd, isAggD, if_true, Op.equalIn, Sem.run_bind, run_underlying hu, Result.andThen_ok]
      simp only [Sem.run_bind, run_program, Result.andThen_ok, hE.stood ht hz]
      simp only [Bool.false_eq_true, if_false, Sem.run_bind]
      rw [← Array.forIn_toList, run_forIn_all (P := P) (w := w) fs.toList fun f hf => ?_]
      · simp
      · have hf2 := List.all_eq_true.1 h f hf
        cases he : E f.type with
        | none => simp [he] at hf2
        | some de =>
          simp only [he, Bool.and_eq_true, decide_eq_true_eq] at hf2
          obtain ⟨hp, hs⟩ := hf2
          have p1 := run_part_plain hE he vs f.offset (by omega) (plain_one he hp) w
          have p2 := run_equal_plain hE w n f.type de ((vs.drop f.offset).take de.size) D hp he (by rw [List.length_take, List.length_drop]; omega) (fun v h => hv v (List.mem_of_mem_drop (List.mem_of_mem_take h)))
          by_cases hn : f.name = "_"
          · simp [hn]
          · simp only [ne_eq, hn, not_false_eq_true, if_true, Sem.run_bind, p1, p2, Result.andThen_ok]
            simp
theorem relL_allInt : ∀ {cs : List V} {l : List Value}, allInt cs → relL ρ cs l → cs = l.map V.c ∧ ∀ v ∈ l, ∃ k m, v = Value.int k m
  | [], l, _, h => by unfold relL at h; subst h; exact ⟨rfl, fun v hv => by simp at hv⟩
  | c :: cs, l, hi, h => by
    unfold relL at h
    obtain ⟨x, xs, rfl, h2, h3⟩ := h
    obtain ⟨k, n, rfl⟩ := hi c (by simp)
    obtain ⟨rfl, h4⟩ := relL_allInt (fun c hc => hi c (by simp [hc])) h3
    unfold rel at h2
    subst h2
    exact ⟨rfl, fun v hv => by
      rcases List.mem_cons.1 hv with rfl | hv
      · exact ⟨k, n, rfl⟩
      · exact h4 v hv⟩
theorem map_V_inj : ∀ {l m : List Value}, l.map V.c = m.map V.c → l = m
  | [], [], _ => rfl
  | [], _ :: _, h => by simp at h
  | _ :: _, [], h => by simp at h
  | a :: l, b :: m, h => by
    simp only [List.map_cons, List.cons.injEq] at h
    obtain ⟨h1, h2⟩ := h
    cases h1
    rw [map_V_inj h2]
theorem map_c_inj {ki : IntKind} : ∀ {ms ns : List Int}, (ms.map fun n => V.c (.int ki n)) = (ns.map fun n => V.c (.int ki n)) ↔ ms = ns
  | [], [] => by simp
  | [], _ :: _ => by simp
  | _ :: _, [] => by simp
  | a :: ms, b :: ns => by simp [map_c_inj (ms := ms) (ns := ns)]

theorem run_equal_slice {e : TypeId} (hu : P.underlying t = some (.slice e)) (a : Option Addr) (n c : Nat) (w : World) : (Op.equal t (.slice a n c) (.slice none 0 0)).run P w = .ok a.isNone w := by
  unfold Op.equal Op.maxDepth
  rw [show (10000 : Nat) = 9999 + 1 from rfl]
  generalize (9999 : Nat) = D
  simp only [Op.equalIn, Sem.run_bind, run_underlying hu, Result.andThen_ok]
  cases a <;> simp

theorem vBin_sound (hE : EnvOK P E) {op : BinOp} {x y : V} {u v : Value} (hx : rel ρ x u) (hy : rel ρ y v) {k : V → Prop} (h : vBin E op t x y k) (ox oy : Operand) :
    ∃ z, k (.c z) ∧ ∀ w, (do eqGuard op t ox oy u v; binOp op t u v : Sem Value).run P w = .ok z w := by
  unfold vBin at h
  split at h
  · unfold rel at hx hy; subst hx; subst hy
    obtain ⟨z, hk, hr⟩ := vInt_sound (P := P) (t := t) h
    have hg : ∀ (w : World) (ka kb : IntKind) (a b : Int), (eqGuard op t ox oy (.int ka a) (.int kb b)).run P w = .ok () w := by intro w ka kb a b; cases op <;> simp [eqGuard]
    exact ⟨z, hk, fun w => by rw [Sem.run_bind, hg, Result.andThen_ok, hr w]⟩
  · unfold rel at hx hy; subst hx; subst hy
    obtain ⟨hb, h⟩ := h
    cases hE0 : E t with
    | none => simp [hE0] at hb
    | some d =>
      simp only [hE0] at hb
      have hu := hE.und hE0
      rw [hb] at hu
      cases op <;> simp only at h
      case eql => exact ⟨_, h, fun w => by simp [eqGuard, run_eql_bool w t _ _ hu]⟩
      case neq => exact ⟨_, h, fun w => by simp [eqGuard, run_neq_bool w t _ _ hu]⟩
  · unfold rel at hx hy; subst hx; subst hy
    cases op <;> simp only at h
    case eql => exact ⟨_, h, fun w => by simp [eqGuard, binOp, Op.stringOp]⟩
    case neq => exact ⟨_, h, fun w => by simp [eqGuard, binOp, Op.stringOp]⟩
    case add =>
      obtain ⟨h0, h⟩ := h
      exact ⟨_, h, fun w => by simp [eqGuard, binOp, Op.stringOp]; omega⟩
  · unfold rel at hx hy; subst hy
    obtain ⟨_, a, rfl, ha⟩ := hx
    obtain ⟨hb, h⟩ := h
    cases hE0 : E t with
    | none => simp [hE0] at hb
    | some d =>
      cases hdu : d.und <;> simp only [hE0, hdu] at hb
      have hu := hE.und hE0
      rw [hdu] at hu
      cases op <;> simp only at h
      case eql => exact ⟨_, h a.isNone (fun hc => by rw [ha hc]; rfl), fun w => by simp [eqGuard, binOp, run_equal_slice hu]⟩
      case neq => exact ⟨_, h a.isNone (fun hc => by rw [ha hc]; rfl), fun w => by simp [eqGuard, binOp, run_equal_slice hu]⟩
  · unfold rel at hx hy; subst hx; subst hy
    obtain ⟨hb, h⟩ := h
    cases hE0 : E t with
    | none => simp [hE0] at hb
    | some d =>
      cases hdu : d.und <;> simp only [hE0, hdu] at hb
      have hu := hE.und hE0
      rw [hdu] at hu
      cases op <;> simp only at h
      case eql => exact ⟨_, h, fun w => by simp [eqGuard, binOp, run_equal_slice hu]⟩
      case neq => exact ⟨_, h, fun w => by simp [eqGuard, binOp, run_equal_slice hu]⟩
  · unfold rel at hx hy
    obtain ⟨l, rfl, hl, _⟩ := hx
    obtain ⟨m, rfl, hm, _⟩ := hy
    cases hE0 : E t with
    | none => simp [hE0] at h
    | some d =>
      simp only [hE0] at h
      cases hdu : d.und <;> simp only [hdu] at h
      case struct fs =>
        obtain ⟨hg, hp, hcl, hci, rfl, h⟩ := h
        obtain ⟨e1, hv⟩ := relL_allInt hci hl
        obtain ⟨e2, _⟩ := relL_allInt hci hm
        obtain rfl : l = m := map_V_inj (e1.symm.trans e2)
        have hll : l.length = d.size := by rw [← hcl, e1, List.length_map]
        have hgd : P.eqGuardType P.depth t = false := by rw [hE.eqg hE0]; exact hg
        have heq : ∀ w, (Op.equal t (.agg l.toArray) (.agg l.toArray)).run P w = .ok true w := fun w => by
          have := run_equal_plain hE w 8 t d l 9992 hp hE0 hll hv
          simpa [valP, hdu, isAggD, Op.equal, Op.maxDepth] using this
        cases op <;> simp only at h
        case eql =>
          refine ⟨_, h, fun w => ?_⟩
          rw [Sem.run_bind, run_eqGuard_agg w _ t ox oy _ _ hgd, Result.andThen_ok]
          simp only [binOp, Sem.run_bind, heq w, Result.andThen_ok, Sem.run_pure]
        case neq =>
          refine ⟨_, h, fun w => ?_⟩
          rw [Sem.run_bind, run_eqGuard_agg w _ t ox oy _ _ hgd, Result.andThen_ok]
          simp only [binOp, Sem.run_bind, heq w, Result.andThen_ok, Sem.run_pure]
          rfl
      case array n e =>
      cases hEe : E e with
      | none => simp [hEe] at h
      | some de =>
        simp only [hEe] at h
        cases hde : de.und <;> simp only [hde] at h
        case int ki =>
        obtain ⟨hg, h1, hcl, hdl, hci, hdi, h⟩ := h
        obtain ⟨ms, rfl, rfl⟩ := relL_intCells hci hl
        obtain ⟨ns, rfl, rfl⟩ := relL_intCells hdi hm
        have hu := hE.und hE0
        rw [hdu] at hu
        have heq := fun w => run_equal_ints hE hEe hde h1 hu ms ns (by simpa using hcl) (by simpa using hdl) w
        have hgd : P.eqGuardType P.depth t = false := by rw [hE.eqg hE0]; exact hg
        cases op <;> simp only at h
        case eql =>
          refine ⟨_, h (decide (ms = ns)) (by rw [map_c_inj]; simp), fun w => ?_⟩
          rw [Sem.run_bind, run_eqGuard_agg w _ t ox oy _ _ hgd, Result.andThen_ok]
          simp only [binOp, Sem.run_bind, heq w, Result.andThen_ok, Sem.run_pure]
        case neq =>
          refine ⟨_, h (decide (ms = ns)) (by rw [map_c_inj]; simp), fun w => ?_⟩
          rw [Sem.run_bind, run_eqGuard_agg w _ t ox oy _ _ hgd, Result.andThen_ok]
          simp only [binOp, Sem.run_bind, heq w, Result.andThen_ok, Sem.run_pure]
  · exact h.elim

theorem vUn_sound {op : UnOp} {x : V} {u : Value} (hx : rel ρ x u) {k : V → Prop} (h : vUn op x k) : ∃ z, k (.c z) ∧ ∀ w, (Op.unary op u).run P w = .ok z w := by
  unfold vUn at h
  split at h
  · unfold rel at hx; subst hx; exact ⟨_, h, fun w => by simp [Op.unary]⟩
  · unfold rel at hx; subst hx; exact ⟨_, h, fun w => by simp [Op.unary, Op.intArith]⟩
  · unfold rel at hx; subst hx; exact ⟨_, h, fun w => by simp [Op.unary, Op.intBits, bitI]⟩
  · exact h.elim

theorem asI_rel {x : V} {u : Value} (hx : rel ρ x u) {kk : IntKind} {n : Int} (h : asI x = some (kk, n)) : u = .int kk n := by
  unfold asI at h
  split at h
  · unfold rel at hx; subst hx; cases h; rfl
  · cases h

theorem asS_rel {x : V} {u : Value} (hx : rel ρ x u) {h o n c : Nat} (hs : asS x = some (h, o, n, c)) :
    n ≤ c ∧ ∃ a, u = .slice a n c ∧ (0 < c → a = some ⟨(ρ h).1, (ρ h).2 + o, none⟩) := by
  unfold asS at hs
  split at hs
  · cases hs; unfold rel at hx; exact hx
  · cases hs; unfold rel at hx; subst hx; exact ⟨Nat.le_refl _, none, rfl, fun h => absurd h (by omega)⟩
  · cases hs

theorem asS_ok {N : Nat} {x : V} (hx : okV N x) {h o n c : Nat} (hs : asS x = some (h, o, n, c)) : 0 < c → h < N := by
  unfold asS at hs
  split at hs
  · cases hs; unfold okV at hx; exact hx
  · cases hs; intro h; omega
  · cases hs

end
end Go.Vc
/- The operations that leave the world as it is, all of them. -/
set_option linter.unusedSimpArgs false
set_option linter.unusedVariables false
namespace Go.Vc
open Go
section
variable {P : Program} {E : Env} {t : TypeId} {d : TD} {M : Nat → Prop} {w0 w : World} {ρ : Loc} {hp : List Blk}

theorem foldl_push (bs : List UInt8) : ∀ (acc : List UInt8), (bs.map fun u => ((u.toNat : Nat) : Int)).foldl (fun r n => r.push (UInt8.ofNat n.toNat)) (⟨acc.toArray⟩ : ByteArray) = ⟨(acc ++ bs).toArray⟩ := by
  induction bs with
  | nil => intro acc; simp
  | cons b bs ih =>
    intro acc
    simp only [List.map_cons, List.foldl_cons]
    have : (⟨acc.toArray⟩ : ByteArray).push (UInt8.ofNat ((b.toNat : Nat) : Int).toNat) = ⟨(acc ++ [b]).toArray⟩ := by
      simp [ByteArray.push]
    rw [this, ih]
    simp

theorem vConv_sound (hE : EnvOK P E) (hd : Hd M w0 ρ hp w) {src dst : TypeId} {x : V} {v : Value} (hx : rel ρ x v) {k : V → Prop} (h : vConv E src dst x hp k) :
    ∃ y, k (.c y) ∧ ∀ w', Keep none' w w' → (convert src dst v).run P w' = .ok y w' := by
  unfold vConv at h
  cases hs : E src with
  | none => simp [hs] at h
  | some ds =>
    cases hdst : E dst with
    | none => simp [hs, hdst] at h
    | some dd =>
      simp only [hs, hdst] at h
      split at h
      · unfold rel at hx; subst hx
        cases hdu : dd.und <;> simp only [hdu] at h
        case int kd => exact ⟨_, h, fun w' _ => by simp [convert, hE.run_und hs, hE.run_und hdst, hdu, Conv.intToInt]⟩
        all_goals exact h.elim
      · cases hdu : dd.und <;> simp only [hdu] at h
        case string =>
          cases hsu : ds.und <;> simp only [hsu] at h
          case slice e =>
            cases hEe : E e with
            | none => simp [hEe] at h
            | some de =>
              cases hsx : asS x with
              | none => simp [hEe, hsx] at h
              | some q =>
                obtain ⟨g, o, n, c⟩ := q
                simp only [hEe, hsx] at h
                obtain ⟨hde, bs, hl, hc, hk⟩ := h
                obtain ⟨hnc, a, rfl, ha⟩ := asS_rel hx hsx
                have hcv : ∀ w', (convert src dst (.slice a n c)).run P w' = (Conv.bytesToString (.slice a n c)).run P w' := fun w' =>
                  run_convert_bytes_string w' src dst e a n c (by rw [hE.und hs, hsu]) (by rw [hE.und hEe, hde]) (by rw [hE.und hdst, hdu])
                refine ⟨_, hk, fun w' hk' => ?_⟩
                rw [hcv w']
                rcases hc with h0 | ⟨hlen, hcells⟩
                · subst h0
                  have hb : bs = [] := List.eq_nil_of_length_eq_zero hl
                  subst hb
                  cases a with
                  | none => simp [Conv.bytesToString]; rfl
                  | some a =>
                    have := run_bytesToString (P := P) w' a 0 c [] (by simpa using run_loadCells_list (P := P) w' a [] (by simp))
                    rw [this]; simp; rfl
                · rcases Nat.eq_zero_or_pos n with h0 | h0
                  · subst h0
                    have hb : bs = [] := List.eq_nil_of_length_eq_zero hl
                    subst hb
                    cases a with
                    | none => simp [Conv.bytesToString]; rfl
                    | some a =>
                      have := run_bytesToString (P := P) w' a 0 c [] (by simpa using run_loadCells_list (P := P) w' a [] (by simp))
                      rw [this]; simp; rfl
                  · have ha' := ha (by omega)
                    subst ha'
                    unfold cellsAt at hlen hcells
                    cases hb : hp[g]? with
                    | none => simp [hb] at hlen; omega
                    | some b =>
                      simp only [hb] at hlen hcells
                      obtain ⟨xs, h1, h2, h3, _, h5⟩ := hd.loadCells (P := P) hb o n hlen
                      rw [hcells] at h1
                      have hxs : xs = bs.map fun u => Value.int .u8 u.toNat := relL_of_map_c h1
                      have h6 := h5 w' hk'
                      rw [hxs] at h6
                      have := run_bytesToString (P := P) w' ⟨(ρ g).1, (ρ g).2 + o, none⟩ n c (bs.map fun u => ((u.toNat : Nat) : Int)) (by simpa [List.map_map, Function.comp_def] using h6)
                      rw [this]
                      have hf := foldl_push bs []
                      simp only [List.nil_append] at hf
                      exact congrArg (fun b => Result.ok (Value.string b) w') hf
          all_goals exact h.elim
        all_goals exact h.elim

theorem vArrPtr_sound (hE : EnvOK P E) {N : Nat} {x : V} {v : Value} (hx : rel ρ x v) (hk : okV N x) {k : V → Prop} (h : vArrPtr E t x k) :
    ∃ u y, k u ∧ rel ρ u y ∧ okV N u ∧ ∀ w', (Instr.arrayAt t v).run P w' = .ok y w' := by
  unfold vArrPtr at h
  cases hE0 : E t with
  | none => simp [hE0] at h
  | some dd =>
    simp only [hE0] at h
    cases hdu : dd.und <;> simp only [hdu] at h
    case array n e =>
      cases x <;> simp only at h
      case s g o len c =>
        obtain ⟨h1, h2, h⟩ := h
        unfold rel at hx
        obtain ⟨_, a, rfl, ha⟩ := hx
        have ha' := ha h2
        subst ha'
        unfold okV at hk
        refine ⟨_, _, h, rfl, hk h2, fun w' => ?_⟩
        simp [Instr.arrayAt, hE.run_und hE0, hdu, show ¬ len < n by omega]
      all_goals exact h.elim
    all_goals exact h.elim

theorem vFieldAddr_sound (hE : EnvOK P E) {N : Nat} {x : V} {v : Value} (hx : rel ρ x v) (hk : okV N x) {f : Nat} {k : V → Prop} (h : vFieldAddr E t x f k) :
    ∃ u y, k u ∧ rel ρ u y ∧ okV N u ∧ ∀ w', (Instr.fieldAt t v f).run P w' = .ok y w' := by
  unfold vFieldAddr at h
  cases hE0 : E t with
  | none => simp [hE0] at h
  | some dd =>
    simp only [hE0] at h
    cases hdu : dd.und <;> simp only [hdu] at h
    case struct fs =>
      cases hf : fs[f]? with
      | none => simp [hf] at h
      | some fd =>
        cases x <;> simp only [hf] at h
        case p g o =>
          cases hEf : E fd.type with
          | none => simp [hEf] at h
          | some df =>
            simp only [hEf] at h
            obtain ⟨h0, h⟩ := h
            unfold rel at hx; subst hx
            refine ⟨_, _, h, rfl, hk, fun w' => ?_⟩
            simp [Instr.fieldAt, hE.run_und hE0, hdu, hf, Instr.sureAddr, fieldPlace, hE.run_size hEf, h0, addr_add, Nat.add_assoc]
        all_goals exact h.elim
    all_goals exact h.elim

theorem vPart_sound (hE : EnvOK P E) {N : Nat} {cs : List V} {l : List Value} (hl : relL ρ cs l) (h1 : ∀ x ∈ l, x.oneCell' = true) (hk : okL N cs) {off : Nat} {k : V → Prop} (h : vPart E t cs off k) :
    ∃ u y, k u ∧ rel ρ u y ∧ okV N u ∧ ∀ w', (part t l.toArray off).run P w' = .ok y w' := by
  unfold vPart vSub vGet at h
  cases hE0 : E t with
  | none => simp [hE0] at h
  | some dd =>
    simp only [hE0] at h
    have hll := relL_length hl
    by_cases ha : isAggD dd.und = true
    · rw [if_pos ha] at h
      obtain ⟨hlen, h⟩ := h
      refine ⟨_, .agg ((l.drop off).take dd.size).toArray, h, ?_, ?_, fun w' => ?_⟩
      · unfold rel; exact ⟨_, rfl, relL_take (relL_drop hl _) _, fun x hx => h1 x (List.mem_of_mem_drop (List.mem_of_mem_take hx))⟩
      · unfold okV; exact okL_take (okL_drop hk _) _
      · simp [part, hE.run_isAgg hE0, ha, hE.run_size hE0, List.extract_eq_take_drop]
    · rw [if_neg ha] at h
      obtain ⟨hs, hlt, h⟩ := h
      have hg := getD_some hlt
      obtain ⟨y, hy, hr⟩ := relL_get hl hg
      refine ⟨_, y, h, hr, okL_get hk hg, fun w' => ?_⟩
      simp [part, hE.run_isAgg hE0, ha, hy]

theorem vField_sound (hE : EnvOK P E) {N : Nat} {x : V} {v : Value} (hx : rel ρ x v) (hk : okV N x) {f : Nat} {k : V → Prop} (h : vField E t x f k) :
    ∃ u y, k u ∧ rel ρ u y ∧ okV N u ∧ ∀ w', (Instr.field t v f).run P w' = .ok y w' := by
  unfold vField at h
  cases hE0 : E t with
  | none => simp [hE0] at h
  | some dd =>
    simp only [hE0] at h
    cases hdu : dd.und <;> simp only [hdu] at h
    case struct fs =>
      cases hf : fs[f]? with
      | none => simp [hf] at h
      | some fd =>
        cases x <;> simp only [hf] at h
        case a cs =>
          unfold rel at hx
          obtain ⟨l, rfl, hl, h1⟩ := hx
          unfold okV at hk
          obtain ⟨u, y, h2, h3, h4, h5⟩ := vPart_sound hE hl h1 hk h
          exact ⟨u, y, h2, h3, h4, fun w' => by simp [Instr.field, hE.run_und hE0, hdu, hf, asAgg, h5 w']⟩
        all_goals exact h.elim
    all_goals exact h.elim

theorem vIndexAddr_sound (hE : EnvOK P E) {N : Nat} {x i : V} {v iv : Value} (hx : rel ρ x v) (hi : rel ρ i iv) (hk : okV N x) {k : V → Prop} (h : vIndexAddr E t x i k) :
    ∃ u y, k u ∧ rel ρ u y ∧ okV N u ∧ ∀ w', (Instr.indexAt t v iv).run P w' = .ok y w' := by
  unfold vIndexAddr at h
  cases hE0 : E t with
  | none => simp [hE0] at h
  | some dd =>
    cases hI : asI i with
    | none => simp [hE0, hI] at h
    | some q =>
      obtain ⟨kk, n⟩ := q
      have := asI_rel hi hI
      subst this
      simp only [hE0, hI] at h
      cases hdu : dd.und <;> simp only [hdu] at h
      case array len e =>
        cases hEe : E e with
        | none => simp [hEe] at h
        | some de =>
          cases x <;> simp only [hEe] at h
          case p g o =>
            obtain ⟨h1, h2, h⟩ := h
            unfold rel at hx; subst hx
            refine ⟨_, _, h, rfl, hk, fun w' => ?_⟩
            simp [Instr.indexAt, asIntOf, hE.run_und hE0, hdu, Instr.sureAddr, hE.run_size hEe, h1, h2, addr_add, Nat.add_assoc]
          all_goals exact h.elim
      case slice e =>
        cases hEe : E e with
        | none => simp [hEe] at h
        | some de =>
          cases x <;> simp only [hEe] at h
          case s g o len c =>
            obtain ⟨h1, h2, h⟩ := h
            unfold rel at hx
            obtain ⟨hlc, a, rfl, ha⟩ := hx
            have ha' := ha (by omega)
            subst ha'
            unfold okV at hk
            refine ⟨_, _, h, rfl, hk (by omega), fun w' => ?_⟩
            simp [Instr.indexAt, asIntOf, hE.run_und hE0, hdu, hE.run_size hEe, h1, h2, addr_add, Nat.add_assoc]
          all_goals exact h.elim
      all_goals exact h.elim

theorem vIndex_sound (hE : EnvOK P E) {N : Nat} {x i : V} {v iv : Value} (hx : rel ρ x v) (hi : rel ρ i iv) (hk : okV N x) {k : V → Prop} (h : vIndex E t x i k) :
    ∃ u y, k u ∧ rel ρ u y ∧ okV N u ∧ ∀ w', (Instr.index t v iv).run P w' = .ok y w' := by
  unfold vIndex at h
  cases hE0 : E t with
  | none => simp [hE0] at h
  | some dd =>
    cases hI : asI i with
    | none => simp [hE0, hI] at h
    | some q =>
      obtain ⟨kk, n⟩ := q
      have := asI_rel hi hI
      subst this
      simp only [hE0, hI] at h
      cases hdu : dd.und <;> simp only [hdu] at h
      case array len e =>
        cases hEe : E e with
        | none => simp [hEe] at h
        | some de =>
          cases x <;> simp only [hEe] at h
          case a cs =>
            obtain ⟨h1, h2, h⟩ := h
            unfold rel at hx
            obtain ⟨l, rfl, hl, hone⟩ := hx
            unfold okV at hk
            obtain ⟨u, y, h3, h4, h5, h6⟩ := vPart_sound hE hl hone hk h
            exact ⟨u, y, h3, h4, h5, fun w' => by simp [Instr.index, asIntOf, hE.run_und hE0, hdu, hE.run_size hEe, h1, h2, h6 w']⟩
          all_goals exact h.elim
      case string =>
        split at h
        · rename_i s
          obtain ⟨h1, h2, h⟩ := h
          unfold rel at hx; subst hx
          refine ⟨_, _, h, rfl, trivial, fun w' => ?_⟩
          have hlt : n.toNat < s.size := by omega
          have hlt' : n.toNat < s.data.toList.length := by simpa using hlt
          simp [Instr.index, asIntOf, hE.run_und hE0, hdu, h1, getElem?_pos s n.toNat hlt, List.getD_eq_getElem?_getD, List.getElem?_eq_getElem hlt']
          rfl
        · exact h.elim
      all_goals exact h.elim

theorem vExtract_sound {N : Nat} {x : V} {v : Value} (hx : rel ρ x v) (hk : okV N x) {i : Nat} {k : V → Prop} (h : vExtract x i k) :
    ∃ u y, k u ∧ rel ρ u y ∧ okV N u ∧ ∀ w', (Instr.extract v i).run P w' = .ok y w' := by
  unfold vExtract at h
  cases x <;> simp only at h
  case t vs =>
    cases hv : vs[i]? with
    | none => simp [hv] at h
    | some u =>
      simp only [hv] at h
      unfold rel at hx
      obtain ⟨l, rfl, hl⟩ := hx
      obtain ⟨y, hy, hr⟩ := relL_get hl hv
      unfold okV at hk
      exact ⟨u, y, h, hr, okL_get hk hv, fun w' => by simp [Instr.extract, hy]⟩

theorem vLen_sound (hE : EnvOK P E) {ts : List TypeId} {xs : List V} {vs : List Value} (hx : relL ρ xs vs) {k : V → Prop} (h : vLen E ts xs k) (ty : TypeId) :
    ∃ y, k (.c y) ∧ ∀ w', (Builtin.len_ ts.toArray ty vs.toArray).run P w' = .ok y w' := by
  unfold vLen at h
  cases ts <;> cases xs <;> simp only at h
  case cons.cons t ts x xs =>
    unfold relL at hx
    obtain ⟨v, vs, rfl, hv, _⟩ := hx
    cases hE0 : E t with
    | none => simp [hE0] at h
    | some dd =>
      simp only [hE0] at h
      cases hdu : dd.und <;> simp only [hdu] at h
      case array n e => exact ⟨_, h, fun w' => by simp [Builtin.len_, hE.run_und hE0, hdu, goInt]⟩
      case string =>
        split at h
        · unfold rel at hv; subst hv
          exact ⟨_, h, fun w' => by simp [Builtin.len_, hE.run_und hE0, hdu, goInt]⟩
        · exact h.elim
      case slice e =>
        cases hs : asS x with
        | none => simp [hs] at h
        | some q =>
          obtain ⟨g, o, n, c⟩ := q
          simp only [hs] at h
          obtain ⟨_, a, rfl, _⟩ := asS_rel hv hs
          exact ⟨_, h, fun w' => by simp [Builtin.len_, hE.run_und hE0, hdu, goInt]⟩
      all_goals exact h.elim

theorem vCap_sound (hE : EnvOK P E) {ts : List TypeId} {xs : List V} {vs : List Value} (hx : relL ρ xs vs) {k : V → Prop} (h : vCap E ts xs k) (ty : TypeId) :
    ∃ y, k (.c y) ∧ ∀ w', (Builtin.cap_ ts.toArray ty vs.toArray).run P w' = .ok y w' := by
  unfold vCap at h
  cases ts <;> cases xs <;> simp only at h
  case cons.cons t ts x xs =>
    unfold relL at hx
    obtain ⟨v, vs, rfl, hv, _⟩ := hx
    cases hE0 : E t with
    | none => simp [hE0] at h
    | some dd =>
      simp only [hE0] at h
      cases hdu : dd.und <;> simp only [hdu] at h
      case slice e =>
        cases hs : asS x with
        | none => simp [hs] at h
        | some q =>
          obtain ⟨g, o, n, c⟩ := q
          simp only [hs] at h
          obtain ⟨_, a, rfl, _⟩ := asS_rel hv hs
          exact ⟨_, h, fun w' => by simp [Builtin.cap_, hE.run_und hE0, hdu, goInt]⟩
      all_goals exact h.elim

theorem vMin_sound {mx : Bool} {xs : List V} {vs : List Value} (hx : relL ρ xs vs) {k : V → Prop} (h : vMin mx xs k) (ts : Array TypeId) (ty : TypeId) :
    ∃ y, k (.c y) ∧ ∀ w', (if mx then Builtin.max_ ts ty vs.toArray else Builtin.min_ ts ty vs.toArray).run P w' = .ok y w' := by
  unfold vMin at h
  split at h
  · rename_i x y
    unfold relL at hx
    obtain ⟨u, us, rfl, hu, hx⟩ := hx
    unfold relL at hx
    obtain ⟨v, vs, rfl, hv, hx⟩ := hx
    unfold relL at hx
    subst hx
    cases ha : asI x with
    | none => simp [ha] at h
    | some p =>
      cases hb : asI y with
      | none => simp [ha, hb] at h
      | some q =>
        obtain ⟨ka, a⟩ := p
        obtain ⟨kb, b⟩ := q
        simp only [ha, hb] at h
        obtain ⟨rfl, h⟩ := h
        have := asI_rel hu ha
        subst this
        have := asI_rel hv hb
        subst this
        refine ⟨_, h, fun w' => ?_⟩
        cases mx
        · simp only [Bool.false_eq_true, if_false, run_min_int2]
          congr 2
          by_cases hab : b < a
          · rw [if_pos hab]; omega
          · rw [if_neg hab]; omega
        · simp only [if_true, run_max_int2]
          congr 2
          by_cases hab : b > a
          · rw [if_pos hab]; omega
          · rw [if_neg hab]; omega
  · exact h.elim
end
end Go.Vc
/- Slicing, building; then every operation that leaves the world as it is. -/
set_option linter.unusedSimpArgs false
set_option linter.unusedVariables false
namespace Go.Vc
open Go
section
variable {P : Program} {E : Env} {t : TypeId} {d : TD} {M : Nat → Prop} {w0 w : World} {ρ : Loc} {hp : List Blk}

theorem run_bound (kk : IntKind) (i : Int) (y : Nat) (code : BoundsCode) (h0 : 0 ≤ i) (h1 : i ≤ y) (w : World) : (Instr.sliceBound (.int kk i) y code).run P w = .ok i.toNat w := by
  simp [Instr.sliceBound, asIntOf, h0, h1]

theorem vBounds_sound {len cap : Nat} (hlc : len ≤ cap) {low high max : Option V} {lo hi mx : Option Value}
    (hl : ∀ v, low = some v → ∃ u, lo = some u ∧ rel ρ v u) (hln : low = none → lo = none) (hh : ∀ v, high = some v → ∃ u, hi = some u ∧ rel ρ v u) (hhn : high = none → hi = none) (hmn : max = none → mx = none)
    {k : Nat → Nat → Nat → Prop} (h : vBounds len cap low high max k) (b : Bool) :
    ∃ l u m, k l u m ∧ l ≤ u ∧ u ≤ m ∧ m = cap ∧ ∀ w, (Instr.sliceBounds b len cap lo hi mx).run P w = .ok (l, u, m) w := by
  unfold vBounds at h
  cases max with
  | some v => exact h.elim
  | none =>
    have := hmn rfl
    subst this
    cases high with
    | none =>
      have := hhn rfl
      subst this
      cases low with
      | none =>
        have := hln rfl
        subst this
        exact ⟨0, len, cap, h, Nat.zero_le _, hlc, rfl, fun w => by simp [Instr.sliceBounds]⟩
      | some vl =>
        obtain ⟨u, rfl, hu⟩ := hl vl rfl
        cases ha : asI vl with
        | none => simp [ha] at h
        | some q =>
          obtain ⟨kl, il⟩ := q
          simp only [ha] at h
          obtain ⟨h0, h1, h⟩ := h
          have := asI_rel hu ha
          subst this
          exact ⟨il.toNat, len, cap, h, by omega, hlc, rfl, fun w => by simp [Instr.sliceBounds, run_bound kl il len _ h0 h1]⟩
    | some vh =>
      obtain ⟨uh, rfl, huh⟩ := hh vh rfl
      cases hah : asI vh with
      | none => simp [hah] at h
      | some q =>
        obtain ⟨kh, ih⟩ := q
        simp only [hah] at h
        obtain ⟨g0, g1, h⟩ := h
        have := asI_rel huh hah
        subst this
        cases low with
        | none =>
          have := hln rfl
          subst this
          exact ⟨0, ih.toNat, cap, h, Nat.zero_le _, by omega, rfl, fun w => by simp [Instr.sliceBounds, run_bound kh ih cap _ g0 g1]⟩
        | some vl =>
          obtain ⟨u, rfl, hu⟩ := hl vl rfl
          cases ha : asI vl with
          | none => simp [ha] at h
          | some q =>
            obtain ⟨kl, il⟩ := q
            simp only [ha] at h
            obtain ⟨h0, h1, h⟩ := h
            have := asI_rel hu ha
            subst this
            exact ⟨il.toNat, ih.toNat, cap, h, by omega, by omega, rfl, fun w => by
              simp [Instr.sliceBounds, run_bound kh ih cap _ g0 g1, run_bound kl il ih.toNat _ h0 (by omega)]⟩

theorem vSlice_sound (hE : EnvOK P E) {N : Nat} {x : V} {v : Value} (hx : rel ρ x v) (hk : okV N x) {low high max : Option V} {lo hi mx : Option Value}
    (hl : ∀ v, low = some v → ∃ u, lo = some u ∧ rel ρ v u) (hln : low = none → lo = none) (hh : ∀ v, high = some v → ∃ u, hi = some u ∧ rel ρ v u) (hhn : high = none → hi = none) (hmn : max = none → mx = none)
    {k : V → Prop} (h : vSlice E t x low high max k) :
    ∃ u y, k u ∧ rel ρ u y ∧ okV N u ∧ ∀ w', (Instr.sliceAt t v lo hi mx).run P w' = .ok y w' := by
  unfold vSlice at h
  cases hE0 : E t with
  | none => simp [hE0] at h
  | some dd =>
    simp only [hE0] at h
    cases hdu : dd.und <;> simp only [hdu] at h
    case array n e =>
      cases hEe : E e with
      | none => simp [hEe] at h
      | some de =>
        cases x <;> simp only [hEe] at h
        case p g o =>
          unfold rel at hx; subst hx
          obtain ⟨l, u, m, h1, h2, h3, h4, h5⟩ := vBounds_sound (P := P) (Nat.le_refl n) hl hln hh hhn hmn h false
          refine ⟨_, .slice (some (if m = l then ⟨(ρ g).1, (ρ g).2 + o, none⟩ else ⟨(ρ g).1, (ρ g).2 + o + l * de.size, none⟩)) (u - l) (m - l), h1, ?_, ?_, fun w' => ?_⟩
          · unfold rel
            refine ⟨by omega, _, rfl, fun hc => ?_⟩
            rw [if_neg (by omega), Nat.add_assoc]
          · unfold okV at hk ⊢; exact fun _ => hk
          · simp [Instr.sliceAt, hE.run_und hE0, hdu, Instr.sureAddr, h5 w', hE.run_size hEe, addr_add]
        all_goals exact h.elim
    case slice e =>
      cases hEe : E e with
      | none => simp [hEe] at h
      | some de =>
        cases hs : asS x with
        | none => simp [hEe, hs] at h
        | some q =>
          obtain ⟨g, o, n, c⟩ := q
          simp only [hEe, hs] at h
          obtain ⟨hnc, a, rfl, ha⟩ := asS_rel hx hs
          have hok := asS_ok hk hs
          obtain ⟨l, u, m, h1, h2, h3, h4, h5⟩ := vBounds_sound (P := P) hnc hl hln hh hhn hmn h true
          refine ⟨_, .slice (if m = l then a else a.map (·.add (l * de.size))) (u - l) (m - l), h1, ?_, ?_, fun w' => ?_⟩
          · unfold rel
            refine ⟨by omega, _, rfl, fun hc => ?_⟩
            rw [if_neg (by omega), ha (by omega)]
            simp [addr_add, Nat.add_assoc]
          · unfold okV; exact fun hc => hok (by omega)
          · simp [Instr.sliceAt, Instr.slice, hE.run_und hE0, hdu, h5 w', hE.run_size hEe]
    case string =>
      split at h
      · rename_i s
        unfold rel at hx; subst hx
        obtain ⟨l, u, m, h1, h2, h3, h4, h5⟩ := vBounds_sound (P := P) (Nat.le_refl s.size) hl hln hh hhn hmn h false
        refine ⟨_, _, h1, rfl, trivial, fun w' => ?_⟩
        have hmx : mx = none := by
          refine hmn ?_
          cases max with
          | none => rfl
          | some v => simp [vBounds] at h
        subst hmx
        simp [Instr.sliceAt, Instr.slice, hE.run_und hE0, hdu, h5 w']
      · exact h.elim
    all_goals exact h.elim

/-! ### Building -/
theorem cellsOf_rel {x : V} {v : Value} (hx : rel ρ x v) {vs : List V} (h : cellsOf x = some vs) : relL ρ vs v.cells.toList ∧ ∀ c ∈ v.cells.toList, c.oneCell' = true := by
  have one : ∀ {u : V} {y : Value}, rel ρ u y → relL ρ [u] [y] := fun hu => by unfold relL; exact ⟨_, _, rfl, hu, by unfold relL; rfl⟩
  unfold cellsOf at h
  split at h
  · cases h
    unfold rel at hx
    obtain ⟨l, rfl, hl, h1⟩ := hx
    exact ⟨by simpa [Value.cells] using hl, by simpa [Value.cells] using h1⟩
  · cases h
  · cases h
  · cases h
  · cases h
  · rename_i h1 h2 h3 h4 h5
    cases h
    cases x with
    | c y =>
      unfold rel at hx; subst hx
      cases v with
      | agg q => exact absurd rfl (h4 q)
      | tuple q => exact absurd rfl (h5 q)
      | _ => exact ⟨one rfl, by simp [Value.cells, Value.oneCell']⟩
    | p g o => unfold rel at hx; subst hx; exact ⟨one rfl, by simp [Value.cells, Value.oneCell']⟩
    | s g o n c =>
      have hx' := hx
      unfold rel at hx
      obtain ⟨_, a, rfl, _⟩ := hx
      exact ⟨one hx', by simp [Value.cells, Value.oneCell']⟩
    | a cs => exact absurd rfl (h1 cs)
    | t cs => exact absurd rfl (h2 cs)
    | j => exact absurd rfl h3

theorem cellsOf_ok {N : Nat} {x : V} (hx : okV N x) {vs : List V} (h : cellsOf x = some vs) : okL N vs := by
  unfold cellsOf at h
  split at h
  · cases h; unfold okV at hx; exact hx
  · cases h
  · cases h
  · cases h
  · cases h
  · cases h; unfold okL; exact ⟨hx, trivial⟩

/-- Cells of plain values, with others from place 'off' on. -/
def spliceC (cells : List Value) (off : Nat) (vs : List Value) : List Value := cells.take off ++ vs ++ cells.drop (off + vs.length)

theorem foldl_set (off : Nat) : ∀ (vs : List Value) (i : Nat) (cs : List Value), off + i + vs.length ≤ cs.length →
    ((vs.zipIdx i).foldl (fun cs q => cs.setIfInBounds (off + q.2) q.1) cs.toArray) = (cs.take (off + i) ++ vs ++ cs.drop (off + i + vs.length)).toArray
  | [], i, cs, h => by simp
  | v :: vs, i, cs, h => by
    simp only [List.zipIdx_cons, List.foldl_cons, List.setIfInBounds_toArray]
    rw [foldl_set off vs (i + 1) (cs.set (off + i) v) (by simp at h ⊢; omega)]
    congr 1
    simp only [List.length_cons] at h ⊢
    apply List.ext_getElem?
    intro j
    simp only [List.getElem?_append, List.length_append, List.length_take, List.length_set, List.getElem?_take, List.getElem?_drop, List.getElem?_set, List.length_cons, List.getElem?_cons]
    rcases Nat.lt_trichotomy j (off + i) with hj | hj | hj
    · simp [show min (off + (i + 1)) cs.length = off + i + 1 by omega, show min (off + i) cs.length = off + i by omega, show j < off + i + 1 + vs.length by omega, show j < off + i + 1 by omega, show j < off + (i + 1) by omega, show off + i ≠ j by omega, hj, show j < off + i + (vs.length + 1) by omega]
    · subst hj
      simp [show min (off + (i + 1)) cs.length = off + i + 1 by omega, show min (off + i) cs.length = off + i by omega, show off + i < off + i + 1 + vs.length by omega, show off + i < off + (i + 1) by omega, show off + i < cs.length by omega, show off + i < off + i + (vs.length + 1) by omega]
    · rcases Nat.lt_or_ge j (off + i + 1 + vs.length) with hj2 | hj2
      · simp [show min (off + (i + 1)) cs.length = off + i + 1 by omega, show min (off + i) cs.length = off + i by omega, hj2, show ¬ j < off + i + 1 by omega, show ¬ j < off + i by omega, show j < off + i + (vs.length + 1) by omega, show ¬ j - (off + i) = 0 by omega, show j - (off + i) - 1 = j - (off + i + 1) by omega]
      · simp [show min (off + (i + 1)) cs.length = off + i + 1 by omega, show min (off + i) cs.length = off + i by omega, show ¬ j < off + i + 1 + vs.length by omega, show ¬ j < off + i + (vs.length + 1) by omega, show off + (i + 1) + vs.length + (j - (off + i + 1 + vs.length)) = off + i + (vs.length + 1) + (j - (off + i + (vs.length + 1))) by omega, show off + i ≠ off + i + (vs.length + 1) + (j - (off + i + (vs.length + 1))) by omega]

theorem relL_splice {cs vs : List V} {ls xs : List Value} (h : relL ρ cs ls) (h' : relL ρ vs xs) (off : Nat) : relL ρ (splice cs off vs) (spliceC ls off xs) := by
  unfold splice spliceC
  rw [relL_length h']
  exact relL_append (relL_append (relL_take h _) h') (relL_drop h _)
theorem okL_splice {N : Nat} {cs vs : List V} (h : okL N cs) (h' : okL N vs) (off : Nat) : okL N (splice cs off vs) := okL_append (okL_append (okL_take h _) h') (okL_drop h _)
theorem one_splice {ls xs : List Value} (h : ∀ c ∈ ls, c.oneCell' = true) (h' : ∀ c ∈ xs, c.oneCell' = true) (off : Nat) : ∀ c ∈ spliceC ls off xs, c.oneCell' = true := by
  intro c hc
  unfold spliceC at hc
  rcases List.mem_append.1 hc with hc | hc
  · rcases List.mem_append.1 hc with hc | hc
    · exact h c (List.mem_of_mem_take hc)
    · exact h' c hc
  · exact h c (List.mem_of_mem_drop hc)

theorem fill_sound {N : Nat} {place : Nat → Option (Nat × Nat)} : ∀ (ps : List (Nat × V)) (qs : List (Nat × Value)) (cs : List V) (ls : List Value), relL ρ cs ls → okL N cs → (∀ c ∈ ls, c.oneCell' = true) →
    ps.map (·.1) = qs.map (·.1) → relL ρ (ps.map (·.2)) (qs.map (·.2)) → okL N (ps.map (·.2)) → ∀ out, fillV place cs ps = some out →
    ∃ lo : List Value, Instr.fill place ls.toArray qs = some lo.toArray ∧ relL ρ out lo ∧ okL N out ∧ (∀ c ∈ lo, c.oneCell' = true) ∧ lo.length = ls.length
  | [], [], cs, ls, h1, h2, h3, _, _, _, out, ho => by
    simp only [fillV, Option.some.injEq] at ho
    subst ho
    exact ⟨ls, by simp [Instr.fill], h1, h2, h3, rfl⟩
  | [], q :: qs, _, _, _, _, _, h, _, _, _, _ => by simp at h
  | p :: ps, [], _, _, _, _, _, h, _, _, _, _ => by simp at h
  | (i, v) :: ps, (i', x) :: qs, cs, ls, h1, h2, h3, hi, hr, hk, out, ho => by
    simp only [List.map_cons, List.cons.injEq] at hi
    obtain ⟨rfl, hi⟩ := hi
    simp only [List.map_cons] at hr hk
    unfold relL at hr
    unfold okL at hk
    obtain ⟨y, ys, he, hv, hr⟩ := hr
    simp only [List.cons.injEq] at he
    obtain ⟨rfl, rfl⟩ := he
    simp only [fillV] at ho
    cases hp : place i with
    | none => simp [hp] at ho
    | some q =>
      obtain ⟨off, size⟩ := q
      cases hc : cellsOf v with
      | none => simp [hp, hc] at ho
      | some vs =>
        simp only [hp, hc] at ho
        split at ho
        · rename_i hcond
          obtain ⟨hs, hlen⟩ := hcond
          obtain ⟨hvr, hv1⟩ := cellsOf_rel hv hc
          have hvl := relL_length hvr
          have hll := relL_length h1
          obtain ⟨lo, g1, g2, g3, g4, g5⟩ := fill_sound ps qs _ _ (relL_splice h1 hvr off) (okL_splice h2 (cellsOf_ok hk.1 hc) off) (one_splice h3 hv1 off) hi hr hk.2 out ho
          refine ⟨lo, ?_, g2, g3, g4, ?_⟩
          · simp only [Instr.fill, hp]
            have hsz : x.cells.size = size := by rw [← hs, ← hvl]; simp
            rw [if_neg (by simp [hsz]; omega)]
            have hf := foldl_set off x.cells.toList 0 ls (by simp [hsz]; omega)
            simp only [Nat.add_zero] at hf
            have hz : x.cells.zipIdx.foldl (fun cs q => cs.setIfInBounds (off + q.2) q.1) ls.toArray = (spliceC ls off x.cells.toList).toArray := by
              rw [← Array.foldl_toList, Array.toList_zipIdx]
              exact hf
            rw [hz]
            exact g1
          · rw [g5]
            unfold spliceC
            simp [hvl]
            have : x.cells.size = vs.length := by rw [← hvl]; simp
            omega
        · cases ho

theorem run_mapM_place (hE : EnvOK P E) (w : World) : ∀ (fs : List Field) (places : List (Nat × Nat)), fs.mapM (fun f => (E f.type).map fun df => (f.offset, df.size)) = some places →
    (fs.mapM fun f => Prod.mk f.offset <$> sizeOf f.type).run P w = .ok places w
  | [], places, h => by simp at h; subst h; simp
  | f :: fs, places, h => by
    simp only [List.mapM_cons, Option.bind_eq_bind, Option.pure_def] at h
    cases hi : E f.type with
    | none => simp [hi] at h
    | some i =>
      cases hr : fs.mapM (fun f => (E f.type).map fun df => (f.offset, df.size)) with
      | none => simp [hi, hr] at h
      | some rest =>
        simp [hi, hr] at h
        subst h
        simp [List.mapM_cons, hE.run_size hi, run_mapM_place hE w fs rest hr]

theorem mapM_get : ∀ (fs : List Field) (places : List (Nat × Nat)), fs.mapM (fun f => (E f.type).map fun df => (f.offset, df.size)) = some places →
    ∀ i : Nat, places[i]? = (fs[i]?).bind fun f : Field => (E f.type).map fun df => (f.offset, df.size)
  | [], places, h, i => by simp at h; subst h; simp
  | f :: fs, places, h, i => by
    simp only [List.mapM_cons, Option.bind_eq_bind, Option.pure_def] at h
    cases hi : E f.type with
    | none => simp [hi] at h
    | some d =>
      cases hr : fs.mapM (fun f => (E f.type).map fun df => (f.offset, df.size)) with
      | none => simp [hi, hr] at h
      | some rest =>
        simp [hi, hr] at h
        subst h
        cases i with
        | zero => simp [hi]
        | succ i => simpa using mapM_get fs rest hr i

theorem fill_congr {place place' : Nat → Option (Nat × Nat)} (h : ∀ i, place i = place' i) : ∀ (qs : List (Nat × Value)) (cs : Array Value), Instr.fill place cs qs = Instr.fill place' cs qs := by
  have : place = place' := funext h
  subst this
  intros; rfl

theorem relL_of_zero {z : Value} {zs : List V} (h : z.cells.toList.map V.c = zs) : relL ρ zs z.cells.toList := h ▸ relL_of_c _
theorem okL_of_zero {N : Nat} {z : Value} {zs : List V} (h : z.cells.toList.map V.c = zs) : okL N zs := h ▸ okL_of_c _

theorem vBuild_sound (hE : EnvOK P E) {N : Nat} {ps : List (Nat × V)} {qs : List (Nat × Value)} (hi : ps.map (·.1) = qs.map (·.1)) (hr : relL ρ (ps.map (·.2)) (qs.map (·.2))) (hk : okL N (ps.map (·.2)))
    {k : V → Prop} (h : vBuild E t ps k) : ∃ u y, k u ∧ rel ρ u y ∧ okV N u ∧ ∀ w', (Instr.build t qs.toArray).run P w' = .ok y w' := by
  unfold vBuild at h
  cases hE0 : E t with
  | none => simp [hE0] at h
  | some dd =>
    simp only [hE0] at h
    obtain ⟨z, hz, z1, z2, z3, z4⟩ := hE.zero hE0
    cases hdu : dd.und <;> simp only [hdu] at h
    case struct fs =>
      cases hf : fillV (fun i => (fs[i]?).bind fun f => (E f.type).map fun df => (f.offset, df.size)) dd.zero ps with
      | none => simp [hf] at h
      | some cs =>
        simp only [hf] at h
        obtain ⟨hall, h⟩ := h
        obtain ⟨lo, g1, g2, g3, g4, _⟩ := fill_sound ps qs _ _ (relL_of_zero z1) (okL_of_zero z1) z2 hi hr hk cs hf
        obtain ⟨places, hp⟩ : ∃ places, fs.toList.mapM (fun f => (E f.type).map fun df => (f.offset, df.size)) = some places := by
          have : ∀ (l : List Field), (∀ f ∈ l, (E f.type).isSome = true) → ∃ places, l.mapM (fun f => (E f.type).map fun df => (f.offset, df.size)) = some places := by
            intro l
            induction l with
            | nil => intro _; exact ⟨[], by simp⟩
            | cons f l ih =>
              intro hl
              obtain ⟨d, hd⟩ := Option.isSome_iff_exists.1 (hl f (by simp))
              obtain ⟨pl, hpl⟩ := ih (fun g hg => hl g (by simp [hg]))
              exact ⟨(f.offset, d.size) :: pl, by simp [List.mapM_cons, hd, hpl]⟩
          exact this _ hall
        refine ⟨_, .agg lo.toArray, h, ?_, ?_, fun w' => ?_⟩
        · unfold rel; exact ⟨lo, rfl, g2, g4⟩
        · unfold okV; exact g3
        · have hpl := mapM_get (E := E) fs.toList places hp
          have hrun := run_mapM_place hE w' fs.toList places hp
          have hfill : Instr.fill (fun i => places.toArray[i]?) z.cells qs = some lo.toArray := by
            rw [fill_congr (place' := fun i => (fs[i]?).bind fun f => (E f.type).map fun df => (f.offset, df.size)) (fun i => by simpa using hpl i)]
            simpa using g1
          have hm : (fs.mapM fun f => Prod.mk f.offset <$> sizeOf f.type).run P w' = .ok places.toArray w' := by
            rw [← Array.toArray_toList (xs := fs), List.mapM_toArray]
            simp [hrun]
          have hfill' : Instr.fill (fun i => places[i]?) z.cells qs = some lo.toArray := by simpa using hfill
          simp [Instr.build, hE.run_und hE0, hdu, hz w', hm, hfill']
    case array n e =>
      cases hEe : E e with
      | none => simp [hEe] at h
      | some de =>
        simp only [hEe] at h
        cases hf : fillV (fun i => some (i * de.size, de.size)) dd.zero ps with
        | none => simp [hf] at h
        | some cs =>
          simp only [hf] at h
          obtain ⟨lo, g1, g2, g3, g4, _⟩ := fill_sound ps qs _ _ (relL_of_zero z1) (okL_of_zero z1) z2 hi hr hk cs hf
          refine ⟨_, .agg lo.toArray, h, ?_, ?_, fun w' => ?_⟩
          · unfold rel; exact ⟨lo, rfl, g2, g4⟩
          · unfold okV; exact g3
          · have g1' : Instr.fill (fun i => some (i * de.size, de.size)) z.cells qs = some lo.toArray := by simpa using g1
            simp [Instr.build, hE.run_und hE0, hdu, hz w', hE.run_size hEe, g1']
    all_goals exact h.elim
end
end Go.Vc
/- Every operation that leaves the world as it is: sound. -/
set_option linter.unusedSimpArgs false
set_option linter.unusedVariables false
namespace Go.Vc
open Go
section
variable {P : Program} {E : Env} {t : TypeId} {d : TD} {M : Nat → Prop} {w0 w : World} {ρ : Loc} {hp : List Blk}

theorem opt_rel {tm : List V} {a : Act} (ht : relL ρ tm a.tmps.toList) (x : Option Operand) : ∀ v, x.map (ev tm) = some v → ∃ u, x.map a.eval = some u ∧ rel ρ v u := by
  cases x with
  | none => intro v h; simp at h
  | some x => intro v h; simp at h; subst h; exact ⟨a.eval x, by simp, ev_rel ht x⟩
theorem opt_none {tm : List V} {a : Act} (x : Option Operand) : x.map (ev tm) = none → x.map a.eval = none := by
  cases x <;> simp

theorem vcS_sound (hE : EnvOK P E) {o : Oper} {a : Act} {tm : List V} (hd : Hd M w0 ρ hp w) (ht : relL ρ tm a.tmps.toList) (hk : okL hp.length tm) {k : V → Prop} (h : vcS E o.op tm hp k) :
    ∃ u y, k u ∧ rel ρ u y ∧ okV hp.length u ∧ ∀ w', (isLoad o.op = true → Keep none' w w') → (execOp a.eval o).run P w' = .ok (.value y) w' := by
  obtain ⟨dst, op, ty, pos, af, gd⟩ := o
  simp only at h ⊢
  cases op <;> simp only [vcS] at h
  case move x => exact ⟨_, _, h, ev_rel ht x, ev_ok hk x, fun w' _ => by simp [execOp]⟩
  case assign x => exact ⟨_, _, h, ev_rel ht x, ev_ok hk x, fun w' _ => by simp [execOp]⟩
  case build t ps =>
    obtain ⟨u, y, h1, h2, h3, h4⟩ := vBuild_sound hE (N := hp.length) (ρ := ρ) (ps := ps.toList.map fun q => (q.1, ev tm q.2)) (qs := ps.toList.map fun q => (q.1, a.eval q.2)) (by simp)
      (by have := evs_rel (a := a) ht (ps.toList.map (·.2)); simpa [List.map_map, Function.comp_def] using this)
      (by have := evs_ok hk (ps.toList.map (·.2)); simpa [List.map_map, Function.comp_def] using this) h
    refine ⟨u, y, h1, h2, h3, fun w' _ => ?_⟩
    have h4' : (Instr.build t (ps.map fun q => (q.1, a.eval q.2))).run P w' = .ok y w' := by
      have := h4 w'
      rwa [← List.map_toArray, Array.toArray_toList] at this
    simp [execOp, h4']
  case load t x =>
    obtain ⟨u, y, h1, h2, h3, h4⟩ := vLoad_sound hE hd (ev_rel ht x) h
    exact ⟨u, y, h1, h2, h3, fun w' hw => by simp [execOp, h4 w' (hw rfl)]⟩
  case nilCheck x =>
    obtain ⟨u, y, h1, h2, h3, h4⟩ := vNil_sound (P := P) (ev_rel ht x) (ev_ok hk x) h (o := ⟨dst, .nilCheck x, ty, pos, af, gd⟩) (ρ' := a.eval) rfl rfl
    exact ⟨u, y, h1, h2, h3, fun w' _ => h4 w'⟩
  case binOp op t x y t' =>
    obtain ⟨z, h1, h2⟩ := vBin_sound (P := P) hE (ev_rel ht x) (ev_rel ht y) h x y
    exact ⟨_, z, h1, rfl, trivial, fun w' _ => by have := h2 w'; simp only [execOp]; simp only [Sem.run_bind] at this ⊢; rw [this]; rfl⟩
  case unOp op t x =>
    obtain ⟨z, h1, h2⟩ := vUn_sound (P := P) (ev_rel ht x) h
    exact ⟨_, z, h1, rfl, trivial, fun w' _ => by simp [execOp, h2 w']⟩
  case convert s t x =>
    obtain ⟨z, h1, h2⟩ := vConv_sound hE hd (ev_rel ht x) h
    exact ⟨_, z, h1, rfl, trivial, fun w' hw => by simp [execOp, h2 w' (hw rfl)]⟩
  case sliceToArrayPointer t x =>
    obtain ⟨u, y, h1, h2, h3, h4⟩ := vArrPtr_sound hE (ev_rel ht x) (ev_ok hk x) h
    exact ⟨u, y, h1, h2, h3, fun w' _ => by simp [execOp, h4 w']⟩
  case slice t x lo hi mx =>
    obtain ⟨u, y, h1, h2, h3, h4⟩ := vSlice_sound hE (ev_rel ht x) (ev_ok hk x) (opt_rel ht lo) (opt_none (a := a) lo) (opt_rel ht hi) (opt_none (a := a) hi) (opt_none (a := a) mx) h
    exact ⟨u, y, h1, h2, h3, fun w' _ => by simp [execOp, h4 w']⟩
  case fieldAddr t x f =>
    obtain ⟨u, y, h1, h2, h3, h4⟩ := vFieldAddr_sound hE (ev_rel ht x) (ev_ok hk x) h
    exact ⟨u, y, h1, h2, h3, fun w' _ => by simp [execOp, h4 w']⟩
  case field t x f =>
    obtain ⟨u, y, h1, h2, h3, h4⟩ := vField_sound hE (ev_rel ht x) (ev_ok hk x) h
    exact ⟨u, y, h1, h2, h3, fun w' _ => by simp [execOp, h4 w']⟩
  case indexAddr t x i =>
    obtain ⟨u, y, h1, h2, h3, h4⟩ := vIndexAddr_sound hE (ev_rel ht x) (ev_rel ht i) (ev_ok hk x) h
    exact ⟨u, y, h1, h2, h3, fun w' _ => by simp [execOp, h4 w']⟩
  case index t x i =>
    obtain ⟨u, y, h1, h2, h3, h4⟩ := vIndex_sound hE (ev_rel ht x) (ev_rel ht i) (ev_ok hk x) h
    exact ⟨u, y, h1, h2, h3, fun w' _ => by simp [execOp, h4 w']⟩
  case extract x i =>
    obtain ⟨u, y, h1, h2, h3, h4⟩ := vExtract_sound (P := P) (ev_rel ht x) (ev_ok hk x) h
    exact ⟨u, y, h1, h2, h3, fun w' _ => by simp [execOp, h4 w']⟩
  case pick c x y =>
    unfold vPick at h
    have hc := ev_rel (a := a) ht c
    cases hcv : ev tm c with
    | c v =>
      cases v with
      | bool t =>
        simp only [hcv] at h
        rw [hcv] at hc; unfold rel at hc
        cases t with
        | true => exact ⟨_, a.eval x, h, ev_rel ht x, ev_ok hk x, fun w' _ => by simp [execOp, hc, asBool]⟩
        | false => exact ⟨_, a.eval y, h, ev_rel ht y, ev_ok hk y, fun w' _ => by simp [execOp, hc, asBool]⟩
      | _ => simp [hcv] at h
    | _ => simp [hcv] at h
  case makeFunc f first captured =>
    obtain ⟨rfl, rfl, h⟩ := h
    exact ⟨_, _, h, rfl, trivial, fun w' _ => by simp [execOp, Instr.makeFunc]⟩
  case call c =>
    obtain ⟨callee, args, ts⟩ := c
    cases callee with
    | value f => exact h.elim
    | invoke r m => exact h.elim
    | builtin b =>
      cases b <;> simp only at h
      case len =>
        obtain ⟨z, h1, h2⟩ := vLen_sound hE (evs_rel (a := a) ht args.toList) h ty
        refine ⟨_, z, h1, rfl, trivial, fun w' _ => ?_⟩
        have := h2 w'
        rw [Array.toArray_toList, ← List.map_toArray, Array.toArray_toList] at this
        simp [execOp, resolve, invoke, builtin, this]
      case cap =>
        obtain ⟨z, h1, h2⟩ := vCap_sound hE (evs_rel (a := a) ht args.toList) h ty
        refine ⟨_, z, h1, rfl, trivial, fun w' _ => ?_⟩
        have := h2 w'
        rw [Array.toArray_toList, ← List.map_toArray, Array.toArray_toList] at this
        simp [execOp, resolve, invoke, builtin, this]
      case min =>
        obtain ⟨z, h1, h2⟩ := vMin_sound (P := P) (evs_rel (a := a) ht args.toList) h ts ty
        refine ⟨_, z, h1, rfl, trivial, fun w' _ => ?_⟩
        have := h2 w'
        rw [← List.map_toArray, Array.toArray_toList] at this
        simp only [Bool.false_eq_true, if_false] at this
        simp [execOp, resolve, invoke, builtin, this]
      case max =>
        obtain ⟨z, h1, h2⟩ := vMin_sound (P := P) (evs_rel (a := a) ht args.toList) h ts ty
        refine ⟨_, z, h1, rfl, trivial, fun w' _ => ?_⟩
        have := h2 w'
        rw [← List.map_toArray, Array.toArray_toList] at this
        simp only [if_true] at this
        simp [execOp, resolve, invoke, builtin, this]
      all_goals exact h.elim
  all_goals exact h.elim
end
end Go.Vc
/- Operations that make or write memory; calls; forgetting. -/
set_option linter.unusedSimpArgs false
set_option linter.unusedVariables false
namespace Go.Vc
open Go
section
variable {P : Program} {E : Env} {t : TypeId} {d : TD} {M : Nat → Prop} {w0 w : World} {ρ ρ' : Loc} {hp : List Blk}

/-! ### Renaming and forgetting -/
mutual
theorem rel_ren {σ : List Nat} : ∀ {v : V} {x : Value}, rel ρ (v.ren σ) x → rel (fun h => ρ (σ.getD h 0)) v x
  | .c _, _, h => h
  | .p _ _, _, h => h
  | .s _ _ _ _, _, h => h
  | .a cs, x, h => by
    unfold V.ren rel at h; unfold rel
    obtain ⟨l, h1, h2, h3⟩ := h
    exact ⟨l, h1, relL_ren h2, h3⟩
  | .t vs, x, h => by
    unfold V.ren rel at h; unfold rel
    obtain ⟨l, h1, h2⟩ := h
    exact ⟨l, h1, relL_ren h2⟩
  | .j, _, _ => trivial
theorem relL_ren {σ : List Nat} : ∀ {vs : List V} {xs : List Value}, relL ρ (V.renL σ vs) xs → relL (fun h => ρ (σ.getD h 0)) vs xs
  | [], _, h => h
  | v :: vs, l, h => by
    unfold V.renL relL at h; unfold relL
    obtain ⟨x, xs, h1, h2, h3⟩ := h
    exact ⟨x, xs, h1, rel_ren h2, relL_ren h3⟩
end

theorem leTm_rel {σ : List Nat} : ∀ {tm tm' : List V} {xs : List Value}, leTm σ tm tm' → relL ρ tm xs → relL (fun h => ρ (σ.getD h 0)) tm' xs
  | [], [], _, _, h => h
  | v :: vs, u :: us, l, hl, h => by
    unfold leTm at hl
    unfold relL at h ⊢
    obtain ⟨x, xs, h1, h2, h3⟩ := h
    refine ⟨x, xs, h1, ?_, leTm_rel hl.2 h3⟩
    have := hl.1
    unfold leV at this
    split at this
    · exact trivial
    · subst this; exact rel_ren h2
  | [], _ :: _, _, hl, _ => by simp [leTm] at hl
  | _ :: _, [], _, hl, _ => by simp [leTm] at hl

theorem renL_get {σ : List Nat} : ∀ {vs : List V} {j : Nat} {v : V}, vs[j]? = some v → (V.renL σ vs)[j]? = some (v.ren σ)
  | [], j, v, h => by simp at h
  | u :: vs, 0, v, h => by simp at h; subst h; simp [V.renL]
  | u :: vs, j + 1, v, h => by simp at h; simpa [V.renL] using renL_get h

theorem leHp_get {σ : List Nat} : ∀ {gs : List Nat} {bs : List Blk}, leHp σ hp gs bs → ∀ {h : Nat} {b : Blk}, bs[h]? = some b → b.cells ≠ [] →
    ∃ g c, gs[h]? = some g ∧ hp[g]? = some c ∧ c.cells = V.renL σ b.cells ∧ (b.own = true → c.own = true)
  | [], [], _, h, b, hb, _ => by simp at hb
  | g :: gs, b :: bs, hl, 0, b', hb, hne => by
    simp at hb; subst hb
    unfold leHp at hl
    rcases hl.1 with h0 | h1
    · exact absurd h0 hne
    · cases hc : hp[g]? with
      | none => simp [hc] at h1
      | some c => simp only [hc] at h1; exact ⟨g, c, by simp, hc, h1.1, h1.2⟩
  | g :: gs, b :: bs, hl, h + 1, b', hb, hne => by
    simp at hb
    unfold leHp at hl
    obtain ⟨g', c, h1, h2⟩ := leHp_get hl.2 hb hne
    exact ⟨g', c, by simpa using h1, h2⟩
  | [], _ :: _, hl, _, _, _, _ => by simp [leHp] at hl
  | _ :: _, [], hl, _, _, hb, _ => by simp at hb

theorem LeS_hd {σ : List Nat} {tm tm' : List V} {hp' : List Blk} {m : Nat} (h : LeS m σ tm hp tm' hp') (hd : Hd M w0 ρ hp w) : Hd M w0 (fun h => ρ (σ.getD h 0)) hp' w := by
  obtain ⟨_, hnd, _, hh, _, hok⟩ := h
  have getD_of : ∀ {h g : Nat}, σ[h]? = some g → σ.getD h 0 = g := fun hg => by rw [List.getD_eq_getElem?_getD, hg]; rfl
  refine ⟨hd.keep, hok, ?_, ?_, ?_⟩
  · intro h b hb j v hv
    have hne : b.cells ≠ [] := fun e => by rw [e] at hv; simp at hv
    obtain ⟨g, c, hg, hc, hcc, _⟩ := leHp_get hh hb hne
    have hv' := renL_get (σ := σ) hv
    rw [← hcc] at hv'
    obtain ⟨x, hx, h1, h2⟩ := hd.cell g c hc j _ hv'
    refine ⟨x, ?_, h1, rel_ren h2⟩
    simp only [getD_of hg]; exact hx
  · intro h b hb ho hne
    obtain ⟨g, c, hg, hc, hcc, hoo⟩ := leHp_get hh hb hne
    have hl : c.cells.length = b.cells.length := by
      rw [hcc]
      have : ∀ (vs : List V), (V.renL σ vs).length = vs.length := fun vs => by induction vs with | nil => simp [V.renL] | cons v vs ih => simp [V.renL, ih]
      exact this _
    obtain ⟨h1, h2⟩ := hd.own g c hc (hoo ho) (fun e => hne (List.eq_nil_of_length_eq_zero (by rw [← hl, e]; rfl)))
    simp only [getD_of hg]
    exact ⟨h1, fun j hj => h2 j (by omega)⟩
  · intro h b h' b' hb hb' hhh ho hne hne'
    obtain ⟨g, c, hg, hc, hcc, hoo⟩ := leHp_get hh hb hne
    obtain ⟨g', c', hg', hc', hcc', _⟩ := leHp_get hh hb' hne'
    simp only [getD_of hg, getD_of hg']
    have hl : ∀ (vs : List V), V.renL σ vs = [] → vs = [] := fun vs e => by cases vs with | nil => rfl | cons v vs => simp [V.renL] at e
    refine hd.sep g c g' c' hc hc' ?_ (hoo ho) (fun e => hne (hl _ (hcc ▸ e))) (fun e => hne' (hl _ (hcc' ▸ e)))
    intro e
    subst e
    have h1 := (List.getElem?_eq_some_iff.1 hg)
    have h2 := (List.getElem?_eq_some_iff.1 hg')
    obtain ⟨l1, e1⟩ := h1
    obtain ⟨l2, e2⟩ := h2
    exact hhh ((List.getElem_inj hnd).1 (e1.trans e2.symm))

theorem LeS_base {σ : List Nat} {tm tm' : List V} {hp' : List Blk} {m : Nat} (h : LeS m σ tm hp tm' hp') {i : Nat} (hi : i < m) : σ.getD i 0 = i := by
  have h1 : (σ.take m)[i]? = (List.range m)[i]? := by rw [h.1]
  rw [List.getElem?_take, if_pos hi, List.getElem?_range hi] at h1
  rw [List.getD_eq_getElem?_getD, h1]; rfl
theorem LeS_len {σ : List Nat} {tm tm' : List V} {hp' : List Blk} {m : Nat} (h : LeS m σ tm hp tm' hp') : m ≤ hp'.length := by
  have h1 := congrArg List.length h.1
  have h2 : ∀ {gs : List Nat} {bs : List Blk}, leHp σ hp gs bs → gs.length = bs.length := fun {gs} => by
    induction gs with
    | nil => intro bs hb; cases bs with | nil => rfl | cons b bs => simp [leHp] at hb
    | cons g gs ih => intro bs hb; cases bs with | nil => simp [leHp] at hb | cons b bs => unfold leHp at hb; simp [ih hb.2]
  have h3 := h2 h.2.2.2.1
  simp at h1
  omega
theorem LeS_ok {σ : List Nat} {tm tm' : List V} {hp' : List Blk} {m : Nat} (h : LeS m σ tm hp tm' hp') : okL hp'.length tm' := h.2.2.2.2.1

theorem LeS_tm {σ : List Nat} {tm tm' : List V} {hp' : List Blk} {m : Nat} (h : LeS m σ tm hp tm' hp') {xs : List Value} (hr : relL ρ tm xs) : relL (fun h => ρ (σ.getD h 0)) tm' xs := leTm_rel h.2.2.1 hr

end
end Go.Vc
/- Writing into a block; moving a block to a new handle; rows of zero cells. -/
set_option linter.unusedSimpArgs false
set_option linter.unusedVariables false
namespace Go.Vc
open Go
section
variable {P : Program} {E : Env} {t : TypeId} {d : TD} {M : Nat → Prop} {w0 w : World} {ρ ρ' : Loc} {hp : List Blk}

theorem heap_setCells (b : Nat) : ∀ (vs : List Value) (o : Nat) (w : World) (k : Nat), k ≠ b → (w.setCells b o vs).heap[k]? = w.heap[k]?
  | [], _, _, _, _ => rfl
  | v :: r, o, w, k, h => by rw [World.setCells, heap_setCells b r (o + 1) _ k h]; exact RowKit.Below.heap_setCell _ _ _ _ h
theorem size_setCells (b : Nat) : ∀ (vs : List Value) (o : Nat) (w : World), (w.setCells b o vs).heap.size = w.heap.size
  | [], _, _ => rfl
  | v :: r, o, w => by rw [World.setCells, size_setCells b r]; simp
theorem os_setCells (b : Nat) : ∀ (vs : List Value) (o : Nat) (w : World), (w.setCells b o vs).os = w.os ∧ (w.setCells b o vs).tape = w.tape ∧ (w.setCells b o vs).output = w.output
  | [], _, _ => ⟨rfl, rfl, rfl⟩
  | v :: r, o, w => by rw [World.setCells]; exact os_setCells b r (o + 1) _

theorem Keep.setCells {M : Nat → Prop} {b o : Nat} (vs : List Value) (hb : w0.heap.size ≤ b ∨ M b) (h : Keep M w0 w) : Keep M w0 (w.setCells b o vs) := by
  obtain ⟨h1, h2, h3⟩ := os_setCells b vs o w
  refine ⟨h1.trans h.os, h2.trans h.tape, h3.trans h.output, by rw [size_setCells]; exact h.size, fun k hk hm => ?_⟩
  rw [heap_setCells b vs o w k (fun e => by subst e; rcases hb with hb | hb; omega; exact hm hb)]
  exact h.block k hk hm

theorem splice_get {cs vs : List V} {o j : Nat} (h : o + vs.length ≤ cs.length) : (splice cs o vs)[j]? = if j < o then cs[j]? else if j < o + vs.length then vs[j - o]? else cs[j]? := by
  unfold splice
  have ht : (cs.take o).length = o := by simp; omega
  by_cases h1 : j < o
  · rw [if_pos h1, List.append_assoc, List.getElem?_append_left (by omega), List.getElem?_take, if_pos h1]
  · rw [if_neg h1]
    by_cases h2 : j < o + vs.length
    · rw [if_pos h2, List.getElem?_append_left (by simp; omega), List.getElem?_append_right (by omega), ht]
    · rw [if_neg h2, List.getElem?_append_right (by simp; omega), List.getElem?_drop]
      congr 1
      simp; omega
theorem splice_length {cs vs : List V} {o : Nat} (h : o + vs.length ≤ cs.length) : (splice cs o vs).length = cs.length := by
  unfold splice; simp; omega

/-- A write into an own block. -/
theorem Hd.write (h : Hd M w0 ρ hp w) {g : Nat} {b : Blk} (hg : hp[g]? = some b) (ho : b.own = true) {o : Nat} {vs : List V} {xs : List Value} (hr : relL ρ vs xs) (hok : okL hp.length vs) (h1 : ∀ x ∈ xs, x.oneCell' = true)
    (hlen : o + vs.length ≤ b.cells.length) :
    (Go.storeCells ⟨(ρ g).1, (ρ g).2 + o, none⟩ xs).run P w = .ok () (w.setCells (ρ g).1 ((ρ g).2 + o) xs) ∧
    Hd M w0 ρ (hp.set g ⟨true, splice b.cells o vs⟩) (w.setCells (ρ g).1 ((ρ g).2 + o) xs) := by
  have hxl := relL_length hr
  rcases Nat.eq_zero_or_pos vs.length with hz | hz
  · have hv : vs = [] := List.eq_nil_of_length_eq_zero hz
    subst hv
    have hx : xs = [] := List.eq_nil_of_length_eq_zero (by simpa using hxl)
    subst hx
    refine ⟨rfl, ?_⟩
    have hs : splice b.cells o [] = b.cells := by unfold splice; simp
    have hb : (⟨true, splice b.cells o []⟩ : Blk) = b := by rw [hs]; cases b; simp at ho; subst ho; rfl
    rw [hb]
    have : hp.set g b = hp := by
      apply List.ext_getElem?
      intro i
      rw [List.getElem?_set]
      split
      · rename_i e
        subst e
        have := (List.getElem?_eq_some_iff.1 hg).1
        rw [if_pos this]; exact hg.symm
      · rfl
    rw [this]
    exact h
  · have hne : b.cells ≠ [] := fun e => by rw [e] at hlen; simp only [List.length_nil] at hlen; omega
    obtain ⟨hw, hfz⟩ := h.own g b hg ho hne
    have cellAt : ∀ j, j < vs.length → (w.cell? ⟨(ρ g).1, (ρ g).2 + o + j, none⟩).isSome = true := fun j hj => by
      have hlt : o + j < b.cells.length := by omega
      obtain ⟨x, hx, _⟩ := h.cell g b hg (o + j) _ (List.getElem?_eq_getElem hlt)
      rw [Nat.add_assoc, hx]; rfl
    refine ⟨?_, ?_⟩
    · have := run_storeCells_cells (P := P) (ρ g).1 ((ρ g).2 + o) xs 0 w (fun j hj => by simpa using cellAt j (by omega)) (fun j hj => by rw [Nat.add_zero, Nat.add_assoc]; exact hfz _ (by omega)) h1
      simpa using this
    · have hsl := splice_length hlen
      have hlt := (List.getElem?_eq_some_iff.1 hg).1
      refine ⟨h.keep.setCells xs hw, ?_, ?_, ?_, ?_⟩
      · intro b' hb'
        rw [List.length_set]
        rcases List.mem_or_eq_of_mem_set hb' with hb' | rfl
        · exact h.ok b' hb'
        · exact okL_splice (h.ok b (List.mem_of_getElem? hg)) hok o
      · intro g' b' hg' j v hv
        rcases getElem?_set_cases hg' with ⟨rfl, rfl, _⟩ | ⟨hne', hg'⟩
        · simp only at hv
          rw [splice_get hlen] at hv
          by_cases h2 : j < o
          · rw [if_pos h2] at hv
            obtain ⟨x, hx, e1, e2⟩ := h.cell g' b hg j v hv
            exact ⟨x, by rw [World.cell?_setCells_out _ _ _ _ _ (fun _ _ => .inl (by simp; omega))]; exact hx, e1, e2⟩
          · rw [if_neg h2] at hv
            by_cases h3 : j < o + vs.length
            · rw [if_pos h3] at hv
              obtain ⟨x, hx, e2⟩ := relL_get hr hv
              have hxj : j - o < xs.length := (List.getElem?_eq_some_iff.1 hx).1
              refine ⟨x, ?_, h1 x (List.mem_of_getElem? hx), e2⟩
              have := World.cell?_setCells_in (ρ g').1 xs ((ρ g').2 + o) w (fun j hj => cellAt j (by omega)) (j - o) hxj
              rw [show (ρ g').2 + o + (j - o) = (ρ g').2 + j by omega] at this
              rw [this]
              rw [List.getElem?_eq_getElem hxj] at hx
              exact hx
            · rw [if_neg h3] at hv
              obtain ⟨x, hx, e1, e2⟩ := h.cell g' b hg j v hv
              exact ⟨x, by rw [World.cell?_setCells_out _ _ _ _ _ (fun _ _ => .inr (by simp; omega))]; exact hx, e1, e2⟩
        · obtain ⟨x, hx, e1, e2⟩ := h.cell g' b' hg' j v hv
          have hne2 : b'.cells ≠ [] := fun e => by rw [e] at hv; simp at hv
          have hsep := h.sep g b g' b' hg hg' (fun e => hne' e.symm) ho hne hne2
          exact ⟨x, by rw [World.cell?_setCells_out _ _ _ _ _ (fun e _ => absurd e.symm hsep)]; exact hx, e1, e2⟩
      · intro g' b' hg' ho' hne2
        rcases getElem?_set_cases hg' with ⟨rfl, rfl, _⟩ | ⟨hne', hg'⟩
        · refine ⟨hw, fun j hj => ?_⟩
          rw [World.frozen?_setCells]
          simp only at hj
          exact hfz j (by omega)
        · obtain ⟨q1, q2⟩ := h.own g' b' hg' ho' hne2
          exact ⟨q1, fun j hj => by rw [World.frozen?_setCells]; exact q2 j hj⟩
      · intro g1 b1 g2 b2 hg1 hg2 hgg ho1 hne1 hne2
        rcases getElem?_set_cases hg1 with ⟨e1, e2, _⟩ | ⟨hn1, k1⟩
        · subst e1
          rcases getElem?_set_cases hg2 with ⟨e3, _, _⟩ | ⟨hn2, k2⟩
          · exact absurd e3.symm hgg
          · exact h.sep _ b g2 b2 hg k2 hgg ho hne hne2
        · rcases getElem?_set_cases hg2 with ⟨e3, _, _⟩ | ⟨hn2, k2⟩
          · subst e3
            exact h.sep g1 b1 _ b k1 hg hgg ho1 hne1 hne
          · exact h.sep g1 b1 g2 b2 k1 k2 hgg ho1 hne1 hne2

/-- A part of an own block gets a handle of its own; the old handle is dead. -/
theorem Hd.move (h : Hd M w0 ρ hp w) {g : Nat} {b : Blk} (hg : hp[g]? = some b) (ho : b.own = true) {o : Nat} {cs : List V} (hlen : o + cs.length ≤ b.cells.length)
    (hc : ∀ j v, cs[j]? = some v → v = .j ∨ b.cells[o + j]? = some v) :
    Hd M w0 (ρ.upd hp.length ((ρ g).1, (ρ g).2 + o)) (hp.set g ⟨false, []⟩ ++ [⟨true, cs⟩]) w := by
  have hk := h.kill g
  have hL : (hp.set g ⟨false, []⟩).length = hp.length := List.length_set
  have lt_of : ∀ g' b', (hp.set g ⟨false, []⟩)[g']? = some b' → g' < hp.length := fun g' b' hg' => by have := (List.getElem?_eq_some_iff.1 hg').1; omega
  have snoc : ∀ {i : Nat} {y : Blk}, (hp.set g ⟨false, []⟩ ++ [⟨true, cs⟩])[i]? = some y → (hp.set g ⟨false, []⟩)[i]? = some y ∨ (i = hp.length ∧ y = ⟨true, cs⟩) := fun hi => by
    rcases getElem?_snoc hi with h1 | ⟨h1, h2⟩
    · exact .inl h1
    · exact .inr ⟨by omega, h2⟩
  have bok := h.ok b (List.mem_of_getElem? hg)
  refine ⟨h.keep, ?_, ?_, ?_, ?_⟩
  · intro b' hb'
    rcases List.mem_append.1 hb' with hb' | hb'
    · exact okL_mono (by simp) (hk.ok b' hb')
    · simp at hb'; subst hb'
      refine okL_iff.2 fun v hv => ?_
      obtain ⟨j, hj, rfl⟩ := List.mem_iff_getElem.1 hv
      rcases hc j cs[j] (List.getElem?_eq_getElem hj) with e | e
      · rw [e]; trivial
      · exact okV_mono (by simp) (okL_get bok e)
  · intro g' b' hg' j v hv
    rcases snoc hg' with hg' | ⟨rfl, rfl⟩
    · rw [Loc.upd_lt ρ _ g' (lt_of g' b' hg')]
      obtain ⟨x, hx, e1, e2⟩ := hk.cell g' b' hg' j v hv
      exact ⟨x, hx, e1, rel_congr (N := hp.length) (Loc.upd_lt ρ _) (by have := okL_iff.1 (hk.ok b' (List.mem_of_getElem? hg')) v (List.mem_of_getElem? hv); rwa [hL] at this) e2⟩
    · rw [Loc.upd_same]
      have hj : j < cs.length := (List.getElem?_eq_some_iff.1 hv).1
      have hlt : o + j < b.cells.length := by omega
      obtain ⟨x, hx, e1, e2⟩ := h.cell g b hg (o + j) _ (List.getElem?_eq_getElem hlt)
      refine ⟨x, by simpa [Nat.add_assoc] using hx, e1, ?_⟩
      rcases hc j v hv with e | e
      · rw [e]; trivial
      · rw [List.getElem?_eq_getElem hlt] at e
        cases e
        exact rel_congr (N := hp.length) (Loc.upd_lt ρ _) (okL_get bok (List.getElem?_eq_getElem hlt)) e2
  · intro g' b' hg' ho' hne'
    rcases snoc hg' with hg' | ⟨rfl, rfl⟩
    · rw [Loc.upd_lt ρ _ g' (lt_of g' b' hg')]
      exact hk.own g' b' hg' ho' hne'
    · rw [Loc.upd_same]
      simp only at hne'
      have hne : b.cells ≠ [] := fun e => by
        rw [e] at hlen
        have : cs.length = 0 := by simp only [List.length_nil] at hlen; omega
        exact hne' (List.eq_nil_of_length_eq_zero this)
      obtain ⟨q1, q2⟩ := h.own g b hg ho hne
      exact ⟨q1, fun j hj => by simp only at hj; have := q2 (o + j) (by omega); simpa [Nat.add_assoc] using this⟩
  · intro g1 b1 g2 b2 hg1 hg2 hgg ho1 hne1 hne2
    have nonempty : cs ≠ [] → b.cells ≠ [] := fun hne' e => by
      rw [e] at hlen
      have : cs.length = 0 := by simp only [List.length_nil] at hlen; omega
      exact hne' (List.eq_nil_of_length_eq_zero this)
    have old : ∀ {g' : Nat} {b' : Blk}, (hp.set g ⟨false, []⟩)[g']? = some b' → b'.cells ≠ [] → hp[g']? = some b' ∧ g' ≠ g := fun hg' hne => by
      rcases getElem?_set_cases hg' with ⟨rfl, rfl, _⟩ | ⟨h1, h2⟩
      · exact absurd rfl hne
      · exact ⟨h2, h1⟩
    rcases snoc hg1 with hg1 | ⟨rfl, rfl⟩ <;> rcases snoc hg2 with hg2 | ⟨rfl, rfl⟩
    · rw [Loc.upd_lt ρ _ g1 (lt_of _ _ hg1), Loc.upd_lt ρ _ g2 (lt_of _ _ hg2)]
      exact hk.sep g1 b1 g2 b2 hg1 hg2 hgg ho1 hne1 hne2
    · rw [Loc.upd_lt ρ _ g1 (lt_of _ _ hg1), Loc.upd_same]
      obtain ⟨q1, q2⟩ := old hg1 hne1
      exact h.sep g1 b1 g b q1 hg q2 ho1 hne1 (nonempty hne2)
    · rw [Loc.upd_lt ρ _ g2 (lt_of _ _ hg2), Loc.upd_same]
      obtain ⟨q1, q2⟩ := old hg2 hne2
      exact h.sep g b g2 b2 hg q1 (fun e => q2 e.symm) ho (nonempty hne1) hne2
    · exact absurd rfl hgg

/-! ### Rows of zero cells -/
theorem zero_row (z : Array Value) : ∀ (n : Nat), (Array.range (n * z.size)).map (fun i => z[i % z.size]!) = ((List.replicate n z.toList).flatten).toArray
  | 0 => by simp
  | n + 1 => by
    rcases Nat.eq_zero_or_pos z.size with h0 | h0
    · have : z = #[] := Array.eq_empty_of_size_eq_zero h0
      subst this
      simp
    · have ih := zero_row z n
      apply Array.ext'
      have ih' := congrArg Array.toList ih
      simp only [Array.toList_map, Array.toList_range, List.toList_toArray] at ih' ⊢
      rw [show (n + 1) * z.size = z.size + n * z.size by rw [Nat.add_mul]; omega, List.range_add, List.map_append, List.replicate_succ, List.flatten_cons]
      congr 1
      · apply List.ext_getElem
        · simp
        · intro i h1 h2
          simp at h1 h2
          simp [Nat.mod_eq_of_lt h1, h1]
      · rw [← ih', List.map_map]
        apply List.map_congr_left
        intro i _
        show z[(z.size + i) % z.size]! = z[i % z.size]!
        rw [Nat.add_mod_left]

theorem flatten_replicate_map (n : Nat) (l : List Value) (zs : List V) (h : l.map V.c = zs) : (List.replicate n zs).flatten = ((List.replicate n l).flatten).map V.c := by
  subst h
  induction n with
  | zero => simp
  | succ n ih => rw [List.replicate_succ, List.replicate_succ, List.flatten_cons, List.flatten_cons, List.map_append, ih]

theorem one_flatten (n : Nat) (l : List Value) (h : ∀ c ∈ l, c.oneCell' = true) : ∀ c ∈ (List.replicate n l).flatten, c.oneCell' = true := by
  intro c hc
  obtain ⟨l', hl', hc'⟩ := List.mem_flatten.1 hc
  rw [List.mem_replicate] at hl'
  exact h c (hl'.2 ▸ hc')
theorem zeroCells_eq (z : Array Value) (n : Nat) : Builtin.zeroCells z n = ((List.replicate n z.toList).flatten).toArray := zero_row z n
end
end Go.Vc

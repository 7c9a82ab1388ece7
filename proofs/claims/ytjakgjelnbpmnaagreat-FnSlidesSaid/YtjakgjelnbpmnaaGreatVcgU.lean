import Derived.Test.YtjakgjelnbpmnaaGreatVcgT
/- Calls over a memory of which only some blocks are told: what laws over slices of slices need. -/
set_option linter.unusedSimpArgs false
set_option linter.unusedVariables false
namespace Go.Vc
open Go
/-- More blocks behind. -/
def Ext (hp hp2 : List Blk) : Prop := ∃ R, hp2 = hp ++ R
theorem Ext.refl (hp : List Blk) : Ext hp hp := ⟨[], by simp⟩
theorem Ext.trans {a b c : List Blk} (h : Ext a b) (h2 : Ext b c) : Ext a c := by
  obtain ⟨R, rfl⟩ := h; obtain ⟨T, rfl⟩ := h2; exact ⟨R ++ T, by simp⟩
theorem Ext.get {hp hp2 : List Blk} {h : Nat} {x : Blk} (e : Ext hp hp2) (hx : hp[h]? = some x) : hp2[h]? = some x := by
  obtain ⟨R, rfl⟩ := e
  rw [List.getElem?_append_left (List.getElem?_eq_some_iff.1 hx).1]; exact hx
/-- A block that begins with these cells. -/
def bAt (hp : List Blk) (h : Nat) (cs : List V) : Prop := ∃ own X, hp[h]? = some ⟨own, cs ++ X⟩
theorem bAt_of {hp : List Blk} {h : Nat} {own : Bool} {cs : List V} (e : hp[h]? = some ⟨own, cs⟩) : bAt hp h cs := ⟨own, [], by rw [e, List.append_nil]⟩
theorem bAt_room {hp : List Blk} {h : Nat} {own : Bool} {cs X : List V} (e : hp[h]? = some ⟨own, cs ++ X⟩) : bAt hp h cs := ⟨own, X, e⟩
theorem bAt.mono {hp hp2 : List Blk} {h : Nat} {cs : List V} (e : Ext hp hp2) : bAt hp h cs → bAt hp2 h cs
  | ⟨own, X, hx⟩ => ⟨own, X, e.get hx⟩
theorem bAt.lt {hp : List Blk} {h : Nat} {cs : List V} : bAt hp h cs → h < hp.length
  | ⟨_, _, hx⟩ => (List.getElem?_eq_some_iff.1 hx).1
theorem bAt.cells {hp : List Blk} {h : Nat} {cs : List V} : bAt hp h cs → (cellsAt hp h).take cs.length = cs
  | ⟨_, X, hx⟩ => by unfold cellsAt; rw [hx]; exact List.take_left' rfl
/-- Pointers at g, their parts from b on. -/
def nAt (hp : List Blk) (g b : Nat) (P : List Prt) : Prop := bAt hp g (ptrV b P) ∧ ∀ i p, P[i]? = some p → bAt hp (b + i) p.cells
theorem nAt.mono {hp hp2 : List Blk} {g b : Nat} {P : List Prt} (e : Ext hp hp2) (h : nAt hp g b P) : nAt hp2 g b P := ⟨h.1.mono e, fun i p hp => (h.2 i p hp).mono e⟩
theorem seg_bAt {hp : List Blk} {sub : List (Nat × Nat)} {h : Nat} {cs : List V} {r : List (Nat × Nat)} {ha : List Blk} (hb : bAt hp h cs) (hid : V.instL sub hp.length cs = cs) (hr : segOK hp sub r ha) : segOK hp sub ((h, 0) :: r) (⟨false, cs⟩ :: ha) :=
  ⟨⟨rfl, hb.lt, by rw [List.drop_zero, hid]; exact hb.cells⟩, hr⟩
section
variable {X : Cx} {f : FuncId} {args : List V} {d : Option Tmp} {ops : List Oper} {r : R} {tm : List V} {hp : List Blk} {q : K}
/-- As kCall_Ret, the memory behind the call being a new name. -/
theorem kA_ret {α : Type} {args0 : List V} {ha : List Blk} {G : α → Prop} {S : α → V × List Blk} (h : LC X.P f args0 ha (Ret ha G S)) (hmu : X.mu.contains f = false) (sub : List (Nat × Nat))
    (h1 : leArgs args (V.instL sub hp.length args0)) (h2 : segOK hp sub sub ha) (h3 : okL ha.length args0) (h4 : ∀ b ∈ ha, okL ha.length b.cells) (h5 : ∀ x, ∀ b ∈ (S x).2, b.own = true ∨ b.cells = [])
    (hk : ∀ x N hp2, G x → N = hp.length → hp2 = hp ++ ((S x).2.map fun b => ⟨b.own, V.instL sub N b.cells⟩) → kR X ops r (putV tm d ((S x).1.inst sub N)) hp2 q) : kCall X f args d ops r tm hp q :=
  kCall_Ret h hmu sub h1 h2 h3 h4 h5 fun x hx => hk x _ _ hx rfl rfl
end
theorem new_ext {hp hp2 : List Blk} {R : List Blk} (e : hp2 = hp ++ R) : Ext hp hp2 := ⟨R, e⟩
/-- Two nests of the same parts. -/
theorem seg_two {hp : List Blk} {g1 b1 g2 b2 n : Nat} {P : List Prt} (h1 : nAt hp g1 b1 P) (h2 : nAt hp g2 b2 P) (hn : P.length = n) (hid : ∀ sub N, ∀ p ∈ P, V.instL sub N p.cells = p.cells) :
    segOK hp ((g1, 0) :: (g2, 0) :: (rng b1 n ++ rng b2 n)) ((g1, 0) :: (g2, 0) :: (rng b1 n ++ rng b2 n)) (⟨false, ptrV 2 P⟩ :: ⟨false, ptrV (n + 2) P⟩ :: (partB false P ++ partB false P)) := by
  have c1 := h1.1.cells
  have c2 := h2.1.cells
  rw [ptrV_length] at c1 c2
  refine ⟨⟨rfl, h1.1.lt, ?_⟩, ⟨rfl, h2.1.lt, ?_⟩, segOK_app (segOK_rng hn fun i p hp => ?_) (segOK_rng hn fun i p hp => ?_)⟩
  · rw [List.drop_zero, ptrV_length, c1, instL_ptrV]
    intro i hi
    rw [Nat.add_comm, List.getElem?_cons_succ, List.getElem?_cons_succ, List.getElem?_append_left (by rw [rng_length]; omega), rng_get b1 (by omega)]
  · rw [List.drop_zero, ptrV_length, c2, instL_ptrV]
    intro i hi
    rw [show n + 2 + i = (n + i) + 1 + 1 by omega, List.getElem?_cons_succ, List.getElem?_cons_succ, List.getElem?_append_right (by rw [rng_length]; omega), rng_length, Nat.add_sub_cancel_left, rng_get b2 (by omega)]
  · rw [hid _ _ _ (List.mem_of_getElem? hp)]
    exact ⟨(h1.2 i p hp).lt, (h1.2 i p hp).cells⟩
  · rw [hid _ _ _ (List.mem_of_getElem? hp)]
    exact ⟨(h2.2 i p hp).lt, (h2.2 i p hp).cells⟩
/-! ### Calls that write -/
/-- All blocks but those of W are as they were. -/
def Upd (W : Nat → Prop) (hp hp2 : List Blk) : Prop := hp.length ≤ hp2.length ∧ ∀ h x, ¬ W h → hp[h]? = some x → hp2[h]? = some x
theorem Ext.upd {hp hp2 : List Blk} (e : Ext hp hp2) : Upd (fun _ => False) hp hp2 := ⟨by obtain ⟨R, rfl⟩ := e; simp, fun _ _ _ hx => e.get hx⟩
theorem Upd.get {W : Nat → Prop} {hp hp2 : List Blk} {h : Nat} {x : Blk} (e : Upd W hp hp2) (hw : ¬ W h) (hx : hp[h]? = some x) : hp2[h]? = some x := e.2 h x hw hx
theorem bAt.upd {W : Nat → Prop} {hp hp2 : List Blk} {h : Nat} {cs : List V} (e : Upd W hp hp2) (hw : ¬ W h) : bAt hp h cs → bAt hp2 h cs
  | ⟨own, X, hx⟩ => ⟨own, X, e.get hw hx⟩
theorem nAt.upd {W : Nat → Prop} {hp hp2 : List Blk} {g b : Nat} {P : List Prt} (e : Upd W hp hp2) (h : nAt hp g b P) (hw : ¬ W g) (hw2 : ∀ i, i < P.length → ¬ W (b + i)) : nAt hp2 g b P :=
  ⟨h.1.upd e hw, fun i p hp => (h.2 i p hp).upd e (hw2 i (List.getElem?_eq_some_iff.1 hp).1)⟩
theorem Ext.uext {W : Nat → Prop} {ha hp hp2 : List Blk} (x : Ext ha hp) (e : Upd W hp hp2) (hw : ∀ h, h < ha.length → ¬ W h) : Ext ha hp2 := by
  obtain ⟨R, rfl⟩ := x
  refine ⟨hp2.drop ha.length, ?_⟩
  have hl := e.1
  rw [List.length_append] at hl
  have ht : hp2.take ha.length = ha := by
    apply List.ext_getElem?
    intro i
    rcases Nat.lt_or_ge i ha.length with hi | hi
    · rw [List.getElem?_take, if_pos hi, List.getElem?_eq_getElem hi]
      exact e.get (hw i hi) (by rw [List.getElem?_append_left hi, List.getElem?_eq_getElem hi])
    · rw [List.getElem?_eq_none (by rw [List.length_take]; omega), List.getElem?_eq_none hi]
  rw [← ht, List.length_take, Nat.min_eq_left (by omega), List.take_append_drop]
/-- A block in the memory, whole and own. -/
theorem set_upd {hp : List Blk} {h : Nat} {x b : Blk} (_ : hp[h]? = some x) : Upd (fun k => k = h) hp (hp.set h b) := ⟨by simp, fun k y hk hy => by rw [List.getElem?_set, if_neg (fun e => hk e.symm)]; exact hy⟩
section
variable {X : Cx} {f : FuncId} {args : List V} {d : Option Tmp} {ops : List Oper} {r : R} {tm : List V} {hp : List Blk} {q : K}
end
end Go.Vc

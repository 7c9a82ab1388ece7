import Derived.Test.YtahnjhppkgndiaaGreatVcgT
/- Calls over a memory of which only some blocks are told: what laws over slices of slices need. -/
set_option linter.unusedSimpArgs false
set_option linter.unusedVariables false
namespace Go.Vc
open Go
/-- More blocks behind. -/
def Ext (hp hp2 : List Blk) : Prop := ∃ R, hp2 = hp ++ R
theorem Ext.refl (hp : List Blk) : Ext hp hp := ⟨[], by simp⟩
theorem Ext.trans {a b c : List Blk} (h : Ext a b) (h2 : Ext b c) : Ext a c := by
  obtain ⟨R, rfl⟩ := h; obtain ⟨T, rfl⟩ := h2; exact ⟨R ++ T, by simp⟩
theorem Ext.get {hp hp2 : List Blk} {h : Nat} {x : Blk} (e : Ext hp hp2) (hx : hp[h]? = some x) : hp2[h]? = some x := by
  obtain ⟨R, rfl⟩ := e
  rw [List.getElem?_append_left (List.getElem?_eq_some_iff.1 hx).1]; exact hx
/-- A block that begins with these cells. -/
def bAt (hp : List Blk) (h : Nat) (cs : List V) : Prop := ∃ own X, hp[h]? = some ⟨own, cs ++ X⟩
theorem bAt_room {hp : List Blk} {h : Nat} {own : Bool} {cs X : List V} (e : hp[h]? = some ⟨own, cs ++ X⟩) : bAt hp h cs := ⟨own, X, e⟩
theorem bAt.mono {hp hp2 : List Blk} {h : Nat} {cs : List V} (e : Ext hp hp2) : bAt hp h cs → bAt hp2 h cs
  | ⟨own, X, hx⟩ => ⟨own, X, e.get hx⟩
theorem bAt.lt {hp : List Blk} {h : Nat} {cs : List V} : bAt hp h cs → h < hp.length
  | ⟨_, _, hx⟩ => (List.getElem?_eq_some_iff.1 hx).1
theorem bAt.cells {hp : List Blk} {h : Nat} {cs : List V} : bAt hp h cs → (cellsAt hp h).take cs.length = cs
  | ⟨_, X, hx⟩ => by unfold cellsAt; rw [hx]; exact List.take_left' rfl
/-- Pointers at g, their parts from b on. -/
def nAt (hp : List Blk) (g b : Nat) (P : List Prt) : Prop := bAt hp g (ptrV b P) ∧ ∀ i p, P[i]? = some p → bAt hp (b + i) p.cells
theorem nAt.mono {hp hp2 : List Blk} {g b : Nat} {P : List Prt} (e : Ext hp hp2) (h : nAt hp g b P) : nAt hp2 g b P := ⟨h.1.mono e, fun i p hp => (h.2 i p hp).mono e⟩
theorem seg_nAt {hp : List Blk} {g b n : Nat} {P : List Prt} {τ : List (Nat × Nat)} {T : List Blk} (h : nAt hp g b P) (hn : P.length = n) (hid : ∀ sub N, ∀ p ∈ P, V.instL sub N p.cells = p.cells) (hT : segOK hp ((g, 0) :: (rng b n ++ τ)) τ T) :
    segOK hp ((g, 0) :: (rng b n ++ τ)) ((g, 0) :: (rng b n ++ τ)) (⟨false, ptrV 1 P⟩ :: (partB false P ++ T)) :=
  seg_nestX hn h.1.lt (by have := h.1.cells; rw [ptrV_length, hn] at this; exact this) (fun i p hp => ⟨(h.2 i p hp).lt, (h.2 i p hp).cells⟩) hid hT
theorem seg_bAt {hp : List Blk} {sub : List (Nat × Nat)} {h : Nat} {cs : List V} {r : List (Nat × Nat)} {ha : List Blk} (hb : bAt hp h cs) (hid : V.instL sub hp.length cs = cs) (hr : segOK hp sub r ha) : segOK hp sub ((h, 0) :: r) (⟨false, cs⟩ :: ha) :=
  ⟨⟨rfl, hb.lt, by rw [List.drop_zero, hid]; exact hb.cells⟩, hr⟩
section
variable {X : Cx} {f : FuncId} {args : List V} {d : Option Tmp} {ops : List Oper} {r : R} {tm : List V} {hp : List Blk} {q : K}
/-- As kCall_Ret, the memory behind the call being a new name. -/
theorem kA_ret {α : Type} {args0 : List V} {ha : List Blk} {G : α → Prop} {S : α → V × List Blk} (h : LC X.P f args0 ha (Ret ha G S)) (hmu : X.mu.contains f = false) (sub : List (Nat × Nat))
    (h1 : leArgs args (V.instL sub hp.length args0)) (h2 : segOK hp sub sub ha) (h3 : okL ha.length args0) (h4 : ∀ b ∈ ha, okL ha.length b.cells) (h5 : ∀ x, ∀ b ∈ (S x).2, b.own = true ∨ b.cells = [])
    (hk : ∀ x N hp2, G x → N = hp.length → hp2 = hp ++ ((S x).2.map fun b => ⟨b.own, V.instL sub N b.cells⟩) → kR X ops r (putV tm d ((S x).1.inst sub N)) hp2 q) : kCall X f args d ops r tm hp q :=
  kCall_Ret h hmu sub h1 h2 h3 h4 h5 fun x hx => hk x _ _ hx rfl rfl
end
theorem new_at {hp hp2 : List Blk} {N : Nat} {b : Blk} {R : List Blk} (hN : N = hp.length) (e : hp2 = hp ++ (b :: R)) : hp2[N]? = some b := by rw [e]; exact at_app hN.symm
theorem new_ext {hp hp2 : List Blk} {R : List Blk} (e : hp2 = hp ++ R) : Ext hp hp2 := ⟨R, e⟩
theorem rng_end (b n : Nat) : (rng b n)[n]? = none := List.getElem?_eq_none (by rw [rng_length]; exact Nat.le_refl _)
theorem rng_at (b n : Nat) (x : Nat × Nat) (τ : List (Nat × Nat)) : (rng b n ++ x :: τ)[n]? = some x := by
  rw [List.getElem?_append_right (by rw [rng_length]; exact Nat.le_refl _), rng_length, Nat.sub_self]; rfl
theorem okB_nestT {D : List (List UInt8 × Nat)} {N : Nat} {T : List UInt8} (hN : D.length + 1 ≤ N) : ∀ b ∈ (⟨false, ptrV 1 (bPs D)⟩ : Blk) :: (partB false (bPs D) ++ [⟨false, bs T⟩]), okL N b.cells := fun b hb =>
  stL_ok (stB_cons (stL_ptrV (by rw [bPs_length]; omega)) (stB_app (stB_part bPs_st) (stB_cons (stL_bs _ _) stB_nil)) b hb)
/-! ### Calls that write -/
/-- All blocks but those of W are as they were. -/
def Upd (W : Nat → Prop) (hp hp2 : List Blk) : Prop := hp.length ≤ hp2.length ∧ ∀ h x, ¬ W h → hp[h]? = some x → hp2[h]? = some x
theorem Ext.upd {hp hp2 : List Blk} (e : Ext hp hp2) : Upd (fun _ => False) hp hp2 := ⟨by obtain ⟨R, rfl⟩ := e; simp, fun _ _ _ hx => e.get hx⟩
theorem Upd.get {W : Nat → Prop} {hp hp2 : List Blk} {h : Nat} {x : Blk} (e : Upd W hp hp2) (hw : ¬ W h) (hx : hp[h]? = some x) : hp2[h]? = some x := e.2 h x hw hx
theorem bAt.upd {W : Nat → Prop} {hp hp2 : List Blk} {h : Nat} {cs : List V} (e : Upd W hp hp2) (hw : ¬ W h) : bAt hp h cs → bAt hp2 h cs
  | ⟨own, X, hx⟩ => ⟨own, X, e.get hw hx⟩
theorem nAt.upd {W : Nat → Prop} {hp hp2 : List Blk} {g b : Nat} {P : List Prt} (e : Upd W hp hp2) (h : nAt hp g b P) (hw : ¬ W g) (hw2 : ∀ i, i < P.length → ¬ W (b + i)) : nAt hp2 g b P :=
  ⟨h.1.upd e hw, fun i p hp => (h.2 i p hp).upd e (hw2 i (List.getElem?_eq_some_iff.1 hp).1)⟩
section
variable {X : Cx} {f : FuncId} {args : List V} {d : Option Tmp} {ops : List Oper} {r : R} {tm : List V} {hp : List Blk} {q : K}
end
end Go.Vc

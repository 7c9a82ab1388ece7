import Derived.Test.YtjakgjelnbpmnaaGreatVcgO
import Derived.RangeFuncNested
import Derived.RangeFuncLeaves
import Derived.RangeFuncCalls
import Derived.TacticsIn
/- Operations and regions within a round of a range over a function. -/
set_option linter.unusedSimpArgs false
set_option linter.unusedVariables false
namespace Go.Vc
open Go Go.RowKit
end Go.Vc
namespace Go.Vc
open Go Go.RowKit
section
variable {P : Program} {E : Env} {mu : List FuncId} {M : Nat → Prop} {w0 : World}
/-- What is known at a place: the memory, the temporaries, the first N0 handles' places, the deferred calls. -/
structure At (M : Nat → Prop) (w0 : World) (N0 : Nat) (ρ0 : Vc.Loc) (D0 : List Deferred) (tm : List V) (hp : List Blk) (a : Act) (w : World) : Prop where
  ex : ∃ ρ, Hd M w0 ρ hp w ∧ relL ρ tm a.tmps.toList ∧ ∀ h, h < N0 → ρ h = ρ0 h
  ok : okL hp.length tm
  defers : a.defers = D0
  len : N0 ≤ hp.length
theorem At.le {N0 : Nat} {ρ0 : Vc.Loc} {D0 : List Deferred} {tm tm' : List V} {hp hp' : List Blk} {σ : List Nat} {a : Act} {w : World} (hI : At M w0 N0 ρ0 D0 tm hp a w) (h : LeS N0 σ tm hp tm' hp') : At M w0 N0 ρ0 D0 tm' hp' a w := by
  obtain ⟨ρ, hd, ht, hb⟩ := hI.ex
  exact ⟨⟨_, LeS_hd h hd, LeS_tm h ht, fun i hi => by simp only [LeS_base h hi]; exact hb i hi⟩, LeS_ok h, hI.defers, LeS_len h⟩
end
end Go.Vc
namespace Go.Vc
open Go Go.RowKit
section
variable {P : Program} {E : Env} {mu : List FuncId} {M : Nat → Prop} {w0 : World}
/-- Blocks that may not be written are as they were wherever the others alone have turned. -/
theorem At.move {N0 : Nat} {ρ0 : Vc.Loc} {D0 : List Deferred} {tm : List V} {hp : List Blk} {a : Act} {w W' : World} {Mk M' : Nat → Prop} (hI : At M w0 N0 ρ0 D0 tm hp a w) (hro : ∀ b ∈ hp, b.own = false) (hN : hp.length = N0) (hk : Keep Mk w W') (hM : ∀ h, h < N0 → ¬ Mk (ρ0 h).1) : At M' W' N0 ρ0 D0 tm hp a W' := by
  obtain ⟨ρ, hd, ht, hb⟩ := hI.ex
  refine ⟨⟨ρ, ⟨Keep.refl _ _, hd.ok, fun h b hh j v hv => ?_, fun h b hh ho => ?_, fun h b h' b' hh _ _ ho => ?_⟩, ht, hb⟩, hI.ok, hI.defers, hI.len⟩
  · obtain ⟨x, hx, h1, h2⟩ := hd.cell h b hh j v hv
    have hlt : h < N0 := by rw [← hN]; exact (List.getElem?_eq_some_iff.1 hh).1
    exact ⟨x, (hk.cell (World.block_lt_of_cell? _ _ hx) (by show ¬ Mk (ρ h).1; rw [hb h hlt]; exact hM h hlt)).trans hx, h1, h2⟩
  · rw [hro b (List.mem_of_getElem? hh)] at ho; cases ho
  · rw [hro b (List.mem_of_getElem? hh)] at ho; cases ho
/-- What an operand is. -/
theorem At.eval {N0 : Nat} {ρ0 : Vc.Loc} {D0 : List Deferred} {tm : List V} {hp : List Blk} {a : Act} {w : World} (hI : At M w0 N0 ρ0 D0 tm hp a w) {o : Operand} {x : Value} (h : ev tm o = .c x) : a.eval o = x := by
  obtain ⟨ρ, _, ht, _⟩ := hI.ex
  have := ev_rel ht o
  rw [h] at this
  unfold rel at this
  exact this
end
end Go.Vc
namespace Go.Vc
open Go Go.RowKit
section
variable {P : Program} {M : Nat → Prop} {w0 : World}
theorem At.keep {N0 : Nat} {ρ0 : Vc.Loc} {D0 : List Deferred} {tm : List V} {hp : List Blk} {a : Act} {w : World} (hI : At M w0 N0 ρ0 D0 tm hp a w) : Keep M w0 w := by
  obtain ⟨ρ, hd, _⟩ := hI.ex
  exact hd.keep
/-- A plain value into a temporary. -/
theorem At.put {N0 : Nat} {ρ0 : Vc.Loc} {D0 : List Deferred} {tm : List V} {hp : List Blk} {a : Act} {w : World} (hI : At M w0 N0 ρ0 D0 tm hp a w) (d : Option Tmp) (y : Value) : At M w0 N0 ρ0 D0 (putV tm d (.c y)) hp (a.put d y) w := by
  obtain ⟨ρ, hd, ht, hb⟩ := hI.ex
  exact ⟨⟨ρ, hd, put_rel ht (v := .c y) (by unfold rel; rfl) d, hb⟩, put_ok hI.ok (v := .c y) (by simp [okV]) d, by rw [put_defers]; exact hI.defers, hI.len⟩
end
end Go.Vc
namespace Go.Vc
open Go Go.RowKit
section
variable {P : Program} {M M2 : Nat → Prop} {w0 : World}
/-- The first blocks alone, at places that agree. -/
theorem Hd.first {ρ ρ' : Vc.Loc} {A R : List Blk} {w : World} (h : Hd M w0 ρ (A ++ R) w) (hok : ∀ b ∈ A, okL A.length b.cells) (hρ : ∀ g, g < A.length → ρ' g = ρ g) : Hd M w0 ρ' A w := by
  have up : ∀ g b, A[g]? = some b → (A ++ R)[g]? = some b := fun g b hb => by rw [List.getElem?_append_left (List.getElem?_eq_some_iff.1 hb).1]; exact hb
  have lt : ∀ g b, A[g]? = some b → g < A.length := fun g b hb => (List.getElem?_eq_some_iff.1 hb).1
  refine ⟨h.keep, hok, fun g b hb j v hv => ?_, fun g b hb ho hne => ?_, fun g b g' b' hb hb' hgg ho hne hne' => ?_⟩
  · rw [hρ g (lt g b hb)]
    obtain ⟨x, hx, h1, h2⟩ := h.cell g b (up g b hb) j v hv
    exact ⟨x, hx, h1, rel_congr (fun i hi => hρ i hi) (okL_iff.1 (hok b (List.mem_of_getElem? hb)) v (List.mem_of_getElem? hv)) h2⟩
  · rw [hρ g (lt g b hb)]; exact h.own g b (up g b hb) ho hne
  · rw [hρ g (lt g b hb), hρ g' (lt g' b' hb')]; exact h.sep g b g' b' (up g b hb) (up g' b' hb') hgg ho hne hne'
/-- The same from an earlier world on. -/
theorem Hd.base {ρ : Vc.Loc} {hp : List Blk} {w w' : World} (h : Hd M2 w ρ hp w') (k : Keep M w0 w) (hM : ∀ b, b < w0.heap.size → M2 b → M b) (ho : ∀ g b, hp[g]? = some b → b.own = true → b.cells ≠ [] → w0.heap.size ≤ (ρ g).1 ∨ M (ρ g).1) : Hd M w0 ρ hp w' :=
  ⟨⟨h.keep.os.trans k.os, h.keep.tape.trans k.tape, h.keep.output.trans k.output, Nat.le_trans k.size h.keep.size, fun i hi hm => (h.keep.block i (Nat.lt_of_lt_of_le hi k.size) fun h2 => hm (hM i hi h2)).trans (k.block i hi hm)⟩,
    h.ok, h.cell, fun g b hb hw hne => ⟨ho g b hb hw hne, (h.own g b hb hw hne).2⟩, h.sep⟩
end
end Go.Vc

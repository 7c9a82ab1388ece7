/- Slices of arrays of bytes, as they come in. -/
import Derived.Test.YtgdkpnchkalggaaVcgR
set_option linter.unusedSimpArgs false
set_option linter.unusedVariables false
namespace Go.Vc
open Go Go.RowKit Go.ChangeShapes Go.WideShapes Go.ChangeAt
section
variable {H : Type} {enc : TypeId × Value → H} {P : Program} {w : World} {base : Nat} {spare : Nat → Bool} {held : Bool}
/-- What a slice of arrays of bytes that came in leads to. -/
def IsRows (k : Nat) (w : World) (v : Value) (ρ0 : Nat × Nat) (n c : Nat) (l : List UInt8) : Prop :=
  l.length = k * n ∧ n ≤ c ∧ c ≤ maxLen ∧ rel (fun _ => ρ0) (.s 0 0 n c) v ∧ ∀ i, i < l.length → w.cell? ⟨ρ0.1, ρ0.2 + i, none⟩ = some (u8v (l.getD i 0))
theorem array_cells {n : Nat} {t e : TypeId} {fuel : Nat} {cs : List Value} {x : DataW H × List MemPlace} (ht : P.underlying t = some (.array n e)) (he : P.underlying e = some (.int .u8)) (hce : P.cellsOf e = 1)
    (h : DataW.trod enc P w base spare held fuel t cs = some x) (i : Nat) (hi : i < n) : ∃ u : UInt8, cs[i]? = some (u8v u) := by
  obtain ⟨xs, m, _, _, hlen, hxl, hx⟩ := DataW.trod_array ht h
  have h1 := hx i hi
  rw [hce] at h1
  have h2 : xs[i]? = some xs[i] := List.getElem?_eq_getElem (by omega)
  rw [h2] at h1
  obtain ⟨z, e1, e2, e3⟩ := DataW.trod_int he h1
  obtain ⟨u, rfl⟩ := u8_of_wf e3
  refine ⟨u, ?_⟩
  have h3 : ((cs.drop (i * 1)).take 1)[0]? = some (u8v u) := by rw [e1]; rfl
  simpa using h3
theorem open_arraysS {t e b : TypeId} {k : Nat} {r : Reach} {b0 : Nat} {v : Value} {d : DataW H} {ps : List MemPlace} (ht : P.underlying t = some (.slice e)) (he : P.underlying e = some (.array k b)) (hb : P.underlying b = some (.int .u8)) (hce : P.cellsOf e = k) (hcb : P.cellsOf b = 1) (hk : 0 < k)
    (hv : Value.okWide P w r b0 t v) (h : DataW.Trod enc P w base (fun _ => true) held t v d ps) : ∃ ρ0 n c l, IsRows k w v ρ0 n c l := by
  obtain ⟨a, len, cap, rfl⟩ := okWide_slice ht hv
  obtain ⟨fuel, hf⟩ := h
  rcases DataW.trod_slice ht hf with ⟨hcs, _⟩ | ⟨x, l, c, elems, rest, n, _, hcs, _, _, hl, hm, hlen, hel, hsp, _⟩
  · simp [Value.cells] at hcs
    obtain ⟨rfl, rfl, rfl⟩ := hcs
    refine ⟨(0, 0), 0, 0, [], rfl, Nat.le_refl _, Nat.zero_le _, ?_, fun i hi => by simp at hi⟩
    unfold rel
    exact ⟨Nat.le_refl _, none, rfl, fun h => absurd h (by omega)⟩
  · simp [Value.cells] at hcs
    obtain ⟨rfl, rfl, rfl⟩ := hcs
    obtain ⟨hrl, hr⟩ := hsp rfl
    have each : ∀ i, i < cap → ∃ y, (w.cells? base (x.add (i * P.cellsOf e)) (P.cellsOf e)).bind (DataW.trod enc P w base (fun _ => true) held n e) = some y := by
      intro i hi
      by_cases h1 : i < len
      · rw [hel i h1]
        exact ⟨_, List.getElem?_eq_getElem (by omega)⟩
      · have := hr (i - len) (by omega)
        rw [show len + (i - len) = i by omega] at this
        rw [this]
        exact ⟨_, List.getElem?_eq_getElem (by omega)⟩
    have cell : ∀ i, i < k * cap → ∃ u : UInt8, w.cell? (x.add i) = some (u8v u) := by
      intro i hi
      obtain ⟨y, hy⟩ := each (i / k) (Nat.div_lt_of_lt_mul hi)
      rw [hce, Option.bind_eq_some_iff] at hy
      obtain ⟨cs, h1, h2⟩ := hy
      obtain ⟨_, _, h3⟩ := World.cells?_some h1
      obtain ⟨u, hu⟩ := array_cells he hb hcb h2 (i % k) (Nat.mod_lt _ hk)
      refine ⟨u, ?_⟩
      have h4 := h3 (i % k) (Nat.mod_lt _ hk)
      rw [Addr.add_add, Nat.mul_comm, Nat.div_add_mod] at h4
      rw [h4, hu]
    have spot : 0 < cap → x = ⟨x.block, x.off, none⟩ := fun hc => by
      obtain ⟨u, this⟩ := cell 0 (Nat.mul_pos hk hc)
      simp only [Addr.add, if_true] at this
      unfold World.cell? at this
      split at this
      · cases hs : x.spot with
        | none => obtain ⟨b, o, sp⟩ := x; simp only at hs; subst hs; rfl
        | some s => simp [hs] at this
      · cases this
    have hle : k * len ≤ k * cap := Nat.mul_le_mul_left k hl
    let f : Nat → UInt8 := fun i => if h : i < k * cap then Classical.choose (cell i h) else 0
    refine ⟨(x.block, x.off), len, cap, (List.range (k * len)).map f, by simp, hl, hm, ?_, fun i hi => ?_⟩
    · unfold rel
      exact ⟨hl, some x, rfl, fun hc => by rw [spot hc]; rfl⟩
    · have hi' : i < k * len := by simpa using hi
      have hi2 : i < k * cap := by omega
      have hc : 0 < cap := by
        rcases Nat.eq_zero_or_pos cap with h0 | h0
        · rw [h0, Nat.mul_zero] at hi2; omega
        · exact h0
      have h2 : w.cell? (x.add i) = some (u8v (f i)) := by simp only [f, hi2, dif_pos]; exact Classical.choose_spec (cell i hi2)
      have h3 : x.add i = ⟨x.block, x.off + i, none⟩ := by
        rw [spot hc]
        unfold Addr.add
        split
        · rename_i h0; subst h0; rfl
        · rfl
      rw [h3] at h2
      have h4 : ((List.range (k * len)).map f).getD i 0 = f i := by simp [List.getD, hi']
      rw [h4, ← h2]
end
end Go.Vc

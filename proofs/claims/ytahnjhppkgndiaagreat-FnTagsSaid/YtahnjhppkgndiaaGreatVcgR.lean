import Derived.Test.YtahnjhppkgndiaaGreatVcgO
import Derived.WalkKit
import Derived.ProofKit
import Derived.OpenShut
import Derived.ShutString
import Derived.ChangeOld
import Derived.Below
/- From a function's contract to a row of the joined form. -/
set_option linter.unusedSimpArgs false
set_option linter.unusedVariables false
namespace Go.Vc
open Go Go.RowKit Go.ChangeShapes Go.WideShapes Go.ChangeAt

/-- A law that returns true over memory that it only reads. -/
theorem LC_row {P : Program} {f : FuncId} {args0 : List V} {ha : List Blk} (h : LC P f args0 ha (fun v _ => v = .c (.bool true))) (hro : ∀ b ∈ ha, b.own = false) (hok : okL ha.length args0) (hokb : ∀ b ∈ ha, okL ha.length b.cells)
    {w : World} {ρ : Loc} {xs : List Value} (hcell : ∀ h b, ha[h]? = some b → ∀ j v, b.cells[j]? = some v → ∃ x, w.cell? ⟨(ρ h).1, (ρ h).2 + j, none⟩ = some x ∧ x.oneCell' = true ∧ rel ρ v x) (hrel : relL ρ args0 xs) :
    Calls P f xs.toArray w fun e w' => e = .returned (.bool true) ∧ Below w.heap.size w w' := by
  have hno : ∀ {h : Nat} {b : Blk}, ha[h]? = some b → b.own = true → False := fun hb ho => by
    rw [hro _ (List.mem_of_getElem? hb)] at ho; cases ho
  have hm : ∀ k, ¬ modOf ha ρ k := fun k hk => by
    obtain ⟨h, b, hb, ho, _⟩ := hk
    exact hno hb ho
  refine (h.2 w ρ xs ⟨Keep.refl _ _, hokb, hcell, fun h b hb ho _ => (hno hb ho).elim, fun h b h' b' hb _ _ ho _ _ => (hno hb ho).elim⟩ hrel hok).mono fun e w' hR => ?_
  obtain ⟨v, hp', ρ', x, rfl, rfl, hd, _, _, hv, _⟩ := hR
  unfold rel at hv
  subst hv
  exact ⟨rfl, (hd.keep.mono fun k hk => (hm k hk).elim : Keep none' w w').below⟩

/-! ### Opening arguments -/
section
variable {H : Type} {enc : TypeId × Value → H} {P : Program} {w : World} {base : Nat} {spare : Nat → Bool} {held : Bool}

def u8v (u : UInt8) : Value := .int .u8 (u.toNat : Int)

theorem u8_of_wf {n : Int} (h : (Lit.int .u8 n).wf = true) : ∃ u : UInt8, n = (u.toNat : Int) := by
  simp only [Lit.wf, Bool.and_eq_true, decide_eq_true_eq] at h
  simp [IntKind.min, IntKind.max, IntKind.signed, IntKind.bits] at h
  exact ⟨UInt8.ofInt n, by rw [toNat_ofInt]; omega⟩

theorem u8s_of_wf : ∀ {zs : List Int}, (∀ n ∈ zs, (Lit.int .u8 n).wf = true) → ∃ l : List UInt8, l.length = zs.length ∧ zs = l.map fun u => (u.toNat : Int)
  | [], _ => ⟨[], rfl, rfl⟩
  | z :: zs, h => by
    obtain ⟨u, hu⟩ := u8_of_wf (h z (by simp))
    obtain ⟨l, h1, h2⟩ := u8s_of_wf (zs := zs) (fun n hn => h n (by simp [hn]))
    exact ⟨u :: l, by simp [h1], by simp [hu, ← h2]⟩

/-- What a slice of bytes that came in leads to. -/
def IsBytes (w : World) (v : Value) (ρ0 : Nat × Nat) (n c : Nat) (l : List UInt8) : Prop :=
  l.length = n ∧ n ≤ c ∧ c ≤ maxLen ∧ rel (fun _ => ρ0) (.s 0 0 n c) v ∧ ∀ i, i < l.length → w.cell? ⟨ρ0.1, ρ0.2 + i, none⟩ = some (u8v (l.getD i 0))

theorem open_bytesS {t e : TypeId} {r : Reach} {b0 : Nat} {v : Value} {d : DataW H} {ps : List MemPlace} (ht : P.underlying t = some (.slice e)) (he : P.underlying e = some (.int .u8)) (hce : P.cellsOf e = 1)
    (hv : Value.okWide P w r b0 t v) (h : DataW.Trod enc P w base (fun _ => true) held t v d ps) : ∃ ρ0 n c l, IsBytes w v ρ0 n c l := by
  obtain ⟨a, len, cap, rfl⟩ := okWide_slice ht hv
  obtain ⟨fuel, hf⟩ := h
  rcases open_ints ht he hce hf with ⟨hcs, _⟩ | ⟨x, l, c, zs, hcs, _, hl, hm, hz, _, hcell, hwz⟩
  · simp [Value.cells] at hcs
    obtain ⟨rfl, rfl, rfl⟩ := hcs
    refine ⟨(0, 0), 0, 0, [], rfl, Nat.le_refl _, Nat.zero_le _, ?_, fun i hi => by simp at hi⟩
    unfold rel
    exact ⟨Nat.le_refl _, none, rfl, fun h => absurd h (by omega)⟩
  · simp [Value.cells] at hcs
    obtain ⟨rfl, rfl, rfl⟩ := hcs
    simp only [if_true] at hz
    obtain ⟨us, h1, rfl⟩ := u8s_of_wf hwz
    rw [List.length_map] at hz hcell
    have hz' : us.length = cap := hz
    have spot : 0 < cap → x = ⟨x.block, x.off, none⟩ := fun hc => by
      have := hcell 0 (by omega)
      simp only [Addr.add, if_true] at this
      unfold World.cell? at this
      split at this
      · cases hs : x.spot with
        | none => obtain ⟨b, o, sp⟩ := x; simp only at hs; subst hs; rfl
        | some s => simp [hs] at this
      · cases this
    refine ⟨(x.block, x.off), len, cap, us.take len, by simp; omega, hl, hm, ?_, fun i hi => ?_⟩
    · unfold rel
      exact ⟨hl, some x, rfl, fun hc => by rw [spot hc]; rfl⟩
    · have hi' : i < len ∧ i < us.length := by rw [List.length_take] at hi; omega
      have h2 := hcell i hi'.2
      have h3 : x.add i = ⟨x.block, x.off + i, none⟩ := by
        rw [spot (by omega)]
        unfold Addr.add
        split
        · rename_i h0; subst h0; rfl
        · rfl
      rw [h3] at h2
      rw [h2]
      simp [List.getD, hi'.1, hi'.2, u8v]
theorem cell_bs {ρ : Loc} {b o : Nat} {l : List UInt8} (hI : ∀ i, i < l.length → w.cell? ⟨b, o + i, none⟩ = some (u8v (l.getD i 0))) (j : Nat) (v : V) (hv : (bs l)[j]? = some v) :
    ∃ x, w.cell? ⟨b, o + j, none⟩ = some x ∧ x.oneCell' = true ∧ rel ρ v x := by
  have hj : j < l.length := by have := (List.getElem?_eq_some_iff.1 hv).1; rwa [bs_length] at this
  refine ⟨_, hI j hj, rfl, ?_⟩
  have e : v = bv (l.getD j 0) := by
    simp only [bs, List.getElem?_map, List.getElem?_eq_getElem hj, Option.map_some, Option.some.injEq] at hv
    rw [← hv]; simp [List.getD, hj]
  rw [e]
  unfold bv rel
  rfl
end
end Go.Vc

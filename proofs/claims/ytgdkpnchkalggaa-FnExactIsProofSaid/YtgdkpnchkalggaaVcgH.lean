/- Operations that make or write memory; calls; forgetting. -/
import Derived.Test.YtgdkpnchkalggaaVcgG
set_option linter.unusedSimpArgs false
set_option linter.unusedVariables false
namespace Go.Vc
open Go
section
variable {P : Program} {E : Env} {t : TypeId} {d : TD} {M : Nat → Prop} {w0 w : World} {ρ ρ' : Loc} {hp : List Blk}

/-! ### Renaming and forgetting -/
mutual
theorem rel_ren {σ : List Nat} : ∀ {v : V} {x : Value}, rel ρ (v.ren σ) x → rel (fun h => ρ (σ.getD h 0)) v x
  | .c _, _, h => h
  | .p _ _, _, h => h
  | .s _ _ _ _, _, h => h
  | .a cs, x, h => by
    unfold V.ren rel at h; unfold rel
    obtain ⟨l, h1, h2, h3⟩ := h
    exact ⟨l, h1, relL_ren h2, h3⟩
  | .t vs, x, h => by
    unfold V.ren rel at h; unfold rel
    obtain ⟨l, h1, h2⟩ := h
    exact ⟨l, h1, relL_ren h2⟩
  | .j, _, _ => trivial
theorem relL_ren {σ : List Nat} : ∀ {vs : List V} {xs : List Value}, relL ρ (V.renL σ vs) xs → relL (fun h => ρ (σ.getD h 0)) vs xs
  | [], _, h => h
  | v :: vs, l, h => by
    unfold V.renL relL at h; unfold relL
    obtain ⟨x, xs, h1, h2, h3⟩ := h
    exact ⟨x, xs, h1, rel_ren h2, relL_ren h3⟩
end

theorem leTm_rel {σ : List Nat} : ∀ {tm tm' : List V} {xs : List Value}, leTm σ tm tm' → relL ρ tm xs → relL (fun h => ρ (σ.getD h 0)) tm' xs
  | [], [], _, _, h => h
  | v :: vs, u :: us, l, hl, h => by
    unfold leTm at hl
    unfold relL at h ⊢
    obtain ⟨x, xs, h1, h2, h3⟩ := h
    refine ⟨x, xs, h1, ?_, leTm_rel hl.2 h3⟩
    have := hl.1
    unfold leV at this
    split at this
    · exact trivial
    · subst this; exact rel_ren h2
  | [], _ :: _, _, hl, _ => by simp [leTm] at hl
  | _ :: _, [], _, hl, _ => by simp [leTm] at hl

theorem renL_get {σ : List Nat} : ∀ {vs : List V} {j : Nat} {v : V}, vs[j]? = some v → (V.renL σ vs)[j]? = some (v.ren σ)
  | [], j, v, h => by simp at h
  | u :: vs, 0, v, h => by simp at h; subst h; simp [V.renL]
  | u :: vs, j + 1, v, h => by simp at h; simpa [V.renL] using renL_get h

theorem leHp_get {σ : List Nat} : ∀ {gs : List Nat} {bs : List Blk}, leHp σ hp gs bs → ∀ {h : Nat} {b : Blk}, bs[h]? = some b → b.cells ≠ [] →
    ∃ g c, gs[h]? = some g ∧ hp[g]? = some c ∧ c.cells = V.renL σ b.cells ∧ (b.own = true → c.own = true)
  | [], [], _, h, b, hb, _ => by simp at hb
  | g :: gs, b :: bs, hl, 0, b', hb, hne => by
    simp at hb; subst hb
    unfold leHp at hl
    rcases hl.1 with h0 | h1
    · exact absurd h0 hne
    · cases hc : hp[g]? with
      | none => simp [hc] at h1
      | some c => simp only [hc] at h1; exact ⟨g, c, by simp, hc, h1.1, h1.2⟩
  | g :: gs, b :: bs, hl, h + 1, b', hb, hne => by
    simp at hb
    unfold leHp at hl
    obtain ⟨g', c, h1, h2⟩ := leHp_get hl.2 hb hne
    exact ⟨g', c, by simpa using h1, h2⟩
  | [], _ :: _, hl, _, _, _, _ => by simp [leHp] at hl
  | _ :: _, [], hl, _, _, hb, _ => by simp at hb

theorem LeS_hd {σ : List Nat} {tm tm' : List V} {hp' : List Blk} {m : Nat} (h : LeS m σ tm hp tm' hp') (hd : Hd M w0 ρ hp w) : Hd M w0 (fun h => ρ (σ.getD h 0)) hp' w := by
  obtain ⟨_, hnd, _, hh, _, hok⟩ := h
  have getD_of : ∀ {h g : Nat}, σ[h]? = some g → σ.getD h 0 = g := fun hg => by rw [List.getD_eq_getElem?_getD, hg]; rfl
  refine ⟨hd.keep, hok, ?_, ?_, ?_⟩
  · intro h b hb j v hv
    have hne : b.cells ≠ [] := fun e => by rw [e] at hv; simp at hv
    obtain ⟨g, c, hg, hc, hcc, _⟩ := leHp_get hh hb hne
    have hv' := renL_get (σ := σ) hv
    rw [← hcc] at hv'
    obtain ⟨x, hx, h1, h2⟩ := hd.cell g c hc j _ hv'
    refine ⟨x, ?_, h1, rel_ren h2⟩
    simp only [getD_of hg]; exact hx
  · intro h b hb ho hne
    obtain ⟨g, c, hg, hc, hcc, hoo⟩ := leHp_get hh hb hne
    have hl : c.cells.length = b.cells.length := by
      rw [hcc]
      have : ∀ (vs : List V), (V.renL σ vs).length = vs.length := fun vs => by induction vs with | nil => simp [V.renL] | cons v vs ih => simp [V.renL, ih]
      exact this _
    obtain ⟨h1, h2⟩ := hd.own g c hc (hoo ho) (fun e => hne (List.eq_nil_of_length_eq_zero (by rw [← hl, e]; rfl)))
    simp only [getD_of hg]
    exact ⟨h1, fun j hj => h2 j (by omega)⟩
  · intro h b h' b' hb hb' hhh ho hne hne'
    obtain ⟨g, c, hg, hc, hcc, hoo⟩ := leHp_get hh hb hne
    obtain ⟨g', c', hg', hc', hcc', _⟩ := leHp_get hh hb' hne'
    simp only [getD_of hg, getD_of hg']
    have hl : ∀ (vs : List V), V.renL σ vs = [] → vs = [] := fun vs e => by cases vs with | nil => rfl | cons v vs => simp [V.renL] at e
    refine hd.sep g c g' c' hc hc' ?_ (hoo ho) (fun e => hne (hl _ (hcc ▸ e))) (fun e => hne' (hl _ (hcc' ▸ e)))
    intro e
    subst e
    have h1 := (List.getElem?_eq_some_iff.1 hg)
    have h2 := (List.getElem?_eq_some_iff.1 hg')
    obtain ⟨l1, e1⟩ := h1
    obtain ⟨l2, e2⟩ := h2
    exact hhh ((List.getElem_inj hnd).1 (e1.trans e2.symm))

theorem LeS_base {σ : List Nat} {tm tm' : List V} {hp' : List Blk} {m : Nat} (h : LeS m σ tm hp tm' hp') {i : Nat} (hi : i < m) : σ.getD i 0 = i := by
  have h1 : (σ.take m)[i]? = (List.range m)[i]? := by rw [h.1]
  rw [List.getElem?_take, if_pos hi, List.getElem?_range hi] at h1
  rw [List.getD_eq_getElem?_getD, h1]; rfl
theorem LeS_len {σ : List Nat} {tm tm' : List V} {hp' : List Blk} {m : Nat} (h : LeS m σ tm hp tm' hp') : m ≤ hp'.length := by
  have h1 := congrArg List.length h.1
  have h2 : ∀ {gs : List Nat} {bs : List Blk}, leHp σ hp gs bs → gs.length = bs.length := fun {gs} => by
    induction gs with
    | nil => intro bs hb; cases bs with | nil => rfl | cons b bs => simp [leHp] at hb
    | cons g gs ih => intro bs hb; cases bs with | nil => simp [leHp] at hb | cons b bs => unfold leHp at hb; simp [ih hb.2]
  have h3 := h2 h.2.2.2.1
  simp at h1
  omega
theorem LeS_ok {σ : List Nat} {tm tm' : List V} {hp' : List Blk} {m : Nat} (h : LeS m σ tm hp tm' hp') : okL hp'.length tm' := h.2.2.2.2.1

theorem LeS_tm {σ : List Nat} {tm tm' : List V} {hp' : List Blk} {m : Nat} (h : LeS m σ tm hp tm' hp') {xs : List Value} (hr : relL ρ tm xs) : relL (fun h => ρ (σ.getD h 0)) tm' xs := leTm_rel h.2.2.1 hr

end
end Go.Vc

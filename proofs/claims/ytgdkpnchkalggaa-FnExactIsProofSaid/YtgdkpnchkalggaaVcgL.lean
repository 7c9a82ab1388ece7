/- Calls: the callee's contract seen by the caller. -/
import Derived.Test.YtgdkpnchkalggaaVcgK
set_option linter.unusedSimpArgs false
set_option linter.unusedVariables false
namespace Go.Vc
open Go
section
variable {P : Program} {E : Env} {t : TypeId} {d : TD} {M : Nat → Prop} {w0 w : World} {ρ ρ' : Loc} {hp : List Blk}

def Loc.sub (ρ : Loc) (sub : List (Nat × Nat)) : Loc := fun h => match sub[h]? with
  | some (g, q) => ((ρ g).1, (ρ g).2 + q)
  | none => (0, 0)

mutual
theorem rel_inst {sub : List (Nat × Nat)} {N : Nat} : ∀ {v : V} {x : Value}, okV sub.length v → rel ρ (v.inst sub N) x → rel (ρ.sub sub) v x
  | .c _, _, _, h => h
  | .p h o, x, hk, hr => by
    unfold okV at hk
    obtain ⟨q, hq⟩ : ∃ q, sub[h]? = some q := ⟨_, List.getElem?_eq_getElem hk⟩
    obtain ⟨g, q⟩ := q
    simp only [V.inst, hq] at hr
    unfold rel at hr ⊢
    simp only [Loc.sub, hq]
    rw [hr]
    simp [Nat.add_assoc]
  | .s h o n c, x, hk, hr => by
    unfold okV at hk
    rcases Nat.eq_zero_or_pos c with h0 | h0
    · subst h0
      have hr' : n ≤ 0 ∧ ∃ a, x = .slice a n 0 := by
        cases hq : sub[h]? with
        | none => simp only [V.inst, hq] at hr; unfold rel at hr; exact ⟨hr.1, hr.2.choose, hr.2.choose_spec.1⟩
        | some q => obtain ⟨g, q⟩ := q; simp only [V.inst, hq] at hr; unfold rel at hr; exact ⟨hr.1, hr.2.choose, hr.2.choose_spec.1⟩
      obtain ⟨h1, a, h2⟩ := hr'
      unfold rel
      exact ⟨h1, a, h2, fun h => absurd h (by omega)⟩
    · obtain ⟨q, hq⟩ : ∃ q, sub[h]? = some q := ⟨_, List.getElem?_eq_getElem (hk h0)⟩
      obtain ⟨g, q⟩ := q
      simp only [V.inst, hq] at hr
      unfold rel at hr ⊢
      obtain ⟨h1, a, h2, h3⟩ := hr
      refine ⟨h1, a, h2, fun hc => ?_⟩
      simp only [Loc.sub, hq]
      rw [h3 hc]
      simp [Nat.add_assoc]
  | .a cs, x, hk, hr => by
    unfold okV at hk
    simp only [V.inst] at hr
    unfold rel at hr ⊢
    obtain ⟨l, h1, h2, h3⟩ := hr
    exact ⟨l, h1, relL_inst hk h2, h3⟩
  | .t vs, x, hk, hr => by
    unfold okV at hk
    simp only [V.inst] at hr
    unfold rel at hr ⊢
    obtain ⟨l, h1, h2⟩ := hr
    exact ⟨l, h1, relL_inst hk h2⟩
  | .j, _, _, _ => trivial
theorem relL_inst {sub : List (Nat × Nat)} {N : Nat} : ∀ {vs : List V} {xs : List Value}, okL sub.length vs → relL ρ (V.instL sub N vs) xs → relL (ρ.sub sub) vs xs
  | [], _, _, h => h
  | v :: vs, l, hk, h => by
    unfold okL at hk
    unfold V.instL relL at h
    unfold relL
    obtain ⟨x, xs, h1, h2, h3⟩ := h
    exact ⟨x, xs, h1, rel_inst hk.1 h2, relL_inst hk.2 h3⟩
end

/-- The caller's places behind a call. -/
def Loc.back (ρ ρc : Loc) (N m : Nat) : Loc := fun h => if h < N then ρ h else ρc (m + (h - N))

mutual
theorem rel_back {sub : List (Nat × Nat)} {N K : Nat} {ρc : Loc} (hs : ∀ h, h < sub.length → ρc h = ρ.sub sub h) (hg : ∀ q ∈ sub, q.1 < N) : ∀ {v : V} {x : Value}, rel ρc v x → rel (ρ.back ρc N sub.length) (v.inst sub N) x
  | .c _, _, h => h
  | .p h o, x, hr => by
    cases hq : sub[h]? with
    | none =>
      have hlen : sub.length ≤ h := by simpa using hq
      simp only [V.inst, hq]
      unfold rel at hr ⊢
      simp only [Loc.back, show ¬ (N + (h - sub.length) < N) by omega, if_false, show sub.length + (N + (h - sub.length) - N) = h by omega]
      exact hr
    | some q =>
      obtain ⟨g, q⟩ := q
      have hlt := (List.getElem?_eq_some_iff.1 hq).1
      have hgN := hg _ (List.mem_of_getElem? hq)
      simp only [V.inst, hq]
      unfold rel at hr ⊢
      simp only [Loc.back, if_pos hgN]
      rw [hr, hs h hlt]
      simp [Loc.sub, hq, Nat.add_assoc]
  | .s h o n c, x, hr => by
    cases hq : sub[h]? with
    | none =>
      have hlen : sub.length ≤ h := by simpa using hq
      simp only [V.inst, hq]
      unfold rel at hr ⊢
      simp only [Loc.back, show ¬ (N + (h - sub.length) < N) by omega, if_false, show sub.length + (N + (h - sub.length) - N) = h by omega]
      exact hr
    | some q =>
      obtain ⟨g, q⟩ := q
      have hlt := (List.getElem?_eq_some_iff.1 hq).1
      have hgN := hg _ (List.mem_of_getElem? hq)
      simp only [V.inst, hq]
      unfold rel at hr ⊢
      simp only [Loc.back, if_pos hgN]
      obtain ⟨h1, a, h2, h3⟩ := hr
      refine ⟨h1, a, h2, fun hc => ?_⟩
      rw [h3 hc, hs h hlt]
      simp [Loc.sub, hq, Nat.add_assoc]
  | .a cs, x, hr => by
    simp only [V.inst]
    unfold rel at hr ⊢
    obtain ⟨l, h1, h2, h3⟩ := hr
    exact ⟨l, h1, relL_back (K := K) hs hg h2, h3⟩
  | .t vs, x, hr => by
    simp only [V.inst]
    unfold rel at hr ⊢
    obtain ⟨l, h1, h2⟩ := hr
    exact ⟨l, h1, relL_back (K := K) hs hg h2⟩
  | .j, _, _ => trivial
theorem relL_back {sub : List (Nat × Nat)} {N K : Nat} {ρc : Loc} (hs : ∀ h, h < sub.length → ρc h = ρ.sub sub h) (hg : ∀ q ∈ sub, q.1 < N) : ∀ {vs : List V} {xs : List Value}, relL ρc vs xs → relL (ρ.back ρc N sub.length) (V.instL sub N vs) xs
  | [], _, h => h
  | v :: vs, l, h => by
    unfold relL at h
    unfold V.instL relL
    obtain ⟨x, xs, h1, h2, h3⟩ := h
    exact ⟨x, xs, h1, rel_back (K := K) hs hg h2, relL_back (K := K) hs hg h3⟩
end

mutual
theorem ok_inst {sub : List (Nat × Nat)} {N r : Nat} (hg : ∀ q ∈ sub, q.1 < N) : ∀ {v : V}, okV (sub.length + r) v → okV (N + r) (v.inst sub N)
  | .c _, _ => trivial
  | .p h o, hk => by
    unfold okV at hk
    cases hq : sub[h]? with
    | none => have : sub.length ≤ h := by simpa using hq
              simp only [V.inst, hq]; unfold okV; omega
    | some q => obtain ⟨g, q⟩ := q; have := hg _ (List.mem_of_getElem? hq); simp only [V.inst, hq]; unfold okV; simp only at this; omega
  | .s h o n c, hk => by
    unfold okV at hk
    cases hq : sub[h]? with
    | none => have : sub.length ≤ h := by simpa using hq
              simp only [V.inst, hq]; unfold okV; intro hc; have := hk hc; omega
    | some q => obtain ⟨g, q⟩ := q; have := hg _ (List.mem_of_getElem? hq); simp only [V.inst, hq]; unfold okV; intro _; simp only at this; omega
  | .a cs, hk => by unfold okV at hk; simp only [V.inst]; unfold okV; exact okL_inst hg hk
  | .t cs, hk => by unfold okV at hk; simp only [V.inst]; unfold okV; exact okL_inst hg hk
  | .j, _ => trivial
theorem okL_inst {sub : List (Nat × Nat)} {N r : Nat} (hg : ∀ q ∈ sub, q.1 < N) : ∀ {vs : List V}, okL (sub.length + r) vs → okL (N + r) (V.instL sub N vs)
  | [], _ => trivial
  | v :: vs, hk => by unfold okL at hk; unfold V.instL okL; exact ⟨ok_inst hg hk.1, okL_inst hg hk.2⟩
end

theorem instL_get {sub : List (Nat × Nat)} {N : Nat} : ∀ {vs : List V} {j : Nat} {u : V}, (V.instL sub N vs)[j]? = some u → ∃ v, vs[j]? = some v ∧ u = v.inst sub N
  | [], j, u, h => by simp [V.instL] at h
  | v :: vs, 0, u, h => by simp [V.instL] at h; exact ⟨v, by simp, h.symm⟩
  | v :: vs, j + 1, u, h => by simp [V.instL] at h; simpa using instL_get h
theorem instL_get' {sub : List (Nat × Nat)} {N : Nat} : ∀ {vs : List V} {j : Nat} {v : V}, vs[j]? = some v → (V.instL sub N vs)[j]? = some (v.inst sub N)
  | [], j, v, h => by simp at h
  | u :: vs, 0, v, h => by simp at h; subst h; simp [V.instL]
  | u :: vs, j + 1, v, h => by simp at h; simpa [V.instL] using instL_get' h
theorem instL_length {sub : List (Nat × Nat)} {N : Nat} : ∀ (vs : List V), (V.instL sub N vs).length = vs.length
  | [] => rfl
  | v :: vs => by simp [V.instL, instL_length vs]

theorem segOK_get {sub : List (Nat × Nat)} : ∀ {r : List (Nat × Nat)} {ha : List Blk}, segOK hp sub r ha → r.length = ha.length ∧ ∀ (h : Nat) (b : Blk), ha[h]? = some b →
    ∃ g q, r[h]? = some (g, q) ∧ b.own = false ∧ g < hp.length ∧ ((cellsAt hp g).drop q).take b.cells.length = V.instL sub hp.length b.cells
  | [], [], _ => ⟨rfl, fun h b hb => by simp at hb⟩
  | (g, q) :: r, b :: ha, h => by
    unfold segOK at h
    obtain ⟨h1, h2⟩ := segOK_get h.2
    refine ⟨by simp [h1], fun i b' hb => ?_⟩
    cases i with
    | zero => simp at hb; subst hb; exact ⟨g, q, by simp, h.1.1, h.1.2.1, h.1.2.2⟩
    | succ i => simp at hb; obtain ⟨g', q', e1, e2⟩ := h2 i b' hb; exact ⟨g', q', by simpa using e1, e2⟩
  | [], _ :: _, h => by simp [segOK] at h
  | _ :: _, [], h => by simp [segOK] at h

theorem leArgs_rel : ∀ {vs us : List V} {xs : List Value}, leArgs vs us → relL ρ vs xs → relL ρ us xs
  | [], [], _, _, h => h
  | v :: vs, u :: us, l, hl, h => by
    unfold leArgs at hl
    unfold relL at h ⊢
    obtain ⟨x, xs, h1, h2, h3⟩ := h
    refine ⟨x, xs, h1, ?_, leArgs_rel hl.2 h3⟩
    rcases hl.1 with e | ⟨⟨h', o', hs⟩, g, q, e⟩
    · exact e ▸ h2
    · subst e
      obtain ⟨_, a, e2, _⟩ := asS_rel h2 hs
      unfold rel
      exact ⟨Nat.le_refl _, a, e2, fun h => absurd h (by omega)⟩
  | [], _ :: _, _, hl, _ => by simp [leArgs] at hl
  | _ :: _, [], _, hl, _ => by simp [leArgs] at hl

theorem append_cases {α : Type} {l l' : List α} {i : Nat} {y : α} (h : (l ++ l')[i]? = some y) : (i < l.length ∧ l[i]? = some y) ∨ (l.length ≤ i ∧ l'[i - l.length]? = some y) := by
  rcases Nat.lt_or_ge i l.length with hi | hi
  · rw [List.getElem?_append_left hi] at h; exact .inl ⟨hi, h⟩
  · rw [List.getElem?_append_right hi] at h; exact .inr ⟨hi, h⟩

theorem call_run (hd : Hd M w0 ρ hp w) {f : FuncId} {args : List V} {xs : List Value} (hr : relL ρ args xs) {k : V → List Blk → Prop} (h : vCall P f args hp k) :
    hasBody P f ∧ Calls P f xs.toArray w fun e w' => ∃ v hp' ρ' y, e = .returned y ∧ k v hp' ∧ Step M w0 ρ hp w v hp' ρ' w' y ∧ Keep none' w w' := by
  obtain ⟨args0, ha, post, sub, ⟨hbody, hLC⟩, hle, hseg, hok0, hokb, hpost⟩ := h
  obtain ⟨hlen, hsegs⟩ := segOK_get hseg
  have hgN : ∀ q ∈ sub, q.1 < hp.length := fun q hq => by
    obtain ⟨i, hi, rfl⟩ := List.mem_iff_getElem.1 hq
    have hi' : i < ha.length := by omega
    obtain ⟨g, q, e1, _, e3, _⟩ := hsegs i _ (List.getElem?_eq_getElem hi')
    rw [List.getElem?_eq_getElem hi] at e1
    simp only [Option.some.injEq] at e1
    rw [e1]; exact e3
  have hnomod : ∀ k, ¬ modOf ha (ρ.sub sub) k := fun k hk => by
    obtain ⟨h, b, hb, ho, _⟩ := hk
    obtain ⟨_, _, _, e2, _⟩ := hsegs h b hb
    rw [e2] at ho; cases ho
  have hHd : Hd (modOf ha (ρ.sub sub)) w (ρ.sub sub) ha w := by
    refine ⟨Keep.refl _ _, hokb, ?_, ?_, ?_⟩
    · intro h b hb j v hv
      obtain ⟨g, q, e1, _, _, e4⟩ := hsegs h b hb
      have hj := (List.getElem?_eq_some_iff.1 hv).1
      have hv' := instL_get' (sub := sub) (N := hp.length) hv
      rw [← e4, List.getElem?_take, if_pos hj, List.getElem?_drop] at hv'
      unfold cellsAt at hv'
      cases hc : hp[g]? with
      | none => simp [hc] at hv'
      | some c =>
        simp only [hc] at hv'
        obtain ⟨x, hx, h1, h2⟩ := hd.cell g c hc (q + j) _ hv'
        refine ⟨x, ?_, h1, rel_inst (N := hp.length) (by rw [hlen]; exact okL_get (hokb b (List.mem_of_getElem? hb)) hv) h2⟩
        simp only [Loc.sub, e1]
        rw [Nat.add_assoc]; exact hx
    · intro h b hb ho _
      obtain ⟨_, _, _, e2, _⟩ := hsegs h b hb
      rw [e2] at ho; cases ho
    · intro h b h' b' hb _ _ ho _ _
      obtain ⟨_, _, _, e2, _⟩ := hsegs h b hb
      rw [e2] at ho; cases ho
  have hxs : relL (ρ.sub sub) args0 xs := relL_inst (N := hp.length) (by rw [hlen]; exact hok0) (leArgs_rel hle hr)
  refine ⟨hbody, (hLC w (ρ.sub sub) xs hHd hxs hok0).mono fun e w' hR => ?_⟩
  obtain ⟨v, hp', ρc, y, rfl, hpo, hHd', hl', hsame, hv, hokv⟩ := hR
  obtain ⟨hr', rfl, hown, hk⟩ := hpost v hp' hpo
  have hkn : Keep none' w w' := hHd'.keep.mono fun k hk => (hnomod k hk).elim
  have hsub : ∀ h, h < sub.length → ρc h = ρ.sub sub h := fun h hh => hsame h (by omega)
  have hold := hd.keep_none hkn
  refine ⟨_, _, ρ.back ρc hp.length sub.length, y, rfl, hk, ⟨?_, fun h hh => by simp [Loc.back, hh], by simp, rel_back (K := 0) hsub hgN hv, ?_, fun h b hb hne => ?_⟩, hkn⟩
  · -- the blocks behind
    have newB : ∀ {i : Nat} {b : Blk}, (hr'.map fun b => (⟨b.own, V.instL sub hp.length b.cells⟩ : Blk))[i]? = some b → ∃ c, hr'[i]? = some c ∧ b = ⟨c.own, V.instL sub hp.length c.cells⟩ ∧ (ha ++ hr')[ha.length + i]? = some c := fun {i} {b} hb => by
      rw [List.getElem?_map] at hb
      cases hc : hr'[i]? with
      | none => rw [hc] at hb; simp at hb
      | some c => rw [hc] at hb; simp at hb; exact ⟨c, rfl, hb.symm, by rw [List.getElem?_append_right (by omega)]; simpa using hc⟩
    have atNew : ∀ {i : Nat}, hp.length ≤ i → (ρ.back ρc hp.length sub.length) i = ρc (ha.length + (i - hp.length)) := fun {i} hi => by simp only [Loc.back, show ¬ (i < hp.length) by omega, if_false, hlen]
    have atOld : ∀ {i : Nat}, i < hp.length → (ρ.back ρc hp.length sub.length) i = ρ i := fun hi => by simp [Loc.back, hi]
    have nonE : ∀ {c : Blk}, V.instL sub hp.length c.cells ≠ [] → c.cells ≠ [] := fun hne e => hne (by rw [e]; rfl)
    refine ⟨hold.keep, ?_, ?_, ?_, ?_⟩
    · intro b hb
      rw [List.length_append, List.length_map]
      rcases List.mem_append.1 hb with hb | hb
      · exact okL_mono (by omega) (hd.ok b hb)
      · obtain ⟨c, hc, rfl⟩ := List.mem_map.1 hb
        have := hHd'.ok c (List.mem_append.2 (.inr hc))
        rw [List.length_append, ← hlen] at this
        exact okL_inst hgN this
    · intro g b hg j v' hv'
      rcases append_cases hg with ⟨hi, hg⟩ | ⟨hi, hg⟩
      · obtain ⟨x, hx, h1, h2⟩ := hold.cell g b hg j v' hv'
        rw [atOld hi]
        refine ⟨x, hx, h1, rel_congr (N := hp.length) (fun h hh => atOld hh) (okL_get (hd.ok b (List.mem_of_getElem? hg)) hv') h2⟩
      · obtain ⟨c, hc, rfl, hcc⟩ := newB hg
        obtain ⟨u, hu, rfl⟩ := instL_get hv'
        obtain ⟨x, hx, h1, h2⟩ := hHd'.cell _ c hcc j u hu
        rw [atNew hi]
        exact ⟨x, hx, h1, rel_back (K := 0) hsub hgN h2⟩
    · intro g b hg ho hne
      rcases append_cases hg with ⟨hi, hg⟩ | ⟨hi, hg⟩
      · rw [atOld hi]; exact hold.own g b hg ho hne
      · obtain ⟨c, hc, rfl, hcc⟩ := newB hg
        rw [atNew hi]
        obtain ⟨q1, q2⟩ := hHd'.own _ c hcc ho (nonE hne)
        refine ⟨.inl ?_, fun j hj => q2 j (by simpa [instL_length] using hj)⟩
        rcases q1 with q1 | q1
        · exact Nat.le_trans hd.keep.size q1
        · exact (hnomod _ q1).elim
    · intro g b g' b' hg hg' hgg ho hne hne'
      rcases append_cases hg with ⟨hi, hg⟩ | ⟨hi, hg⟩ <;> rcases append_cases hg' with ⟨hi', hg'⟩ | ⟨hi', hg'⟩
      · rw [atOld hi, atOld hi']; exact hd.sep g b g' b' hg hg' hgg ho hne hne'
      · obtain ⟨c, hc, rfl, hcc⟩ := newB hg'
        rw [atOld hi, atNew hi']
        have hlt := hd.lt hg hne
        have hco : c.own = true := by
          rcases hown c (List.mem_of_getElem? hc) with h1 | h1
          · exact h1
          · exact absurd h1 (nonE hne')
        obtain ⟨q1, _⟩ := hHd'.own _ c hcc hco (nonE hne')
        rcases q1 with q1 | q1
        · omega
        · exact (hnomod _ q1).elim
      · obtain ⟨c, hc, rfl, hcc⟩ := newB hg
        rw [atNew hi, atOld hi']
        have hlt := hd.lt hg' hne'
        obtain ⟨q1, _⟩ := hHd'.own _ c hcc ho (nonE hne)
        rcases q1 with q1 | q1
        · omega
        · exact (hnomod _ q1).elim
      · obtain ⟨c, hc, rfl, hcc⟩ := newB hg
        obtain ⟨c', hc', rfl, hcc'⟩ := newB hg'
        rw [atNew hi, atNew hi']
        exact hHd'.sep _ c _ c' hcc hcc' (by omega) ho (nonE hne) (nonE hne')
  · rw [List.length_append, List.length_map]
    rw [List.length_append, ← hlen] at hokv
    exact ok_inst hgN hokv
  · rcases append_cases hb with ⟨hi, hb⟩ | ⟨hi, hb⟩
    · exact .inr ⟨h, b, hb, hne, by simp [Loc.back, hi]⟩
    · rw [List.getElem?_map] at hb
      cases hc : hr'[h - hp.length]? with
      | none => rw [hc] at hb; simp at hb
      | some c =>
        rw [hc] at hb; simp at hb; subst hb
        have hcne : c.cells ≠ [] := fun e => hne (by simp only [e]; rfl)
        have hcc : (ha ++ hr')[ha.length + (h - hp.length)]? = some c := by rw [List.getElem?_append_right (by omega)]; simpa using hc
        have hco : c.own = true := by
          rcases hown c (List.mem_of_getElem? hc) with h1 | h1
          · exact h1
          · exact absurd h1 hcne
        obtain ⟨q1, _⟩ := hHd'.own _ c hcc hco hcne
        rcases q1 with q1 | q1
        · left
          simp only [Loc.back, show ¬ (h < hp.length) by omega, if_false, hlen]
          exact q1
        · exact (hnomod _ q1).elim
end
end Go.Vc

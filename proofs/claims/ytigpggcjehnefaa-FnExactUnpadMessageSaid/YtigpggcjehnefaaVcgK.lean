/- append, and calls. -/
import Derived.Test.YtigpggcjehnefaaVcgJ
set_option linter.unusedSimpArgs false
set_option linter.unusedVariables false
namespace Go.Vc
open Go
section
variable {P : Program} {E : Env} {t : TypeId} {d : TD} {M : Nat → Prop} {w0 w : World} {ρ ρ' : Loc} {hp : List Blk}

theorem cellsAt_some {g : Nat} {b : Blk} (h : hp[g]? = some b) : cellsAt hp g = b.cells := by simp [cellsAt, h]
theorem cellsAt_ok (hd : Hd M w0 ρ hp w) (g : Nat) : okL hp.length (cellsAt hp g) := by
  unfold cellsAt
  cases h : hp[g]? with
  | none => simp [okL]
  | some b => exact hd.ok b (List.mem_of_getElem? h)

theorem firstCells_run (hd : Hd M w0 ρ hp w) {x : V} {v : Value} (hx : rel ρ x v) {g o n c sz : Nat} (hs : asS x = some (g, o, n, c)) (hlen : n = 0 ∨ o + n * sz ≤ (cellsAt hp g).length) (hsz : 0 < sz) :
    ∃ xs : List Value, relL ρ (((cellsAt hp g).drop o).take (n * sz)) xs ∧ (∀ y ∈ xs, y.oneCell' = true) ∧ xs.length = n * sz ∧
      ∀ w', Keep none' w w' → (Builtin.firstCells sz n v).run P w' = .ok xs.toArray w' := by
  obtain ⟨hnc, a, rfl, ha⟩ := asS_rel hx hs
  rcases Nat.eq_zero_or_pos n with h0 | h0
  · subst h0
    refine ⟨[], by simp [relL], by simp, by simp, fun w' _ => ?_⟩
    cases a with
    | none => simp [Builtin.firstCells]
    | some a =>
      have := run_loadCells_list (P := P) w' a [] (by simp)
      simpa [Builtin.firstCells] using this
  · have hl : o + n * sz ≤ (cellsAt hp g).length := by rcases hlen with h | h; omega; exact h
    have hpos : 0 < n * sz := Nat.mul_pos h0 hsz
    cases hb : hp[g]? with
    | none => simp [cellsAt, hb] at hl; omega
    | some b =>
      rw [cellsAt_some hb] at hl ⊢
      obtain ⟨xs, h1, h2, h3, _, h5⟩ := hd.loadCells (P := P) hb o (n * sz) hl
      have ha' := ha (by omega)
      subst ha'
      exact ⟨xs, h1, h2, h3, fun w' hk => by simp [Builtin.firstCells, h5 w' hk]⟩

theorem Hd.addNil (h : Hd M w0 ρ hp w) (own : Bool) : Hd M w0 ρ (hp ++ [⟨own, []⟩]) w := by
  refine ⟨h.keep, ?_, ?_, ?_, ?_⟩
  · intro b hb
    rcases List.mem_append.1 hb with hb | hb
    · exact okL_mono (by simp) (h.ok b hb)
    · simp at hb; subst hb; simp [okL]
  · intro g b hg j v hv
    rcases getElem?_snoc hg with hg | ⟨rfl, rfl⟩
    · exact h.cell g b hg j v hv
    · simp at hv
  · intro g b hg ho hne
    rcases getElem?_snoc hg with hg | ⟨rfl, rfl⟩
    · exact h.own g b hg ho hne
    · exact absurd rfl hne
  · intro g b g' b' hg hg' hgg ho hne hne'
    rcases getElem?_snoc hg with hg | ⟨rfl, rfl⟩
    · rcases getElem?_snoc hg' with hg' | ⟨rfl, rfl⟩
      · exact h.sep g b g' b' hg hg' hgg ho hne hne'
      · exact absurd rfl hne'
    · exact absurd rfl hne

theorem killS_hd (h : Hd M w0 ρ hp w) (s : V) : Hd M w0 ρ (killS hp s) w := by
  unfold killS
  split
  · exact h.kill _
  · exact h
theorem killS_length (s : V) : (killS hp s).length = hp.length := by
  unfold killS
  split <;> simp

theorem relL_junk (r : Nat) (l : List Value) (h : l.length = r) : relL ρ (List.replicate r V.j) l := by
  refine relL_of_get (by simp [h]) fun j v x hv _ => ?_
  rw [List.getElem?_replicate] at hv
  split at hv
  · cases hv; trivial
  · cases hv
theorem okL_junk {N : Nat} (r : Nat) : okL N (List.replicate r V.j) := okL_iff.2 fun v hv => by rw [List.mem_replicate] at hv; rw [hv.2]; trivial

theorem append_run (hE : EnvOK P E) (hd : Hd M w0 ρ hp w) {ts : List TypeId} {args : List V} {vs : List Value} (hr : relL ρ args vs) {k : V → List Blk → Prop} (h : vAppend E ts args hp k) (ty : TypeId) :
    ∃ v hp' w' ρ' y, k v hp' ∧ (Builtin.append_ ts.toArray ty vs.toArray).run P w = .ok y w' ∧ Step M w0 ρ hp w v hp' ρ' w' y := by
  unfold vAppend at h
  split at h
  case h_2 => exact h.elim
  case h_1 t t' s x =>
  obtain ⟨rfl, h⟩ := h
  unfold relL at hr
  obtain ⟨sv, vs, rfl, hsv, hr⟩ := hr
  unfold relL at hr
  obtain ⟨xv, vs, rfl, hxv, hr⟩ := hr
  unfold relL at hr
  subst hr
  cases hE0 : E t with
  | none => simp [hE0] at h
  | some dd =>
  simp only [hE0] at h
  cases hdu : dd.und <;> simp only [hdu] at h
  case slice e =>
    cases hEe : E e with
    | none => simp [hEe] at h
    | some de =>
    cases hs : asS s with
    | none => simp [hEe, hs] at h
    | some p =>
    cases hx : asS x with
    | none => simp [hEe, hs, hx] at h
    | some q =>
    obtain ⟨g, o, n, c⟩ := p
    obtain ⟨g2, o2, m, c2⟩ := q
    simp only [hEe, hs, hx] at h
    obtain ⟨hsz, hnm, hby, hroom, hol, hnl, h⟩ := h
    obtain ⟨i, z, hi, his, hib, hiz, z1, z2, z3⟩ := hE.info hEe
    have z4 : z.cells.size = de.size := by rw [← z3, ← z1]; simp
    obtain ⟨ols, o1, oOne, oLen, oRun⟩ := firstCells_run (P := P) hd hsv hs hol hsz
    obtain ⟨nws, n1, nOne, nLen, nRun⟩ := firstCells_run (P := P) hd hxv hx hnl hsz
    obtain ⟨hnc, a, rfl, ha⟩ := asS_rel hsv hs
    obtain ⟨hmc, b, rfl, hb⟩ := asS_rel hxv hx
    have hti : ∀ w, (typeInfo e).run P w = .ok i w := fun w => by simp [typeInfo, hi]
    have hzv : ∀ w, (zeroValue e).run P w = .ok z w := fun w => by simp [zeroValue, typeInfo, hi, hiz]
    have hfirst : n + m ≤ c → (Builtin.append_ [t, t].toArray ty [Value.slice a n c, Value.slice b m c2].toArray).run P w = (do
            let new ← Builtin.firstCells de.size m (.slice b m c2)
            if let some a := a then storeCells (a.add (n * de.size)) new.toList
            pure (Value.slice a (n + m) c) : Sem Value).run P w := by
      intro hc
      simp [Builtin.append_, hE.run_und hE0, hdu, hE.run_size hEe, Builtin.lenOf, hc] <;> rfl
    by_cases hc : n + m ≤ c
    · rw [hfirst hc]
      rcases Nat.eq_zero_or_pos c with hc0 | hc0
      · -- nothing at all
        have hn0 : n = 0 := by omega
        have hm0 : m = 0 := by omega
        subst hn0; subst hm0; subst hc0
        have hk := h 0 0 (by simp) (by simp)
        have hnil : nws = [] := List.eq_nil_of_length_eq_zero (by simpa using nLen)
        subst hnil
        have hnr := nRun w (Keep.refl _ _)
        refine ⟨_, _, w, ρ, .slice a 0 0, hk, ?_, ⟨?_, fun _ _ => rfl, by simp [killS_length], ?_, ?_⟩⟩
        · cases a with
          | none => simp [hnr]
          | some a => simp [hnr, storeCells]
        · simpa using (killS_hd hd s).addNil true
        · unfold rel; exact ⟨Nat.le_refl _, a, rfl, fun h => absurd h (by omega)⟩
        · unfold okV; intro h; omega
      · have ha' := ha hc0
        subst ha'
        have hss : ∃ g' o' n' c', s = .s g' o' n' c' := by
          unfold asS at hs
          split at hs
          · exact ⟨_, _, _, _, rfl⟩
          · cases hs; omega
          · cases hs
        obtain ⟨g', o', n', c', rfl⟩ := hss
        simp only [asS, Option.some.injEq, Prod.mk.injEq] at hs
        obtain ⟨rfl, rfl, rfl, rfl⟩ := hs
        unfold roomOK at hroom
        cases hbk : hp[g']? with
        | none => simp only [hbk] at hroom; omega
        | some bk =>
        simp only [hbk] at hroom
        by_cases hown : bk.own = true
        · rw [if_pos hown] at hroom
          rw [cellsAt_some hbk] at h o1 hol
          have hmul : (n' + m) * de.size ≤ c' * de.size := Nat.mul_le_mul_right _ hc
          have hadd : (n' + m) * de.size = n' * de.size + m * de.size := Nat.add_mul _ _ _
          have hk := h (c' * de.size - (n' + m) * de.size) c' (by omega) hc
          have nvl := relL_length n1
          have hnvl : (((cellsAt hp g2).drop o2).take (m * de.size)).length = m * de.size := by rw [← nvl]; exact nLen
          have nok : okL hp.length (((cellsAt hp g2).drop o2).take (m * de.size)) := okL_take (okL_drop (cellsAt_ok hd g2) _) _
          obtain ⟨q1, q2⟩ := hd.write (P := P) (o := o' + n' * de.size) hbk hown n1 nok nOne (by rw [hnvl]; omega)
          have holl : ((bk.cells.drop o').take (n' * de.size)).length = n' * de.size := by rw [← relL_length o1]; exact oLen
          have hset : (hp.set g' ⟨true, splice bk.cells (o' + n' * de.size) (((cellsAt hp g2).drop o2).take (m * de.size))⟩)[g']? = some ⟨true, splice bk.cells (o' + n' * de.size) (((cellsAt hp g2).drop o2).take (m * de.size))⟩ := by
            have := (List.getElem?_eq_some_iff.1 hbk).1
            rw [List.getElem?_set, if_pos rfl, if_pos this]
          have hspl : (splice bk.cells (o' + n' * de.size) (((cellsAt hp g2).drop o2).take (m * de.size))).length = bk.cells.length := splice_length (by rw [hnvl]; omega)
          have hmv := q2.move (o := o') (cs := (bk.cells.drop o').take (n' * de.size) ++ ((cellsAt hp g2).drop o2).take (m * de.size) ++ List.replicate (c' * de.size - (n' + m) * de.size) V.j) hset rfl
            (by simp only [List.length_append, holl, hnvl, List.length_replicate]; rw [hspl]; omega)
            (fun j v hv => by
              rw [List.append_assoc] at hv
              rw [splice_get (by rw [hnvl]; omega), hnvl]
              by_cases hj : j < n' * de.size
              · rw [List.getElem?_append_left (by omega), List.getElem?_take, if_pos hj, List.getElem?_drop] at hv
                rw [if_pos (by omega)]
                exact .inr hv
              · rw [List.getElem?_append_right (by omega), holl] at hv
                by_cases hj2 : j - n' * de.size < m * de.size
                · rw [List.getElem?_append_left (by omega)] at hv
                  rw [if_neg (by omega), if_pos (by omega), show o' + j - (o' + n' * de.size) = j - n' * de.size by omega]
                  exact .inr hv
                · rw [List.getElem?_append_right (by omega), List.getElem?_replicate] at hv
                  split at hv
                  · cases hv; exact .inl rfl
                  · cases hv)
          rw [List.set_set, List.length_set] at hmv
          refine ⟨_, _, _, _, .slice (some ⟨(ρ g').1, (ρ g').2 + o', none⟩) (n' + m) c', hk, ?_, ⟨hmv, Loc.upd_lt ρ _, by simp [killS], ?_, ?_⟩⟩
          · have hnr := nRun w (Keep.refl _ _)
            have q1' : (storeCells ⟨(ρ g').1, (ρ g').2 + o' + n' * de.size, none⟩ nws).run P w = .ok () (w.setCells (ρ g').1 ((ρ g').2 + (o' + n' * de.size)) nws) := by
              rw [Nat.add_assoc]; exact q1
            simp only [Sem.run_bind, hnr, Result.andThen_ok, addr_add, List.toList_toArray, q1', Sem.run_pure]
          · unfold rel
            rw [Loc.upd_same]
            exact ⟨hc, _, rfl, fun _ => rfl⟩
          · unfold okV; intro _; simp [killS]
        · rw [if_neg hown] at hroom; omega
    · have hge := grownCap_ge w (n + m) c e
      have hcm := grownCap_le_maxLen w (n + m) c e (by simp only [maxLen]; omega)
      have hk := h ((grownCap w (n + m) c e - (n + m)) * de.size) (grownCap w (n + m) c e) (by rw [← Nat.add_mul]; congr 1; omega) hge
      have hfit := growslice_fits (need := n + m) (old := c) (bytes := de.bytes) (by omega) (by omega)
      have hkd : Keep none' w w.drew := Keep.drew _ _
      have hor := oRun w.drew hkd
      have hnr := nRun w.drew hkd
      have hzl : ((List.replicate (grownCap w (n + m) c e - (n + m)) z.cells.toList).flatten).length = (grownCap w (n + m) c e - (n + m)) * de.size := by simp [List.length_flatten, z4]
      have hzr : relL ρ (List.replicate ((grownCap w (n + m) c e - (n + m)) * de.size) V.j) ((List.replicate (grownCap w (n + m) c e - (n + m)) z.cells.toList).flatten) := relL_junk _ _ hzl
      have hall := relL_append (relL_append o1 n1) hzr
      have hokc : okL (killS hp s).length ((((cellsAt hp g).drop o).take (n * de.size) ++ ((cellsAt hp g2).drop o2).take (m * de.size)) ++ List.replicate ((grownCap w (n + m) c e - (n + m)) * de.size) V.j) := by
        rw [killS_length]
        exact okL_append (okL_append (okL_take (okL_drop (cellsAt_ok hd g) _) _) (okL_take (okL_drop (cellsAt_ok hd g2) _) _)) (okL_junk _)
      have hone : ∀ y ∈ (ols ++ nws) ++ (List.replicate (grownCap w (n + m) c e - (n + m)) z.cells.toList).flatten, y.oneCell' = true := fun y hy => by
        rcases List.mem_append.1 hy with hy | hy
        · rcases List.mem_append.1 hy with hy | hy
          · exact oOne y hy
          · exact nOne y hy
        · exact one_flatten _ _ z2 y hy
      have hst := Step.pushS ((killS_hd hd s).drew) hall hokc hone e hge
      have hst' := hst
      rw [killS_length] at hst'
      refine ⟨_, _, _, _, _, hk, ?_, ⟨hst'.hd, fun h hh => hst'.same h (by rw [killS_length]; exact hh), by simp [killS_length], hst'.val, hst'.ok⟩⟩
      have h63 : ¬ (9223372036854775807 < ((n : Int) + (m : Int))) := by omega
      have h48 : ¬ (281474976710656 < Builtin.nextslicecap (n + m) c * i.bytes) := by rw [hib]; omega
      simp [Builtin.append_, hE.run_und hE0, hdu, hE.run_size hEe, hti, hzv, Builtin.lenOf, hc, h63, h48, Question.forced, hor, hnr, newRow, zeroCells_eq]
      exact ⟨rfl, rfl⟩
  all_goals exact h.elim
end
end Go.Vc

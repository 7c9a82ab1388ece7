/- append, and calls. -/
import Derived.Test.YtgdkpnchkalggaaVcgJ
set_option linter.unusedSimpArgs false
set_option linter.unusedVariables false
namespace Go.Vc
open Go
section
variable {P : Program} {E : Env} {t : TypeId} {d : TD} {M : Nat → Prop} {w0 w : World} {ρ ρ' : Loc} {hp : List Blk}

theorem cellsAt_some {g : Nat} {b : Blk} (h : hp[g]? = some b) : cellsAt hp g = b.cells := by simp [cellsAt, h]
theorem cellsAt_ok (hd : Hd M w0 ρ hp w) (g : Nat) : okL hp.length (cellsAt hp g) := by
  unfold cellsAt
  cases h : hp[g]? with
  | none => simp [okL]
  | some b => exact hd.ok b (List.mem_of_getElem? h)

theorem firstCells_run (hd : Hd M w0 ρ hp w) {x : V} {v : Value} (hx : rel ρ x v) {g o n c sz : Nat} (hs : asS x = some (g, o, n, c)) (hlen : n = 0 ∨ o + n * sz ≤ (cellsAt hp g).length) (hsz : 0 < sz) :
    ∃ xs : List Value, relL ρ (((cellsAt hp g).drop o).take (n * sz)) xs ∧ (∀ y ∈ xs, y.oneCell' = true) ∧ xs.length = n * sz ∧
      ∀ w', Keep none' w w' → (Builtin.firstCells sz n v).run P w' = .ok xs.toArray w' := by
  obtain ⟨hnc, a, rfl, ha⟩ := asS_rel hx hs
  rcases Nat.eq_zero_or_pos n with h0 | h0
  · subst h0
    refine ⟨[], by simp [relL], by simp, by simp, fun w' _ => ?_⟩
    cases a with
    | none => simp [Builtin.firstCells]
    | some a =>
      have := run_loadCells_list (P := P) w' a [] (by simp)
      simpa [Builtin.firstCells] using this
  · have hl : o + n * sz ≤ (cellsAt hp g).length := by rcases hlen with h | h; omega; exact h
    have hpos : 0 < n * sz := Nat.mul_pos h0 hsz
    cases hb : hp[g]? with
    | none => simp [cellsAt, hb] at hl; omega
    | some b =>
      rw [cellsAt_some hb] at hl ⊢
      obtain ⟨xs, h1, h2, h3, _, h5⟩ := hd.loadCells (P := P) hb o (n * sz) hl
      have ha' := ha (by omega)
      subst ha'
      exact ⟨xs, h1, h2, h3, fun w' hk => by simp [Builtin.firstCells, h5 w' hk]⟩

theorem Hd.addNil (h : Hd M w0 ρ hp w) (own : Bool) : Hd M w0 ρ (hp ++ [⟨own, []⟩]) w := by
  refine ⟨h.keep, ?_, ?_, ?_, ?_⟩
  · intro b hb
    rcases List.mem_append.1 hb with hb | hb
    · exact okL_mono (by simp) (h.ok b hb)
    · simp at hb; subst hb; simp [okL]
  · intro g b hg j v hv
    rcases getElem?_snoc hg with hg | ⟨rfl, rfl⟩
    · exact h.cell g b hg j v hv
    · simp at hv
  · intro g b hg ho hne
    rcases getElem?_snoc hg with hg | ⟨rfl, rfl⟩
    · exact h.own g b hg ho hne
    · exact absurd rfl hne
  · intro g b g' b' hg hg' hgg ho hne hne'
    rcases getElem?_snoc hg with hg | ⟨rfl, rfl⟩
    · rcases getElem?_snoc hg' with hg' | ⟨rfl, rfl⟩
      · exact h.sep g b g' b' hg hg' hgg ho hne hne'
      · exact absurd rfl hne'
    · exact absurd rfl hne

theorem killS_hd (h : Hd M w0 ρ hp w) (s : V) : Hd M w0 ρ (killS hp s) w := by
  unfold killS
  split
  · exact h.kill _
  · exact h
theorem killS_length (s : V) : (killS hp s).length = hp.length := by
  unfold killS
  split <;> simp

theorem killS_get {s : V} {h : Nat} {b : Blk} (hb : (killS hp s)[h]? = some b) (hne : b.cells ≠ []) : hp[h]? = some b := by
  unfold killS at hb
  split at hb
  · rcases getElem?_set_cases hb with ⟨rfl, rfl, _⟩ | ⟨_, hb⟩
    · exact absurd rfl hne
    · exact hb
  · exact hb
theorem relL_junk (r : Nat) (l : List Value) (h : l.length = r) : relL ρ (List.replicate r V.j) l := by
  refine relL_of_get (by simp [h]) fun j v x hv _ => ?_
  rw [List.getElem?_replicate] at hv
  split at hv
  · cases hv; trivial
  · cases hv
theorem okL_junk {N : Nat} (r : Nat) : okL N (List.replicate r V.j) := okL_iff.2 fun v hv => by rw [List.mem_replicate] at hv; rw [hv.2]; trivial

theorem append_run (hE : EnvOK P E) (hd : Hd M w0 ρ hp w) {ts : List TypeId} {args : List V} {vs : List Value} (hr : relL ρ args vs) {k : V → List Blk → Prop} (h : vAppend E ts args hp k) (ty : TypeId) :
    ∃ v hp' w' ρ' y, k v hp' ∧ (Builtin.append_ ts.toArray ty vs.toArray).run P w = .ok y w' ∧ Step M w0 ρ hp w v hp' ρ' w' y := by
  unfold vAppend at h
  split at h
  case h_2 => exact h.elim
  case h_1 t t' s x =>
  obtain ⟨rfl, h⟩ := h
  unfold relL at hr
  obtain ⟨sv, vs, rfl, hsv, hr⟩ := hr
  unfold relL at hr
  obtain ⟨xv, vs, rfl, hxv, hr⟩ := hr
  unfold relL at hr
  subst hr
  cases hE0 : E t with
  | none => simp [hE0] at h
  | some dd =>
  simp only [hE0] at h
  cases hdu : dd.und <;> simp only [hdu] at h
  case slice e =>
    cases hEe : E e with
    | none => simp [hEe] at h
    | some de =>
    cases hs : asS s with
    | none => simp [hEe, hs] at h
    | some p =>
    cases hx : asS x with
    | none => simp [hEe, hs, hx] at h
    | some q =>
    obtain ⟨g, o, n, c⟩ := p
    obtain ⟨g2, o2, m, c2⟩ := q
    simp only [hEe, hs, hx] at h
    obtain ⟨hsz, hnm, hby, hroom, hol, hnl, h⟩ := h
    obtain ⟨i, z, hi, his, hib, hiz, z1, z2, z3⟩ := hE.info hEe
    have z4 : z.cells.size = de.size := by rw [← z3, ← z1]; simp
    obtain ⟨ols, o1, oOne, oLen, oRun⟩ := firstCells_run (P := P) hd hsv hs hol hsz
    obtain ⟨nws, n1, nOne, nLen, nRun⟩ := firstCells_run (P := P) hd hxv hx hnl hsz
    obtain ⟨hnc, a, rfl, ha⟩ := asS_rel hsv hs
    obtain ⟨hmc, b, rfl, hb⟩ := asS_rel hxv hx
    have hti : ∀ w, (typeInfo e).run P w = .ok i w := fun w => by simp [typeInfo, hi]
    have hzv : ∀ w, (zeroValue e).run P w = .ok z w := fun w => by simp [zeroValue, typeInfo, hi, hiz]
    have hfirst : n + m ≤ c → (Builtin.append_ [t, t].toArray ty [Value.slice a n c, Value.slice b m c2].toArray).run P w = (do
            let new ← Builtin.firstCells de.size m (.slice b m c2)
            if let some a := a then storeCells (a.add (n * de.size)) new.toList
            pure (Value.slice a (n + m) c) : Sem Value).run P w := by
      intro hc
      simp [Builtin.append_, hE.run_und hE0, hdu, hE.run_size hEe, Builtin.lenOf, hc] <;> rfl
    by_cases hc : n + m ≤ c
    · rw [hfirst hc]
      rcases Nat.eq_zero_or_pos c with hc0 | hc0
      · -- nothing at all
        have hn0 : n = 0 := by omega
        have hm0 : m = 0 := by omega
        subst hn0; subst hm0; subst hc0
        have hk := h 0 0 (by simp) (by simp)
        have hnil : nws = [] := List.eq_nil_of_length_eq_zero (by simpa using nLen)
        subst hnil
        have hnr := nRun w (Keep.refl _ _)
        refine ⟨_, _, w, ρ, .slice a 0 0, hk, ?_, ⟨?_, fun _ _ => rfl, by simp [killS_length], ?_, ?_, fun h b hb hne => .inr ⟨h, b, ?_, hne, rfl⟩⟩⟩
        · cases a with
          | none => simp [hnr]
          | some a => simp [hnr, storeCells]
        · simpa using (killS_hd hd s).addNil true
        · unfold rel; exact ⟨Nat.le_refl _, a, rfl, fun h => absurd h (by omega)⟩
        · unfold okV; intro h; omega
        · rcases getElem?_snoc hb with hb | ⟨_, rfl⟩
          · exact killS_get hb hne
          · exact absurd (by simp) hne
      · have ha' := ha hc0
        subst ha'
        have hss : ∃ g' o' n' c', s = .s g' o' n' c' := by
          unfold asS at hs
          split at hs
          · exact ⟨_, _, _, _, rfl⟩
          · cases hs; omega
          · cases hs
        obtain ⟨g', o', n', c', rfl⟩ := hss
        simp only [asS, Option.some.injEq, Prod.mk.injEq] at hs
        obtain ⟨rfl, rfl, rfl, rfl⟩ := hs
        unfold roomOK at hroom
        cases hbk : hp[g']? with
        | none => simp only [hbk] at hroom; omega
        | some bk =>
        simp only [hbk] at hroom
        by_cases hown : bk.own = true
        · rw [if_pos hown] at hroom
          rw [cellsAt_some hbk] at h o1 hol
          have hmul : (n' + m) * de.size ≤ c' * de.size := Nat.mul_le_mul_right _ hc
          have hadd : (n' + m) * de.size = n' * de.size + m * de.size := Nat.add_mul _ _ _
          have hk := h (c' * de.size - (n' + m) * de.size) c' (by omega) hc
          have nvl := relL_length n1
          have hnvl : (((cellsAt hp g2).drop o2).take (m * de.size)).length = m * de.size := by rw [← nvl]; exact nLen
          have nok : okL hp.length (((cellsAt hp g2).drop o2).take (m * de.size)) := okL_take (okL_drop (cellsAt_ok hd g2) _) _
          obtain ⟨q1, q2⟩ := hd.write (P := P) (o := o' + n' * de.size) hbk hown n1 nok nOne (by rw [hnvl]; omega)
          have holl : ((bk.cells.drop o').take (n' * de.size)).length = n' * de.size := by rw [← relL_length o1]; exact oLen
          have hset : (hp.set g' ⟨true, splice bk.cells (o' + n' * de.size) (((cellsAt hp g2).drop o2).take (m * de.size))⟩)[g']? = some ⟨true, splice bk.cells (o' + n' * de.size) (((cellsAt hp g2).drop o2).take (m * de.size))⟩ := by
            have := (List.getElem?_eq_some_iff.1 hbk).1
            rw [List.getElem?_set, if_pos rfl, if_pos this]
          have hspl : (splice bk.cells (o' + n' * de.size) (((cellsAt hp g2).drop o2).take (m * de.size))).length = bk.cells.length := splice_length (by rw [hnvl]; omega)
          have hmv := q2.move (o := o') (cs := (bk.cells.drop o').take (n' * de.size) ++ ((cellsAt hp g2).drop o2).take (m * de.size) ++ List.replicate (c' * de.size - (n' + m) * de.size) V.j) hset rfl
            (by simp only [List.length_append, holl, hnvl, List.length_replicate]; rw [hspl]; omega)
            (fun j v hv => by
              rw [List.append_assoc] at hv
              rw [splice_get (by rw [hnvl]; omega), hnvl]
              by_cases hj : j < n' * de.size
              · rw [List.getElem?_append_left (by omega), List.getElem?_take, if_pos hj, List.getElem?_drop] at hv
                rw [if_pos (by omega)]
                exact .inr hv
              · rw [List.getElem?_append_right (by omega), holl] at hv
                by_cases hj2 : j - n' * de.size < m * de.size
                · rw [List.getElem?_append_left (by omega)] at hv
                  rw [if_neg (by omega), if_pos (by omega), show o' + j - (o' + n' * de.size) = j - n' * de.size by omega]
                  exact .inr hv
                · rw [List.getElem?_append_right (by omega), List.getElem?_replicate] at hv
                  split at hv
                  · cases hv; exact .inl rfl
                  · cases hv)
          rw [List.set_set, List.length_set] at hmv
          refine ⟨_, _, _, _, .slice (some ⟨(ρ g').1, (ρ g').2 + o', none⟩) (n' + m) c', hk, ?_, ⟨hmv, Loc.upd_lt ρ _, by simp [killS], ?_, ?_, fun h b hb hne => .inr ?_⟩⟩
          · have hnr := nRun w (Keep.refl _ _)
            have q1' : (storeCells ⟨(ρ g').1, (ρ g').2 + o' + n' * de.size, none⟩ nws).run P w = .ok () (w.setCells (ρ g').1 ((ρ g').2 + (o' + n' * de.size)) nws) := by
              rw [Nat.add_assoc]; exact q1
            simp only [Sem.run_bind, hnr, Result.andThen_ok, addr_add, List.toList_toArray, q1', Sem.run_pure]
          · unfold rel
            rw [Loc.upd_same]
            exact ⟨hc, _, rfl, fun _ => rfl⟩
          · unfold okV; intro _; simp [killS]
          · have hb' : (hp.set g' ⟨false, []⟩ ++ [⟨true, (bk.cells.drop o').take (n' * de.size) ++ ((cellsAt hp g2).drop o2).take (m * de.size) ++ List.replicate (c' * de.size - (n' + m) * de.size) V.j⟩])[h]? = some b := hb
            rcases getElem?_snoc hb' with hb' | ⟨rfl, rfl⟩
            · have hlt : h < hp.length := by have := (List.getElem?_eq_some_iff.1 hb').1; simpa using this
              rcases getElem?_set_cases hb' with ⟨rfl, rfl, _⟩ | ⟨_, hb'⟩
              · exact absurd rfl hne
              · exact ⟨h, b, hb', hne, by rw [Loc.upd_lt ρ _ h hlt]⟩
            · have hbne : bk.cells ≠ [] := fun e => by
                have h1 : 0 < c' * de.size := Nat.mul_pos hc0 hsz
                rw [e] at hroom; simp only [List.length_nil] at hroom; omega
              exact ⟨g', bk, hbk, hbne, by rw [List.length_set, Loc.upd_same]⟩
        · rw [if_neg hown] at hroom; omega
    · have hge := grownCap_ge w (n + m) c e
      have hcm := grownCap_le_maxLen w (n + m) c e (by simp only [maxLen]; omega)
      have hk := h ((grownCap w (n + m) c e - (n + m)) * de.size) (grownCap w (n + m) c e) (by rw [← Nat.add_mul]; congr 1; omega) hge
      have hfit := growslice_fits (need := n + m) (old := c) (bytes := de.bytes) (by omega) (by omega)
      have hkd : Keep none' w w.drew := Keep.drew _ _
      have hor := oRun w.drew hkd
      have hnr := nRun w.drew hkd
      have hzl : ((List.replicate (grownCap w (n + m) c e - (n + m)) z.cells.toList).flatten).length = (grownCap w (n + m) c e - (n + m)) * de.size := by simp [List.length_flatten, z4]
      have hzr : relL ρ (List.replicate ((grownCap w (n + m) c e - (n + m)) * de.size) V.j) ((List.replicate (grownCap w (n + m) c e - (n + m)) z.cells.toList).flatten) := relL_junk _ _ hzl
      have hall := relL_append (relL_append o1 n1) hzr
      have hokc : okL (killS hp s).length ((((cellsAt hp g).drop o).take (n * de.size) ++ ((cellsAt hp g2).drop o2).take (m * de.size)) ++ List.replicate ((grownCap w (n + m) c e - (n + m)) * de.size) V.j) := by
        rw [killS_length]
        exact okL_append (okL_append (okL_take (okL_drop (cellsAt_ok hd g) _) _) (okL_take (okL_drop (cellsAt_ok hd g2) _) _)) (okL_junk _)
      have hone : ∀ y ∈ (ols ++ nws) ++ (List.replicate (grownCap w (n + m) c e - (n + m)) z.cells.toList).flatten, y.oneCell' = true := fun y hy => by
        rcases List.mem_append.1 hy with hy | hy
        · rcases List.mem_append.1 hy with hy | hy
          · exact oOne y hy
          · exact nOne y hy
        · exact one_flatten _ _ z2 y hy
      have hst := Step.pushS ((killS_hd hd s).drew) hall hokc hone e hge
      have hst' := hst
      rw [killS_length] at hst'
      refine ⟨_, _, _, _, _, hk, ?_, ⟨hst'.hd, fun h hh => hst'.same h (by rw [killS_length]; exact hh), by simp [killS_length], hst'.val, hst'.ok, fun h b hb hne => ?_⟩⟩
      rotate_left
      · rcases hst'.src h b hb hne with h1 | ⟨g1, c1, h1, h2, h3⟩
        · exact .inl h1
        · exact .inr ⟨g1, c1, killS_get h1 h2, h2, h3⟩
      have h63 : ¬ (9223372036854775807 < ((n : Int) + (m : Int))) := by omega
      have h48 : ¬ (281474976710656 < Builtin.nextslicecap (n + m) c * i.bytes) := by rw [hib]; omega
      simp [Builtin.append_, hE.run_und hE0, hdu, hE.run_size hEe, hti, hzv, Builtin.lenOf, hc, h63, h48, Question.forced, hor, hnr, newRow, zeroCells_eq]
      exact ⟨rfl, rfl⟩
  all_goals exact h.elim

theorem appendZ_run (hE : EnvOK P E) (hd : Hd M w0 ρ hp w) {ts : List TypeId} {args : List V} {vs : List Value} (hr : relL ρ args vs) {k : V → List Blk → Prop} (h : vAppendZ E ts args hp k) (ty : TypeId) :
    ∃ v hp' w' ρ' y, k v hp' ∧ (Builtin.append_ ts.toArray ty vs.toArray).run P w = .ok y w' ∧ Step M w0 ρ hp w v hp' ρ' w' y := by
  unfold vAppendZ at h
  split at h
  case h_2 => exact h.elim
  case h_1 t t' s ki m =>
  unfold relL at hr
  obtain ⟨sv, vs, rfl, hsv, hr⟩ := hr
  unfold relL at hr
  obtain ⟨xv, vs, rfl, hxv, hr⟩ := hr
  unfold relL at hr
  subst hr
  unfold rel at hxv
  subst hxv
  cases hE0 : E t with
  | none => simp [hE0] at h
  | some dd =>
  cases hE1 : E t' with
  | none => simp [hE0, hE1] at h
  | some dd' =>
  simp only [hE0, hE1] at h
  cases hdu : dd.und <;> cases hdu' : dd'.und <;> simp only [hdu, hdu'] at h
  case slice.int e k' =>
    cases hEe : E e with
    | none => simp [hEe] at h
    | some de =>
    cases hs : asS s with
    | none => simp [hEe, hs] at h
    | some p =>
    obtain ⟨g, o, n, c⟩ := p
    simp only [hEe, hs] at h
    obtain ⟨i, z, hi, his, hib, hiz, z1, z2, z3⟩ := hE.info hEe
    have z4 : z.cells.size = de.size := by rw [← z3, ← z1]; simp
    split at h
    case h_2 => exact h.elim
    rename_i de' g' o' hde hg'
    cases hde
    simp only [Option.some.injEq, Prod.mk.injEq] at hg'
    obtain ⟨rfl, rfl, rfl, rfl⟩ := hg'
    obtain ⟨h0, h1, hby, hsz, h⟩ := h
    obtain ⟨hnc, a, rfl, ha⟩ := asS_rel hsv hs
    have hti : ∀ w, (typeInfo e).run P w = .ok i w := fun w => by simp [typeInfo, hi]
    have hzv : ∀ w, (zeroValue e).run P w = .ok z w := fun w => by simp [zeroValue, typeInfo, hi, hiz]
    have hge := grownCap_ge w m.toNat 0 e
    have hk := h ((grownCap w m.toNat 0 e - m.toNat) * de.size) (grownCap w m.toNat 0 e) (by rw [← Nat.add_mul]; congr 1; omega) hge
    have hfit := growslice_fits (need := m.toNat) (old := 0) (bytes := de.bytes) (by omega) (by omega)
    have hzl : ((List.replicate (grownCap w m.toNat 0 e - m.toNat) z.cells.toList).flatten).length = (grownCap w m.toNat 0 e - m.toNat) * de.size := by simp [List.length_flatten, z4]
    have hall := relL_append (zeros_rel (ρ := ρ) z1 m.toNat) (relL_junk (ρ := ρ) _ _ hzl)
    have hokc : okL hp.length ((List.replicate m.toNat de.zero).flatten ++ List.replicate ((grownCap w m.toNat 0 e - m.toNat) * de.size) V.j) := okL_append (zeros_ok z1 m.toNat) (okL_junk _)
    have hone : ∀ y ∈ (List.replicate m.toNat z.cells.toList).flatten ++ (List.replicate (grownCap w m.toNat 0 e - m.toNat) z.cells.toList).flatten, y.oneCell' = true := fun y hy => by
      rcases List.mem_append.1 hy with hy | hy <;> exact one_flatten _ _ z2 y hy
    have hst := Step.pushS hd.drew hall hokc hone e hge
    refine ⟨_, _, _, _, _, hk, ?_, ⟨hst.hd, hst.same, hst.len, hst.val, hst.ok, hst.src⟩⟩
    have wm : IntKind.i64.wrap m = m := IntWalk.i64_in _ (by omega)
    have h63 : ¬ (9223372036854775807 < m) := by omega
    have h63' : ¬ (9223372036854775807 < (m.toNat : Int)) := by omega
    have h48 : ¬ (281474976710656 < Builtin.nextslicecap m.toNat 0 * i.bytes) := by rw [hib]; omega
    have hmb : ¬ (281474976710656 < m * (i.bytes : Int)) := by
      rw [hib]
      have : m * (de.bytes : Int) = ((m.toNat * de.bytes : Nat) : Int) := by rw [Int.natCast_mul]; congr 1; omega
      rw [this]; omega
    have hneg : ¬ (m < 0) := by omega
    have hnz : ¬ (m.toNat * de.size = 0) := by
      have : 0 < m.toNat * de.size := Nat.mul_pos (by omega) hsz
      omega
    have hm0 : ¬ m.toNat = 0 := by omega
    cases a with
    | none =>
      simp [Builtin.append_, hE.run_und hE0, hE.run_und hE1, hdu, hdu', hE.run_size hEe, hti, hzv, asInt, asIntOf, wm, hneg, hmb, h63', h48, hnz, hm0, Question.forced, newRow, zeroCells_eq, Builtin.firstCells, show ¬ m.toNat ≤ 0 by omega, show ¬ m ≤ 0 by omega, show ¬ (9223372036854775807 < max m 0) by omega]
      exact ⟨rfl, rfl⟩
    | some a =>
      have hl0 := run_loadCells_list (P := P) w.drew a [] (by simp)
      simp [Builtin.append_, hE.run_und hE0, hE.run_und hE1, hdu, hdu', hE.run_size hEe, hti, hzv, asInt, asIntOf, wm, hneg, hmb, h63', h48, hnz, hm0, Question.forced, newRow, zeroCells_eq, Builtin.firstCells, show ¬ m.toNat ≤ 0 by omega, show ¬ m ≤ 0 by omega, show ¬ (9223372036854775807 < max m 0) by omega]
      rw [show (loadCells a 0).run P w.drew = .ok #[] w.drew by simpa using hl0]
      simp
      exact ⟨rfl, rfl⟩
  all_goals exact h.elim

theorem copy_run (hE : EnvOK P E) (hd : Hd M w0 ρ hp w) {ts : List TypeId} {args : List V} {vs : List Value} (hr : relL ρ args vs) {k : V → List Blk → Prop} (h : vCopy E ts args hp k) (ty : TypeId) :
    ∃ v hp' w' ρ' y, k v hp' ∧ (Builtin.copy_ ts.toArray ty vs.toArray).run P w = .ok y w' ∧ Step M w0 ρ hp w v hp' ρ' w' y := by
  unfold vCopy at h
  split at h
  case h_2 => exact h.elim
  case h_1 t ts s x =>
  unfold relL at hr
  obtain ⟨sv, vs, rfl, hsv, hr⟩ := hr
  unfold relL at hr
  obtain ⟨xv, vs, rfl, hxv, hr⟩ := hr
  unfold relL at hr
  subst hr
  cases hE0 : E t with
  | none => simp [hE0] at h
  | some dd =>
  simp only [hE0] at h
  cases hdu : dd.und <;> simp only [hdu] at h
  case slice e =>
    cases hEe : E e with
    | none => simp [hEe] at h
    | some de =>
    cases hs : asS s with
    | none => simp [hEe, hs] at h
    | some p =>
    cases hx : asS x with
    | none => simp [hEe, hs, hx] at h
    | some q =>
    obtain ⟨g, o, n, c⟩ := p
    obtain ⟨g2, o2, m, c2⟩ := q
    simp only [hEe, hs, hx] at h
    cases hb : hp[g]? with
    | none => simp [hb] at h
    | some b =>
    simp only [hb] at h
    obtain ⟨ho, hsz, hn0, hlen, hl2, h⟩ := h
    obtain ⟨hnc, a, rfl, ha⟩ := asS_rel hsv hs
    obtain ⟨hmc, a2, rfl, ha2⟩ := asS_rel hxv hx
    have ha' := ha (by omega)
    subst ha'
    -- the first min m n elements of the source
    have hfc : ∃ xs : List Value, relL ρ (((cellsAt hp g2).drop o2).take (min m n * de.size)) xs ∧ (∀ y ∈ xs, y.oneCell' = true) ∧ xs.length = min m n * de.size ∧
        (Builtin.firstCells de.size (min m n) (.slice a2 m c2)).run P w = .ok xs.toArray w := by
      have hx2 : rel ρ (.s g2 o2 (min m n) c2) (.slice a2 (min m n) c2) := by
        unfold rel; exact ⟨by omega, a2, rfl, ha2⟩
      obtain ⟨xs, e1, e2, e3, e4⟩ := firstCells_run (P := P) hd hx2 (by rfl) hl2 hsz
      refine ⟨xs, e1, e2, e3, ?_⟩
      have := e4 w (Keep.refl _ _)
      cases a2 <;> simpa [Builtin.firstCells] using this
    obtain ⟨xs, e1, e2, e3, e4⟩ := hfc
    have hxl := relL_length e1
    obtain ⟨q1, q2⟩ := hd.write (P := P) (o := o) hb ho e1 (okL_take (okL_drop (cellsAt_ok hd g2) _) _) e2 (by rw [← hxl, e3]; exact hlen)
    refine ⟨_, _, _, _, .int .i64 (min m n : Nat), h, ?_, ⟨q2, fun _ _ => rfl, by simp, rfl, trivial, src_set hb fun hne e => hne (List.eq_nil_of_length_eq_zero (by rw [splice_length (by rw [← hxl, e3]; exact hlen), e]; rfl))⟩⟩
    have hmin : Nat.min m n = min m n := rfl
    simp [Builtin.copy_, hE.run_und hE0, hdu, hE.run_size hEe, Builtin.lenOf, hmin, e4, q1, goInt]
  all_goals exact h.elim

theorem app_run (hE : EnvOK P E) (hd : Hd M w0 ρ hp w) {ts : List TypeId} {args : List V} {vs : List Value} (hr : relL ρ args vs) {k : V → List Blk → Prop} (h : vApp E ts args hp k) (ty : TypeId) :
    ∃ v hp' w' ρ' y, k v hp' ∧ (Builtin.append_ ts.toArray ty vs.toArray).run P w = .ok y w' ∧ Step M w0 ρ hp w v hp' ρ' w' y := by
  unfold vApp at h
  split at h
  · exact appendZ_run hE hd hr h ty
  · exact append_run hE hd hr h ty
end
end Go.Vc

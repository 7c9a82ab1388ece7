/- Calls that write into an argument's memory: sound. -/
import Derived.Test.YtgdkpnchkalggaaVcgL
set_option linter.unusedSimpArgs false
set_option linter.unusedVariables false
namespace Go.Vc
open Go
section
variable {P : Program} {E : Env} {M : Nat → Prop} {w0 w : World} {ρ ρ' : Loc} {hp : List Blk}

theorem segM_get {sub : List (Nat × Nat)} : ∀ {r : List (Nat × Nat)} {ha : List Blk}, segM hp sub r ha → r.length = ha.length ∧ ∀ (h : Nat) (b : Blk), ha[h]? = some b →
    ∃ g q, r[h]? = some (g, q) ∧ ((b.own = false ∧ g < hp.length ∧ ((cellsAt hp g).drop q).take b.cells.length = V.instL sub hp.length b.cells) ∨ (b.own = true ∧ q = 0 ∧ hp[g]? = some ⟨true, V.instL sub hp.length b.cells⟩))
  | [], [], _ => ⟨rfl, fun h b hb => by simp at hb⟩
  | (g, q) :: r, b :: ha, h => by
    unfold segM at h
    obtain ⟨h1, h2⟩ := segM_get h.2
    refine ⟨by simp [h1], fun i b' hb => ?_⟩
    cases i with
    | zero => simp at hb; subst hb; exact ⟨g, q, by simp, h.1⟩
    | succ i => simp at hb; obtain ⟨g', q', e1, e2⟩ := h2 i b' hb; exact ⟨g', q', by simpa using e1, e2⟩
  | [], _ :: _, h => by simp [segM] at h
  | _ :: _, [], h => by simp [segM] at h

theorem keepR_get : ∀ {ha ha' : List Blk}, keepR ha ha' → ha'.length = ha.length ∧ ∀ (h : Nat) (b : Blk), ha[h]? = some b → ∃ b', ha'[h]? = some b' ∧ (b.own = true → b'.cells.length = b.cells.length) ∧ (b.own = false → b' = b)
  | [], [], _ => ⟨rfl, fun h b hb => by simp at hb⟩
  | b :: ha, b' :: ha', h => by
    unfold keepR at h
    obtain ⟨h1, h2⟩ := keepR_get h.2
    refine ⟨by simp [h1], fun i c hc => ?_⟩
    cases i with
    | zero => simp at hc; subst hc; exact ⟨b', by simp, fun ho => by have := h.1; rwa [if_pos ho] at this, fun ho => by have := h.1; rwa [if_neg (by simp [ho])] at this⟩
    | succ i => simp at hc; obtain ⟨c', e1, e2⟩ := h2 i c hc; exact ⟨c', by simpa using e1, e2⟩
  | [], _ :: _, h => by simp [keepR] at h
  | _ :: _, [], h => by simp [keepR] at h

theorem putSegs_length {sub : List (Nat × Nat)} {N : Nat} : ∀ (r : List (Nat × Nat)) (ha ha' hp : List Blk), (putSegs sub N hp r ha ha').length = hp.length
  | [], _, _, _ => by simp [putSegs]
  | _ :: _, [], _, _ => by simp [putSegs]
  | _ :: _, _ :: _, [], _ => by simp [putSegs]
  | (g, q) :: r, b :: ha, b' :: ha', hp => by rw [putSegs, putSegs_length r ha ha']; split <;> simp

theorem putSegs_get {sub : List (Nat × Nat)} {N : Nat} : ∀ (r : List (Nat × Nat)) (ha ha' hp : List Blk), r.length = ha.length → ha'.length = ha.length → ∀ {g : Nat} {b : Blk}, (putSegs sub N hp r ha ha')[g]? = some b →
    (hp[g]? = some b ∧ ∀ (h : Nat) (bh : Blk) (q : Nat), ha[h]? = some bh → bh.own = true → r[h]? ≠ some (g, q)) ∨
    (∃ (h : Nat) (bh bh' : Blk) (q : Nat), ha[h]? = some bh ∧ bh.own = true ∧ ha'[h]? = some bh' ∧ r[h]? = some (g, q) ∧ b = ⟨bh'.own, V.instL sub N bh'.cells⟩)
  | [], [], [], hp, _, _, g, b, hb => .inl ⟨by simpa [putSegs] using hb, fun h bh q hh => by simp at hh⟩
  | (g0, q0) :: r, b0 :: ha, b0' :: ha', hp, hl, hl', g, b, hb => by
    rw [putSegs] at hb
    rcases putSegs_get r ha ha' _ (by simpa using hl) (by simpa using hl') hb with ⟨h1, h2⟩ | ⟨h, bh, bh', q, h1, h2, h3, h4, h5⟩
    · by_cases ho : b0.own = true
      · rw [if_pos ho] at h1
        by_cases hg : g0 = g
        · subst hg
          rw [List.getElem?_set] at h1
          simp only [if_true] at h1
          split at h1
          · exact .inr ⟨0, b0, b0', q0, rfl, ho, rfl, rfl, (Option.some.inj h1).symm⟩
          · cases h1
        · rw [List.getElem?_set_ne hg] at h1
          refine .inl ⟨h1, fun h bh q hh hbo => ?_⟩
          cases h with
          | zero => simp only [List.getElem?_cons_zero, ne_eq, Option.some.injEq, Prod.mk.injEq, not_and]; exact fun e => absurd e hg
          | succ h => simpa using h2 h bh q (by simpa using hh) hbo
      · rw [if_neg ho] at h1
        refine .inl ⟨h1, fun h bh q hh hbo => ?_⟩
        cases h with
        | zero => simp at hh; subst hh; exact absurd hbo ho
        | succ h => simpa using h2 h bh q (by simpa using hh) hbo
    · exact .inr ⟨h + 1, bh, bh', q, by simpa using h1, h2, by simpa using h3, by simpa using h4, h5⟩
  | [], _ :: _, _, _, hl, _, _, _, _ => by simp at hl
  | _ :: _, [], _, _, hl, _, _, _, _ => by simp at hl
  | [], [], _ :: _, _, _, hl, _, _, _ => by simp at hl
  | _ :: _, _ :: _, [], _, _, hl, _, _, _ => by simp at hl

theorem callM_run (hd : Hd M w0 ρ hp w) {f : FuncId} {args : List V} {xs : List Value} (hr : relL ρ args xs) {k : V → List Blk → Prop} (h : vCallM P f args hp k) :
    hasBody P f ∧ Calls P f xs.toArray w fun e w' => ∃ v hp' ρ' y, e = .returned y ∧ k v hp' ∧ Step M w0 ρ hp w v hp' ρ' w' y := by
  obtain ⟨args0, ha, post, sub, ⟨hbody, hLC⟩, hle, hseg, hnd, hok0, hokb, hpost⟩ := h
  obtain ⟨hlen, hsegs⟩ := segM_get hseg
  have hgN : ∀ q ∈ sub, q.1 < hp.length := fun q hq => by
    obtain ⟨i, hi, rfl⟩ := List.mem_iff_getElem.1 hq
    have hi' : i < ha.length := by omega
    obtain ⟨g, q, e1, e3⟩ := hsegs i _ (List.getElem?_eq_getElem hi')
    rw [List.getElem?_eq_getElem hi] at e1
    simp only [Option.some.injEq] at e1
    rw [e1]
    rcases e3 with e3 | e3
    · exact e3.2.1
    · exact (List.getElem?_eq_some_iff.1 e3.2.2).1
  have hdis : ∀ {h h' g g' q q' : Nat}, h ≠ h' → sub[h]? = some (g, q) → sub[h']? = some (g', q') → g ≠ g' := fun {h h' g g' q q'} hne e e' heq => by
    subst heq
    have h1 : (sub.map (·.1))[h]? = some g := by rw [List.getElem?_map, e]; rfl
    have h2 : (sub.map (·.1))[h']? = some g := by rw [List.getElem?_map, e']; rfl
    have hlt := (List.getElem?_eq_some_iff.1 h1).1
    have hlt' := (List.getElem?_eq_some_iff.1 h2).1
    have e3 : (sub.map (·.1))[h] = (sub.map (·.1))[h'] := by
      rw [List.getElem?_eq_getElem hlt] at h1; rw [List.getElem?_eq_getElem hlt'] at h2
      rw [Option.some.inj h1, Option.some.inj h2]
    exact hne ((List.getElem_inj hnd).1 e3)
  -- the caller's block behind a block of the callee's
  have hbk : ∀ {h : Nat} {b : Blk}, ha[h]? = some b → b.cells ≠ [] → ∃ (g q : Nat) (c : Blk), sub[h]? = some (g, q) ∧ hp[g]? = some c ∧ c.cells ≠ [] ∧ (b.own = true → c.own = true ∧ q = 0 ∧ c.cells = V.instL sub hp.length b.cells) := fun {h b} hb hne => by
    obtain ⟨g, q, e1, e2⟩ := hsegs h b hb
    have hne' : V.instL sub hp.length b.cells ≠ [] := fun e => hne (List.eq_nil_of_length_eq_zero (by rw [← instL_length (sub := sub) (N := hp.length) b.cells, e]; rfl))
    rcases e2 with ⟨e2, e3, e4⟩ | ⟨e2, e3, e4⟩
    · unfold cellsAt at e4
      rw [List.getElem?_eq_getElem e3] at e4
      simp only at e4
      refine ⟨g, q, _, e1, List.getElem?_eq_getElem e3, fun e => hne' ?_, fun ho => by rw [e2] at ho; cases ho⟩
      rw [← e4, e]; simp
    · exact ⟨g, q, _, e1, e4, hne', fun _ => ⟨rfl, e3, rfl⟩⟩
  have hsub1 : ∀ {h g q : Nat}, sub[h]? = some (g, q) → (ρ.sub sub h) = ((ρ g).1, (ρ g).2 + q) := fun {h g q} e => by simp only [Loc.sub, e]
  have hHd : Hd (modOf ha (ρ.sub sub)) w (ρ.sub sub) ha w := by
    refine ⟨Keep.refl _ _, hokb, ?_, ?_, ?_⟩
    · intro h b hb j v hv
      obtain ⟨g, q, e1, e2⟩ := hsegs h b hb
      have hj := (List.getElem?_eq_some_iff.1 hv).1
      have hv' := instL_get' (sub := sub) (N := hp.length) hv
      rcases e2 with ⟨_, _, e4⟩ | ⟨_, rfl, e4⟩
      · rw [← e4, List.getElem?_take, if_pos hj, List.getElem?_drop] at hv'
        unfold cellsAt at hv'
        cases hc : hp[g]? with
        | none => simp [hc] at hv'
        | some c =>
          simp only [hc] at hv'
          obtain ⟨x, hx, h1, h2⟩ := hd.cell g c hc (q + j) _ hv'
          refine ⟨x, ?_, h1, rel_inst (N := hp.length) (by rw [hlen]; exact okL_get (hokb b (List.mem_of_getElem? hb)) hv) h2⟩
          rw [hsub1 e1]
          show w.cell? ⟨(ρ g).1, (ρ g).2 + q + j, none⟩ = _
          rw [Nat.add_assoc]; exact hx
      · obtain ⟨x, hx, h1, h2⟩ := hd.cell g _ e4 j _ hv'
        refine ⟨x, ?_, h1, rel_inst (N := hp.length) (by rw [hlen]; exact okL_get (hokb b (List.mem_of_getElem? hb)) hv) h2⟩
        rw [hsub1 e1]
        exact hx
    · intro h b hb ho hne
      obtain ⟨g, q, c, e1, e2, e3, e4⟩ := hbk hb hne
      obtain ⟨h1, rfl, h2⟩ := e4 ho
      refine ⟨.inr ⟨h, b, hb, ho, hne, rfl⟩, fun j hj => ?_⟩
      rw [hsub1 e1]
      exact (hd.own g c e2 h1 e3).2 j (by rw [h2, instL_length]; exact hj)
    · intro h b h' b' hb hb' hhh ho hne hne'
      obtain ⟨g, q, c, e1, e2, e3, e4⟩ := hbk hb hne
      obtain ⟨g', q', c', e1', e2', e3', _⟩ := hbk hb' hne'
      rw [hsub1 e1, hsub1 e1']
      exact hd.sep g c g' c' e2 e2' (hdis hhh e1 e1') (e4 ho).1 e3 e3'
  have hxs : relL (ρ.sub sub) args0 xs := relL_inst (N := hp.length) (by rw [hlen]; exact hok0) (leArgs_rel hle hr)
  refine ⟨hbody, (hLC w (ρ.sub sub) xs hHd hxs hok0).mono fun e w' hR => ?_⟩
  obtain ⟨v, hp', ρc, y, rfl, hpo, hHd', hl', hsame, hv, hokv⟩ := hR
  obtain ⟨ha', hr', rfl, hkr, hown, hk⟩ := hpost v hp' hpo
  obtain ⟨hlha, hkrs⟩ := keepR_get hkr
  have hsub : ∀ h, h < sub.length → ρc h = ρ.sub sub h := fun h hh => hsame h (by omega)
  -- what a block of the caller's that the callee may not write is behind the call
  have hstay : ∀ {g : Nat} {b : Blk}, hp[g]? = some b → b.cells ≠ [] → (∀ (h : Nat) (bh : Blk) (q : Nat), ha[h]? = some bh → bh.own = true → sub[h]? ≠ some (g, q)) → ¬ modOf ha (ρ.sub sub) (ρ g).1 := fun {g b} hg hne hno hm => by
    obtain ⟨h, bh, hb, ho, hne', hk'⟩ := hm
    obtain ⟨g', q, c, e1, e2, e3, e4⟩ := hbk hb hne'
    rw [hsub1 e1] at hk'
    have hgg : g' ≠ g := fun e => hno h bh q hb ho (e ▸ e1)
    exact hd.sep g' c g b e2 hg hgg (e4 ho).1 e3 hne hk'.symm
  have hkM : Keep M w0 w' := by
    refine ⟨hHd'.keep.os.trans hd.keep.os, hHd'.keep.tape.trans hd.keep.tape, hHd'.keep.output.trans hd.keep.output, Nat.le_trans hd.keep.size hHd'.keep.size, fun i hi hni => ?_⟩
    refine (hHd'.keep.block i (Nat.lt_of_lt_of_le hi hd.keep.size) fun hm => ?_).trans (hd.keep.block i hi hni)
    obtain ⟨h, bh, hb, ho, hne', hk'⟩ := hm
    obtain ⟨g', q, c, e1, e2, e3, e4⟩ := hbk hb hne'
    rw [hsub1 e1] at hk'
    rcases (hd.own g' c e2 (e4 ho).1 e3).1 with h1 | h1
    · rw [← hk'] at h1; exact absurd hi (by omega)
    · rw [← hk'] at h1; exact hni h1
  have atOld : ∀ {i : Nat}, i < hp.length → (ρ.back ρc hp.length sub.length) i = ρ i := fun hi => by simp [Loc.back, hi]
  have atNew : ∀ {i : Nat}, hp.length ≤ i → (ρ.back ρc hp.length sub.length) i = ρc (ha.length + (i - hp.length)) := fun {i} hi => by simp only [Loc.back, show ¬ (i < hp.length) by omega, if_false, hlen]
  have nonE : ∀ {c : Blk}, V.instL sub hp.length c.cells ≠ [] → c.cells ≠ [] := fun hne e => hne (by rw [e]; rfl)
  have newB : ∀ {i : Nat} {b : Blk}, (hr'.map fun b => (⟨b.own, V.instL sub hp.length b.cells⟩ : Blk))[i]? = some b → ∃ c, hr'[i]? = some c ∧ b = ⟨c.own, V.instL sub hp.length c.cells⟩ ∧ (ha' ++ hr')[ha.length + i]? = some c := fun {i} {b} hb => by
    rw [List.getElem?_map] at hb
    cases hc : hr'[i]? with
    | none => rw [hc] at hb; simp at hb
    | some c => rw [hc] at hb; simp at hb; exact ⟨c, rfl, hb.symm, by rw [List.getElem?_append_right (by omega)]; simpa [hlha] using hc⟩
  have hPl := putSegs_length (sub := sub) (N := hp.length) sub ha ha' hp
  have hPg := fun {g : Nat} {b : Blk} (hb : (putSegs sub hp.length hp sub ha ha')[g]? = some b) => putSegs_get (sub := sub) (N := hp.length) sub ha ha' hp hlen hlha hb
  -- the block that was there before
  have hold : ∀ {g : Nat} {b : Blk}, (putSegs sub hp.length hp sub ha ha')[g]? = some b → b.cells ≠ [] → ∃ c : Blk, hp[g]? = some c ∧ c.cells ≠ [] ∧ (b.own = true → c.own = true) := fun {g b} hb hne => by
    rcases hPg hb with ⟨h1, _⟩ | ⟨h, bh, bh', q, h1, h2, h3, h4, rfl⟩
    · exact ⟨b, h1, hne, id⟩
    · obtain ⟨bx, e1, e2, _⟩ := hkrs h bh h1
      rw [h3] at e1; cases e1
      have hne2 : bh.cells ≠ [] := fun e => nonE hne (List.eq_nil_of_length_eq_zero (by rw [e2 h2, e]; rfl))
      obtain ⟨g', q', c, f1, f2, f3, f4⟩ := hbk h1 hne2
      rw [h4] at f1; cases f1
      exact ⟨c, f2, f3, fun _ => (f4 h2).1⟩
  refine ⟨_, _, ρ.back ρc hp.length sub.length, y, rfl, hk, ⟨?_, fun h hh => by simp [Loc.back, hh], by simp [hPl], rel_back (K := 0) hsub hgN hv, ?_, fun h b hb hne => ?_⟩⟩
  · refine ⟨hkM, ?_, ?_, ?_, ?_⟩
    · intro b hb
      rw [List.length_append, List.length_map, hPl]
      rcases List.mem_append.1 hb with hb | hb
      · obtain ⟨g, hg⟩ := List.mem_iff_getElem?.1 hb
        rcases hPg hg with ⟨h1, _⟩ | ⟨h, bh, bh', q, h1, h2, h3, h4, rfl⟩
        · exact okL_mono (by omega) (hd.ok b (List.mem_of_getElem? h1))
        · have := hHd'.ok bh' (List.mem_append.2 (.inl (List.mem_of_getElem? h3)))
          rw [List.length_append, hlha, ← hlen] at this
          exact okL_inst hgN this
      · obtain ⟨c, hc, rfl⟩ := List.mem_map.1 hb
        have := hHd'.ok c (List.mem_append.2 (.inr hc))
        rw [List.length_append, hlha, ← hlen] at this
        exact okL_inst hgN this
    · intro g b hg j v' hv'
      rcases append_cases hg with ⟨hi, hg⟩ | ⟨hi, hg⟩
      · rw [hPl] at hi
        rw [atOld hi]
        rcases hPg hg with ⟨h1, h2⟩ | ⟨h, bh, bh', q, h1, h2, h3, h4, rfl⟩
        · obtain ⟨x, hx, h3, h4⟩ := hd.cell g b h1 j v' hv'
          have hne : b.cells ≠ [] := fun e => by rw [e] at hv'; simp at hv'
          refine ⟨x, ?_, h3, rel_congr (N := hp.length) (fun h hh => atOld hh) (okL_get (hd.ok b (List.mem_of_getElem? h1)) hv') h4⟩
          exact (hHd'.keep.cell (World.block_lt_of_cell? _ _ hx) (hstay h1 hne h2)).trans hx
        · obtain ⟨u, hu, rfl⟩ := instL_get hv'
          have hcc : (ha' ++ hr')[h]? = some bh' := by rw [List.getElem?_append_left (List.getElem?_eq_some_iff.1 h3).1]; exact h3
          obtain ⟨x, hx, h5, h6⟩ := hHd'.cell h bh' hcc j u hu
          have hq : q = 0 := by
            obtain ⟨g', q', f1, f2⟩ := hsegs h bh h1
            rw [h4] at f1; cases f1
            rcases f2 with ⟨f2, _⟩ | ⟨_, f2, _⟩
            · rw [f2] at h2; cases h2
            · exact f2
          rw [hsub h (List.getElem?_eq_some_iff.1 h4).1, hsub1 h4, hq] at hx
          exact ⟨x, hx, h5, rel_back (K := 0) hsub hgN h6⟩
      · rw [hPl] at hi hg
        obtain ⟨c, hc, rfl, hcc⟩ := newB hg
        obtain ⟨u, hu, rfl⟩ := instL_get hv'
        obtain ⟨x, hx, h1, h2⟩ := hHd'.cell _ c hcc j u hu
        rw [atNew hi]
        exact ⟨x, hx, h1, rel_back (K := 0) hsub hgN h2⟩
    · intro g b hg ho hne
      rcases append_cases hg with ⟨hi, hg⟩ | ⟨hi, hg⟩
      · rw [hPl] at hi
        rw [atOld hi]
        obtain ⟨c, f1, f2, f3⟩ := hold hg hne
        refine ⟨(hd.own g c f1 (f3 ho) f2).1, ?_⟩
        rcases hPg hg with ⟨h1, h2⟩ | ⟨h, bh, bh', q, h1, h2, h3, h4, rfl⟩
        · intro j hj
          exact (hHd'.keep.frozen (by simpa using hd.lt h1 hne) (hstay h1 hne h2)).trans ((hd.own g b h1 ho hne).2 j hj)
        · intro j hj
          have hcc : (ha' ++ hr')[h]? = some bh' := by rw [List.getElem?_append_left (List.getElem?_eq_some_iff.1 h3).1]; exact h3
          have hq : q = 0 := by
            obtain ⟨g', q', e1, e2⟩ := hsegs h bh h1
            rw [h4] at e1; cases e1
            rcases e2 with ⟨e2, _⟩ | ⟨_, e2, _⟩
            · rw [e2] at h2; cases h2
            · exact e2
          have := (hHd'.own h bh' hcc ho (nonE hne)).2 j (by simpa [instL_length] using hj)
          rw [hsub h (List.getElem?_eq_some_iff.1 h4).1, hsub1 h4, hq] at this
          exact this
      · rw [hPl] at hi hg
        obtain ⟨c, hc, rfl, hcc⟩ := newB hg
        rw [atNew hi]
        obtain ⟨q1, q2⟩ := hHd'.own _ c hcc ho (nonE hne)
        refine ⟨.inl ?_, fun j hj => q2 j (by simpa [instL_length] using hj)⟩
        rcases q1 with q1 | q1
        · exact Nat.le_trans hd.keep.size q1
        · obtain ⟨h, bh, hb, hbo, hbne, hbk'⟩ := q1
          obtain ⟨bx, e1, e2, _⟩ := hkrs h bh hb
          have hcc' : (ha' ++ hr')[h]? = some bx := by rw [List.getElem?_append_left (List.getElem?_eq_some_iff.1 e1).1]; exact e1
          have hlt : h < ha.length := (List.getElem?_eq_some_iff.1 hb).1
          exact absurd (hbk'.trans (by rw [hsame h hlt])) (hHd'.sep _ c h bx hcc hcc' (by omega) ho (nonE hne) (fun e => hbne (List.eq_nil_of_length_eq_zero (by rw [← e2 hbo, e]; rfl))))
    · intro g b g' b' hg hg' hgg ho hne hne'
      have newOwn : ∀ {i : Nat} {c : Blk}, hr'[i]? = some c → c.cells ≠ [] → (ha' ++ hr')[ha.length + i]? = some c → w.heap.size ≤ (ρc (ha.length + i)).1 := fun {i c} hc hcne hcc => by
        have hco : c.own = true := by
          rcases hown c (List.mem_of_getElem? hc) with h1 | h1
          · exact h1
          · exact absurd h1 hcne
        obtain ⟨q1, _⟩ := hHd'.own _ c hcc hco hcne
        rcases q1 with q1 | q1
        · exact q1
        · obtain ⟨h, bh, hb, hbo, hbne, hbk'⟩ := q1
          obtain ⟨bx, e1, e2, _⟩ := hkrs h bh hb
          have hcc' : (ha' ++ hr')[h]? = some bx := by rw [List.getElem?_append_left (List.getElem?_eq_some_iff.1 e1).1]; exact e1
          have hlt : h < ha.length := (List.getElem?_eq_some_iff.1 hb).1
          exact absurd (hbk'.trans (by rw [hsame h hlt])) (hHd'.sep _ c h bx hcc hcc' (by omega) hco hcne (fun e => hbne (List.eq_nil_of_length_eq_zero (by rw [← e2 hbo, e]; rfl))))
      rcases append_cases hg with ⟨hi, hg⟩ | ⟨hi, hg⟩ <;> rcases append_cases hg' with ⟨hi', hg'⟩ | ⟨hi', hg'⟩ <;> rw [hPl] at hi hi'
      · rw [atOld hi, atOld hi']
        obtain ⟨c, f1, f2, f3⟩ := hold hg hne
        obtain ⟨c', f1', f2', _⟩ := hold hg' hne'
        exact hd.sep g c g' c' f1 f1' hgg (f3 ho) f2 f2'
      · rw [hPl] at hg'
        obtain ⟨c', hc', rfl, hcc'⟩ := newB hg'
        rw [atOld hi, atNew hi']
        obtain ⟨c, f1, f2, _⟩ := hold hg hne
        have h1 := hd.lt f1 f2
        have h2 := newOwn hc' (nonE hne') hcc'
        omega
      · rw [hPl] at hg
        obtain ⟨c, hc, rfl, hcc⟩ := newB hg
        rw [atNew hi, atOld hi']
        obtain ⟨c', f1, f2, _⟩ := hold hg' hne'
        have h1 := hd.lt f1 f2
        have h2 := newOwn hc (nonE hne) hcc
        omega
      · rw [hPl] at hg hg'
        obtain ⟨c, hc, rfl, hcc⟩ := newB hg
        obtain ⟨c', hc', rfl, hcc'⟩ := newB hg'
        rw [atNew hi, atNew hi']
        exact hHd'.sep _ c _ c' hcc hcc' (by omega) ho (nonE hne) (nonE hne')
  · rw [List.length_append, List.length_map, hPl]
    rw [List.length_append, hlha, ← hlen] at hokv
    exact ok_inst hgN hokv
  · rcases append_cases hb with ⟨hi, hb⟩ | ⟨hi, hb⟩
    · rw [hPl] at hi
      obtain ⟨c, f1, f2, _⟩ := hold hb hne
      exact .inr ⟨h, c, f1, f2, by rw [atOld hi]⟩
    · rw [hPl] at hi hb
      obtain ⟨c, hc, rfl, hcc⟩ := newB hb
      have hcne := nonE hne
      have hco : c.own = true := by
        rcases hown c (List.mem_of_getElem? hc) with h1 | h1
        · exact h1
        · exact absurd h1 hcne
      obtain ⟨q1, _⟩ := hHd'.own _ c hcc hco hcne
      rw [atNew hi]
      rcases q1 with q1 | q1
      · exact .inl q1
      · obtain ⟨h', bh, hb', hbo, hbne, hbk'⟩ := q1
        obtain ⟨bx, e1, e2, _⟩ := hkrs h' bh hb'
        have hcc' : (ha' ++ hr')[h']? = some bx := by rw [List.getElem?_append_left (List.getElem?_eq_some_iff.1 e1).1]; exact e1
        have hlt : h' < ha.length := (List.getElem?_eq_some_iff.1 hb').1
        exact absurd (hbk'.trans (by rw [hsame h' hlt])) (hHd'.sep _ c h' bx hcc hcc' (by omega) hco hcne (fun e => hbne (List.eq_nil_of_length_eq_zero (by rw [← e2 hbo, e]; rfl))))
end
end Go.Vc

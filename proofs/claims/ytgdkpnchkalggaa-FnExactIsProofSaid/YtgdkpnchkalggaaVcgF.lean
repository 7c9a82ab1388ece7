/- Slicing, building; then every operation that leaves the world as it is. -/
import Derived.Test.YtgdkpnchkalggaaVcgD
set_option linter.unusedSimpArgs false
set_option linter.unusedVariables false
namespace Go.Vc
open Go
section
variable {P : Program} {E : Env} {t : TypeId} {d : TD} {M : Nat → Prop} {w0 w : World} {ρ : Loc} {hp : List Blk}

theorem run_bound (kk : IntKind) (i : Int) (y : Nat) (code : BoundsCode) (h0 : 0 ≤ i) (h1 : i ≤ y) (w : World) : (Instr.sliceBound (.int kk i) y code).run P w = .ok i.toNat w := by
  simp [Instr.sliceBound, asIntOf, h0, h1]

theorem vBounds_sound {len cap : Nat} (hlc : len ≤ cap) {low high max : Option V} {lo hi mx : Option Value}
    (hl : ∀ v, low = some v → ∃ u, lo = some u ∧ rel ρ v u) (hln : low = none → lo = none) (hh : ∀ v, high = some v → ∃ u, hi = some u ∧ rel ρ v u) (hhn : high = none → hi = none) (hmn : max = none → mx = none)
    {k : Nat → Nat → Nat → Prop} (h : vBounds len cap low high max k) (b : Bool) :
    ∃ l u m, k l u m ∧ l ≤ u ∧ u ≤ m ∧ m = cap ∧ ∀ w, (Instr.sliceBounds b len cap lo hi mx).run P w = .ok (l, u, m) w := by
  unfold vBounds at h
  cases max with
  | some v => exact h.elim
  | none =>
    have := hmn rfl
    subst this
    cases high with
    | none =>
      have := hhn rfl
      subst this
      cases low with
      | none =>
        have := hln rfl
        subst this
        exact ⟨0, len, cap, h, Nat.zero_le _, hlc, rfl, fun w => by simp [Instr.sliceBounds]⟩
      | some vl =>
        obtain ⟨u, rfl, hu⟩ := hl vl rfl
        cases ha : asI vl with
        | none => simp [ha] at h
        | some q =>
          obtain ⟨kl, il⟩ := q
          simp only [ha] at h
          obtain ⟨h0, h1, h⟩ := h
          have := asI_rel hu ha
          subst this
          exact ⟨il.toNat, len, cap, h, by omega, hlc, rfl, fun w => by simp [Instr.sliceBounds, run_bound kl il len _ h0 h1]⟩
    | some vh =>
      obtain ⟨uh, rfl, huh⟩ := hh vh rfl
      cases hah : asI vh with
      | none => simp [hah] at h
      | some q =>
        obtain ⟨kh, ih⟩ := q
        simp only [hah] at h
        obtain ⟨g0, g1, h⟩ := h
        have := asI_rel huh hah
        subst this
        cases low with
        | none =>
          have := hln rfl
          subst this
          exact ⟨0, ih.toNat, cap, h, Nat.zero_le _, by omega, rfl, fun w => by simp [Instr.sliceBounds, run_bound kh ih cap _ g0 g1]⟩
        | some vl =>
          obtain ⟨u, rfl, hu⟩ := hl vl rfl
          cases ha : asI vl with
          | none => simp [ha] at h
          | some q =>
            obtain ⟨kl, il⟩ := q
            simp only [ha] at h
            obtain ⟨h0, h1, h⟩ := h
            have := asI_rel hu ha
            subst this
            exact ⟨il.toNat, ih.toNat, cap, h, by omega, by omega, rfl, fun w => by
              simp [Instr.sliceBounds, run_bound kh ih cap _ g0 g1, run_bound kl il ih.toNat _ h0 (by omega)]⟩

theorem vSlice_sound (hE : EnvOK P E) {N : Nat} {x : V} {v : Value} (hx : rel ρ x v) (hk : okV N x) {low high max : Option V} {lo hi mx : Option Value}
    (hl : ∀ v, low = some v → ∃ u, lo = some u ∧ rel ρ v u) (hln : low = none → lo = none) (hh : ∀ v, high = some v → ∃ u, hi = some u ∧ rel ρ v u) (hhn : high = none → hi = none) (hmn : max = none → mx = none)
    {k : V → Prop} (h : vSlice E t x low high max k) :
    ∃ u y, k u ∧ rel ρ u y ∧ okV N u ∧ ∀ w', (Instr.sliceAt t v lo hi mx).run P w' = .ok y w' := by
  unfold vSlice at h
  cases hE0 : E t with
  | none => simp [hE0] at h
  | some dd =>
    simp only [hE0] at h
    cases hdu : dd.und <;> simp only [hdu] at h
    case array n e =>
      cases hEe : E e with
      | none => simp [hEe] at h
      | some de =>
        cases x <;> simp only [hEe] at h
        case p g o =>
          unfold rel at hx; subst hx
          obtain ⟨l, u, m, h1, h2, h3, h4, h5⟩ := vBounds_sound (P := P) (Nat.le_refl n) hl hln hh hhn hmn h false
          refine ⟨_, .slice (some (if m = l then ⟨(ρ g).1, (ρ g).2 + o, none⟩ else ⟨(ρ g).1, (ρ g).2 + o + l * de.size, none⟩)) (u - l) (m - l), h1, ?_, ?_, fun w' => ?_⟩
          · unfold rel
            refine ⟨by omega, _, rfl, fun hc => ?_⟩
            rw [if_neg (by omega), Nat.add_assoc]
          · unfold okV at hk ⊢; exact fun _ => hk
          · simp [Instr.sliceAt, hE.run_und hE0, hdu, Instr.sureAddr, h5 w', hE.run_size hEe, addr_add]
        all_goals exact h.elim
    case slice e =>
      cases hEe : E e with
      | none => simp [hEe] at h
      | some de =>
        cases hs : asS x with
        | none => simp [hEe, hs] at h
        | some q =>
          obtain ⟨g, o, n, c⟩ := q
          simp only [hEe, hs] at h
          obtain ⟨hnc, a, rfl, ha⟩ := asS_rel hx hs
          have hok := asS_ok hk hs
          obtain ⟨l, u, m, h1, h2, h3, h4, h5⟩ := vBounds_sound (P := P) hnc hl hln hh hhn hmn h true
          refine ⟨_, .slice (if m = l then a else a.map (·.add (l * de.size))) (u - l) (m - l), h1, ?_, ?_, fun w' => ?_⟩
          · unfold rel
            refine ⟨by omega, _, rfl, fun hc => ?_⟩
            rw [if_neg (by omega), ha (by omega)]
            simp [addr_add, Nat.add_assoc]
          · unfold okV; exact fun hc => hok (by omega)
          · simp [Instr.sliceAt, Instr.slice, hE.run_und hE0, hdu, h5 w', hE.run_size hEe]
    case string =>
      split at h
      · rename_i s
        unfold rel at hx; subst hx
        obtain ⟨l, u, m, h1, h2, h3, h4, h5⟩ := vBounds_sound (P := P) (Nat.le_refl s.size) hl hln hh hhn hmn h false
        refine ⟨_, _, h1, rfl, trivial, fun w' => ?_⟩
        have hmx : mx = none := by
          refine hmn ?_
          cases max with
          | none => rfl
          | some v => simp [vBounds] at h
        subst hmx
        simp [Instr.sliceAt, Instr.slice, hE.run_und hE0, hdu, h5 w']
      · exact h.elim
    all_goals exact h.elim

/-! ### Building -/
theorem cellsOf_rel {x : V} {v : Value} (hx : rel ρ x v) {vs : List V} (h : cellsOf x = some vs) : relL ρ vs v.cells.toList ∧ ∀ c ∈ v.cells.toList, c.oneCell' = true := by
  have one : ∀ {u : V} {y : Value}, rel ρ u y → relL ρ [u] [y] := fun hu => by unfold relL; exact ⟨_, _, rfl, hu, by unfold relL; rfl⟩
  unfold cellsOf at h
  split at h
  · cases h
    unfold rel at hx
    obtain ⟨l, rfl, hl, h1⟩ := hx
    exact ⟨by simpa [Value.cells] using hl, by simpa [Value.cells] using h1⟩
  · cases h
  · cases h
  · cases h
  · cases h
  · rename_i h1 h2 h3 h4 h5
    cases h
    cases x with
    | c y =>
      unfold rel at hx; subst hx
      cases v with
      | agg q => exact absurd rfl (h4 q)
      | tuple q => exact absurd rfl (h5 q)
      | _ => exact ⟨one rfl, by simp [Value.cells, Value.oneCell']⟩
    | p g o => unfold rel at hx; subst hx; exact ⟨one rfl, by simp [Value.cells, Value.oneCell']⟩
    | s g o n c =>
      have hx' := hx
      unfold rel at hx
      obtain ⟨_, a, rfl, _⟩ := hx
      exact ⟨one hx', by simp [Value.cells, Value.oneCell']⟩
    | a cs => exact absurd rfl (h1 cs)
    | t cs => exact absurd rfl (h2 cs)
    | j => exact absurd rfl h3

theorem cellsOf_ok {N : Nat} {x : V} (hx : okV N x) {vs : List V} (h : cellsOf x = some vs) : okL N vs := by
  unfold cellsOf at h
  split at h
  · cases h; unfold okV at hx; exact hx
  · cases h
  · cases h
  · cases h
  · cases h
  · cases h; unfold okL; exact ⟨hx, trivial⟩

/-- Cells of plain values, with others from place 'off' on. -/
def spliceC (cells : List Value) (off : Nat) (vs : List Value) : List Value := cells.take off ++ vs ++ cells.drop (off + vs.length)

theorem foldl_set (off : Nat) : ∀ (vs : List Value) (i : Nat) (cs : List Value), off + i + vs.length ≤ cs.length →
    ((vs.zipIdx i).foldl (fun cs q => cs.setIfInBounds (off + q.2) q.1) cs.toArray) = (cs.take (off + i) ++ vs ++ cs.drop (off + i + vs.length)).toArray
  | [], i, cs, h => by simp
  | v :: vs, i, cs, h => by
    simp only [List.zipIdx_cons, List.foldl_cons, List.setIfInBounds_toArray]
    rw [foldl_set off vs (i + 1) (cs.set (off + i) v) (by simp at h ⊢; omega)]
    congr 1
    simp only [List.length_cons] at h ⊢
    apply List.ext_getElem?
    intro j
    simp only [List.getElem?_append, List.length_append, List.length_take, List.length_set, List.getElem?_take, List.getElem?_drop, List.getElem?_set, List.length_cons, List.getElem?_cons]
    rcases Nat.lt_trichotomy j (off + i) with hj | hj | hj
    · simp [show min (off + (i + 1)) cs.length = off + i + 1 by omega, show min (off + i) cs.length = off + i by omega, show j < off + i + 1 + vs.length by omega, show j < off + i + 1 by omega, show j < off + (i + 1) by omega, show off + i ≠ j by omega, hj, show j < off + i + (vs.length + 1) by omega]
    · subst hj
      simp [show min (off + (i + 1)) cs.length = off + i + 1 by omega, show min (off + i) cs.length = off + i by omega, show off + i < off + i + 1 + vs.length by omega, show off + i < off + (i + 1) by omega, show off + i < cs.length by omega, show off + i < off + i + (vs.length + 1) by omega]
    · rcases Nat.lt_or_ge j (off + i + 1 + vs.length) with hj2 | hj2
      · simp [show min (off + (i + 1)) cs.length = off + i + 1 by omega, show min (off + i) cs.length = off + i by omega, hj2, show ¬ j < off + i + 1 by omega, show ¬ j < off + i by omega, show j < off + i + (vs.length + 1) by omega, show ¬ j - (off + i) = 0 by omega, show j - (off + i) - 1 = j - (off + i + 1) by omega]
      · simp [show min (off + (i + 1)) cs.length = off + i + 1 by omega, show min (off + i) cs.length = off + i by omega, show ¬ j < off + i + 1 + vs.length by omega, show ¬ j < off + i + (vs.length + 1) by omega, show off + (i + 1) + vs.length + (j - (off + i + 1 + vs.length)) = off + i + (vs.length + 1) + (j - (off + i + (vs.length + 1))) by omega, show off + i ≠ off + i + (vs.length + 1) + (j - (off + i + (vs.length + 1))) by omega]

theorem relL_splice {cs vs : List V} {ls xs : List Value} (h : relL ρ cs ls) (h' : relL ρ vs xs) (off : Nat) : relL ρ (splice cs off vs) (spliceC ls off xs) := by
  unfold splice spliceC
  rw [relL_length h']
  exact relL_append (relL_append (relL_take h _) h') (relL_drop h _)
theorem okL_splice {N : Nat} {cs vs : List V} (h : okL N cs) (h' : okL N vs) (off : Nat) : okL N (splice cs off vs) := okL_append (okL_append (okL_take h _) h') (okL_drop h _)
theorem one_splice {ls xs : List Value} (h : ∀ c ∈ ls, c.oneCell' = true) (h' : ∀ c ∈ xs, c.oneCell' = true) (off : Nat) : ∀ c ∈ spliceC ls off xs, c.oneCell' = true := by
  intro c hc
  unfold spliceC at hc
  rcases List.mem_append.1 hc with hc | hc
  · rcases List.mem_append.1 hc with hc | hc
    · exact h c (List.mem_of_mem_take hc)
    · exact h' c hc
  · exact h c (List.mem_of_mem_drop hc)

theorem fill_sound {N : Nat} {place : Nat → Option (Nat × Nat)} : ∀ (ps : List (Nat × V)) (qs : List (Nat × Value)) (cs : List V) (ls : List Value), relL ρ cs ls → okL N cs → (∀ c ∈ ls, c.oneCell' = true) →
    ps.map (·.1) = qs.map (·.1) → relL ρ (ps.map (·.2)) (qs.map (·.2)) → okL N (ps.map (·.2)) → ∀ out, fillV place cs ps = some out →
    ∃ lo : List Value, Instr.fill place ls.toArray qs = some lo.toArray ∧ relL ρ out lo ∧ okL N out ∧ (∀ c ∈ lo, c.oneCell' = true) ∧ lo.length = ls.length
  | [], [], cs, ls, h1, h2, h3, _, _, _, out, ho => by
    simp only [fillV, Option.some.injEq] at ho
    subst ho
    exact ⟨ls, by simp [Instr.fill], h1, h2, h3, rfl⟩
  | [], q :: qs, _, _, _, _, _, h, _, _, _, _ => by simp at h
  | p :: ps, [], _, _, _, _, _, h, _, _, _, _ => by simp at h
  | (i, v) :: ps, (i', x) :: qs, cs, ls, h1, h2, h3, hi, hr, hk, out, ho => by
    simp only [List.map_cons, List.cons.injEq] at hi
    obtain ⟨rfl, hi⟩ := hi
    simp only [List.map_cons] at hr hk
    unfold relL at hr
    unfold okL at hk
    obtain ⟨y, ys, he, hv, hr⟩ := hr
    simp only [List.cons.injEq] at he
    obtain ⟨rfl, rfl⟩ := he
    simp only [fillV] at ho
    cases hp : place i with
    | none => simp [hp] at ho
    | some q =>
      obtain ⟨off, size⟩ := q
      cases hc : cellsOf v with
      | none => simp [hp, hc] at ho
      | some vs =>
        simp only [hp, hc] at ho
        split at ho
        · rename_i hcond
          obtain ⟨hs, hlen⟩ := hcond
          obtain ⟨hvr, hv1⟩ := cellsOf_rel hv hc
          have hvl := relL_length hvr
          have hll := relL_length h1
          obtain ⟨lo, g1, g2, g3, g4, g5⟩ := fill_sound ps qs _ _ (relL_splice h1 hvr off) (okL_splice h2 (cellsOf_ok hk.1 hc) off) (one_splice h3 hv1 off) hi hr hk.2 out ho
          refine ⟨lo, ?_, g2, g3, g4, ?_⟩
          · simp only [Instr.fill, hp]
            have hsz : x.cells.size = size := by rw [← hs, ← hvl]; simp
            rw [if_neg (by simp [hsz]; omega)]
            have hf := foldl_set off x.cells.toList 0 ls (by simp [hsz]; omega)
            simp only [Nat.add_zero] at hf
            have hz : x.cells.zipIdx.foldl (fun cs q => cs.setIfInBounds (off + q.2) q.1) ls.toArray = (spliceC ls off x.cells.toList).toArray := by
              rw [← Array.foldl_toList, Array.toList_zipIdx]
              exact hf
            rw [hz]
            exact g1
          · rw [g5]
            unfold spliceC
            simp [hvl]
            have : x.cells.size = vs.length := by rw [← hvl]; simp
            omega
        · cases ho

theorem run_mapM_place (hE : EnvOK P E) (w : World) : ∀ (fs : List Field) (places : List (Nat × Nat)), fs.mapM (fun f => (E f.type).map fun df => (f.offset, df.size)) = some places →
    (fs.mapM fun f => Prod.mk f.offset <$> sizeOf f.type).run P w = .ok places w
  | [], places, h => by simp at h; subst h; simp
  | f :: fs, places, h => by
    simp only [List.mapM_cons, Option.bind_eq_bind, Option.pure_def] at h
    cases hi : E f.type with
    | none => simp [hi] at h
    | some i =>
      cases hr : fs.mapM (fun f => (E f.type).map fun df => (f.offset, df.size)) with
      | none => simp [hi, hr] at h
      | some rest =>
        simp [hi, hr] at h
        subst h
        simp [List.mapM_cons, hE.run_size hi, run_mapM_place hE w fs rest hr]

theorem mapM_get : ∀ (fs : List Field) (places : List (Nat × Nat)), fs.mapM (fun f => (E f.type).map fun df => (f.offset, df.size)) = some places →
    ∀ i : Nat, places[i]? = (fs[i]?).bind fun f : Field => (E f.type).map fun df => (f.offset, df.size)
  | [], places, h, i => by simp at h; subst h; simp
  | f :: fs, places, h, i => by
    simp only [List.mapM_cons, Option.bind_eq_bind, Option.pure_def] at h
    cases hi : E f.type with
    | none => simp [hi] at h
    | some d =>
      cases hr : fs.mapM (fun f => (E f.type).map fun df => (f.offset, df.size)) with
      | none => simp [hi, hr] at h
      | some rest =>
        simp [hi, hr] at h
        subst h
        cases i with
        | zero => simp [hi]
        | succ i => simpa using mapM_get fs rest hr i

theorem fill_congr {place place' : Nat → Option (Nat × Nat)} (h : ∀ i, place i = place' i) : ∀ (qs : List (Nat × Value)) (cs : Array Value), Instr.fill place cs qs = Instr.fill place' cs qs := by
  have : place = place' := funext h
  subst this
  intros; rfl

theorem relL_of_zero {z : Value} {zs : List V} (h : z.cells.toList.map V.c = zs) : relL ρ zs z.cells.toList := h ▸ relL_of_c _
theorem okL_of_zero {N : Nat} {z : Value} {zs : List V} (h : z.cells.toList.map V.c = zs) : okL N zs := h ▸ okL_of_c _

theorem vBuild_sound (hE : EnvOK P E) {N : Nat} {ps : List (Nat × V)} {qs : List (Nat × Value)} (hi : ps.map (·.1) = qs.map (·.1)) (hr : relL ρ (ps.map (·.2)) (qs.map (·.2))) (hk : okL N (ps.map (·.2)))
    {k : V → Prop} (h : vBuild E t ps k) : ∃ u y, k u ∧ rel ρ u y ∧ okV N u ∧ ∀ w', (Instr.build t qs.toArray).run P w' = .ok y w' := by
  unfold vBuild at h
  cases hE0 : E t with
  | none => simp [hE0] at h
  | some dd =>
    simp only [hE0] at h
    obtain ⟨z, hz, z1, z2, z3, z4⟩ := hE.zero hE0
    cases hdu : dd.und <;> simp only [hdu] at h
    case struct fs =>
      cases hf : fillV (fun i => (fs[i]?).bind fun f => (E f.type).map fun df => (f.offset, df.size)) dd.zero ps with
      | none => simp [hf] at h
      | some cs =>
        simp only [hf] at h
        obtain ⟨hall, h⟩ := h
        obtain ⟨lo, g1, g2, g3, g4, _⟩ := fill_sound ps qs _ _ (relL_of_zero z1) (okL_of_zero z1) z2 hi hr hk cs hf
        obtain ⟨places, hp⟩ : ∃ places, fs.toList.mapM (fun f => (E f.type).map fun df => (f.offset, df.size)) = some places := by
          have : ∀ (l : List Field), (∀ f ∈ l, (E f.type).isSome = true) → ∃ places, l.mapM (fun f => (E f.type).map fun df => (f.offset, df.size)) = some places := by
            intro l
            induction l with
            | nil => intro _; exact ⟨[], by simp⟩
            | cons f l ih =>
              intro hl
              obtain ⟨d, hd⟩ := Option.isSome_iff_exists.1 (hl f (by simp))
              obtain ⟨pl, hpl⟩ := ih (fun g hg => hl g (by simp [hg]))
              exact ⟨(f.offset, d.size) :: pl, by simp [List.mapM_cons, hd, hpl]⟩
          exact this _ hall
        refine ⟨_, .agg lo.toArray, h, ?_, ?_, fun w' => ?_⟩
        · unfold rel; exact ⟨lo, rfl, g2, g4⟩
        · unfold okV; exact g3
        · have hpl := mapM_get (E := E) fs.toList places hp
          have hrun := run_mapM_place hE w' fs.toList places hp
          have hfill : Instr.fill (fun i => places.toArray[i]?) z.cells qs = some lo.toArray := by
            rw [fill_congr (place' := fun i => (fs[i]?).bind fun f => (E f.type).map fun df => (f.offset, df.size)) (fun i => by simpa using hpl i)]
            simpa using g1
          have hm : (fs.mapM fun f => Prod.mk f.offset <$> sizeOf f.type).run P w' = .ok places.toArray w' := by
            rw [← Array.toArray_toList (xs := fs), List.mapM_toArray]
            simp [hrun]
          have hfill' : Instr.fill (fun i => places[i]?) z.cells qs = some lo.toArray := by simpa using hfill
          simp [Instr.build, hE.run_und hE0, hdu, hz w', hm, hfill']
    case array n e =>
      cases hEe : E e with
      | none => simp [hEe] at h
      | some de =>
        simp only [hEe] at h
        cases hf : fillV (fun i => some (i * de.size, de.size)) dd.zero ps with
        | none => simp [hf] at h
        | some cs =>
          simp only [hf] at h
          obtain ⟨lo, g1, g2, g3, g4, _⟩ := fill_sound ps qs _ _ (relL_of_zero z1) (okL_of_zero z1) z2 hi hr hk cs hf
          refine ⟨_, .agg lo.toArray, h, ?_, ?_, fun w' => ?_⟩
          · unfold rel; exact ⟨lo, rfl, g2, g4⟩
          · unfold okV; exact g3
          · have g1' : Instr.fill (fun i => some (i * de.size, de.size)) z.cells qs = some lo.toArray := by simpa using g1
            simp [Instr.build, hE.run_und hE0, hdu, hz w', hE.run_size hEe, g1']
    all_goals exact h.elim
end
end Go.Vc

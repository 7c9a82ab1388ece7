import Derived.Test.YtahnjhppkgndiaaGreatVcgA
import Derived.Deep.LoopGhost
/- Operations that make or write memory: each is sound. -/
set_option linter.unusedSimpArgs false
set_option linter.unusedVariables false
namespace Go.Vc
open Go
section
variable {P : Program} {E : Env} {t : TypeId} {d : TD} {M : Nat → Prop} {w0 w : World} {ρ ρ' : Loc} {hp : List Blk}

/-- What a step leaves: the state grows, old handles stand where they stood. -/
structure Step (M : Nat → Prop) (w0 : World) (ρ : Loc) (hp : List Blk) (w : World) (v : V) (hp' : List Blk) (ρ' : Loc) (w' : World) (y : Value) : Prop where
  hd : Hd M w0 ρ' hp' w'
  same : ∀ h, h < hp.length → ρ' h = ρ h
  len : hp.length ≤ hp'.length
  val : rel ρ' v y
  ok : okV hp'.length v
  src : ∀ h b, hp'[h]? = some b → b.cells ≠ [] → w.heap.size ≤ (ρ' h).1 ∨ ∃ g c, hp[g]? = some c ∧ c.cells ≠ [] ∧ (ρ' h).1 = (ρ g).1

theorem src_push {ρ : Loc} {hp : List Blk} {x : Blk} {n : Nat} {q : Nat} : ∀ h b, (hp ++ [x])[h]? = some b → b.cells ≠ [] → n ≤ ((ρ.upd hp.length (n, q)) h).1 ∨ ∃ g c, hp[g]? = some c ∧ c.cells ≠ [] ∧ ((ρ.upd hp.length (n, q)) h).1 = (ρ g).1 := by
  intro h b hb hne
  rcases getElem?_snoc hb with hb | ⟨rfl, rfl⟩
  · exact .inr ⟨h, b, hb, hne, by rw [Loc.upd_lt ρ _ h (List.getElem?_eq_some_iff.1 hb).1]⟩
  · exact .inl (by rw [Loc.upd_same]; exact Nat.le_refl _)
theorem src_same {ρ : Loc} {hp : List Blk} {n : Nat} : ∀ h b, hp[h]? = some b → b.cells ≠ [] → n ≤ (ρ h).1 ∨ ∃ g c, hp[g]? = some c ∧ c.cells ≠ [] ∧ (ρ h).1 = (ρ g).1 :=
  fun h b hb hne => .inr ⟨h, b, hb, hne, rfl⟩
/-- One block is written: it lies where it lay. -/
theorem src_set {ρ : Loc} {hp : List Blk} {n g : Nat} {x b0 : Blk} (hg : hp[g]? = some b0) (h0 : x.cells ≠ [] → b0.cells ≠ []) : ∀ h b, (hp.set g x)[h]? = some b → b.cells ≠ [] → n ≤ (ρ h).1 ∨ ∃ g c, hp[g]? = some c ∧ c.cells ≠ [] ∧ (ρ h).1 = (ρ g).1 := by
  intro h b hb hne
  rcases getElem?_set_cases hb with ⟨rfl, rfl, _⟩ | ⟨_, hb⟩
  · exact .inr ⟨h, b0, hg, h0 hne, rfl⟩
  · exact .inr ⟨h, b, hb, hne, rfl⟩
theorem Step.push (hd : Hd M w0 ρ hp w) {cs : List V} {xs : List Value} (hr : relL ρ cs xs) (hok : okL hp.length cs) (h1 : ∀ x ∈ xs, x.oneCell' = true) (T : TypeId) :
    Step M w0 ρ hp w (.p hp.length 0) (hp ++ [⟨true, cs⟩]) (ρ.upd hp.length (w.heap.size, 0)) (w.alloc (.cells xs.toArray T)) (.pointer (some ⟨w.heap.size, 0, none⟩)) :=
  ⟨hd.push hr hok h1 T true, Loc.upd_lt ρ _, by simp, by unfold rel; rw [Loc.upd_same], by simp [okV], src_push⟩
theorem Step.pushS (hd : Hd M w0 ρ hp w) {cs : List V} {xs : List Value} (hr : relL ρ cs xs) (hok : okL hp.length cs) (h1 : ∀ x ∈ xs, x.oneCell' = true) (T : TypeId) {n c : Nat} (hn : n ≤ c) :
    Step M w0 ρ hp w (.s hp.length 0 n c) (hp ++ [⟨true, cs⟩]) (ρ.upd hp.length (w.heap.size, 0)) (w.alloc (.cells xs.toArray T)) (.slice (some ⟨w.heap.size, 0, none⟩) n c) :=
  ⟨hd.push hr hok h1 T true, Loc.upd_lt ρ _, by simp, by unfold rel; rw [Loc.upd_same]; exact ⟨hn, _, rfl, fun _ => rfl⟩, by simp [okV], src_push⟩

theorem alloc_run (hE : EnvOK P E) {d : TD} (h : E t = some d) (hd : Hd M w0 ρ hp w) :
    ∃ w' ρ' y, (Instr.alloc t true (.tuple #[])).run P w = .ok y w' ∧ Step M w0 ρ hp w (.p hp.length 0) (hp ++ [⟨true, d.zero⟩]) ρ' w' y ∧ Keep none' w w' := by
  obtain ⟨z, hz, z1, z2, z3, z4⟩ := hE.zero h
  refine ⟨_, _, _, ?_, Step.push hd (relL_of_zero z1) (okL_of_zero z1) z2 t, Keep.alloc _ _ _⟩
  simp [Instr.alloc, hz w, newVar, newRow]

theorem box_run {x : V} {v : Value} (hx : rel ρ x v) (hk : okV hp.length x) {cs : List V} (h : cellsOf x = some cs) (hd : Hd M w0 ρ hp w) :
    ∃ w' ρ' y, (Instr.box t v).run P w = .ok y w' ∧ Step M w0 ρ hp w (.p hp.length 0) (hp ++ [⟨true, cs⟩]) ρ' w' y ∧ Keep none' w w' := by
  obtain ⟨h1, h2⟩ := cellsOf_rel hx h
  refine ⟨_, _, _, ?_, Step.push hd h1 (cellsOf_ok hk h) h2 t, Keep.alloc _ _ _⟩
  simp [Instr.box, newVar, newRow]

theorem zeros_rel {z : Value} {zs : List V} (h : z.cells.toList.map V.c = zs) (n : Nat) : relL ρ (List.replicate n zs).flatten ((List.replicate n z.cells.toList).flatten) := by
  rw [flatten_replicate_map n _ zs h]; exact relL_of_c _
theorem zeros_ok {N : Nat} {z : Value} {zs : List V} (h : z.cells.toList.map V.c = zs) (n : Nat) : okL N (List.replicate n zs).flatten := by
  rw [flatten_replicate_map n _ zs h]; exact okL_of_c _

theorem range0_map (f : Nat → Value) : (Array.range 0).map f = #[] := by apply Array.ext'; simp

theorem buildSlice_run (hE : EnvOK P E) (hd : Hd M w0 ρ hp w) {len : Nat} {ps : List (Nat × V)} {qs : List (Nat × Value)} (hi : ps.map (·.1) = qs.map (·.1)) (hr : relL ρ (ps.map (·.2)) (qs.map (·.2))) (hk : okL hp.length (ps.map (·.2)))
    {k : V → List Blk → Prop} (h : vBuildSlice E t len ps hp k) :
    ∃ v hp' w' ρ' y, k v hp' ∧ (Instr.buildSlice t len qs.toArray).run P w = .ok y w' ∧ Step M w0 ρ hp w v hp' ρ' w' y ∧ Keep none' w w' := by
  unfold vBuildSlice at h
  cases hE0 : E t with
  | none => simp [hE0] at h
  | some dd =>
    simp only [hE0] at h
    cases hdu : dd.und <;> simp only [hdu] at h
    case slice e =>
      cases hEe : E e with
      | none => simp [hEe] at h
      | some de =>
        simp only [hEe] at h
        obtain ⟨hl, h⟩ := h
        obtain ⟨z, hz, z1, z2, z3, z4⟩ := hE.zero hEe
        cases hf : fillV (fun i => some (i * de.size, de.size)) (List.replicate len de.zero).flatten ps with
        | none => simp [hf] at h
        | some cs =>
          simp only [hf] at h
          obtain ⟨lo, g1, g2, g3, g4, g5⟩ := fill_sound ps qs _ _ (zeros_rel (ρ := ρ) z1 len) (zeros_ok z1 len) (one_flatten len _ z2) hi hr hk cs hf
          refine ⟨_, _, _, _, _, h, ?_, Step.pushS hd g2 g3 g4 e (Nat.le_refl len), Keep.alloc _ _ _⟩
          have hlen : ((List.replicate len z.cells.toList).flatten).length = len * de.size := by simp [List.length_flatten, z4]
          simp only [Instr.buildSlice, Sem.run_bind, hE.run_und hE0, hdu, Result.andThen_ok, hE.run_size hEe]
          rw [if_neg (by omega)]
          by_cases h0 : len * de.size = 0
          · have hnil : (List.replicate len z.cells.toList).flatten = [] := List.eq_nil_of_length_eq_zero (by omega)
            rw [hnil] at g1
            rw [if_pos h0]
            simp only [Sem.run_bind, Sem.run_pure, Result.andThen_ok, h0, range0_map, g1, newRow, run_newObj]
            rfl
          · rw [if_neg h0]
            have hrow := zero_row z.cells len
            rw [z4] at hrow
            simp only [Sem.run_bind, Sem.run_pure, Result.andThen_ok, hz w, z4, hrow, g1, newRow, run_newObj]
            rfl
    all_goals exact h.elim

theorem makeSlice_run (hE : EnvOK P E) (hd : Hd M w0 ρ hp w) {l c : V} {lv cv : Value} (hl : rel ρ l lv) (hc : rel ρ c cv) {k : V → List Blk → Prop} (h : vMakeSlice E t l c hp k) :
    ∃ v hp' w' ρ' y, k v hp' ∧ (Instr.makeSlice t lv cv).run P w = .ok y w' ∧ Step M w0 ρ hp w v hp' ρ' w' y ∧ Keep none' w w' := by
  unfold vMakeSlice at h
  cases hE0 : E t with
  | none => simp [hE0] at h
  | some dd =>
    simp only [hE0] at h
    cases hdu : dd.und <;> simp only [hdu] at h
    case slice e =>
      cases hal : asI l with
      | none => simp [hal] at h
      | some p =>
        cases hac : asI c with
        | none => simp [hal, hac] at h
        | some q =>
          obtain ⟨kl, n⟩ := p
          obtain ⟨kc, m⟩ := q
          simp only [hal, hac] at h
          have := asI_rel hl hal
          subst this
          have := asI_rel hc hac
          subst this
          cases hEe : E e with
          | none => simp [hEe] at h
          | some de =>
            simp only [hEe] at h
            obtain ⟨h0, h1, h2, h3, h⟩ := h
            obtain ⟨i, z, hi, his, hib, hiz, z1, z2, z3⟩ := hE.info hEe
            have z4 : z.cells.size = de.size := by rw [← z3, ← z1]; simp
            refine ⟨_, _, _, _, _, h, ?_, Step.pushS hd (zeros_rel (ρ := ρ) z1 m.toNat) (zeros_ok z1 m.toNat) (one_flatten m.toNat _ z2) e (by omega), Keep.alloc _ _ _⟩
            have wn : IntKind.i64.wrap n = n := IntWalk.i64_in _ (by omega)
            have wm : IntKind.i64.wrap m = m := IntWalk.i64_in _ (by omega)
            have hti : ∀ w, (typeInfo e).run P w = .ok i w := fun w => by simp [typeInfo, hi]
            have hzv : ∀ w, (zeroValue e).run P w = .ok z w := fun w => by simp [zeroValue, typeInfo, hi, hiz]
            have hlen : ((List.replicate m.toNat z.cells.toList).flatten).length = m.toNat * de.size := by simp [List.length_flatten, z4]
            have hfit : ¬ ((de.bytes : Int) * m > 281474976710656) := by omega
            simp only [Instr.makeSlice, Sem.run_bind, hE.run_und hE0, hdu, Result.andThen_ok, asInt, asIntOf, Sem.run_pure, hti w, wn, wm, hib]
            rw [if_neg (by simp; omega)]
            simp only [Sem.run_bind, run_askRoom, Result.andThen_ok, hE.run_size hEe]
            by_cases h0 : m.toNat * de.size = 0
            · have hnil : (List.replicate m.toNat z.cells.toList).flatten = [] := List.eq_nil_of_length_eq_zero (by omega)
              rw [if_pos h0, hnil]
              simp only [Sem.run_bind, Sem.run_pure, Result.andThen_ok, h0, range0_map, newRow, run_newObj]
              rfl
            · rw [if_neg h0]
              have hrow := zero_row z.cells m.toNat
              rw [z4] at hrow
              simp only [Sem.run_bind, Sem.run_pure, Result.andThen_ok, hzv w, z4, hrow, newRow, run_newObj]
              rfl
    all_goals exact h.elim

theorem store_run (hE : EnvOK P E) (hd : Hd M w0 ρ hp w) {x y : V} {xv yv : Value} (hx : rel ρ x xv) (hy : rel ρ y yv) (hky : okV hp.length y) {k : V → List Blk → Prop} (h : vStore E t x y hp k) :
    ∃ hp' w', k (.c undef) hp' ∧ (Instr.storeAt t xv yv).run P w = .ok () w' ∧ Step M w0 ρ hp w (.c undef) hp' ρ w' undef := by
  unfold vStore vPut at h
  cases hE0 : E t with
  | none => simp [hE0] at h
  | some dd =>
    cases x <;> simp only [hE0] at h
    case p g o =>
      cases hc : cellsOf y with
      | none => simp [hc] at h
      | some vs =>
        simp only [hc] at h
        cases hb : hp[g]? with
        | none => simp [hb] at h
        | some b =>
          simp only [hb] at h
          obtain ⟨ho, hl, hlen, h⟩ := h
          unfold rel at hx; subst hx
          obtain ⟨h1, h2⟩ := cellsOf_rel hy hc
          have hvl := relL_length h1
          obtain ⟨q1, q2⟩ := hd.write (P := P) (o := o) (vs := vs) hb ho h1 (cellsOf_ok hky hc) h2 (by omega)
          refine ⟨_, _, h, ?_, ⟨q2, fun _ _ => rfl, by simp, rfl, trivial, src_set hb fun hne e => hne (List.eq_nil_of_length_eq_zero (by rw [splice_length (by omega), e]; rfl))⟩⟩
          have hsz : yv.cells.size = dd.size := by rw [← hl, ← hvl]; simp
          simp [Instr.storeAt, Instr.sureAddr, storeVar, hE.run_size hE0, hsz, q1]
    all_goals exact h.elim
end
end Go.Vc
/- append, and calls. -/
set_option linter.unusedSimpArgs false
set_option linter.unusedVariables false
namespace Go.Vc
open Go
section
variable {P : Program} {E : Env} {t : TypeId} {d : TD} {M : Nat → Prop} {w0 w : World} {ρ ρ' : Loc} {hp : List Blk}

theorem cellsAt_some {g : Nat} {b : Blk} (h : hp[g]? = some b) : cellsAt hp g = b.cells := by simp [cellsAt, h]
theorem cellsAt_ok (hd : Hd M w0 ρ hp w) (g : Nat) : okL hp.length (cellsAt hp g) := by
  unfold cellsAt
  cases h : hp[g]? with
  | none => simp [okL]
  | some b => exact hd.ok b (List.mem_of_getElem? h)

theorem firstCells_run (hd : Hd M w0 ρ hp w) {x : V} {v : Value} (hx : rel ρ x v) {g o n c sz : Nat} (hs : asS x = some (g, o, n, c)) (hlen : n = 0 ∨ o + n * sz ≤ (cellsAt hp g).length) (hsz : 0 < sz) :
    ∃ xs : List Value, relL ρ (((cellsAt hp g).drop o).take (n * sz)) xs ∧ (∀ y ∈ xs, y.oneCell' = true) ∧ xs.length = n * sz ∧
      ∀ w', Keep none' w w' → (Builtin.firstCells sz n v).run P w' = .ok xs.toArray w' := by
  obtain ⟨hnc, a, rfl, ha⟩ := asS_rel hx hs
  rcases Nat.eq_zero_or_pos n with h0 | h0
  · subst h0
    refine ⟨[], by simp [relL], by simp, by simp, fun w' _ => ?_⟩
    cases a with
    | none => simp [Builtin.firstCells]
    | some a =>
      have := run_loadCells_list (P := P) w' a [] (by simp)
      simpa [Builtin.firstCells] using this
  · have hl : o + n * sz ≤ (cellsAt hp g).length := by rcases hlen with h | h; omega; exact h
    have hpos : 0 < n * sz := Nat.mul_pos h0 hsz
    cases hb : hp[g]? with
    | none => simp [cellsAt, hb] at hl; omega
    | some b =>
      rw [cellsAt_some hb] at hl ⊢
      obtain ⟨xs, h1, h2, h3, _, h5⟩ := hd.loadCells (P := P) hb o (n * sz) hl
      have ha' := ha (by omega)
      subst ha'
      exact ⟨xs, h1, h2, h3, fun w' hk => by simp [Builtin.firstCells, h5 w' hk]⟩

theorem Hd.addNil (h : Hd M w0 ρ hp w) (own : Bool) : Hd M w0 ρ (hp ++ [⟨own, []⟩]) w := by
  refine ⟨h.keep, ?_, ?_, ?_, ?_⟩
  · intro b hb
    rcases List.mem_append.1 hb with hb | hb
    · exact okL_mono (by simp) (h.ok b hb)
    · simp at hb; subst hb; simp [okL]
  · intro g b hg j v hv
    rcases getElem?_snoc hg with hg | ⟨rfl, rfl⟩
    · exact h.cell g b hg j v hv
    · simp at hv
  · intro g b hg ho hne
    rcases getElem?_snoc hg with hg | ⟨rfl, rfl⟩
    · exact h.own g b hg ho hne
    · exact absurd rfl hne
  · intro g b g' b' hg hg' hgg ho hne hne'
    rcases getElem?_snoc hg with hg | ⟨rfl, rfl⟩
    · rcases getElem?_snoc hg' with hg' | ⟨rfl, rfl⟩
      · exact h.sep g b g' b' hg hg' hgg ho hne hne'
      · exact absurd rfl hne'
    · exact absurd rfl hne

theorem killS_hd (h : Hd M w0 ρ hp w) (s : V) : Hd M w0 ρ (killS hp s) w := by
  unfold killS
  split
  · exact h.kill _
  · exact h
theorem killS_length (s : V) : (killS hp s).length = hp.length := by
  unfold killS
  split <;> simp

theorem killS_get {s : V} {h : Nat} {b : Blk} (hb : (killS hp s)[h]? = some b) (hne : b.cells ≠ []) : hp[h]? = some b := by
  unfold killS at hb
  split at hb
  · rcases getElem?_set_cases hb with ⟨rfl, rfl, _⟩ | ⟨_, hb⟩
    · exact absurd rfl hne
    · exact hb
  · exact hb
theorem relL_junk (r : Nat) (l : List Value) (h : l.length = r) : relL ρ (List.replicate r V.j) l := by
  refine relL_of_get (by simp [h]) fun j v x hv _ => ?_
  rw [List.getElem?_replicate] at hv
  split at hv
  · cases hv; trivial
  · cases hv
theorem okL_junk {N : Nat} (r : Nat) : okL N (List.replicate r V.j) := okL_iff.2 fun v hv => by rw [List.mem_replicate] at hv; rw [hv.2]; trivial

theorem append_run (hE : EnvOK P E) (hd : Hd M w0 ρ hp w) {ts : List TypeId} {args : List V} {vs : List Value} (hr : relL ρ args vs) {k : V → List Blk → Prop} (h : vAppend E ts args hp k) (ty : TypeId) :
    ∃ v hp' w' ρ' y, k v hp' ∧ (Builtin.append_ ts.toArray ty vs.toArray).run P w = .ok y w' ∧ Step M w0 ρ hp w v hp' ρ' w' y := by
  unfold vAppend at h
  split at h
  case h_2 => exact h.elim
  case h_1 t t' s x =>
  obtain ⟨rfl, h⟩ := h
  unfold relL at hr
  obtain ⟨sv, vs, rfl, hsv, hr⟩ := hr
  unfold relL at hr
  obtain ⟨xv, vs, rfl, hxv, hr⟩ := hr
  unfold relL at hr
  subst hr
  cases hE0 : E t with
  | none => simp [hE0] at h
  | some dd =>
  simp only [hE0] at h
  cases hdu : dd.und <;> simp only [hdu] at h
  case slice e =>
    cases hEe : E e with
    | none => simp [hEe] at h
    | some de =>
    cases hs : asS s with
    | none => simp [hEe, hs] at h
    | some p =>
    cases hx : asS x with
    | none => simp [hEe, hs, hx] at h
    | some q =>
    obtain ⟨g, o, n, c⟩ := p
    obtain ⟨g2, o2, m, c2⟩ := q
    simp only [hEe, hs, hx] at h
    obtain ⟨hsz, hnm, hby, hroom, hol, hnl, h⟩ := h
    obtain ⟨i, z, hi, his, hib, hiz, z1, z2, z3⟩ := hE.info hEe
    have z4 : z.cells.size = de.size := by rw [← z3, ← z1]; simp
    obtain ⟨ols, o1, oOne, oLen, oRun⟩ := firstCells_run (P := P) hd hsv hs hol hsz
    obtain ⟨nws, n1, nOne, nLen, nRun⟩ := firstCells_run (P := P) hd hxv hx hnl hsz
    obtain ⟨hnc, a, rfl, ha⟩ := asS_rel hsv hs
    obtain ⟨hmc, b, rfl, hb⟩ := asS_rel hxv hx
    have hti : ∀ w, (typeInfo e).run P w = .ok i w := fun w => by simp [typeInfo, hi]
    have hzv : ∀ w, (zeroValue e).run P w = .ok z w := fun w => by simp [zeroValue, typeInfo, hi, hiz]
    have hfirst : n + m ≤ c → (Builtin.append_ [t, t].toArray ty [Value.slice a n c, Value.slice b m c2].toArray).run P w = (do
            let new ← Builtin.firstCells de.size m (.slice b m c2)
            if let some a := a then storeCells (a.add (n * de.size)) new.toList
            pure (Value.slice a (n + m) c) : Sem Value).run P w := by
      intro hc
      simp [Builtin.append_, hE.run_und hE0, hdu, hE.run_size hEe, Builtin.lenOf, hc] <;> rfl
    by_cases hc : n + m ≤ c
    · rw [hfirst hc]
      rcases Nat.eq_zero_or_pos c with hc0 | hc0
      · -- nothing at all
        have hn0 : n = 0 := by omega
        have hm0 : m = 0 := by omega
        subst hn0; subst hm0; subst hc0
        have hk := h 0 0 (by simp) (by simp)
        have hnil : nws = [] := List.eq_nil_of_length_eq_zero (by simpa using nLen)
        subst hnil
        have hnr := nRun w (Keep.refl _ _)
        refine ⟨_, _, w, ρ, .slice a 0 0, hk, ?_, ⟨?_, fun _ _ => rfl, by simp [killS_length], ?_, ?_, fun h b hb hne => .inr ⟨h, b, ?_, hne, rfl⟩⟩⟩
        · cases a with
          | none => simp [hnr]
          | some a => simp [hnr, storeCells]
        · simpa using (killS_hd hd s).addNil true
        · unfold rel; exact ⟨Nat.le_refl _, a, rfl, fun h => absurd h (by omega)⟩
        · unfold okV; intro h; omega
        · rcases getElem?_snoc hb with hb | ⟨_, rfl⟩
          · exact killS_get hb hne
          · exact absurd (by simp) hne
      · have ha' := ha hc0
        subst ha'
        have hss : ∃ g' o' n' c', s = .s g' o' n' c' := by
          unfold asS at hs
          split at hs
          · exact ⟨_, _, _, _, rfl⟩
          · cases hs; omega
          · cases hs
        obtain ⟨g', o', n', c', rfl⟩ := hss
        simp only [asS, Option.some.injEq, Prod.mk.injEq] at hs
        obtain ⟨rfl, rfl, rfl, rfl⟩ := hs
        unfold roomOK at hroom
        cases hbk : hp[g']? with
        | none => simp only [hbk] at hroom; omega
        | some bk =>
        simp only [hbk] at hroom
        by_cases hown : bk.own = true
        · rw [if_pos hown] at hroom
          rw [cellsAt_some hbk] at h o1 hol
          have hmul : (n' + m) * de.size ≤ c' * de.size := Nat.mul_le_mul_right _ hc
          have hadd : (n' + m) * de.size = n' * de.size + m * de.size := Nat.add_mul _ _ _
          have hk := h (c' * de.size - (n' + m) * de.size) c' (by omega) hc
          have nvl := relL_length n1
          have hnvl : (((cellsAt hp g2).drop o2).take (m * de.size)).length = m * de.size := by rw [← nvl]; exact nLen
          have nok : okL hp.length (((cellsAt hp g2).drop o2).take (m * de.size)) := okL_take (okL_drop (cellsAt_ok hd g2) _) _
          obtain ⟨q1, q2⟩ := hd.write (P := P) (o := o' + n' * de.size) hbk hown n1 nok nOne (by rw [hnvl]; omega)
          have holl : ((bk.cells.drop o').take (n' * de.size)).length = n' * de.size := by rw [← relL_length o1]; exact oLen
          have hset : (hp.set g' ⟨true, splice bk.cells (o' + n' * de.size) (((cellsAt hp g2).drop o2).take (m * de.size))⟩)[g']? = some ⟨true, splice bk.cells (o' + n' * de.size) (((cellsAt hp g2).drop o2).take (m * de.size))⟩ := by
            have := (List.getElem?_eq_some_iff.1 hbk).1
            rw [List.getElem?_set, if_pos rfl, if_pos this]
          have hspl : (splice bk.cells (o' + n' * de.size) (((cellsAt hp g2).drop o2).take (m * de.size))).length = bk.cells.length := splice_length (by rw [hnvl]; omega)
          have hmv := q2.move (o := o') (cs := (bk.cells.drop o').take (n' * de.size) ++ ((cellsAt hp g2).drop o2).take (m * de.size) ++ List.replicate (c' * de.size - (n' + m) * de.size) V.j) hset rfl
            (by simp only [List.length_append, holl, hnvl, List.length_replicate]; rw [hspl]; omega)
            (fun j v hv => by
              rw [List.append_assoc] at hv
              rw [splice_get (by rw [hnvl]; omega), hnvl]
              by_cases hj : j < n' * de.size
              · rw [List.getElem?_append_left (by omega), List.getElem?_take, if_pos hj, List.getElem?_drop] at hv
                rw [if_pos (by omega)]
                exact .inr hv
              · rw [List.getElem?_append_right (by omega), holl] at hv
                by_cases hj2 : j - n' * de.size < m * de.size
                · rw [List.getElem?_append_left (by omega)] at hv
                  rw [if_neg (by omega), if_pos (by omega), show o' + j - (o' + n' * de.size) = j - n' * de.size by omega]
                  exact .inr hv
                · rw [List.getElem?_append_right (by omega), List.getElem?_replicate] at hv
                  split at hv
                  · cases hv; exact .inl rfl
                  · cases hv)
          rw [List.set_set, List.length_set] at hmv
          refine ⟨_, _, _, _, .slice (some ⟨(ρ g').1, (ρ g').2 + o', none⟩) (n' + m) c', hk, ?_, ⟨hmv, Loc.upd_lt ρ _, by simp [killS], ?_, ?_, fun h b hb hne => .inr ?_⟩⟩
          · have hnr := nRun w (Keep.refl _ _)
            have q1' : (storeCells ⟨(ρ g').1, (ρ g').2 + o' + n' * de.size, none⟩ nws).run P w = .ok () (w.setCells (ρ g').1 ((ρ g').2 + (o' + n' * de.size)) nws) := by
              rw [Nat.add_assoc]; exact q1
            simp only [Sem.run_bind, hnr, Result.andThen_ok, addr_add, List.toList_toArray, q1', Sem.run_pure]
          · unfold rel
            rw [Loc.upd_same]
            exact ⟨hc, _, rfl, fun _ => rfl⟩
          · unfold okV; intro _; simp [killS]
          · have hb' : (hp.set g' ⟨false, []⟩ ++ [⟨true, (bk.cells.drop o').take (n' * de.size) ++ ((cellsAt hp g2).drop o2).take (m * de.size) ++ List.replicate (c' * de.size - (n' + m) * de.size) V.j⟩])[h]? = some b := hb
            rcases getElem?_snoc hb' with hb' | ⟨rfl, rfl⟩
            · have hlt : h < hp.length := by have := (List.getElem?_eq_some_iff.1 hb').1; simpa using this
              rcases getElem?_set_cases hb' with ⟨rfl, rfl, _⟩ | ⟨_, hb'⟩
              · exact absurd rfl hne
              · exact ⟨h, b, hb', hne, by rw [Loc.upd_lt ρ _ h hlt]⟩
            · have hbne : bk.cells ≠ [] := fun e => by
                have h1 : 0 < c' * de.size := Nat.mul_pos hc0 hsz
                rw [e] at hroom; simp only [List.length_nil] at hroom; omega
              exact ⟨g', bk, hbk, hbne, by rw [List.length_set, Loc.upd_same]⟩
        · rw [if_neg hown] at hroom; omega
    · have hge := grownCap_ge w (n + m) c e
      have hcm := grownCap_le_maxLen w (n + m) c e (by simp only [maxLen]; omega)
      have hk := h ((grownCap w (n + m) c e - (n + m)) * de.size) (grownCap w (n + m) c e) (by rw [← Nat.add_mul]; congr 1; omega) hge
      have hfit := growslice_fits (need := n + m) (old := c) (bytes := de.bytes) (by omega) (by omega)
      have hkd : Keep none' w w.drew := Keep.drew _ _
      have hor := oRun w.drew hkd
      have hnr := nRun w.drew hkd
      have hzl : ((List.replicate (grownCap w (n + m) c e - (n + m)) z.cells.toList).flatten).length = (grownCap w (n + m) c e - (n + m)) * de.size := by simp [List.length_flatten, z4]
      have hzr : relL ρ (List.replicate ((grownCap w (n + m) c e - (n + m)) * de.size) V.j) ((List.replicate (grownCap w (n + m) c e - (n + m)) z.cells.toList).flatten) := relL_junk _ _ hzl
      have hall := relL_append (relL_append o1 n1) hzr
      have hokc : okL (killS hp s).length ((((cellsAt hp g).drop o).take (n * de.size) ++ ((cellsAt hp g2).drop o2).take (m * de.size)) ++ List.replicate ((grownCap w (n + m) c e - (n + m)) * de.size) V.j) := by
        rw [killS_length]
        exact okL_append (okL_append (okL_take (okL_drop (cellsAt_ok hd g) _) _) (okL_take (okL_drop (cellsAt_ok hd g2) _) _)) (okL_junk _)
      have hone : ∀ y ∈ (ols ++ nws) ++ (List.replicate (grownCap w (n + m) c e - (n + m)) z.cells.toList).flatten, y.oneCell' = true := fun y hy => by
        rcases List.mem_append.1 hy with hy | hy
        · rcases List.mem_append.1 hy with hy | hy
          · exact oOne y hy
          · exact nOne y hy
        · exact one_flatten _ _ z2 y hy
      have hst := Step.pushS ((killS_hd hd s).drew) hall hokc hone e hge
      have hst' := hst
      rw [killS_length] at hst'
      refine ⟨_, _, _, _, _, hk, ?_, ⟨hst'.hd, fun h hh => hst'.same h (by rw [killS_length]; exact hh), by simp [killS_length], hst'.val, hst'.ok, fun h b hb hne => ?_⟩⟩
      rotate_left
      · rcases hst'.src h b hb hne with h1 | ⟨g1, c1, h1, h2, h3⟩
        · exact .inl h1
        · exact .inr ⟨g1, c1, killS_get h1 h2, h2, h3⟩
      have h63 : ¬ (9223372036854775807 < ((n : Int) + (m : Int))) := by omega
      have h48 : ¬ (281474976710656 < Builtin.nextslicecap (n + m) c * i.bytes) := by rw [hib]; omega
      simp [Builtin.append_, hE.run_und hE0, hdu, hE.run_size hEe, hti, hzv, Builtin.lenOf, hc, h63, h48, Question.forced, hor, hnr, newRow, zeroCells_eq]
      exact ⟨rfl, rfl⟩
  all_goals exact h.elim

theorem appendZ_run (hE : EnvOK P E) (hd : Hd M w0 ρ hp w) {ts : List TypeId} {args : List V} {vs : List Value} (hr : relL ρ args vs) {k : V → List Blk → Prop} (h : vAppendZ E ts args hp k) (ty : TypeId) :
    ∃ v hp' w' ρ' y, k v hp' ∧ (Builtin.append_ ts.toArray ty vs.toArray).run P w = .ok y w' ∧ Step M w0 ρ hp w v hp' ρ' w' y := by
  unfold vAppendZ at h
  split at h
  case h_2 => exact h.elim
  case h_1 t t' s ki m =>
  unfold relL at hr
  obtain ⟨sv, vs, rfl, hsv, hr⟩ := hr
  unfold relL at hr
  obtain ⟨xv, vs, rfl, hxv, hr⟩ := hr
  unfold relL at hr
  subst hr
  unfold rel at hxv
  subst hxv
  cases hE0 : E t with
  | none => simp [hE0] at h
  | some dd =>
  cases hE1 : E t' with
  | none => simp [hE0, hE1] at h
  | some dd' =>
  simp only [hE0, hE1] at h
  cases hdu : dd.und <;> cases hdu' : dd'.und <;> simp only [hdu, hdu'] at h
  case slice.int e k' =>
    cases hEe : E e with
    | none => simp [hEe] at h
    | some de =>
    cases hs : asS s with
    | none => simp [hEe, hs] at h
    | some p =>
    obtain ⟨g, o, n, c⟩ := p
    simp only [hEe, hs] at h
    obtain ⟨i, z, hi, his, hib, hiz, z1, z2, z3⟩ := hE.info hEe
    have z4 : z.cells.size = de.size := by rw [← z3, ← z1]; simp
    split at h
    case h_2 => exact h.elim
    rename_i de' g' o' hde hg'
    cases hde
    simp only [Option.some.injEq, Prod.mk.injEq] at hg'
    obtain ⟨rfl, rfl, rfl, rfl⟩ := hg'
    obtain ⟨h0, h1, hby, hsz, h⟩ := h
    obtain ⟨hnc, a, rfl, ha⟩ := asS_rel hsv hs
    have hti : ∀ w, (typeInfo e).run P w = .ok i w := fun w => by simp [typeInfo, hi]
    have hzv : ∀ w, (zeroValue e).run P w = .ok z w := fun w => by simp [zeroValue, typeInfo, hi, hiz]
    have hge := grownCap_ge w m.toNat 0 e
    have hk := h ((grownCap w m.toNat 0 e - m.toNat) * de.size) (grownCap w m.toNat 0 e) (by rw [← Nat.add_mul]; congr 1; omega) hge
    have hfit := growslice_fits (need := m.toNat) (old := 0) (bytes := de.bytes) (by omega) (by omega)
    have hzl : ((List.replicate (grownCap w m.toNat 0 e - m.toNat) z.cells.toList).flatten).length = (grownCap w m.toNat 0 e - m.toNat) * de.size := by simp [List.length_flatten, z4]
    have hall := relL_append (zeros_rel (ρ := ρ) z1 m.toNat) (relL_junk (ρ := ρ) _ _ hzl)
    have hokc : okL hp.length ((List.replicate m.toNat de.zero).flatten ++ List.replicate ((grownCap w m.toNat 0 e - m.toNat) * de.size) V.j) := okL_append (zeros_ok z1 m.toNat) (okL_junk _)
    have hone : ∀ y ∈ (List.replicate m.toNat z.cells.toList).flatten ++ (List.replicate (grownCap w m.toNat 0 e - m.toNat) z.cells.toList).flatten, y.oneCell' = true := fun y hy => by
      rcases List.mem_append.1 hy with hy | hy <;> exact one_flatten _ _ z2 y hy
    have hst := Step.pushS hd.drew hall hokc hone e hge
    refine ⟨_, _, _, _, _, hk, ?_, ⟨hst.hd, hst.same, hst.len, hst.val, hst.ok, hst.src⟩⟩
    have wm : IntKind.i64.wrap m = m := IntWalk.i64_in _ (by omega)
    have h63 : ¬ (9223372036854775807 < m) := by omega
    have h63' : ¬ (9223372036854775807 < (m.toNat : Int)) := by omega
    have h48 : ¬ (281474976710656 < Builtin.nextslicecap m.toNat 0 * i.bytes) := by rw [hib]; omega
    have hmb : ¬ (281474976710656 < m * (i.bytes : Int)) := by
      rw [hib]
      have : m * (de.bytes : Int) = ((m.toNat * de.bytes : Nat) : Int) := by rw [Int.natCast_mul]; congr 1; omega
      rw [this]; omega
    have hneg : ¬ (m < 0) := by omega
    have hnz : ¬ (m.toNat * de.size = 0) := by
      have : 0 < m.toNat * de.size := Nat.mul_pos (by omega) hsz
      omega
    have hm0 : ¬ m.toNat = 0 := by omega
    cases a with
    | none =>
      simp [Builtin.append_, hE.run_und hE0, hE.run_und hE1, hdu, hdu', hE.run_size hEe, hti, hzv, asInt, asIntOf, wm, hneg, hmb, h63', h48, hnz, hm0, Question.forced, newRow, zeroCells_eq, Builtin.firstCells, show ¬ m.toNat ≤ 0 by omega, show ¬ m ≤ 0 by omega, show ¬ (9223372036854775807 < max m 0) by omega]
      exact ⟨rfl, rfl⟩
    | some a =>
      have hl0 := run_loadCells_list (P := P) w.drew a [] (by simp)
      simp [Builtin.append_, hE.run_und hE0, hE.run_und hE1, hdu, hdu', hE.run_size hEe, hti, hzv, asInt, asIntOf, wm, hneg, hmb, h63', h48, hnz, hm0, Question.forced, newRow, zeroCells_eq, Builtin.firstCells, show ¬ m.toNat ≤ 0 by omega, show ¬ m ≤ 0 by omega, show ¬ (9223372036854775807 < max m 0) by omega]
      rw [show (loadCells a 0).run P w.drew = .ok #[] w.drew by simpa using hl0]
      simp
      exact ⟨rfl, rfl⟩
  all_goals exact h.elim

theorem appendY_run (hE : EnvOK P E) (hd : Hd M w0 ρ hp w) {ts : List TypeId} {args : List V} {vs : List Value} (hr : relL ρ args vs) {k : V → List Blk → Prop} (h : vAppendY E ts args hp k) (ty : TypeId) :
    ∃ v hp' w' ρ' y, k v hp' ∧ (Builtin.append_ ts.toArray ty vs.toArray).run P w = .ok y w' ∧ Step M w0 ρ hp w v hp' ρ' w' y := by
  unfold vAppendY at h
  split at h
  case h_2 => exact h.elim
  case h_1 t t' s ki mi =>
  unfold relL at hr
  obtain ⟨sv, vs, rfl, hsv, hr⟩ := hr
  unfold relL at hr
  obtain ⟨xv, vs, rfl, hxv, hr⟩ := hr
  unfold relL at hr
  subst hr
  unfold rel at hxv
  subst hxv
  cases hE0 : E t with
  | none => simp [hE0] at h
  | some dd =>
  cases hE1 : E t' with
  | none => simp [hE0, hE1] at h
  | some dd' =>
  simp only [hE0, hE1] at h
  cases hdu : dd.und <;> cases hdu' : dd'.und <;> simp only [hdu, hdu'] at h
  case slice.int e k' =>
    cases hEe : E e with
    | none => simp [hEe] at h
    | some de =>
    cases hs : asS s with
    | none => simp [hEe, hs] at h
    | some p =>
    obtain ⟨g, o, n, c⟩ := p
    simp only [hEe, hs] at h
    obtain ⟨hn0, hm0, hsz, hnm, hby, hroom, hol, h⟩ := h
    obtain ⟨m, rfl⟩ : ∃ m : Nat, mi = m := ⟨mi.toNat, by omega⟩
    simp only [Int.toNat_natCast] at hnm hby hroom h
    obtain ⟨i, z, hi, his, hib, hiz, z1, z2, z3⟩ := hE.info hEe
    have z4 : z.cells.size = de.size := by rw [← z3, ← z1]; simp
    obtain ⟨ols, o1, oOne, oLen, oRun⟩ := firstCells_run (P := P) hd hsv hs (.inr hol) hsz
    have n1 := zeros_rel (ρ := ρ) z1 m
    have nOne := one_flatten m _ z2
    have nLen : ((List.replicate m z.cells.toList).flatten).length = m * de.size := by simp [List.length_flatten, z4]
    have nzl : ((List.replicate m de.zero).flatten).length = m * de.size := by rw [← relL_length n1]; exact nLen
    have nok : okL hp.length ((List.replicate m de.zero).flatten) := zeros_ok z1 m
    generalize hnws : (List.replicate m z.cells.toList).flatten = nws at *
    generalize hZ : (List.replicate m de.zero).flatten = Z at *
    obtain ⟨hnc, a, rfl, ha⟩ := asS_rel hsv hs
    have hti : ∀ w, (typeInfo e).run P w = .ok i w := fun w => by simp [typeInfo, hi]
    have hzv : ∀ w, (zeroValue e).run P w = .ok z w := fun w => by simp [zeroValue, typeInfo, hi, hiz]
    have wm : IntKind.i64.wrap (m : Int) = m := IntWalk.i64_in _ (by omega)
    have hneg : ¬ ((m : Int) < 0) := by omega
    have hmby : m * de.bytes ≤ (n + m) * de.bytes := Nat.mul_le_mul_right _ (by omega)
    have hmb : ¬ (281474976710656 < (m : Int) * (i.bytes : Int)) := by
      rw [hib]
      have : (m : Int) * (de.bytes : Int) = ((m * de.bytes : Nat) : Int) := by rw [Int.natCast_mul]
      rw [this]; omega
    have hap : ∀ w : World, (if m * de.size = 0 then (pure #[] : Sem (Array Value)) else do pure (Builtin.zeroCells (← zeroValue e).cells m)).run P w = .ok nws.toArray w := by
      intro w
      by_cases hm : m * de.size = 0
      · rw [if_pos hm]
        have : nws = [] := List.eq_nil_of_length_eq_zero (by rw [nLen, hm])
        rw [this]; simp
      · rw [if_neg hm]
        simp [hzv, zeroCells_eq, hnws]
    have ha' := ha (by omega)
    subst ha'
    have hss : ∃ g' o' n' c', s = .s g' o' n' c' := by
      unfold asS at hs
      split at hs
      · exact ⟨_, _, _, _, rfl⟩
      · cases hs; omega
      · cases hs
    obtain ⟨g', o', n', c', rfl⟩ := hss
    simp only [asS, Option.some.injEq, Prod.mk.injEq] at hs
    obtain ⟨rfl, rfl, rfl, rfl⟩ := hs
    by_cases hc : n' + m ≤ c'
    · unfold roomOK at hroom
      cases hbk : hp[g']? with
      | none => simp only [hbk] at hroom; omega
      | some bk =>
      simp only [hbk] at hroom
      by_cases hown : bk.own = true
      · rw [if_pos hown] at hroom
        rw [cellsAt_some hbk] at h o1 hol
        have hmul : (n' + m) * de.size ≤ c' * de.size := Nat.mul_le_mul_right _ hc
        have hadd : (n' + m) * de.size = n' * de.size + m * de.size := Nat.add_mul _ _ _
        have hk := h (c' * de.size - (n' + m) * de.size) c' (by omega) hc
        obtain ⟨q1, q2⟩ := hd.write (P := P) (o := o' + n' * de.size) hbk hown n1 nok nOne (by rw [nzl]; omega)
        have holl : ((bk.cells.drop o').take (n' * de.size)).length = n' * de.size := by rw [← relL_length o1]; exact oLen
        have hset : (hp.set g' ⟨true, splice bk.cells (o' + n' * de.size) Z⟩)[g']? = some ⟨true, splice bk.cells (o' + n' * de.size) Z⟩ := by
          have := (List.getElem?_eq_some_iff.1 hbk).1
          rw [List.getElem?_set, if_pos rfl, if_pos this]
        have hspl : (splice bk.cells (o' + n' * de.size) Z).length = bk.cells.length := splice_length (by rw [nzl]; omega)
        have hmv := q2.move (o := o') (cs := (bk.cells.drop o').take (n' * de.size) ++ Z ++ List.replicate (c' * de.size - (n' + m) * de.size) V.j) hset rfl
          (by simp only [List.length_append, holl, nzl, List.length_replicate]; rw [hspl]; omega)
          (fun j v hv => by
            rw [List.append_assoc] at hv
            rw [splice_get (by rw [nzl]; omega), nzl]
            by_cases hj : j < n' * de.size
            · rw [List.getElem?_append_left (by omega), List.getElem?_take, if_pos hj, List.getElem?_drop] at hv
              rw [if_pos (by omega)]
              exact .inr hv
            · rw [List.getElem?_append_right (by omega), holl] at hv
              by_cases hj2 : j - n' * de.size < m * de.size
              · rw [List.getElem?_append_left (by omega)] at hv
                rw [if_neg (by omega), if_pos (by omega), show o' + j - (o' + n' * de.size) = j - n' * de.size by omega]
                exact .inr hv
              · rw [List.getElem?_append_right (by omega), List.getElem?_replicate] at hv
                split at hv
                · cases hv; exact .inl rfl
                · cases hv)
        rw [List.set_set, List.length_set] at hmv
        refine ⟨_, _, _, _, .slice (some ⟨(ρ g').1, (ρ g').2 + o', none⟩) (n' + m) c', hk, ?_, ⟨hmv, Loc.upd_lt ρ _, by simp [killS], ?_, ?_, fun h b hb hne => .inr ?_⟩⟩
        · have hnr := hap w
          have q1' : (storeCells ⟨(ρ g').1, (ρ g').2 + o' + n' * de.size, none⟩ nws).run P w = .ok () (w.setCells (ρ g').1 ((ρ g').2 + (o' + n' * de.size)) nws) := by
            rw [Nat.add_assoc]; exact q1
          have hfirst : (Builtin.append_ [t, t'].toArray ty [Value.slice (some ⟨(ρ g').1, (ρ g').2 + o', none⟩) n' c', Value.int ki (m : Int)].toArray).run P w = (do
                let new ← (if m * de.size = 0 then (pure #[] : Sem (Array Value)) else do pure (Builtin.zeroCells (← zeroValue e).cells m))
                storeCells ((⟨(ρ g').1, (ρ g').2 + o', none⟩ : Addr).add (n' * de.size)) new.toList
                pure (Value.slice (some ⟨(ρ g').1, (ρ g').2 + o', none⟩) (n' + m) c') : Sem Value).run P w := by
            simp [Builtin.append_, hE.run_und hE0, hE.run_und hE1, hdu, hdu', hE.run_size hEe, hti, asInt, asIntOf, wm, hneg, hmb, hc]
          rw [hfirst]
          simp only [Sem.run_bind, hnr, Result.andThen_ok, addr_add, List.toList_toArray, q1', Sem.run_pure]
        · unfold rel
          rw [Loc.upd_same]
          exact ⟨hc, _, rfl, fun _ => rfl⟩
        · unfold okV; intro _; simp [killS]
        · have hb' : (hp.set g' ⟨false, []⟩ ++ [⟨true, (bk.cells.drop o').take (n' * de.size) ++ Z ++ List.replicate (c' * de.size - (n' + m) * de.size) V.j⟩])[h]? = some b := hb
          rcases getElem?_snoc hb' with hb' | ⟨rfl, rfl⟩
          · have hlt : h < hp.length := by have := (List.getElem?_eq_some_iff.1 hb').1; simpa using this
            rcases getElem?_set_cases hb' with ⟨rfl, rfl, _⟩ | ⟨_, hb'⟩
            · exact absurd rfl hne
            · exact ⟨h, b, hb', hne, by rw [Loc.upd_lt ρ _ h hlt]⟩
          · have hbne : bk.cells ≠ [] := fun e => by
              have h1 : 0 < c' * de.size := Nat.mul_pos (by omega) hsz
              rw [e] at hroom; simp only [List.length_nil] at hroom; omega
            exact ⟨g', bk, hbk, hbne, by rw [List.length_set, Loc.upd_same]⟩
      · rw [if_neg hown] at hroom; omega
    · have hge := grownCap_ge w (n' + m) c' e
      have hcm := grownCap_le_maxLen w (n' + m) c' e (by simp only [maxLen]; omega)
      have hk := h ((grownCap w (n' + m) c' e - (n' + m)) * de.size) (grownCap w (n' + m) c' e) (by rw [← Nat.add_mul]; congr 1; omega) hge
      have hfit := growslice_fits (need := n' + m) (old := c') (bytes := de.bytes) (by omega) (by omega)
      have hkd : Keep none' w w.drew := Keep.drew _ _
      have hor := oRun w.drew hkd
      have hnr := hap w.drew
      have hzl : ((List.replicate (grownCap w (n' + m) c' e - (n' + m)) z.cells.toList).flatten).length = (grownCap w (n' + m) c' e - (n' + m)) * de.size := by simp [List.length_flatten, z4]
      have hzr : relL ρ (List.replicate ((grownCap w (n' + m) c' e - (n' + m)) * de.size) V.j) ((List.replicate (grownCap w (n' + m) c' e - (n' + m)) z.cells.toList).flatten) := relL_junk _ _ hzl
      have hall := relL_append (relL_append o1 n1) hzr
      have hokc : okL (killS hp (.s g' o' n' c')).length ((((cellsAt hp g').drop o').take (n' * de.size) ++ Z) ++ List.replicate ((grownCap w (n' + m) c' e - (n' + m)) * de.size) V.j) := by
        rw [killS_length]
        exact okL_append (okL_append (okL_take (okL_drop (cellsAt_ok hd g') _) _) nok) (okL_junk _)
      have hone : ∀ y ∈ (ols ++ nws) ++ (List.replicate (grownCap w (n' + m) c' e - (n' + m)) z.cells.toList).flatten, y.oneCell' = true := fun y hy => by
        rcases List.mem_append.1 hy with hy | hy
        · rcases List.mem_append.1 hy with hy | hy
          · exact oOne y hy
          · exact nOne y hy
        · exact one_flatten _ _ z2 y hy
      have hst := Step.pushS ((killS_hd hd (.s g' o' n' c')).drew) hall hokc hone e hge
      have hst' := hst
      rw [killS_length] at hst'
      refine ⟨_, _, _, _, _, hk, ?_, ⟨hst'.hd, fun h hh => hst'.same h (by rw [killS_length]; exact hh), by simp [killS_length], hst'.val, hst'.ok, fun h b hb hne => ?_⟩⟩
      rotate_left
      · rcases hst'.src h b hb hne with h1 | ⟨g1, c1, h1, h2, h3⟩
        · exact .inl h1
        · exact .inr ⟨g1, c1, killS_get h1 h2, h2, h3⟩
      have h63 : ¬ (9223372036854775807 < ((n' : Int) + (m : Int))) := by omega
      have h48 : ¬ (281474976710656 < Builtin.nextslicecap (n' + m) c' * i.bytes) := by rw [hib]; omega
      by_cases hm : m * de.size = 0
      · have hn : nws = [] := List.eq_nil_of_length_eq_zero (by rw [nLen, hm])
        simp [Builtin.append_, hE.run_und hE0, hE.run_und hE1, hdu, hdu', hE.run_size hEe, hti, hzv, asInt, asIntOf, wm, hneg, hmb, hc, h63, h48, hm, hn, Question.forced, hor, newRow, zeroCells_eq]
        exact ⟨rfl, rfl⟩
      · simp [Builtin.append_, hE.run_und hE0, hE.run_und hE1, hdu, hdu', hE.run_size hEe, hti, hzv, asInt, asIntOf, wm, hneg, hmb, hc, h63, h48, hm, hnws, Question.forced, hor, newRow, zeroCells_eq]
        exact ⟨rfl, rfl⟩
  all_goals exact h.elim

theorem copy_run (hE : EnvOK P E) (hd : Hd M w0 ρ hp w) {ts : List TypeId} {args : List V} {vs : List Value} (hr : relL ρ args vs) {k : V → List Blk → Prop} (h : vCopy E ts args hp k) (ty : TypeId) :
    ∃ v hp' w' ρ' y, k v hp' ∧ (Builtin.copy_ ts.toArray ty vs.toArray).run P w = .ok y w' ∧ Step M w0 ρ hp w v hp' ρ' w' y := by
  unfold vCopy at h
  split at h
  case h_2 => exact h.elim
  case h_1 t ts s x =>
  unfold relL at hr
  obtain ⟨sv, vs, rfl, hsv, hr⟩ := hr
  unfold relL at hr
  obtain ⟨xv, vs, rfl, hxv, hr⟩ := hr
  unfold relL at hr
  subst hr
  cases hE0 : E t with
  | none => simp [hE0] at h
  | some dd =>
  simp only [hE0] at h
  cases hdu : dd.und <;> simp only [hdu] at h
  case slice e =>
    cases hEe : E e with
    | none => simp [hEe] at h
    | some de =>
    cases hs : asS s with
    | none => simp [hEe, hs] at h
    | some p =>
    cases hx : asS x with
    | none => simp [hEe, hs, hx] at h
    | some q =>
    obtain ⟨g, o, n, c⟩ := p
    obtain ⟨g2, o2, m, c2⟩ := q
    simp only [hEe, hs, hx] at h
    cases hb : hp[g]? with
    | none => simp [hb] at h
    | some b =>
    simp only [hb] at h
    obtain ⟨ho, hsz, hn0, hlen, hl2, h⟩ := h
    obtain ⟨hnc, a, rfl, ha⟩ := asS_rel hsv hs
    obtain ⟨hmc, a2, rfl, ha2⟩ := asS_rel hxv hx
    have ha' := ha (by omega)
    subst ha'
    -- the first min m n elements of the source
    have hfc : ∃ xs : List Value, relL ρ (((cellsAt hp g2).drop o2).take (min m n * de.size)) xs ∧ (∀ y ∈ xs, y.oneCell' = true) ∧ xs.length = min m n * de.size ∧
        (Builtin.firstCells de.size (min m n) (.slice a2 m c2)).run P w = .ok xs.toArray w := by
      have hx2 : rel ρ (.s g2 o2 (min m n) c2) (.slice a2 (min m n) c2) := by
        unfold rel; exact ⟨by omega, a2, rfl, ha2⟩
      obtain ⟨xs, e1, e2, e3, e4⟩ := firstCells_run (P := P) hd hx2 (by rfl) hl2 hsz
      refine ⟨xs, e1, e2, e3, ?_⟩
      have := e4 w (Keep.refl _ _)
      cases a2 <;> simpa [Builtin.firstCells] using this
    obtain ⟨xs, e1, e2, e3, e4⟩ := hfc
    have hxl := relL_length e1
    obtain ⟨q1, q2⟩ := hd.write (P := P) (o := o) hb ho e1 (okL_take (okL_drop (cellsAt_ok hd g2) _) _) e2 (by rw [← hxl, e3]; exact hlen)
    refine ⟨_, _, _, _, .int .i64 (min m n : Nat), h, ?_, ⟨q2, fun _ _ => rfl, by simp, rfl, trivial, src_set hb fun hne e => hne (List.eq_nil_of_length_eq_zero (by rw [splice_length (by rw [← hxl, e3]; exact hlen), e]; rfl))⟩⟩
    have hmin : Nat.min m n = min m n := rfl
    simp [Builtin.copy_, hE.run_und hE0, hdu, hE.run_size hEe, Builtin.lenOf, hmin, e4, q1, goInt]
  all_goals exact h.elim

theorem app_run (hE : EnvOK P E) (hd : Hd M w0 ρ hp w) {ts : List TypeId} {args : List V} {vs : List Value} (hr : relL ρ args vs) {k : V → List Blk → Prop} (h : vApp E ts args hp k) (ty : TypeId) :
    ∃ v hp' w' ρ' y, k v hp' ∧ (Builtin.append_ ts.toArray ty vs.toArray).run P w = .ok y w' ∧ Step M w0 ρ hp w v hp' ρ' w' y := by
  unfold vApp at h
  split at h
  · split at h
    · exact appendZ_run hE hd hr h ty
    · exact appendY_run hE hd hr h ty
  · exact append_run hE hd hr h ty
end
end Go.Vc
/- Calls: the callee's contract seen by the caller. -/
set_option linter.unusedSimpArgs false
set_option linter.unusedVariables false
namespace Go.Vc
open Go
section
variable {P : Program} {E : Env} {t : TypeId} {d : TD} {M : Nat → Prop} {w0 w : World} {ρ ρ' : Loc} {hp : List Blk}

def Loc.sub (ρ : Loc) (sub : List (Nat × Nat)) : Loc := fun h => match sub[h]? with
  | some (g, q) => ((ρ g).1, (ρ g).2 + q)
  | none => (0, 0)

mutual
theorem rel_inst {sub : List (Nat × Nat)} {N : Nat} : ∀ {v : V} {x : Value}, okV sub.length v → rel ρ (v.inst sub N) x → rel (ρ.sub sub) v x
  | .c _, _, _, h => h
  | .p h o, x, hk, hr => by
    unfold okV at hk
    obtain ⟨q, hq⟩ : ∃ q, sub[h]? = some q := ⟨_, List.getElem?_eq_getElem hk⟩
    obtain ⟨g, q⟩ := q
    simp only [V.inst, hq] at hr
    unfold rel at hr ⊢
    simp only [Loc.sub, hq]
    rw [hr]
    simp [Nat.add_assoc]
  | .s h o n c, x, hk, hr => by
    unfold okV at hk
    rcases Nat.eq_zero_or_pos c with h0 | h0
    · subst h0
      have hr' : n ≤ 0 ∧ ∃ a, x = .slice a n 0 := by
        cases hq : sub[h]? with
        | none => simp only [V.inst, hq] at hr; unfold rel at hr; exact ⟨hr.1, hr.2.choose, hr.2.choose_spec.1⟩
        | some q => obtain ⟨g, q⟩ := q; simp only [V.inst, hq] at hr; unfold rel at hr; exact ⟨hr.1, hr.2.choose, hr.2.choose_spec.1⟩
      obtain ⟨h1, a, h2⟩ := hr'
      unfold rel
      exact ⟨h1, a, h2, fun h => absurd h (by omega)⟩
    · obtain ⟨q, hq⟩ : ∃ q, sub[h]? = some q := ⟨_, List.getElem?_eq_getElem (hk h0)⟩
      obtain ⟨g, q⟩ := q
      simp only [V.inst, hq] at hr
      unfold rel at hr ⊢
      obtain ⟨h1, a, h2, h3⟩ := hr
      refine ⟨h1, a, h2, fun hc => ?_⟩
      simp only [Loc.sub, hq]
      rw [h3 hc]
      simp [Nat.add_assoc]
  | .a cs, x, hk, hr => by
    unfold okV at hk
    simp only [V.inst] at hr
    unfold rel at hr ⊢
    obtain ⟨l, h1, h2, h3⟩ := hr
    exact ⟨l, h1, relL_inst hk h2, h3⟩
  | .t vs, x, hk, hr => by
    unfold okV at hk
    simp only [V.inst] at hr
    unfold rel at hr ⊢
    obtain ⟨l, h1, h2⟩ := hr
    exact ⟨l, h1, relL_inst hk h2⟩
  | .j, _, _, _ => trivial
theorem relL_inst {sub : List (Nat × Nat)} {N : Nat} : ∀ {vs : List V} {xs : List Value}, okL sub.length vs → relL ρ (V.instL sub N vs) xs → relL (ρ.sub sub) vs xs
  | [], _, _, h => h
  | v :: vs, l, hk, h => by
    unfold okL at hk
    unfold V.instL relL at h
    unfold relL
    obtain ⟨x, xs, h1, h2, h3⟩ := h
    exact ⟨x, xs, h1, rel_inst hk.1 h2, relL_inst hk.2 h3⟩
end

/-- The caller's places behind a call. -/
def Loc.back (ρ ρc : Loc) (N m : Nat) : Loc := fun h => if h < N then ρ h else ρc (m + (h - N))

mutual
theorem rel_back {sub : List (Nat × Nat)} {N K : Nat} {ρc : Loc} (hs : ∀ h, h < sub.length → ρc h = ρ.sub sub h) (hg : ∀ q ∈ sub, q.1 < N) : ∀ {v : V} {x : Value}, rel ρc v x → rel (ρ.back ρc N sub.length) (v.inst sub N) x
  | .c _, _, h => h
  | .p h o, x, hr => by
    cases hq : sub[h]? with
    | none =>
      have hlen : sub.length ≤ h := by simpa using hq
      simp only [V.inst, hq]
      unfold rel at hr ⊢
      simp only [Loc.back, show ¬ (N + (h - sub.length) < N) by omega, if_false, show sub.length + (N + (h - sub.length) - N) = h by omega]
      exact hr
    | some q =>
      obtain ⟨g, q⟩ := q
      have hlt := (List.getElem?_eq_some_iff.1 hq).1
      have hgN := hg _ (List.mem_of_getElem? hq)
      simp only [V.inst, hq]
      unfold rel at hr ⊢
      simp only [Loc.back, if_pos hgN]
      rw [hr, hs h hlt]
      simp [Loc.sub, hq, Nat.add_assoc]
  | .s h o n c, x, hr => by
    cases hq : sub[h]? with
    | none =>
      have hlen : sub.length ≤ h := by simpa using hq
      simp only [V.inst, hq]
      unfold rel at hr ⊢
      simp only [Loc.back, show ¬ (N + (h - sub.length) < N) by omega, if_false, show sub.length + (N + (h - sub.length) - N) = h by omega]
      exact hr
    | some q =>
      obtain ⟨g, q⟩ := q
      have hlt := (List.getElem?_eq_some_iff.1 hq).1
      have hgN := hg _ (List.mem_of_getElem? hq)
      simp only [V.inst, hq]
      unfold rel at hr ⊢
      simp only [Loc.back, if_pos hgN]
      obtain ⟨h1, a, h2, h3⟩ := hr
      refine ⟨h1, a, h2, fun hc => ?_⟩
      rw [h3 hc, hs h hlt]
      simp [Loc.sub, hq, Nat.add_assoc]
  | .a cs, x, hr => by
    simp only [V.inst]
    unfold rel at hr ⊢
    obtain ⟨l, h1, h2, h3⟩ := hr
    exact ⟨l, h1, relL_back (K := K) hs hg h2, h3⟩
  | .t vs, x, hr => by
    simp only [V.inst]
    unfold rel at hr ⊢
    obtain ⟨l, h1, h2⟩ := hr
    exact ⟨l, h1, relL_back (K := K) hs hg h2⟩
  | .j, _, _ => trivial
theorem relL_back {sub : List (Nat × Nat)} {N K : Nat} {ρc : Loc} (hs : ∀ h, h < sub.length → ρc h = ρ.sub sub h) (hg : ∀ q ∈ sub, q.1 < N) : ∀ {vs : List V} {xs : List Value}, relL ρc vs xs → relL (ρ.back ρc N sub.length) (V.instL sub N vs) xs
  | [], _, h => h
  | v :: vs, l, h => by
    unfold relL at h
    unfold V.instL relL
    obtain ⟨x, xs, h1, h2, h3⟩ := h
    exact ⟨x, xs, h1, rel_back (K := K) hs hg h2, relL_back (K := K) hs hg h3⟩
end

mutual
theorem ok_inst {sub : List (Nat × Nat)} {N r : Nat} (hg : ∀ q ∈ sub, q.1 < N) : ∀ {v : V}, okV (sub.length + r) v → okV (N + r) (v.inst sub N)
  | .c _, _ => trivial
  | .p h o, hk => by
    unfold okV at hk
    cases hq : sub[h]? with
    | none => have : sub.length ≤ h := by simpa using hq
              simp only [V.inst, hq]; unfold okV; omega
    | some q => obtain ⟨g, q⟩ := q; have := hg _ (List.mem_of_getElem? hq); simp only [V.inst, hq]; unfold okV; simp only at this; omega
  | .s h o n c, hk => by
    unfold okV at hk
    cases hq : sub[h]? with
    | none => have : sub.length ≤ h := by simpa using hq
              simp only [V.inst, hq]; unfold okV; intro hc; have := hk hc; omega
    | some q => obtain ⟨g, q⟩ := q; have := hg _ (List.mem_of_getElem? hq); simp only [V.inst, hq]; unfold okV; intro _; simp only at this; omega
  | .a cs, hk => by unfold okV at hk; simp only [V.inst]; unfold okV; exact okL_inst hg hk
  | .t cs, hk => by unfold okV at hk; simp only [V.inst]; unfold okV; exact okL_inst hg hk
  | .j, _ => trivial
theorem okL_inst {sub : List (Nat × Nat)} {N r : Nat} (hg : ∀ q ∈ sub, q.1 < N) : ∀ {vs : List V}, okL (sub.length + r) vs → okL (N + r) (V.instL sub N vs)
  | [], _ => trivial
  | v :: vs, hk => by unfold okL at hk; unfold V.instL okL; exact ⟨ok_inst hg hk.1, okL_inst hg hk.2⟩
end

theorem instL_get {sub : List (Nat × Nat)} {N : Nat} : ∀ {vs : List V} {j : Nat} {u : V}, (V.instL sub N vs)[j]? = some u → ∃ v, vs[j]? = some v ∧ u = v.inst sub N
  | [], j, u, h => by simp [V.instL] at h
  | v :: vs, 0, u, h => by simp [V.instL] at h; exact ⟨v, by simp, h.symm⟩
  | v :: vs, j + 1, u, h => by simp [V.instL] at h; simpa using instL_get h
theorem instL_get' {sub : List (Nat × Nat)} {N : Nat} : ∀ {vs : List V} {j : Nat} {v : V}, vs[j]? = some v → (V.instL sub N vs)[j]? = some (v.inst sub N)
  | [], j, v, h => by simp at h
  | u :: vs, 0, v, h => by simp at h; subst h; simp [V.instL]
  | u :: vs, j + 1, v, h => by simp at h; simpa [V.instL] using instL_get' h
theorem instL_length {sub : List (Nat × Nat)} {N : Nat} : ∀ (vs : List V), (V.instL sub N vs).length = vs.length
  | [] => rfl
  | v :: vs => by simp [V.instL, instL_length vs]

theorem segOK_get {sub : List (Nat × Nat)} : ∀ {r : List (Nat × Nat)} {ha : List Blk}, segOK hp sub r ha → r.length = ha.length ∧ ∀ (h : Nat) (b : Blk), ha[h]? = some b →
    ∃ g q, r[h]? = some (g, q) ∧ b.own = false ∧ g < hp.length ∧ ((cellsAt hp g).drop q).take b.cells.length = V.instL sub hp.length b.cells
  | [], [], _ => ⟨rfl, fun h b hb => by simp at hb⟩
  | (g, q) :: r, b :: ha, h => by
    unfold segOK at h
    obtain ⟨h1, h2⟩ := segOK_get h.2
    refine ⟨by simp [h1], fun i b' hb => ?_⟩
    cases i with
    | zero => simp at hb; subst hb; exact ⟨g, q, by simp, h.1.1, h.1.2.1, h.1.2.2⟩
    | succ i => simp at hb; obtain ⟨g', q', e1, e2⟩ := h2 i b' hb; exact ⟨g', q', by simpa using e1, e2⟩
  | [], _ :: _, h => by simp [segOK] at h
  | _ :: _, [], h => by simp [segOK] at h

theorem leArgs_rel : ∀ {vs us : List V} {xs : List Value}, leArgs vs us → relL ρ vs xs → relL ρ us xs
  | [], [], _, _, h => h
  | v :: vs, u :: us, l, hl, h => by
    unfold leArgs at hl
    unfold relL at h ⊢
    obtain ⟨x, xs, h1, h2, h3⟩ := h
    refine ⟨x, xs, h1, ?_, leArgs_rel hl.2 h3⟩
    rcases hl.1 with e | ⟨⟨h', o', hs⟩, g, q, e⟩
    · exact e ▸ h2
    · subst e
      obtain ⟨_, a, e2, _⟩ := asS_rel h2 hs
      unfold rel
      exact ⟨Nat.le_refl _, a, e2, fun h => absurd h (by omega)⟩
  | [], _ :: _, _, hl, _ => by simp [leArgs] at hl
  | _ :: _, [], _, hl, _ => by simp [leArgs] at hl

theorem append_cases {α : Type} {l l' : List α} {i : Nat} {y : α} (h : (l ++ l')[i]? = some y) : (i < l.length ∧ l[i]? = some y) ∨ (l.length ≤ i ∧ l'[i - l.length]? = some y) := by
  rcases Nat.lt_or_ge i l.length with hi | hi
  · rw [List.getElem?_append_left hi] at h; exact .inl ⟨hi, h⟩
  · rw [List.getElem?_append_right hi] at h; exact .inr ⟨hi, h⟩

theorem call_run (hd : Hd M w0 ρ hp w) {f : FuncId} {args : List V} {xs : List Value} (hr : relL ρ args xs) {k : V → List Blk → Prop} (h : vCall P f args hp k) :
    hasBody P f ∧ Calls P f xs.toArray w fun e w' => ∃ v hp' ρ' y, e = .returned y ∧ k v hp' ∧ Step M w0 ρ hp w v hp' ρ' w' y ∧ Keep none' w w' := by
  obtain ⟨args0, ha, post, sub, ⟨hbody, hLC⟩, hle, hseg, hok0, hokb, hpost⟩ := h
  obtain ⟨hlen, hsegs⟩ := segOK_get hseg
  have hgN : ∀ q ∈ sub, q.1 < hp.length := fun q hq => by
    obtain ⟨i, hi, rfl⟩ := List.mem_iff_getElem.1 hq
    have hi' : i < ha.length := by omega
    obtain ⟨g, q, e1, _, e3, _⟩ := hsegs i _ (List.getElem?_eq_getElem hi')
    rw [List.getElem?_eq_getElem hi] at e1
    simp only [Option.some.injEq] at e1
    rw [e1]; exact e3
  have hnomod : ∀ k, ¬ modOf ha (ρ.sub sub) k := fun k hk => by
    obtain ⟨h, b, hb, ho, _⟩ := hk
    obtain ⟨_, _, _, e2, _⟩ := hsegs h b hb
    rw [e2] at ho; cases ho
  have hHd : Hd (modOf ha (ρ.sub sub)) w (ρ.sub sub) ha w := by
    refine ⟨Keep.refl _ _, hokb, ?_, ?_, ?_⟩
    · intro h b hb j v hv
      obtain ⟨g, q, e1, _, _, e4⟩ := hsegs h b hb
      have hj := (List.getElem?_eq_some_iff.1 hv).1
      have hv' := instL_get' (sub := sub) (N := hp.length) hv
      rw [← e4, List.getElem?_take, if_pos hj, List.getElem?_drop] at hv'
      unfold cellsAt at hv'
      cases hc : hp[g]? with
      | none => simp [hc] at hv'
      | some c =>
        simp only [hc] at hv'
        obtain ⟨x, hx, h1, h2⟩ := hd.cell g c hc (q + j) _ hv'
        refine ⟨x, ?_, h1, rel_inst (N := hp.length) (by rw [hlen]; exact okL_get (hokb b (List.mem_of_getElem? hb)) hv) h2⟩
        simp only [Loc.sub, e1]
        rw [Nat.add_assoc]; exact hx
    · intro h b hb ho _
      obtain ⟨_, _, _, e2, _⟩ := hsegs h b hb
      rw [e2] at ho; cases ho
    · intro h b h' b' hb _ _ ho _ _
      obtain ⟨_, _, _, e2, _⟩ := hsegs h b hb
      rw [e2] at ho; cases ho
  have hxs : relL (ρ.sub sub) args0 xs := relL_inst (N := hp.length) (by rw [hlen]; exact hok0) (leArgs_rel hle hr)
  refine ⟨hbody, (hLC w (ρ.sub sub) xs hHd hxs hok0).mono fun e w' hR => ?_⟩
  obtain ⟨v, hp', ρc, y, rfl, hpo, hHd', hl', hsame, hv, hokv⟩ := hR
  obtain ⟨hr', rfl, hown, hk⟩ := hpost v hp' hpo
  have hkn : Keep none' w w' := hHd'.keep.mono fun k hk => (hnomod k hk).elim
  have hsub : ∀ h, h < sub.length → ρc h = ρ.sub sub h := fun h hh => hsame h (by omega)
  have hold := hd.keep_none hkn
  refine ⟨_, _, ρ.back ρc hp.length sub.length, y, rfl, hk, ⟨?_, fun h hh => by simp [Loc.back, hh], by simp, rel_back (K := 0) hsub hgN hv, ?_, fun h b hb hne => ?_⟩, hkn⟩
  · -- the blocks behind
    have newB : ∀ {i : Nat} {b : Blk}, (hr'.map fun b => (⟨b.own, V.instL sub hp.length b.cells⟩ : Blk))[i]? = some b → ∃ c, hr'[i]? = some c ∧ b = ⟨c.own, V.instL sub hp.length c.cells⟩ ∧ (ha ++ hr')[ha.length + i]? = some c := fun {i} {b} hb => by
      rw [List.getElem?_map] at hb
      cases hc : hr'[i]? with
      | none => rw [hc] at hb; simp at hb
      | some c => rw [hc] at hb; simp at hb; exact ⟨c, rfl, hb.symm, by rw [List.getElem?_append_right (by omega)]; simpa using hc⟩
    have atNew : ∀ {i : Nat}, hp.length ≤ i → (ρ.back ρc hp.length sub.length) i = ρc (ha.length + (i - hp.length)) := fun {i} hi => by simp only [Loc.back, show ¬ (i < hp.length) by omega, if_false, hlen]
    have atOld : ∀ {i : Nat}, i < hp.length → (ρ.back ρc hp.length sub.length) i = ρ i := fun hi => by simp [Loc.back, hi]
    have nonE : ∀ {c : Blk}, V.instL sub hp.length c.cells ≠ [] → c.cells ≠ [] := fun hne e => hne (by rw [e]; rfl)
    refine ⟨hold.keep, ?_, ?_, ?_, ?_⟩
    · intro b hb
      rw [List.length_append, List.length_map]
      rcases List.mem_append.1 hb with hb | hb
      · exact okL_mono (by omega) (hd.ok b hb)
      · obtain ⟨c, hc, rfl⟩ := List.mem_map.1 hb
        have := hHd'.ok c (List.mem_append.2 (.inr hc))
        rw [List.length_append, ← hlen] at this
        exact okL_inst hgN this
    · intro g b hg j v' hv'
      rcases append_cases hg with ⟨hi, hg⟩ | ⟨hi, hg⟩
      · obtain ⟨x, hx, h1, h2⟩ := hold.cell g b hg j v' hv'
        rw [atOld hi]
        refine ⟨x, hx, h1, rel_congr (N := hp.length) (fun h hh => atOld hh) (okL_get (hd.ok b (List.mem_of_getElem? hg)) hv') h2⟩
      · obtain ⟨c, hc, rfl, hcc⟩ := newB hg
        obtain ⟨u, hu, rfl⟩ := instL_get hv'
        obtain ⟨x, hx, h1, h2⟩ := hHd'.cell _ c hcc j u hu
        rw [atNew hi]
        exact ⟨x, hx, h1, rel_back (K := 0) hsub hgN h2⟩
    · intro g b hg ho hne
      rcases append_cases hg with ⟨hi, hg⟩ | ⟨hi, hg⟩
      · rw [atOld hi]; exact hold.own g b hg ho hne
      · obtain ⟨c, hc, rfl, hcc⟩ := newB hg
        rw [atNew hi]
        obtain ⟨q1, q2⟩ := hHd'.own _ c hcc ho (nonE hne)
        refine ⟨.inl ?_, fun j hj => q2 j (by simpa [instL_length] using hj)⟩
        rcases q1 with q1 | q1
        · exact Nat.le_trans hd.keep.size q1
        · exact (hnomod _ q1).elim
    · intro g b g' b' hg hg' hgg ho hne hne'
      rcases append_cases hg with ⟨hi, hg⟩ | ⟨hi, hg⟩ <;> rcases append_cases hg' with ⟨hi', hg'⟩ | ⟨hi', hg'⟩
      · rw [atOld hi, atOld hi']; exact hd.sep g b g' b' hg hg' hgg ho hne hne'
      · obtain ⟨c, hc, rfl, hcc⟩ := newB hg'
        rw [atOld hi, atNew hi']
        have hlt := hd.lt hg hne
        have hco : c.own = true := by
          rcases hown c (List.mem_of_getElem? hc) with h1 | h1
          · exact h1
          · exact absurd h1 (nonE hne')
        obtain ⟨q1, _⟩ := hHd'.own _ c hcc hco (nonE hne')
        rcases q1 with q1 | q1
        · omega
        · exact (hnomod _ q1).elim
      · obtain ⟨c, hc, rfl, hcc⟩ := newB hg
        rw [atNew hi, atOld hi']
        have hlt := hd.lt hg' hne'
        obtain ⟨q1, _⟩ := hHd'.own _ c hcc ho (nonE hne)
        rcases q1 with q1 | q1
        · omega
        · exact (hnomod _ q1).elim
      · obtain ⟨c, hc, rfl, hcc⟩ := newB hg
        obtain ⟨c', hc', rfl, hcc'⟩ := newB hg'
        rw [atNew hi, atNew hi']
        exact hHd'.sep _ c _ c' hcc hcc' (by omega) ho (nonE hne) (nonE hne')
  · rw [List.length_append, List.length_map]
    rw [List.length_append, ← hlen] at hokv
    exact ok_inst hgN hokv
  · rcases append_cases hb with ⟨hi, hb⟩ | ⟨hi, hb⟩
    · exact .inr ⟨h, b, hb, hne, by simp [Loc.back, hi]⟩
    · rw [List.getElem?_map] at hb
      cases hc : hr'[h - hp.length]? with
      | none => rw [hc] at hb; simp at hb
      | some c =>
        rw [hc] at hb; simp at hb; subst hb
        have hcne : c.cells ≠ [] := fun e => hne (by simp only [e]; rfl)
        have hcc : (ha ++ hr')[ha.length + (h - hp.length)]? = some c := by rw [List.getElem?_append_right (by omega)]; simpa using hc
        have hco : c.own = true := by
          rcases hown c (List.mem_of_getElem? hc) with h1 | h1
          · exact h1
          · exact absurd h1 hcne
        obtain ⟨q1, _⟩ := hHd'.own _ c hcc hco hcne
        rcases q1 with q1 | q1
        · left
          simp only [Loc.back, show ¬ (h < hp.length) by omega, if_false, hlen]
          exact q1
        · exact (hnomod _ q1).elim
end
end Go.Vc
/- Calls that write into an argument's memory: sound. -/
set_option linter.unusedSimpArgs false
set_option linter.unusedVariables false
namespace Go.Vc
open Go
section
variable {P : Program} {E : Env} {M : Nat → Prop} {w0 w : World} {ρ ρ' : Loc} {hp : List Blk}

theorem segM_get {sub : List (Nat × Nat)} : ∀ {r : List (Nat × Nat)} {ha : List Blk}, segM hp sub r ha → r.length = ha.length ∧ ∀ (h : Nat) (b : Blk), ha[h]? = some b →
    ∃ g q, r[h]? = some (g, q) ∧ ((b.own = false ∧ g < hp.length ∧ ((cellsAt hp g).drop q).take b.cells.length = V.instL sub hp.length b.cells) ∨ (b.own = true ∧ q = 0 ∧ hp[g]? = some ⟨true, V.instL sub hp.length b.cells⟩))
  | [], [], _ => ⟨rfl, fun h b hb => by simp at hb⟩
  | (g, q) :: r, b :: ha, h => by
    unfold segM at h
    obtain ⟨h1, h2⟩ := segM_get h.2
    refine ⟨by simp [h1], fun i b' hb => ?_⟩
    cases i with
    | zero => simp at hb; subst hb; exact ⟨g, q, by simp, h.1⟩
    | succ i => simp at hb; obtain ⟨g', q', e1, e2⟩ := h2 i b' hb; exact ⟨g', q', by simpa using e1, e2⟩
  | [], _ :: _, h => by simp [segM] at h
  | _ :: _, [], h => by simp [segM] at h

theorem keepR_get : ∀ {ha ha' : List Blk}, keepR ha ha' → ha'.length = ha.length ∧ ∀ (h : Nat) (b : Blk), ha[h]? = some b → ∃ b', ha'[h]? = some b' ∧ (b.own = true → b'.cells.length = b.cells.length) ∧ (b.own = false → b' = b)
  | [], [], _ => ⟨rfl, fun h b hb => by simp at hb⟩
  | b :: ha, b' :: ha', h => by
    unfold keepR at h
    obtain ⟨h1, h2⟩ := keepR_get h.2
    refine ⟨by simp [h1], fun i c hc => ?_⟩
    cases i with
    | zero => simp at hc; subst hc; exact ⟨b', by simp, fun ho => by have := h.1; rwa [if_pos ho] at this, fun ho => by have := h.1; rwa [if_neg (by simp [ho])] at this⟩
    | succ i => simp at hc; obtain ⟨c', e1, e2⟩ := h2 i c hc; exact ⟨c', by simpa using e1, e2⟩
  | [], _ :: _, h => by simp [keepR] at h
  | _ :: _, [], h => by simp [keepR] at h

theorem putSegs_length {sub : List (Nat × Nat)} {N : Nat} : ∀ (r : List (Nat × Nat)) (ha ha' hp : List Blk), (putSegs sub N hp r ha ha').length = hp.length
  | [], _, _, _ => by simp [putSegs]
  | _ :: _, [], _, _ => by simp [putSegs]
  | _ :: _, _ :: _, [], _ => by simp [putSegs]
  | (g, q) :: r, b :: ha, b' :: ha', hp => by rw [putSegs, putSegs_length r ha ha']; split <;> simp

theorem putSegs_get {sub : List (Nat × Nat)} {N : Nat} : ∀ (r : List (Nat × Nat)) (ha ha' hp : List Blk), r.length = ha.length → ha'.length = ha.length → ∀ {g : Nat} {b : Blk}, (putSegs sub N hp r ha ha')[g]? = some b →
    (hp[g]? = some b ∧ ∀ (h : Nat) (bh : Blk) (q : Nat), ha[h]? = some bh → bh.own = true → r[h]? ≠ some (g, q)) ∨
    (∃ (h : Nat) (bh bh' : Blk) (q : Nat), ha[h]? = some bh ∧ bh.own = true ∧ ha'[h]? = some bh' ∧ r[h]? = some (g, q) ∧ b = ⟨bh'.own, V.instL sub N bh'.cells⟩)
  | [], [], [], hp, _, _, g, b, hb => .inl ⟨by simpa [putSegs] using hb, fun h bh q hh => by simp at hh⟩
  | (g0, q0) :: r, b0 :: ha, b0' :: ha', hp, hl, hl', g, b, hb => by
    rw [putSegs] at hb
    rcases putSegs_get r ha ha' _ (by simpa using hl) (by simpa using hl') hb with ⟨h1, h2⟩ | ⟨h, bh, bh', q, h1, h2, h3, h4, h5⟩
    · by_cases ho : b0.own = true
      · rw [if_pos ho] at h1
        by_cases hg : g0 = g
        · subst hg
          rw [List.getElem?_set] at h1
          simp only [if_true] at h1
          split at h1
          · exact .inr ⟨0, b0, b0', q0, rfl, ho, rfl, rfl, (Option.some.inj h1).symm⟩
          · cases h1
        · rw [List.getElem?_set_ne hg] at h1
          refine .inl ⟨h1, fun h bh q hh hbo => ?_⟩
          cases h with
          | zero => simp only [List.getElem?_cons_zero, ne_eq, Option.some.injEq, Prod.mk.injEq, not_and]; exact fun e => absurd e hg
          | succ h => simpa using h2 h bh q (by simpa using hh) hbo
      · rw [if_neg ho] at h1
        refine .inl ⟨h1, fun h bh q hh hbo => ?_⟩
        cases h with
        | zero => simp at hh; subst hh; exact absurd hbo ho
        | succ h => simpa using h2 h bh q (by simpa using hh) hbo
    · exact .inr ⟨h + 1, bh, bh', q, by simpa using h1, h2, by simpa using h3, by simpa using h4, h5⟩
  | [], _ :: _, _, _, hl, _, _, _, _ => by simp at hl
  | _ :: _, [], _, _, hl, _, _, _, _ => by simp at hl
  | [], [], _ :: _, _, _, hl, _, _, _ => by simp at hl
  | _ :: _, _ :: _, [], _, _, hl, _, _, _ => by simp at hl

theorem callM_run (hd : Hd M w0 ρ hp w) {f : FuncId} {args : List V} {xs : List Value} (hr : relL ρ args xs) {k : V → List Blk → Prop} (h : vCallM P f args hp k) :
    hasBody P f ∧ Calls P f xs.toArray w fun e w' => ∃ v hp' ρ' y, e = .returned y ∧ k v hp' ∧ Step M w0 ρ hp w v hp' ρ' w' y := by
  obtain ⟨args0, ha, post, sub, ⟨hbody, hLC⟩, hle, hseg, hnd, hok0, hokb, hpost⟩ := h
  obtain ⟨hlen, hsegs⟩ := segM_get hseg
  have hgN : ∀ q ∈ sub, q.1 < hp.length := fun q hq => by
    obtain ⟨i, hi, rfl⟩ := List.mem_iff_getElem.1 hq
    have hi' : i < ha.length := by omega
    obtain ⟨g, q, e1, e3⟩ := hsegs i _ (List.getElem?_eq_getElem hi')
    rw [List.getElem?_eq_getElem hi] at e1
    simp only [Option.some.injEq] at e1
    rw [e1]
    rcases e3 with e3 | e3
    · exact e3.2.1
    · exact (List.getElem?_eq_some_iff.1 e3.2.2).1
  have hdis : ∀ {h h' g g' q q' : Nat}, h ≠ h' → sub[h]? = some (g, q) → sub[h']? = some (g', q') → g ≠ g' := fun {h h' g g' q q'} hne e e' heq => by
    subst heq
    have h1 : (sub.map (·.1))[h]? = some g := by rw [List.getElem?_map, e]; rfl
    have h2 : (sub.map (·.1))[h']? = some g := by rw [List.getElem?_map, e']; rfl
    have hlt := (List.getElem?_eq_some_iff.1 h1).1
    have hlt' := (List.getElem?_eq_some_iff.1 h2).1
    have e3 : (sub.map (·.1))[h] = (sub.map (·.1))[h'] := by
      rw [List.getElem?_eq_getElem hlt] at h1; rw [List.getElem?_eq_getElem hlt'] at h2
      rw [Option.some.inj h1, Option.some.inj h2]
    exact hne ((List.getElem_inj hnd).1 e3)
  -- the caller's block behind a block of the callee's
  have hbk : ∀ {h : Nat} {b : Blk}, ha[h]? = some b → b.cells ≠ [] → ∃ (g q : Nat) (c : Blk), sub[h]? = some (g, q) ∧ hp[g]? = some c ∧ c.cells ≠ [] ∧ (b.own = true → c.own = true ∧ q = 0 ∧ c.cells = V.instL sub hp.length b.cells) := fun {h b} hb hne => by
    obtain ⟨g, q, e1, e2⟩ := hsegs h b hb
    have hne' : V.instL sub hp.length b.cells ≠ [] := fun e => hne (List.eq_nil_of_length_eq_zero (by rw [← instL_length (sub := sub) (N := hp.length) b.cells, e]; rfl))
    rcases e2 with ⟨e2, e3, e4⟩ | ⟨e2, e3, e4⟩
    · unfold cellsAt at e4
      rw [List.getElem?_eq_getElem e3] at e4
      simp only at e4
      refine ⟨g, q, _, e1, List.getElem?_eq_getElem e3, fun e => hne' ?_, fun ho => by rw [e2] at ho; cases ho⟩
      rw [← e4, e]; simp
    · exact ⟨g, q, _, e1, e4, hne', fun _ => ⟨rfl, e3, rfl⟩⟩
  have hsub1 : ∀ {h g q : Nat}, sub[h]? = some (g, q) → (ρ.sub sub h) = ((ρ g).1, (ρ g).2 + q) := fun {h g q} e => by simp only [Loc.sub, e]
  have hHd : Hd (modOf ha (ρ.sub sub)) w (ρ.sub sub) ha w := by
    refine ⟨Keep.refl _ _, hokb, ?_, ?_, ?_⟩
    · intro h b hb j v hv
      obtain ⟨g, q, e1, e2⟩ := hsegs h b hb
      have hj := (List.getElem?_eq_some_iff.1 hv).1
      have hv' := instL_get' (sub := sub) (N := hp.length) hv
      rcases e2 with ⟨_, _, e4⟩ | ⟨_, rfl, e4⟩
      · rw [← e4, List.getElem?_take, if_pos hj, List.getElem?_drop] at hv'
        unfold cellsAt at hv'
        cases hc : hp[g]? with
        | none => simp [hc] at hv'
        | some c =>
          simp only [hc] at hv'
          obtain ⟨x, hx, h1, h2⟩ := hd.cell g c hc (q + j) _ hv'
          refine ⟨x, ?_, h1, rel_inst (N := hp.length) (by rw [hlen]; exact okL_get (hokb b (List.mem_of_getElem? hb)) hv) h2⟩
          rw [hsub1 e1]
          show w.cell? ⟨(ρ g).1, (ρ g).2 + q + j, none⟩ = _
          rw [Nat.add_assoc]; exact hx
      · obtain ⟨x, hx, h1, h2⟩ := hd.cell g _ e4 j _ hv'
        refine ⟨x, ?_, h1, rel_inst (N := hp.length) (by rw [hlen]; exact okL_get (hokb b (List.mem_of_getElem? hb)) hv) h2⟩
        rw [hsub1 e1]
        exact hx
    · intro h b hb ho hne
      obtain ⟨g, q, c, e1, e2, e3, e4⟩ := hbk hb hne
      obtain ⟨h1, rfl, h2⟩ := e4 ho
      refine ⟨.inr ⟨h, b, hb, ho, hne, rfl⟩, fun j hj => ?_⟩
      rw [hsub1 e1]
      exact (hd.own g c e2 h1 e3).2 j (by rw [h2, instL_length]; exact hj)
    · intro h b h' b' hb hb' hhh ho hne hne'
      obtain ⟨g, q, c, e1, e2, e3, e4⟩ := hbk hb hne
      obtain ⟨g', q', c', e1', e2', e3', _⟩ := hbk hb' hne'
      rw [hsub1 e1, hsub1 e1']
      exact hd.sep g c g' c' e2 e2' (hdis hhh e1 e1') (e4 ho).1 e3 e3'
  have hxs : relL (ρ.sub sub) args0 xs := relL_inst (N := hp.length) (by rw [hlen]; exact hok0) (leArgs_rel hle hr)
  refine ⟨hbody, (hLC w (ρ.sub sub) xs hHd hxs hok0).mono fun e w' hR => ?_⟩
  obtain ⟨v, hp', ρc, y, rfl, hpo, hHd', hl', hsame, hv, hokv⟩ := hR
  obtain ⟨ha', hr', rfl, hkr, hown, hk⟩ := hpost v hp' hpo
  obtain ⟨hlha, hkrs⟩ := keepR_get hkr
  have hsub : ∀ h, h < sub.length → ρc h = ρ.sub sub h := fun h hh => hsame h (by omega)
  -- what a block of the caller's that the callee may not write is behind the call
  have hstay : ∀ {g : Nat} {b : Blk}, hp[g]? = some b → b.cells ≠ [] → (∀ (h : Nat) (bh : Blk) (q : Nat), ha[h]? = some bh → bh.own = true → sub[h]? ≠ some (g, q)) → ¬ modOf ha (ρ.sub sub) (ρ g).1 := fun {g b} hg hne hno hm => by
    obtain ⟨h, bh, hb, ho, hne', hk'⟩ := hm
    obtain ⟨g', q, c, e1, e2, e3, e4⟩ := hbk hb hne'
    rw [hsub1 e1] at hk'
    have hgg : g' ≠ g := fun e => hno h bh q hb ho (e ▸ e1)
    exact hd.sep g' c g b e2 hg hgg (e4 ho).1 e3 hne hk'.symm
  have hkM : Keep M w0 w' := by
    refine ⟨hHd'.keep.os.trans hd.keep.os, hHd'.keep.tape.trans hd.keep.tape, hHd'.keep.output.trans hd.keep.output, Nat.le_trans hd.keep.size hHd'.keep.size, fun i hi hni => ?_⟩
    refine (hHd'.keep.block i (Nat.lt_of_lt_of_le hi hd.keep.size) fun hm => ?_).trans (hd.keep.block i hi hni)
    obtain ⟨h, bh, hb, ho, hne', hk'⟩ := hm
    obtain ⟨g', q, c, e1, e2, e3, e4⟩ := hbk hb hne'
    rw [hsub1 e1] at hk'
    rcases (hd.own g' c e2 (e4 ho).1 e3).1 with h1 | h1
    · rw [← hk'] at h1; exact absurd hi (by omega)
    · rw [← hk'] at h1; exact hni h1
  have atOld : ∀ {i : Nat}, i < hp.length → (ρ.back ρc hp.length sub.length) i = ρ i := fun hi => by simp [Loc.back, hi]
  have atNew : ∀ {i : Nat}, hp.length ≤ i → (ρ.back ρc hp.length sub.length) i = ρc (ha.length + (i - hp.length)) := fun {i} hi => by simp only [Loc.back, show ¬ (i < hp.length) by omega, if_false, hlen]
  have nonE : ∀ {c : Blk}, V.instL sub hp.length c.cells ≠ [] → c.cells ≠ [] := fun hne e => hne (by rw [e]; rfl)
  have newB : ∀ {i : Nat} {b : Blk}, (hr'.map fun b => (⟨b.own, V.instL sub hp.length b.cells⟩ : Blk))[i]? = some b → ∃ c, hr'[i]? = some c ∧ b = ⟨c.own, V.instL sub hp.length c.cells⟩ ∧ (ha' ++ hr')[ha.length + i]? = some c := fun {i} {b} hb => by
    rw [List.getElem?_map] at hb
    cases hc : hr'[i]? with
    | none => rw [hc] at hb; simp at hb
    | some c => rw [hc] at hb; simp at hb; exact ⟨c, rfl, hb.symm, by rw [List.getElem?_append_right (by omega)]; simpa [hlha] using hc⟩
  have hPl := putSegs_length (sub := sub) (N := hp.length) sub ha ha' hp
  have hPg := fun {g : Nat} {b : Blk} (hb : (putSegs sub hp.length hp sub ha ha')[g]? = some b) => putSegs_get (sub := sub) (N := hp.length) sub ha ha' hp hlen hlha hb
  -- the block that was there before
  have hold : ∀ {g : Nat} {b : Blk}, (putSegs sub hp.length hp sub ha ha')[g]? = some b → b.cells ≠ [] → ∃ c : Blk, hp[g]? = some c ∧ c.cells ≠ [] ∧ (b.own = true → c.own = true) := fun {g b} hb hne => by
    rcases hPg hb with ⟨h1, _⟩ | ⟨h, bh, bh', q, h1, h2, h3, h4, rfl⟩
    · exact ⟨b, h1, hne, id⟩
    · obtain ⟨bx, e1, e2, _⟩ := hkrs h bh h1
      rw [h3] at e1; cases e1
      have hne2 : bh.cells ≠ [] := fun e => nonE hne (List.eq_nil_of_length_eq_zero (by rw [e2 h2, e]; rfl))
      obtain ⟨g', q', c, f1, f2, f3, f4⟩ := hbk h1 hne2
      rw [h4] at f1; cases f1
      exact ⟨c, f2, f3, fun _ => (f4 h2).1⟩
  refine ⟨_, _, ρ.back ρc hp.length sub.length, y, rfl, hk, ⟨?_, fun h hh => by simp [Loc.back, hh], by simp [hPl], rel_back (K := 0) hsub hgN hv, ?_, fun h b hb hne => ?_⟩⟩
  · refine ⟨hkM, ?_, ?_, ?_, ?_⟩
    · intro b hb
      rw [List.length_append, List.length_map, hPl]
      rcases List.mem_append.1 hb with hb | hb
      · obtain ⟨g, hg⟩ := List.mem_iff_getElem?.1 hb
        rcases hPg hg with ⟨h1, _⟩ | ⟨h, bh, bh', q, h1, h2, h3, h4, rfl⟩
        · exact okL_mono (by omega) (hd.ok b (List.mem_of_getElem? h1))
        · have := hHd'.ok bh' (List.mem_append.2 (.inl (List.mem_of_getElem? h3)))
          rw [List.length_append, hlha, ← hlen] at this
          exact okL_inst hgN this
      · obtain ⟨c, hc, rfl⟩ := List.mem_map.1 hb
        have := hHd'.ok c (List.mem_append.2 (.inr hc))
        rw [List.length_append, hlha, ← hlen] at this
        exact okL_inst hgN this
    · intro g b hg j v' hv'
      rcases append_cases hg with ⟨hi, hg⟩ | ⟨hi, hg⟩
      · rw [hPl] at hi
        rw [atOld hi]
        rcases hPg hg with ⟨h1, h2⟩ | ⟨h, bh, bh', q, h1, h2, h3, h4, rfl⟩
        · obtain ⟨x, hx, h3, h4⟩ := hd.cell g b h1 j v' hv'
          have hne : b.cells ≠ [] := fun e => by rw [e] at hv'; simp at hv'
          refine ⟨x, ?_, h3, rel_congr (N := hp.length) (fun h hh => atOld hh) (okL_get (hd.ok b (List.mem_of_getElem? h1)) hv') h4⟩
          exact (hHd'.keep.cell (World.block_lt_of_cell? _ _ hx) (hstay h1 hne h2)).trans hx
        · obtain ⟨u, hu, rfl⟩ := instL_get hv'
          have hcc : (ha' ++ hr')[h]? = some bh' := by rw [List.getElem?_append_left (List.getElem?_eq_some_iff.1 h3).1]; exact h3
          obtain ⟨x, hx, h5, h6⟩ := hHd'.cell h bh' hcc j u hu
          have hq : q = 0 := by
            obtain ⟨g', q', f1, f2⟩ := hsegs h bh h1
            rw [h4] at f1; cases f1
            rcases f2 with ⟨f2, _⟩ | ⟨_, f2, _⟩
            · rw [f2] at h2; cases h2
            · exact f2
          rw [hsub h (List.getElem?_eq_some_iff.1 h4).1, hsub1 h4, hq] at hx
          exact ⟨x, hx, h5, rel_back (K := 0) hsub hgN h6⟩
      · rw [hPl] at hi hg
        obtain ⟨c, hc, rfl, hcc⟩ := newB hg
        obtain ⟨u, hu, rfl⟩ := instL_get hv'
        obtain ⟨x, hx, h1, h2⟩ := hHd'.cell _ c hcc j u hu
        rw [atNew hi]
        exact ⟨x, hx, h1, rel_back (K := 0) hsub hgN h2⟩
    · intro g b hg ho hne
      rcases append_cases hg with ⟨hi, hg⟩ | ⟨hi, hg⟩
      · rw [hPl] at hi
        rw [atOld hi]
        obtain ⟨c, f1, f2, f3⟩ := hold hg hne
        refine ⟨(hd.own g c f1 (f3 ho) f2).1, ?_⟩
        rcases hPg hg with ⟨h1, h2⟩ | ⟨h, bh, bh', q, h1, h2, h3, h4, rfl⟩
        · intro j hj
          exact (hHd'.keep.frozen (by simpa using hd.lt h1 hne) (hstay h1 hne h2)).trans ((hd.own g b h1 ho hne).2 j hj)
        · intro j hj
          have hcc : (ha' ++ hr')[h]? = some bh' := by rw [List.getElem?_append_left (List.getElem?_eq_some_iff.1 h3).1]; exact h3
          have hq : q = 0 := by
            obtain ⟨g', q', e1, e2⟩ := hsegs h bh h1
            rw [h4] at e1; cases e1
            rcases e2 with ⟨e2, _⟩ | ⟨_, e2, _⟩
            · rw [e2] at h2; cases h2
            · exact e2
          have := (hHd'.own h bh' hcc ho (nonE hne)).2 j (by simpa [instL_length] using hj)
          rw [hsub h (List.getElem?_eq_some_iff.1 h4).1, hsub1 h4, hq] at this
          exact this
      · rw [hPl] at hi hg
        obtain ⟨c, hc, rfl, hcc⟩ := newB hg
        rw [atNew hi]
        obtain ⟨q1, q2⟩ := hHd'.own _ c hcc ho (nonE hne)
        refine ⟨.inl ?_, fun j hj => q2 j (by simpa [instL_length] using hj)⟩
        rcases q1 with q1 | q1
        · exact Nat.le_trans hd.keep.size q1
        · obtain ⟨h, bh, hb, hbo, hbne, hbk'⟩ := q1
          obtain ⟨bx, e1, e2, _⟩ := hkrs h bh hb
          have hcc' : (ha' ++ hr')[h]? = some bx := by rw [List.getElem?_append_left (List.getElem?_eq_some_iff.1 e1).1]; exact e1
          have hlt : h < ha.length := (List.getElem?_eq_some_iff.1 hb).1
          exact absurd (hbk'.trans (by rw [hsame h hlt])) (hHd'.sep _ c h bx hcc hcc' (by omega) ho (nonE hne) (fun e => hbne (List.eq_nil_of_length_eq_zero (by rw [← e2 hbo, e]; rfl))))
    · intro g b g' b' hg hg' hgg ho hne hne'
      have newOwn : ∀ {i : Nat} {c : Blk}, hr'[i]? = some c → c.cells ≠ [] → (ha' ++ hr')[ha.length + i]? = some c → w.heap.size ≤ (ρc (ha.length + i)).1 := fun {i c} hc hcne hcc => by
        have hco : c.own = true := by
          rcases hown c (List.mem_of_getElem? hc) with h1 | h1
          · exact h1
          · exact absurd h1 hcne
        obtain ⟨q1, _⟩ := hHd'.own _ c hcc hco hcne
        rcases q1 with q1 | q1
        · exact q1
        · obtain ⟨h, bh, hb, hbo, hbne, hbk'⟩ := q1
          obtain ⟨bx, e1, e2, _⟩ := hkrs h bh hb
          have hcc' : (ha' ++ hr')[h]? = some bx := by rw [List.getElem?_append_left (List.getElem?_eq_some_iff.1 e1).1]; exact e1
          have hlt : h < ha.length := (List.getElem?_eq_some_iff.1 hb).1
          exact absurd (hbk'.trans (by rw [hsame h hlt])) (hHd'.sep _ c h bx hcc hcc' (by omega) hco hcne (fun e => hbne (List.eq_nil_of_length_eq_zero (by rw [← e2 hbo, e]; rfl))))
      rcases append_cases hg with ⟨hi, hg⟩ | ⟨hi, hg⟩ <;> rcases append_cases hg' with ⟨hi', hg'⟩ | ⟨hi', hg'⟩ <;> rw [hPl] at hi hi'
      · rw [atOld hi, atOld hi']
        obtain ⟨c, f1, f2, f3⟩ := hold hg hne
        obtain ⟨c', f1', f2', _⟩ := hold hg' hne'
        exact hd.sep g c g' c' f1 f1' hgg (f3 ho) f2 f2'
      · rw [hPl] at hg'
        obtain ⟨c', hc', rfl, hcc'⟩ := newB hg'
        rw [atOld hi, atNew hi']
        obtain ⟨c, f1, f2, _⟩ := hold hg hne
        have h1 := hd.lt f1 f2
        have h2 := newOwn hc' (nonE hne') hcc'
        omega
      · rw [hPl] at hg
        obtain ⟨c, hc, rfl, hcc⟩ := newB hg
        rw [atNew hi, atOld hi']
        obtain ⟨c', f1, f2, _⟩ := hold hg' hne'
        have h1 := hd.lt f1 f2
        have h2 := newOwn hc (nonE hne) hcc
        omega
      · rw [hPl] at hg hg'
        obtain ⟨c, hc, rfl, hcc⟩ := newB hg
        obtain ⟨c', hc', rfl, hcc'⟩ := newB hg'
        rw [atNew hi, atNew hi']
        exact hHd'.sep _ c _ c' hcc hcc' (by omega) ho (nonE hne) (nonE hne')
  · rw [List.length_append, List.length_map, hPl]
    rw [List.length_append, hlha, ← hlen] at hokv
    exact ok_inst hgN hokv
  · rcases append_cases hb with ⟨hi, hb⟩ | ⟨hi, hb⟩
    · rw [hPl] at hi
      obtain ⟨c, f1, f2, _⟩ := hold hb hne
      exact .inr ⟨h, c, f1, f2, by rw [atOld hi]⟩
    · rw [hPl] at hi hb
      obtain ⟨c, hc, rfl, hcc⟩ := newB hb
      have hcne := nonE hne
      have hco : c.own = true := by
        rcases hown c (List.mem_of_getElem? hc) with h1 | h1
        · exact h1
        · exact absurd h1 hcne
      obtain ⟨q1, _⟩ := hHd'.own _ c hcc hco hcne
      rw [atNew hi]
      rcases q1 with q1 | q1
      · exact .inl q1
      · obtain ⟨h', bh, hb', hbo, hbne, hbk'⟩ := q1
        obtain ⟨bx, e1, e2, _⟩ := hkrs h' bh hb'
        have hcc' : (ha' ++ hr')[h']? = some bx := by rw [List.getElem?_append_left (List.getElem?_eq_some_iff.1 e1).1]; exact e1
        have hlt : h' < ha.length := (List.getElem?_eq_some_iff.1 hb').1
        exact absurd (hbk'.trans (by rw [hsame h' hlt])) (hHd'.sep _ c h' bx hcc hcc' (by omega) hco hcne (fun e => hbne (List.eq_nil_of_length_eq_zero (by rw [← e2 hbo, e]; rfl))))
end
end Go.Vc
/- Regions in whatever order, code, functions: the verification conditions are sound. -/
set_option linter.unusedSimpArgs false
set_option linter.unusedVariables false
namespace Go.Vc
open Go
section
variable {P : Program} {E : Env} {t : TypeId} {d : TD} {M : Nat → Prop} {w0 w : World} {ρ ρ' : Loc} {hp : List Blk} {mu : List FuncId}

theorem callFunc_run {f : FuncId} (h : hasBody P f) (args : Array Value) (w : World) : (callFunc f args).run P w = .ok (.enter f args) w := by
  obtain ⟨fn, hf, hb, hn⟩ := h
  obtain ⟨c, hc⟩ := Option.isSome_iff_exists.1 hb
  have hn' : fn.name ≠ "runtime.NumGoroutine" := by simpa using hn
  simp [callFunc, hf, hn', hc]

theorem vcE_sound (hE : EnvOK P E) {o : Oper} {a : Act} {tm : List V} (hd : Hd M w0 ρ hp w) (ht : relL ρ tm a.tmps.toList) (hk : okL hp.length tm) {k : V → List Blk → Prop} (h : vcE E P mu o.op tm hp k)
    {K : Act → World → Prop} {Q : Exit → Act → World → Prop}
    (hK : ∀ v hp' ρ' w' y, k v hp' → Step M w0 ρ hp w v hp' ρ' w' y → (presOp mu o.op = true → Keep none' w w') → K (a.put o.dst y) w') : o.wp P a w K Q := by
  obtain ⟨dst, op, ty, pos, af, gd⟩ := o
  simp only at h hK
  unfold Oper.wp
  cases op <;> simp only [vcE] at h
  case alloc t =>
    cases hE0 : E t with
    | none => simp [hE0] at h
    | some dd =>
      simp only [hE0] at h
      obtain ⟨w', ρ', y, h1, h2, h3⟩ := alloc_run hE hE0 hd
      simp only [execOp, Sem.run_bind, h1, Result.andThen_ok, Sem.run_pure, Oper.upon]
      exact hK _ _ _ _ _ h h2 (fun _ => h3)
  case box t x =>
    cases hc : cellsOf (ev tm x) with
    | none => simp [hc] at h
    | some cs =>
      simp only [hc] at h
      obtain ⟨w', ρ', y, h1, h2, h3⟩ := box_run (P := P) (t := t) (ev_rel ht x) (ev_ok hk x) hc hd
      simp only [execOp, Sem.run_bind, h1, Result.andThen_ok, Sem.run_pure, Oper.upon]
      exact hK _ _ _ _ _ h h2 (fun _ => h3)
  case buildSlice t n ps =>
    obtain ⟨v, hp', w', ρ', y, h0, h1, h2, h3⟩ := buildSlice_run hE hd (ps := ps.toList.map fun q => (q.1, ev tm q.2)) (qs := ps.toList.map fun q => (q.1, a.eval q.2)) (by simp)
      (by have := evs_rel (a := a) ht (ps.toList.map (·.2)); simpa [List.map_map, Function.comp_def] using this)
      (by have := evs_ok hk (ps.toList.map (·.2)); simpa [List.map_map, Function.comp_def] using this) h
    have h1' : (Instr.buildSlice t n (ps.map fun q => (q.1, a.eval q.2))).run P w = .ok y w' := by
      rwa [← List.map_toArray, Array.toArray_toList] at h1
    simp only [execOp, Sem.run_bind, h1', Result.andThen_ok, Sem.run_pure, Oper.upon]
    exact hK _ _ _ _ _ h0 h2 (fun _ => h3)
  case store t x y =>
    obtain ⟨hp', w', h0, h1, h2⟩ := store_run hE hd (ev_rel ht x) (ev_rel ht y) (ev_ok hk y) h
    simp only [execOp, Sem.run_bind, h1, Result.andThen_ok, Sem.run_pure, Oper.upon]
    exact hK _ _ _ _ _ h0 h2 (fun hp => by simp [presOp, isS] at hp)
  case makeSlice t l c =>
    obtain ⟨v, hp', w', ρ', y, h0, h1, h2, h3⟩ := makeSlice_run hE hd (ev_rel ht l) (ev_rel ht c) h
    simp only [execOp, Sem.run_bind, h1, Result.andThen_ok, Sem.run_pure, Oper.upon]
    exact hK _ _ _ _ _ h0 h2 (fun _ => h3)
  case call c =>
    obtain ⟨callee, args, ts⟩ := c
    cases callee with
    | invoke r m => exact h.elim
    | builtin b =>
      cases b <;> simp only at h
      case append =>
        obtain ⟨v, hp', w', ρ', y, h0, h1, h2⟩ := app_run hE hd (evs_rel (a := a) ht args.toList) h ty
        rw [Array.toArray_toList, ← List.map_toArray, Array.toArray_toList] at h1
        have hx : (execOp a.eval ⟨dst, .call ⟨.builtin .append, args, ts⟩, ty, pos, af, gd⟩).run P w = .ok (.value y) w' := by
          simp [execOp, resolve, invoke, builtin, h1]
        rw [hx]
        simp only [Oper.upon]
        exact hK _ _ _ _ _ h0 h2 (fun hp => by simp [presOp, isS] at hp)
      case copy =>
        obtain ⟨v, hp', w', ρ', y, h0, h1, h2⟩ := copy_run hE hd (evs_rel (a := a) ht args.toList) h ty
        rw [Array.toArray_toList, ← List.map_toArray, Array.toArray_toList] at h1
        have hx : (execOp a.eval ⟨dst, .call ⟨.builtin .copy, args, ts⟩, ty, pos, af, gd⟩).run P w = .ok (.value y) w' := by
          simp [execOp, resolve, invoke, builtin, h1]
        rw [hx]
        simp only [Oper.upon]
        exact hK _ _ _ _ _ h0 h2 (fun hp => by simp [presOp, isS] at hp)
      all_goals exact h.elim
    | value f =>
      cases f <;> simp only at h
      case func f =>
        by_cases hm : mu.contains f = true
        · rw [if_pos hm] at h
          obtain ⟨hb, hc⟩ := callM_run hd (evs_rel (a := a) ht args.toList) h
          have hx : (execOp a.eval ⟨dst, .call ⟨.value (.func f), args, ts⟩, ty, pos, af, gd⟩).run P w = .ok (.enter f (args.map a.eval)) w := by
            simp [execOp, resolve, Deferred.ofValue, Act.eval, invoke, callFunc_run hb]
          rw [hx]
          simp only [Oper.upon]
          rw [← List.map_toArray, Array.toArray_toList] at hc
          refine hc.mono fun e w' hR => ?_
          obtain ⟨v, hp', ρ', y, rfl, h0, h2⟩ := hR
          exact hK _ _ _ _ _ h0 h2 (fun hp => by simp only [presOp, hm] at hp; cases hp)
        rw [if_neg hm] at h
        rcases h with h | ⟨z, hz, hx0⟩
        case inr =>
          have hx1 := hx0 M w0 w ρ _ hd (evs_rel (a := a) ht args.toList)
          rw [← List.map_toArray, Array.toArray_toList] at hx1
          have hx : (execOp a.eval ⟨dst, .call ⟨.value (.func f), args, ts⟩, ty, pos, af, gd⟩).run P w = .ok (.value z) w := by
            simp [execOp, resolve, Deferred.ofValue, Act.eval, invoke, hx1]
          rw [hx]
          simp only [Oper.upon]
          exact hK _ _ _ _ _ hz ⟨hd, fun _ _ => rfl, Nat.le_refl _, by unfold rel; rfl, trivial, src_same⟩ (fun _ => Keep.refl _ _)
        obtain ⟨hb, hc⟩ := call_run hd (evs_rel (a := a) ht args.toList) h
        have hx : (execOp a.eval ⟨dst, .call ⟨.value (.func f), args, ts⟩, ty, pos, af, gd⟩).run P w = .ok (.enter f (args.map a.eval)) w := by
          simp [execOp, resolve, Deferred.ofValue, Act.eval, invoke, callFunc_run hb]
        rw [hx]
        simp only [Oper.upon]
        rw [← List.map_toArray, Array.toArray_toList] at hc
        refine hc.mono fun e w' hR => ?_
        obtain ⟨v, hp', ρ', y, rfl, h0, h2, h3⟩ := hR
        exact hK _ _ _ _ _ h0 h2 (fun _ => h3)
      case tmp t =>
        unfold vCallV at h
        have hr := ev_rel ht (.tmp t)
        split at h
        · rename_i f fi ca hf
          obtain ⟨rfl, rfl, hm, h⟩ := h
          rw [hf] at hr
          unfold rel at hr
          rcases h with h | ⟨z, hz, hx0⟩
          case inr =>
            have hx1 := hx0 M w0 w ρ _ hd (evs_rel (a := a) ht args.toList)
            rw [← List.map_toArray, Array.toArray_toList] at hx1
            have hx : (execOp a.eval ⟨dst, .call ⟨.value (.tmp t), args, ts⟩, ty, pos, af, gd⟩).run P w = .ok (.value z) w := by
              simp [execOp, resolve, Deferred.ofValue, hr, invoke, hx1]
            rw [hx]
            simp only [Oper.upon]
            exact hK _ _ _ _ _ hz ⟨hd, fun _ _ => rfl, Nat.le_refl _, by unfold rel; rfl, trivial, src_same⟩ (fun _ => Keep.refl _ _)
          obtain ⟨hb, hc⟩ := call_run hd (evs_rel (a := a) ht args.toList) h
          have hx : (execOp a.eval ⟨dst, .call ⟨.value (.tmp t), args, ts⟩, ty, pos, af, gd⟩).run P w = .ok (.enter f (args.map a.eval)) w := by
            simp [execOp, resolve, Deferred.ofValue, hr, invoke, callFunc_run hb]
          rw [hx]
          simp only [Oper.upon]
          rw [← List.map_toArray, Array.toArray_toList] at hc
          refine hc.mono fun e w' hR => ?_
          obtain ⟨v, hp', ρ', y, rfl, h0, h2, h3⟩ := hR
          exact hK _ _ _ _ _ h0 h2 (fun _ => h3)
        · exact h.elim
      all_goals exact h.elim
  all_goals exact h.elim

/-- A frame and a world that an abstract state tells of. -/
structure Inv (M : Nat → Prop) (w0 : World) (ρ0 : Loc) (m : Nat) (tm : List V) (hp : List Blk) (a : Act) (w : World) : Prop where
  ex : ∃ ρ, Hd M w0 ρ hp w ∧ relL ρ tm a.tmps.toList ∧ (∀ h, h < m → ρ h = ρ0 h)
  ok : okL hp.length tm
  defers : a.defers = []
  len : m ≤ hp.length

theorem put_rel {tm : List V} {a : Act} (h : relL ρ tm a.tmps.toList) {v : V} {y : Value} (hv : rel ρ v y) (d : Option Tmp) : relL ρ (putV tm d v) (a.put d y).tmps.toList := by
  cases d with
  | none => exact h
  | some t =>
    simp only [putV, Act.put]
    have := relL_set h hv t
    rwa [Array.toList_setIfInBounds]
theorem put_ok {N : Nat} {tm : List V} (h : okL N tm) {v : V} (hv : okV N v) (d : Option Tmp) : okL N (putV tm d v) := by
  cases d with
  | none => exact h
  | some t => exact okL_set h hv t
theorem put_defers (a : Act) (d : Option Tmp) (y : Value) : (a.put d y).defers = a.defers := by cases d <;> rfl

theorem Inv.step {ρ0 : Loc} {m : Nat} {tm : List V} {a : Act} (hd : Hd M w0 ρ hp w) (ht : relL ρ tm a.tmps.toList) (hb : ∀ h, h < m → ρ h = ρ0 h) (hok : okL hp.length tm) (hdf : a.defers = []) (hl : m ≤ hp.length)
    {v : V} {hp' : List Blk} {w' : World} {y : Value} (hs : Step M w0 ρ hp w v hp' ρ' w' y) (d : Option Tmp) : Inv M w0 ρ0 m (putV tm d v) hp' (a.put d y) w' :=
  ⟨⟨ρ', hs.hd, put_rel (relL_congr (N := hp.length) hs.same hok ht) hs.val d, fun h hh => (hs.same h (by omega)).trans (hb h hh)⟩,
    put_ok (okL_mono hs.len hok) hs.ok d, by rw [put_defers, hdf], Nat.le_trans hl hs.len⟩

theorem Step.nil (hd : Hd M w0 ρ hp w) : Step M w0 ρ hp w (.c undef) hp ρ w undef := ⟨hd, fun _ _ => rfl, Nat.le_refl _, by unfold rel; rfl, trivial, src_same⟩

theorem wanted_off {ops : List Oper} {tm : List V} {a : Act} (ht : relL ρ tm a.tmps.toList) {j : Nat} {want : Bool} {x : Array Value} {d : Tmp} (hj : (ops[j]?).bind (·.dst) = some d) (hb : tm[d]? = some (.c (.tuple x))) {o : Oper} (hg : o.guard = some (j, want)) :
    Region.wanted o (yielded ops.toArray a.tmps) = false := by
  obtain ⟨y, hx, hr⟩ := relL_get ht hb
  unfold rel at hr
  subst hr
  have hx' : a.tmps[d]? = some (.tuple x) := by simpa using hx
  have hj' : ((ops.toArray)[j]?).bind (·.dst) = some d := by simpa using hj
  have hy : yielded ops.toArray a.tmps j = none := by unfold yielded; rw [hj']; simp [hx']
  simp only [Region.wanted, hg, hy]
  rfl

theorem wanted_of {ops : List Oper} {tm : List V} {a : Act} (ht : relL ρ tm a.tmps.toList) {j : Nat} {want b : Bool} {d : Tmp} (hj : (ops[j]?).bind (·.dst) = some d) (hb : tm[d]? = some (.c (.bool b))) {o : Oper} (hg : o.guard = some (j, want)) :
    Region.wanted o (yielded ops.toArray a.tmps) = (b == want) := by
  obtain ⟨x, hx, hr⟩ := relL_get ht hb
  unfold rel at hr
  subst hr
  have hx' : a.tmps[d]? = some (.bool b) := by simpa using hx
  have hj' : ((ops.toArray)[j]?).bind (·.dst) = some d := by simpa using hj
  have hy : yielded ops.toArray a.tmps j = some b := by unfold yielded; rw [hj']; simp [hx']
  simp only [Region.wanted, hg, hy]
  cases b <;> cases want <;> rfl

/-- What one operation, under its guard, leaves: told for both ways of walking. -/
theorem vcG_cases {X : Env} {ops : List Oper} {o : Oper} {tm : List V} {k : List V → List Blk → Prop} (h : vcG X P mu ops o tm hp k) {a : Act} (ht : relL ρ tm a.tmps.toList) :
    (Region.wanted o (yielded ops.toArray a.tmps) = true ∧ vcOne X P mu o tm hp k) ∨ (Region.wanted o (yielded ops.toArray a.tmps) = false ∧ k (putV tm o.dst (.c undef)) hp) := by
  unfold vcG at h
  cases hg : o.guard with
  | none => simp only [hg] at h; exact .inl ⟨by simp [Region.wanted, hg], h⟩
  | some q =>
    obtain ⟨j, want⟩ := q
    simp only [hg] at h
    cases hj : (ops[j]?).bind (·.dst) with
    | none => simp [hj] at h
    | some d =>
      simp only [hj] at h
      split at h
      · rename_i b hb
        have hw := wanted_of ht hj hb hg
        by_cases hbw : b = want
        · exact .inl ⟨by rw [hw]; simpa using hbw, h.1 hbw⟩
        · exact .inr ⟨by rw [hw]; simpa using hbw, h.2 hbw⟩
      · rename_i x hb
        exact .inr ⟨wanted_off ht hj hb hg, h⟩
      · exact h.elim

theorem vcOne_wpS (hE : EnvOK P E) {o : Oper} {a : Act} {tm : List V} (hd : Hd M w0 ρ hp w) (ht : relL ρ tm a.tmps.toList) (hok : okL hp.length tm) {k : List V → List Blk → Prop} (h : vcOne E P mu o tm hp k) {K : Act → World → Prop} {Q : Exit → Act → World → Prop}
    (hK : ∀ v hp' ρ' w' y, k (putV tm o.dst v) hp' → Step M w0 ρ hp w v hp' ρ' w' y → (presOp mu o.op = true → Keep none' w w') → K (a.put o.dst y) w') : o.wp P a w K Q := by
  unfold vcOne at h
  by_cases hs : isS o.op = true
  · rw [if_pos hs] at h
    obtain ⟨u, y, h1, h2, h3, h4⟩ := vcS_sound hE hd ht hok h
    unfold Oper.wp
    rw [h4 w (fun _ => Keep.refl _ _)]
    simp only [Oper.upon]
    exact hK _ _ _ _ _ h1 ⟨hd, fun _ _ => rfl, Nat.le_refl _, h2, h3, src_same⟩ (fun _ => Keep.refl _ _)
  · rw [if_neg hs] at h
    exact vcE_sound (mu := mu) hE hd ht hok h fun v hp' ρ' w' y hk hst hp => hK _ _ _ _ _ hk hst hp

theorem vcOne_wp (hE : EnvOK P E) {o : Oper} {a : Act} {tm : List V} {ρ0 : Loc} {m : Nat} (hI : Inv M w0 ρ0 m tm hp a w) {k : List V → List Blk → Prop} (h : vcOne E P mu o tm hp k) {K : Act → World → Prop} {Q : Exit → Act → World → Prop}
    (hK : ∀ tm' hp' a' w', k tm' hp' → Inv M w0 ρ0 m tm' hp' a' w' → (presOp mu o.op = true → Keep none' w w') → K a' w') : o.wp P a w K Q := by
  obtain ⟨⟨ρ, hd, ht, hb⟩, hok, hdf, hl⟩ := hI
  exact vcOne_wpS hE hd ht hok h fun v hp' ρ' w' y hk hst hp => hK _ _ _ _ hk (Inv.step hd ht hb hok hdf hl hst _) hp

theorem vcList_sound (hE : EnvOK P E) {ops : List Oper} {Q : Exit → Act → World → Prop} {ρ0 : Loc} {m : Nat} {k : List V → List Blk → Prop} (hQ : ∀ tm' hp' a' w', k tm' hp' → Inv M w0 ρ0 m tm' hp' a' w' → Q .normal a' w') :
    ∀ (l : List Oper) (tm : List V) (hp : List Blk) (a : Act) (w : World), vcList E P mu ops l tm hp k → Inv M w0 ρ0 m tm hp a w → wpList P ops.toArray Q l a w
  | [], tm, hp, a, w, h, hI => by
    unfold vcList at h
    exact hQ _ _ _ _ h hI
  | o :: l, tm, hp, a, w, h, hI => by
    unfold vcList at h
    unfold wpList
    obtain ⟨ρ, hd, ht, hb⟩ := hI.ex
    rcases vcG_cases h ht with ⟨hw, h1⟩ | ⟨hw, h1⟩
    · rw [if_pos hw]
      exact .inl (vcOne_wp (mu := mu) hE hI h1 fun tm' hp' a' w' hk hI' _ => vcList_sound hE hQ l tm' hp' a' w' hk hI')
    · rw [if_neg (by simp [hw])]
      refine vcList_sound hE hQ l _ _ _ _ h1 (Inv.step hd ht hb hI.ok hI.defers hI.len (Step.nil hd) _)

/-! ### Whatever order -/
def presAt (mu : List FuncId) (ops : Array Oper) (i : Nat) : Bool := ((ops[i]?).map fun q => presOp mu q.op).getD true

def wpAnyM (P : Program) (mu : List FuncId) (ops : Array Oper) (Q : Exit → Act → World → Prop) : Nat → Array Bool → Act → World → Prop
  | 0, listed, a, w => Region.ready .any ops listed = [] ∧ Q .normal a w
  | fuel + 1, listed, a, w =>
    (Region.ready .any ops listed = [] → Q .normal a w) ∧
    ∀ i ∈ Region.ready .any ops listed, wpOp P ops Q i (fun a' w' => (presAt mu ops i = true → Keep none' w w') ∧ wpAnyM P mu ops Q fuel (listed.setIfInBounds i true) a' w') a w

theorem wpAny_of_M {ops : Array Oper} {Q : Exit → Act → World → Prop} : ∀ (fuel : Nat) (listed : Array Bool) (a : Act) (w : World), wpAnyM P mu ops Q fuel listed a w → wpAny P .any ops Q fuel listed a w
  | 0, _, _, _, h => h
  | fuel + 1, _, _, _, h => ⟨h.1, fun i hi => wpOp_mono (fun a' w' h' => wpAny_of_M fuel _ a' w' h'.2) (h.2 i hi)⟩

theorem wpAnyM_done {ops : Array Oper} {Q : Exit → Act → World → Prop} {listed : Array Bool} {a : Act} {w : World} (hr : Region.ready .any ops listed = []) (h : Q .normal a w) : ∀ fuel, wpAnyM P mu ops Q fuel listed a w
  | 0 => ⟨hr, h⟩
  | _ + 1 => ⟨fun _ => h, by rw [hr]; simp⟩

/-- Whoever is listed, those that it waits for are listed. -/
def Dn (ops : Array Oper) (listed : Array Bool) : Prop := ∀ (j : Nat) (oj : Oper), ops[j]? = some oj → listed.getD j false = true → ∀ e ∈ oj.after, Region.binds .any e = true → listed.getD e.on false = true

theorem Dn.waits {ops : Array Oper} {listed : Array Bool} (h : Dn ops listed) {i : Nat} : ∀ (n j : Nat) (oj : Oper), ops[j]? = some oj → (∀ e ∈ oj.after, Region.binds .any e = true → listed.getD e.on false = true) → waitsB ops i n j = true → listed.getD i false = true
  | 0, _, _, _, _, hw => by simp [waitsB] at hw
  | n + 1, j, oj, hj, hp, hw => by
    simp only [waitsB, hj] at hw
    rw [Array.any_eq_true'] at hw
    obtain ⟨e, he, hw⟩ := hw
    simp only [Bool.and_eq_true, Bool.or_eq_true] at hw
    have hl := hp e he hw.1
    rcases hw.2 with h1 | h1
    · have : e.on = i := by simpa using h1
      rw [← this]; exact hl
    · cases hoe : ops[e.on]? with
      | none => cases n with
        | zero => simp [waitsB] at h1
        | succ n => simp [waitsB, hoe] at h1
      | some oe => exact h.waits n e.on oe hoe (h e.on oe hoe hl) h1

theorem getD_set_false {listed : Array Bool} {i j : Nat} (h : (listed.setIfInBounds i true).getD j false = true) : j = i ∨ listed.getD j false = true := by
  by_cases hj : j = i
  · exact .inl hj
  · right; rwa [getD_set_ne false (Ne.symm hj)] at h

theorem Dn.set {ops : Array Oper} {listed : Array Bool} (h : Dn ops listed) {i : Nat} (hi : i ∈ Region.ready .any ops listed) : Dn ops (listed.setIfInBounds i true) := by
  intro j oj hj hl e he hb
  obtain ⟨_, oi, hoi, hall⟩ := mem_ready.1 hi
  rcases getD_set_false hl with rfl | hl
  · rw [hoi] at hj; cases hj
    exact getD_set_true (hall e he hb)
  · exact getD_set_true (h j oj hj hl e he hb)

theorem unlisted_ne {listed : Array Bool} {i : Nat} (h : listed.getD i true = false) : listed.getD i false = false := by
  rcases Nat.lt_or_ge i listed.size with h' | h'
  · simp [h'] at h ⊢; exact h
  · simp [Array.getElem?_eq_none h'] at h

theorem wpAnyM_first {ops : Array Oper} {Q : Exit → Act → World → Prop} {i : Nat} {oi : Oper} {v : Value} (hi : ops[i]? = some oi) (hsel : ∀ (j : Nat) (o : Oper) cs b, ops[j]? = some o → o.op ≠ .select cs b)
    (hQ : ∀ c a w, Q (.panic c) (a.put oi.dst v) w → Q (.panic c) a w) :
    ∀ (fuel : Nat) (listed : Array Bool) (a : Act) (w : World), Dn ops listed →
      (∀ (j : Nat) (oj : Oper), ops[j]? = some oj → j ≠ i → listed.getD j true = false → (∀ e ∈ oj.after, Region.binds .any e = true → e.on ≠ i) → oi.apart ops oj = true) →
      (isLoad oi.op = true → ∀ (j : Nat) (oj : Oper), ops[j]? = some oj → j ≠ i → listed.getD j true = false → waitsB ops i ops.size j = false → presOp mu oj.op = true) →
      i ∈ Region.ready .any ops listed → YieldsIf P ops (fun w' => isLoad oi.op = true → Keep none' w w') oi v a →
      wpAnyM P mu ops Q fuel (listed.setIfInBounds i true) (a.put oi.dst v) w → wpAnyM P mu ops Q (fuel + 1) listed a w := by
  intro fuel
  induction fuel with
  | zero =>
    intro listed a w _ _ _ hr hy H
    refine ⟨fun h => (by rw [h] at hr; cases hr), fun j hj => ?_⟩
    by_cases hji : j = i
    · subst hji; exact hy.wpOp hi (fun _ => Keep.refl _ _) ⟨fun _ => Keep.refl _ _, H⟩
    · have := ready_mono hj hji
      rw [H.1] at this
      cases this
  | succ fuel ih =>
    intro listed a w hdn hfree hpres hr hy H
    refine ⟨fun h => (by rw [h] at hr; cases hr), fun j hj => ?_⟩
    by_cases hji : j = i
    · subst hji; exact hy.wpOp hi (fun _ => Keep.refl _ _) ⟨fun _ => Keep.refl _ _, H⟩
    · have h1 := H.2 j (ready_mono hj hji)
      obtain ⟨hjun, oj, hoj, hall⟩ := mem_ready.1 hj
      have hiun := (mem_ready.1 hr).1
      have hnot : ∀ e ∈ oj.after, Region.binds .any e = true → e.on ≠ i := fun e he hb heq => by
        have h1 := hall e he hb
        rw [heq, unlisted_ne hiun] at h1
        cases h1
      have hpj : isLoad oi.op = true → presAt mu ops j = true := fun hld => by
        have hw : waitsB ops i ops.size j = false := by
          cases hww : waitsB ops i ops.size j with
          | false => rfl
          | true =>
            have := hdn.waits ops.size j oj hoj hall hww
            rw [unlisted_ne hiun] at this; cases this
        simp only [presAt, hoj, Option.map_some, Option.getD_some]
        exact hpres hld j oj hoj hji hjun hw
      have h2 := wpOp_putIf hoj (hfree j oj hoj hji hjun hnot) (fun cs b => hsel i oi cs b hi) (fun cs b => hsel j oj cs b hoj) hQ hy h1
      have hfree' : ∀ (k : Nat) (ok : Oper), ops[k]? = some ok → k ≠ i → (listed.setIfInBounds j true).getD k true = false →
          (∀ e ∈ ok.after, Region.binds .any e = true → e.on ≠ i) → oi.apart ops ok = true := fun k ok hk hki hun hno => by
        refine hfree k ok hk hki ?_ hno
        by_cases hjk : j = k
        · subst hjk; exact hjun
        · rw [getD_set_ne true hjk] at hun; exact hun
      have hpres' : isLoad oi.op = true → ∀ (k : Nat) (ok : Oper), ops[k]? = some ok → k ≠ i → (listed.setIfInBounds j true).getD k true = false → waitsB ops i ops.size k = false → presOp mu ok.op = true := fun hld k ok hk hki hun hno => by
        refine hpres hld k ok hk hki ?_ hno
        by_cases hjk : j = k
        · subst hjk; exact hjun
        · rw [getD_set_ne true hjk] at hun; exact hun
      refine wpOp_mono (fun a' w' h3 => ⟨h3.2.1, ih (listed.setIfInBounds j true) a' w' (hdn.set hj) hfree' hpres' (ready_mono hr (Ne.symm hji)) ?_ ?_⟩) h2
      · -- its value in later worlds
        rcases h3.1 with ⟨e1, e2⟩ | e
        · exact .inl ⟨e1, fun w'' hw'' => e2 w'' (fun hld => (h3.2.1 (hpj hld)).trans (hw'' hld))⟩
        · exact .inr e
      · rw [Array.setIfInBounds_comm _ _ hji]
        exact h3.2.2

/-! ### Variables that are allocated ahead of their place -/
/-- What a step does, told of the blocks that it may write alone. -/
theorem Hd.here (h : Hd M w0 ρ hp w) : Hd (modOf hp ρ) w ρ hp w :=
  ⟨Keep.refl _ _, h.ok, h.cell, fun g b hg ho hne => ⟨.inr ⟨g, b, hg, ho, hne, rfl⟩, (h.own g b hg ho hne).2⟩, h.sep⟩
theorem Hd.there (h : Hd M w0 ρ hp w) {hp' : List Blk} {w' : World} (h' : Hd (modOf hp ρ) w ρ' hp' w') : Hd M w0 ρ' hp' w' := by
  have hm : ∀ k, modOf hp ρ k → w0.heap.size ≤ k ∨ M k := fun k hk => by
    obtain ⟨g, b, hg, ho, hne, rfl⟩ := hk
    exact (h.own g b hg ho hne).1
  refine ⟨⟨h'.keep.os.trans h.keep.os, h'.keep.tape.trans h.keep.tape, h'.keep.output.trans h.keep.output, Nat.le_trans h.keep.size h'.keep.size, fun k hk hn => ?_⟩, h'.ok, h'.cell, fun g b hg ho hne => ?_, h'.sep⟩
  · refine (h'.keep.block k (Nat.lt_of_lt_of_le hk h.keep.size) fun hmk => ?_).trans (h.keep.block k hk hn)
    rcases hm k hmk with h1 | h1
    · omega
    · exact hn h1
  · obtain ⟨h1, h2⟩ := h'.own g b hg ho hne
    refine ⟨?_, h2⟩
    rcases h1 with h1 | h1
    · exact .inl (Nat.le_trans h.keep.size h1)
    · exact hm _ h1
theorem Step.there (h : Hd M w0 ρ hp w) {v : V} {hp' : List Blk} {w' : World} {y : Value} (hs : Step (modOf hp ρ) w ρ hp w v hp' ρ' w' y) : Step M w0 ρ hp w v hp' ρ' w' y :=
  ⟨h.there hs.hd, hs.same, hs.len, hs.val, hs.ok, hs.src⟩

/-- A variable that is there already, and of which the abstract state does not tell: its slot, its place, its cells. -/
structure Early (M : Nat → Prop) (w0 : World) (ρ : Loc) (hp : List Blk) (a : Act) (w : World) (d : Tmp) (zs : List V) (L : Nat × Nat) : Prop where
  new : w0.heap.size ≤ L.1 ∨ M L.1
  tmp : a.tmps[d]? = none ∨ a.tmps[d]? = some (.pointer (some ⟨L.1, L.2, none⟩))
  lt : L.1 < w.heap.size
  cell : ∀ j v, zs[j]? = some v → ∃ x, w.cell? ⟨L.1, L.2 + j, none⟩ = some x ∧ x.oneCell' = true ∧ ∀ ρ, rel ρ v x
  fz : ∀ j, j < zs.length → w.frozen? ⟨L.1, L.2 + j, none⟩ = false
  apart : ∀ h c, hp[h]? = some c → c.cells ≠ [] → (ρ h).1 ≠ L.1

theorem put_tmps_ne {a : Act} {d : Tmp} {o : Option Tmp} {y : Value} (h : o ≠ some d) : (a.put o y).tmps[d]? = a.tmps[d]? := by
  cases o with
  | none => rfl
  | some t =>
    have : t ≠ d := fun e => h (by rw [e])
    simp [Act.put, Array.getElem?_setIfInBounds_ne this]

theorem Early.step {a : Act} {d : Tmp} {zs : List V} {L : Nat × Nat} (h : Early M w0 ρ hp a w d zs L) {v : V} {hp' : List Blk} {w' : World} {y : Value} (hs : Step (modOf hp ρ) w ρ hp w v hp' ρ' w' y) {o : Option Tmp} (ho : o ≠ some d) :
    Early M w0 ρ' hp' (a.put o y) w' d zs L := by
  have hn : ¬ modOf hp ρ L.1 := fun hm => by
    obtain ⟨g, b, hg, _, hne, e⟩ := hm
    exact h.apart g b hg hne e.symm
  refine ⟨h.new, by rw [put_tmps_ne ho]; exact h.tmp, Nat.lt_of_lt_of_le h.lt hs.hd.keep.size, fun j v hv => ?_, fun j hj => ?_, fun g c hg hne e => ?_⟩
  · obtain ⟨x, h1, h2, h3⟩ := h.cell j v hv
    exact ⟨x, (hs.hd.keep.cell (a := ⟨L.1, L.2 + j, none⟩) h.lt hn).trans h1, h2, h3⟩
  · exact (hs.hd.keep.frozen (a := ⟨L.1, L.2 + j, none⟩) h.lt hn).trans (h.fz j hj)
  · rcases hs.src g c hg hne with h1 | ⟨g', c', h1, h2, h3⟩
    · have := h.lt; omega
    · exact h.apart g' c' h1 h2 (h3.symm.trans e)

/-- Its place has come. -/
theorem Early.adopt {a : Act} {d : Tmp} {zs : List V} {L : Nat × Nat} (h : Early M w0 ρ hp a w d zs L) (hd : Hd M w0 ρ hp w) (hz : ∀ N, okL N zs) : Hd M w0 (ρ.upd hp.length L) (hp ++ [⟨true, zs⟩]) w := by
  have lt_of : ∀ g b, hp[g]? = some b → g < hp.length := fun g b hg => (List.getElem?_eq_some_iff.1 hg).1
  refine ⟨hd.keep, ?_, ?_, ?_, ?_⟩
  · intro b hb
    rcases List.mem_append.1 hb with hb | hb
    · exact okL_mono (by simp) (hd.ok b hb)
    · simp at hb; subst hb; exact hz _
  · intro g b hg j v hv
    rcases getElem?_snoc hg with hg | ⟨rfl, rfl⟩
    · rw [Loc.upd_lt ρ _ g (lt_of g b hg)]
      obtain ⟨x, hx, h1, h2⟩ := hd.cell g b hg j v hv
      exact ⟨x, hx, h1, rel_congr (Loc.upd_lt ρ _) (okL_iff.1 (hd.ok b (List.mem_of_getElem? hg)) v (List.mem_of_getElem? hv)) h2⟩
    · rw [Loc.upd_same]
      obtain ⟨x, h1, h2, h3⟩ := h.cell j v hv
      exact ⟨x, h1, h2, h3 _⟩
  · intro g b hg ho hne
    rcases getElem?_snoc hg with hg | ⟨rfl, rfl⟩
    · rw [Loc.upd_lt ρ _ g (lt_of g b hg)]; exact hd.own g b hg ho hne
    · rw [Loc.upd_same]; exact ⟨h.new, h.fz⟩
  · intro g b g' b' hg hg' hgg ho hne hne'
    rcases getElem?_snoc hg with hg | ⟨rfl, rfl⟩ <;> rcases getElem?_snoc hg' with hg' | ⟨rfl, rfl⟩
    · rw [Loc.upd_lt ρ _ g (lt_of g b hg), Loc.upd_lt ρ _ g' (lt_of g' b' hg')]
      exact hd.sep g b g' b' hg hg' hgg ho hne hne'
    · rw [Loc.upd_lt ρ _ g (lt_of g b hg), Loc.upd_same]; exact h.apart g b hg hne
    · rw [Loc.upd_lt ρ _ g' (lt_of g' b' hg'), Loc.upd_same]; exact fun e => h.apart g' b' hg' hne' e.symm
    · exact absurd rfl hgg

/-- A block less is told of. -/
theorem Hd.unsnoc {b0 : Blk} (h : Hd M w0 ρ (hp ++ [b0]) w) (hok : ∀ b ∈ hp, okL hp.length b.cells) : Hd M w0 ρ hp w := by
  have up : ∀ {g : Nat} {b : Blk}, hp[g]? = some b → (hp ++ [b0])[g]? = some b := fun hg => by
    rw [List.getElem?_append_left (List.getElem?_eq_some_iff.1 hg).1]; exact hg
  exact ⟨h.keep, hok, fun g b hg => h.cell g b (up hg), fun g b hg => h.own g b (up hg), fun g b g' b' hg hg' => h.sep g b g' b' (up hg) (up hg')⟩

/-- The listed ones of an abstract order, and those variables that were allocated ahead. -/
def markE (e : Nat → Bool) : List Nat → Array Bool → Array Bool
  | [], L => L
  | f :: F, L => markE e F (if e f then L.setIfInBounds f true else L)

theorem set_comm' (L : Array Bool) (i j : Nat) : (L.setIfInBounds i true).setIfInBounds j true = (L.setIfInBounds j true).setIfInBounds i true := by
  by_cases h : i = j
  · subst h; rfl
  · exact Array.setIfInBounds_comm _ _ h
theorem markE_set (e : Nat → Bool) : ∀ (F : List Nat) (L : Array Bool) (i : Nat), markE e F (L.setIfInBounds i true) = (markE e F L).setIfInBounds i true
  | [], _, _ => rfl
  | f :: F, L, i => by
    simp only [markE]
    split
    · rw [set_comm', markE_set e F]
    · rw [markE_set e F]
theorem set_set' (L : Array Bool) (i : Nat) : (L.setIfInBounds i true).setIfInBounds i true = L.setIfInBounds i true := by
  apply Array.ext'; simp
theorem markE_upd (e : Nat → Bool) (j : Nat) : ∀ (F : List Nat) (L : Array Bool), j ∈ F → markE (fun i => e i || i == j) F L = (markE e F L).setIfInBounds j true
  | f :: F, L, h => by
    have key : ∀ (F : List Nat) (L : Array Bool), markE (fun i => e i || i == j) F (L.setIfInBounds j true) = markE e F (L.setIfInBounds j true) := fun F => by
      induction F with
      | nil => intro L; rfl
      | cons g F ih =>
        intro L
        simp only [markE]
        by_cases hg : g = j
        · subst hg
          simp only [beq_self_eq_true, Bool.or_true, if_true, set_set']
          rw [ih]
          split
          · rfl
          · rfl
        · have : (g == j) = false := by simpa using hg
          simp only [this, Bool.or_false]
          split
          · rw [set_comm', ih]
          · rw [ih]
    simp only [markE]
    by_cases hg : f = j
    · subst hg
      simp only [beq_self_eq_true, Bool.or_true, if_true]
      rw [key, ← markE_set]
      split
      · rw [set_set']
      · rfl
    · have hm : j ∈ F := by
        rcases List.mem_cons.1 h with h1 | h1
        · exact absurd h1.symm hg
        · exact h1
      have : (f == j) = false := by simpa using hg
      simp only [this, Bool.or_false]
      exact markE_upd e j F _ hm
theorem markE_filter (e : Nat → Bool) (i : Nat) (he : e i = true) : ∀ (F : List Nat) (L : Array Bool), i ∈ F → markE e (F.filter (· != i)) (L.setIfInBounds i true) = markE e F L
  | f :: F, L, h => by
    have key : ∀ (F : List Nat) (L : Array Bool), markE e (F.filter (· != i)) (L.setIfInBounds i true) = markE e F (L.setIfInBounds i true) := fun F => by
      induction F with
      | nil => intro L; rfl
      | cons g F ih =>
        intro L
        by_cases hg : g = i
        · subst hg
          rw [List.filter_cons_of_neg (by simp)]
          simp only [markE, he, if_true, set_set']
          exact ih L
        · rw [List.filter_cons_of_pos (by simpa using hg)]
          simp only [markE]
          split
          · rw [set_comm', ih]
          · exact ih L
    by_cases hg : f = i
    · subst hg
      rw [List.filter_cons_of_neg (by simp), key]
      simp only [markE, he, if_true]
    · have hm : i ∈ F := by
        rcases List.mem_cons.1 h with h1 | h1
        · exact absurd h1.symm hg
        · exact h1
      rw [List.filter_cons_of_pos (by simpa using hg)]
      simp only [markE]
      split
      · rw [set_comm']; exact markE_filter e i he F _ hm
      · exact markE_filter e i he F _ hm
theorem markE_none : ∀ (F : List Nat) (L : Array Bool), markE (fun _ => false) F L = L
  | [], _ => rfl
  | f :: F, L => by simp [markE, markE_none F]

theorem chkSub_get {c : Array Bool → List Nat → Bool} {e : Nat → Bool} : ∀ (F : List Nat) (L : Array Bool) (rest : List Nat), chkSub c F L rest = true → (∀ i ∈ rest, e i = false) → ∃ rest', c (markE e F L) rest' = true ∧ ∀ i, i ∈ rest' ↔ i ∈ rest ∨ (i ∈ F ∧ e i = false)
  | [], L, rest, h, _ => ⟨rest, h, fun i => by simp⟩
  | f :: F, L, rest, h, hr => by
    simp only [chkSub, Bool.and_eq_true] at h
    cases hf : e f with
    | true =>
      obtain ⟨r, h1, h2⟩ := chkSub_get (e := e) F _ rest h.1 hr
      refine ⟨r, by simpa only [markE, hf, if_true] using h1, fun i => (h2 i).trans ?_⟩
      constructor
      · rintro (h | h); exact .inl h; exact .inr ⟨List.mem_cons_of_mem _ h.1, h.2⟩
      · rintro (h | ⟨h, h'⟩)
        · exact .inl h
        · rcases List.mem_cons.1 h with rfl | h
          · rw [hf] at h'; cases h'
          · exact .inr ⟨h, h'⟩
    | false =>
      obtain ⟨r, h1, h2⟩ := chkSub_get (e := e) F L (f :: rest) h.2 (by rintro i hi; rcases List.mem_cons.1 hi with rfl | hi; exact hf; exact hr i hi)
      refine ⟨r, by simpa only [markE, hf, Bool.false_eq_true, if_false] using h1, fun i => (h2 i).trans ?_⟩
      constructor
      · rintro (h | h)
        · rcases List.mem_cons.1 h with rfl | h
          · exact .inr ⟨List.mem_cons_self, hf⟩
          · exact .inl h
        · exact .inr ⟨List.mem_cons_of_mem _ h.1, h.2⟩
      · rintro (h | ⟨h, h'⟩)
        · exact .inl (List.mem_cons_of_mem _ h)
        · rcases List.mem_cons.1 h with rfl | h
          · exact .inl List.mem_cons_self
          · exact .inr ⟨h, h'⟩

/-- How many are not listed. -/
def unl (L : Array Bool) : Nat := L.toList.count false
theorem count_set_lt : ∀ (l : List Bool) (j : Nat), l[j]? = some false → (l.set j true).count false < l.count false
  | b :: l, 0, h => by simp at h; subst h; simp
  | b :: l, j + 1, h => by
    have := count_set_lt l j (by simpa using h)
    simp only [List.set_cons_succ, List.count_cons]; omega
theorem unl_set {L : Array Bool} {j : Nat} (h : L.getD j true = false) : unl (L.setIfInBounds j true) < unl L := by
  unfold unl
  rw [Array.toList_setIfInBounds]
  refine count_set_lt _ _ ?_
  rcases Nat.lt_or_ge j L.size with h' | h'
  · simp [h'] at h; simp [h', h]
  · simp [Array.getElem?_eq_none h'] at h

/-- A frame and a world of which an abstract state tells all but the variables that were allocated ahead. -/
structure InvE (E : Env) (ops : Array Oper) (M : Nat → Prop) (w0 : World) (ρ0 : Loc) (m : Nat) (F : Flt) (e : Nat → Bool) (bl : Nat → Nat × Nat) (tm : List V) (hp : List Blk) (a : Act) (w : World) : Prop where
  ex : ∃ ρ, Hd M w0 ρ hp w ∧ relL ρ tm a.tmps.toList ∧ (∀ h, h < m → ρ h = ρ0 h) ∧ ∀ q ∈ F, e q.1 = true → ∀ t dd ty pos af, ops[q.1]? = some ⟨some q.2, .alloc t, ty, pos, af, none⟩ → E t = some dd → Early M w0 ρ hp a w q.2 dd.zero (bl q.1)
  apart : ∀ q ∈ F, ∀ r ∈ F, e q.1 = true → e r.1 = true → q.1 ≠ r.1 → (bl q.1).1 ≠ (bl r.1).1
  ok : okL hp.length tm
  defers : a.defers = []
  len : m ≤ hp.length

def FltP (E : Env) (ops : Array Oper) (F : Flt) : Prop :=
  ∀ q ∈ F, (∃ t dd ty pos af, ops[q.1]? = some ⟨some q.2, .alloc t, ty, pos, af, none⟩ ∧ E t = some dd ∧ dd.zero ≠ []) ∧ ∀ j oj, ops[j]? = some oj → j ≠ q.1 → oj.dst ≠ some q.2
theorem fltOK_spec {E : Env} {ops : Array Oper} {F : Flt} (h : fltOK E ops F = true) : FltP E ops F := by
  intro q hq
  have h1 := List.all_eq_true.1 h q hq
  simp only [Bool.and_eq_true, List.all_eq_true, List.mem_range, Bool.or_eq_true, beq_iff_eq, Bool.not_eq_true'] at h1
  obtain ⟨h1, h2⟩ := h1
  constructor
  · cases ho : ops[q.1]? with
    | none => simp [ho] at h1
    | some o =>
      simp only [ho] at h1
      unfold isAlloc at h1
      split at h1
      · rename_i d' t ty pos af
        simp only [Bool.and_eq_true, beq_iff_eq] at h1
        obtain ⟨rfl, h1⟩ := h1
        cases hE : E t with
        | none => simp [hE] at h1
        | some dd => simp only [hE, Bool.not_eq_true'] at h1; exact ⟨t, dd, ty, pos, af, rfl, hE, by intro e; rw [e] at h1; simp at h1⟩
      · cases h1
  · intro j oj hj hne e
    rcases h2 j (Array.getElem?_eq_some_iff.1 hj).1 with h3 | h3
    · exact hne h3
    · rw [hj] at h3; simp [e] at h3

def SlotJ (F : Flt) (tm : List V) : Prop := ∀ q ∈ F, ∀ v, tm[q.2]? = some v → v = .j
theorem SlotJ.put {F : Flt} {tm : List V} (h : SlotJ F tm) {d : Option Tmp} {v : V} (hd : ∀ q ∈ F, d ≠ some q.2) : SlotJ F (putV tm d v) := by
  intro q hq u hu
  cases d with
  | none => exact h q hq u hu
  | some t =>
    simp only [putV] at hu
    rw [List.getElem?_set_ne (fun e => hd q hq (by rw [e]))] at hu
    exact h q hq u hu
theorem killT_length : ∀ (F : Flt) (tm : List V), (killT F tm).length = tm.length
  | [], _ => rfl
  | q :: F, tm => by rw [killT, killT_length F]; simp
theorem killT_get : ∀ (F : Flt) (tm : List V) (j : Nat) (v : V), (killT F tm)[j]? = some v → v = .j ∨ ((∀ q ∈ F, q.2 ≠ j) ∧ tm[j]? = some v)
  | [], tm, j, v, h => .inr ⟨by simp, h⟩
  | q :: F, tm, j, v, h => by
    rw [killT] at h
    rcases killT_get F _ j v h with h1 | ⟨h1, h2⟩
    · exact .inl h1
    · rcases getElem?_set_cases h2 with ⟨_, rfl, _⟩ | ⟨h3, h4⟩
      · exact .inl rfl
      · exact .inr ⟨fun r hr => by rcases List.mem_cons.1 hr with rfl | hr; exact fun e => h3 e.symm; exact h1 r hr, h4⟩
theorem killT_slot (F : Flt) (tm : List V) : SlotJ F (killT F tm) := by
  intro q hq v hv
  rcases killT_get F tm q.2 v hv with h | ⟨h, _⟩
  · exact h
  · exact absurd rfl (h q hq)
theorem killT_rel {F : Flt} {tm : List V} {xs : List Value} (h : relL ρ tm xs) : relL ρ (killT F tm) xs := by
  refine relL_of_get (by rw [killT_length, relL_length h]) fun j v x hv hx => ?_
  rcases killT_get F tm j v hv with rfl | ⟨_, h2⟩
  · trivial
  · obtain ⟨y, hy, hr⟩ := relL_get h h2
    rw [hy] at hx; cases hx; exact hr
theorem killT_ok {F : Flt} {tm : List V} {N : Nat} (h : okL N tm) : okL N (killT F tm) := okL_iff.2 fun v hv => by
  obtain ⟨j, hj⟩ := List.mem_iff_getElem?.1 hv
  rcases killT_get F tm j v hj with rfl | ⟨_, h2⟩
  · trivial
  · exact okL_get h h2
theorem relL_set_j {tm : List V} {xs : List Value} (h : relL ρ tm xs) {d : Nat} (hj : ∀ v, tm[d]? = some v → v = .j) (y : Value) : relL ρ tm (xs.set d y) := by
  refine relL_of_get (by simp [relL_length h]) fun j v x hv hx => ?_
  rcases getElem?_set_cases hx with ⟨rfl, rfl, _⟩ | ⟨_, hx⟩
  · rw [hj v hv]; trivial
  · obtain ⟨z, hz, hr⟩ := relL_get h hv
    rw [hz] at hx; cases hx; exact hr

theorem zero_rel (hE : EnvOK P E) {t : TypeId} {dd : TD} (h : E t = some dd) : (∀ N, okL N dd.zero) ∧ ∀ (ρ1 : Loc) v x, v ∈ dd.zero → rel ρ1 v x → ∀ ρ, rel ρ v x := by
  obtain ⟨z, _, z1, _⟩ := hE.zero h
  constructor
  · intro N; exact okL_of_zero z1
  · intro ρ1 v x hv hr ρ
    rw [← z1] at hv
    obtain ⟨c, _, rfl⟩ := List.mem_map.1 hv
    unfold rel at hr ⊢; exact hr

/-- A variable is allocated ahead of its place. -/
theorem early_step (hE : EnvOK P E) {ops : Array Oper} {ρ0 : Loc} {m : Nat} {F : Flt} {e : Nat → Bool} {bl : Nat → Nat × Nat} {tm : List V} {a : Act} (hF : FltP E ops F) (hJ : SlotJ F tm) (hI : InvE E ops M w0 ρ0 m F e bl tm hp a w)
    {q : Nat × Tmp} (hq : q ∈ F) (he : e q.1 = false) {K : Act → World → Prop} {Q : Exit → Act → World → Prop}
    (hK : ∀ bl' a' w', InvE E ops M w0 ρ0 m F (fun i => e i || i == q.1) bl' tm hp a' w' → Keep none' w w' → K a' w') : wpOp P ops Q q.1 K a w := by
  obtain ⟨⟨t, dd, ty, pos, af, ho, hEt, hz⟩, hdst⟩ := hF q hq
  obtain ⟨⟨ρ, hd, ht, hb, hear⟩, hap, hok, hdf, hl⟩ := hI
  have hqd : ∀ r ∈ F, r.1 ≠ q.1 → (some q.2 : Option Tmp) ≠ some r.2 := fun r hr hne => by
    obtain ⟨⟨_, _, _, _, _, hor, _, _⟩, hdr⟩ := hF r hr
    exact hdr q.1 _ ho (fun e => hne e.symm)
  unfold wpOp
  simp only [ho]
  rw [if_pos (by simp [Region.wanted])]
  left
  obtain ⟨w', ρ', y, h1, hs, hkn⟩ := alloc_run hE hEt hd.here
  unfold Oper.wp
  simp only [execOp, Sem.run_bind, h1, Result.andThen_ok, Sem.run_pure, Oper.upon]
  have hd' := hd.there hs.hd
  have hlast : (hp ++ [(⟨true, dd.zero⟩ : Blk)])[hp.length]? = some ⟨true, dd.zero⟩ := by simp
  have up : ∀ {g : Nat} {b : Blk}, hp[g]? = some b → (hp ++ [(⟨true, dd.zero⟩ : Blk)])[g]? = some b := fun hg => by
    rw [List.getElem?_append_left (List.getElem?_eq_some_iff.1 hg).1]; exact hg
  have others : ∀ r ∈ F, r.1 ≠ q.1 → e r.1 = true → ∀ t' dd' ty' pos' af', ops[r.1]? = some ⟨some r.2, .alloc t', ty', pos', af', none⟩ → E t' = some dd' → Early M w0 ρ' (hp ++ [⟨true, dd.zero⟩]) (a.put (some q.2) y) w' r.2 dd'.zero (bl r.1) := by
    intro r hr hne her t' dd' ty' pos' af' hor hE'
    exact (hear r hr her t' dd' ty' pos' af' hor hE').step hs (hqd r hr hne)
  refine hK (fun i => if i = q.1 then ρ' hp.length else bl i) _ _ ⟨⟨ρ', hd'.unsnoc hd.ok, ?_, fun h hh => (hs.same h (by omega)).trans (hb h hh), ?_⟩, ?_, hok, by rw [put_defers, hdf], hl⟩ hkn
  · have := relL_set_j (relL_congr (N := hp.length) hs.same hok ht) (hJ q hq) y
    simpa [Act.put] using this
  · intro r hr her t' dd' ty' pos' af' hor hE'
    by_cases hrq : r.1 = q.1
    · rw [hrq, ho] at hor
      simp only [Option.some.injEq, Oper.mk.injEq, Op.alloc.injEq] at hor
      obtain ⟨hd2, rfl, _⟩ := hor
      rw [hEt] at hE'; cases hE'
      rw [if_pos hrq, ← hd2]
      obtain ⟨zok, zrel⟩ := zero_rel hE hEt
      refine ⟨(hd'.own _ _ hlast rfl hz).1, ?_, hd'.lt hlast hz, fun j v hv => ?_, (hd'.own _ _ hlast rfl hz).2, fun h c hc hne e => hd'.sep _ _ _ _ hlast (up hc) (by have := (List.getElem?_eq_some_iff.1 hc).1; omega) rfl hz hne e.symm⟩
      · have hv := hs.val
        unfold rel at hv
        simp only [Act.put]
        rcases Nat.lt_or_ge q.2 a.tmps.size with hlt | hge
        · right; simp [hlt, hv]
        · left; simp; omega
      · obtain ⟨x, e1, e2, e3⟩ := hd'.cell _ _ hlast j v hv
        exact ⟨x, e1, e2, zrel _ v x (List.mem_of_getElem? hv) e3⟩
    · rw [if_neg hrq]
      have her' : e r.1 = true := by simpa [hrq] using her
      have := others r hr hrq her' t' dd' ty' pos' af' hor hE'
      exact { this with apart := fun h c hc => this.apart h c (up hc) }
  · intro r hr s hs' her hes hrs
    have key : ∀ r ∈ F, r.1 ≠ q.1 → (e r.1 || r.1 == q.1) = true → (ρ' hp.length).1 ≠ (bl r.1).1 := fun r hr hne her => by
      obtain ⟨⟨t', dd', ty', pos', af', hor, hE', _⟩, _⟩ := hF r hr
      exact (others r hr hne (by simpa [hne] using her) t' dd' ty' pos' af' hor hE').apart hp.length _ hlast hz
    by_cases h1 : r.1 = q.1 <;> by_cases h2 : s.1 = q.1
    · exact absurd (h1.trans h2.symm) hrs
    · rw [if_pos h1, if_neg h2]; exact key s hs' h2 hes
    · rw [if_neg h1, if_pos h2]; exact fun e => key r hr h1 her e.symm
    · rw [if_neg h1, if_neg h2]; exact hap r hr s hs' (by simpa [h1] using her) (by simpa [h2] using hes) hrs

theorem heads_get {ops : List Oper} {k : List V → List Blk → Prop} {tm : List V} : ∀ (t : Tr) (listed : Array Bool) (F : List Nat) (j : Nat), chkT mu ops.toArray true listed F t = true → vcSeq E P mu ops t tm hp k → j ∈ t.heads →
    ∃ t', t'.size < t.size ∧ F.contains j = false ∧ chkT mu ops.toArray false (listed.setIfInBounds j true) F t' = true ∧ vcSeq E P mu ops (.one j t') tm hp k
  | .nil, _, _, _, _, _, h => by simp [Tr.heads] at h
  | .cut _, _, _, _, hc, _, _ => by rw [chkT] at hc; cases hc
  | .one i t, listed, F, j, hc, hv, h => by
    simp [Tr.heads] at h; subst h
    rw [chkT] at hc
    split at hc
    · simp at hc
    · rename_i hF
      simp only [Bool.true_or, Bool.true_and] at hc
      exact ⟨t, by simp [Tr.size], by simpa using hF, hc, hv⟩
  | .alt a b, listed, F, j, hc, hv, h => by
    rw [chkT] at hc
    simp only [Bool.true_or, Bool.true_and, Bool.and_eq_true] at hc
    rw [vcSeq] at hv
    rw [Tr.heads] at h
    rcases List.mem_append.1 h with h | h
    · obtain ⟨t', h1, h2⟩ := heads_get a listed F j hc.1 hv.1 h
      exact ⟨t', by simp only [Tr.size]; omega, h2⟩
    · obtain ⟨t', h1, h2⟩ := heads_get b listed F j hc.2 hv.2 h
      exact ⟨t', by simp only [Tr.size]; omega, h2⟩

/-- A step of the abstract order that the machine takes too. -/
theorem InvE.step {ops : Array Oper} {ρ0 : Loc} {m : Nat} {F : Flt} {e : Nat → Bool} {bl : Nat → Nat × Nat} {tm : List V} {a : Act} {hp' : List Blk} {w' : World} (hd : Hd M w0 ρ hp w) (ht : relL ρ tm a.tmps.toList) (hb : ∀ h, h < m → ρ h = ρ0 h)
    (hear : ∀ q ∈ F, e q.1 = true → ∀ t dd ty pos af, ops[q.1]? = some ⟨some q.2, .alloc t, ty, pos, af, none⟩ → E t = some dd → Early M w0 ρ hp a w q.2 dd.zero (bl q.1))
    (hap : ∀ q ∈ F, ∀ r ∈ F, e q.1 = true → e r.1 = true → q.1 ≠ r.1 → (bl q.1).1 ≠ (bl r.1).1) (hok : okL hp.length tm) (hdf : a.defers = []) (hl : m ≤ hp.length)
    {v : V} {y : Value} (hs : Step (modOf hp ρ) w ρ hp w v hp' ρ' w' y) {d : Option Tmp} (hdst : ∀ q ∈ F, d ≠ some q.2) : InvE E ops M w0 ρ0 m F e bl (putV tm d v) hp' (a.put d y) w' :=
  ⟨⟨ρ', hd.there hs.hd, put_rel (relL_congr (N := hp.length) hs.same hok ht) hs.val d, fun h hh => (hs.same h (by omega)).trans (hb h hh),
      fun q hq he t dd ty pos af ho hE => (hear q hq he t dd ty pos af ho hE).step hs (hdst q hq)⟩,
    hap, put_ok (okL_mono hs.len hok) hs.ok d, by rw [put_defers, hdf], Nat.le_trans hl hs.len⟩

theorem vcSeq_sound (hE : EnvOK P E) {ops : List Oper} {Q : Exit → Act → World → Prop} {ρ0 : Loc} {m : Nat} {k : List V → List Blk → Prop} (hQ : ∀ tm' hp' a' w', k tm' hp' → Inv M w0 ρ0 m tm' hp' a' w' → Q .normal a' w')
    (hpan : ∀ c a w, ¬ Q (.panic c) a w) (hsel : Region.noSelect ops.toArray = true) :
    ∀ (N : Nat) (t : Tr), t.size ≤ N → ∀ (F : Flt) (listed : Array Bool) (tm : List V) (hp : List Blk), chkT mu ops.toArray false listed (F.map (·.1)) t = true → FltP E ops.toArray F → SlotJ F tm → vcSeq E P mu ops t tm hp k →
      ∀ (n : Nat) (e : Nat → Bool) (bl : Nat → Nat × Nat) (a : Act) (w : World), (F.countP fun q => !e q.1) ≤ n → Dn ops.toArray (markE e (F.map (·.1)) listed) → InvE E ops.toArray M w0 ρ0 m F e bl tm hp a w →
      ∀ fuel, unl (markE e (F.map (·.1)) listed) ≤ fuel → wpAnyM P mu ops.toArray Q fuel (markE e (F.map (·.1)) listed) a w := by
  intro N
  induction N with
  | zero =>
    intro t hsz F listed tm hp hc hF hJ h n e bl a w hn hdn hI fuel hfu
    cases t with
    | nil =>
      rw [chkT] at hc
      simp only [Bool.not_false, Bool.true_and, Bool.and_eq_true, List.isEmpty_iff, List.map_eq_nil_iff] at hc
      obtain ⟨rfl, hr⟩ := hc
      obtain ⟨⟨ρ, hd, ht, hb, _⟩, _, hok, hdf, hl⟩ := hI
      exact wpAnyM_done hr (hQ _ _ _ _ (by rwa [vcSeq] at h) ⟨⟨ρ, hd, ht, hb⟩, hok, hdf, hl⟩) _
    | one i t => simp [Tr.size] at hsz
    | alt a b => simp [Tr.size] at hsz
    | cut a => rw [chkT] at hc; cases hc
  | succ N ihN =>
    intro t hsz F listed tm hp hc hF hJ h n
    induction n using Nat.strongRecOn with
    | ind n ihn =>
    intro e bl a w hn hdn hI fuel hfu
    -- a variable is allocated ahead of its place
    have ahead : ∀ fuel', fuel = fuel' + 1 → ∀ j ∈ Region.ready .any ops.toArray (markE e (F.map (·.1)) listed), j ∈ F.map (·.1) → e j = false →
        wpOp P ops.toArray Q j (fun a' w' => (presAt mu ops.toArray j = true → Keep none' w w') ∧ wpAnyM P mu ops.toArray Q fuel' ((markE e (F.map (·.1)) listed).setIfInBounds j true) a' w') a w := by
      rintro fuel' rfl j hj hmem he
      obtain ⟨q, hq, rfl⟩ := List.mem_map.1 hmem
      refine early_step hE hF hJ hI hq he fun bl' a' w' hI' hk => ⟨fun _ => hk, ?_⟩
      rw [← markE_upd e q.1 _ _ hmem]
      refine ihn (F.countP fun r => !(e r.1 || r.1 == q.1)) ?_ _ bl' a' w' (Nat.le_refl _) ?_ hI' fuel' ?_
      · refine Nat.lt_of_lt_of_le ?_ hn
        have key : ∀ (G : Flt), (G.countP fun r => !(e r.1 || r.1 == q.1)) ≤ G.countP fun r => !e r.1 := fun G => List.countP_mono_left fun r _ hr => by
          simp only [Bool.not_eq_true', Bool.or_eq_false_iff] at hr ⊢; exact hr.1
        obtain ⟨G1, G2, rfl⟩ := List.append_of_mem hq
        simp only [List.countP_append, List.countP_cons, he, beq_self_eq_true, Bool.or_true, Bool.not_true, Bool.not_false, Bool.false_eq_true, if_false, if_true]
        have := key G1; have := key G2
        omega
      · rw [markE_upd e q.1 _ _ hmem]; exact hdn.set hj
      · rw [markE_upd e q.1 _ _ hmem]; have := unl_set (mem_ready.1 hj).1; omega
    -- a step of the order
    have stepj : ∀ fuel', fuel = fuel' + 1 → ∀ j ∈ Region.ready .any ops.toArray (markE e (F.map (·.1)) listed), ∀ t' : Tr, t'.size ≤ N → (F.map (·.1)).contains j = false → chkT mu ops.toArray false (listed.setIfInBounds j true) (F.map (·.1)) t' = true → vcSeq E P mu ops (.one j t') tm hp k →
        wpOp P ops.toArray Q j (fun a' w' => (presAt mu ops.toArray j = true → Keep none' w w') ∧ wpAnyM P mu ops.toArray Q fuel' ((markE e (F.map (·.1)) listed).setIfInBounds j true) a' w') a w := by
      rintro fuel' rfl j hj t' hts hFj hc' hv
      obtain ⟨⟨ρ, hd, ht, hb, hear⟩, hap, hok, hdf, hl⟩ := hI
      rw [vcSeq] at hv
      cases ho : ops[j]? with
      | none => simp [ho] at hv
      | some o =>
        simp only [ho] at hv
        have ho' : ops.toArray[j]? = some o := by simpa using ho
        have hdst : ∀ q ∈ F, o.dst ≠ some q.2 := fun q hq => (hF q hq).2 j o ho' fun e => by
          rw [List.contains_eq_mem, decide_eq_false_iff_not] at hFj
          exact hFj (List.mem_map.2 ⟨q, hq, e.symm⟩)
        have hul := unl_set (mem_ready.1 hj).1
        unfold wpOp
        simp only [ho']
        rw [← markE_set]
        rcases vcG_cases hv ht with ⟨hw, h1⟩ | ⟨hw, h1⟩
        · rw [if_pos hw]
          refine .inl (vcOne_wpS (mu := mu) hE hd.here ht hok h1 fun v hp' ρ' w' y hk hs hp => ⟨fun hpa => hp ?_, ?_⟩)
          · simpa [presAt, ho] using hpa
          · exact ihN t' hts F _ _ _ hc' hF (hJ.put hdst) hk n e bl _ _ hn (by rw [markE_set]; exact hdn.set hj) (InvE.step hd ht hb hear hap hok hdf hl hs hdst) fuel' (by rw [markE_set]; omega)
        · rw [if_neg (by simp [hw])]
          exact ⟨fun _ => Keep.refl _ _, ihN t' hts F _ _ _ hc' hF (hJ.put hdst) h1 n e bl _ _ hn (by rw [markE_set]; exact hdn.set hj) (InvE.step hd ht hb hear hap hok hdf hl (Step.nil hd.here) hdst) fuel' (by rw [markE_set]; omega)⟩
    have fuelpos : (Region.ready .any ops.toArray (markE e (F.map (·.1)) listed) ≠ []) → ∃ fuel', fuel = fuel' + 1 := fun hne => by
      obtain ⟨j, hj⟩ := List.exists_mem_of_ne_nil _ hne
      have := unl_set (mem_ready.1 hj).1
      exact ⟨fuel - 1, by omega⟩
    cases t with
    | nil =>
      rw [chkT] at hc
      simp only [Bool.not_false, Bool.true_and, Bool.and_eq_true, List.isEmpty_iff, List.map_eq_nil_iff] at hc
      obtain ⟨rfl, hr⟩ := hc
      obtain ⟨⟨ρ, hd, ht, hb, _⟩, _, hok, hdf, hl⟩ := hI
      exact wpAnyM_done hr (hQ _ _ _ _ (by rwa [vcSeq] at h) ⟨⟨ρ, hd, ht, hb⟩, hok, hdf, hl⟩) _
    | cut x => rw [chkT] at hc; cases hc
    | alt x y =>
      rw [chkT] at hc
      simp only [Bool.false_or, Bool.and_eq_true] at hc
      obtain ⟨⟨hc1, hc2⟩, hc3⟩ := hc
      obtain ⟨rest, h1, h2⟩ := chkSub_get (e := e) _ _ _ hc1 (by simp)
      simp only [Bool.and_eq_true, Bool.not_eq_true', List.isEmpty_eq_false_iff, List.all_eq_true, Bool.or_eq_true] at h1
      obtain ⟨hne, hall⟩ := h1
      obtain ⟨fuel', rfl⟩ := fuelpos hne
      refine ⟨fun h0 => absurd h0 hne, fun j hj => ?_⟩
      rcases hall j hj with h3 | h3
      · have hcov : chkT mu ops.toArray true listed (F.map (·.1)) (.alt x y) = true := by rw [chkT]; simp [hc2, hc3]
        obtain ⟨t', ht1, ht2, ht3, ht4⟩ := heads_get (.alt x y) listed (F.map (·.1)) j hcov h (by simpa [Tr.heads] using h3)
        exact stepj fuel' rfl j hj t' (by omega) ht2 ht3 ht4
      · rcases (h2 j).1 (by simpa using h3) with h4 | h4
        · simp at h4
        · exact ahead fuel' rfl j hj h4.1 h4.2
    | one i t =>
      rw [chkT] at hc
      have hsz' : t.size ≤ N := by simp only [Tr.size] at hsz; omega
      split at hc
      · rename_i hFi
        simp only [Bool.not_false, Bool.true_and, Bool.and_eq_true] at hc
        obtain ⟨hc1, hc2⟩ := hc
        have hmem : i ∈ F.map (·.1) := by simpa using hFi
        obtain ⟨q, hq, rfl⟩ := List.mem_map.1 hmem
        cases he : e q.1 with
        | true =>
          obtain ⟨⟨t0, dd, ty, pos, af, ho, hEt, hz⟩, hdst⟩ := hF q hq
          have ho' : ops[q.1]? = some ⟨some q.2, .alloc t0, ty, pos, af, none⟩ := by simpa using ho
          rw [vcSeq] at h
          simp only [ho'] at h
          unfold vcG vcOne at h
          simp only [isS, Bool.false_eq_true, if_false, vcE, hEt] at h
          obtain ⟨⟨ρ, hd, ht, hb, hear⟩, hap, hok, hdf, hl⟩ := hI
          have hE1 := hear q hq he t0 dd ty pos af ho hEt
          have sub : ∀ r, r ∈ F.filter (fun r => r.1 != q.1) → r ∈ F ∧ r.1 ≠ q.1 := fun r hr => by
            rw [List.mem_filter] at hr; exact ⟨hr.1, by simpa using hr.2⟩
          have hmap : (F.map (·.1)).filter (· != q.1) = (F.filter fun r => r.1 != q.1).map (·.1) := by rw [List.filter_map]; rfl
          have hmk : markE e (F.map (·.1)) listed = markE e ((F.filter fun r => r.1 != q.1).map (·.1)) (listed.setIfInBounds q.1 true) := by
            rw [← hmap, markE_filter e q.1 he _ _ hmem]
          rw [hmap] at hc2
          rw [hmk] at hdn hfu ⊢
          have hqd : ∀ r ∈ F, r.1 ≠ q.1 → (some q.2 : Option Tmp) ≠ some r.2 := fun r hr hne => by
            obtain ⟨⟨_, _, _, _, _, hor, _, _⟩, hdr⟩ := hF r hr
            exact hdr q.1 _ ho (fun e => hne e.symm)
          refine ihN t hsz' (F.filter fun r => r.1 != q.1) _ _ _ hc2 (fun r hr => hF r (sub r hr).1) ?_ h _ e bl a w (Nat.le_refl _) hdn ?_ fuel hfu
          · exact SlotJ.put (fun r hr => hJ r (sub r hr).1) fun r hr => hqd r (sub r hr).1 (sub r hr).2
          · refine ⟨⟨ρ.upd hp.length (bl q.1), hE1.adopt hd (zero_rel hE hEt).1, ?_, fun h hh => by rw [Loc.upd_lt ρ _ h (by omega)]; exact hb h hh, ?_⟩, fun r hr s hs => hap r (sub r hr).1 s (sub s hs).1, put_ok (okL_mono (by simp) hok) (by unfold okV; simp) _, hdf, by simp; omega⟩
            · have ht' : relL (ρ.upd hp.length (bl q.1)) tm a.tmps.toList := relL_congr (N := hp.length) (Loc.upd_lt ρ _) hok ht
              refine relL_of_get (by simp [putV, relL_length ht']) fun j v x hv hx => ?_
              simp only [putV] at hv
              rcases getElem?_set_cases hv with ⟨rfl, rfl, _⟩ | ⟨_, hv⟩
              · have hx' : a.tmps[q.2]? = some x := by simpa using hx
                rcases hE1.tmp with h3 | h3
                · rw [h3] at hx'; cases hx'
                · rw [h3] at hx'; cases hx'
                  unfold rel; rw [Loc.upd_same]; rfl
              · obtain ⟨z, hz, hr⟩ := relL_get ht' hv
                rw [hz] at hx; cases hx; exact hr
            · intro r hr her t' dd' ty' pos' af' hor hE'
              have h3 := hear r (sub r hr).1 her t' dd' ty' pos' af' hor hE'
              refine { h3 with apart := fun g c hg hne => ?_ }
              rcases getElem?_snoc hg with hg | ⟨rfl, rfl⟩
              · rw [Loc.upd_lt ρ _ g (List.getElem?_eq_some_iff.1 hg).1]; exact h3.apart g c hg hne
              · rw [Loc.upd_same]; exact hap q hq r (sub r hr).1 he her (fun e => (sub r hr).2 e.symm)
        | false =>
          obtain ⟨rest, h1, h2⟩ := chkSub_get (e := e) _ _ _ hc1 (by simp)
          have hin : q.1 ∈ rest := (h2 _).2 (.inr ⟨hmem, he⟩)
          simp only [List.contains_iff_mem.2 hin, Bool.not_true, Bool.false_or, Bool.and_eq_true, List.all_eq_true] at h1
          have hne : Region.ready .any ops.toArray (markE e (F.map (·.1)) listed) ≠ [] := fun h0 => by rw [h0] at h1; simp at h1
          obtain ⟨fuel', rfl⟩ := fuelpos hne
          refine ⟨fun h0 => absurd h0 hne, fun j hj => ?_⟩
          rcases (h2 j).1 (by simpa using h1.2 j hj) with h4 | h4
          · simp at h4
          · exact ahead fuel' rfl j hj h4.1 h4.2
      · rename_i hFi
        have hFi' : (F.map (·.1)).contains i = false := by simpa using hFi
        simp only [Bool.false_or, Bool.and_eq_true] at hc
        obtain ⟨hc1, hc2⟩ := hc
        obtain ⟨rest, h1, h2⟩ := chkSub_get (e := e) _ _ _ hc1 (by simp)
        simp only [Bool.or_eq_true, Bool.and_eq_true, List.all_eq_true] at h1
        rcases h1 with h1 | ⟨h1, hall⟩
        · obtain ⟨⟨ρ, hd, ht, hb, hear⟩, hap, hok, hdf, hl⟩ := hI
          rw [vcSeq] at h
          cases ho : ops[i]? with
          | none => simp [ho] at h
          | some o =>
            simp only [ho] at h
            have ho' : ops.toArray[i]? = some o := by simpa using ho
            have hdst : ∀ q ∈ F, o.dst ≠ some q.2 := fun q hq => (hF q hq).2 i o ho' fun e => by
              rw [List.contains_eq_mem, decide_eq_false_iff_not] at hFi'
              exact hFi' (List.mem_map.2 ⟨q, hq, e.symm⟩)
            simp only [takeB, ho', Bool.and_eq_true] at h1
            obtain ⟨⟨⟨hS, hfree⟩, hrdy⟩, hld⟩ := h1
            have hrdy : i ∈ Region.ready .any ops.toArray (markE e (F.map (·.1)) listed) := by simpa using hrdy
            obtain ⟨fuel', rfl⟩ := fuelpos (List.ne_nil_of_mem hrdy)
            have hpres : isLoad o.op = true → ∀ (j : Nat) (oj : Oper), ops.toArray[j]? = some oj → j ≠ i → (markE e (F.map (·.1)) listed).getD j true = false → waitsB ops.toArray i ops.toArray.size j = false → presOp mu oj.op = true := by
              intro hl j oj hj hji hun hnw
              simp only [hl, Bool.not_true, Bool.false_or, List.all_eq_true, List.mem_range, Bool.or_eq_true] at hld
              have := hld j (Array.getElem?_eq_some_iff.1 hj).1
              rw [hj] at this
              rcases this with ((h1 | h1) | h1) | h1
              · exact absurd (by simpa using h1) hji
              · rw [hun] at h1; cases h1
              · rw [hnw] at h1; cases h1
              · simpa using h1
            have hul := unl_set (mem_ready.1 hrdy).1
            have fin : ∀ (y : Value) (v : V), (YieldsIf P ops.toArray (fun w' => isLoad o.op = true → Keep none' w w') o y a) → vcSeq E P mu ops t (putV tm o.dst v) hp k → Step (modOf hp ρ) w ρ hp w v hp ρ w y → wpAnyM P mu ops.toArray Q (fuel' + 1) (markE e (F.map (·.1)) listed) a w :=
              fun y v hy hv hs => wpAnyM_first ho' (Region.noSelect_spec hsel) (fun c a w hq => absurd hq (hpan c _ w)) fuel' _ a w hdn (Region.free_spec ho' hfree) hpres hrdy hy
                (by
                  rw [← markE_set]
                  exact ihN t hsz' F _ _ _ hc2 hF (hJ.put hdst) hv n e bl _ _ hn (by rw [markE_set]; exact hdn.set hrdy) (InvE.step hd ht hb hear hap hok hdf hl hs hdst) fuel' (by rw [markE_set]; omega))
            rcases vcG_cases h ht with ⟨hw, h1⟩ | ⟨hw, h1⟩
            · unfold vcOne at h1
              rw [if_pos hS] at h1
              obtain ⟨u, y, e1, e2, e3, e4⟩ := vcS_sound hE hd ht hok h1
              exact fin y u (.inl ⟨hw, e4⟩) e1 ⟨hd.here, fun _ _ => rfl, Nat.le_refl _, e2, e3, src_same⟩
            · exact fin undef _ (.inr ⟨hw, rfl⟩) h1 (Step.nil hd.here)
        · have hne : Region.ready .any ops.toArray (markE e (F.map (·.1)) listed) ≠ [] := fun h0 => by rw [h0] at h1; simp at h1
          obtain ⟨fuel', rfl⟩ := fuelpos hne
          refine ⟨fun h0 => absurd h0 hne, fun j hj => ?_⟩
          rcases hall j hj with h3 | h3
          · have : j = i := by simpa using h3
            subst this
            exact stepj fuel' rfl j hj t hsz' hFi' hc2 h
          · rcases (h2 j).1 (by simpa using h3) with h4 | h4
            · simp at h4
            · exact ahead fuel' rfl j hj h4.1 h4.2
end
end Go.Vc
/- Code and functions: sound. -/
set_option linter.unusedSimpArgs false
set_option linter.unusedVariables false
namespace Go.Vc
open Go
section
variable {X : Cx} {M : Nat → Prop} {w0 w : World} {ρ0 : Loc}

/-- What the machine's ends owe: no panic; else one of the abstract states that Q tells of. -/
def CQ (M : Nat → Prop) (w0 : World) (ρ0 : Loc) (m : Nat) (Q : Exit → List V → List Blk → Prop) : Exit → Act → World → Prop :=
  fun e a w => (∀ c, e ≠ .panic c) ∧ ∃ tm hp, Q e tm hp ∧ Inv M w0 ρ0 m tm hp a w

theorem Inv.le {m : Nat} {tm tm' : List V} {hp hp' : List Blk} {a : Act} {σ : List Nat} (hI : Inv M w0 ρ0 m tm hp a w) (h : LeS m σ tm hp tm' hp') : Inv M w0 ρ0 m tm' hp' a w := by
  obtain ⟨ρ, hd, ht, hb⟩ := hI.ex
  exact ⟨⟨_, LeS_hd h hd, LeS_tm h ht, fun i hi => by simp only [LeS_base h hi]; exact hb i hi⟩, LeS_ok h, hI.defers, LeS_len h⟩

theorem code_sound (hE : EnvOK X.P X.E) : ∀ (c : Code), ordOK X.E X.mu X.ord X.flt c = true → ∀ (Q : Exit → List V → List Blk → Prop) (tm : List V) (hp : List Blk) (a : Act) (w : World),
    vcCode X c tm hp Q → Inv M w0 ρ0 X.m tm hp a w → c.wp X.P (CQ M w0 ρ0 X.m Q) a w
  | .skip, _, Q, tm, hp, a, w, h, hI => wp_skip ⟨fun _ => by simp, tm, hp, by rw [vcCode] at h; exact h, hI⟩
  | .ret, _, Q, tm, hp, a, w, h, hI => wp_ret ⟨fun _ => by simp, tm, hp, by rw [vcCode] at h; exact h, hI⟩
  | .exit id, _, Q, tm, hp, a, w, h, hI => wp_exit ⟨fun _ => by simp, tm, hp, by rw [vcCode] at h; exact h, hI⟩
  | .seq x y, ho, Q, tm, hp, a, w, h, hI => by
    rw [vcCode] at h
    simp only [ordOK, Bool.and_eq_true] at ho
    refine wp_seq (wp_mono (code_sound hE x ho.1 _ tm hp a w h hI) ?_)
    intro e a' w' hq
    obtain ⟨hp', tm', hp'', hq, hI'⟩ := hq
    cases e with
    | normal => exact code_sound hE y ho.2 Q tm' hp'' a' w' hq hI'
    | exit i => exact ⟨hp', tm', hp'', hq, hI'⟩
    | goto l => exact ⟨hp', tm', hp'', hq, hI'⟩
    | ret => exact ⟨hp', tm', hp'', hq, hI'⟩
    | panic c => exact absurd rfl (hp' c)
    | outgrown => exact ⟨hp', tm', hp'', hq, hI'⟩
  | .cond x p q, ho, Q, tm, hp, a, w, h, hI => by
    rw [vcCode] at h
    simp only [ordOK, Bool.and_eq_true] at ho
    unfold vCond at h
    split at h
    · rename_i t hx
      obtain ⟨ρ, hd, ht, hb⟩ := hI.ex
      have hr := ev_rel ht x
      rw [hx] at hr
      unfold rel at hr
      cases t with
      | true => exact wp_cond hr (code_sound hE p ho.1 Q tm hp a w (h.1 rfl) hI)
      | false => exact wp_cond hr (code_sound hE q ho.2 Q tm hp a w (h.2 rfl) hI)
    · exact h.elim
  | .block id b, ho, Q, tm, hp, a, w, h, hI => by
    rw [vcCode] at h
    simp only [ordOK] at ho
    refine wp_block (wp_mono (code_sound hE b ho _ tm hp a w h hI) ?_)
    intro e a' w' hq
    obtain ⟨hp', tm', hp'', hq, hI'⟩ := hq
    cases e with
    | normal => exact ⟨hp', tm', hp'', hq, hI'⟩
    | exit i =>
      simp only [vBlock] at hq
      simp only [Exit.inBlock]
      split at hq
      · rename_i hi; rw [if_pos hi]; exact ⟨fun _ => by simp, tm', hp'', hq, hI'⟩
      · rename_i hi; rw [if_neg hi]; exact ⟨hp', tm', hp'', hq, hI'⟩
    | goto l => exact ⟨hp', tm', hp'', hq, hI'⟩
    | ret => exact ⟨hp', tm', hp'', hq, hI'⟩
    | panic c => exact absurd rfl (hp' c)
    | outgrown => exact ⟨hp', tm', hp'', hq, hI'⟩
  | .region id ops draw, ho, Q, tm, hp, a, w, h, hI => by
    rw [vcCode] at h
    simp only [ordOK, Bool.or_eq_true, Bool.not_eq_true', Bool.and_eq_true] at ho
    cases draw with
    | false =>
      rw [if_neg (by simp)] at h
      refine wp_region_list ?_
      have := vcList_sound (mu := X.mu) hE (Q := CQ M w0 ρ0 X.m Q) (k := Q .normal) (fun tm' hp' a' w' hk hI' => ⟨fun _ => by simp, tm', hp', hk, hI'⟩) ops.toList tm hp a w h hI
      simpa using this
    | true =>
      rw [if_pos rfl] at h
      rcases ho with ho | ⟨⟨hsel, hflt⟩, hord⟩
      · cases ho
      · refine wp_region_any hE.mixed (wpAny_of_M (mu := X.mu) _ _ _ _ ?_)
        have hdn : Dn ops (Array.replicate ops.size false) := fun j oj _ hl => by
          simp [Array.getElem?_replicate] at hl
          split at hl <;> simp at hl
        have hI' : InvE X.E ops M w0 ρ0 X.m (X.flt id) (fun _ => false) (fun _ => (0, 0)) (killT (X.flt id) tm) hp a w.drew := by
          obtain ⟨ρ, hd, ht, hb⟩ := hI.ex
          exact ⟨⟨ρ, hd.drew, killT_rel ht, hb, fun q _ he => (by cases he)⟩, fun q _ r _ he => (by cases he), killT_ok hI.ok, hI.defers, hI.len⟩
        have key : ∀ k : List V → List Blk → Prop, (∀ tm' hp' a' w', k tm' hp' → Inv M w0 ρ0 X.m tm' hp' a' w' → CQ M w0 ρ0 X.m Q .normal a' w') → vcSeq X.E X.P X.mu ops.toList (X.ord id).core (killT (X.flt id) tm) hp k →
            wpAnyM X.P X.mu ops (CQ M w0 ρ0 X.m Q) ops.size (Array.replicate ops.size false) a w.drew := fun k hk h => by
          have := vcSeq_sound (mu := X.mu) hE (ops := ops.toList) (Q := CQ M w0 ρ0 X.m Q) (k := k) hk
            (fun c a w hq => hq.1 c rfl) (by simpa using hsel) (X.ord id).core.size (X.ord id).core (Nat.le_refl _) (X.flt id) (Array.replicate ops.size false) (killT (X.flt id) tm) hp (by simpa using hord) (by simpa using fltOK_spec hflt) (killT_slot _ _) h
            _ (fun _ => false) (fun _ => (0, 0)) a w.drew (Nat.le_refl _) (by rw [markE_none]; simpa using hdn) (by simpa using hI') ops.size (by rw [markE_none]; unfold unl; simp)
          rw [markE_none] at this
          simpa using this
        have plain : ∀ tm' hp' a' w', Q .normal tm' hp' → Inv M w0 ρ0 X.m tm' hp' a' w' → CQ M w0 ρ0 X.m Q .normal a' w' := fun tm' hp' a' w' hk hI' => ⟨fun _ => by simp, tm', hp', hk, hI'⟩
        generalize X.ord id = t at h key
        cases t with
        | nil => exact key _ plain h
        | one i t => exact key _ plain h
        | alt x y => exact key _ plain h
        | cut t =>
          obtain ⟨I, h1, h2⟩ := h
          refine key _ (fun tm' hp' a' w' hk hI' => ?_) h1
          obtain ⟨tm2, hp2, σ, h3, hle⟩ := hk
          exact ⟨fun _ => by simp, tm2, hp2, h2 _ _ h3, hI'.le hle⟩
  | .loop b, ho, Q, tm, hp, a, w, h, hI => by
    rw [vcCode] at h
    simp only [ordOK] at ho
    obtain ⟨I, ⟨n, tm', hp', σ, hI0, hle⟩, hround⟩ := h
    refine wp_loop_ghost (fun n a w => ∃ tm hp, I n tm hp ∧ Inv M w0 ρ0 X.m tm hp a w) n ⟨tm', hp', hI0, hI.le hle⟩ ?_
    intro n a w hIn
    obtain ⟨tm, hp, hn, hI⟩ := hIn
    refine wp_mono (code_sound hE b ho _ tm hp a w (hround n tm hp hn) hI) ?_
    intro e a' w' hq
    obtain ⟨hp', tm', hp'', hq, hI'⟩ := hq
    cases e with
    | normal =>
      obtain ⟨n', hlt, tm2, hp2, σ, hn2, hle⟩ := hq
      exact ⟨n', hlt, tm2, hp2, hn2, hI'.le hle⟩
    | exit i => exact ⟨hp', tm', hp'', hq, hI'⟩
    | goto l => exact ⟨hp', tm', hp'', hq, hI'⟩
    | ret => exact ⟨hp', tm', hp'', hq, hI'⟩
    | panic c => exact absurd rfl (hp' c)
    | outgrown => exact ⟨hp', tm', hp'', hq, hI'⟩
  | .rangeFunc _ _ _ _, _, _, _, _, _, _, h, _ => by simp [vcCode] at h
  | .scope _, _, _, _, _, _, _, h, _ => by simp [vcCode] at h
  | .label _, _, _, _, _, _, _, h, _ => by simp [vcCode] at h
  | .goto _, _, _, _, _, _, _, h, _ => by simp [vcCode] at h
  | .refuse _, _, _, _, _, _, _, h, _ => by simp [vcCode] at h

/-! ### Functions -/
theorem vResL_sound (hE : EnvOK X.P X.E) {ρ : Loc} {tm : List V} {hp : List Blk} {a : Act} (hd : Hd M w0 ρ hp w) (ht : relL ρ tm a.tmps.toList) (hk : okL hp.length tm) :
    ∀ (rs : List ResultVar) (k : List V → Prop), vResL X.E rs tm hp k → ∃ vs xs, k vs ∧ relL ρ vs xs ∧ okL hp.length vs ∧
      (rs.mapM fun r => (match r with | .tmp t => pure (a.tmps.getD t undef) | .cell p t => do loadVar t (← asAddr (a.tmps.getD p undef)) : Sem Value)).run X.P w = .ok xs w
  | [], k, h => ⟨[], [], h, by simp [relL], by simp [okL], by simp⟩
  | .tmp t :: rs, k, h => by
    simp only [vResL] at h
    obtain ⟨vs, xs, h1, h2, h3, h4⟩ := vResL_sound hE hd ht hk rs _ h
    refine ⟨_, a.tmps.getD t undef :: xs, h1, ?_, ?_, ?_⟩
    · unfold relL; exact ⟨_, _, rfl, ev_rel ht (.tmp t), h2⟩
    · unfold okL; exact ⟨ev_ok hk (.tmp t), h3⟩
    · rw [List.mapM_cons, Sem.run_bind, Sem.run_pure, Result.andThen_ok, Sem.run_bind, h4]
      rfl
  | .cell p ty :: rs, k, h => by
    simp only [vResL] at h
    obtain ⟨u, y, h1, h2, h3, h4⟩ := vLoad_sound hE hd (ev_rel ht (.tmp p)) h
    obtain ⟨vs, xs, g1, g2, g3, g4⟩ := vResL_sound hE hd ht hk rs _ h1
    refine ⟨_, y :: xs, g1, ?_, ?_, ?_⟩
    · unfold relL; exact ⟨_, _, rfl, h2, g2⟩
    · unfold okL; exact ⟨h3, g3⟩
    · have h5 := h4 w (Keep.refl _ _)
      have h6 : (do loadVar ty (← asAddr (a.tmps.getD p undef)) : Sem Value).run X.P w = .ok y w := by
        simp only [Instr.loadAt, Act.eval, Sem.run_bind] at h5 ⊢
        cases hx : a.tmps.getD p undef with
        | pointer q =>
          cases q with
          | none => rw [hx] at h5; simp [Instr.sureAddr] at h5
          | some q => rw [hx] at h5; simpa [Instr.sureAddr, asAddr] using h5
        | _ => rw [hx] at h5; simp [Instr.sureAddr] at h5
      rw [List.mapM_cons, Sem.run_bind, h6, Result.andThen_ok, Sem.run_bind, g4]
      rfl

theorem vRes_sound (hE : EnvOK X.P X.E) {ρ : Loc} {tm : List V} {hp : List Blk} {a : Act} (hd : Hd M w0 ρ hp w) (ht : relL ρ tm a.tmps.toList) (hk : okL hp.length tm) {fn : Func} {k : V → Prop}
    (h : vRes X.E fn.results.toList tm hp k) : ∃ v y, k v ∧ rel ρ v y ∧ okV hp.length v ∧ (results fn a.tmps).run X.P w = .ok y w := by
  unfold vRes at h
  obtain ⟨vs, xs, h1, h2, h3, h4⟩ := vResL_sound hE hd ht hk _ _ h
  have hrun : (fn.results.mapM fun r => (match r with | .tmp t => pure (a.tmps.getD t undef) | .cell p t => do loadVar t (← asAddr (a.tmps.getD p undef)) : Sem Value)).run X.P w = .ok xs.toArray w := by
    rw [← Array.toArray_toList (xs := fn.results), List.mapM_toArray]
    rw [Sem.run_map, h4]
    rfl
  have hres : (results fn a.tmps).run X.P w = .ok (if h : xs.toArray.size = 1 then xs.toArray[0] else .tuple xs.toArray) w := by
    unfold results
    rw [Sem.run_bind]
    exact (congrArg (fun r => Result.andThen r _) hrun).trans rfl
  cases vs with
  | nil =>
    unfold relL at h2
    subst h2
    refine ⟨.t [], .tuple #[], h1, ?_, trivial, by simpa using hres⟩
    unfold rel; exact ⟨[], rfl, by simp [relL]⟩
  | cons v vs =>
    cases vs with
    | nil =>
      unfold relL at h2
      obtain ⟨x, ys, rfl, hx, h2⟩ := h2
      unfold relL at h2
      subst h2
      unfold okL at h3
      exact ⟨v, x, h1, hx, h3.1, by simpa using hres⟩
    | cons u vs =>
      have hl := relL_length h2
      refine ⟨.t (v :: u :: vs), .tuple xs.toArray, h1, ?_, h3, ?_⟩
      · unfold rel; exact ⟨xs, rfl, h2⟩
      · rw [hres]
        have : ¬ xs.toArray.size = 1 := by simp [hl]
        rw [dif_neg this]

/-- A FUNCTION's CONTRACT OUT OF ITS VERIFICATION CONDITIONS. 'post' may forget: the last state is renamed into it. -/
theorem LC_of (hE : EnvOK X.P X.E) {f : FuncId} {fn : Func} (hf : X.P.funcs[f]? = some fn) (hn : (fn.name == "runtime.NumGoroutine") = false) (hord : ((fn.body.map (ordOK X.E X.mu X.ord X.flt)).getD false) = true)
    {args : List V} {ha : List Blk} (hm : X.m = ha.length) (hnt : args.length ≤ fn.ntmps) {post : V → List Blk → Prop}
    (h : kFun X fn args ha fun v hp => ∃ v' hp' σ, post v' hp' ∧ LeS ha.length σ [v] hp [v'] hp') : LC X.P f args ha post := by
  unfold kFun at h
  cases hb : fn.body with
  | none => simp [hb] at h
  | some c =>
    simp only [hb] at h
    rw [hb] at hord
    simp only [Option.map_some, Option.getD_some] at hord
    refine ⟨⟨fn, hf, by simp [hb], hn⟩, fun w ρ xs hd hr hk => ?_⟩
    have hxl := relL_length hr
    refine calls_of_wp hf hb ?_
    have hI : Inv (modOf ha ρ) w ρ X.m (args ++ List.replicate (fn.ntmps - args.length) (.c undef)) ha ⟨xs.toArray ++ Array.replicate (fn.ntmps - xs.toArray.size) undef, []⟩ w := by
      refine ⟨⟨ρ, hd, ?_, fun _ _ => rfl⟩, okL_append hk (okL_iff.2 fun v hv => by rw [List.mem_replicate] at hv; rw [hv.2]; trivial), rfl, by omega⟩
      simp only [Array.toList_append, List.toList_toArray, Array.toList_replicate, List.size_toArray, hxl]
      refine relL_append hr ?_
      have := relL_map_c (ρ := ρ) (fun _ : Nat => undef) (List.range (fn.ntmps - args.length))
      simpa [List.map_const'] using this
    refine wp_mono (code_sound hE c hord _ _ _ _ _ h hI) ?_
    intro e a' w' hq
    obtain ⟨hnp, tm', hp', hq, hI'⟩ := hq
    have fin : vRes X.E fn.results.toList tm' hp' (fun v => ∃ v' hp'' σ, post v' hp'' ∧ LeS ha.length σ [v] hp' [v'] hp'') →
        a'.defers = [] ∧ ∃ v, (results fn a'.tmps).run X.P w' = .ok v w' ∧ ∃ v_1 hp'_1 ρ' x, Ending.returned v = .returned x ∧ post v_1 hp'_1 ∧ Hd (modOf ha ρ) w ρ' hp'_1 w' ∧ ha.length ≤ hp'_1.length ∧
          (∀ h, h < ha.length → ρ' h = ρ h) ∧ rel ρ' v_1 x ∧ okV hp'_1.length v_1 := fun hv => by
      obtain ⟨ρ1, hd1, ht1, hb1⟩ := hI'.ex
      obtain ⟨u, y, ⟨v', hp'', σ, hpo, hle⟩, h2, h3, h4⟩ := vRes_sound hE hd1 ht1 hI'.ok hv
      have h5 := LeS_tm hle (ρ := ρ1) (xs := [y]) (by unfold relL; exact ⟨y, [], rfl, h2, by simp [relL]⟩)
      unfold relL at h5
      obtain ⟨y', ys, e1, h5, _⟩ := h5
      cases e1
      have h6 := LeS_ok hle
      unfold okL at h6
      exact ⟨hI'.defers, y, h4, v', hp'', _, y, rfl, hpo, LeS_hd hle hd1, LeS_len hle, fun i hi => by simp only [LeS_base hle hi]; exact hb1 i (by omega), h5, h6.1⟩
    cases e with
    | normal => exact fin (by rw [den, vEnd] at hq; exact hq)
    | ret => exact fin (by rw [den, vEnd] at hq; exact hq)
    | exit i => rw [den, vEnd] at hq; exact hq.elim; all_goals simp
    | goto l => rw [den, vEnd] at hq; exact hq.elim; all_goals simp
    | panic c => exact absurd rfl (hnp c)
    | outgrown => rw [den, vEnd] at hq; exact hq.elim; all_goals simp
end
end Go.Vc
/- The check of the orders, told so that the kernel need not look for what waits on what where an operation keeps all memory. -/
set_option linter.unusedSimpArgs false
set_option linter.unusedVariables false
namespace Go.Vc
open Go
def takeB2 (mu : List FuncId) (ops : Array Oper) (listed : Array Bool) (i : Nat) : Bool :=
  match ops[i]? with
  | some o => isS o.op && Region.free .any ops listed i && (Region.ready .any ops listed).contains i &&
      (!isLoad o.op || (List.range ops.size).all fun j => (((ops[j]?).map fun q => presOp mu q.op).getD true || (j == i || listed.getD j true)) || waitsB ops i ops.size j)
  | none => false
theorem takeB2_eq : takeB2 = takeB := by
  funext mu ops listed i
  unfold takeB2 takeB
  cases ops[i]? with
  | none => rfl
  | some o =>
    simp only
    congr 2
    congr 1
    funext j
    generalize ((ops[j]?).map fun q => presOp mu q.op).getD true = a
    generalize waitsB ops i ops.size j = b
    generalize listed.getD j true = c
    generalize (j == i) = d
    cases a <;> cases b <;> cases c <;> cases d <;> rfl
def chkT2 (mu : List FuncId) (ops : Array Oper) : Bool → Array Bool → List Nat → Tr → Bool
  | cov, listed, F, .nil => !cov && F.isEmpty && (Region.ready .any ops listed).isEmpty
  | cov, listed, F, .one i t =>
    if F.contains i then !cov && chkSub (fun L rest => !rest.contains i || ((Region.ready .any ops L).contains i && (Region.ready .any ops L).all fun j => rest.contains j)) F listed [] && chkT2 mu ops false (listed.setIfInBounds i true) (F.filter (· != i)) t
    else (cov || chkSub (fun L rest => takeB2 mu ops L i || ((Region.ready .any ops L).contains i && (Region.ready .any ops L).all fun j => j == i || rest.contains j)) F listed []) && chkT2 mu ops false (listed.setIfInBounds i true) F t
  | cov, listed, F, .alt a b =>
    (cov || chkSub (fun L rest => !(Region.ready .any ops L).isEmpty && (Region.ready .any ops L).all fun j => (a.heads ++ b.heads).contains j || rest.contains j) F listed []) && chkT2 mu ops true listed F a && chkT2 mu ops true listed F b
  | _, _, _, .cut _ => false
theorem chkT2_eq (mu : List FuncId) (ops : Array Oper) : ∀ (t : Tr) (cov : Bool) (listed : Array Bool) (F : List Nat), chkT2 mu ops cov listed F t = chkT mu ops cov listed F t
  | .nil, _, _, _ => by rw [chkT2, chkT]
  | .one i t, cov, listed, F => by rw [chkT2, chkT, takeB2_eq, chkT2_eq mu ops t, chkT2_eq mu ops t]
  | .alt a b, cov, listed, F => by rw [chkT2, chkT, chkT2_eq mu ops a, chkT2_eq mu ops b]
  | .cut t, _, _, _ => by rw [chkT2, chkT]
def ordOK2 (E : Env) (mu : List FuncId) (ord : Nat → Tr) (flt : Nat → Flt) : Code → Bool
  | .region id ops draw => !draw || (Region.noSelect ops && fltOK E ops (flt id) && chkT2 mu ops false (Array.replicate ops.size false) ((flt id).map (·.1)) (ord id).core)
  | .seq a b => ordOK2 E mu ord flt a && ordOK2 E mu ord flt b
  | .cond _ a b => ordOK2 E mu ord flt a && ordOK2 E mu ord flt b
  | .block _ b => ordOK2 E mu ord flt b
  | .loop b => ordOK2 E mu ord flt b
  | .scope b => ordOK2 E mu ord flt b
  | .rangeFunc _ _ a b => ordOK2 E mu ord flt a && ordOK2 E mu ord flt b
  | _ => true
theorem ordOK2_eq (E : Env) (mu : List FuncId) (ord : Nat → Tr) (flt : Nat → Flt) (c : Code) : ordOK2 E mu ord flt c = ordOK E mu ord flt c := by
  induction c with
  | region id ops draw => rw [ordOK2, ordOK, chkT2_eq]
  | seq a b iha ihb => rw [ordOK2, ordOK, iha, ihb]
  | cond x a b iha ihb => rw [ordOK2, ordOK, iha, ihb]
  | block id b ih => rw [ordOK2, ordOK, ih]
  | loop b ih => rw [ordOK2, ordOK, ih]
  | scope b ih => rw [ordOK2, ordOK, ih]
  | rangeFunc s p a b iha ihb => rw [ordOK2, ordOK, iha, ihb]
  | _ => rfl
theorem ord_two {E : Env} {mu : List FuncId} {ord : Nat → Tr} {flt : Nat → Flt} {c : Option Code} (h : ((c.map (ordOK2 E mu ord flt)).getD false) = true) : ((c.map (ordOK E mu ord flt)).getD false) = true := by
  rw [show ordOK E mu ord flt = ordOK2 E mu ord flt from funext fun c => (ordOK2_eq E mu ord flt c).symm]
  exact h
end Go.Vc
/- Meeting places: ahead of chosen regions of a function's code the state may be forgotten, and the rest told once, as a theorem of its own. -/
set_option linter.unusedSimpArgs false
set_option linter.unusedVariables false
namespace Go.Vc
open Go
/-- The code with an empty region that draws put ahead of the regions of L. -/
def mark (L : List Nat) : Code → Code
  | .region id ops d => if L.contains id = true then .seq (.region (1000000 + id) (List.toArray []) true) (.region id ops d) else .region id ops d
  | .seq a b => .seq (mark L a) (mark L b)
  | .cond x a b => .cond x (mark L a) (mark L b)
  | .block id b => .block id (mark L b)
  | .loop b => .loop (mark L b)
  | .skip => .skip
  | .rangeFunc s p a b => .rangeFunc s p a b
  | .exit id => .exit id
  | .scope b => .scope b
  | .label l => .label l
  | .goto l => .goto l
  | .ret => .ret
  | .refuse s => .refuse s
/-- The rest from a meeting place on. -/
def kAt (L : List Nat) (id : Nat) : Code → K → Option K
  | .region i ops d, q => if i = id then some (.seq (.region i ops d) q) else none
  | .seq a b, q => match kAt L id a (.seq (mark L b) q) with
    | some r => some r
    | none => kAt L id b q
  | .cond _ a b, q => match kAt L id a q with
    | some r => some r
    | none => kAt L id b q
  | .block i b, q => kAt L id b (.blk i q)
  | _, _ => none
def kFromK (fn : Func) (L : List Nat) (id : Nat) (post : V → List Blk → Prop) : Option K :=
  match fn.body with
  | some c => kAt L id c (.fin fn.results.toList post)
  | none => none
/-- What is to be shown of a function from a meeting place on. -/
def kFrom (X : Cx) (fn : Func) (L : List Nat) (id : Nat) (post : V → List Blk → Prop) (tm : List V) (hp : List Blk) : Prop :=
  match kFromK fn L id post with
  | some q => den X q .normal tm hp
  | none => False
def kFunM (X : Cx) (L : List Nat) (fn : Func) (args : List V) (ha : List Blk) (post : V → List Blk → Prop) : Prop :=
  match fn.body with
  | some c => kC X (mark L c) (args ++ List.replicate (fn.ntmps - args.length) (.c undef)) ha (.fin fn.results.toList post)
  | none => False
/-- The end of a law: true, whatever else is there. -/
def lawPost : V → List Blk → Prop := fun v hp => ∃ v' hp' σ, v' = .c (.bool true) ∧ LeS 1 σ [v] hp [v'] hp'
section
variable {X : Cx} {M : Nat → Prop} {w0 w : World} {ρ0 : Loc}
theorem vcSeq_none {E : Env} {P : Program} {mu : List FuncId} {tm : List V} {hp : List Blk} {k : List V → List Blk → Prop} : ∀ (t : Tr), vcSeq E P mu [] t tm hp k → k tm hp
  | .nil, h => h
  | .one i t, h => by simp [vcSeq] at h
  | .alt a b, h => vcSeq_none a h.1
  | .cut _, h => by simp [vcSeq] at h
theorem marker_sound {id : Nat} {Q : Exit → List V → List Blk → Prop} {tm : List V} {hp : List Blk} {a : Act} (h : vcCode X (.region id (List.toArray []) true) tm hp Q) (hI : Inv M w0 ρ0 X.m tm hp a w) :
    ∃ tm2 hp2, Q .normal tm2 hp2 ∧ Inv M w0 ρ0 X.m tm2 hp2 a w := by
  rw [vcCode, if_pos rfl] at h
  have hI' : Inv M w0 ρ0 X.m (killT (X.flt id) tm) hp a w := by
    obtain ⟨ρ, hd, ht, hb⟩ := hI.ex
    exact ⟨⟨ρ, hd, killT_rel ht, hb⟩, killT_ok hI.ok, hI.defers, hI.len⟩
  generalize X.ord id = t at h
  cases t with
  | nil => exact ⟨_, _, h, hI'⟩
  | one i t => exact ⟨_, _, vcSeq_none _ h, hI'⟩
  | alt x y => exact ⟨_, _, vcSeq_none _ h, hI'⟩
  | cut t =>
    obtain ⟨I, h1, h2⟩ := h
    obtain ⟨tm2, hp2, σ, h3, hle⟩ := vcSeq_none _ h1
    exact ⟨_, _, h2 _ _ h3, hI'.le hle⟩
theorem kMeet {fn : Func} {L : List Nat} {id : Nat} {post : V → List Blk → Prop} {tm tm' : List V} {hp hp' : List Blk} {q : K} (h : kFrom X fn L id post tm' hp') (hK : kFromK fn L id post = some q) (hle : ∃ σ, LeS X.m σ tm hp tm' hp') :
    kCut X [] .nil tm hp q := by
  obtain ⟨σ, hle⟩ := hle
  unfold kFrom at h
  rw [hK] at h
  refine ⟨fun tm2 hp2 => tm2 = tm' ∧ hp2 = hp', ?_, ?_⟩
  · rw [vcSeq]; exact ⟨_, _, σ, ⟨rfl, rfl⟩, hle⟩
  · rintro _ _ ⟨rfl, rfl⟩; exact h
theorem code_soundM (L : List Nat) (hE : EnvOK X.P X.E) : ∀ (c : Code), ordOK X.E X.mu X.ord X.flt c = true → ∀ (Q : Exit → List V → List Blk → Prop) (tm : List V) (hp : List Blk) (a : Act) (w : World),
    vcCode X (mark L c) tm hp Q → Inv M w0 ρ0 X.m tm hp a w → c.wp X.P (CQ M w0 ρ0 X.m Q) a w
  | .skip, _, Q, tm, hp, a, w, h, hI => wp_skip ⟨fun _ => by simp, tm, hp, by rw [mark, vcCode] at h; exact h, hI⟩
  | .ret, _, Q, tm, hp, a, w, h, hI => wp_ret ⟨fun _ => by simp, tm, hp, by rw [mark, vcCode] at h; exact h, hI⟩
  | .exit id, _, Q, tm, hp, a, w, h, hI => wp_exit ⟨fun _ => by simp, tm, hp, by rw [mark, vcCode] at h; exact h, hI⟩
  | .seq x y, ho, Q, tm, hp, a, w, h, hI => by
    rw [mark, vcCode] at h
    simp only [ordOK, Bool.and_eq_true] at ho
    refine wp_seq (wp_mono (code_soundM L hE x ho.1 _ tm hp a w h hI) ?_)
    intro e a' w' hq
    obtain ⟨hp', tm', hp'', hq, hI'⟩ := hq
    cases e with
    | normal => exact code_soundM L hE y ho.2 Q tm' hp'' a' w' hq hI'
    | exit i => exact ⟨hp', tm', hp'', hq, hI'⟩
    | goto l => exact ⟨hp', tm', hp'', hq, hI'⟩
    | ret => exact ⟨hp', tm', hp'', hq, hI'⟩
    | panic c => exact absurd rfl (hp' c)
    | outgrown => exact ⟨hp', tm', hp'', hq, hI'⟩
  | .cond x p q, ho, Q, tm, hp, a, w, h, hI => by
    rw [mark, vcCode] at h
    simp only [ordOK, Bool.and_eq_true] at ho
    unfold vCond at h
    split at h
    · rename_i t hx
      obtain ⟨ρ, hd, ht, hb⟩ := hI.ex
      have hr := ev_rel ht x
      rw [hx] at hr
      unfold rel at hr
      cases t with
      | true => exact wp_cond hr (code_soundM L hE p ho.1 Q tm hp a w (h.1 rfl) hI)
      | false => exact wp_cond hr (code_soundM L hE q ho.2 Q tm hp a w (h.2 rfl) hI)
    · exact h.elim
  | .block id b, ho, Q, tm, hp, a, w, h, hI => by
    rw [mark, vcCode] at h
    simp only [ordOK] at ho
    refine wp_block (wp_mono (code_soundM L hE b ho _ tm hp a w h hI) ?_)
    intro e a' w' hq
    obtain ⟨hp', tm', hp'', hq, hI'⟩ := hq
    cases e with
    | normal => exact ⟨hp', tm', hp'', hq, hI'⟩
    | exit i =>
      simp only [vBlock] at hq
      simp only [Exit.inBlock]
      split at hq
      · rename_i hi; rw [if_pos hi]; exact ⟨fun _ => by simp, tm', hp'', hq, hI'⟩
      · rename_i hi; rw [if_neg hi]; exact ⟨hp', tm', hp'', hq, hI'⟩
    | goto l => exact ⟨hp', tm', hp'', hq, hI'⟩
    | ret => exact ⟨hp', tm', hp'', hq, hI'⟩
    | panic c => exact absurd rfl (hp' c)
    | outgrown => exact ⟨hp', tm', hp'', hq, hI'⟩
  | .region id ops draw, ho, Q, tm, hp, a, w, h, hI => by
    rw [mark] at h
    by_cases hc : L.contains id = true
    · rw [if_pos hc, vcCode] at h
      obtain ⟨tm2, hp2, h2, hI2⟩ := marker_sound h hI
      exact code_sound hE _ ho Q tm2 hp2 a w h2 hI2
    · rw [if_neg hc] at h
      exact code_sound hE _ ho Q tm hp a w h hI
  | .loop b, ho, Q, tm, hp, a, w, h, hI => by
    rw [mark, vcCode] at h
    simp only [ordOK] at ho
    obtain ⟨I, ⟨n, tm', hp', σ, hI0, hle⟩, hround⟩ := h
    refine wp_loop_ghost (fun n a w => ∃ tm hp, I n tm hp ∧ Inv M w0 ρ0 X.m tm hp a w) n ⟨tm', hp', hI0, hI.le hle⟩ ?_
    intro n a w hIn
    obtain ⟨tm, hp, hn, hI⟩ := hIn
    refine wp_mono (code_soundM L hE b ho _ tm hp a w (hround n tm hp hn) hI) ?_
    intro e a' w' hq
    obtain ⟨hp', tm', hp'', hq, hI'⟩ := hq
    cases e with
    | normal =>
      obtain ⟨n', hlt, tm2, hp2, σ, hn2, hle⟩ := hq
      exact ⟨n', hlt, tm2, hp2, hn2, hI'.le hle⟩
    | exit i => exact ⟨hp', tm', hp'', hq, hI'⟩
    | goto l => exact ⟨hp', tm', hp'', hq, hI'⟩
    | ret => exact ⟨hp', tm', hp'', hq, hI'⟩
    | panic c => exact absurd rfl (hp' c)
    | outgrown => exact ⟨hp', tm', hp'', hq, hI'⟩
  | .rangeFunc _ _ _ _, _, _, _, _, _, _, h, _ => by simp [mark, vcCode] at h
  | .scope _, _, _, _, _, _, _, h, _ => by simp [mark, vcCode] at h
  | .label _, _, _, _, _, _, _, h, _ => by simp [mark, vcCode] at h
  | .goto _, _, _, _, _, _, _, h, _ => by simp [mark, vcCode] at h
  | .refuse _, _, _, _, _, _, _, h, _ => by simp [mark, vcCode] at h

/-- As LC_of, with meeting places ahead of the regions L. -/
theorem LC_ofM (L : List Nat) (hE : EnvOK X.P X.E) {f : FuncId} {fn : Func} (hf : X.P.funcs[f]? = some fn) (hn : (fn.name == "runtime.NumGoroutine") = false) (hord : ((fn.body.map (ordOK X.E X.mu X.ord X.flt)).getD false) = true)
    {args : List V} {ha : List Blk} (hm : X.m = ha.length) (hnt : args.length ≤ fn.ntmps) {post : V → List Blk → Prop}
    (h : kFunM X L fn args ha fun v hp => ∃ v' hp' σ, post v' hp' ∧ LeS ha.length σ [v] hp [v'] hp') : LC X.P f args ha post := by
  unfold kFunM at h
  cases hb : fn.body with
  | none => simp [hb] at h
  | some c =>
    simp only [hb] at h
    rw [hb] at hord
    simp only [Option.map_some, Option.getD_some] at hord
    refine ⟨⟨fn, hf, by simp [hb], hn⟩, fun w ρ xs hd hr hk => ?_⟩
    have hxl := relL_length hr
    refine calls_of_wp hf hb ?_
    have hI : Inv (modOf ha ρ) w ρ X.m (args ++ List.replicate (fn.ntmps - args.length) (.c undef)) ha ⟨xs.toArray ++ Array.replicate (fn.ntmps - xs.toArray.size) undef, []⟩ w := by
      refine ⟨⟨ρ, hd, ?_, fun _ _ => rfl⟩, okL_append hk (okL_iff.2 fun v hv => by rw [List.mem_replicate] at hv; rw [hv.2]; trivial), rfl, by omega⟩
      simp only [Array.toList_append, List.toList_toArray, Array.toList_replicate, List.size_toArray, hxl]
      refine relL_append hr ?_
      have := relL_map_c (ρ := ρ) (fun _ : Nat => undef) (List.range (fn.ntmps - args.length))
      simpa [List.map_const'] using this
    refine wp_mono (code_soundM L hE c hord _ _ _ _ _ h hI) ?_
    intro e a' w' hq
    obtain ⟨hnp, tm', hp', hq, hI'⟩ := hq
    have fin : vRes X.E fn.results.toList tm' hp' (fun v => ∃ v' hp'' σ, post v' hp'' ∧ LeS ha.length σ [v] hp' [v'] hp'') →
        a'.defers = [] ∧ ∃ v, (results fn a'.tmps).run X.P w' = .ok v w' ∧ ∃ v_1 hp'_1 ρ' x, Ending.returned v = .returned x ∧ post v_1 hp'_1 ∧ Hd (modOf ha ρ) w ρ' hp'_1 w' ∧ ha.length ≤ hp'_1.length ∧
          (∀ h, h < ha.length → ρ' h = ρ h) ∧ rel ρ' v_1 x ∧ okV hp'_1.length v_1 := fun hv => by
      obtain ⟨ρ1, hd1, ht1, hb1⟩ := hI'.ex
      obtain ⟨u, y, ⟨v', hp'', σ, hpo, hle⟩, h2, h3, h4⟩ := vRes_sound hE hd1 ht1 hI'.ok hv
      have h5 := LeS_tm hle (ρ := ρ1) (xs := [y]) (by unfold relL; exact ⟨y, [], rfl, h2, by simp [relL]⟩)
      unfold relL at h5
      obtain ⟨y', ys, e1, h5, _⟩ := h5
      cases e1
      have h6 := LeS_ok hle
      unfold okL at h6
      exact ⟨hI'.defers, y, h4, v', hp'', _, y, rfl, hpo, LeS_hd hle hd1, LeS_len hle, fun i hi => by simp only [LeS_base hle hi]; exact hb1 i (by omega), h5, h6.1⟩
    cases e with
    | normal => exact fin (by rw [den, vEnd] at hq; exact hq)
    | ret => exact fin (by rw [den, vEnd] at hq; exact hq)
    | exit i => rw [den, vEnd] at hq; exact hq.elim; all_goals simp
    | goto l => rw [den, vEnd] at hq; exact hq.elim; all_goals simp
    | panic c => exact absurd rfl (hnp c)
    | outgrown => rw [den, vEnd] at hq; exact hq.elim; all_goals simp
end
end Go.Vc

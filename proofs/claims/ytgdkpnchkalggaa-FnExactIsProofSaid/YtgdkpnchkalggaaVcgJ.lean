/- Operations that make or write memory: each is sound. -/
import Derived.Test.YtgdkpnchkalggaaVcgI
set_option linter.unusedSimpArgs false
set_option linter.unusedVariables false
namespace Go.Vc
open Go
section
variable {P : Program} {E : Env} {t : TypeId} {d : TD} {M : Nat → Prop} {w0 w : World} {ρ ρ' : Loc} {hp : List Blk}

/-- What a step leaves: the state grows, old handles stand where they stood. -/
structure Step (M : Nat → Prop) (w0 : World) (ρ : Loc) (hp : List Blk) (w : World) (v : V) (hp' : List Blk) (ρ' : Loc) (w' : World) (y : Value) : Prop where
  hd : Hd M w0 ρ' hp' w'
  same : ∀ h, h < hp.length → ρ' h = ρ h
  len : hp.length ≤ hp'.length
  val : rel ρ' v y
  ok : okV hp'.length v
  src : ∀ h b, hp'[h]? = some b → b.cells ≠ [] → w.heap.size ≤ (ρ' h).1 ∨ ∃ g c, hp[g]? = some c ∧ c.cells ≠ [] ∧ (ρ' h).1 = (ρ g).1

theorem src_push {ρ : Loc} {hp : List Blk} {x : Blk} {n : Nat} {q : Nat} : ∀ h b, (hp ++ [x])[h]? = some b → b.cells ≠ [] → n ≤ ((ρ.upd hp.length (n, q)) h).1 ∨ ∃ g c, hp[g]? = some c ∧ c.cells ≠ [] ∧ ((ρ.upd hp.length (n, q)) h).1 = (ρ g).1 := by
  intro h b hb hne
  rcases getElem?_snoc hb with hb | ⟨rfl, rfl⟩
  · exact .inr ⟨h, b, hb, hne, by rw [Loc.upd_lt ρ _ h (List.getElem?_eq_some_iff.1 hb).1]⟩
  · exact .inl (by rw [Loc.upd_same]; exact Nat.le_refl _)
theorem src_same {ρ : Loc} {hp : List Blk} {n : Nat} : ∀ h b, hp[h]? = some b → b.cells ≠ [] → n ≤ (ρ h).1 ∨ ∃ g c, hp[g]? = some c ∧ c.cells ≠ [] ∧ (ρ h).1 = (ρ g).1 :=
  fun h b hb hne => .inr ⟨h, b, hb, hne, rfl⟩
/-- One block is written: it lies where it lay. -/
theorem src_set {ρ : Loc} {hp : List Blk} {n g : Nat} {x b0 : Blk} (hg : hp[g]? = some b0) (h0 : x.cells ≠ [] → b0.cells ≠ []) : ∀ h b, (hp.set g x)[h]? = some b → b.cells ≠ [] → n ≤ (ρ h).1 ∨ ∃ g c, hp[g]? = some c ∧ c.cells ≠ [] ∧ (ρ h).1 = (ρ g).1 := by
  intro h b hb hne
  rcases getElem?_set_cases hb with ⟨rfl, rfl, _⟩ | ⟨_, hb⟩
  · exact .inr ⟨h, b0, hg, h0 hne, rfl⟩
  · exact .inr ⟨h, b, hb, hne, rfl⟩
theorem Step.push (hd : Hd M w0 ρ hp w) {cs : List V} {xs : List Value} (hr : relL ρ cs xs) (hok : okL hp.length cs) (h1 : ∀ x ∈ xs, x.oneCell' = true) (T : TypeId) :
    Step M w0 ρ hp w (.p hp.length 0) (hp ++ [⟨true, cs⟩]) (ρ.upd hp.length (w.heap.size, 0)) (w.alloc (.cells xs.toArray T)) (.pointer (some ⟨w.heap.size, 0, none⟩)) :=
  ⟨hd.push hr hok h1 T true, Loc.upd_lt ρ _, by simp, by unfold rel; rw [Loc.upd_same], by simp [okV], src_push⟩
theorem Step.pushS (hd : Hd M w0 ρ hp w) {cs : List V} {xs : List Value} (hr : relL ρ cs xs) (hok : okL hp.length cs) (h1 : ∀ x ∈ xs, x.oneCell' = true) (T : TypeId) {n c : Nat} (hn : n ≤ c) :
    Step M w0 ρ hp w (.s hp.length 0 n c) (hp ++ [⟨true, cs⟩]) (ρ.upd hp.length (w.heap.size, 0)) (w.alloc (.cells xs.toArray T)) (.slice (some ⟨w.heap.size, 0, none⟩) n c) :=
  ⟨hd.push hr hok h1 T true, Loc.upd_lt ρ _, by simp, by unfold rel; rw [Loc.upd_same]; exact ⟨hn, _, rfl, fun _ => rfl⟩, by simp [okV], src_push⟩

theorem alloc_run (hE : EnvOK P E) {d : TD} (h : E t = some d) (hd : Hd M w0 ρ hp w) :
    ∃ w' ρ' y, (Instr.alloc t true (.tuple #[])).run P w = .ok y w' ∧ Step M w0 ρ hp w (.p hp.length 0) (hp ++ [⟨true, d.zero⟩]) ρ' w' y ∧ Keep none' w w' := by
  obtain ⟨z, hz, z1, z2, z3, z4⟩ := hE.zero h
  refine ⟨_, _, _, ?_, Step.push hd (relL_of_zero z1) (okL_of_zero z1) z2 t, Keep.alloc _ _ _⟩
  simp [Instr.alloc, hz w, newVar, newRow]

theorem box_run {x : V} {v : Value} (hx : rel ρ x v) (hk : okV hp.length x) {cs : List V} (h : cellsOf x = some cs) (hd : Hd M w0 ρ hp w) :
    ∃ w' ρ' y, (Instr.box t v).run P w = .ok y w' ∧ Step M w0 ρ hp w (.p hp.length 0) (hp ++ [⟨true, cs⟩]) ρ' w' y ∧ Keep none' w w' := by
  obtain ⟨h1, h2⟩ := cellsOf_rel hx h
  refine ⟨_, _, _, ?_, Step.push hd h1 (cellsOf_ok hk h) h2 t, Keep.alloc _ _ _⟩
  simp [Instr.box, newVar, newRow]

theorem zeros_rel {z : Value} {zs : List V} (h : z.cells.toList.map V.c = zs) (n : Nat) : relL ρ (List.replicate n zs).flatten ((List.replicate n z.cells.toList).flatten) := by
  rw [flatten_replicate_map n _ zs h]; exact relL_of_c _
theorem zeros_ok {N : Nat} {z : Value} {zs : List V} (h : z.cells.toList.map V.c = zs) (n : Nat) : okL N (List.replicate n zs).flatten := by
  rw [flatten_replicate_map n _ zs h]; exact okL_of_c _

theorem range0_map (f : Nat → Value) : (Array.range 0).map f = #[] := by apply Array.ext'; simp

theorem buildSlice_run (hE : EnvOK P E) (hd : Hd M w0 ρ hp w) {len : Nat} {ps : List (Nat × V)} {qs : List (Nat × Value)} (hi : ps.map (·.1) = qs.map (·.1)) (hr : relL ρ (ps.map (·.2)) (qs.map (·.2))) (hk : okL hp.length (ps.map (·.2)))
    {k : V → List Blk → Prop} (h : vBuildSlice E t len ps hp k) :
    ∃ v hp' w' ρ' y, k v hp' ∧ (Instr.buildSlice t len qs.toArray).run P w = .ok y w' ∧ Step M w0 ρ hp w v hp' ρ' w' y ∧ Keep none' w w' := by
  unfold vBuildSlice at h
  cases hE0 : E t with
  | none => simp [hE0] at h
  | some dd =>
    simp only [hE0] at h
    cases hdu : dd.und <;> simp only [hdu] at h
    case slice e =>
      cases hEe : E e with
      | none => simp [hEe] at h
      | some de =>
        simp only [hEe] at h
        obtain ⟨hl, h⟩ := h
        obtain ⟨z, hz, z1, z2, z3, z4⟩ := hE.zero hEe
        cases hf : fillV (fun i => some (i * de.size, de.size)) (List.replicate len de.zero).flatten ps with
        | none => simp [hf] at h
        | some cs =>
          simp only [hf] at h
          obtain ⟨lo, g1, g2, g3, g4, g5⟩ := fill_sound ps qs _ _ (zeros_rel (ρ := ρ) z1 len) (zeros_ok z1 len) (one_flatten len _ z2) hi hr hk cs hf
          refine ⟨_, _, _, _, _, h, ?_, Step.pushS hd g2 g3 g4 e (Nat.le_refl len), Keep.alloc _ _ _⟩
          have hlen : ((List.replicate len z.cells.toList).flatten).length = len * de.size := by simp [List.length_flatten, z4]
          simp only [Instr.buildSlice, Sem.run_bind, hE.run_und hE0, hdu, Result.andThen_ok, hE.run_size hEe]
          rw [if_neg (by omega)]
          by_cases h0 : len * de.size = 0
          · have hnil : (List.replicate len z.cells.toList).flatten = [] := List.eq_nil_of_length_eq_zero (by omega)
            rw [hnil] at g1
            rw [if_pos h0]
            simp only [Sem.run_bind, Sem.run_pure, Result.andThen_ok, h0, range0_map, g1, newRow, run_newObj]
            rfl
          · rw [if_neg h0]
            have hrow := zero_row z.cells len
            rw [z4] at hrow
            simp only [Sem.run_bind, Sem.run_pure, Result.andThen_ok, hz w, z4, hrow, g1, newRow, run_newObj]
            rfl
    all_goals exact h.elim

theorem makeSlice_run (hE : EnvOK P E) (hd : Hd M w0 ρ hp w) {l c : V} {lv cv : Value} (hl : rel ρ l lv) (hc : rel ρ c cv) {k : V → List Blk → Prop} (h : vMakeSlice E t l c hp k) :
    ∃ v hp' w' ρ' y, k v hp' ∧ (Instr.makeSlice t lv cv).run P w = .ok y w' ∧ Step M w0 ρ hp w v hp' ρ' w' y ∧ Keep none' w w' := by
  unfold vMakeSlice at h
  cases hE0 : E t with
  | none => simp [hE0] at h
  | some dd =>
    simp only [hE0] at h
    cases hdu : dd.und <;> simp only [hdu] at h
    case slice e =>
      cases hal : asI l with
      | none => simp [hal] at h
      | some p =>
        cases hac : asI c with
        | none => simp [hal, hac] at h
        | some q =>
          obtain ⟨kl, n⟩ := p
          obtain ⟨kc, m⟩ := q
          simp only [hal, hac] at h
          have := asI_rel hl hal
          subst this
          have := asI_rel hc hac
          subst this
          cases hEe : E e with
          | none => simp [hEe] at h
          | some de =>
            simp only [hEe] at h
            obtain ⟨h0, h1, h2, h3, h⟩ := h
            obtain ⟨i, z, hi, his, hib, hiz, z1, z2, z3⟩ := hE.info hEe
            have z4 : z.cells.size = de.size := by rw [← z3, ← z1]; simp
            refine ⟨_, _, _, _, _, h, ?_, Step.pushS hd (zeros_rel (ρ := ρ) z1 m.toNat) (zeros_ok z1 m.toNat) (one_flatten m.toNat _ z2) e (by omega), Keep.alloc _ _ _⟩
            have wn : IntKind.i64.wrap n = n := IntWalk.i64_in _ (by omega)
            have wm : IntKind.i64.wrap m = m := IntWalk.i64_in _ (by omega)
            have hti : ∀ w, (typeInfo e).run P w = .ok i w := fun w => by simp [typeInfo, hi]
            have hzv : ∀ w, (zeroValue e).run P w = .ok z w := fun w => by simp [zeroValue, typeInfo, hi, hiz]
            have hlen : ((List.replicate m.toNat z.cells.toList).flatten).length = m.toNat * de.size := by simp [List.length_flatten, z4]
            have hfit : ¬ ((de.bytes : Int) * m > 281474976710656) := by omega
            simp only [Instr.makeSlice, Sem.run_bind, hE.run_und hE0, hdu, Result.andThen_ok, asInt, asIntOf, Sem.run_pure, hti w, wn, wm, hib]
            rw [if_neg (by simp; omega)]
            simp only [Sem.run_bind, run_askRoom, Result.andThen_ok, hE.run_size hEe]
            by_cases h0 : m.toNat * de.size = 0
            · have hnil : (List.replicate m.toNat z.cells.toList).flatten = [] := List.eq_nil_of_length_eq_zero (by omega)
              rw [if_pos h0, hnil]
              simp only [Sem.run_bind, Sem.run_pure, Result.andThen_ok, h0, range0_map, newRow, run_newObj]
              rfl
            · rw [if_neg h0]
              have hrow := zero_row z.cells m.toNat
              rw [z4] at hrow
              simp only [Sem.run_bind, Sem.run_pure, Result.andThen_ok, hzv w, z4, hrow, newRow, run_newObj]
              rfl
    all_goals exact h.elim

theorem store_run (hE : EnvOK P E) (hd : Hd M w0 ρ hp w) {x y : V} {xv yv : Value} (hx : rel ρ x xv) (hy : rel ρ y yv) (hky : okV hp.length y) {k : V → List Blk → Prop} (h : vStore E t x y hp k) :
    ∃ hp' w', k (.c undef) hp' ∧ (Instr.storeAt t xv yv).run P w = .ok () w' ∧ Step M w0 ρ hp w (.c undef) hp' ρ w' undef := by
  unfold vStore vPut at h
  cases hE0 : E t with
  | none => simp [hE0] at h
  | some dd =>
    cases x <;> simp only [hE0] at h
    case p g o =>
      cases hc : cellsOf y with
      | none => simp [hc] at h
      | some vs =>
        simp only [hc] at h
        cases hb : hp[g]? with
        | none => simp [hb] at h
        | some b =>
          simp only [hb] at h
          obtain ⟨ho, hl, hlen, h⟩ := h
          unfold rel at hx; subst hx
          obtain ⟨h1, h2⟩ := cellsOf_rel hy hc
          have hvl := relL_length h1
          obtain ⟨q1, q2⟩ := hd.write (P := P) (o := o) (vs := vs) hb ho h1 (cellsOf_ok hky hc) h2 (by omega)
          refine ⟨_, _, h, ?_, ⟨q2, fun _ _ => rfl, by simp, rfl, trivial, src_set hb fun hne e => hne (List.eq_nil_of_length_eq_zero (by rw [splice_length (by omega), e]; rfl))⟩⟩
          have hsz : yv.cells.size = dd.size := by rw [← hl, ← hvl]; simp
          simp [Instr.storeAt, Instr.sureAddr, storeVar, hE.run_size hE0, hsz, q1]
    all_goals exact h.elim
end
end Go.Vc

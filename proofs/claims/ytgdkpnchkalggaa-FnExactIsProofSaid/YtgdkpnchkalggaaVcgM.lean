/- Regions in whatever order, code, functions: the verification conditions are sound. -/
import Derived.Test.YtgdkpnchkalggaaVcgP
import Derived.Deep.LoopGhost
set_option linter.unusedSimpArgs false
set_option linter.unusedVariables false
namespace Go.Vc
open Go
section
variable {P : Program} {E : Env} {t : TypeId} {d : TD} {M : Nat → Prop} {w0 w : World} {ρ ρ' : Loc} {hp : List Blk} {mu : List FuncId}

theorem callFunc_run {f : FuncId} (h : hasBody P f) (args : Array Value) (w : World) : (callFunc f args).run P w = .ok (.enter f args) w := by
  obtain ⟨fn, hf, hb, hn⟩ := h
  obtain ⟨c, hc⟩ := Option.isSome_iff_exists.1 hb
  have hn' : fn.name ≠ "runtime.NumGoroutine" := by simpa using hn
  simp [callFunc, hf, hn', hc]

theorem vcE_sound (hE : EnvOK P E) {o : Oper} {a : Act} {tm : List V} (hd : Hd M w0 ρ hp w) (ht : relL ρ tm a.tmps.toList) (hk : okL hp.length tm) {k : V → List Blk → Prop} (h : vcE E P mu o.op tm hp k)
    {K : Act → World → Prop} {Q : Exit → Act → World → Prop}
    (hK : ∀ v hp' ρ' w' y, k v hp' → Step M w0 ρ hp w v hp' ρ' w' y → (presOp mu o.op = true → Keep none' w w') → K (a.put o.dst y) w') : o.wp P a w K Q := by
  obtain ⟨dst, op, ty, pos, af, gd⟩ := o
  simp only at h hK
  unfold Oper.wp
  cases op <;> simp only [vcE] at h
  case alloc t =>
    cases hE0 : E t with
    | none => simp [hE0] at h
    | some dd =>
      simp only [hE0] at h
      obtain ⟨w', ρ', y, h1, h2, h3⟩ := alloc_run hE hE0 hd
      simp only [execOp, Sem.run_bind, h1, Result.andThen_ok, Sem.run_pure, Oper.upon]
      exact hK _ _ _ _ _ h h2 (fun _ => h3)
  case box t x =>
    cases hc : cellsOf (ev tm x) with
    | none => simp [hc] at h
    | some cs =>
      simp only [hc] at h
      obtain ⟨w', ρ', y, h1, h2, h3⟩ := box_run (P := P) (t := t) (ev_rel ht x) (ev_ok hk x) hc hd
      simp only [execOp, Sem.run_bind, h1, Result.andThen_ok, Sem.run_pure, Oper.upon]
      exact hK _ _ _ _ _ h h2 (fun _ => h3)
  case buildSlice t n ps =>
    obtain ⟨v, hp', w', ρ', y, h0, h1, h2, h3⟩ := buildSlice_run hE hd (ps := ps.toList.map fun q => (q.1, ev tm q.2)) (qs := ps.toList.map fun q => (q.1, a.eval q.2)) (by simp)
      (by have := evs_rel (a := a) ht (ps.toList.map (·.2)); simpa [List.map_map, Function.comp_def] using this)
      (by have := evs_ok hk (ps.toList.map (·.2)); simpa [List.map_map, Function.comp_def] using this) h
    have h1' : (Instr.buildSlice t n (ps.map fun q => (q.1, a.eval q.2))).run P w = .ok y w' := by
      rwa [← List.map_toArray, Array.toArray_toList] at h1
    simp only [execOp, Sem.run_bind, h1', Result.andThen_ok, Sem.run_pure, Oper.upon]
    exact hK _ _ _ _ _ h0 h2 (fun _ => h3)
  case store t x y =>
    obtain ⟨hp', w', h0, h1, h2⟩ := store_run hE hd (ev_rel ht x) (ev_rel ht y) (ev_ok hk y) h
    simp only [execOp, Sem.run_bind, h1, Result.andThen_ok, Sem.run_pure, Oper.upon]
    exact hK _ _ _ _ _ h0 h2 (fun hp => by simp [presOp, isS] at hp)
  case makeSlice t l c =>
    obtain ⟨v, hp', w', ρ', y, h0, h1, h2, h3⟩ := makeSlice_run hE hd (ev_rel ht l) (ev_rel ht c) h
    simp only [execOp, Sem.run_bind, h1, Result.andThen_ok, Sem.run_pure, Oper.upon]
    exact hK _ _ _ _ _ h0 h2 (fun _ => h3)
  case call c =>
    obtain ⟨callee, args, ts⟩ := c
    cases callee with
    | invoke r m => exact h.elim
    | builtin b =>
      cases b <;> simp only at h
      case append =>
        obtain ⟨v, hp', w', ρ', y, h0, h1, h2⟩ := app_run hE hd (evs_rel (a := a) ht args.toList) h ty
        rw [Array.toArray_toList, ← List.map_toArray, Array.toArray_toList] at h1
        have hx : (execOp a.eval ⟨dst, .call ⟨.builtin .append, args, ts⟩, ty, pos, af, gd⟩).run P w = .ok (.value y) w' := by
          simp [execOp, resolve, invoke, builtin, h1]
        rw [hx]
        simp only [Oper.upon]
        exact hK _ _ _ _ _ h0 h2 (fun hp => by simp [presOp, isS] at hp)
      case copy =>
        obtain ⟨v, hp', w', ρ', y, h0, h1, h2⟩ := copy_run hE hd (evs_rel (a := a) ht args.toList) h ty
        rw [Array.toArray_toList, ← List.map_toArray, Array.toArray_toList] at h1
        have hx : (execOp a.eval ⟨dst, .call ⟨.builtin .copy, args, ts⟩, ty, pos, af, gd⟩).run P w = .ok (.value y) w' := by
          simp [execOp, resolve, invoke, builtin, h1]
        rw [hx]
        simp only [Oper.upon]
        exact hK _ _ _ _ _ h0 h2 (fun hp => by simp [presOp, isS] at hp)
      all_goals exact h.elim
    | value f =>
      cases f <;> simp only at h
      case func f =>
        by_cases hm : mu.contains f = true
        · rw [if_pos hm] at h
          obtain ⟨hb, hc⟩ := callM_run hd (evs_rel (a := a) ht args.toList) h
          have hx : (execOp a.eval ⟨dst, .call ⟨.value (.func f), args, ts⟩, ty, pos, af, gd⟩).run P w = .ok (.enter f (args.map a.eval)) w := by
            simp [execOp, resolve, Deferred.ofValue, Act.eval, invoke, callFunc_run hb]
          rw [hx]
          simp only [Oper.upon]
          rw [← List.map_toArray, Array.toArray_toList] at hc
          refine hc.mono fun e w' hR => ?_
          obtain ⟨v, hp', ρ', y, rfl, h0, h2⟩ := hR
          exact hK _ _ _ _ _ h0 h2 (fun hp => by simp only [presOp, hm] at hp; cases hp)
        rw [if_neg hm] at h
        obtain ⟨hb, hc⟩ := call_run hd (evs_rel (a := a) ht args.toList) h
        have hx : (execOp a.eval ⟨dst, .call ⟨.value (.func f), args, ts⟩, ty, pos, af, gd⟩).run P w = .ok (.enter f (args.map a.eval)) w := by
          simp [execOp, resolve, Deferred.ofValue, Act.eval, invoke, callFunc_run hb]
        rw [hx]
        simp only [Oper.upon]
        rw [← List.map_toArray, Array.toArray_toList] at hc
        refine hc.mono fun e w' hR => ?_
        obtain ⟨v, hp', ρ', y, rfl, h0, h2, h3⟩ := hR
        exact hK _ _ _ _ _ h0 h2 (fun _ => h3)
      all_goals exact h.elim
  all_goals exact h.elim

/-- A frame and a world that an abstract state tells of. -/
structure Inv (M : Nat → Prop) (w0 : World) (ρ0 : Loc) (m : Nat) (tm : List V) (hp : List Blk) (a : Act) (w : World) : Prop where
  ex : ∃ ρ, Hd M w0 ρ hp w ∧ relL ρ tm a.tmps.toList ∧ (∀ h, h < m → ρ h = ρ0 h)
  ok : okL hp.length tm
  defers : a.defers = []
  len : m ≤ hp.length

theorem put_rel {tm : List V} {a : Act} (h : relL ρ tm a.tmps.toList) {v : V} {y : Value} (hv : rel ρ v y) (d : Option Tmp) : relL ρ (putV tm d v) (a.put d y).tmps.toList := by
  cases d with
  | none => exact h
  | some t =>
    simp only [putV, Act.put]
    have := relL_set h hv t
    rwa [Array.toList_setIfInBounds]
theorem put_ok {N : Nat} {tm : List V} (h : okL N tm) {v : V} (hv : okV N v) (d : Option Tmp) : okL N (putV tm d v) := by
  cases d with
  | none => exact h
  | some t => exact okL_set h hv t
theorem put_defers (a : Act) (d : Option Tmp) (y : Value) : (a.put d y).defers = a.defers := by cases d <;> rfl

theorem Inv.step {ρ0 : Loc} {m : Nat} {tm : List V} {a : Act} (hd : Hd M w0 ρ hp w) (ht : relL ρ tm a.tmps.toList) (hb : ∀ h, h < m → ρ h = ρ0 h) (hok : okL hp.length tm) (hdf : a.defers = []) (hl : m ≤ hp.length)
    {v : V} {hp' : List Blk} {w' : World} {y : Value} (hs : Step M w0 ρ hp w v hp' ρ' w' y) (d : Option Tmp) : Inv M w0 ρ0 m (putV tm d v) hp' (a.put d y) w' :=
  ⟨⟨ρ', hs.hd, put_rel (relL_congr (N := hp.length) hs.same hok ht) hs.val d, fun h hh => (hs.same h (by omega)).trans (hb h hh)⟩,
    put_ok (okL_mono hs.len hok) hs.ok d, by rw [put_defers, hdf], Nat.le_trans hl hs.len⟩

theorem Step.nil (hd : Hd M w0 ρ hp w) : Step M w0 ρ hp w (.c undef) hp ρ w undef := ⟨hd, fun _ _ => rfl, Nat.le_refl _, by unfold rel; rfl, trivial, src_same⟩

theorem wanted_of {ops : List Oper} {tm : List V} {a : Act} (ht : relL ρ tm a.tmps.toList) {j : Nat} {want b : Bool} {d : Tmp} (hj : (ops[j]?).bind (·.dst) = some d) (hb : tm[d]? = some (.c (.bool b))) {o : Oper} (hg : o.guard = some (j, want)) :
    Region.wanted o (yielded ops.toArray a.tmps) = (b == want) := by
  obtain ⟨x, hx, hr⟩ := relL_get ht hb
  unfold rel at hr
  subst hr
  have hx' : a.tmps[d]? = some (.bool b) := by simpa using hx
  have hj' : ((ops.toArray)[j]?).bind (·.dst) = some d := by simpa using hj
  have hy : yielded ops.toArray a.tmps j = some b := by unfold yielded; rw [hj']; simp [hx']
  simp only [Region.wanted, hg, hy]
  cases b <;> cases want <;> rfl

/-- What one operation, under its guard, leaves: told for both ways of walking. -/
theorem vcG_cases {X : Env} {ops : List Oper} {o : Oper} {tm : List V} {k : List V → List Blk → Prop} (h : vcG X P mu ops o tm hp k) {a : Act} (ht : relL ρ tm a.tmps.toList) :
    (Region.wanted o (yielded ops.toArray a.tmps) = true ∧ vcOne X P mu o tm hp k) ∨ (Region.wanted o (yielded ops.toArray a.tmps) = false ∧ k (putV tm o.dst (.c undef)) hp) := by
  unfold vcG at h
  cases hg : o.guard with
  | none => simp only [hg] at h; exact .inl ⟨by simp [Region.wanted, hg], h⟩
  | some q =>
    obtain ⟨j, want⟩ := q
    simp only [hg] at h
    cases hj : (ops[j]?).bind (·.dst) with
    | none => simp [hj] at h
    | some d =>
      simp only [hj] at h
      split at h
      · rename_i b hb
        have hw := wanted_of ht hj hb hg
        by_cases hbw : b = want
        · exact .inl ⟨by rw [hw]; simpa using hbw, h.1 hbw⟩
        · exact .inr ⟨by rw [hw]; simpa using hbw, h.2 hbw⟩
      · exact h.elim

theorem vcOne_wpS (hE : EnvOK P E) {o : Oper} {a : Act} {tm : List V} (hd : Hd M w0 ρ hp w) (ht : relL ρ tm a.tmps.toList) (hok : okL hp.length tm) {k : List V → List Blk → Prop} (h : vcOne E P mu o tm hp k) {K : Act → World → Prop} {Q : Exit → Act → World → Prop}
    (hK : ∀ v hp' ρ' w' y, k (putV tm o.dst v) hp' → Step M w0 ρ hp w v hp' ρ' w' y → (presOp mu o.op = true → Keep none' w w') → K (a.put o.dst y) w') : o.wp P a w K Q := by
  unfold vcOne at h
  by_cases hs : isS o.op = true
  · rw [if_pos hs] at h
    obtain ⟨u, y, h1, h2, h3, h4⟩ := vcS_sound hE hd ht hok h
    unfold Oper.wp
    rw [h4 w (fun _ => Keep.refl _ _)]
    simp only [Oper.upon]
    exact hK _ _ _ _ _ h1 ⟨hd, fun _ _ => rfl, Nat.le_refl _, h2, h3, src_same⟩ (fun _ => Keep.refl _ _)
  · rw [if_neg hs] at h
    exact vcE_sound (mu := mu) hE hd ht hok h fun v hp' ρ' w' y hk hst hp => hK _ _ _ _ _ hk hst hp

theorem vcOne_wp (hE : EnvOK P E) {o : Oper} {a : Act} {tm : List V} {ρ0 : Loc} {m : Nat} (hI : Inv M w0 ρ0 m tm hp a w) {k : List V → List Blk → Prop} (h : vcOne E P mu o tm hp k) {K : Act → World → Prop} {Q : Exit → Act → World → Prop}
    (hK : ∀ tm' hp' a' w', k tm' hp' → Inv M w0 ρ0 m tm' hp' a' w' → (presOp mu o.op = true → Keep none' w w') → K a' w') : o.wp P a w K Q := by
  obtain ⟨⟨ρ, hd, ht, hb⟩, hok, hdf, hl⟩ := hI
  exact vcOne_wpS hE hd ht hok h fun v hp' ρ' w' y hk hst hp => hK _ _ _ _ hk (Inv.step hd ht hb hok hdf hl hst _) hp

theorem vcList_sound (hE : EnvOK P E) {ops : List Oper} {Q : Exit → Act → World → Prop} {ρ0 : Loc} {m : Nat} {k : List V → List Blk → Prop} (hQ : ∀ tm' hp' a' w', k tm' hp' → Inv M w0 ρ0 m tm' hp' a' w' → Q .normal a' w') :
    ∀ (l : List Oper) (tm : List V) (hp : List Blk) (a : Act) (w : World), vcList E P mu ops l tm hp k → Inv M w0 ρ0 m tm hp a w → wpList P ops.toArray Q l a w
  | [], tm, hp, a, w, h, hI => by
    unfold vcList at h
    exact hQ _ _ _ _ h hI
  | o :: l, tm, hp, a, w, h, hI => by
    unfold vcList at h
    unfold wpList
    obtain ⟨ρ, hd, ht, hb⟩ := hI.ex
    rcases vcG_cases h ht with ⟨hw, h1⟩ | ⟨hw, h1⟩
    · rw [if_pos hw]
      exact .inl (vcOne_wp (mu := mu) hE hI h1 fun tm' hp' a' w' hk hI' _ => vcList_sound hE hQ l tm' hp' a' w' hk hI')
    · rw [if_neg (by simp [hw])]
      refine vcList_sound hE hQ l _ _ _ _ h1 (Inv.step hd ht hb hI.ok hI.defers hI.len (Step.nil hd) _)

/-! ### Whatever order -/
def presAt (mu : List FuncId) (ops : Array Oper) (i : Nat) : Bool := ((ops[i]?).map fun q => presOp mu q.op).getD true

def wpAnyM (P : Program) (mu : List FuncId) (ops : Array Oper) (Q : Exit → Act → World → Prop) : Nat → Array Bool → Act → World → Prop
  | 0, listed, a, w => Region.ready .any ops listed = [] ∧ Q .normal a w
  | fuel + 1, listed, a, w =>
    (Region.ready .any ops listed = [] → Q .normal a w) ∧
    ∀ i ∈ Region.ready .any ops listed, wpOp P ops Q i (fun a' w' => (presAt mu ops i = true → Keep none' w w') ∧ wpAnyM P mu ops Q fuel (listed.setIfInBounds i true) a' w') a w

theorem wpAny_of_M {ops : Array Oper} {Q : Exit → Act → World → Prop} : ∀ (fuel : Nat) (listed : Array Bool) (a : Act) (w : World), wpAnyM P mu ops Q fuel listed a w → wpAny P .any ops Q fuel listed a w
  | 0, _, _, _, h => h
  | fuel + 1, _, _, _, h => ⟨h.1, fun i hi => wpOp_mono (fun a' w' h' => wpAny_of_M fuel _ a' w' h'.2) (h.2 i hi)⟩

theorem wpAnyM_done {ops : Array Oper} {Q : Exit → Act → World → Prop} {listed : Array Bool} {a : Act} {w : World} (hr : Region.ready .any ops listed = []) (h : Q .normal a w) : ∀ fuel, wpAnyM P mu ops Q fuel listed a w
  | 0 => ⟨hr, h⟩
  | _ + 1 => ⟨fun _ => h, by rw [hr]; simp⟩

/-- Whoever is listed, those that it waits for are listed. -/
def Dn (ops : Array Oper) (listed : Array Bool) : Prop := ∀ (j : Nat) (oj : Oper), ops[j]? = some oj → listed.getD j false = true → ∀ e ∈ oj.after, Region.binds .any e = true → listed.getD e.on false = true

theorem Dn.waits {ops : Array Oper} {listed : Array Bool} (h : Dn ops listed) {i : Nat} : ∀ (n j : Nat) (oj : Oper), ops[j]? = some oj → (∀ e ∈ oj.after, Region.binds .any e = true → listed.getD e.on false = true) → waitsB ops i n j = true → listed.getD i false = true
  | 0, _, _, _, _, hw => by simp [waitsB] at hw
  | n + 1, j, oj, hj, hp, hw => by
    simp only [waitsB, hj] at hw
    rw [Array.any_eq_true'] at hw
    obtain ⟨e, he, hw⟩ := hw
    simp only [Bool.and_eq_true, Bool.or_eq_true] at hw
    have hl := hp e he hw.1
    rcases hw.2 with h1 | h1
    · have : e.on = i := by simpa using h1
      rw [← this]; exact hl
    · cases hoe : ops[e.on]? with
      | none => cases n with
        | zero => simp [waitsB] at h1
        | succ n => simp [waitsB, hoe] at h1
      | some oe => exact h.waits n e.on oe hoe (h e.on oe hoe hl) h1

theorem getD_set_false {listed : Array Bool} {i j : Nat} (h : (listed.setIfInBounds i true).getD j false = true) : j = i ∨ listed.getD j false = true := by
  by_cases hj : j = i
  · exact .inl hj
  · right; rwa [getD_set_ne false (Ne.symm hj)] at h

theorem Dn.set {ops : Array Oper} {listed : Array Bool} (h : Dn ops listed) {i : Nat} (hi : i ∈ Region.ready .any ops listed) : Dn ops (listed.setIfInBounds i true) := by
  intro j oj hj hl e he hb
  obtain ⟨_, oi, hoi, hall⟩ := mem_ready.1 hi
  rcases getD_set_false hl with rfl | hl
  · rw [hoi] at hj; cases hj
    exact getD_set_true (hall e he hb)
  · exact getD_set_true (h j oj hj hl e he hb)

theorem unlisted_ne {listed : Array Bool} {i : Nat} (h : listed.getD i true = false) : listed.getD i false = false := by
  rcases Nat.lt_or_ge i listed.size with h' | h'
  · simp [h'] at h ⊢; exact h
  · simp [Array.getElem?_eq_none h'] at h

theorem wpAnyM_first {ops : Array Oper} {Q : Exit → Act → World → Prop} {i : Nat} {oi : Oper} {v : Value} (hi : ops[i]? = some oi) (hsel : ∀ (j : Nat) (o : Oper) cs b, ops[j]? = some o → o.op ≠ .select cs b)
    (hQ : ∀ c a w, Q (.panic c) (a.put oi.dst v) w → Q (.panic c) a w) :
    ∀ (fuel : Nat) (listed : Array Bool) (a : Act) (w : World), Dn ops listed →
      (∀ (j : Nat) (oj : Oper), ops[j]? = some oj → j ≠ i → listed.getD j true = false → (∀ e ∈ oj.after, Region.binds .any e = true → e.on ≠ i) → oi.apart ops oj = true) →
      (isLoad oi.op = true → ∀ (j : Nat) (oj : Oper), ops[j]? = some oj → j ≠ i → listed.getD j true = false → waitsB ops i ops.size j = false → presOp mu oj.op = true) →
      i ∈ Region.ready .any ops listed → YieldsIf P ops (fun w' => isLoad oi.op = true → Keep none' w w') oi v a →
      wpAnyM P mu ops Q fuel (listed.setIfInBounds i true) (a.put oi.dst v) w → wpAnyM P mu ops Q (fuel + 1) listed a w := by
  intro fuel
  induction fuel with
  | zero =>
    intro listed a w _ _ _ hr hy H
    refine ⟨fun h => (by rw [h] at hr; cases hr), fun j hj => ?_⟩
    by_cases hji : j = i
    · subst hji; exact hy.wpOp hi (fun _ => Keep.refl _ _) ⟨fun _ => Keep.refl _ _, H⟩
    · have := ready_mono hj hji
      rw [H.1] at this
      cases this
  | succ fuel ih =>
    intro listed a w hdn hfree hpres hr hy H
    refine ⟨fun h => (by rw [h] at hr; cases hr), fun j hj => ?_⟩
    by_cases hji : j = i
    · subst hji; exact hy.wpOp hi (fun _ => Keep.refl _ _) ⟨fun _ => Keep.refl _ _, H⟩
    · have h1 := H.2 j (ready_mono hj hji)
      obtain ⟨hjun, oj, hoj, hall⟩ := mem_ready.1 hj
      have hiun := (mem_ready.1 hr).1
      have hnot : ∀ e ∈ oj.after, Region.binds .any e = true → e.on ≠ i := fun e he hb heq => by
        have h1 := hall e he hb
        rw [heq, unlisted_ne hiun] at h1
        cases h1
      have hpj : isLoad oi.op = true → presAt mu ops j = true := fun hld => by
        have hw : waitsB ops i ops.size j = false := by
          cases hww : waitsB ops i ops.size j with
          | false => rfl
          | true =>
            have := hdn.waits ops.size j oj hoj hall hww
            rw [unlisted_ne hiun] at this; cases this
        simp only [presAt, hoj, Option.map_some, Option.getD_some]
        exact hpres hld j oj hoj hji hjun hw
      have h2 := wpOp_putIf hoj (hfree j oj hoj hji hjun hnot) (fun cs b => hsel i oi cs b hi) (fun cs b => hsel j oj cs b hoj) hQ hy h1
      have hfree' : ∀ (k : Nat) (ok : Oper), ops[k]? = some ok → k ≠ i → (listed.setIfInBounds j true).getD k true = false →
          (∀ e ∈ ok.after, Region.binds .any e = true → e.on ≠ i) → oi.apart ops ok = true := fun k ok hk hki hun hno => by
        refine hfree k ok hk hki ?_ hno
        by_cases hjk : j = k
        · subst hjk; exact hjun
        · rw [getD_set_ne true hjk] at hun; exact hun
      have hpres' : isLoad oi.op = true → ∀ (k : Nat) (ok : Oper), ops[k]? = some ok → k ≠ i → (listed.setIfInBounds j true).getD k true = false → waitsB ops i ops.size k = false → presOp mu ok.op = true := fun hld k ok hk hki hun hno => by
        refine hpres hld k ok hk hki ?_ hno
        by_cases hjk : j = k
        · subst hjk; exact hjun
        · rw [getD_set_ne true hjk] at hun; exact hun
      refine wpOp_mono (fun a' w' h3 => ⟨h3.2.1, ih (listed.setIfInBounds j true) a' w' (hdn.set hj) hfree' hpres' (ready_mono hr (Ne.symm hji)) ?_ ?_⟩) h2
      · -- its value in later worlds
        rcases h3.1 with ⟨e1, e2⟩ | e
        · exact .inl ⟨e1, fun w'' hw'' => e2 w'' (fun hld => (h3.2.1 (hpj hld)).trans (hw'' hld))⟩
        · exact .inr e
      · rw [Array.setIfInBounds_comm _ _ hji]
        exact h3.2.2

/-! ### Variables that are allocated ahead of their place -/
/-- What a step does, told of the blocks that it may write alone. -/
theorem Hd.here (h : Hd M w0 ρ hp w) : Hd (modOf hp ρ) w ρ hp w :=
  ⟨Keep.refl _ _, h.ok, h.cell, fun g b hg ho hne => ⟨.inr ⟨g, b, hg, ho, hne, rfl⟩, (h.own g b hg ho hne).2⟩, h.sep⟩
theorem Hd.there (h : Hd M w0 ρ hp w) {hp' : List Blk} {w' : World} (h' : Hd (modOf hp ρ) w ρ' hp' w') : Hd M w0 ρ' hp' w' := by
  have hm : ∀ k, modOf hp ρ k → w0.heap.size ≤ k ∨ M k := fun k hk => by
    obtain ⟨g, b, hg, ho, hne, rfl⟩ := hk
    exact (h.own g b hg ho hne).1
  refine ⟨⟨h'.keep.os.trans h.keep.os, h'.keep.tape.trans h.keep.tape, h'.keep.output.trans h.keep.output, Nat.le_trans h.keep.size h'.keep.size, fun k hk hn => ?_⟩, h'.ok, h'.cell, fun g b hg ho hne => ?_, h'.sep⟩
  · refine (h'.keep.block k (Nat.lt_of_lt_of_le hk h.keep.size) fun hmk => ?_).trans (h.keep.block k hk hn)
    rcases hm k hmk with h1 | h1
    · omega
    · exact hn h1
  · obtain ⟨h1, h2⟩ := h'.own g b hg ho hne
    refine ⟨?_, h2⟩
    rcases h1 with h1 | h1
    · exact .inl (Nat.le_trans h.keep.size h1)
    · exact hm _ h1
theorem Step.there (h : Hd M w0 ρ hp w) {v : V} {hp' : List Blk} {w' : World} {y : Value} (hs : Step (modOf hp ρ) w ρ hp w v hp' ρ' w' y) : Step M w0 ρ hp w v hp' ρ' w' y :=
  ⟨h.there hs.hd, hs.same, hs.len, hs.val, hs.ok, hs.src⟩

/-- A variable that is there already, and of which the abstract state does not tell: its slot, its place, its cells. -/
structure Early (M : Nat → Prop) (w0 : World) (ρ : Loc) (hp : List Blk) (a : Act) (w : World) (d : Tmp) (zs : List V) (L : Nat × Nat) : Prop where
  new : w0.heap.size ≤ L.1 ∨ M L.1
  tmp : a.tmps[d]? = none ∨ a.tmps[d]? = some (.pointer (some ⟨L.1, L.2, none⟩))
  lt : L.1 < w.heap.size
  cell : ∀ j v, zs[j]? = some v → ∃ x, w.cell? ⟨L.1, L.2 + j, none⟩ = some x ∧ x.oneCell' = true ∧ ∀ ρ, rel ρ v x
  fz : ∀ j, j < zs.length → w.frozen? ⟨L.1, L.2 + j, none⟩ = false
  apart : ∀ h c, hp[h]? = some c → c.cells ≠ [] → (ρ h).1 ≠ L.1

theorem put_tmps_ne {a : Act} {d : Tmp} {o : Option Tmp} {y : Value} (h : o ≠ some d) : (a.put o y).tmps[d]? = a.tmps[d]? := by
  cases o with
  | none => rfl
  | some t =>
    have : t ≠ d := fun e => h (by rw [e])
    simp [Act.put, Array.getElem?_setIfInBounds_ne this]

theorem Early.step {a : Act} {d : Tmp} {zs : List V} {L : Nat × Nat} (h : Early M w0 ρ hp a w d zs L) {v : V} {hp' : List Blk} {w' : World} {y : Value} (hs : Step (modOf hp ρ) w ρ hp w v hp' ρ' w' y) {o : Option Tmp} (ho : o ≠ some d) :
    Early M w0 ρ' hp' (a.put o y) w' d zs L := by
  have hn : ¬ modOf hp ρ L.1 := fun hm => by
    obtain ⟨g, b, hg, _, hne, e⟩ := hm
    exact h.apart g b hg hne e.symm
  refine ⟨h.new, by rw [put_tmps_ne ho]; exact h.tmp, Nat.lt_of_lt_of_le h.lt hs.hd.keep.size, fun j v hv => ?_, fun j hj => ?_, fun g c hg hne e => ?_⟩
  · obtain ⟨x, h1, h2, h3⟩ := h.cell j v hv
    exact ⟨x, (hs.hd.keep.cell (a := ⟨L.1, L.2 + j, none⟩) h.lt hn).trans h1, h2, h3⟩
  · exact (hs.hd.keep.frozen (a := ⟨L.1, L.2 + j, none⟩) h.lt hn).trans (h.fz j hj)
  · rcases hs.src g c hg hne with h1 | ⟨g', c', h1, h2, h3⟩
    · have := h.lt; omega
    · exact h.apart g' c' h1 h2 (h3.symm.trans e)

/-- Its place has come. -/
theorem Early.adopt {a : Act} {d : Tmp} {zs : List V} {L : Nat × Nat} (h : Early M w0 ρ hp a w d zs L) (hd : Hd M w0 ρ hp w) (hz : ∀ N, okL N zs) : Hd M w0 (ρ.upd hp.length L) (hp ++ [⟨true, zs⟩]) w := by
  have lt_of : ∀ g b, hp[g]? = some b → g < hp.length := fun g b hg => (List.getElem?_eq_some_iff.1 hg).1
  refine ⟨hd.keep, ?_, ?_, ?_, ?_⟩
  · intro b hb
    rcases List.mem_append.1 hb with hb | hb
    · exact okL_mono (by simp) (hd.ok b hb)
    · simp at hb; subst hb; exact hz _
  · intro g b hg j v hv
    rcases getElem?_snoc hg with hg | ⟨rfl, rfl⟩
    · rw [Loc.upd_lt ρ _ g (lt_of g b hg)]
      obtain ⟨x, hx, h1, h2⟩ := hd.cell g b hg j v hv
      exact ⟨x, hx, h1, rel_congr (Loc.upd_lt ρ _) (okL_iff.1 (hd.ok b (List.mem_of_getElem? hg)) v (List.mem_of_getElem? hv)) h2⟩
    · rw [Loc.upd_same]
      obtain ⟨x, h1, h2, h3⟩ := h.cell j v hv
      exact ⟨x, h1, h2, h3 _⟩
  · intro g b hg ho hne
    rcases getElem?_snoc hg with hg | ⟨rfl, rfl⟩
    · rw [Loc.upd_lt ρ _ g (lt_of g b hg)]; exact hd.own g b hg ho hne
    · rw [Loc.upd_same]; exact ⟨h.new, h.fz⟩
  · intro g b g' b' hg hg' hgg ho hne hne'
    rcases getElem?_snoc hg with hg | ⟨rfl, rfl⟩ <;> rcases getElem?_snoc hg' with hg' | ⟨rfl, rfl⟩
    · rw [Loc.upd_lt ρ _ g (lt_of g b hg), Loc.upd_lt ρ _ g' (lt_of g' b' hg')]
      exact hd.sep g b g' b' hg hg' hgg ho hne hne'
    · rw [Loc.upd_lt ρ _ g (lt_of g b hg), Loc.upd_same]; exact h.apart g b hg hne
    · rw [Loc.upd_lt ρ _ g' (lt_of g' b' hg'), Loc.upd_same]; exact fun e => h.apart g' b' hg' hne' e.symm
    · exact absurd rfl hgg

/-- A block less is told of. -/
theorem Hd.unsnoc {b0 : Blk} (h : Hd M w0 ρ (hp ++ [b0]) w) (hok : ∀ b ∈ hp, okL hp.length b.cells) : Hd M w0 ρ hp w := by
  have up : ∀ {g : Nat} {b : Blk}, hp[g]? = some b → (hp ++ [b0])[g]? = some b := fun hg => by
    rw [List.getElem?_append_left (List.getElem?_eq_some_iff.1 hg).1]; exact hg
  exact ⟨h.keep, hok, fun g b hg => h.cell g b (up hg), fun g b hg => h.own g b (up hg), fun g b g' b' hg hg' => h.sep g b g' b' (up hg) (up hg')⟩

/-- The listed ones of an abstract order, and those variables that were allocated ahead. -/
def markE (e : Nat → Bool) : List Nat → Array Bool → Array Bool
  | [], L => L
  | f :: F, L => markE e F (if e f then L.setIfInBounds f true else L)

theorem set_comm' (L : Array Bool) (i j : Nat) : (L.setIfInBounds i true).setIfInBounds j true = (L.setIfInBounds j true).setIfInBounds i true := by
  by_cases h : i = j
  · subst h; rfl
  · exact Array.setIfInBounds_comm _ _ h
theorem markE_set (e : Nat → Bool) : ∀ (F : List Nat) (L : Array Bool) (i : Nat), markE e F (L.setIfInBounds i true) = (markE e F L).setIfInBounds i true
  | [], _, _ => rfl
  | f :: F, L, i => by
    simp only [markE]
    split
    · rw [set_comm', markE_set e F]
    · rw [markE_set e F]
theorem set_set' (L : Array Bool) (i : Nat) : (L.setIfInBounds i true).setIfInBounds i true = L.setIfInBounds i true := by
  apply Array.ext'; simp
theorem markE_upd (e : Nat → Bool) (j : Nat) : ∀ (F : List Nat) (L : Array Bool), j ∈ F → markE (fun i => e i || i == j) F L = (markE e F L).setIfInBounds j true
  | f :: F, L, h => by
    have key : ∀ (F : List Nat) (L : Array Bool), markE (fun i => e i || i == j) F (L.setIfInBounds j true) = markE e F (L.setIfInBounds j true) := fun F => by
      induction F with
      | nil => intro L; rfl
      | cons g F ih =>
        intro L
        simp only [markE]
        by_cases hg : g = j
        · subst hg
          simp only [beq_self_eq_true, Bool.or_true, if_true, set_set']
          rw [ih]
          split
          · rfl
          · rfl
        · have : (g == j) = false := by simpa using hg
          simp only [this, Bool.or_false]
          split
          · rw [set_comm', ih]
          · rw [ih]
    simp only [markE]
    by_cases hg : f = j
    · subst hg
      simp only [beq_self_eq_true, Bool.or_true, if_true]
      rw [key, ← markE_set]
      split
      · rw [set_set']
      · rfl
    · have hm : j ∈ F := by
        rcases List.mem_cons.1 h with h1 | h1
        · exact absurd h1.symm hg
        · exact h1
      have : (f == j) = false := by simpa using hg
      simp only [this, Bool.or_false]
      exact markE_upd e j F _ hm
theorem markE_filter (e : Nat → Bool) (i : Nat) (he : e i = true) : ∀ (F : List Nat) (L : Array Bool), i ∈ F → markE e (F.filter (· != i)) (L.setIfInBounds i true) = markE e F L
  | f :: F, L, h => by
    have key : ∀ (F : List Nat) (L : Array Bool), markE e (F.filter (· != i)) (L.setIfInBounds i true) = markE e F (L.setIfInBounds i true) := fun F => by
      induction F with
      | nil => intro L; rfl
      | cons g F ih =>
        intro L
        by_cases hg : g = i
        · subst hg
          rw [List.filter_cons_of_neg (by simp)]
          simp only [markE, he, if_true, set_set']
          exact ih L
        · rw [List.filter_cons_of_pos (by simpa using hg)]
          simp only [markE]
          split
          · rw [set_comm', ih]
          · exact ih L
    by_cases hg : f = i
    · subst hg
      rw [List.filter_cons_of_neg (by simp), key]
      simp only [markE, he, if_true]
    · have hm : i ∈ F := by
        rcases List.mem_cons.1 h with h1 | h1
        · exact absurd h1.symm hg
        · exact h1
      rw [List.filter_cons_of_pos (by simpa using hg)]
      simp only [markE]
      split
      · rw [set_comm']; exact markE_filter e i he F _ hm
      · exact markE_filter e i he F _ hm
theorem markE_none : ∀ (F : List Nat) (L : Array Bool), markE (fun _ => false) F L = L
  | [], _ => rfl
  | f :: F, L => by simp [markE, markE_none F]

theorem chkSub_get {c : Array Bool → List Nat → Bool} {e : Nat → Bool} : ∀ (F : List Nat) (L : Array Bool) (rest : List Nat), chkSub c F L rest = true → (∀ i ∈ rest, e i = false) → ∃ rest', c (markE e F L) rest' = true ∧ ∀ i, i ∈ rest' ↔ i ∈ rest ∨ (i ∈ F ∧ e i = false)
  | [], L, rest, h, _ => ⟨rest, h, fun i => by simp⟩
  | f :: F, L, rest, h, hr => by
    simp only [chkSub, Bool.and_eq_true] at h
    cases hf : e f with
    | true =>
      obtain ⟨r, h1, h2⟩ := chkSub_get (e := e) F _ rest h.1 hr
      refine ⟨r, by simpa only [markE, hf, if_true] using h1, fun i => (h2 i).trans ?_⟩
      constructor
      · rintro (h | h); exact .inl h; exact .inr ⟨List.mem_cons_of_mem _ h.1, h.2⟩
      · rintro (h | ⟨h, h'⟩)
        · exact .inl h
        · rcases List.mem_cons.1 h with rfl | h
          · rw [hf] at h'; cases h'
          · exact .inr ⟨h, h'⟩
    | false =>
      obtain ⟨r, h1, h2⟩ := chkSub_get (e := e) F L (f :: rest) h.2 (by rintro i hi; rcases List.mem_cons.1 hi with rfl | hi; exact hf; exact hr i hi)
      refine ⟨r, by simpa only [markE, hf, Bool.false_eq_true, if_false] using h1, fun i => (h2 i).trans ?_⟩
      constructor
      · rintro (h | h)
        · rcases List.mem_cons.1 h with rfl | h
          · exact .inr ⟨List.mem_cons_self, hf⟩
          · exact .inl h
        · exact .inr ⟨List.mem_cons_of_mem _ h.1, h.2⟩
      · rintro (h | ⟨h, h'⟩)
        · exact .inl (List.mem_cons_of_mem _ h)
        · rcases List.mem_cons.1 h with rfl | h
          · exact .inl List.mem_cons_self
          · exact .inr ⟨h, h'⟩

/-- How many are not listed. -/
def unl (L : Array Bool) : Nat := L.toList.count false
theorem count_set_lt : ∀ (l : List Bool) (j : Nat), l[j]? = some false → (l.set j true).count false < l.count false
  | b :: l, 0, h => by simp at h; subst h; simp
  | b :: l, j + 1, h => by
    have := count_set_lt l j (by simpa using h)
    simp only [List.set_cons_succ, List.count_cons]; omega
theorem unl_set {L : Array Bool} {j : Nat} (h : L.getD j true = false) : unl (L.setIfInBounds j true) < unl L := by
  unfold unl
  rw [Array.toList_setIfInBounds]
  refine count_set_lt _ _ ?_
  rcases Nat.lt_or_ge j L.size with h' | h'
  · simp [h'] at h; simp [h', h]
  · simp [Array.getElem?_eq_none h'] at h

/-- A frame and a world of which an abstract state tells all but the variables that were allocated ahead. -/
structure InvE (E : Env) (ops : Array Oper) (M : Nat → Prop) (w0 : World) (ρ0 : Loc) (m : Nat) (F : Flt) (e : Nat → Bool) (bl : Nat → Nat × Nat) (tm : List V) (hp : List Blk) (a : Act) (w : World) : Prop where
  ex : ∃ ρ, Hd M w0 ρ hp w ∧ relL ρ tm a.tmps.toList ∧ (∀ h, h < m → ρ h = ρ0 h) ∧ ∀ q ∈ F, e q.1 = true → ∀ t dd ty pos af, ops[q.1]? = some ⟨some q.2, .alloc t, ty, pos, af, none⟩ → E t = some dd → Early M w0 ρ hp a w q.2 dd.zero (bl q.1)
  apart : ∀ q ∈ F, ∀ r ∈ F, e q.1 = true → e r.1 = true → q.1 ≠ r.1 → (bl q.1).1 ≠ (bl r.1).1
  ok : okL hp.length tm
  defers : a.defers = []
  len : m ≤ hp.length

def FltP (E : Env) (ops : Array Oper) (F : Flt) : Prop :=
  ∀ q ∈ F, (∃ t dd ty pos af, ops[q.1]? = some ⟨some q.2, .alloc t, ty, pos, af, none⟩ ∧ E t = some dd ∧ dd.zero ≠ []) ∧ ∀ j oj, ops[j]? = some oj → j ≠ q.1 → oj.dst ≠ some q.2
theorem fltOK_spec {E : Env} {ops : Array Oper} {F : Flt} (h : fltOK E ops F = true) : FltP E ops F := by
  intro q hq
  have h1 := List.all_eq_true.1 h q hq
  simp only [Bool.and_eq_true, List.all_eq_true, List.mem_range, Bool.or_eq_true, beq_iff_eq, Bool.not_eq_true'] at h1
  obtain ⟨h1, h2⟩ := h1
  constructor
  · cases ho : ops[q.1]? with
    | none => simp [ho] at h1
    | some o =>
      simp only [ho] at h1
      unfold isAlloc at h1
      split at h1
      · rename_i d' t ty pos af
        simp only [Bool.and_eq_true, beq_iff_eq] at h1
        obtain ⟨rfl, h1⟩ := h1
        cases hE : E t with
        | none => simp [hE] at h1
        | some dd => simp only [hE, Bool.not_eq_true'] at h1; exact ⟨t, dd, ty, pos, af, rfl, hE, by intro e; rw [e] at h1; simp at h1⟩
      · cases h1
  · intro j oj hj hne e
    rcases h2 j (Array.getElem?_eq_some_iff.1 hj).1 with h3 | h3
    · exact hne h3
    · rw [hj] at h3; simp [e] at h3

def SlotJ (F : Flt) (tm : List V) : Prop := ∀ q ∈ F, ∀ v, tm[q.2]? = some v → v = .j
theorem SlotJ.put {F : Flt} {tm : List V} (h : SlotJ F tm) {d : Option Tmp} {v : V} (hd : ∀ q ∈ F, d ≠ some q.2) : SlotJ F (putV tm d v) := by
  intro q hq u hu
  cases d with
  | none => exact h q hq u hu
  | some t =>
    simp only [putV] at hu
    rw [List.getElem?_set_ne (fun e => hd q hq (by rw [e]))] at hu
    exact h q hq u hu
theorem killT_length : ∀ (F : Flt) (tm : List V), (killT F tm).length = tm.length
  | [], _ => rfl
  | q :: F, tm => by rw [killT, killT_length F]; simp
theorem killT_get : ∀ (F : Flt) (tm : List V) (j : Nat) (v : V), (killT F tm)[j]? = some v → v = .j ∨ ((∀ q ∈ F, q.2 ≠ j) ∧ tm[j]? = some v)
  | [], tm, j, v, h => .inr ⟨by simp, h⟩
  | q :: F, tm, j, v, h => by
    rw [killT] at h
    rcases killT_get F _ j v h with h1 | ⟨h1, h2⟩
    · exact .inl h1
    · rcases getElem?_set_cases h2 with ⟨_, rfl, _⟩ | ⟨h3, h4⟩
      · exact .inl rfl
      · exact .inr ⟨fun r hr => by rcases List.mem_cons.1 hr with rfl | hr; exact fun e => h3 e.symm; exact h1 r hr, h4⟩
theorem killT_slot (F : Flt) (tm : List V) : SlotJ F (killT F tm) := by
  intro q hq v hv
  rcases killT_get F tm q.2 v hv with h | ⟨h, _⟩
  · exact h
  · exact absurd rfl (h q hq)
theorem killT_rel {F : Flt} {tm : List V} {xs : List Value} (h : relL ρ tm xs) : relL ρ (killT F tm) xs := by
  refine relL_of_get (by rw [killT_length, relL_length h]) fun j v x hv hx => ?_
  rcases killT_get F tm j v hv with rfl | ⟨_, h2⟩
  · trivial
  · obtain ⟨y, hy, hr⟩ := relL_get h h2
    rw [hy] at hx; cases hx; exact hr
theorem killT_ok {F : Flt} {tm : List V} {N : Nat} (h : okL N tm) : okL N (killT F tm) := okL_iff.2 fun v hv => by
  obtain ⟨j, hj⟩ := List.mem_iff_getElem?.1 hv
  rcases killT_get F tm j v hj with rfl | ⟨_, h2⟩
  · trivial
  · exact okL_get h h2
theorem relL_set_j {tm : List V} {xs : List Value} (h : relL ρ tm xs) {d : Nat} (hj : ∀ v, tm[d]? = some v → v = .j) (y : Value) : relL ρ tm (xs.set d y) := by
  refine relL_of_get (by simp [relL_length h]) fun j v x hv hx => ?_
  rcases getElem?_set_cases hx with ⟨rfl, rfl, _⟩ | ⟨_, hx⟩
  · rw [hj v hv]; trivial
  · obtain ⟨z, hz, hr⟩ := relL_get h hv
    rw [hz] at hx; cases hx; exact hr

theorem zero_rel (hE : EnvOK P E) {t : TypeId} {dd : TD} (h : E t = some dd) : (∀ N, okL N dd.zero) ∧ ∀ (ρ1 : Loc) v x, v ∈ dd.zero → rel ρ1 v x → ∀ ρ, rel ρ v x := by
  obtain ⟨z, _, z1, _⟩ := hE.zero h
  constructor
  · intro N; exact okL_of_zero z1
  · intro ρ1 v x hv hr ρ
    rw [← z1] at hv
    obtain ⟨c, _, rfl⟩ := List.mem_map.1 hv
    unfold rel at hr ⊢; exact hr

/-- A variable is allocated ahead of its place. -/
theorem early_step (hE : EnvOK P E) {ops : Array Oper} {ρ0 : Loc} {m : Nat} {F : Flt} {e : Nat → Bool} {bl : Nat → Nat × Nat} {tm : List V} {a : Act} (hF : FltP E ops F) (hJ : SlotJ F tm) (hI : InvE E ops M w0 ρ0 m F e bl tm hp a w)
    {q : Nat × Tmp} (hq : q ∈ F) (he : e q.1 = false) {K : Act → World → Prop} {Q : Exit → Act → World → Prop}
    (hK : ∀ bl' a' w', InvE E ops M w0 ρ0 m F (fun i => e i || i == q.1) bl' tm hp a' w' → Keep none' w w' → K a' w') : wpOp P ops Q q.1 K a w := by
  obtain ⟨⟨t, dd, ty, pos, af, ho, hEt, hz⟩, hdst⟩ := hF q hq
  obtain ⟨⟨ρ, hd, ht, hb, hear⟩, hap, hok, hdf, hl⟩ := hI
  have hqd : ∀ r ∈ F, r.1 ≠ q.1 → (some q.2 : Option Tmp) ≠ some r.2 := fun r hr hne => by
    obtain ⟨⟨_, _, _, _, _, hor, _, _⟩, hdr⟩ := hF r hr
    exact hdr q.1 _ ho (fun e => hne e.symm)
  unfold wpOp
  simp only [ho]
  rw [if_pos (by simp [Region.wanted])]
  left
  obtain ⟨w', ρ', y, h1, hs, hkn⟩ := alloc_run hE hEt hd.here
  unfold Oper.wp
  simp only [execOp, Sem.run_bind, h1, Result.andThen_ok, Sem.run_pure, Oper.upon]
  have hd' := hd.there hs.hd
  have hlast : (hp ++ [(⟨true, dd.zero⟩ : Blk)])[hp.length]? = some ⟨true, dd.zero⟩ := by simp
  have up : ∀ {g : Nat} {b : Blk}, hp[g]? = some b → (hp ++ [(⟨true, dd.zero⟩ : Blk)])[g]? = some b := fun hg => by
    rw [List.getElem?_append_left (List.getElem?_eq_some_iff.1 hg).1]; exact hg
  have others : ∀ r ∈ F, r.1 ≠ q.1 → e r.1 = true → ∀ t' dd' ty' pos' af', ops[r.1]? = some ⟨some r.2, .alloc t', ty', pos', af', none⟩ → E t' = some dd' → Early M w0 ρ' (hp ++ [⟨true, dd.zero⟩]) (a.put (some q.2) y) w' r.2 dd'.zero (bl r.1) := by
    intro r hr hne her t' dd' ty' pos' af' hor hE'
    exact (hear r hr her t' dd' ty' pos' af' hor hE').step hs (hqd r hr hne)
  refine hK (fun i => if i = q.1 then ρ' hp.length else bl i) _ _ ⟨⟨ρ', hd'.unsnoc hd.ok, ?_, fun h hh => (hs.same h (by omega)).trans (hb h hh), ?_⟩, ?_, hok, by rw [put_defers, hdf], hl⟩ hkn
  · have := relL_set_j (relL_congr (N := hp.length) hs.same hok ht) (hJ q hq) y
    simpa [Act.put] using this
  · intro r hr her t' dd' ty' pos' af' hor hE'
    by_cases hrq : r.1 = q.1
    · rw [hrq, ho] at hor
      simp only [Option.some.injEq, Oper.mk.injEq, Op.alloc.injEq] at hor
      obtain ⟨hd2, rfl, _⟩ := hor
      rw [hEt] at hE'; cases hE'
      rw [if_pos hrq, ← hd2]
      obtain ⟨zok, zrel⟩ := zero_rel hE hEt
      refine ⟨(hd'.own _ _ hlast rfl hz).1, ?_, hd'.lt hlast hz, fun j v hv => ?_, (hd'.own _ _ hlast rfl hz).2, fun h c hc hne e => hd'.sep _ _ _ _ hlast (up hc) (by have := (List.getElem?_eq_some_iff.1 hc).1; omega) rfl hz hne e.symm⟩
      · have hv := hs.val
        unfold rel at hv
        simp only [Act.put]
        rcases Nat.lt_or_ge q.2 a.tmps.size with hlt | hge
        · right; simp [hlt, hv]
        · left; simp; omega
      · obtain ⟨x, e1, e2, e3⟩ := hd'.cell _ _ hlast j v hv
        exact ⟨x, e1, e2, zrel _ v x (List.mem_of_getElem? hv) e3⟩
    · rw [if_neg hrq]
      have her' : e r.1 = true := by simpa [hrq] using her
      have := others r hr hrq her' t' dd' ty' pos' af' hor hE'
      exact { this with apart := fun h c hc => this.apart h c (up hc) }
  · intro r hr s hs' her hes hrs
    have key : ∀ r ∈ F, r.1 ≠ q.1 → (e r.1 || r.1 == q.1) = true → (ρ' hp.length).1 ≠ (bl r.1).1 := fun r hr hne her => by
      obtain ⟨⟨t', dd', ty', pos', af', hor, hE', _⟩, _⟩ := hF r hr
      exact (others r hr hne (by simpa [hne] using her) t' dd' ty' pos' af' hor hE').apart hp.length _ hlast hz
    by_cases h1 : r.1 = q.1 <;> by_cases h2 : s.1 = q.1
    · exact absurd (h1.trans h2.symm) hrs
    · rw [if_pos h1, if_neg h2]; exact key s hs' h2 hes
    · rw [if_neg h1, if_pos h2]; exact fun e => key r hr h1 her e.symm
    · rw [if_neg h1, if_neg h2]; exact hap r hr s hs' (by simpa [h1] using her) (by simpa [h2] using hes) hrs

theorem heads_get {ops : List Oper} {k : List V → List Blk → Prop} {tm : List V} : ∀ (t : Tr) (listed : Array Bool) (F : List Nat) (j : Nat), chkT mu ops.toArray true listed F t = true → vcSeq E P mu ops t tm hp k → j ∈ t.heads →
    ∃ t', t'.size < t.size ∧ F.contains j = false ∧ chkT mu ops.toArray false (listed.setIfInBounds j true) F t' = true ∧ vcSeq E P mu ops (.one j t') tm hp k
  | .nil, _, _, _, _, _, h => by simp [Tr.heads] at h
  | .one i t, listed, F, j, hc, hv, h => by
    simp [Tr.heads] at h; subst h
    rw [chkT] at hc
    split at hc
    · simp at hc
    · rename_i hF
      simp only [Bool.true_or, Bool.true_and] at hc
      exact ⟨t, by simp [Tr.size], by simpa using hF, hc, hv⟩
  | .alt a b, listed, F, j, hc, hv, h => by
    rw [chkT] at hc
    simp only [Bool.true_or, Bool.true_and, Bool.and_eq_true] at hc
    rw [vcSeq] at hv
    rw [Tr.heads] at h
    rcases List.mem_append.1 h with h | h
    · obtain ⟨t', h1, h2⟩ := heads_get a listed F j hc.1 hv.1 h
      exact ⟨t', by simp only [Tr.size]; omega, h2⟩
    · obtain ⟨t', h1, h2⟩ := heads_get b listed F j hc.2 hv.2 h
      exact ⟨t', by simp only [Tr.size]; omega, h2⟩

/-- A step of the abstract order that the machine takes too. -/
theorem InvE.step {ops : Array Oper} {ρ0 : Loc} {m : Nat} {F : Flt} {e : Nat → Bool} {bl : Nat → Nat × Nat} {tm : List V} {a : Act} {hp' : List Blk} {w' : World} (hd : Hd M w0 ρ hp w) (ht : relL ρ tm a.tmps.toList) (hb : ∀ h, h < m → ρ h = ρ0 h)
    (hear : ∀ q ∈ F, e q.1 = true → ∀ t dd ty pos af, ops[q.1]? = some ⟨some q.2, .alloc t, ty, pos, af, none⟩ → E t = some dd → Early M w0 ρ hp a w q.2 dd.zero (bl q.1))
    (hap : ∀ q ∈ F, ∀ r ∈ F, e q.1 = true → e r.1 = true → q.1 ≠ r.1 → (bl q.1).1 ≠ (bl r.1).1) (hok : okL hp.length tm) (hdf : a.defers = []) (hl : m ≤ hp.length)
    {v : V} {y : Value} (hs : Step (modOf hp ρ) w ρ hp w v hp' ρ' w' y) {d : Option Tmp} (hdst : ∀ q ∈ F, d ≠ some q.2) : InvE E ops M w0 ρ0 m F e bl (putV tm d v) hp' (a.put d y) w' :=
  ⟨⟨ρ', hd.there hs.hd, put_rel (relL_congr (N := hp.length) hs.same hok ht) hs.val d, fun h hh => (hs.same h (by omega)).trans (hb h hh),
      fun q hq he t dd ty pos af ho hE => (hear q hq he t dd ty pos af ho hE).step hs (hdst q hq)⟩,
    hap, put_ok (okL_mono hs.len hok) hs.ok d, by rw [put_defers, hdf], Nat.le_trans hl hs.len⟩

theorem vcSeq_sound (hE : EnvOK P E) {ops : List Oper} {Q : Exit → Act → World → Prop} {ρ0 : Loc} {m : Nat} {k : List V → List Blk → Prop} (hQ : ∀ tm' hp' a' w', k tm' hp' → Inv M w0 ρ0 m tm' hp' a' w' → Q .normal a' w')
    (hpan : ∀ c a w, ¬ Q (.panic c) a w) (hsel : Region.noSelect ops.toArray = true) :
    ∀ (N : Nat) (t : Tr), t.size ≤ N → ∀ (F : Flt) (listed : Array Bool) (tm : List V) (hp : List Blk), chkT mu ops.toArray false listed (F.map (·.1)) t = true → FltP E ops.toArray F → SlotJ F tm → vcSeq E P mu ops t tm hp k →
      ∀ (n : Nat) (e : Nat → Bool) (bl : Nat → Nat × Nat) (a : Act) (w : World), (F.countP fun q => !e q.1) ≤ n → Dn ops.toArray (markE e (F.map (·.1)) listed) → InvE E ops.toArray M w0 ρ0 m F e bl tm hp a w →
      ∀ fuel, unl (markE e (F.map (·.1)) listed) ≤ fuel → wpAnyM P mu ops.toArray Q fuel (markE e (F.map (·.1)) listed) a w := by
  intro N
  induction N with
  | zero =>
    intro t hsz F listed tm hp hc hF hJ h n e bl a w hn hdn hI fuel hfu
    cases t with
    | nil =>
      rw [chkT] at hc
      simp only [Bool.not_false, Bool.true_and, Bool.and_eq_true, List.isEmpty_iff, List.map_eq_nil_iff] at hc
      obtain ⟨rfl, hr⟩ := hc
      obtain ⟨⟨ρ, hd, ht, hb, _⟩, _, hok, hdf, hl⟩ := hI
      exact wpAnyM_done hr (hQ _ _ _ _ (by rwa [vcSeq] at h) ⟨⟨ρ, hd, ht, hb⟩, hok, hdf, hl⟩) _
    | one i t => simp [Tr.size] at hsz
    | alt a b => simp [Tr.size] at hsz
  | succ N ihN =>
    intro t hsz F listed tm hp hc hF hJ h n
    induction n using Nat.strongRecOn with
    | ind n ihn =>
    intro e bl a w hn hdn hI fuel hfu
    -- a variable is allocated ahead of its place
    have ahead : ∀ fuel', fuel = fuel' + 1 → ∀ j ∈ Region.ready .any ops.toArray (markE e (F.map (·.1)) listed), j ∈ F.map (·.1) → e j = false →
        wpOp P ops.toArray Q j (fun a' w' => (presAt mu ops.toArray j = true → Keep none' w w') ∧ wpAnyM P mu ops.toArray Q fuel' ((markE e (F.map (·.1)) listed).setIfInBounds j true) a' w') a w := by
      rintro fuel' rfl j hj hmem he
      obtain ⟨q, hq, rfl⟩ := List.mem_map.1 hmem
      refine early_step hE hF hJ hI hq he fun bl' a' w' hI' hk => ⟨fun _ => hk, ?_⟩
      rw [← markE_upd e q.1 _ _ hmem]
      refine ihn (F.countP fun r => !(e r.1 || r.1 == q.1)) ?_ _ bl' a' w' (Nat.le_refl _) ?_ hI' fuel' ?_
      · refine Nat.lt_of_lt_of_le ?_ hn
        have key : ∀ (G : Flt), (G.countP fun r => !(e r.1 || r.1 == q.1)) ≤ G.countP fun r => !e r.1 := fun G => List.countP_mono_left fun r _ hr => by
          simp only [Bool.not_eq_true', Bool.or_eq_false_iff] at hr ⊢; exact hr.1
        obtain ⟨G1, G2, rfl⟩ := List.append_of_mem hq
        simp only [List.countP_append, List.countP_cons, he, beq_self_eq_true, Bool.or_true, Bool.not_true, Bool.not_false, Bool.false_eq_true, if_false, if_true]
        have := key G1; have := key G2
        omega
      · rw [markE_upd e q.1 _ _ hmem]; exact hdn.set hj
      · rw [markE_upd e q.1 _ _ hmem]; have := unl_set (mem_ready.1 hj).1; omega
    -- a step of the order
    have stepj : ∀ fuel', fuel = fuel' + 1 → ∀ j ∈ Region.ready .any ops.toArray (markE e (F.map (·.1)) listed), ∀ t' : Tr, t'.size ≤ N → (F.map (·.1)).contains j = false → chkT mu ops.toArray false (listed.setIfInBounds j true) (F.map (·.1)) t' = true → vcSeq E P mu ops (.one j t') tm hp k →
        wpOp P ops.toArray Q j (fun a' w' => (presAt mu ops.toArray j = true → Keep none' w w') ∧ wpAnyM P mu ops.toArray Q fuel' ((markE e (F.map (·.1)) listed).setIfInBounds j true) a' w') a w := by
      rintro fuel' rfl j hj t' hts hFj hc' hv
      obtain ⟨⟨ρ, hd, ht, hb, hear⟩, hap, hok, hdf, hl⟩ := hI
      rw [vcSeq] at hv
      cases ho : ops[j]? with
      | none => simp [ho] at hv
      | some o =>
        simp only [ho] at hv
        have ho' : ops.toArray[j]? = some o := by simpa using ho
        have hdst : ∀ q ∈ F, o.dst ≠ some q.2 := fun q hq => (hF q hq).2 j o ho' fun e => by
          rw [List.contains_eq_mem, decide_eq_false_iff_not] at hFj
          exact hFj (List.mem_map.2 ⟨q, hq, e.symm⟩)
        have hul := unl_set (mem_ready.1 hj).1
        unfold wpOp
        simp only [ho']
        rw [← markE_set]
        rcases vcG_cases hv ht with ⟨hw, h1⟩ | ⟨hw, h1⟩
        · rw [if_pos hw]
          refine .inl (vcOne_wpS (mu := mu) hE hd.here ht hok h1 fun v hp' ρ' w' y hk hs hp => ⟨fun hpa => hp ?_, ?_⟩)
          · simpa [presAt, ho] using hpa
          · exact ihN t' hts F _ _ _ hc' hF (hJ.put hdst) hk n e bl _ _ hn (by rw [markE_set]; exact hdn.set hj) (InvE.step hd ht hb hear hap hok hdf hl hs hdst) fuel' (by rw [markE_set]; omega)
        · rw [if_neg (by simp [hw])]
          exact ⟨fun _ => Keep.refl _ _, ihN t' hts F _ _ _ hc' hF (hJ.put hdst) h1 n e bl _ _ hn (by rw [markE_set]; exact hdn.set hj) (InvE.step hd ht hb hear hap hok hdf hl (Step.nil hd.here) hdst) fuel' (by rw [markE_set]; omega)⟩
    have fuelpos : (Region.ready .any ops.toArray (markE e (F.map (·.1)) listed) ≠ []) → ∃ fuel', fuel = fuel' + 1 := fun hne => by
      obtain ⟨j, hj⟩ := List.exists_mem_of_ne_nil _ hne
      have := unl_set (mem_ready.1 hj).1
      exact ⟨fuel - 1, by omega⟩
    cases t with
    | nil =>
      rw [chkT] at hc
      simp only [Bool.not_false, Bool.true_and, Bool.and_eq_true, List.isEmpty_iff, List.map_eq_nil_iff] at hc
      obtain ⟨rfl, hr⟩ := hc
      obtain ⟨⟨ρ, hd, ht, hb, _⟩, _, hok, hdf, hl⟩ := hI
      exact wpAnyM_done hr (hQ _ _ _ _ (by rwa [vcSeq] at h) ⟨⟨ρ, hd, ht, hb⟩, hok, hdf, hl⟩) _
    | alt x y =>
      rw [chkT] at hc
      simp only [Bool.false_or, Bool.and_eq_true] at hc
      obtain ⟨⟨hc1, hc2⟩, hc3⟩ := hc
      obtain ⟨rest, h1, h2⟩ := chkSub_get (e := e) _ _ _ hc1 (by simp)
      simp only [Bool.and_eq_true, Bool.not_eq_true', List.isEmpty_eq_false_iff, List.all_eq_true, Bool.or_eq_true] at h1
      obtain ⟨hne, hall⟩ := h1
      obtain ⟨fuel', rfl⟩ := fuelpos hne
      refine ⟨fun h0 => absurd h0 hne, fun j hj => ?_⟩
      rcases hall j hj with h3 | h3
      · have hcov : chkT mu ops.toArray true listed (F.map (·.1)) (.alt x y) = true := by rw [chkT]; simp [hc2, hc3]
        obtain ⟨t', ht1, ht2, ht3, ht4⟩ := heads_get (.alt x y) listed (F.map (·.1)) j hcov h (by simpa [Tr.heads] using h3)
        exact stepj fuel' rfl j hj t' (by omega) ht2 ht3 ht4
      · rcases (h2 j).1 (by simpa using h3) with h4 | h4
        · simp at h4
        · exact ahead fuel' rfl j hj h4.1 h4.2
    | one i t =>
      rw [chkT] at hc
      have hsz' : t.size ≤ N := by simp only [Tr.size] at hsz; omega
      split at hc
      · rename_i hFi
        simp only [Bool.not_false, Bool.true_and, Bool.and_eq_true] at hc
        obtain ⟨hc1, hc2⟩ := hc
        have hmem : i ∈ F.map (·.1) := by simpa using hFi
        obtain ⟨q, hq, rfl⟩ := List.mem_map.1 hmem
        cases he : e q.1 with
        | true =>
          obtain ⟨⟨t0, dd, ty, pos, af, ho, hEt, hz⟩, hdst⟩ := hF q hq
          have ho' : ops[q.1]? = some ⟨some q.2, .alloc t0, ty, pos, af, none⟩ := by simpa using ho
          rw [vcSeq] at h
          simp only [ho'] at h
          unfold vcG vcOne at h
          simp only [isS, Bool.false_eq_true, if_false, vcE, hEt] at h
          obtain ⟨⟨ρ, hd, ht, hb, hear⟩, hap, hok, hdf, hl⟩ := hI
          have hE1 := hear q hq he t0 dd ty pos af ho hEt
          have sub : ∀ r, r ∈ F.filter (fun r => r.1 != q.1) → r ∈ F ∧ r.1 ≠ q.1 := fun r hr => by
            rw [List.mem_filter] at hr; exact ⟨hr.1, by simpa using hr.2⟩
          have hmap : (F.map (·.1)).filter (· != q.1) = (F.filter fun r => r.1 != q.1).map (·.1) := by rw [List.filter_map]; rfl
          have hmk : markE e (F.map (·.1)) listed = markE e ((F.filter fun r => r.1 != q.1).map (·.1)) (listed.setIfInBounds q.1 true) := by
            rw [← hmap, markE_filter e q.1 he _ _ hmem]
          rw [hmap] at hc2
          rw [hmk] at hdn hfu ⊢
          have hqd : ∀ r ∈ F, r.1 ≠ q.1 → (some q.2 : Option Tmp) ≠ some r.2 := fun r hr hne => by
            obtain ⟨⟨_, _, _, _, _, hor, _, _⟩, hdr⟩ := hF r hr
            exact hdr q.1 _ ho (fun e => hne e.symm)
          refine ihN t hsz' (F.filter fun r => r.1 != q.1) _ _ _ hc2 (fun r hr => hF r (sub r hr).1) ?_ h _ e bl a w (Nat.le_refl _) hdn ?_ fuel hfu
          · exact SlotJ.put (fun r hr => hJ r (sub r hr).1) fun r hr => hqd r (sub r hr).1 (sub r hr).2
          · refine ⟨⟨ρ.upd hp.length (bl q.1), hE1.adopt hd (zero_rel hE hEt).1, ?_, fun h hh => by rw [Loc.upd_lt ρ _ h (by omega)]; exact hb h hh, ?_⟩, fun r hr s hs => hap r (sub r hr).1 s (sub s hs).1, put_ok (okL_mono (by simp) hok) (by unfold okV; simp) _, hdf, by simp; omega⟩
            · have ht' : relL (ρ.upd hp.length (bl q.1)) tm a.tmps.toList := relL_congr (N := hp.length) (Loc.upd_lt ρ _) hok ht
              refine relL_of_get (by simp [putV, relL_length ht']) fun j v x hv hx => ?_
              simp only [putV] at hv
              rcases getElem?_set_cases hv with ⟨rfl, rfl, _⟩ | ⟨_, hv⟩
              · have hx' : a.tmps[q.2]? = some x := by simpa using hx
                rcases hE1.tmp with h3 | h3
                · rw [h3] at hx'; cases hx'
                · rw [h3] at hx'; cases hx'
                  unfold rel; rw [Loc.upd_same]; rfl
              · obtain ⟨z, hz, hr⟩ := relL_get ht' hv
                rw [hz] at hx; cases hx; exact hr
            · intro r hr her t' dd' ty' pos' af' hor hE'
              have h3 := hear r (sub r hr).1 her t' dd' ty' pos' af' hor hE'
              refine { h3 with apart := fun g c hg hne => ?_ }
              rcases getElem?_snoc hg with hg | ⟨rfl, rfl⟩
              · rw [Loc.upd_lt ρ _ g (List.getElem?_eq_some_iff.1 hg).1]; exact h3.apart g c hg hne
              · rw [Loc.upd_same]; exact hap q hq r (sub r hr).1 he her (fun e => (sub r hr).2 e.symm)
        | false =>
          obtain ⟨rest, h1, h2⟩ := chkSub_get (e := e) _ _ _ hc1 (by simp)
          have hin : q.1 ∈ rest := (h2 _).2 (.inr ⟨hmem, he⟩)
          simp only [List.contains_iff_mem.2 hin, Bool.not_true, Bool.false_or, Bool.and_eq_true, List.all_eq_true] at h1
          have hne : Region.ready .any ops.toArray (markE e (F.map (·.1)) listed) ≠ [] := fun h0 => by rw [h0] at h1; simp at h1
          obtain ⟨fuel', rfl⟩ := fuelpos hne
          refine ⟨fun h0 => absurd h0 hne, fun j hj => ?_⟩
          rcases (h2 j).1 (by simpa using h1.2 j hj) with h4 | h4
          · simp at h4
          · exact ahead fuel' rfl j hj h4.1 h4.2
      · rename_i hFi
        have hFi' : (F.map (·.1)).contains i = false := by simpa using hFi
        simp only [Bool.false_or, Bool.and_eq_true] at hc
        obtain ⟨hc1, hc2⟩ := hc
        obtain ⟨rest, h1, h2⟩ := chkSub_get (e := e) _ _ _ hc1 (by simp)
        simp only [Bool.or_eq_true, Bool.and_eq_true, List.all_eq_true] at h1
        rcases h1 with h1 | ⟨h1, hall⟩
        · obtain ⟨⟨ρ, hd, ht, hb, hear⟩, hap, hok, hdf, hl⟩ := hI
          rw [vcSeq] at h
          cases ho : ops[i]? with
          | none => simp [ho] at h
          | some o =>
            simp only [ho] at h
            have ho' : ops.toArray[i]? = some o := by simpa using ho
            have hdst : ∀ q ∈ F, o.dst ≠ some q.2 := fun q hq => (hF q hq).2 i o ho' fun e => by
              rw [List.contains_eq_mem, decide_eq_false_iff_not] at hFi'
              exact hFi' (List.mem_map.2 ⟨q, hq, e.symm⟩)
            simp only [takeB, ho', Bool.and_eq_true] at h1
            obtain ⟨⟨⟨hS, hfree⟩, hrdy⟩, hld⟩ := h1
            have hrdy : i ∈ Region.ready .any ops.toArray (markE e (F.map (·.1)) listed) := by simpa using hrdy
            obtain ⟨fuel', rfl⟩ := fuelpos (List.ne_nil_of_mem hrdy)
            have hpres : isLoad o.op = true → ∀ (j : Nat) (oj : Oper), ops.toArray[j]? = some oj → j ≠ i → (markE e (F.map (·.1)) listed).getD j true = false → waitsB ops.toArray i ops.toArray.size j = false → presOp mu oj.op = true := by
              intro hl j oj hj hji hun hnw
              simp only [hl, Bool.not_true, Bool.false_or, List.all_eq_true, List.mem_range, Bool.or_eq_true] at hld
              have := hld j (Array.getElem?_eq_some_iff.1 hj).1
              rw [hj] at this
              rcases this with ((h1 | h1) | h1) | h1
              · exact absurd (by simpa using h1) hji
              · rw [hun] at h1; cases h1
              · rw [hnw] at h1; cases h1
              · simpa using h1
            have hul := unl_set (mem_ready.1 hrdy).1
            have fin : ∀ (y : Value) (v : V), (YieldsIf P ops.toArray (fun w' => isLoad o.op = true → Keep none' w w') o y a) → vcSeq E P mu ops t (putV tm o.dst v) hp k → Step (modOf hp ρ) w ρ hp w v hp ρ w y → wpAnyM P mu ops.toArray Q (fuel' + 1) (markE e (F.map (·.1)) listed) a w :=
              fun y v hy hv hs => wpAnyM_first ho' (Region.noSelect_spec hsel) (fun c a w hq => absurd hq (hpan c _ w)) fuel' _ a w hdn (Region.free_spec ho' hfree) hpres hrdy hy
                (by
                  rw [← markE_set]
                  exact ihN t hsz' F _ _ _ hc2 hF (hJ.put hdst) hv n e bl _ _ hn (by rw [markE_set]; exact hdn.set hrdy) (InvE.step hd ht hb hear hap hok hdf hl hs hdst) fuel' (by rw [markE_set]; omega))
            rcases vcG_cases h ht with ⟨hw, h1⟩ | ⟨hw, h1⟩
            · unfold vcOne at h1
              rw [if_pos hS] at h1
              obtain ⟨u, y, e1, e2, e3, e4⟩ := vcS_sound hE hd ht hok h1
              exact fin y u (.inl ⟨hw, e4⟩) e1 ⟨hd.here, fun _ _ => rfl, Nat.le_refl _, e2, e3, src_same⟩
            · exact fin undef _ (.inr ⟨hw, rfl⟩) h1 (Step.nil hd.here)
        · have hne : Region.ready .any ops.toArray (markE e (F.map (·.1)) listed) ≠ [] := fun h0 => by rw [h0] at h1; simp at h1
          obtain ⟨fuel', rfl⟩ := fuelpos hne
          refine ⟨fun h0 => absurd h0 hne, fun j hj => ?_⟩
          rcases hall j hj with h3 | h3
          · have : j = i := by simpa using h3
            subst this
            exact stepj fuel' rfl j hj t hsz' hFi' hc2 h
          · rcases (h2 j).1 (by simpa using h3) with h4 | h4
            · simp at h4
            · exact ahead fuel' rfl j hj h4.1 h4.2
end
end Go.Vc

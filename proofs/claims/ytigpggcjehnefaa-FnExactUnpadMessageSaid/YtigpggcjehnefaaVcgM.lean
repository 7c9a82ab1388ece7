/- Regions in whatever order, code, functions: the verification conditions are sound. -/
import Derived.Test.YtigpggcjehnefaaVcgP
import Derived.Deep.LoopGhost
set_option linter.unusedSimpArgs false
set_option linter.unusedVariables false
namespace Go.Vc
open Go
section
variable {P : Program} {E : Env} {t : TypeId} {d : TD} {M : Nat → Prop} {w0 w : World} {ρ ρ' : Loc} {hp : List Blk} {mu : List FuncId}

theorem callFunc_run {f : FuncId} (h : hasBody P f) (args : Array Value) (w : World) : (callFunc f args).run P w = .ok (.enter f args) w := by
  obtain ⟨fn, hf, hb, hn⟩ := h
  obtain ⟨c, hc⟩ := Option.isSome_iff_exists.1 hb
  have hn' : fn.name ≠ "runtime.NumGoroutine" := by simpa using hn
  simp [callFunc, hf, hn', hc]

theorem vcE_sound (hE : EnvOK P E) {o : Oper} {a : Act} {tm : List V} (hd : Hd M w0 ρ hp w) (ht : relL ρ tm a.tmps.toList) (hk : okL hp.length tm) {k : V → List Blk → Prop} (h : vcE E P mu o.op tm hp k)
    {K : Act → World → Prop} {Q : Exit → Act → World → Prop}
    (hK : ∀ v hp' ρ' w' y, k v hp' → Step M w0 ρ hp w v hp' ρ' w' y → (presOp mu o.op = true → Keep none' w w') → K (a.put o.dst y) w') : o.wp P a w K Q := by
  obtain ⟨dst, op, ty, pos, af, gd⟩ := o
  simp only at h hK
  unfold Oper.wp
  cases op <;> simp only [vcE] at h
  case alloc t =>
    cases hE0 : E t with
    | none => simp [hE0] at h
    | some dd =>
      simp only [hE0] at h
      obtain ⟨w', ρ', y, h1, h2, h3⟩ := alloc_run hE hE0 hd
      simp only [execOp, Sem.run_bind, h1, Result.andThen_ok, Sem.run_pure, Oper.upon]
      exact hK _ _ _ _ _ h h2 (fun _ => h3)
  case box t x =>
    cases hc : cellsOf (ev tm x) with
    | none => simp [hc] at h
    | some cs =>
      simp only [hc] at h
      obtain ⟨w', ρ', y, h1, h2, h3⟩ := box_run (P := P) (t := t) (ev_rel ht x) (ev_ok hk x) hc hd
      simp only [execOp, Sem.run_bind, h1, Result.andThen_ok, Sem.run_pure, Oper.upon]
      exact hK _ _ _ _ _ h h2 (fun _ => h3)
  case buildSlice t n ps =>
    obtain ⟨v, hp', w', ρ', y, h0, h1, h2, h3⟩ := buildSlice_run hE hd (ps := ps.toList.map fun q => (q.1, ev tm q.2)) (qs := ps.toList.map fun q => (q.1, a.eval q.2)) (by simp)
      (by have := evs_rel (a := a) ht (ps.toList.map (·.2)); simpa [List.map_map, Function.comp_def] using this)
      (by have := evs_ok hk (ps.toList.map (·.2)); simpa [List.map_map, Function.comp_def] using this) h
    have h1' : (Instr.buildSlice t n (ps.map fun q => (q.1, a.eval q.2))).run P w = .ok y w' := by
      rwa [← List.map_toArray, Array.toArray_toList] at h1
    simp only [execOp, Sem.run_bind, h1', Result.andThen_ok, Sem.run_pure, Oper.upon]
    exact hK _ _ _ _ _ h0 h2 (fun _ => h3)
  case store t x y =>
    obtain ⟨hp', w', h0, h1, h2⟩ := store_run hE hd (ev_rel ht x) (ev_rel ht y) (ev_ok hk y) h
    simp only [execOp, Sem.run_bind, h1, Result.andThen_ok, Sem.run_pure, Oper.upon]
    exact hK _ _ _ _ _ h0 h2 (fun hp => by simp [presOp, isS] at hp)
  case makeSlice t l c =>
    obtain ⟨v, hp', w', ρ', y, h0, h1, h2, h3⟩ := makeSlice_run hE hd (ev_rel ht l) (ev_rel ht c) h
    simp only [execOp, Sem.run_bind, h1, Result.andThen_ok, Sem.run_pure, Oper.upon]
    exact hK _ _ _ _ _ h0 h2 (fun _ => h3)
  case call c =>
    obtain ⟨callee, args, ts⟩ := c
    cases callee with
    | invoke r m => exact h.elim
    | builtin b =>
      cases b <;> simp only at h
      case append =>
        obtain ⟨v, hp', w', ρ', y, h0, h1, h2⟩ := append_run hE hd (evs_rel (a := a) ht args.toList) h ty
        rw [Array.toArray_toList, ← List.map_toArray, Array.toArray_toList] at h1
        have hx : (execOp a.eval ⟨dst, .call ⟨.builtin .append, args, ts⟩, ty, pos, af, gd⟩).run P w = .ok (.value y) w' := by
          simp [execOp, resolve, invoke, builtin, h1]
        rw [hx]
        simp only [Oper.upon]
        exact hK _ _ _ _ _ h0 h2 (fun hp => by simp [presOp, isS] at hp)
      all_goals exact h.elim
    | value f =>
      cases f <;> simp only at h
      case func f =>
        by_cases hm : mu.contains f = true
        · rw [if_pos hm] at h
          obtain ⟨hb, hc⟩ := callM_run hd (evs_rel (a := a) ht args.toList) h
          have hx : (execOp a.eval ⟨dst, .call ⟨.value (.func f), args, ts⟩, ty, pos, af, gd⟩).run P w = .ok (.enter f (args.map a.eval)) w := by
            simp [execOp, resolve, Deferred.ofValue, Act.eval, invoke, callFunc_run hb]
          rw [hx]
          simp only [Oper.upon]
          rw [← List.map_toArray, Array.toArray_toList] at hc
          refine hc.mono fun e w' hR => ?_
          obtain ⟨v, hp', ρ', y, rfl, h0, h2⟩ := hR
          exact hK _ _ _ _ _ h0 h2 (fun hp => by simp only [presOp, hm] at hp; cases hp)
        rw [if_neg hm] at h
        obtain ⟨hb, hc⟩ := call_run hd (evs_rel (a := a) ht args.toList) h
        have hx : (execOp a.eval ⟨dst, .call ⟨.value (.func f), args, ts⟩, ty, pos, af, gd⟩).run P w = .ok (.enter f (args.map a.eval)) w := by
          simp [execOp, resolve, Deferred.ofValue, Act.eval, invoke, callFunc_run hb]
        rw [hx]
        simp only [Oper.upon]
        rw [← List.map_toArray, Array.toArray_toList] at hc
        refine hc.mono fun e w' hR => ?_
        obtain ⟨v, hp', ρ', y, rfl, h0, h2, h3⟩ := hR
        exact hK _ _ _ _ _ h0 h2 (fun _ => h3)
      all_goals exact h.elim
  all_goals exact h.elim

/-- A frame and a world that an abstract state tells of. -/
structure Inv (M : Nat → Prop) (w0 : World) (ρ0 : Loc) (m : Nat) (tm : List V) (hp : List Blk) (a : Act) (w : World) : Prop where
  ex : ∃ ρ, Hd M w0 ρ hp w ∧ relL ρ tm a.tmps.toList ∧ (∀ h, h < m → ρ h = ρ0 h)
  ok : okL hp.length tm
  defers : a.defers = []
  len : m ≤ hp.length

theorem put_rel {tm : List V} {a : Act} (h : relL ρ tm a.tmps.toList) {v : V} {y : Value} (hv : rel ρ v y) (d : Option Tmp) : relL ρ (putV tm d v) (a.put d y).tmps.toList := by
  cases d with
  | none => exact h
  | some t =>
    simp only [putV, Act.put]
    have := relL_set h hv t
    rwa [Array.toList_setIfInBounds]
theorem put_ok {N : Nat} {tm : List V} (h : okL N tm) {v : V} (hv : okV N v) (d : Option Tmp) : okL N (putV tm d v) := by
  cases d with
  | none => exact h
  | some t => exact okL_set h hv t
theorem put_defers (a : Act) (d : Option Tmp) (y : Value) : (a.put d y).defers = a.defers := by cases d <;> rfl

theorem Inv.step {ρ0 : Loc} {m : Nat} {tm : List V} {a : Act} (hd : Hd M w0 ρ hp w) (ht : relL ρ tm a.tmps.toList) (hb : ∀ h, h < m → ρ h = ρ0 h) (hok : okL hp.length tm) (hdf : a.defers = []) (hl : m ≤ hp.length)
    {v : V} {hp' : List Blk} {w' : World} {y : Value} (hs : Step M w0 ρ hp w v hp' ρ' w' y) (d : Option Tmp) : Inv M w0 ρ0 m (putV tm d v) hp' (a.put d y) w' :=
  ⟨⟨ρ', hs.hd, put_rel (relL_congr (N := hp.length) hs.same hok ht) hs.val d, fun h hh => (hs.same h (by omega)).trans (hb h hh)⟩,
    put_ok (okL_mono hs.len hok) hs.ok d, by rw [put_defers, hdf], Nat.le_trans hl hs.len⟩

theorem Step.nil (hd : Hd M w0 ρ hp w) : Step M w0 ρ hp w (.c undef) hp ρ w undef := ⟨hd, fun _ _ => rfl, Nat.le_refl _, by unfold rel; rfl, trivial⟩

theorem wanted_of {ops : List Oper} {tm : List V} {a : Act} (ht : relL ρ tm a.tmps.toList) {j : Nat} {want b : Bool} {d : Tmp} (hj : (ops[j]?).bind (·.dst) = some d) (hb : tm[d]? = some (.c (.bool b))) {o : Oper} (hg : o.guard = some (j, want)) :
    Region.wanted o (yielded ops.toArray a.tmps) = (b == want) := by
  obtain ⟨x, hx, hr⟩ := relL_get ht hb
  unfold rel at hr
  subst hr
  have hx' : a.tmps[d]? = some (.bool b) := by simpa using hx
  have hj' : ((ops.toArray)[j]?).bind (·.dst) = some d := by simpa using hj
  have hy : yielded ops.toArray a.tmps j = some b := by unfold yielded; rw [hj']; simp [hx']
  simp only [Region.wanted, hg, hy]
  cases b <;> cases want <;> rfl

/-- What one operation, under its guard, leaves: told for both ways of walking. -/
theorem vcG_cases {X : Env} {ops : List Oper} {o : Oper} {tm : List V} {k : List V → List Blk → Prop} (h : vcG X P mu ops o tm hp k) {a : Act} (ht : relL ρ tm a.tmps.toList) :
    (Region.wanted o (yielded ops.toArray a.tmps) = true ∧ vcOne X P mu o tm hp k) ∨ (Region.wanted o (yielded ops.toArray a.tmps) = false ∧ k (putV tm o.dst (.c undef)) hp) := by
  unfold vcG at h
  cases hg : o.guard with
  | none => simp only [hg] at h; exact .inl ⟨by simp [Region.wanted, hg], h⟩
  | some q =>
    obtain ⟨j, want⟩ := q
    simp only [hg] at h
    cases hj : (ops[j]?).bind (·.dst) with
    | none => simp [hj] at h
    | some d =>
      simp only [hj] at h
      split at h
      · rename_i b hb
        have hw := wanted_of ht hj hb hg
        by_cases hbw : b = want
        · exact .inl ⟨by rw [hw]; simpa using hbw, h.1 hbw⟩
        · exact .inr ⟨by rw [hw]; simpa using hbw, h.2 hbw⟩
      · exact h.elim

theorem vcOne_wp (hE : EnvOK P E) {o : Oper} {a : Act} {tm : List V} {ρ0 : Loc} {m : Nat} (hI : Inv M w0 ρ0 m tm hp a w) {k : List V → List Blk → Prop} (h : vcOne E P mu o tm hp k) {K : Act → World → Prop} {Q : Exit → Act → World → Prop}
    (hK : ∀ tm' hp' a' w', k tm' hp' → Inv M w0 ρ0 m tm' hp' a' w' → (presOp mu o.op = true → Keep none' w w') → K a' w') : o.wp P a w K Q := by
  obtain ⟨⟨ρ, hd, ht, hb⟩, hok, hdf, hl⟩ := hI
  unfold vcOne at h
  by_cases hs : isS o.op = true
  · rw [if_pos hs] at h
    obtain ⟨u, y, h1, h2, h3, h4⟩ := vcS_sound hE hd ht hok h
    unfold Oper.wp
    rw [h4 w (fun _ => Keep.refl _ _)]
    simp only [Oper.upon]
    exact hK _ _ _ _ h1 (Inv.step hd ht hb hok hdf hl ⟨hd, fun _ _ => rfl, Nat.le_refl _, h2, h3⟩ _) (fun _ => Keep.refl _ _)
  · rw [if_neg hs] at h
    exact vcE_sound (mu := mu) hE hd ht hok h fun v hp' ρ' w' y hk hst hp => hK _ _ _ _ hk (Inv.step hd ht hb hok hdf hl hst _) hp

theorem vcList_sound (hE : EnvOK P E) {ops : List Oper} {Q : Exit → Act → World → Prop} {ρ0 : Loc} {m : Nat} {k : List V → List Blk → Prop} (hQ : ∀ tm' hp' a' w', k tm' hp' → Inv M w0 ρ0 m tm' hp' a' w' → Q .normal a' w') :
    ∀ (l : List Oper) (tm : List V) (hp : List Blk) (a : Act) (w : World), vcList E P mu ops l tm hp k → Inv M w0 ρ0 m tm hp a w → wpList P ops.toArray Q l a w
  | [], tm, hp, a, w, h, hI => by
    unfold vcList at h
    exact hQ _ _ _ _ h hI
  | o :: l, tm, hp, a, w, h, hI => by
    unfold vcList at h
    unfold wpList
    obtain ⟨ρ, hd, ht, hb⟩ := hI.ex
    rcases vcG_cases h ht with ⟨hw, h1⟩ | ⟨hw, h1⟩
    · rw [if_pos hw]
      exact .inl (vcOne_wp (mu := mu) hE hI h1 fun tm' hp' a' w' hk hI' _ => vcList_sound hE hQ l tm' hp' a' w' hk hI')
    · rw [if_neg (by simp [hw])]
      refine vcList_sound hE hQ l _ _ _ _ h1 (Inv.step hd ht hb hI.ok hI.defers hI.len (Step.nil hd) _)

/-! ### Whatever order -/
def presAt (mu : List FuncId) (ops : Array Oper) (i : Nat) : Bool := ((ops[i]?).map fun q => presOp mu q.op).getD true

def wpAnyM (P : Program) (mu : List FuncId) (ops : Array Oper) (Q : Exit → Act → World → Prop) : Nat → Array Bool → Act → World → Prop
  | 0, listed, a, w => Region.ready .any ops listed = [] ∧ Q .normal a w
  | fuel + 1, listed, a, w =>
    (Region.ready .any ops listed = [] → Q .normal a w) ∧
    ∀ i ∈ Region.ready .any ops listed, wpOp P ops Q i (fun a' w' => (presAt mu ops i = true → Keep none' w w') ∧ wpAnyM P mu ops Q fuel (listed.setIfInBounds i true) a' w') a w

theorem wpAny_of_M {ops : Array Oper} {Q : Exit → Act → World → Prop} : ∀ (fuel : Nat) (listed : Array Bool) (a : Act) (w : World), wpAnyM P mu ops Q fuel listed a w → wpAny P .any ops Q fuel listed a w
  | 0, _, _, _, h => h
  | fuel + 1, _, _, _, h => ⟨h.1, fun i hi => wpOp_mono (fun a' w' h' => wpAny_of_M fuel _ a' w' h'.2) (h.2 i hi)⟩

theorem wpAnyM_done {ops : Array Oper} {Q : Exit → Act → World → Prop} {listed : Array Bool} {a : Act} {w : World} (hr : Region.ready .any ops listed = []) (h : Q .normal a w) : ∀ fuel, wpAnyM P mu ops Q fuel listed a w
  | 0 => ⟨hr, h⟩
  | _ + 1 => ⟨fun _ => h, by rw [hr]; simp⟩

/-- Whoever is listed, those that it waits for are listed. -/
def Dn (ops : Array Oper) (listed : Array Bool) : Prop := ∀ (j : Nat) (oj : Oper), ops[j]? = some oj → listed.getD j false = true → ∀ e ∈ oj.after, Region.binds .any e = true → listed.getD e.on false = true

theorem Dn.waits {ops : Array Oper} {listed : Array Bool} (h : Dn ops listed) {i : Nat} : ∀ (n j : Nat) (oj : Oper), ops[j]? = some oj → (∀ e ∈ oj.after, Region.binds .any e = true → listed.getD e.on false = true) → waitsB ops i n j = true → listed.getD i false = true
  | 0, _, _, _, _, hw => by simp [waitsB] at hw
  | n + 1, j, oj, hj, hp, hw => by
    simp only [waitsB, hj] at hw
    rw [Array.any_eq_true'] at hw
    obtain ⟨e, he, hw⟩ := hw
    simp only [Bool.and_eq_true, Bool.or_eq_true] at hw
    have hl := hp e he hw.1
    rcases hw.2 with h1 | h1
    · have : e.on = i := by simpa using h1
      rw [← this]; exact hl
    · cases hoe : ops[e.on]? with
      | none => cases n with
        | zero => simp [waitsB] at h1
        | succ n => simp [waitsB, hoe] at h1
      | some oe => exact h.waits n e.on oe hoe (h e.on oe hoe hl) h1

theorem getD_set_false {listed : Array Bool} {i j : Nat} (h : (listed.setIfInBounds i true).getD j false = true) : j = i ∨ listed.getD j false = true := by
  by_cases hj : j = i
  · exact .inl hj
  · right; rwa [getD_set_ne false (Ne.symm hj)] at h

theorem Dn.set {ops : Array Oper} {listed : Array Bool} (h : Dn ops listed) {i : Nat} (hi : i ∈ Region.ready .any ops listed) : Dn ops (listed.setIfInBounds i true) := by
  intro j oj hj hl e he hb
  obtain ⟨_, oi, hoi, hall⟩ := mem_ready.1 hi
  rcases getD_set_false hl with rfl | hl
  · rw [hoi] at hj; cases hj
    exact getD_set_true (hall e he hb)
  · exact getD_set_true (h j oj hj hl e he hb)

theorem unlisted_ne {listed : Array Bool} {i : Nat} (h : listed.getD i true = false) : listed.getD i false = false := by
  rcases Nat.lt_or_ge i listed.size with h' | h'
  · simp [h'] at h ⊢; exact h
  · simp [Array.getElem?_eq_none h'] at h

theorem wpAnyM_first {ops : Array Oper} {Q : Exit → Act → World → Prop} {i : Nat} {oi : Oper} {v : Value} (hi : ops[i]? = some oi) (hsel : ∀ (j : Nat) (o : Oper) cs b, ops[j]? = some o → o.op ≠ .select cs b)
    (hQ : ∀ c a w, Q (.panic c) (a.put oi.dst v) w → Q (.panic c) a w) :
    ∀ (fuel : Nat) (listed : Array Bool) (a : Act) (w : World), Dn ops listed →
      (∀ (j : Nat) (oj : Oper), ops[j]? = some oj → j ≠ i → listed.getD j true = false → (∀ e ∈ oj.after, Region.binds .any e = true → e.on ≠ i) → oi.apart ops oj = true) →
      (isLoad oi.op = true → ∀ (j : Nat) (oj : Oper), ops[j]? = some oj → j ≠ i → listed.getD j true = false → waitsB ops i ops.size j = false → presOp mu oj.op = true) →
      i ∈ Region.ready .any ops listed → YieldsIf P ops (fun w' => isLoad oi.op = true → Keep none' w w') oi v a →
      wpAnyM P mu ops Q fuel (listed.setIfInBounds i true) (a.put oi.dst v) w → wpAnyM P mu ops Q (fuel + 1) listed a w := by
  intro fuel
  induction fuel with
  | zero =>
    intro listed a w _ _ _ hr hy H
    refine ⟨fun h => (by rw [h] at hr; cases hr), fun j hj => ?_⟩
    by_cases hji : j = i
    · subst hji; exact hy.wpOp hi (fun _ => Keep.refl _ _) ⟨fun _ => Keep.refl _ _, H⟩
    · have := ready_mono hj hji
      rw [H.1] at this
      cases this
  | succ fuel ih =>
    intro listed a w hdn hfree hpres hr hy H
    refine ⟨fun h => (by rw [h] at hr; cases hr), fun j hj => ?_⟩
    by_cases hji : j = i
    · subst hji; exact hy.wpOp hi (fun _ => Keep.refl _ _) ⟨fun _ => Keep.refl _ _, H⟩
    · have h1 := H.2 j (ready_mono hj hji)
      obtain ⟨hjun, oj, hoj, hall⟩ := mem_ready.1 hj
      have hiun := (mem_ready.1 hr).1
      have hnot : ∀ e ∈ oj.after, Region.binds .any e = true → e.on ≠ i := fun e he hb heq => by
        have h1 := hall e he hb
        rw [heq, unlisted_ne hiun] at h1
        cases h1
      have hpj : isLoad oi.op = true → presAt mu ops j = true := fun hld => by
        have hw : waitsB ops i ops.size j = false := by
          cases hww : waitsB ops i ops.size j with
          | false => rfl
          | true =>
            have := hdn.waits ops.size j oj hoj hall hww
            rw [unlisted_ne hiun] at this; cases this
        simp only [presAt, hoj, Option.map_some, Option.getD_some]
        exact hpres hld j oj hoj hji hjun hw
      have h2 := wpOp_putIf hoj (hfree j oj hoj hji hjun hnot) (fun cs b => hsel i oi cs b hi) (fun cs b => hsel j oj cs b hoj) hQ hy h1
      have hfree' : ∀ (k : Nat) (ok : Oper), ops[k]? = some ok → k ≠ i → (listed.setIfInBounds j true).getD k true = false →
          (∀ e ∈ ok.after, Region.binds .any e = true → e.on ≠ i) → oi.apart ops ok = true := fun k ok hk hki hun hno => by
        refine hfree k ok hk hki ?_ hno
        by_cases hjk : j = k
        · subst hjk; exact hjun
        · rw [getD_set_ne true hjk] at hun; exact hun
      have hpres' : isLoad oi.op = true → ∀ (k : Nat) (ok : Oper), ops[k]? = some ok → k ≠ i → (listed.setIfInBounds j true).getD k true = false → waitsB ops i ops.size k = false → presOp mu ok.op = true := fun hld k ok hk hki hun hno => by
        refine hpres hld k ok hk hki ?_ hno
        by_cases hjk : j = k
        · subst hjk; exact hjun
        · rw [getD_set_ne true hjk] at hun; exact hun
      refine wpOp_mono (fun a' w' h3 => ⟨h3.2.1, ih (listed.setIfInBounds j true) a' w' (hdn.set hj) hfree' hpres' (ready_mono hr (Ne.symm hji)) ?_ ?_⟩) h2
      · -- its value in later worlds
        rcases h3.1 with ⟨e1, e2⟩ | e
        · exact .inl ⟨e1, fun w'' hw'' => e2 w'' (fun hld => (h3.2.1 (hpj hld)).trans (hw'' hld))⟩
        · exact .inr e
      · rw [Array.setIfInBounds_comm _ _ hji]
        exact h3.2.2

theorem vcSeq_sound (hE : EnvOK P E) {ops : List Oper} {Q : Exit → Act → World → Prop} {ρ0 : Loc} {m : Nat} {k : List V → List Blk → Prop} (hQ : ∀ tm' hp' a' w', k tm' hp' → Inv M w0 ρ0 m tm' hp' a' w' → Q .normal a' w')
    (hpan : ∀ c a w, ¬ Q (.panic c) a w) (hsel : Region.noSelect ops.toArray = true) (r : Nat) :
    ∀ (l : List Nat) (listed : Array Bool) (tm : List V) (hp : List Blk) (a : Act) (w : World), chkOrd mu ops.toArray listed l = true → Dn ops.toArray listed → vcSeq E P mu ops l tm hp k → Inv M w0 ρ0 m tm hp a w →
      wpAnyM P mu ops.toArray Q (l.length + r) listed a w
  | [], listed, tm, hp, a, w, hc, _, h, hI => by
    unfold vcSeq at h
    simp only [chkOrd, List.isEmpty_iff] at hc
    exact wpAnyM_done hc (hQ _ _ _ _ h hI) _
  | i :: l, listed, tm, hp, a, w, hc, hdn, h, hI => by
    unfold vcSeq at h
    simp only [chkOrd, Bool.and_eq_true, Bool.or_eq_true] at hc
    obtain ⟨hc1, hc2⟩ := hc
    cases ho : ops[i]? with
    | none => simp [ho] at h
    | some o =>
      simp only [ho] at h
      have ho' : ops.toArray[i]? = some o := by simpa using ho
      obtain ⟨ρ, hd, ht, hb⟩ := hI.ex
      have hrdy : i ∈ Region.ready .any ops.toArray listed := by
        rcases hc1 with h1 | h1
        · simp only [takeB, ho', Bool.and_eq_true] at h1
          simpa using h1.1.2
        · have : Region.ready .any ops.toArray listed = [i] := by simpa using h1
          rw [this]; simp
      have hdn' := hdn.set hrdy
      rw [show (i :: l).length + r = (l.length + r) + 1 by simp; omega]
      rcases hc1 with h1 | h1
      · simp only [takeB, ho', Bool.and_eq_true] at h1
        obtain ⟨⟨⟨hS, hfree⟩, _⟩, hld⟩ := h1
        have hpres : isLoad o.op = true → ∀ (j : Nat) (oj : Oper), ops.toArray[j]? = some oj → j ≠ i → listed.getD j true = false → waitsB ops.toArray i ops.toArray.size j = false → presOp mu oj.op = true := by
          intro hl j oj hj hji hun hnw
          simp only [hl, Bool.not_true, Bool.false_or, List.all_eq_true, List.mem_range, Bool.or_eq_true] at hld
          have := hld j (Array.getElem?_eq_some_iff.1 hj).1
          rw [hj] at this
          rcases this with ((h1 | h1) | h1) | h1
          · exact absurd (by simpa using h1) hji
          · rw [hun] at h1; cases h1
          · rw [hnw] at h1; cases h1
          · simpa using h1
        have fin : ∀ (y : Value) (tm' : List V), (YieldsIf P ops.toArray (fun w' => isLoad o.op = true → Keep none' w w') o y a) → vcSeq E P mu ops l tm' hp k → Inv M w0 ρ0 m tm' hp (a.put o.dst y) w → wpAnyM P mu ops.toArray Q (l.length + r + 1) listed a w :=
          fun y tm' hy hv hI' => wpAnyM_first ho' (Region.noSelect_spec hsel) (fun c a w hq => absurd hq (hpan c _ w)) (l.length + r) listed a w hdn (Region.free_spec ho' hfree) hpres hrdy hy
            (vcSeq_sound hE hQ hpan hsel r l _ tm' hp _ w hc2 hdn' hv hI')
        rcases vcG_cases h ht with ⟨hw, h1⟩ | ⟨hw, h1⟩
        · unfold vcOne at h1
          rw [if_pos hS] at h1
          obtain ⟨u, y, e1, e2, e3, e4⟩ := vcS_sound hE hd ht hI.ok h1
          exact fin y _ (.inl ⟨hw, e4⟩) e1 (Inv.step hd ht hb hI.ok hI.defers hI.len ⟨hd, fun _ _ => rfl, Nat.le_refl _, e2, e3⟩ _)
        · exact fin undef _ (.inr ⟨hw, rfl⟩) h1 (Inv.step hd ht hb hI.ok hI.defers hI.len (Step.nil hd) _)
      · have hone : Region.ready .any ops.toArray listed = [i] := by simpa using h1
        refine ⟨fun h0 => by rw [hone] at h0; simp at h0, fun j hj => ?_⟩
        rw [hone] at hj
        simp at hj
        subst hj
        unfold wpOp
        simp only [ho']
        rcases vcG_cases h ht with ⟨hw, h1⟩ | ⟨hw, h1⟩
        · rw [if_pos hw]
          refine .inl (vcOne_wp (mu := mu) hE hI h1 fun tm' hp' a' w' hk hI' hp => ⟨fun hpa => hp ?_, vcSeq_sound hE hQ hpan hsel r l _ tm' hp' a' w' hc2 hdn' hk hI'⟩)
          simpa [presAt, ho] using hpa
        · rw [if_neg (by simp [hw])]
          exact ⟨fun _ => Keep.refl _ _, vcSeq_sound hE hQ hpan hsel r l _ _ _ _ _ hc2 hdn' h1 (Inv.step hd ht hb hI.ok hI.defers hI.len (Step.nil hd) _)⟩
end
end Go.Vc

/- Code and functions: sound. -/
import Derived.Test.YtgdkpnchkalggaaVcgM
set_option linter.unusedSimpArgs false
set_option linter.unusedVariables false
namespace Go.Vc
open Go
section
variable {X : Cx} {M : Nat → Prop} {w0 w : World} {ρ0 : Loc}

/-- What the machine's ends owe: no panic; else one of the abstract states that Q tells of. -/
def CQ (M : Nat → Prop) (w0 : World) (ρ0 : Loc) (m : Nat) (Q : Exit → List V → List Blk → Prop) : Exit → Act → World → Prop :=
  fun e a w => (∀ c, e ≠ .panic c) ∧ ∃ tm hp, Q e tm hp ∧ Inv M w0 ρ0 m tm hp a w

theorem Inv.le {m : Nat} {tm tm' : List V} {hp hp' : List Blk} {a : Act} {σ : List Nat} (hI : Inv M w0 ρ0 m tm hp a w) (h : LeS m σ tm hp tm' hp') : Inv M w0 ρ0 m tm' hp' a w := by
  obtain ⟨ρ, hd, ht, hb⟩ := hI.ex
  exact ⟨⟨_, LeS_hd h hd, LeS_tm h ht, fun i hi => by simp only [LeS_base h hi]; exact hb i hi⟩, LeS_ok h, hI.defers, LeS_len h⟩

theorem code_sound (hE : EnvOK X.P X.E) : ∀ (c : Code), ordOK X.E X.mu X.ord X.flt c = true → ∀ (Q : Exit → List V → List Blk → Prop) (tm : List V) (hp : List Blk) (a : Act) (w : World),
    vcCode X c tm hp Q → Inv M w0 ρ0 X.m tm hp a w → c.wp X.P (CQ M w0 ρ0 X.m Q) a w
  | .skip, _, Q, tm, hp, a, w, h, hI => wp_skip ⟨fun _ => by simp, tm, hp, by rw [vcCode] at h; exact h, hI⟩
  | .ret, _, Q, tm, hp, a, w, h, hI => wp_ret ⟨fun _ => by simp, tm, hp, by rw [vcCode] at h; exact h, hI⟩
  | .exit id, _, Q, tm, hp, a, w, h, hI => wp_exit ⟨fun _ => by simp, tm, hp, by rw [vcCode] at h; exact h, hI⟩
  | .seq x y, ho, Q, tm, hp, a, w, h, hI => by
    rw [vcCode] at h
    simp only [ordOK, Bool.and_eq_true] at ho
    refine wp_seq (wp_mono (code_sound hE x ho.1 _ tm hp a w h hI) ?_)
    intro e a' w' hq
    obtain ⟨hp', tm', hp'', hq, hI'⟩ := hq
    cases e with
    | normal => exact code_sound hE y ho.2 Q tm' hp'' a' w' hq hI'
    | exit i => exact ⟨hp', tm', hp'', hq, hI'⟩
    | goto l => exact ⟨hp', tm', hp'', hq, hI'⟩
    | ret => exact ⟨hp', tm', hp'', hq, hI'⟩
    | panic c => exact absurd rfl (hp' c)
    | outgrown => exact ⟨hp', tm', hp'', hq, hI'⟩
  | .cond x p q, ho, Q, tm, hp, a, w, h, hI => by
    rw [vcCode] at h
    simp only [ordOK, Bool.and_eq_true] at ho
    unfold vCond at h
    split at h
    · rename_i t hx
      obtain ⟨ρ, hd, ht, hb⟩ := hI.ex
      have hr := ev_rel ht x
      rw [hx] at hr
      unfold rel at hr
      cases t with
      | true => exact wp_cond hr (code_sound hE p ho.1 Q tm hp a w (h.1 rfl) hI)
      | false => exact wp_cond hr (code_sound hE q ho.2 Q tm hp a w (h.2 rfl) hI)
    · exact h.elim
  | .block id b, ho, Q, tm, hp, a, w, h, hI => by
    rw [vcCode] at h
    simp only [ordOK] at ho
    refine wp_block (wp_mono (code_sound hE b ho _ tm hp a w h hI) ?_)
    intro e a' w' hq
    obtain ⟨hp', tm', hp'', hq, hI'⟩ := hq
    cases e with
    | normal => exact ⟨hp', tm', hp'', hq, hI'⟩
    | exit i =>
      simp only [vBlock] at hq
      simp only [Exit.inBlock]
      split at hq
      · rename_i hi; rw [if_pos hi]; exact ⟨fun _ => by simp, tm', hp'', hq, hI'⟩
      · rename_i hi; rw [if_neg hi]; exact ⟨hp', tm', hp'', hq, hI'⟩
    | goto l => exact ⟨hp', tm', hp'', hq, hI'⟩
    | ret => exact ⟨hp', tm', hp'', hq, hI'⟩
    | panic c => exact absurd rfl (hp' c)
    | outgrown => exact ⟨hp', tm', hp'', hq, hI'⟩
  | .region id ops draw, ho, Q, tm, hp, a, w, h, hI => by
    rw [vcCode] at h
    simp only [ordOK, Bool.or_eq_true, Bool.not_eq_true', Bool.and_eq_true] at ho
    cases draw with
    | false =>
      rw [if_neg (by simp)] at h
      refine wp_region_list ?_
      have := vcList_sound (mu := X.mu) hE (Q := CQ M w0 ρ0 X.m Q) (k := Q .normal) (fun tm' hp' a' w' hk hI' => ⟨fun _ => by simp, tm', hp', hk, hI'⟩) ops.toList tm hp a w h hI
      simpa using this
    | true =>
      rw [if_pos rfl] at h
      rcases ho with ho | ⟨⟨hsel, hflt⟩, hord⟩
      · cases ho
      · refine wp_region_any hE.mixed (wpAny_of_M (mu := X.mu) _ _ _ _ ?_)
        have hdn : Dn ops (Array.replicate ops.size false) := fun j oj _ hl => by
          simp [Array.getElem?_replicate] at hl
          split at hl <;> simp at hl
        have hI' : InvE X.E ops M w0 ρ0 X.m (X.flt id) (fun _ => false) (fun _ => (0, 0)) (killT (X.flt id) tm) hp a w.drew := by
          obtain ⟨ρ, hd, ht, hb⟩ := hI.ex
          exact ⟨⟨ρ, hd.drew, killT_rel ht, hb, fun q _ he => (by cases he)⟩, fun q _ r _ he => (by cases he), killT_ok hI.ok, hI.defers, hI.len⟩
        have := vcSeq_sound (mu := X.mu) hE (ops := ops.toList) (Q := CQ M w0 ρ0 X.m Q) (k := Q .normal) (fun tm' hp' a' w' hk hI' => ⟨fun _ => by simp, tm', hp', hk, hI'⟩)
          (fun c a w hq => hq.1 c rfl) (by simpa using hsel) (X.ord id).size (X.ord id) (Nat.le_refl _) (X.flt id) (Array.replicate ops.size false) (killT (X.flt id) tm) hp (by simpa using hord) (by simpa using fltOK_spec hflt) (killT_slot _ _) h
          _ (fun _ => false) (fun _ => (0, 0)) a w.drew (Nat.le_refl _) (by rw [markE_none]; simpa using hdn) (by simpa using hI') ops.size (by rw [markE_none]; unfold unl; simp)
        rw [markE_none] at this
        simpa using this
  | .loop b, ho, Q, tm, hp, a, w, h, hI => by
    rw [vcCode] at h
    simp only [ordOK] at ho
    obtain ⟨I, ⟨n, tm', hp', σ, hI0, hle⟩, hround⟩ := h
    refine wp_loop_ghost (fun n a w => ∃ tm hp, I n tm hp ∧ Inv M w0 ρ0 X.m tm hp a w) n ⟨tm', hp', hI0, hI.le hle⟩ ?_
    intro n a w hIn
    obtain ⟨tm, hp, hn, hI⟩ := hIn
    refine wp_mono (code_sound hE b ho _ tm hp a w (hround n tm hp hn) hI) ?_
    intro e a' w' hq
    obtain ⟨hp', tm', hp'', hq, hI'⟩ := hq
    cases e with
    | normal =>
      obtain ⟨n', hlt, tm2, hp2, σ, hn2, hle⟩ := hq
      exact ⟨n', hlt, tm2, hp2, hn2, hI'.le hle⟩
    | exit i => exact ⟨hp', tm', hp'', hq, hI'⟩
    | goto l => exact ⟨hp', tm', hp'', hq, hI'⟩
    | ret => exact ⟨hp', tm', hp'', hq, hI'⟩
    | panic c => exact absurd rfl (hp' c)
    | outgrown => exact ⟨hp', tm', hp'', hq, hI'⟩
  | .rangeFunc _ _ _ _, _, _, _, _, _, _, h, _ => by simp [vcCode] at h
  | .scope _, _, _, _, _, _, _, h, _ => by simp [vcCode] at h
  | .label _, _, _, _, _, _, _, h, _ => by simp [vcCode] at h
  | .goto _, _, _, _, _, _, _, h, _ => by simp [vcCode] at h
  | .refuse _, _, _, _, _, _, _, h, _ => by simp [vcCode] at h

/-! ### Functions -/
theorem vResL_sound (hE : EnvOK X.P X.E) {ρ : Loc} {tm : List V} {hp : List Blk} {a : Act} (hd : Hd M w0 ρ hp w) (ht : relL ρ tm a.tmps.toList) (hk : okL hp.length tm) :
    ∀ (rs : List ResultVar) (k : List V → Prop), vResL X.E rs tm hp k → ∃ vs xs, k vs ∧ relL ρ vs xs ∧ okL hp.length vs ∧
      (rs.mapM fun r => (match r with | .tmp t => pure (a.tmps.getD t undef) | .cell p t => do loadVar t (← asAddr (a.tmps.getD p undef)) : Sem Value)).run X.P w = .ok xs w
  | [], k, h => ⟨[], [], h, by simp [relL], by simp [okL], by simp⟩
  | .tmp t :: rs, k, h => by
    simp only [vResL] at h
    obtain ⟨vs, xs, h1, h2, h3, h4⟩ := vResL_sound hE hd ht hk rs _ h
    refine ⟨_, a.tmps.getD t undef :: xs, h1, ?_, ?_, ?_⟩
    · unfold relL; exact ⟨_, _, rfl, ev_rel ht (.tmp t), h2⟩
    · unfold okL; exact ⟨ev_ok hk (.tmp t), h3⟩
    · rw [List.mapM_cons, Sem.run_bind, Sem.run_pure, Result.andThen_ok, Sem.run_bind, h4]
      rfl
  | .cell p ty :: rs, k, h => by
    simp only [vResL] at h
    obtain ⟨u, y, h1, h2, h3, h4⟩ := vLoad_sound hE hd (ev_rel ht (.tmp p)) h
    obtain ⟨vs, xs, g1, g2, g3, g4⟩ := vResL_sound hE hd ht hk rs _ h1
    refine ⟨_, y :: xs, g1, ?_, ?_, ?_⟩
    · unfold relL; exact ⟨_, _, rfl, h2, g2⟩
    · unfold okL; exact ⟨h3, g3⟩
    · have h5 := h4 w (Keep.refl _ _)
      have h6 : (do loadVar ty (← asAddr (a.tmps.getD p undef)) : Sem Value).run X.P w = .ok y w := by
        simp only [Instr.loadAt, Act.eval, Sem.run_bind] at h5 ⊢
        cases hx : a.tmps.getD p undef with
        | pointer q =>
          cases q with
          | none => rw [hx] at h5; simp [Instr.sureAddr] at h5
          | some q => rw [hx] at h5; simpa [Instr.sureAddr, asAddr] using h5
        | _ => rw [hx] at h5; simp [Instr.sureAddr] at h5
      rw [List.mapM_cons, Sem.run_bind, h6, Result.andThen_ok, Sem.run_bind, g4]
      rfl

theorem vRes_sound (hE : EnvOK X.P X.E) {ρ : Loc} {tm : List V} {hp : List Blk} {a : Act} (hd : Hd M w0 ρ hp w) (ht : relL ρ tm a.tmps.toList) (hk : okL hp.length tm) {fn : Func} {k : V → Prop}
    (h : vRes X.E fn.results.toList tm hp k) : ∃ v y, k v ∧ rel ρ v y ∧ okV hp.length v ∧ (results fn a.tmps).run X.P w = .ok y w := by
  unfold vRes at h
  obtain ⟨vs, xs, h1, h2, h3, h4⟩ := vResL_sound hE hd ht hk _ _ h
  have hrun : (fn.results.mapM fun r => (match r with | .tmp t => pure (a.tmps.getD t undef) | .cell p t => do loadVar t (← asAddr (a.tmps.getD p undef)) : Sem Value)).run X.P w = .ok xs.toArray w := by
    rw [← Array.toArray_toList (xs := fn.results), List.mapM_toArray]
    rw [Sem.run_map, h4]
    rfl
  have hres : (results fn a.tmps).run X.P w = .ok (if h : xs.toArray.size = 1 then xs.toArray[0] else .tuple xs.toArray) w := by
    unfold results
    rw [Sem.run_bind]
    exact (congrArg (fun r => Result.andThen r _) hrun).trans rfl
  cases vs with
  | nil =>
    unfold relL at h2
    subst h2
    refine ⟨.t [], .tuple #[], h1, ?_, trivial, by simpa using hres⟩
    unfold rel; exact ⟨[], rfl, by simp [relL]⟩
  | cons v vs =>
    cases vs with
    | nil =>
      unfold relL at h2
      obtain ⟨x, ys, rfl, hx, h2⟩ := h2
      unfold relL at h2
      subst h2
      unfold okL at h3
      exact ⟨v, x, h1, hx, h3.1, by simpa using hres⟩
    | cons u vs =>
      have hl := relL_length h2
      refine ⟨.t (v :: u :: vs), .tuple xs.toArray, h1, ?_, h3, ?_⟩
      · unfold rel; exact ⟨xs, rfl, h2⟩
      · rw [hres]
        have : ¬ xs.toArray.size = 1 := by simp [hl]
        rw [dif_neg this]

/-- A FUNCTION's CONTRACT OUT OF ITS VERIFICATION CONDITIONS. 'post' may forget: the last state is renamed into it. -/
theorem LC_of (hE : EnvOK X.P X.E) {f : FuncId} {fn : Func} (hf : X.P.funcs[f]? = some fn) (hn : (fn.name == "runtime.NumGoroutine") = false) (hord : ((fn.body.map (ordOK X.E X.mu X.ord X.flt)).getD false) = true)
    {args : List V} {ha : List Blk} (hm : X.m = ha.length) (hnt : args.length ≤ fn.ntmps) {post : V → List Blk → Prop}
    (h : kFun X fn args ha fun v hp => ∃ v' hp' σ, post v' hp' ∧ LeS ha.length σ [v] hp [v'] hp') : LC X.P f args ha post := by
  unfold kFun at h
  cases hb : fn.body with
  | none => simp [hb] at h
  | some c =>
    simp only [hb] at h
    rw [hb] at hord
    simp only [Option.map_some, Option.getD_some] at hord
    refine ⟨⟨fn, hf, by simp [hb], hn⟩, fun w ρ xs hd hr hk => ?_⟩
    have hxl := relL_length hr
    refine calls_of_wp hf hb ?_
    have hI : Inv (modOf ha ρ) w ρ X.m (args ++ List.replicate (fn.ntmps - args.length) (.c undef)) ha ⟨xs.toArray ++ Array.replicate (fn.ntmps - xs.toArray.size) undef, []⟩ w := by
      refine ⟨⟨ρ, hd, ?_, fun _ _ => rfl⟩, okL_append hk (okL_iff.2 fun v hv => by rw [List.mem_replicate] at hv; rw [hv.2]; trivial), rfl, by omega⟩
      simp only [Array.toList_append, List.toList_toArray, Array.toList_replicate, List.size_toArray, hxl]
      refine relL_append hr ?_
      have := relL_map_c (ρ := ρ) (fun _ : Nat => undef) (List.range (fn.ntmps - args.length))
      simpa [List.map_const'] using this
    refine wp_mono (code_sound hE c hord _ _ _ _ _ h hI) ?_
    intro e a' w' hq
    obtain ⟨hnp, tm', hp', hq, hI'⟩ := hq
    have fin : vRes X.E fn.results.toList tm' hp' (fun v => ∃ v' hp'' σ, post v' hp'' ∧ LeS ha.length σ [v] hp' [v'] hp'') →
        a'.defers = [] ∧ ∃ v, (results fn a'.tmps).run X.P w' = .ok v w' ∧ ∃ v_1 hp'_1 ρ' x, Ending.returned v = .returned x ∧ post v_1 hp'_1 ∧ Hd (modOf ha ρ) w ρ' hp'_1 w' ∧ ha.length ≤ hp'_1.length ∧
          (∀ h, h < ha.length → ρ' h = ρ h) ∧ rel ρ' v_1 x ∧ okV hp'_1.length v_1 := fun hv => by
      obtain ⟨ρ1, hd1, ht1, hb1⟩ := hI'.ex
      obtain ⟨u, y, ⟨v', hp'', σ, hpo, hle⟩, h2, h3, h4⟩ := vRes_sound hE hd1 ht1 hI'.ok hv
      have h5 := LeS_tm hle (ρ := ρ1) (xs := [y]) (by unfold relL; exact ⟨y, [], rfl, h2, by simp [relL]⟩)
      unfold relL at h5
      obtain ⟨y', ys, e1, h5, _⟩ := h5
      cases e1
      have h6 := LeS_ok hle
      unfold okL at h6
      exact ⟨hI'.defers, y, h4, v', hp'', _, y, rfl, hpo, LeS_hd hle hd1, LeS_len hle, fun i hi => by simp only [LeS_base hle hi]; exact hb1 i (by omega), h5, h6.1⟩
    cases e with
    | normal => exact fin (by rw [den, vEnd] at hq; exact hq)
    | ret => exact fin (by rw [den, vEnd] at hq; exact hq)
    | exit i => rw [den, vEnd] at hq; exact hq.elim; all_goals simp
    | goto l => rw [den, vEnd] at hq; exact hq.elim; all_goals simp
    | panic c => exact absurd rfl (hnp c)
    | outgrown => rw [den, vEnd] at hq; exact hq.elim; all_goals simp
end
end Go.Vc

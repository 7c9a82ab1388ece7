/- Every operation that leaves the world as it is: sound. -/
import Derived.Test.YtgdkpnchkalggaaVcgF
set_option linter.unusedSimpArgs false
set_option linter.unusedVariables false
namespace Go.Vc
open Go
section
variable {P : Program} {E : Env} {t : TypeId} {d : TD} {M : Nat → Prop} {w0 w : World} {ρ : Loc} {hp : List Blk}

theorem opt_rel {tm : List V} {a : Act} (ht : relL ρ tm a.tmps.toList) (x : Option Operand) : ∀ v, x.map (ev tm) = some v → ∃ u, x.map a.eval = some u ∧ rel ρ v u := by
  cases x with
  | none => intro v h; simp at h
  | some x => intro v h; simp at h; subst h; exact ⟨a.eval x, by simp, ev_rel ht x⟩
theorem opt_none {tm : List V} {a : Act} (x : Option Operand) : x.map (ev tm) = none → x.map a.eval = none := by
  cases x <;> simp

theorem vcS_sound (hE : EnvOK P E) {o : Oper} {a : Act} {tm : List V} (hd : Hd M w0 ρ hp w) (ht : relL ρ tm a.tmps.toList) (hk : okL hp.length tm) {k : V → Prop} (h : vcS E o.op tm hp k) :
    ∃ u y, k u ∧ rel ρ u y ∧ okV hp.length u ∧ ∀ w', (isLoad o.op = true → Keep none' w w') → (execOp a.eval o).run P w' = .ok (.value y) w' := by
  obtain ⟨dst, op, ty, pos, af, gd⟩ := o
  simp only at h ⊢
  cases op <;> simp only [vcS] at h
  case move x => exact ⟨_, _, h, ev_rel ht x, ev_ok hk x, fun w' _ => by simp [execOp]⟩
  case assign x => exact ⟨_, _, h, ev_rel ht x, ev_ok hk x, fun w' _ => by simp [execOp]⟩
  case build t ps =>
    obtain ⟨u, y, h1, h2, h3, h4⟩ := vBuild_sound hE (N := hp.length) (ρ := ρ) (ps := ps.toList.map fun q => (q.1, ev tm q.2)) (qs := ps.toList.map fun q => (q.1, a.eval q.2)) (by simp)
      (by have := evs_rel (a := a) ht (ps.toList.map (·.2)); simpa [List.map_map, Function.comp_def] using this)
      (by have := evs_ok hk (ps.toList.map (·.2)); simpa [List.map_map, Function.comp_def] using this) h
    refine ⟨u, y, h1, h2, h3, fun w' _ => ?_⟩
    have h4' : (Instr.build t (ps.map fun q => (q.1, a.eval q.2))).run P w' = .ok y w' := by
      have := h4 w'
      rwa [← List.map_toArray, Array.toArray_toList] at this
    simp [execOp, h4']
  case load t x =>
    obtain ⟨u, y, h1, h2, h3, h4⟩ := vLoad_sound hE hd (ev_rel ht x) h
    exact ⟨u, y, h1, h2, h3, fun w' hw => by simp [execOp, h4 w' (hw rfl)]⟩
  case nilCheck x =>
    obtain ⟨u, y, h1, h2, h3, h4⟩ := vNil_sound (P := P) (ev_rel ht x) (ev_ok hk x) h (o := ⟨dst, .nilCheck x, ty, pos, af, gd⟩) (ρ' := a.eval) rfl rfl
    exact ⟨u, y, h1, h2, h3, fun w' _ => h4 w'⟩
  case binOp op t x y t' =>
    obtain ⟨z, h1, h2⟩ := vBin_sound (P := P) hE (ev_rel ht x) (ev_rel ht y) h x y
    exact ⟨_, z, h1, rfl, trivial, fun w' _ => by have := h2 w'; simp only [execOp]; simp only [Sem.run_bind] at this ⊢; rw [this]; rfl⟩
  case unOp op t x =>
    obtain ⟨z, h1, h2⟩ := vUn_sound (P := P) (ev_rel ht x) h
    exact ⟨_, z, h1, rfl, trivial, fun w' _ => by simp [execOp, h2 w']⟩
  case convert s t x =>
    obtain ⟨z, h1, h2⟩ := vConv_sound hE hd (ev_rel ht x) h
    exact ⟨_, z, h1, rfl, trivial, fun w' hw => by simp [execOp, h2 w' (hw rfl)]⟩
  case sliceToArrayPointer t x =>
    obtain ⟨u, y, h1, h2, h3, h4⟩ := vArrPtr_sound hE (ev_rel ht x) (ev_ok hk x) h
    exact ⟨u, y, h1, h2, h3, fun w' _ => by simp [execOp, h4 w']⟩
  case slice t x lo hi mx =>
    obtain ⟨u, y, h1, h2, h3, h4⟩ := vSlice_sound hE (ev_rel ht x) (ev_ok hk x) (opt_rel ht lo) (opt_none (a := a) lo) (opt_rel ht hi) (opt_none (a := a) hi) (opt_none (a := a) mx) h
    exact ⟨u, y, h1, h2, h3, fun w' _ => by simp [execOp, h4 w']⟩
  case fieldAddr t x f =>
    obtain ⟨u, y, h1, h2, h3, h4⟩ := vFieldAddr_sound hE (ev_rel ht x) (ev_ok hk x) h
    exact ⟨u, y, h1, h2, h3, fun w' _ => by simp [execOp, h4 w']⟩
  case field t x f =>
    obtain ⟨u, y, h1, h2, h3, h4⟩ := vField_sound hE (ev_rel ht x) (ev_ok hk x) h
    exact ⟨u, y, h1, h2, h3, fun w' _ => by simp [execOp, h4 w']⟩
  case indexAddr t x i =>
    obtain ⟨u, y, h1, h2, h3, h4⟩ := vIndexAddr_sound hE (ev_rel ht x) (ev_rel ht i) (ev_ok hk x) h
    exact ⟨u, y, h1, h2, h3, fun w' _ => by simp [execOp, h4 w']⟩
  case index t x i =>
    obtain ⟨u, y, h1, h2, h3, h4⟩ := vIndex_sound hE (ev_rel ht x) (ev_rel ht i) (ev_ok hk x) h
    exact ⟨u, y, h1, h2, h3, fun w' _ => by simp [execOp, h4 w']⟩
  case extract x i =>
    obtain ⟨u, y, h1, h2, h3, h4⟩ := vExtract_sound (P := P) (ev_rel ht x) (ev_ok hk x) h
    exact ⟨u, y, h1, h2, h3, fun w' _ => by simp [execOp, h4 w']⟩
  case pick c x y =>
    unfold vPick at h
    have hc := ev_rel (a := a) ht c
    cases hcv : ev tm c with
    | c v =>
      cases v with
      | bool t =>
        simp only [hcv] at h
        rw [hcv] at hc; unfold rel at hc
        cases t with
        | true => exact ⟨_, a.eval x, h, ev_rel ht x, ev_ok hk x, fun w' _ => by simp [execOp, hc, asBool]⟩
        | false => exact ⟨_, a.eval y, h, ev_rel ht y, ev_ok hk y, fun w' _ => by simp [execOp, hc, asBool]⟩
      | _ => simp [hcv] at h
    | _ => simp [hcv] at h
  case makeFunc f first captured =>
    obtain ⟨rfl, rfl, h⟩ := h
    exact ⟨_, _, h, rfl, trivial, fun w' _ => by simp [execOp, Instr.makeFunc]⟩
  case call c =>
    obtain ⟨callee, args, ts⟩ := c
    cases callee with
    | value f => exact h.elim
    | invoke r m => exact h.elim
    | builtin b =>
      cases b <;> simp only at h
      case len =>
        obtain ⟨z, h1, h2⟩ := vLen_sound hE (evs_rel (a := a) ht args.toList) h ty
        refine ⟨_, z, h1, rfl, trivial, fun w' _ => ?_⟩
        have := h2 w'
        rw [Array.toArray_toList, ← List.map_toArray, Array.toArray_toList] at this
        simp [execOp, resolve, invoke, builtin, this]
      case cap =>
        obtain ⟨z, h1, h2⟩ := vCap_sound hE (evs_rel (a := a) ht args.toList) h ty
        refine ⟨_, z, h1, rfl, trivial, fun w' _ => ?_⟩
        have := h2 w'
        rw [Array.toArray_toList, ← List.map_toArray, Array.toArray_toList] at this
        simp [execOp, resolve, invoke, builtin, this]
      case min =>
        obtain ⟨z, h1, h2⟩ := vMin_sound (P := P) (evs_rel (a := a) ht args.toList) h ts ty
        refine ⟨_, z, h1, rfl, trivial, fun w' _ => ?_⟩
        have := h2 w'
        rw [← List.map_toArray, Array.toArray_toList] at this
        simp only [Bool.false_eq_true, if_false] at this
        simp [execOp, resolve, invoke, builtin, this]
      case max =>
        obtain ⟨z, h1, h2⟩ := vMin_sound (P := P) (evs_rel (a := a) ht args.toList) h ts ty
        refine ⟨_, z, h1, rfl, trivial, fun w' _ => ?_⟩
        have := h2 w'
        rw [← List.map_toArray, Array.toArray_toList] at this
        simp only [if_true] at this
        simp [execOp, resolve, invoke, builtin, this]
      all_goals exact h.elim
  all_goals exact h.elim
end
end Go.Vc

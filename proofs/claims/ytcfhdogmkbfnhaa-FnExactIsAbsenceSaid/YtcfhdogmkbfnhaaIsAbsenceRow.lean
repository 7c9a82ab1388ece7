import Derived.Test.YtcfhdogmkbfnhaaAbsLaw
import Derived.Test.YtcfhdogmkbfnhaaRows
import Derived.Test.YtcfhdogmkbfnhaaVcgR
/- The statement 'FnExactIsAbsence': whatever the arguments (for a slice or a string of more than 1048576 bytes the law's own first test returns), the law returns true, and the arguments read behind the call as they did before. -/
set_option linter.unusedSimpArgs false
set_option linter.unusedVariables false
namespace Go.Proofs.Ytcfhdogmkbfnhaa
open Go Go.Vc Go.ChangeShapes Go.WideShapes Go.ChangeAt Go.RowKit
set_option maxRecDepth 100000 in
theorem lifted_FnExactIsAbsence (os : Os) (started : os.Started) (H : Type) (enc : TypeId × Value → H) :
    ReturnsInHanded {} Try.checked os 9 .any (Rows.fnExactIsAbsenceSpec.pre6 enc Try.prog Try.f9 Rows.fnExactIsAbsenceRow.domain false) (Rows.fnExactIsAbsenceSpec.post enc Try.prog Try.f9 false true false false) := by
  have own : ownKnob Try.prog.godebug = none := by kernel_rfl
  have laidOut : laidOutB Try.prog = true := by kernel_rfl
  refine returnsInHanded_of_change (C := Try.checked) own started (by kernel_rfl) Try.func9
    (ChangeSpec.witness6 (enc := enc) (C := Try.checked) false ⟨#[], #[.agg (Array.replicate 32 (.int .u8 0)), .int .i64 0, .agg (Array.replicate 32 (.int .u8 0)), .agg #[.int .i64 0, .slice none 0 0, .slice none 0 0]], []⟩ 8 (by kernel_rfl) (by kernel_rfl) (by kernel_rfl) (by kernel_rfl)) ?_
  intro W base args ds gs before hval0 hW hcnd _
  have hval : ∀ (j : Nat) t v, Try.f9.params[j]? = some t → args[j]? = some v → Value.okWide Try.prog W .any base t v := hval0
  have hW' := hW
  obtain ⟨p, q, hA0, hV, rfl, hfz, hnd⟩ := hW
  have hA : DataW.TrodAll enc Try.prog W 0 (fun _ => true) true Try.f9.params.toList args.toList ds p := hA0
  rw [Try.params9] at hA hval
  obtain ⟨v0, vs0, d0, ds0, p0, q0, hargs, rfl, rfl, h0, r0⟩ := trodAll_cons hA
  obtain ⟨v1, vs1, d1, ds1, p1, q1, rfl, rfl, rfl, h1, r1⟩ := trodAll_cons r0
  obtain ⟨v2, vs2, d2, ds2, p2, q2, rfl, rfl, rfl, h2, r2⟩ := trodAll_cons r1
  obtain ⟨v3, vs3, d3, ds3, p3, q3, rfl, rfl, rfl, h3, r3⟩ := trodAll_cons r2
  obtain ⟨rfl, rfl, rfl⟩ := trodAll_nil r3
  obtain rfl : args = #[v0, v1, v2, v3] := by cases args; simp_all
  obtain ⟨rfl, rfl⟩ := trodVars_none hV
  have k0 := h0
  have lt0 : ∀ x ∈ p0, x.block < W.heap.size := by obtain ⟨m, hm⟩ := k0; exact DataW.trod_lt m _ _ _ hm
  obtain ⟨l0, e0, rfl⟩ := open_bytesA Try.underlying62 Try.underlying5 (by kernel_rfl) (by kernel_rfl) (hval 0 62 v0 rfl rfl) h0
  have k1 := h1
  have lt1 : ∀ x ∈ p1, x.block < W.heap.size := by obtain ⟨m, hm⟩ := k1; exact DataW.trod_lt m _ _ _ hm
  have k2 := h2
  have lt2 : ∀ x ∈ p2, x.block < W.heap.size := by obtain ⟨m, hm⟩ := k2; exact DataW.trod_lt m _ _ _ hm
  obtain ⟨l2, e2, rfl⟩ := open_bytesA Try.underlying62 Try.underlying5 (by kernel_rfl) (by kernel_rfl) (hval 2 62 v2 rfl rfl) h2
  have k3 := h3
  have lt3 : ∀ x ∈ p3, x.block < W.heap.size := by obtain ⟨m, hm⟩ := k3; exact DataW.trod_lt m _ _ _ hm
  obtain ⟨z1, rfl, _, _, wf1⟩ := Go.ChangeShapes.open_int Try.underlying2 (hval 1 2 v1 rfl rfl) h1
  obtain ⟨z3, vb3, vc3, ρb3, ρc3, n3, cb3, K3, cc3, D3, loc3, wz3, rfl, ob3, oc3, lk3, lb3, mb3, lc3, mc3, pd3, rb3, rc3, cl3, pa3⟩ := open_absence Try.underlying98 rfl rfl rfl Try.underlying2 Try.underlying46 Try.underlying62 Try.underlying5 Try.underlying96 Try.underlying46 (by kernel_rfl) (by kernel_rfl) (by kernel_rfl) (by kernel_rfl) (by kernel_rfl) (by kernel_rfl) (by kernel_rfl) (hval 3 98 v3 rfl rfl) h3
  clear hA0 hval0
  have key := LC_row (w := W) (law_FnExactIsAbsence l0 e0 z1 wf1 l2 e2 z3 wz3 n3 cb3 K3 lk3 lb3 mb3 D3 cc3 lc3 mc3 pd3) (by intro b hb; simp only [List.mem_cons] at hb; rcases hb with rfl | rfl | hb <;> first | rfl | exact ro_part b hb) (by simp [okL, okV, okL_bs, partB_length, dPs_length]) (by intro b hb; exact stL_ok ((stB_cons (stL_bs _ _) (stB_cons (stL_ptrV (by simp [partB_length, dPs_length]; try omega)) (stB_part dPs_st))) b hb)) (ρ := fun h => match h with | 0 => ρb3 | 1 => ρc3 | h + 2 => loc3 h) (xs := [.agg (l0.map u8v).toArray, .int .i64 z1, .agg (l2.map u8v).toArray, .agg #[.int .i64 z3, vb3, vc3]]) (by
    intro h b hb j v hv
    match h, hb with
    | 0, hb => simp at hb; subst hb; exact cell_at (ρ := fun h => match h with | 0 => ρb3 | 1 => ρc3 | h + 2 => loc3 h) (g := 0) cl3 rfl j v hv
    | 1, hb => simp at hb; subst hb; exact cell_ptrs (ρ := fun h => match h with | 0 => ρb3 | 1 => ρc3 | h + 2 => loc3 h) (g := 1) (b := 2) pa3 rfl (fun i hi => by rw [Nat.add_comm]) j v hv
    | h + 2, hb => have := cell_parts (b := 2) (ρ := fun h => match h with | 0 => ρb3 | 1 => ρc3 | h + 2 => loc3 h) pa3 (fun i hi => by rw [Nat.add_comm]) h b hb j v hv; rwa [Nat.add_comm 2 h] at this) (by
    simp only [relL]
    exact ⟨_, _, rfl, by unfold rel; exact ⟨_, rfl, rel_bs _, by simp [u8v, Value.oneCell']⟩, ⟨_, _, rfl, by unfold rel; rfl, ⟨_, _, rfl, by unfold rel; exact ⟨_, rfl, rel_bs _, by simp [u8v, Value.oneCell']⟩, ⟨_, _, rfl, by unfold rel; exact ⟨[.int .i64 z3, vb3, vc3], rfl, by simp only [relL]; exact ⟨_, _, rfl, rfl, _, _, rfl, rb3 _ _ rfl, _, _, rfl, rc3 _ _ rfl, rfl⟩, by have e : Value.oneCell' (.int .i64 z3) = true := rfl; simp [ob3, oc3, e]⟩, rfl⟩⟩⟩⟩)
  refine key.mono fun e W' ⟨he, bel⟩ => ?_
  subst he
  exact ⟨_, rfl, _, _, _, [], _, [], hW', trodAll_mk1 (shut_bool Try.underlying4 _), (trodAll_cons_mk (Below.trod laidOut (by kernel_rfl) (of_decide_eq_true (by kernel_rfl)) k0 bel lt0) (trodAll_cons_mk (Below.trod laidOut (by kernel_rfl) (of_decide_eq_true (by kernel_rfl)) k1 bel lt1) (trodAll_cons_mk (Below.trod laidOut (by kernel_rfl) (of_decide_eq_true (by kernel_rfl)) k2 bel lt2) (trodAll_cons_mk (Below.trod laidOut (by kernel_rfl) (of_decide_eq_true (by kernel_rfl)) k3 bel lt3) trodAll_mk0)))), rfl, bel.frame _, fun h => by cases h⟩

theorem proved_FnExactIsAbsence : Rows.FnExactIsAbsenceSaid :=
  OpenClaim.holds_of_wide 9 Try.f9 rfl rfl rfl rfl rfl rfl rfl ⟨rfl, rfl, rfl, rfl, rfl⟩ rfl rfl rfl rfl rfl (by kernel_rfl) Try.func9 (by kernel_rfl)
    (of_decide_eq_true (by kernel_rfl)) (by unfold Func.isWrapper; first | (rw [if_pos (by decide +kernel)]; kernel_rfl) | (rw [if_neg (by decide +kernel)]; exact ⟨rfl, rfl⟩))
    (fun os started H enc _ => lifted_FnExactIsAbsence os started H enc)
end Go.Proofs.Ytcfhdogmkbfnhaa

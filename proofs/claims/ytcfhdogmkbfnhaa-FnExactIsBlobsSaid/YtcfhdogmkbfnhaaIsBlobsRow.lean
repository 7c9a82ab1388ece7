import Derived.Test.YtcfhdogmkbfnhaaBlobLaw
import Derived.Test.YtcfhdogmkbfnhaaRows
import Derived.Test.YtcfhdogmkbfnhaaVcgR
/- The statement 'FnExactIsBlobs': whatever the arguments (for a slice or a string of more than 1048576 bytes the law's own first test returns), the law returns true, and the arguments read behind the call as they did before. -/
set_option linter.unusedSimpArgs false
set_option linter.unusedVariables false
namespace Go.Proofs.Ytcfhdogmkbfnhaa
open Go Go.Vc Go.ChangeShapes Go.WideShapes Go.ChangeAt Go.RowKit
set_option maxRecDepth 100000 in
theorem lifted_FnExactIsBlobs (os : Os) (started : os.Started) (H : Type) (enc : TypeId × Value → H) :
    ReturnsInHanded {} Try.checked os 5 .any (Rows.fnExactIsBlobsSpec.pre6 enc Try.prog Try.f5 Rows.fnExactIsBlobsRow.domain false) (Rows.fnExactIsBlobsSpec.post enc Try.prog Try.f5 false true false false) := by
  have own : ownKnob Try.prog.godebug = none := by kernel_rfl
  have laidOut : laidOutB Try.prog = true := by kernel_rfl
  refine returnsInHanded_of_change (C := Try.checked) own started (by kernel_rfl) Try.func5
    (ChangeSpec.witness6 (enc := enc) (C := Try.checked) false ⟨#[], #[.agg #[.slice none 0 0, .slice none 0 0, .slice none 0 0]], []⟩ 8 (by kernel_rfl) (by kernel_rfl) (by kernel_rfl) (by kernel_rfl)) ?_
  intro W base args ds gs before hval0 hW hcnd _
  have hval : ∀ (j : Nat) t v, Try.f5.params[j]? = some t → args[j]? = some v → Value.okWide Try.prog W .any base t v := hval0
  have hW' := hW
  obtain ⟨p, q, hA0, hV, rfl, hfz, hnd⟩ := hW
  have hA : DataW.TrodAll enc Try.prog W 0 (fun _ => true) true Try.f5.params.toList args.toList ds p := hA0
  rw [Try.params5] at hA hval
  obtain ⟨v0, vs0, d0, ds0, p0, q0, hargs, rfl, rfl, h0, r0⟩ := trodAll_cons hA
  obtain ⟨rfl, rfl, rfl⟩ := trodAll_nil r0
  obtain rfl : args = #[v0] := by cases args; simp_all
  obtain ⟨rfl, rfl⟩ := trodVars_none hV
  have k0 := h0
  have lt0 : ∀ x ∈ p0, x.block < W.heap.size := by obtain ⟨m, hm⟩ := k0; exact DataW.trod_lt m _ _ _ hm
  obtain ⟨va0, vb0, vc0, ρa0, ρb0, ρc0, n0, ca0, K0, cb0, D0, loc0, cc0, Q0, rfl, oa0, ob0, oc0, lk0, la0, ma0, lb0, mb0, pd0, lc0, mc0, wq0, ra0, rb0, rc0, cl0, pa0, cq0⟩ := open_blobs Try.underlying54 rfl rfl rfl Try.underlying46 Try.underlying62 Try.underlying5 Try.underlying28 Try.underlying113 Try.underlying52 Try.underlying2 Try.underlying5 (by kernel_rfl) (by kernel_rfl) (by kernel_rfl) (by kernel_rfl) (by kernel_rfl) (by kernel_rfl) (by kernel_rfl) (by kernel_rfl) (by kernel_rfl) (hval 0 54 v0 rfl rfl) h0
  clear hA0 hval0
  have key := LC_row (w := W) (law_FnExactIsBlobs n0 ca0 K0 lk0 la0 ma0 D0 cb0 lb0 mb0 pd0 Q0 cc0 lc0 mc0 wq0) (by intro b hb; simp only [List.mem_cons] at hb; rcases hb with rfl | rfl | rfl | hb <;> first | rfl | exact ro_part b hb) (by simp [okL, okV, okL_bs, partB_length, bPs_length]) (by intro b hb; exact stL_ok ((stB_cons (stL_bs _ _) (stB_cons (stL_ptrV (by simp [partB_length, bPs_length]; try omega)) (stB_cons (stL_nsv _ _) (stB_part bPs_st)))) b hb)) (ρ := fun h => match h with | 0 => ρa0 | 1 => ρb0 | 2 => ρc0 | h + 3 => loc0 h) (xs := [.agg #[va0, vb0, vc0]]) (by
    intro h b hb j v hv
    match h, hb with
    | 0, hb => simp at hb; subst hb; exact cell_at (ρ := fun h => match h with | 0 => ρa0 | 1 => ρb0 | 2 => ρc0 | h + 3 => loc0 h) (g := 0) cl0 rfl j v hv
    | 1, hb => simp at hb; subst hb; exact cell_ptrs (ρ := fun h => match h with | 0 => ρa0 | 1 => ρb0 | 2 => ρc0 | h + 3 => loc0 h) (g := 1) (b := 3) pa0 rfl (fun i hi => by rw [Nat.add_comm]) j v hv
    | 2, hb => simp at hb; subst hb; exact cell_at (ρ := fun h => match h with | 0 => ρa0 | 1 => ρb0 | 2 => ρc0 | h + 3 => loc0 h) (g := 2) cq0 rfl j v hv
    | h + 3, hb => have := cell_parts (b := 3) (ρ := fun h => match h with | 0 => ρa0 | 1 => ρb0 | 2 => ρc0 | h + 3 => loc0 h) pa0 (fun i hi => by rw [Nat.add_comm]) h b hb j v hv; rwa [Nat.add_comm 3 h] at this) (by
    simp only [relL]
    exact ⟨_, _, rfl, by unfold rel; exact ⟨[va0, vb0, vc0], rfl, by simp only [relL]; exact ⟨_, _, rfl, ra0 _ _ rfl, _, _, rfl, rb0 _ _ rfl, _, _, rfl, rc0 _ _ rfl, rfl⟩, by simp [oa0, ob0, oc0]⟩, rfl⟩)
  refine key.mono fun e W' ⟨he, bel⟩ => ?_
  subst he
  exact ⟨_, rfl, _, _, _, [], _, [], hW', trodAll_mk1 (shut_bool Try.underlying4 _), (trodAll_cons_mk (Below.trod laidOut (by kernel_rfl) (of_decide_eq_true (by kernel_rfl)) k0 bel lt0) trodAll_mk0), rfl, bel.frame _, fun h => by cases h⟩

theorem proved_FnExactIsBlobs : Rows.FnExactIsBlobsSaid :=
  OpenClaim.holds_of_wide 5 Try.f5 rfl rfl rfl rfl rfl rfl rfl ⟨rfl, rfl, rfl, rfl, rfl⟩ rfl rfl rfl rfl rfl (by kernel_rfl) Try.func5 (by kernel_rfl)
    (of_decide_eq_true (by kernel_rfl)) (by unfold Func.isWrapper; first | (rw [if_pos (by decide +kernel)]; kernel_rfl) | (rw [if_neg (by decide +kernel)]; exact ⟨rfl, rfl⟩))
    (fun os started H enc _ => lifted_FnExactIsBlobs os started H enc)
end Go.Proofs.Ytcfhdogmkbfnhaa

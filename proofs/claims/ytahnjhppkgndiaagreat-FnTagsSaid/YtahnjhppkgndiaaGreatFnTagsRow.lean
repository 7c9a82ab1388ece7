import Derived.Test.YtahnjhppkgndiaaGreatTgsLaw
import Derived.Test.YtahnjhppkgndiaaGreatRows
import Derived.Test.YtahnjhppkgndiaaGreatVcgR
/- The statement 'FnTags': whatever the arguments (for a slice or a string of more than 1048576 bytes the law's own first test returns), the law returns true, and the arguments read behind the call as they did before. -/
set_option linter.unusedSimpArgs false
set_option linter.unusedVariables false
namespace Go.Proofs.YtahnjhppkgndiaaGreat
open Go Go.Vc Go.ChangeShapes Go.WideShapes Go.ChangeAt Go.RowKit
set_option maxRecDepth 100000 in
theorem lifted_FnTags (os : Os) (started : os.Started) (H : Type) (enc : TypeId × Value → H) :
    ReturnsInHanded {} Tryz.checked os 3 .any (Rows.fnTagsSpec.pre6 enc Tryz.prog Tryz.f3 Rows.fnTagsRow.domain false) (Rows.fnTagsSpec.post enc Tryz.prog Tryz.f3 false true false false) := by
  have own : ownKnob Tryz.prog.godebug = none := by kernel_rfl
  have laidOut : laidOutB Tryz.prog = true := by kernel_rfl
  refine returnsInHanded_of_change (C := Tryz.checked) own started (by kernel_rfl) Tryz.func3
    (ChangeSpec.witness6 (enc := enc) (C := Tryz.checked) false ⟨#[], #[.slice none 0 0], []⟩ 8 (by kernel_rfl) (by kernel_rfl) (by kernel_rfl) (by kernel_rfl)) ?_
  intro W base args ds gs before hval0 hW hcnd _
  have hval : ∀ (j : Nat) t v, Tryz.f3.params[j]? = some t → args[j]? = some v → Value.okWide Tryz.prog W .any base t v := hval0
  have hW' := hW
  obtain ⟨p, q, hA0, hV, rfl, hfz, hnd⟩ := hW
  have hA : DataW.TrodAll enc Tryz.prog W 0 (fun _ => true) true Tryz.f3.params.toList args.toList ds p := hA0
  rw [Tryz.params3] at hA hval
  obtain ⟨v0, vs0, d0, ds0, p0, q0, hargs, rfl, rfl, h0, r0⟩ := trodAll_cons hA
  obtain ⟨rfl, rfl, rfl⟩ := trodAll_nil r0
  obtain rfl : args = #[v0] := by cases args; simp_all
  obtain ⟨rfl, rfl⟩ := trodVars_none hV
  have k0 := h0
  have lt0 : ∀ x ∈ p0, x.block < W.heap.size := by obtain ⟨m, hm⟩ := k0; exact DataW.trod_lt m _ _ _ hm
  obtain ⟨ρ0, n0, c0, l0, e0, le0, mx0, rv0, cl0⟩ := open_bytesS Tryz.underlying22 Tryz.underlying5 (by kernel_rfl) (hval 0 22 v0 rfl rfl) h0
  subst e0
  clear hA0 hval0
  have key := LC_row (w := W) (law_FnTags l0 c0 le0 mx0) (by simp) (by simp [okL, okV, okL_bs]) (by simp [okL_bs]) (ρ := fun _ => ρ0) (xs := [v0]) (by
    intro h b hb j v hv
    cases h with
    | zero => simp at hb; subst hb; exact cell_bs cl0 j v hv
    | succ h => simp at hb) (by
    simp only [relL]
    exact ⟨_, _, rfl, by unfold rel at rv0 ⊢; exact rv0, rfl⟩)
  refine key.mono fun e W' ⟨he, bel⟩ => ?_
  subst he
  exact ⟨_, rfl, _, _, _, [], _, [], hW', trodAll_mk1 (shut_bool Tryz.underlying4 _), (trodAll_cons_mk (Below.trod laidOut (by kernel_rfl) (of_decide_eq_true (by kernel_rfl)) k0 bel lt0) trodAll_mk0), rfl, bel.frame _, fun h => by cases h⟩

theorem proved_FnTags : Rows.FnTagsSaid :=
  OpenClaim.holds_of_wide 3 Tryz.f3 rfl rfl rfl rfl rfl rfl rfl ⟨rfl, rfl, rfl, rfl, rfl⟩ rfl rfl rfl rfl rfl (by kernel_rfl) Tryz.func3 (by kernel_rfl)
    (of_decide_eq_true (by kernel_rfl)) (by unfold Func.isWrapper; first | (rw [if_pos (by decide +kernel)]; kernel_rfl) | (rw [if_neg (by decide +kernel)]; exact ⟨rfl, rfl⟩))
    (fun os started H enc _ => lifted_FnTags os started H enc)
end Go.Proofs.YtahnjhppkgndiaaGreat

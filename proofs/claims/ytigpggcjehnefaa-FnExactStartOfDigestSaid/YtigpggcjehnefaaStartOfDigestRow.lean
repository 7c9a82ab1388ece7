/- The statement 'FnExactStartOfDigest': whatever the arguments (for a slice or a string of more than 1048576 bytes the law's own first test returns), the law returns true, and the arguments read behind the call as they did before. -/
import Derived.Test.YtigpggcjehnefaaStartOfDigest
import Derived.Test.YtigpggcjehnefaaRows
import Derived.Test.YtigpggcjehnefaaVcgR
set_option linter.unusedSimpArgs false
set_option linter.unusedVariables false
namespace Go.Proofs.Ytigpggcjehnefaa
open Go Go.Vc Go.ChangeShapes Go.WideShapes Go.ChangeAt Go.RowKit
set_option maxRecDepth 100000 in
theorem lifted_FnExactStartOfDigest (os : Os) (started : os.Started) (H : Type) (enc : TypeId × Value → H) :
    ReturnsInHanded {} Try.checked os 3 .any (Rows.fnExactStartOfDigestSpec.pre6 enc Try.prog Try.f3 Rows.fnExactStartOfDigestRow.domain false) (Rows.fnExactStartOfDigestSpec.post enc Try.prog Try.f3 false true false false) := by
  have own : ownKnob Try.prog.godebug = none := by kernel_rfl
  have laidOut : laidOutB Try.prog = true := by kernel_rfl
  refine returnsInHanded_of_change (C := Try.checked) own started (by kernel_rfl) Try.func3
    (ChangeSpec.witness6 (enc := enc) (C := Try.checked) false ⟨#[], #[], []⟩ 8 (by kernel_rfl) (by kernel_rfl) (by kernel_rfl) (by kernel_rfl)) ?_
  intro W base args ds gs before hval0 hW hcnd _
  have hval : ∀ (j : Nat) t v, Try.f3.params[j]? = some t → args[j]? = some v → Value.okWide Try.prog W .any base t v := hval0
  have hW' := hW
  obtain ⟨p, q, hA0, hV, rfl, hfz, hnd⟩ := hW
  have hA : DataW.TrodAll enc Try.prog W 0 (fun _ => true) true Try.f3.params.toList args.toList ds p := hA0
  rw [Try.params3] at hA hval
  obtain ⟨rfl, rfl, rfl⟩ := trodAll_none hA
  obtain ⟨rfl, rfl⟩ := trodVars_none hV
  clear hA0 hval0
  refine (LC_row (law_FnExactStartOfDigest) (by simp) (by simp [okL, okV, okL_bs]) (by simp [okL_bs]) (ρ := fun _ => (0, 0)) (xs := []) ?_ ?_).mono fun e W' ⟨he, bel⟩ => ?_
  · intro h b hb; simp at hb
  · simp only [relL]
  subst he
  exact ⟨_, rfl, _, _, _, [], _, [], hW', trodAll_mk1 (shut_bool Try.underlying4 _), trodAll_mk0, rfl, bel.frame _, fun h => by cases h⟩

theorem proved_FnExactStartOfDigest : Rows.FnExactStartOfDigestSaid :=
  OpenClaim.holds_of_wide 3 Try.f3 rfl rfl rfl rfl rfl rfl rfl ⟨rfl, rfl, rfl, rfl, rfl⟩ rfl rfl rfl rfl rfl (by kernel_rfl) Try.func3 (by kernel_rfl)
    (of_decide_eq_true (by kernel_rfl)) (by unfold Func.isWrapper; first | (rw [if_pos (by decide +kernel)]; kernel_rfl) | (rw [if_neg (by decide +kernel)]; exact ⟨rfl, rfl⟩))
    (fun os started H enc _ => lifted_FnExactStartOfDigest os started H enc)
end Go.Proofs.Ytigpggcjehnefaa

import Derived.Test.YtapagcnipdpfiaaRunBackLaw
import Derived.Test.YtapagcnipdpfiaaRows
import Derived.Test.YtapagcnipdpfiaaVcgR
/- The statement 'FnExactRunBack': whatever the arguments (for a slice or a string of more than 1048576 bytes the law's own first test returns), the law returns true, and the arguments read behind the call as they did before. -/
set_option linter.unusedSimpArgs false
set_option linter.unusedVariables false
namespace Go.Proofs.Ytapagcnipdpfiaa
open Go Go.Vc Go.ChangeShapes Go.WideShapes Go.ChangeAt Go.RowKit
set_option maxRecDepth 100000 in
theorem lifted_FnExactRunBack (os : Os) (started : os.Started) (H : Type) (enc : TypeId × Value → H) :
    ReturnsInHanded {} Try.checked os 3 .any (Rows.fnExactRunBackSpec.pre6 enc Try.prog Try.f3 Rows.fnExactRunBackRow.domain false) (Rows.fnExactRunBackSpec.post enc Try.prog Try.f3 false true false false) := by
  have own : ownKnob Try.prog.godebug = none := by kernel_rfl
  have laidOut : laidOutB Try.prog = true := by kernel_rfl
  refine returnsInHanded_of_change (C := Try.checked) own started (by kernel_rfl) Try.func3
    (ChangeSpec.witness6 (enc := enc) (C := Try.checked) false ⟨#[], #[.agg (#[.int .i64 0] ++ Array.replicate 272 (.int .u8 0) ++ #[.int .i64 0, .int .i64 0]), .slice none 0 0, .agg (Array.replicate 16 (.int .u8 0))], []⟩ 8 (by kernel_rfl) (by kernel_rfl) (by kernel_rfl) (by kernel_rfl)) ?_
  intro W base args ds gs before hval0 hW hcnd _
  have hval : ∀ (j : Nat) t v, Try.f3.params[j]? = some t → args[j]? = some v → Value.okWide Try.prog W .any base t v := hval0
  have hW' := hW
  obtain ⟨p, q, hA0, hV, rfl, hfz, hnd⟩ := hW
  have hA : DataW.TrodAll enc Try.prog W 0 (fun _ => true) true Try.f3.params.toList args.toList ds p := hA0
  rw [Try.params3] at hA hval
  obtain ⟨v0, vs0, d0, ds0, p0, q0, hargs, rfl, rfl, h0, r0⟩ := trodAll_cons hA
  obtain ⟨v1, vs1, d1, ds1, p1, q1, rfl, rfl, rfl, h1, r1⟩ := trodAll_cons r0
  obtain ⟨v2, vs2, d2, ds2, p2, q2, rfl, rfl, rfl, h2, r2⟩ := trodAll_cons r1
  obtain ⟨rfl, rfl, rfl⟩ := trodAll_nil r2
  obtain rfl : args = #[v0, v1, v2] := by cases args; simp_all
  obtain ⟨rfl, rfl⟩ := trodVars_none hV
  have k0 := h0
  have lt0 : ∀ x ∈ p0, x.block < W.heap.size := by obtain ⟨m, hm⟩ := k0; exact DataW.trod_lt m _ _ _ hm
  have k1 := h1
  have lt1 : ∀ x ∈ p1, x.block < W.heap.size := by obtain ⟨m, hm⟩ := k1; exact DataW.trod_lt m _ _ _ hm
  obtain ⟨ρ1, n1, c1, l1, e1, le1, mx1, rv1, cl1⟩ := open_arraysS Try.underlying27 Try.underlying86 Try.underlying5 (by kernel_rfl) (by kernel_rfl) (by omega) (hval 1 27 v1 rfl rfl) h1
  have k2 := h2
  have lt2 : ∀ x ∈ p2, x.block < W.heap.size := by obtain ⟨m, hm⟩ := k2; exact DataW.trod_lt m _ _ _ hm
  obtain ⟨l2, e2, rfl⟩ := open_bytesA Try.underlying28 Try.underlying5 (by kernel_rfl) (by kernel_rfl) (hval 2 28 v2 rfl rfl) h2
  obtain ⟨z0, bx0, mx0, kd0, n0, wz0, lb0, lm0, wk0, wn0, rfl⟩ := open_net Try.underlying26 rfl rfl rfl rfl rfl Try.underlying2 Try.underlying22 Try.underlying24 Try.underlying23 Try.underlying5 (by kernel_rfl) (by kernel_rfl) (by kernel_rfl) (by kernel_rfl) (by kernel_rfl) (by kernel_rfl) (hval 0 26 v0 rfl rfl) h0
  clear hA0 hval0
  have key := LC_row (w := W) (law_FnExactRunBack z0 wz0 bx0 lb0 mx0 lm0 kd0 wk0 n0 wn0 n1 c1 l1 e1 le1 mx1 l2 e2) (by simp) (by simp [okL, okV, okL_bs, okL_net]) (by simp [okL_bs]) (ρ := fun _ => ρ1) (xs := [.agg (.int .i64 z0 :: (bx0.map u8v ++ (mx0.map u8v ++ [.int .i64 kd0, .int .i64 n0]))).toArray, v1, .agg (l2.map u8v).toArray]) (by
    intro h b hb j v hv
    cases h with
    | zero => simp at hb; subst hb; exact cell_bs cl1 j v hv
    | succ h => simp at hb) (by
    simp only [relL]
    exact ⟨_, _, rfl, rel_net _ _ _ _ _, ⟨_, _, rfl, by unfold rel at rv1 ⊢; exact rv1, ⟨_, _, rfl, by unfold rel; exact ⟨_, rfl, rel_bs _, by simp [u8v, Value.oneCell']⟩, rfl⟩⟩⟩)
  refine key.mono fun e W' ⟨he, bel⟩ => ?_
  subst he
  exact ⟨_, rfl, _, _, _, [], _, [], hW', trodAll_mk1 (shut_bool Try.underlying4 _), (trodAll_cons_mk (Below.trod laidOut (by kernel_rfl) (of_decide_eq_true (by kernel_rfl)) k0 bel lt0) (trodAll_cons_mk (Below.trod laidOut (by kernel_rfl) (of_decide_eq_true (by kernel_rfl)) k1 bel lt1) (trodAll_cons_mk (Below.trod laidOut (by kernel_rfl) (of_decide_eq_true (by kernel_rfl)) k2 bel lt2) trodAll_mk0))), rfl, bel.frame _, fun h => by cases h⟩

theorem proved_FnExactRunBack : Rows.FnExactRunBackSaid :=
  OpenClaim.holds_of_wide 3 Try.f3 rfl rfl rfl rfl rfl rfl rfl ⟨rfl, rfl, rfl, rfl, rfl⟩ rfl rfl rfl rfl rfl (by kernel_rfl) Try.func3 (by kernel_rfl)
    (of_decide_eq_true (by kernel_rfl)) (by unfold Func.isWrapper; first | (rw [if_pos (by decide +kernel)]; kernel_rfl) | (rw [if_neg (by decide +kernel)]; exact ⟨rfl, rfl⟩))
    (fun os started H enc _ => lifted_FnExactRunBack os started H enc)
end Go.Proofs.Ytapagcnipdpfiaa

import Derived.Test.YtahnjhppkgndiaaGreatModD
/- Counting and feedback: the statements' functions. -/
set_option linter.unusedSimpArgs false
set_option linter.unusedVariables false
namespace Go.Proofs.YtahnjhppkgndiaaGreat
open Go Go.Vc
set_option maxRecDepth 10000
set_option maxHeartbeats 4000000
def noneS1 (e : Int) : Nat → V × List Blk := fun r => (.t [.s 1 0 ([] : List UInt8).length (([] : List UInt8).length + r), .c (.int .i64 (e))], [⟨true, bs [] ++ List.replicate r .j⟩])
theorem none_uni1 (e : Int) : ∀ _ : Unit, True → ∃ r : Nat, True ∧ nilV ((fun _ : Unit => (V.t [.c (.slice none 0 0), .c (.int .i64 (e))], ([] : List Blk))) ()).1 (noneS1 e r).1 ∧ ∃ ex, (noneS1 e r).2 = ((fun _ : Unit => (V.t [.c (.slice none 0 0), .c (.int .i64 (e))], ([] : List Blk))) ()).2 ++ ex ∧ ∀ b ∈ ex, b.cells = [] :=
  fun _ _ => ⟨0, trivial, by simp [noneS1, nilV, nilVs], _, by simp [noneS1, bs_nil]; rfl, by simp⟩
theorem modE_ok (c : Cip) {l : List UInt8} {a b : Nat} (h : a ≤ l.length ∧ l.length ≤ b) : modE c.m c.box c.A c.pl c.n l.length a b = 0 := by
  unfold modE; rw [c.is, if_pos rfl, if_neg (by omega)]
/-- What the code of a fault tells. -/
theorem modE_cases {z : Int} {box A pl : List UInt8} {n : Int} (hb : box.length = 256) (hA : A.length = 16) (hp : pl.length = 16) (l : List UInt8) (a b : Nat) : modE z box A pl n l.length a b ≠ 0 ∨ ((a ≤ l.length ∧ l.length ≤ b) ∧ ∃ c : Cip, z = c.m ∧ box = c.box ∧ A = c.A ∧ pl = c.pl ∧ n = c.n) := by
  unfold modE
  cases hB : cipB z box A pl n with
  | false => exact .inl (by simp)
  | true =>
    by_cases h : a ≤ l.length ∧ l.length ≤ b
    · exact .inr ⟨h, cip_of hb hA hp hB⟩
    · refine .inl ?_
      rw [if_pos rfl, if_pos (by omega)]; decide
theorem k_spec_code (c : Cip) {l : List UInt8} {a b : Nat} (h : a ≤ l.length ∧ l.length ≤ b) : LC Tryz.prog 130 [.a c.cells, .c (.int .i64 (l.length)), .c (.int .i64 (a)), .c (.int .i64 (b))] [] (fun v hp => v = .c (.int .i64 (0)) ∧ hp = []) := by
  have := c_spec_l07Code c.m c.n c.box c.A c.pl c.hb c.hA c.hp l.length a b
  rw [modE_ok c h] at this
  exact this
theorem k_impl_code (c : Cip) {l : List UInt8} {a b : Nat} (q : Nat) (h : a ≤ l.length ∧ l.length ≤ b) : LC Tryz.prog 127 [.a c.cells, .s 0 0 l.length q, .c (.int .i64 (a)), .c (.int .i64 (b))] [⟨false, bs l⟩] (fun v hp => v = .c (.int .i64 (0)) ∧ hp = [⟨false, bs l⟩]) := by
  have := c_impl_checkMode c.m c.n c.box c.A c.pl l q c.hb c.hA c.hp a b
  rw [modE_ok c h] at this
  exact this
end Go.Proofs.YtahnjhppkgndiaaGreat

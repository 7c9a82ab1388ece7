import Derived.Test.YtahnjhppkgndiaaGreatTk
/- The laws' own helpers over slices of numbers: comparison, marks. -/
set_option linter.unusedSimpArgs false
set_option linter.unusedVariables false
namespace Go.Proofs.YtahnjhppkgndiaaGreat
open Go Go.Vc
theorem take_nsv {A : List Int} {n : Nat} {X : List V} (h : n = A.length) : List.take n (nsv A ++ X) = nsv A := by
  subst h; rw [← nsv_length A, List.take_left]
theorem okL_nsvR (N : Nat) (L : List Int) (r : Nat) : okL N (nsv L ++ List.replicate r .j) := by simp [okL_app, okL_nsv, okL_rep, okV]
theorem instL_nsvR (sub : List (Nat × Nat)) (N : Nat) (L : List Int) (r : Nat) : V.instL sub N (nsv L ++ List.replicate r .j) = nsv L ++ List.replicate r .j := by
  rw [instL_app, instL_nsv]
  congr 1
  induction r with
  | zero => rfl
  | succ n ih => rw [List.replicate_succ, V.instL, ih]; rfl
theorem vPut_nsvR {L : List Int} {X : List V} {o : Nat} {n : Int} {k : List V → Prop} (ho : o < L.length) : vPut (nsv L ++ X) o [.c (.int .i64 n)] k = k (nsv (L.set o n) ++ X) := by
  have e : splice (nsv L ++ X) o [.c (.int .i64 n)] = nsv (L.set o n) ++ X := by
    unfold splice
    have h1 : o + 1 ≤ (nsv L).length := by rw [nsv_length]; omega
    simp only [List.length_singleton]
    rw [List.take_append_of_le_length (by omega), List.drop_append_of_le_length h1, ← List.append_assoc]
    congr 1
    unfold nsv
    rw [← List.map_take, ← List.map_drop, List.set_eq_take_append_cons_drop, if_pos ho]
    simp
  unfold vPut
  rw [e]
  apply propext
  constructor
  · exact fun h => h.2
  · exact fun h => ⟨by simp only [List.length_append, nsv_length, List.length_singleton]; omega, h⟩
theorem take_succ_eqQ {a b : List Int} {i : Nat} (ha : i < a.length) (hb : i < b.length) (h : a.take i = b.take i) (e : a.getD i 0 = b.getD i 0) : a.take (i + 1) = b.take (i + 1) := by
  rw [List.take_add_one, List.take_add_one, h]
  simp only [List.getD, List.getElem?_eq_getElem ha, List.getElem?_eq_getElem hb, Option.getD_some] at e ⊢
  rw [e]
set_option maxRecDepth 10000
/-- Marks from k on, as numbers. -/
def markQ (k n : Nat) : List Int := (List.range n).map fun i => ((k + i : Nat) : Int)
theorem markQ_len (k n : Nat) : (markQ k n).length = n := by simp [markQ]
theorem markQ_getD {k n i : Nat} (h : i < n) : (markQ k n).getD i 0 = ((k + i : Nat) : Int) := by simp [markQ, List.getD, h]
theorem markQ_step {l : List Int} {k i : Nat} (h : i < l.length) : (markQ k i ++ l.drop i).set i ((k + i : Nat) : Int) = markQ k (i + 1) ++ l.drop (i + 1) := by
  rw [List.drop_eq_getElem_cons h, List.set_append_right _ _ (by rw [markQ_len]; omega), markQ_len, Nat.sub_self, List.set_cons_zero]
  simp [markQ, List.range_succ]
end Go.Proofs.YtahnjhppkgndiaaGreat

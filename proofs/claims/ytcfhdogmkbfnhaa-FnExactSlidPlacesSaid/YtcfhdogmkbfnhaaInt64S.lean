import Derived.Test.YtcfhdogmkbfnhaaFieldM
/- The laws' own helpers over slices of numbers: comparison, marks. -/
set_option linter.unusedSimpArgs false
set_option linter.unusedVariables false
namespace Go.Proofs.Ytcfhdogmkbfnhaa
open Go Go.Vc
theorem take_nsv {A : List Int} {n : Nat} {X : List V} (h : n = A.length) : List.take n (nsv A ++ X) = nsv A := by
  subst h; rw [← nsv_length A, List.take_left]
theorem okL_nsvR (N : Nat) (L : List Int) (r : Nat) : okL N (nsv L ++ List.replicate r .j) := by simp [okL_app, okL_nsv, okL_rep, okV]
theorem instL_nsvR (sub : List (Nat × Nat)) (N : Nat) (L : List Int) (r : Nat) : V.instL sub N (nsv L ++ List.replicate r .j) = nsv L ++ List.replicate r .j := by
  rw [instL_app, instL_nsv]
  congr 1
  induction r with
  | zero => rfl
  | succ n ih => rw [List.replicate_succ, V.instL, ih]; rfl
theorem vPut_nsvR {L : List Int} {X : List V} {o : Nat} {n : Int} {k : List V → Prop} (ho : o < L.length) : vPut (nsv L ++ X) o [.c (.int .i64 n)] k = k (nsv (L.set o n) ++ X) := by
  have e : splice (nsv L ++ X) o [.c (.int .i64 n)] = nsv (L.set o n) ++ X := by
    unfold splice
    have h1 : o + 1 ≤ (nsv L).length := by rw [nsv_length]; omega
    simp only [List.length_singleton]
    rw [List.take_append_of_le_length (by omega), List.drop_append_of_le_length h1, ← List.append_assoc]
    congr 1
    unfold nsv
    rw [← List.map_take, ← List.map_drop, List.set_eq_take_append_cons_drop, if_pos ho]
    simp
  unfold vPut
  rw [e]
  apply propext
  constructor
  · exact fun h => h.2
  · exact fun h => ⟨by simp only [List.length_append, nsv_length, List.length_singleton]; omega, h⟩
theorem take_succ_eqQ {a b : List Int} {i : Nat} (ha : i < a.length) (hb : i < b.length) (h : a.take i = b.take i) (e : a.getD i 0 = b.getD i 0) : a.take (i + 1) = b.take (i + 1) := by
  rw [List.take_add_one, List.take_add_one, h]
  simp only [List.getD, List.getElem?_eq_getElem ha, List.getElem?_eq_getElem hb, Option.getD_some] at e ⊢
  rw [e]
set_option maxRecDepth 10000
theorem c_laws_eqInt64S (a b : List Int) (ca cb : Nat) (hca : a.length ≤ ca) (hcb : b.length ≤ cb) (hm : a.length ≤ 4194304) : LC Try.prog 79 [.s 0 0 a.length ca, .s 1 0 b.length cb] [⟨false, nsv a⟩, ⟨false, nsv b⟩] (fun v hp => v = .c (.bool (a == b)) ∧ hp = [⟨false, nsv a⟩, ⟨false, nsv b⟩]) := by
  refine LC_of (X := XX (fun | 6 => .one 0 (.one 1 (.one 2 (.one 3 (.one 4 (.one 5 (.one 6 (.one 7 (.one 8 .nil)))))))) | _ => .nil) (fun _ => []) [19, 20, 48, 49, 59, 72, 93, 112, 174] 2) envOK Try.func79 (by kernel_rfl) (by kernel_rfl) rfl (Nat.le_of_ble_eq_true (by kernel_rfl)) ?_
  simp only [kFun, Try.f79, List.length_nil, List.length_cons, Nat.sub_zero, Nat.reduceSub, Nat.reduceAdd, List.nil_append, List.cons_append, List.replicate_succ, List.replicate_zero]
  simp only [XX, ↓VC, VP, TT, List.getElem?_toArray, Nat.reduceEqDiff, reduceCtorEq, Nat.reduceAdd, Nat.reduceSub, Nat.reduceLT, Nat.reduceMul, Nat.reducePow, Nat.reduceLeDiff, Int.reduceToNat, Int.reduceLE, Int.reduceLT, Int.reducePow]
  refine ⟨fun h => ⟨_, _, [0, 1], ⟨rfl, rfl⟩, ?_⟩, fun h => ?_⟩
  · rw [bne_iff_ne] at h
    have : (a == b) = false := by rw [beq_eq_false_iff_ne]; intro e; exact h (by rw [e])
    rw [this]; simp [-List.reduceReplicate, LES]
  · have hab : b.length = a.length := by have := bne_eq_false_iff_eq.1 h; omega
    refine kLoop_of (fun i : Nat => ([.s 0 0 a.length ca, .s 1 0 b.length cb, .j, .j, .j, .c (.int .i64 (i : Nat)), .j, .j, .j, .j, .j, .j, .j, .j, .j, .j, .j, .j, .j, .j, .j, .j, .j, .j, .j, .j], [⟨false, nsv a⟩, ⟨false, nsv b⟩])) (fun i => a.length - i) (fun i => i ≤ a.length ∧ a.take i = b.take i) 0 (by simp) ⟨[0, 1], by simp [-List.reduceReplicate, LES]⟩ ?_
    rintro i ⟨hi, ht⟩
    simp only [↓VC, VP, TT, List.getElem?_toArray, Nat.reduceEqDiff, reduceCtorEq, Nat.reduceAdd, Nat.reduceSub, Nat.reduceLT, Nat.reduceMul, Nat.reducePow, Nat.reduceLeDiff, Int.reduceToNat, Int.reduceLE, Int.reduceLT, Int.reducePow, hab]
    refine ⟨fun h => ⟨by omega, by omega, by omega, by omega, fun hne => ⟨_, _, [0, 1], ⟨rfl, rfl⟩, ?_⟩, fun he => ⟨i + 1, ⟨by omega, take_succ_eqQ (by omega) (by omega) ht ?_⟩, by omega, [0, 1], ?_⟩⟩, fun h => ⟨_, _, [0, 1], ⟨rfl, rfl⟩, ?_⟩⟩
    · rw [bne_iff_ne] at hne
      have : (a == b) = false := by rw [beq_eq_false_iff_ne]; intro e; exact hne (by rw [e])
      rw [this]; simp [-List.reduceReplicate, LES]
    · exact bne_eq_false_iff_eq.1 he
    · rw [wrap_i64 (by omega) (by omega)]
      simp [-List.reduceReplicate, LES, hab]
    · obtain rfl : i = a.length := by omega
      rw [List.take_of_length_le (by omega), List.take_of_length_le (by omega)] at ht
      subst ht
      simp [-List.reduceReplicate, LES]
/-- Marks from k on, as numbers. -/
def markQ (k n : Nat) : List Int := (List.range n).map fun i => ((k + i : Nat) : Int)
theorem markQ_len (k n : Nat) : (markQ k n).length = n := by simp [markQ]
theorem markQ_getD {k n i : Nat} (h : i < n) : (markQ k n).getD i 0 = ((k + i : Nat) : Int) := by simp [markQ, List.getD, h]
theorem markQ_step {l : List Int} {k i : Nat} (h : i < l.length) : (markQ k i ++ l.drop i).set i ((k + i : Nat) : Int) = markQ k (i + 1) ++ l.drop (i + 1) := by
  rw [List.drop_eq_getElem_cons h, List.set_append_right _ _ (by rw [markQ_len]; omega), markQ_len, Nat.sub_self, List.set_cons_zero]
  simp [markQ, List.range_succ]
theorem c_laws_markInt64S (l : List Int) (c r k : Nat) (hc : l.length ≤ c) (hm : l.length ≤ 4194304) (hk : k ≤ 4294967296) : LC Try.prog 93 [.s 0 0 l.length c, .c (.int .i64 (k : Nat))] [⟨true, nsv l ++ List.replicate r .j⟩]
    (RetM (fun _ : Unit => True) fun _ => (.c (.int .i64 ((k + l.length : Nat) : Int)), [⟨true, nsv (markQ k l.length) ++ List.replicate r .j⟩], [])) := by
  refine LC_of (X := XX (fun _ => .nil) (fun _ => []) [19, 20, 48, 49, 59, 72, 93, 112, 174] 1) envOK Try.func93 (by kernel_rfl) (by kernel_rfl) rfl (Nat.le_of_ble_eq_true (by kernel_rfl)) ?_
  simp only [kFun, Try.f93, List.length_nil, List.length_cons, Nat.sub_zero, Nat.reduceSub, Nat.reduceAdd, List.nil_append, List.cons_append, List.replicate_succ, List.replicate_zero]
  simp only [XX, ↓VC, VP, TT, List.getElem?_toArray, Nat.reduceEqDiff, reduceCtorEq, Nat.reduceAdd, Nat.reduceSub, Nat.reduceLT, Nat.reduceMul, Nat.reducePow, Nat.reduceLeDiff, Int.reduceToNat, Int.reduceLE, Int.reduceLT, Int.reducePow]
  refine kLoop_of (fun i : Nat => ([.s 0 0 l.length c, .c (.int .i64 ((k + i : Nat))), .j, .j, .j, .c (.int .i64 (i)), .j, .j, .j, .j, .j, .j, .j, .j, .j, .j, .j, .j, .j], [⟨true, nsv (markQ k i ++ l.drop i) ++ List.replicate r .j⟩])) (fun i => l.length - i) (fun i => i ≤ l.length) 0 (by omega) ⟨[0], by simp [-List.reduceReplicate, LES, markQ]⟩ ?_
  intro i hi
  have hl : (markQ k i ++ l.drop i).length = l.length := by simp [markQ_len]; omega
  by_cases hlt : i < l.length
  · simp only [↓VC, VP, TT, List.getElem?_toArray, Nat.reduceEqDiff, reduceCtorEq, Nat.reduceAdd, Nat.reduceSub, Nat.reduceLT, Nat.reduceMul, Nat.reducePow, Nat.reduceLeDiff, Int.reduceToNat, Int.reduceLE, Int.reduceLT, Int.reducePow, hl, hlt, ↓vPut_nsvR]
    refine ⟨fun h => ⟨by omega, i + 1, by omega, by omega, [0], ?_⟩, fun h => absurd h (by omega)⟩
    rw [wrap_i64 (n := (i : Int) + 1) (by omega) (by omega), wrap_i64 (n := ((k + i : Nat) : Int) + 1) (by omega) (by omega), markQ_step hlt, show ((k + i : Nat) : Int) + 1 = ((k + (i + 1) : Nat) : Int) by omega]
    simp [-List.reduceReplicate, LES]
  · obtain rfl : i = l.length := by omega
    simp only [↓VC, VP, TT, List.getElem?_toArray, Nat.reduceEqDiff, reduceCtorEq, Nat.reduceAdd, Nat.reduceSub, Nat.reduceLT, Nat.reduceMul, Nat.reducePow, Nat.reduceLeDiff, Int.reduceToNat, Int.reduceLE, Int.reduceLT, Int.reducePow]
    refine ⟨fun h => absurd h (by omega), fun _ => ⟨_, _, [0], ⟨(), trivial, rfl, rfl⟩, ?_⟩⟩
    simp [-List.reduceReplicate, LES]
theorem c_laws_heldInt64S (n c k : Nat) (hc : n ≤ c) (hm : n ≤ 4194304) (hk : k ≤ 4294967296) : LC Try.prog 94 [.s 0 0 n c, .c (.int .i64 (k : Nat))] [⟨false, nsv (markQ k n)⟩]
    (fun v hp => v = .c (.int .i64 ((k + n : Nat) : Int)) ∧ hp = [⟨false, nsv (markQ k n)⟩]) := by
  refine LC_of (X := XX (fun _ => .nil) (fun _ => []) [19, 20, 48, 49, 59, 72, 93, 112, 174] 1) envOK Try.func94 (by kernel_rfl) (by kernel_rfl) rfl (Nat.le_of_ble_eq_true (by kernel_rfl)) ?_
  simp only [kFun, Try.f94, List.length_nil, List.length_cons, Nat.sub_zero, Nat.reduceSub, Nat.reduceAdd, List.nil_append, List.cons_append, List.replicate_succ, List.replicate_zero]
  simp only [XX, ↓VC, VP, TT, List.getElem?_toArray, Nat.reduceEqDiff, reduceCtorEq, Nat.reduceAdd, Nat.reduceSub, Nat.reduceLT, Nat.reduceMul, Nat.reducePow, Nat.reduceLeDiff, Int.reduceToNat, Int.reduceLE, Int.reduceLT, Int.reducePow]
  refine kLoop_of (fun i : Nat => ([.s 0 0 n c, .c (.int .i64 ((k + i : Nat))), .j, .j, .j, .c (.int .i64 (i)), .j, .j, .j, .j, .j, .j, .j, .j, .j, .j, .j, .j, .j, .j, .j], [⟨false, nsv (markQ k n)⟩])) (fun i => n - i) (fun i => i ≤ n) 0 (by omega) ⟨[0], by simp [-List.reduceReplicate, LES]⟩ ?_
  intro i hi
  simp only [↓VC, VP, TT, List.getElem?_toArray, Nat.reduceEqDiff, reduceCtorEq, Nat.reduceAdd, Nat.reduceSub, Nat.reduceLT, Nat.reduceMul, Nat.reducePow, Nat.reduceLeDiff, Int.reduceToNat, Int.reduceLE, Int.reduceLT, Int.reducePow, markQ_len]
  refine ⟨fun h => ⟨by omega, by omega, fun hne => ?_, fun he => ⟨i + 1, by omega, by omega, [0], ?_⟩⟩, fun _ => ⟨_, _, [0], ⟨rfl, rfl⟩, ?_⟩⟩
  · rw [markQ_getD (by omega)] at hne
    simp at hne
  · rw [wrap_i64 (n := (i : Int) + 1) (by omega) (by omega), wrap_i64 (n := ((k + i : Nat) : Int) + 1) (by omega) (by omega), show ((k + i : Nat) : Int) + 1 = ((k + (i + 1) : Nat) : Int) by omega]
    simp [-List.reduceReplicate, LES]
  · obtain rfl : i = n := by omega
    simp [-List.reduceReplicate, LES]
end Go.Proofs.Ytcfhdogmkbfnhaa

import Derived.Test.YtpapocmoielldaaEnv
/- The laws' own helpers over slices of bytes: copies, comparison, marks. -/
set_option linter.unusedSimpArgs false
set_option linter.unusedVariables false
namespace Go.Proofs.Ytpapocmoielldaa
open Go Go.Vc
theorem vGet_roomB {L : List UInt8} {X : List V} {i : Nat} {k : V → Prop} (h : i < L.length) : vGet (bs L ++ X) i k = k (.c (.int .u8 ((L.getD i 0).toNat : Int))) := by
  unfold vGet
  have h1 : i < (bs L).length := by rw [bs_length]; exact h
  rw [show (bs L ++ X).getD i .j = (bs L).getD i .j by simp only [List.getD, List.getElem?_append_left h1], bs_getD h]
  apply propext
  simp only [List.length_append, bs_length]
  exact ⟨fun h => h.2, fun h2 => ⟨by omega, h2⟩⟩
theorem vPut_room {L : List UInt8} {X : List V} {o : Nat} {n : Int} {k : List V → Prop} (ho : o < L.length) (hn : inU8 n) : vPut (bs L ++ X) o [.c (.int .u8 n)] k = k (bs (L.set o (UInt8.ofInt n)) ++ X) := by
  have e : splice (bs L ++ X) o [.c (.int .u8 n)] = splice (bs L) o [.c (.int .u8 n)] ++ X := by
    unfold splice
    have h1 : o + 1 ≤ (bs L).length := by rw [bs_length]; omega
    simp only [List.length_singleton]
    rw [List.take_append_of_le_length (by omega), List.drop_append_of_le_length h1, List.append_assoc, List.append_assoc, List.append_assoc]
  have e2 := vPut_bs (l := L) (o := o) (k := fun c => k (c ++ X)) hn
  unfold vPut at e2 ⊢
  rw [e]
  simp only [bs_length, List.length_append, List.length_singleton] at e2 ⊢
  apply propext
  constructor
  · rintro ⟨_, h⟩; exact (e2.mp ⟨by omega, h⟩).2
  · intro h; exact ⟨by omega, (e2.mpr ⟨ho, h⟩).2⟩
theorem fill_stepB {a : List UInt8} {i n : Nat} (h : i < n) (ha : i < a.length) : (a.take i ++ List.replicate (n - i) 0).set i (a.getD i 0) = a.take (i + 1) ++ List.replicate (n - (i + 1)) 0 := by
  have e : a.take (i + 1) = a.take i ++ [a.getD i 0] := by
    rw [List.take_add_one, List.getElem?_eq_getElem ha]
    simp only [Option.toList, List.getD, List.getElem?_eq_getElem ha, Option.getD_some]
  rw [show n - i = (n - (i + 1)) + 1 by omega, List.replicate_succ, List.set_append_right _ _ (by rw [List.length_take]; omega), List.length_take, Nat.min_eq_left (Nat.le_of_lt ha), Nat.sub_self, List.set_cons_zero, e, List.append_assoc]
  rfl
theorem take_succ_eqB {a b : List UInt8} {i : Nat} (ha : i < a.length) (hb : i < b.length) (h : a.take i = b.take i) (e : a.getD i 0 = b.getD i 0) : a.take (i + 1) = b.take (i + 1) := by
  rw [List.take_add_one, List.take_add_one, h]
  simp only [List.getD, List.getElem?_eq_getElem ha, List.getElem?_eq_getElem hb, Option.getD_some] at e ⊢
  rw [e]
set_option maxRecDepth 10000
theorem c_laws_toByteS (l : List UInt8) (c : Nat) (hc : l.length ≤ c) (hm : l.length ≤ 4194304) : LC Try.prog 16 [.s 0 0 l.length c] [⟨false, bs l⟩] (Ret [⟨false, bs l⟩] (fun _ : Unit => True) fun _ => (.s 1 0 l.length l.length, [⟨true, bs l⟩])) := by
  refine LC_of (X := XX (fun _ => .nil) (fun _ => []) [19, 36, 117] 1) envOK Try.func16 (by kernel_rfl) (by kernel_rfl) rfl (Nat.le_of_ble_eq_true (by kernel_rfl)) ?_
  simp only [kFun, Try.f16, List.length_nil, List.length_cons, Nat.sub_zero, Nat.reduceSub, Nat.reduceAdd, List.nil_append, List.cons_append, List.replicate_succ, List.replicate_zero]
  simp only [XX, ↓VC, VP, TT, List.getElem?_toArray, Nat.reduceEqDiff, reduceCtorEq, Nat.reduceAdd, Nat.reduceSub, Nat.reduceLT, Nat.reduceMul, Nat.reducePow, Nat.reduceLeDiff, Int.reduceToNat, Int.reduceLE, Int.reduceLT, Int.reducePow, flat_zeros]
  refine ⟨by omega, by omega, by omega, ?_⟩
  refine kLoop_of (fun i : Nat => ([.s 0 0 l.length c, .j, .j, .s 1 0 l.length l.length, .c (.int .i64 (i : Nat)), .j, .j, .j, .j, .j, .j, .j, .j, .j, .j, .j, .j, .j, .j, .j, .j, .j], [⟨false, bs l⟩, ⟨true, bs (l.take i ++ List.replicate (l.length - i) 0)⟩])) (fun i => l.length - i) (fun i => i ≤ l.length) 0 (by omega) ⟨[0, 1], by simp [-List.reduceReplicate, LES]⟩ ?_
  intro i hi
  have hl : (l.take i ++ List.replicate (l.length - i) 0).length = l.length := by simp; omega
  simp only [↓VC, VP, TT, List.getElem?_toArray, Nat.reduceEqDiff, reduceCtorEq, Nat.reduceAdd, Nat.reduceSub, Nat.reduceLT, Nat.reduceMul, Nat.reducePow, Nat.reduceLeDiff, Int.reduceToNat, Int.reduceLE, Int.reduceLT, Int.reducePow, hl]
  refine ⟨fun h => ⟨by omega, by omega, by omega, by omega, i + 1, by omega, by omega, [0, 1], ?_⟩, fun h => ⟨_, _, [0, 1], ⟨(), trivial, rfl, rfl⟩, ?_⟩⟩
  · rw [wrap_i64 (by omega) (by omega), fill_stepB (by omega) (by omega)]
    simp [-List.reduceReplicate, LES]
  · obtain rfl : i = l.length := by omega
    simp [-List.reduceReplicate, LES]
theorem c_laws_eqByteS (a b : List UInt8) (ca cb : Nat) (hca : a.length ≤ ca) (hcb : b.length ≤ cb) (hm : a.length ≤ 4194304) : LC Try.prog 18 [.s 0 0 a.length ca, .s 1 0 b.length cb] [⟨false, bs a⟩, ⟨false, bs b⟩] (fun v hp => v = .c (.bool (a == b)) ∧ hp = [⟨false, bs a⟩, ⟨false, bs b⟩]) := by
  refine LC_of (X := XX (fun | 6 => .one 0 (.one 1 (.one 2 (.one 3 (.one 4 (.one 5 (.one 6 (.one 7 (.one 8 .nil)))))))) | _ => .nil) (fun _ => []) [19, 36, 117] 2) envOK Try.func18 (by kernel_rfl) (by kernel_rfl) rfl (Nat.le_of_ble_eq_true (by kernel_rfl)) ?_
  simp only [kFun, Try.f18, List.length_nil, List.length_cons, Nat.sub_zero, Nat.reduceSub, Nat.reduceAdd, List.nil_append, List.cons_append, List.replicate_succ, List.replicate_zero]
  simp only [XX, ↓VC, VP, TT, List.getElem?_toArray, Nat.reduceEqDiff, reduceCtorEq, Nat.reduceAdd, Nat.reduceSub, Nat.reduceLT, Nat.reduceMul, Nat.reducePow, Nat.reduceLeDiff, Int.reduceToNat, Int.reduceLE, Int.reduceLT, Int.reducePow]
  refine ⟨fun h => ⟨_, _, [0, 1], ⟨rfl, rfl⟩, ?_⟩, fun h => ?_⟩
  · rw [bne_iff_ne] at h
    have : (a == b) = false := by rw [beq_eq_false_iff_ne]; intro e; exact h (by rw [e])
    rw [this]; simp [-List.reduceReplicate, LES]
  · have hab : b.length = a.length := by have := bne_eq_false_iff_eq.1 h; omega
    refine kLoop_of (fun i : Nat => ([.s 0 0 a.length ca, .s 1 0 b.length cb, .j, .j, .j, .c (.int .i64 (i : Nat)), .j, .j, .j, .j, .j, .j, .j, .j, .j, .j, .j, .j, .j, .j, .j, .j, .j, .j, .j, .j], [⟨false, bs a⟩, ⟨false, bs b⟩])) (fun i => a.length - i) (fun i => i ≤ a.length ∧ a.take i = b.take i) 0 (by simp) ⟨[0, 1], by simp [-List.reduceReplicate, LES]⟩ ?_
    rintro i ⟨hi, ht⟩
    simp only [↓VC, VP, TT, List.getElem?_toArray, Nat.reduceEqDiff, reduceCtorEq, Nat.reduceAdd, Nat.reduceSub, Nat.reduceLT, Nat.reduceMul, Nat.reducePow, Nat.reduceLeDiff, Int.reduceToNat, Int.reduceLE, Int.reduceLT, Int.reducePow, hab]
    refine ⟨fun h => ⟨by omega, by omega, by omega, by omega, fun hne => ⟨_, _, [0, 1], ⟨rfl, rfl⟩, ?_⟩, fun he => ⟨i + 1, ⟨by omega, take_succ_eqB (by omega) (by omega) ht ?_⟩, by omega, [0, 1], ?_⟩⟩, fun h => ⟨_, _, [0, 1], ⟨rfl, rfl⟩, ?_⟩⟩
    · rw [bne_iff_ne] at hne
      have : (a == b) = false := by rw [beq_eq_false_iff_ne]; intro e; exact hne (by rw [e])
      rw [this]; simp [-List.reduceReplicate, LES]
    · exact UInt8.toNat_inj.1 (by have := bne_eq_false_iff_eq.1 he; omega)
    · rw [wrap_i64 (by omega) (by omega)]
      simp [-List.reduceReplicate, LES, hab]
    · obtain rfl : i = a.length := by omega
      rw [List.take_of_length_le (by omega), List.take_of_length_le (by omega)] at ht
      subst ht
      simp [-List.reduceReplicate, LES]
/-- Marks from k on. -/
def markL (k n : Nat) : List UInt8 := (List.range n).map fun i => UInt8.ofInt ((k + i : Nat) : Int)
theorem markL_len (k n : Nat) : (markL k n).length = n := by simp [markL]
theorem markL_getD {k n i : Nat} (h : i < n) : (markL k n).getD i 0 = UInt8.ofInt ((k + i : Nat) : Int) := by simp [markL, List.getD, h]
theorem mark_step {l : List UInt8} {k i : Nat} (h : i < l.length) : (markL k i ++ l.drop i).set i (UInt8.ofInt ((k + i : Nat) : Int)) = markL k (i + 1) ++ l.drop (i + 1) := by
  rw [List.drop_eq_getElem_cons h, List.set_append_right _ _ (by rw [markL_len]; omega), markL_len, Nat.sub_self, List.set_cons_zero]
  simp [markL, List.range_succ]
theorem c_laws_markByteS (l : List UInt8) (c r k : Nat) (hc : l.length ≤ c) (hm : l.length ≤ 4194304) (hk : k ≤ 4294967296) : LC Try.prog 19 [.s 0 0 l.length c, .c (.int .i64 (k : Nat))] [⟨true, bs l ++ List.replicate r .j⟩]
    (RetM (fun _ : Unit => True) fun _ => (.c (.int .i64 ((k + l.length : Nat) : Int)), [⟨true, bs (markL k l.length) ++ List.replicate r .j⟩], [])) := by
  refine LC_of (X := XX (fun _ => .nil) (fun _ => []) [19, 36, 117] 1) envOK Try.func19 (by kernel_rfl) (by kernel_rfl) rfl (Nat.le_of_ble_eq_true (by kernel_rfl)) ?_
  simp only [kFun, Try.f19, List.length_nil, List.length_cons, Nat.sub_zero, Nat.reduceSub, Nat.reduceAdd, List.nil_append, List.cons_append, List.replicate_succ, List.replicate_zero]
  simp only [XX, ↓VC, VP, TT, List.getElem?_toArray, Nat.reduceEqDiff, reduceCtorEq, Nat.reduceAdd, Nat.reduceSub, Nat.reduceLT, Nat.reduceMul, Nat.reducePow, Nat.reduceLeDiff, Int.reduceToNat, Int.reduceLE, Int.reduceLT, Int.reducePow]
  refine kLoop_of (fun i : Nat => ([.s 0 0 l.length c, .c (.int .i64 ((k + i : Nat) : Int)), .j, .j, .j, .c (.int .i64 (i : Nat)), .j, .j, .j, .j, .j, .j, .j, .j, .j, .j, .j, .j, .j, .j], [⟨true, bs (markL k i ++ l.drop i) ++ List.replicate r .j⟩])) (fun i => l.length - i) (fun i => i ≤ l.length) 0 (by omega) ⟨[0], by simp [-List.reduceReplicate, LES, markL]⟩ ?_
  intro i hi
  have hl : (markL k i ++ l.drop i).length = l.length := by simp [markL_len]; omega
  by_cases hlt : i < l.length
  · simp only [↓VC, VP, TT, List.getElem?_toArray, Nat.reduceEqDiff, reduceCtorEq, Nat.reduceAdd, Nat.reduceSub, Nat.reduceLT, Nat.reduceMul, Nat.reducePow, Nat.reduceLeDiff, Int.reduceToNat, Int.reduceLE, Int.reduceLT, Int.reducePow, hl, hlt, ↓vPut_room]
    refine ⟨fun h => ⟨by omega, i + 1, by omega, by omega, [0], ?_⟩, fun h => absurd h (by omega)⟩
    rw [wrap_i64 (n := (i : Int) + 1) (by omega) (by omega), wrap_i64 (n := ((k + i : Nat) : Int) + 1) (by omega) (by omega), mark_step hlt, show ((k + i : Nat) : Int) + 1 = ((k + (i + 1) : Nat) : Int) by omega]
    simp [-List.reduceReplicate, LES]
  · obtain rfl : i = l.length := by omega
    simp only [↓VC, VP, TT, List.getElem?_toArray, Nat.reduceEqDiff, reduceCtorEq, Nat.reduceAdd, Nat.reduceSub, Nat.reduceLT, Nat.reduceMul, Nat.reducePow, Nat.reduceLeDiff, Int.reduceToNat, Int.reduceLE, Int.reduceLT, Int.reducePow]
    refine ⟨fun h => absurd h (by omega), fun _ => ⟨_, _, [0], ⟨(), trivial, rfl, rfl⟩, ?_⟩⟩
    simp [-List.reduceReplicate, LES]
theorem c_laws_markByteS_nil (c k : Nat) (hk : k ≤ 4294967296) : LC Try.prog 19 [.s 0 0 0 c, .c (.int .i64 (k : Nat))] [⟨false, []⟩]
    (RetM (fun _ : Unit => True) fun _ => (.c (.int .i64 (k : Nat)), [⟨false, []⟩], [])) := by
  refine LC_of (X := XX (fun _ => .nil) (fun _ => []) [19, 36, 117] 1) envOK Try.func19 (by kernel_rfl) (by kernel_rfl) rfl (Nat.le_of_ble_eq_true (by kernel_rfl)) ?_
  simp only [kFun, Try.f19, List.length_nil, List.length_cons, Nat.sub_zero, Nat.reduceSub, Nat.reduceAdd, List.nil_append, List.cons_append, List.replicate_succ, List.replicate_zero]
  simp only [XX, ↓VC, VP, TT, List.getElem?_toArray, Nat.reduceEqDiff, reduceCtorEq, Nat.reduceAdd, Nat.reduceSub, Nat.reduceLT, Nat.reduceMul, Nat.reducePow, Nat.reduceLeDiff, Int.reduceToNat, Int.reduceLE, Int.reduceLT, Int.reducePow]
  refine kLoop_of (fun i : Unit => ([.s 0 0 0 c, .c (.int .i64 (k : Nat)), .j, .j, .j, .c (.int .i64 0), .j, .j, .j, .j, .j, .j, .j, .j, .j, .j, .j, .j, .j, .j], [⟨false, []⟩])) (fun i => 0) (fun i => True) () trivial ⟨[0], by simp [-List.reduceReplicate, LES]⟩ ?_
  intro i _
  simp only [↓VC, VP, TT, List.getElem?_toArray, Nat.reduceEqDiff, reduceCtorEq, Nat.reduceAdd, Nat.reduceSub, Nat.reduceLT, Nat.reduceMul, Nat.reducePow, Nat.reduceLeDiff, Int.reduceToNat, Int.reduceLE, Int.reduceLT, Int.reducePow]
  refine ⟨fun h => absurd h (by simp), fun _ => ⟨_, _, [0], ⟨(), trivial, rfl, rfl⟩, ?_⟩⟩
  simp [-List.reduceReplicate, LES]
theorem c_laws_heldByteS (n c k : Nat) (hc : n ≤ c) (hm : n ≤ 4194304) (hk : k ≤ 4294967296) : LC Try.prog 20 [.s 0 0 n c, .c (.int .i64 (k : Nat))] [⟨false, bs (markL k n)⟩]
    (fun v hp => v = .c (.int .i64 ((k + n : Nat) : Int)) ∧ hp = [⟨false, bs (markL k n)⟩]) := by
  refine LC_of (X := XX (fun _ => .nil) (fun _ => []) [19, 36, 117] 1) envOK Try.func20 (by kernel_rfl) (by kernel_rfl) rfl (Nat.le_of_ble_eq_true (by kernel_rfl)) ?_
  simp only [kFun, Try.f20, List.length_nil, List.length_cons, Nat.sub_zero, Nat.reduceSub, Nat.reduceAdd, List.nil_append, List.cons_append, List.replicate_succ, List.replicate_zero]
  simp only [XX, ↓VC, VP, TT, List.getElem?_toArray, Nat.reduceEqDiff, reduceCtorEq, Nat.reduceAdd, Nat.reduceSub, Nat.reduceLT, Nat.reduceMul, Nat.reducePow, Nat.reduceLeDiff, Int.reduceToNat, Int.reduceLE, Int.reduceLT, Int.reducePow]
  refine kLoop_of (fun i : Nat => ([.s 0 0 n c, .c (.int .i64 ((k + i : Nat) : Int)), .j, .j, .j, .c (.int .i64 (i : Nat)), .j, .j, .j, .j, .j, .j, .j, .j, .j, .j, .j, .j, .j, .j, .j, .j], [⟨false, bs (markL k n)⟩])) (fun i => n - i) (fun i => i ≤ n) 0 (by omega) ⟨[0], by simp [-List.reduceReplicate, LES]⟩ ?_
  intro i hi
  simp only [↓VC, VP, TT, List.getElem?_toArray, Nat.reduceEqDiff, reduceCtorEq, Nat.reduceAdd, Nat.reduceSub, Nat.reduceLT, Nat.reduceMul, Nat.reducePow, Nat.reduceLeDiff, Int.reduceToNat, Int.reduceLE, Int.reduceLT, Int.reducePow, markL_len]
  refine ⟨fun h => ⟨by omega, by omega, fun hne => ?_, fun he => ⟨i + 1, by omega, by omega, [0], ?_⟩⟩, fun _ => ⟨_, _, [0], ⟨rfl, rfl⟩, ?_⟩⟩
  · rw [markL_getD (by omega), wrap_u8] at hne
    simp at hne
  · rw [wrap_i64 (n := (i : Int) + 1) (by omega) (by omega), wrap_i64 (n := ((k + i : Nat) : Int) + 1) (by omega) (by omega), show ((k + i : Nat) : Int) + 1 = ((k + (i + 1) : Nat) : Int) by omega]
    simp [-List.reduceReplicate, LES]
  · obtain rfl : i = n := by omega
    simp [-List.reduceReplicate, LES]
end Go.Proofs.Ytpapocmoielldaa

import Derived.Test.YtcfhdogmkbfnhaaBlob
import Derived.Test.YtcfhdogmkbfnhaaInt64S
import Derived.Test.YtcfhdogmkbfnhaaRoot
import Derived.Test.YtcfhdogmkbfnhaaDigS
/- The laws' own helpers over stores of blobs; the two functions over stores. -/
set_option linter.unusedSimpArgs false
set_option linter.unusedVariables false
namespace Go.Proofs.Ytcfhdogmkbfnhaa
open Go Go.Vc
set_option maxRecDepth 10000
set_option maxHeartbeats 4000000
theorem fill_stepQ {a : List Int} {i n : Nat} (h : i < n) (ha : i < a.length) : (a.take i ++ List.replicate (n - i) 0).set i (a.getD i 0) = a.take (i + 1) ++ List.replicate (n - (i + 1)) 0 := by
  have e : List.replicate (n - i) (0 : Int) = 0 :: List.replicate (n - (i + 1)) 0 := by rw [show n - i = (n - (i + 1)) + 1 by omega, List.replicate_succ]
  have e2 : a.take (i + 1) = a.take i ++ [a.getD i 0] := by rw [List.take_add_one, List.getElem?_eq_getElem ha]; simp [List.getD, ha]
  rw [e, List.set_append_right _ _ (by rw [List.length_take]; omega), List.length_take, Nat.min_eq_left (by omega), Nat.sub_self, List.set_cons_zero, e2, List.append_assoc]
  rfl
theorem vGet_nsvI {L : List Int} {i : Nat} {k : V → Prop} (h : i < L.length) : vGet (nsv L) i k = k (.c (.int .i64 (L.getD i 0))) := by
  have := vGet_bsR (X := []) (k := k) h
  rwa [List.append_nil] at this
theorem vPut_nsvI {L : List Int} {o : Nat} {n : Int} {k : List V → Prop} (ho : o < L.length) : vPut (nsv L) o [.c (.int .i64 n)] k = k (nsv (L.set o n)) := by
  have := vPut_nsvR (X := []) (n := n) (k := k) ho
  rwa [List.append_nil, List.append_nil] at this
theorem flat_z (n : Nat) : (List.replicate n [V.c (.int .i64 0)]).flatten = nsv (List.replicate n 0) := by
  induction n with
  | zero => rfl
  | succ n ih => rw [List.replicate_succ, List.flatten_cons, ih, List.replicate_succ]; rfl
theorem c_laws_szInt64S (n c m : Nat) (Q : List Int) (hl : Q.length = n) (hm : n ≤ maxLen) (h20 : m ≤ 1048576) : LC Try.prog 74 [.s 0 0 n c, .c (.int .i64 (m))] [⟨false, nsv Q⟩] (fun v hp => v = .c (.int .i64 ((if n ≤ m then (m : Int) - n else -1))) ∧ hp = [⟨false, nsv Q⟩]) := by
  refine LC_of (X := XX (fun _ => .nil) (fun _ => []) [19, 20, 48, 49, 59, 72, 93, 112, 174] 1) envOK Try.func74 (by kernel_rfl) (by kernel_rfl) rfl (Nat.le_of_ble_eq_true (by kernel_rfl)) ?_
  simp only [kFun, Try.f74, List.length_nil, List.length_cons, Nat.sub_zero, Nat.reduceSub, Nat.reduceAdd, List.nil_append, List.cons_append, List.replicate_succ, List.replicate_zero]
  simp only [XX, ↓VC, VP, TT, List.getElem?_toArray, Nat.reduceEqDiff, reduceCtorEq, Nat.reduceAdd, Nat.reduceSub, Nat.reduceLT, Nat.reduceMul, Nat.reducePow, Nat.reduceLeDiff, Int.reduceToNat, Int.reduceLE, Int.reduceLT, Int.reducePow]
  unfold maxLen at hm
  rw [wrap_i64 (by omega) (by omega)]
  refine ⟨fun h => ?_, fun h => ?_⟩
  · rw [if_neg (by omega)]
    refine ⟨_, _, [0], ⟨rfl, rfl⟩, ?_⟩
    simp [-List.reduceReplicate, LES]
  · rw [if_pos (by omega)]
    refine ⟨_, _, [0], ⟨rfl, rfl⟩, ?_⟩
    simp [-List.reduceReplicate, LES]
theorem c_laws_toInt64S (Q : List Int) (c : Nat) (hc : Q.length ≤ c) (hm : Q.length ≤ 4194304) : LC Try.prog 76 [.s 0 0 Q.length c] [⟨false, nsv Q⟩] (Ret [⟨false, nsv Q⟩] (fun _ : Unit => True) fun _ => (.s 1 0 Q.length Q.length, [⟨true, nsv Q⟩])) := by
  refine LC_of (X := XX (fun _ => .nil) (fun _ => []) [19, 20, 48, 49, 59, 72, 93, 112, 174] 1) envOK Try.func76 (by kernel_rfl) (by kernel_rfl) rfl (Nat.le_of_ble_eq_true (by kernel_rfl)) ?_
  simp only [kFun, Try.f76, List.length_nil, List.length_cons, Nat.sub_zero, Nat.reduceSub, Nat.reduceAdd, List.nil_append, List.cons_append, List.replicate_succ, List.replicate_zero]
  simp only [XX, ↓VC, VP, TT, List.getElem?_toArray, Nat.reduceEqDiff, reduceCtorEq, Nat.reduceAdd, Nat.reduceSub, Nat.reduceLT, Nat.reduceMul, Nat.reducePow, Nat.reduceLeDiff, Int.reduceToNat, Int.reduceLE, Int.reduceLT, Int.reducePow, flat_z]
  refine ⟨by omega, by omega, by omega, ?_⟩
  refine kLoop_of (fun i : Nat => ([.s 0 0 Q.length c, .j, .j, .s 1 0 Q.length Q.length, .c (.int .i64 (i)), .j, .j, .j, .j, .j, .j, .j, .j, .j, .j, .j, .j, .j, .j, .j, .j, .j], [⟨false, nsv Q⟩, ⟨true, nsv (Q.take i ++ List.replicate (Q.length - i) 0)⟩])) (fun i => Q.length - i) (fun i => i ≤ Q.length) 0 (by omega) ⟨[0, 1], by simp [-List.reduceReplicate, LES]⟩ ?_
  intro i hi
  rcases Nat.lt_or_ge i Q.length with h | h
  · simp only [↓VC, VP, TT, List.getElem?_toArray, Nat.reduceEqDiff, reduceCtorEq, Nat.reduceAdd, Nat.reduceSub, Nat.reduceLT, Nat.reduceMul, Nat.reducePow, Nat.reduceLeDiff, Int.reduceToNat, Int.reduceLE, Int.reduceLT, Int.reducePow, h, (eq_true (by omega) : ((i : Int) < Q.length) = True), (eq_true (by omega) : ((i : Int) < ((Q.length : Nat) : Int)) = True), wrap_i64 (n := (i : Int) + 1) (by omega) (by omega), decide_true, ↓vGet_nsvI h, ↓vPut_nsvI (show i < (Q.take i ++ List.replicate (Q.length - i) 0).length by rw [List.length_append, List.length_take, List.length_replicate]; omega), fill_stepQ h h, h, if_true]
    refine ⟨i + 1, by omega, by omega, [0, 1], ?_⟩
    simp [-List.reduceReplicate, LES]
  · obtain rfl : i = Q.length := by omega
    simp only [↓VC, VP, TT, List.getElem?_toArray, Nat.reduceEqDiff, reduceCtorEq, Nat.reduceAdd, Nat.reduceSub, Nat.reduceLT, Nat.reduceMul, Nat.reducePow, Nat.reduceLeDiff, Int.reduceToNat, Int.reduceLE, Int.reduceLT, Int.reducePow, (eq_false (by omega) : (((Q.length : Nat) : Int) < Q.length) = False), decide_false, Nat.sub_self, List.replicate_zero, List.append_nil, List.take_length]
    refine ⟨_, _, [0, 1], ⟨(), trivial, rfl, rfl⟩, ?_⟩
    simp [-List.reduceReplicate, LES]
section
variable {H : List Blk} {n c0 c1 c2 g0 g1 g2 b : Nat} {K : List UInt8} {D : List (List UInt8 × Nat)} {Q : List Int}
theorem c_laws_szBlobs (hst : stM H) (hK : K.length = 32 * n) (hc0 : n ≤ c0) (m0 : c0 ≤ maxLen) (hc1 : D.length ≤ c1) (m1 : c1 ≤ maxLen) (hL : ∀ p ∈ D, p.1.length ≤ maxLen) (hc2 : Q.length ≤ c2) (m2 : c2 ≤ maxLen) (f0 : bAt H g0 (bs K)) (f1 : nAt H g1 b (bPs D)) (f2 : bAt H g2 (nsv Q)) :
    LC Try.prog 26 [.a [.s g0 0 n c0, .s g1 0 D.length c1, .s g2 0 Q.length c2], .c (.int .i64 (1048576))] H (Ret H (fun z : Int => 0 ≤ z → n ≤ 1048576 ∧ D.length + sumD D ≤ 1048576 ∧ Q.length ≤ 1048576) fun z => (.c (.int .i64 (z)), [])) := by
  have fin : ∀ {hp : List Blk} {z : Int}, (0 ≤ z → n ≤ 1048576 ∧ D.length + sumD D ≤ 1048576 ∧ Q.length ≤ 1048576) → Ext H hp → ∃ (v' : V) (hp' : List Blk) (σ : List Nat), (∃ x : Int, (0 ≤ x → n ≤ 1048576 ∧ D.length + sumD D ≤ 1048576 ∧ Q.length ≤ 1048576) ∧ v' = .c (.int .i64 (x)) ∧ hp' = H ++ []) ∧ LeS H.length σ [.c (.int .i64 (z))] hp [v'] hp' := fun {_ z} hz x => ⟨_, _, List.range H.length, ⟨z, hz, rfl, (List.append_nil H).symm⟩, LeS_mem rfl x (by simp [leT]) (by simp [stL, stV]) hst⟩
  refine LC_of (X := XX (fun _ => .nil) (fun _ => []) [19, 20, 48, 49, 59, 72, 93, 112, 174] (H.length)) envOK Try.func26 (by kernel_rfl) (by kernel_rfl) (by simp [XX]) (Nat.le_of_ble_eq_true (by kernel_rfl)) ?_
  simp only [kFun, Try.f26, List.length_nil, List.length_cons, Nat.sub_zero, Nat.reduceSub, Nat.reduceAdd, List.nil_append, List.cons_append, List.replicate_succ, List.replicate_zero]
  simp only [XX, ↓VC, VP, TT, List.getElem?_toArray, Nat.reduceEqDiff, reduceCtorEq, Nat.reduceAdd, Nat.reduceSub, Nat.reduceLT, Nat.reduceMul, Nat.reducePow, Nat.reduceLeDiff, Int.reduceToNat, Int.reduceLE, Int.reduceLT, Int.reducePow, ↓app_last]
  have hPn := bPs_length D
  have x1 : ∀ x, Ext H (H ++ [x]) := fun x => ⟨_, rfl⟩
  refine kCall_val (c_laws_szDigestS n c0 1048576 K hK hc0 (by omega) (by omega)) (by rfl) [(g0, 0)] (by simp [CALL]) (seg_bAt (f0.mono (x1 _)) (instL_bs _ _ _) trivial) (by simp [okL, okV]) (by simp [okL_bs]) ?_
  simp only [CALL, ↓VC, VP, TT, List.getElem?_toArray, Nat.reduceEqDiff, reduceCtorEq, Nat.reduceAdd, Nat.reduceSub, Nat.reduceLT, Nat.reduceMul, Nat.reducePow, Nat.reduceLeDiff, Int.reduceToNat, Int.reduceLE, Int.reduceLT, Int.reducePow, ↓app_last]
  refine ⟨fun h => fin (fun hz => by omega) (x1 _), fun h => ?_⟩
  have hn : n ≤ 1048576 := by
    by_cases h' : n ≤ 1048576
    · exact h'
    · rw [if_neg h'] at h; omega
  rw [if_pos hn, show ((1048576 : Nat) : Int) - (n : Int) = ((1048576 - n : Nat) : Int) by omega]
  refine kCall_val (c_laws_szByteSS D c1 (1048576 - n) (by omega) hL (by omega)) (by rfl) ((g1, 0) :: rng b D.length) (by simp [CALL]) (seg_nAt0 (f1.mono (x1 _)) hPn bPs_id) (by simp [okL, okV]) (okB_nest (by simp [partB_length, hPn])) ?_
  simp only [CALL, ↓VC, VP, TT, List.getElem?_toArray, Nat.reduceEqDiff, reduceCtorEq, Nat.reduceAdd, Nat.reduceSub, Nat.reduceLT, Nat.reduceMul, Nat.reducePow, Nat.reduceLeDiff, Int.reduceToNat, Int.reduceLE, Int.reduceLT, Int.reducePow, ↓app_last]
  refine ⟨fun h => fin (fun hz => by omega) (x1 _), fun h2 => ?_⟩
  have hS : D.length + sumD D ≤ 1048576 - n := by
    by_cases h' : D.length + sumD D ≤ 1048576 - n
    · exact h'
    · rw [if_neg h'] at h2; omega
  rw [if_pos hS, show ((1048576 - n : Nat) : Int) - ((D.length + sumD D : Nat) : Int) = ((1048576 - n - (D.length + sumD D) : Nat) : Int) by omega]
  refine kCall_val (c_laws_szInt64S Q.length c2 (1048576 - n - (D.length + sumD D)) Q rfl (by omega) (by omega)) (by rfl) [(g2, 0)] (by simp [CALL]) (seg_bAt (f2.mono (x1 _)) (instL_nsv _ _ _) trivial) (by simp [okL, okV]) (by simp [okL_nsv]) ?_
  simp only [CALL, ↓VC, VP, TT, List.getElem?_toArray, Nat.reduceEqDiff, reduceCtorEq, Nat.reduceAdd, Nat.reduceSub, Nat.reduceLT, Nat.reduceMul, Nat.reducePow, Nat.reduceLeDiff, Int.reduceToNat, Int.reduceLE, Int.reduceLT, Int.reducePow, ↓app_last]
  refine ⟨fun h => fin (fun hz => by omega) (x1 _), fun h3 => ?_⟩
  have hQ : Q.length ≤ 1048576 - n - (D.length + sumD D) := by
    by_cases h' : Q.length ≤ 1048576 - n - (D.length + sumD D)
    · exact h'
    · rw [if_neg h'] at h3; omega
  exact fin (fun _ => by omega) (x1 _)
/-- A store of blobs in the memory. -/
structure sAt (H : List Blk) (g0 g1 g2 b : Nat) (K : List UInt8) (D : List (List UInt8 × Nat)) (Q : List Int) : Prop where
  k : bAt H g0 (bs K)
  d : nAt H g1 b (bPs D)
  q : bAt H g2 (nsv Q)
theorem sAt.mono {H H2 : List Blk} (h : sAt H g0 g1 g2 b K D Q) (x : Ext H H2) : sAt H2 g0 g1 g2 b K D Q := ⟨h.k.mono x, h.d.mono x, h.q.mono x⟩
theorem sAt.frz {H : List Blk} (h : sAt H g0 g1 g2 b K D Q) : sAt (frz H) g0 g1 g2 b K D Q := ⟨h.k.frz, h.d.frz, h.q.frz⟩
/-- What a copy of a store lays behind the memory. -/
def newS (N : Nat) (K : List UInt8) (D : List (List UInt8 × Nat)) (Q : List Int) : List Blk := ⟨true, bs K⟩ :: ⟨true, ptrV (N + 3) (bPs (cpD D))⟩ :: ⟨true, nsv Q⟩ :: partB true (bPs (cpD D))
theorem newS_at {H H2 : List Blk} (e : H2 = H ++ newS H.length K D Q) : sAt H2 H.length (H.length + 1) (H.length + 2) (H.length + 3) K (cpD D) Q := by
  subst e
  refine ⟨bAt_of (at_app rfl), ⟨?_, fun i p hp => ?_⟩, ?_⟩
  · have e : H ++ newS H.length K D Q = (H ++ [⟨true, bs K⟩]) ++ (newS H.length K D Q).tail := by simp [newS]
    rw [e]; exact bAt_of (at_app (by simp))
  · have e : H ++ newS H.length K D Q = (H ++ [⟨true, bs K⟩, ⟨true, ptrV (H.length + 3) (bPs (cpD D))⟩, ⟨true, nsv Q⟩]) ++ (partB true (bPs (cpD D)) ++ []) := by simp [newS]
    rw [e]; exact bAt_of (at_part (by simp) hp)
  · have e : H ++ newS H.length K D Q = (H ++ [⟨true, bs K⟩, ⟨true, ptrV (H.length + 3) (bPs (cpD D))⟩]) ++ (newS H.length K D Q).tail.tail := by simp [newS]
    rw [e]; exact bAt_of (at_app (by simp))
theorem newS_st {N : Nat} : ∀ x ∈ newS N K D Q, stL (N + (newS N K D Q).length) x.cells := by
  have hl : (newS N K D Q).length = 3 + D.length := by simp [newS, partB_length, bPs_length, cpD_length]; omega
  rw [hl]
  exact stB_cons (stL_bs _ _) (stB_cons (stL_ptrV (by rw [bPs_length, cpD_length]; omega)) (stB_cons (stL_nsv _ _) (stB_part bPs_st)))
theorem newS_own {N : Nat} : ∀ x ∈ newS N K D Q, x.own = true ∨ x.cells = [] := by
  intro x hx
  simp only [newS, List.mem_cons, partB, List.mem_map] at hx
  rcases hx with rfl | rfl | rfl | ⟨p, _, rfl⟩ <;> exact .inl rfl
theorem c_laws_toBlobs (hst : stM H) (hK : K.length = 32 * n) (hc0 : n ≤ c0) (hn : n ≤ 1048576) (hc1 : D.length ≤ c1) (hDn : D.length ≤ 1048576) (hL : ∀ p ∈ D, p.1.length ≤ p.2 ∧ p.1.length ≤ 1048576) (hc2 : Q.length ≤ c2) (hQn : Q.length ≤ 1048576) (f : sAt H g0 g1 g2 b K D Q) :
    LC Try.prog 28 [.a [.s g0 0 n c0, .s g1 0 D.length c1, .s g2 0 Q.length c2]] H (Ret H (fun _ : Unit => True) fun _ => (.a [.s H.length 0 n n, .s (H.length + 1) 0 D.length D.length, .s (H.length + 2) 0 Q.length Q.length], newS H.length K D Q)) := by
  have hPn := bPs_length D
  have hQ2 : (bPs (cpD D)).length = D.length := by rw [bPs_length, cpD_length]
  refine LC_of (X := XX (fun _ => .nil) (fun _ => []) [19, 20, 48, 49, 59, 72, 93, 112, 174] (H.length)) envOK Try.func28 (by kernel_rfl) (by kernel_rfl) (by simp [XX]) (Nat.le_of_ble_eq_true (by kernel_rfl)) ?_
  simp only [kFun, Try.f28, List.length_nil, List.length_cons, Nat.sub_zero, Nat.reduceSub, Nat.reduceAdd, List.nil_append, List.cons_append, List.replicate_succ, List.replicate_zero]
  simp only [XX, ↓VC, VP, TT, List.getElem?_toArray, Nat.reduceEqDiff, reduceCtorEq, Nat.reduceAdd, Nat.reduceSub, Nat.reduceLT, Nat.reduceMul, Nat.reducePow, Nat.reduceLeDiff, Int.reduceToNat, Int.reduceLE, Int.reduceLT, Int.reducePow]
  obtain ⟨hp1, e1⟩ : ∃ hp1, hp1 = H ++ [⟨true, [V.s g0 0 n c0, V.s g1 0 D.length c1, V.s g2 0 Q.length c2]⟩] ++ [⟨true, [V.c (.slice none 0 0), V.c (.slice none 0 0), V.c (.slice none 0 0)]⟩] ++ [⟨true, [V.c (.slice none 0 0), V.c (.slice none 0 0), V.c (.slice none 0 0)]⟩] := ⟨_, rfl⟩
  rw [← e1]
  have x1 : Ext H hp1 := ⟨_, by rw [e1, List.append_assoc, List.append_assoc]⟩
  have l1 : hp1.length = H.length + 3 := by simp [e1]
  have fA : hp1[H.length]? = some ⟨true, [V.s g0 0 n c0, V.s g1 0 D.length c1, V.s g2 0 Q.length c2]⟩ := by rw [e1, List.append_assoc, List.append_assoc]; exact at_app rfl
  have fU : hp1[H.length + 1]? = some ⟨true, [V.c (.slice none 0 0), V.c (.slice none 0 0), V.c (.slice none 0 0)]⟩ := by rw [e1, List.append_assoc]; exact at_app (by simp)
  have fV : hp1[H.length + 1 + 1]? = some ⟨true, [V.c (.slice none 0 0), V.c (.slice none 0 0), V.c (.slice none 0 0)]⟩ := by rw [e1]; exact at_app (by simp)
  clear e1
  simp only [↓VC, VP, TT, List.getElem?_toArray, Nat.reduceEqDiff, reduceCtorEq, Nat.reduceAdd, Nat.reduceSub, Nat.reduceLT, Nat.reduceMul, Nat.reducePow, Nat.reduceLeDiff, Int.reduceToNat, Int.reduceLE, Int.reduceLT, Int.reducePow, fA]
  refine kA_ret (c_laws_toDigestS n c0 K hK hc0 hn) (by rfl) [(g0, 0)] (by simp [CALL]) (seg_bAt (f.k.mono x1) (instL_bs _ _ _) trivial) (by simp [okL, okV]) (by simp [okL_bs]) (by simp) fun _ N2 hp2 _ eN2 e2 => ?_
  simp only [List.map_cons, List.map_nil, instL_bs] at e2
  have x2 := new_ext e2
  have fK : hp2[N2]? = some ⟨true, bs K⟩ := new_at (R := []) eN2 e2
  have l2 : hp2.length = H.length + 4 := by rw [e2]; simp [l1]
  replace fA := x2.get fA; replace fU := x2.get fU; replace fV := x2.get fV; replace x1 := x1.trans x2
  clear e2 x2
  simp only [CALL, ↓VC, VP, TT, List.getElem?_toArray, Nat.reduceEqDiff, reduceCtorEq, Nat.reduceAdd, Nat.reduceSub, Nat.reduceLT, Nat.reduceMul, Nat.reducePow, Nat.reduceLeDiff, Int.reduceToNat, Int.reduceLE, Int.reduceLT, Int.reducePow, fV]
  obtain ⟨hp3, e3⟩ : ∃ hp3, hp3 = hp2.set (H.length + 1 + 1) ⟨true, [V.s N2 0 n n, V.c (.slice none 0 0), V.c (.slice none 0 0)]⟩ := ⟨_, rfl⟩
  have u3 := set_upd (b := ⟨true, [V.s N2 0 n n, V.c (.slice none 0 0), V.c (.slice none 0 0)]⟩) fV
  replace fV := set_at (b := ⟨true, [V.s N2 0 n n, V.c (.slice none 0 0), V.c (.slice none 0 0)]⟩) fV
  have l3 : hp3.length = H.length + 4 := by rw [e3, List.length_set, l2]
  rw [← e3] at u3 fV
  replace fA := u3.get (by omega) fA; replace fU := u3.get (by omega) fU; replace fK := u3.get (by omega) fK; replace x1 := x1.uext u3 (by intro h hh; omega)
  rw [← e3]
  clear e3 u3
  simp only [↓VC, VP, TT, List.getElem?_toArray, Nat.reduceEqDiff, reduceCtorEq, Nat.reduceAdd, Nat.reduceSub, Nat.reduceLT, Nat.reduceMul, Nat.reducePow, Nat.reduceLeDiff, Int.reduceToNat, Int.reduceLE, Int.reduceLT, Int.reducePow, fA]
  refine kA_ret (c_laws_toByteSS D c1 hc1 hDn hL) (by rfl) ((g1, 0) :: rng b D.length) (by simp [CALL]) (seg_nAt0 (f.d.mono x1) hPn bPs_id) (by simp [okL, okV]) (okB_nest (by simp [partB_length, hPn])) (fun _ => own_nest) fun _ N4 hp4 _ eN4 e4 => ?_
  rw [inst_nest (by simp [rng_length]) (fun p hp => bPs_id _ _ p hp)] at e4
  have x4 := new_ext e4
  have fP : hp4[N4]? = some ⟨true, ptrV (N4 + 1) (bPs (cpD D))⟩ := new_at eN4 e4
  have o4 := new_own eN4 e4
  have l4 : hp4.length = H.length + 5 + D.length := by rw [e4]; simp [partB_length, hQ2, l3]; omega
  replace fA := x4.get fA; replace fU := x4.get fU; replace fV := x4.get fV; replace fK := x4.get fK; replace x1 := x1.trans x4
  clear e4 x4
  simp only [CALL, ↓VC, VP, TT, List.getElem?_toArray, Nat.reduceEqDiff, reduceCtorEq, Nat.reduceAdd, Nat.reduceSub, Nat.reduceLT, Nat.reduceMul, Nat.reducePow, Nat.reduceLeDiff, Int.reduceToNat, Int.reduceLE, Int.reduceLT, Int.reducePow, fV, rng_length, rng_end]
  obtain ⟨hp5, e5⟩ : ∃ hp5, hp5 = hp4.set (H.length + 1 + 1) ⟨true, [V.s N2 0 n n, V.s N4 0 D.length D.length, V.c (.slice none 0 0)]⟩ := ⟨_, rfl⟩
  have u5 := set_upd (b := ⟨true, [V.s N2 0 n n, V.s N4 0 D.length D.length, V.c (.slice none 0 0)]⟩) fV
  replace fV := set_at (b := ⟨true, [V.s N2 0 n n, V.s N4 0 D.length D.length, V.c (.slice none 0 0)]⟩) fV
  have l5 : hp5.length = H.length + 5 + D.length := by rw [e5, List.length_set, l4]
  rw [← e5] at u5 fV
  replace fA := u5.get (by omega) fA; replace fU := u5.get (by omega) fU; replace fK := u5.get (by omega) fK; replace fP := u5.get (by omega) fP; replace x1 := x1.uext u5 (by intro h hh; omega)
  replace o4 : ∀ i p, (bPs (cpD D))[i]? = some p → hp5[N4 + 1 + i]? = some ⟨true, p.cells⟩ := fun i p hp => u5.get (by omega) (o4 i p hp)
  rw [← e5]
  clear e5 u5
  simp only [↓VC, VP, TT, List.getElem?_toArray, Nat.reduceEqDiff, reduceCtorEq, Nat.reduceAdd, Nat.reduceSub, Nat.reduceLT, Nat.reduceMul, Nat.reducePow, Nat.reduceLeDiff, Int.reduceToNat, Int.reduceLE, Int.reduceLT, Int.reducePow, fA]
  refine kA_ret (c_laws_toInt64S Q c2 hc2 (by omega)) (by rfl) [(g2, 0)] (by simp [CALL]) (seg_bAt (f.q.mono x1) (instL_nsv _ _ _) trivial) (by simp [okL, okV]) (by simp [okL_nsv]) (by simp) fun _ N6 hp6 _ eN6 e6 => ?_
  simp only [List.map_cons, List.map_nil, instL_nsv] at e6
  have x6 := new_ext e6
  have fQ : hp6[N6]? = some ⟨true, nsv Q⟩ := new_at (R := []) eN6 e6
  have l6 : hp6.length = H.length + 6 + D.length := by rw [e6]; simp [l5]; omega
  replace fA := x6.get fA; replace fU := x6.get fU; replace fV := x6.get fV; replace fK := x6.get fK; replace fP := x6.get fP; replace x1 := x1.trans x6
  replace o4 : ∀ i p, (bPs (cpD D))[i]? = some p → hp6[N4 + 1 + i]? = some ⟨true, p.cells⟩ := fun i p hp => x6.get (o4 i p hp)
  clear e6 x6
  simp only [CALL, ↓VC, VP, TT, List.getElem?_toArray, Nat.reduceEqDiff, reduceCtorEq, Nat.reduceAdd, Nat.reduceSub, Nat.reduceLT, Nat.reduceMul, Nat.reducePow, Nat.reduceLeDiff, Int.reduceToNat, Int.reduceLE, Int.reduceLT, Int.reducePow, fV]
  obtain ⟨hp7, e7⟩ : ∃ hp7, hp7 = hp6.set (H.length + 1 + 1) ⟨true, [V.s N2 0 n n, V.s N4 0 D.length D.length, V.s N6 0 Q.length Q.length]⟩ := ⟨_, rfl⟩
  have u7 := set_upd (b := ⟨true, [V.s N2 0 n n, V.s N4 0 D.length D.length, V.s N6 0 Q.length Q.length]⟩) fV
  replace fV := set_at (b := ⟨true, [V.s N2 0 n n, V.s N4 0 D.length D.length, V.s N6 0 Q.length Q.length]⟩) fV
  have l7 : hp7.length = H.length + 6 + D.length := by rw [e7, List.length_set, l6]
  rw [← e7] at u7 fV
  replace fA := u7.get (by omega) fA; replace fU := u7.get (by omega) fU; replace fK := u7.get (by omega) fK; replace fP := u7.get (by omega) fP; replace fQ := u7.get (by omega) fQ; replace x1 := x1.uext u7 (by intro h hh; omega)
  replace o4 : ∀ i p, (bPs (cpD D))[i]? = some p → hp7[N4 + 1 + i]? = some ⟨true, p.cells⟩ := fun i p hp => u7.get (by omega) (o4 i p hp)
  rw [← e7]
  clear e7 u7
  simp only [↓VC, VP, TT, List.getElem?_toArray, Nat.reduceEqDiff, reduceCtorEq, Nat.reduceAdd, Nat.reduceSub, Nat.reduceLT, Nat.reduceMul, Nat.reducePow, Nat.reduceLeDiff, Int.reduceToNat, Int.reduceLE, Int.reduceLT, Int.reducePow, fV, fU]
  obtain ⟨hp8, e8⟩ : ∃ hp8, hp8 = hp7.set (H.length + 1) ⟨true, [V.s N2 0 n n, V.s N4 0 D.length D.length, V.s N6 0 Q.length Q.length]⟩ := ⟨_, rfl⟩
  have u8 := set_upd (b := ⟨true, [V.s N2 0 n n, V.s N4 0 D.length D.length, V.s N6 0 Q.length Q.length]⟩) fU
  replace fU := set_at (b := ⟨true, [V.s N2 0 n n, V.s N4 0 D.length D.length, V.s N6 0 Q.length Q.length]⟩) fU
  have l8 : hp8.length = H.length + 6 + D.length := by rw [e8, List.length_set, l7]
  rw [← e8] at u8 fU
  replace fK := u8.get (by omega) fK; replace fP := u8.get (by omega) fP; replace fQ := u8.get (by omega) fQ; replace x1 := x1.uext u8 (by intro h hh; omega)
  replace o4 : ∀ i p, (bPs (cpD D))[i]? = some p → hp8[N4 + 1 + i]? = some ⟨true, p.cells⟩ := fun i p hp => u8.get (by omega) (o4 i p hp)
  rw [← e8]
  clear e8 u8
  simp only [↓VC, VP, TT, List.getElem?_toArray, Nat.reduceEqDiff, reduceCtorEq, Nat.reduceAdd, Nat.reduceSub, Nat.reduceLT, Nat.reduceMul, Nat.reducePow, Nat.reduceLeDiff, Int.reduceToNat, Int.reduceLE, Int.reduceLT, Int.reducePow, fU]
  refine ⟨_, _, List.range H.length ++ ([N2, N4, N6] ++ List.range' (N4 + 1) D.length), ⟨(), trivial, rfl, rfl⟩, ?_⟩
  have hr : V.renL (List.range H.length ++ ([N2, N4, N6] ++ List.range' (N4 + 1) D.length)) (ptrV (H.length + 3) (bPs (cpD D))) = ptrV (N4 + 1) (bPs (cpD D)) := renL_ptrV fun i hi => by
    rw [Nat.add_assoc, range_getD_ge, List.getD_eq_getElem?_getD, List.getElem?_append_right (by simp), ← List.getD_eq_getElem?_getD]
    have e : 3 + i - [N2, N4, N6].length = i := by simp
    rw [e, getD_range' (by rw [hQ2] at hi; exact hi)]
  exact LeS_new (B := [⟨true, bs K⟩, ⟨true, ptrV (H.length + 3) (bPs (cpD D))⟩, ⟨true, nsv Q⟩]) rfl x1 hst (Nat.le_refl _) rfl (by simp; omega) (by simp; omega) (by omega) hQ2 o4 (fun _ => bPs_ren) (fun _ p hp => stL_ok (bPs_st p hp))
    (by simp [leTm, leV, V.ren, V.renL, range_getD_ge, range_getD_eq]) (by simp only [leHp, fK, fP, fQ, hr, renL_bs, renL_nsv]; simp) (by simp [okL, okV]; omega) (by simp [okL_bs, okL_nsv]; exact stL_ok (stL_ptrV (by rw [hQ2]; omega)))
/-- Two stores of the same content. -/
theorem c_laws_eqBlobs {c0' c1' c2' k0 k1 k2 b' : Nat} (hst : stM H) (hK : K.length = 32 * n) (hc0 : n ≤ c0) (hc0' : n ≤ c0') (hn : n ≤ 1048576) (hc1 : D.length ≤ c1) (hc1' : D.length ≤ c1') (hDn : D.length ≤ 1048576) (hL : ∀ p ∈ D, p.1.length ≤ p.2 ∧ p.1.length ≤ 1048576) (hc2 : Q.length ≤ c2) (hc2' : Q.length ≤ c2') (hQn : Q.length ≤ 1048576) (f : sAt H g0 g1 g2 b K D Q) (f' : sAt H k0 k1 k2 b' K D Q) :
    LC Try.prog 30 [.a [.s g0 0 n c0, .s g1 0 D.length c1, .s g2 0 Q.length c2], .a [.s k0 0 n c0', .s k1 0 D.length c1', .s k2 0 Q.length c2']] H (fun v hp => v = .c (.bool (true)) ∧ hp = H) := by
  have hPn := bPs_length D
  refine LC_of (X := XX (fun _ => .nil) (fun _ => []) [19, 20, 48, 49, 59, 72, 93, 112, 174] (H.length)) envOK Try.func30 (by kernel_rfl) (by kernel_rfl) (by simp [XX]) (Nat.le_of_ble_eq_true (by kernel_rfl)) ?_
  simp only [kFun, Try.f30, List.length_nil, List.length_cons, Nat.sub_zero, Nat.reduceSub, Nat.reduceAdd, List.nil_append, List.cons_append, List.replicate_succ, List.replicate_zero]
  simp only [XX, ↓VC, VP, TT, List.getElem?_toArray, Nat.reduceEqDiff, reduceCtorEq, Nat.reduceAdd, Nat.reduceSub, Nat.reduceLT, Nat.reduceMul, Nat.reducePow, Nat.reduceLeDiff, Int.reduceToNat, Int.reduceLE, Int.reduceLT, Int.reducePow]
  have x1 : Ext H (H ++ [⟨true, [V.s g0 0 n c0, V.s g1 0 D.length c1, V.s g2 0 Q.length c2]⟩] ++ [⟨true, [V.s k0 0 n c0', V.s k1 0 D.length c1', V.s k2 0 Q.length c2']⟩]) := ⟨_, by rw [List.append_assoc]⟩
  have hll : ∀ x, (H ++ [x]).length = H.length + 1 := fun x => by simp
  simp only [↓VC, VP, TT, List.getElem?_toArray, Nat.reduceEqDiff, reduceCtorEq, Nat.reduceAdd, Nat.reduceSub, Nat.reduceLT, Nat.reduceMul, Nat.reducePow, Nat.reduceLeDiff, Int.reduceToNat, Int.reduceLE, Int.reduceLT, Int.reducePow, hll, ↓app_last2, ↓app_last1]
  refine kCall_val (c_laws_eqDigestS n n c0 c0' K K hK hK hc0 hc0' hn) (by rfl) [(g0, 0), (k0, 0)] (by simp [CALL]) (seg_bAt (f.k.mono x1) (instL_bs _ _ _) (seg_bAt (f'.k.mono x1) (instL_bs _ _ _) trivial)) (by simp [okL, okV]) (by simp [okL_bs]) ?_
  simp only [CALL, ↓VC, VP, TT, List.getElem?_toArray, Nat.reduceEqDiff, reduceCtorEq, Nat.reduceAdd, Nat.reduceSub, Nat.reduceLT, Nat.reduceMul, Nat.reducePow, Nat.reduceLeDiff, Int.reduceToNat, Int.reduceLE, Int.reduceLT, Int.reducePow, beq_self_eq_true, Bool.not_true, ↓app_last2, ↓app_last1]
  refine kCall_val (c_laws_eqByteSS D c1 c1' hc1 hc1' hDn hL) (by rfl) ((g1, 0) :: (k1, 0) :: (rng b D.length ++ rng b' D.length)) (by simp [CALL]) (seg_two (f.d.mono x1) (f'.d.mono x1) hPn bPs_id) (by simp [okL, okV]) (okB_two (by simp [partB_length, hPn])) ?_
  simp only [CALL, ↓VC, VP, TT, List.getElem?_toArray, Nat.reduceEqDiff, reduceCtorEq, Nat.reduceAdd, Nat.reduceSub, Nat.reduceLT, Nat.reduceMul, Nat.reducePow, Nat.reduceLeDiff, Int.reduceToNat, Int.reduceLE, Int.reduceLT, Int.reducePow, beq_self_eq_true, Bool.not_true, ↓app_last2, ↓app_last1]
  refine kCall_val (c_laws_eqInt64S Q Q c2 c2' hc2 hc2' (by omega)) (by rfl) [(g2, 0), (k2, 0)] (by simp [CALL]) (seg_bAt (f.q.mono x1) (instL_nsv _ _ _) (seg_bAt (f'.q.mono x1) (instL_nsv _ _ _) trivial)) (by simp [okL, okV]) (by simp [okL_nsv]) ?_
  simp only [CALL, ↓VC, VP, TT, List.getElem?_toArray, Nat.reduceEqDiff, reduceCtorEq, Nat.reduceAdd, Nat.reduceSub, Nat.reduceLT, Nat.reduceMul, Nat.reducePow, Nat.reduceLeDiff, Int.reduceToNat, Int.reduceLE, Int.reduceLT, Int.reducePow, beq_self_eq_true, Bool.not_true, ↓app_last2, ↓app_last1]
  exact ⟨_, _, List.range H.length, ⟨rfl, rfl⟩, LeS_mem rfl x1 (by simp [leT]) (by simp [stL, stV]) hst⟩
theorem c_spec_IsBlobs (hst : stM H) (hK : K.length = 32 * n) (hc0 : n ≤ c0) (hn : n ≤ 1048576) (hDn : D.length ≤ 1048576) (hQn : Q.length ≤ 1048576) (hL : ∀ p ∈ D, p.1.length ≤ p.2 ∧ p.1.length ≤ 1048576) (f : sAt H g0 g1 g2 b K D Q) :
    LC Try.prog 27 [.a [.s g0 0 n c0, .s g1 0 D.length c1, .s g2 0 Q.length c2]] H (fun v hp => v = .c (.bool (blobB n K D Q)) ∧ hp = H) := by
  refine LC_of (X := XX (fun _ => .nil) (fun _ => []) [19, 20, 48, 49, 59, 72, 93, 112, 174] (H.length)) envOK Try.func27 (by kernel_rfl) (by kernel_rfl) (by simp [XX]) (Nat.le_of_ble_eq_true (by kernel_rfl)) ?_
  simp only [kFun, Try.f27, List.length_nil, List.length_cons, Nat.sub_zero, Nat.reduceSub, Nat.reduceAdd, List.nil_append, List.cons_append, List.replicate_succ, List.replicate_zero]
  simp only [XX, ↓VC, VP, TT, List.getElem?_toArray, Nat.reduceEqDiff, reduceCtorEq, Nat.reduceAdd, Nat.reduceSub, Nat.reduceLT, Nat.reduceMul, Nat.reducePow, Nat.reduceLeDiff, Int.reduceToNat, Int.reduceLE, Int.reduceLT, Int.reducePow, ↓app_last]
  have l0 := f.k.lt; have l1 := f.d.1.lt; have l2 := f.q.lt
  have x1 : Ext H (H ++ [⟨true, [V.s g0 0 n c0, V.s g1 0 D.length c1, V.s g2 0 Q.length c2]⟩]) := ⟨_, rfl⟩
  have hst1 : stM (H ++ [⟨true, [V.s g0 0 n c0, V.s g1 0 D.length c1, V.s g2 0 Q.length c2]⟩]) := hst.app (by simp [stL, stV]; omega)
  refine kW_val (c_spec_l09Is hst1.frz hK hc0 hn hDn hQn hL (f.k.mono x1).frz (f.d.mono x1).frz (f.q.mono x1).frz) (by rfl) (by simp [okL, okV]; omega) hst1.ok ?_
  simp only [CALL, ↓VC, VP, TT, List.getElem?_toArray, Nat.reduceEqDiff, reduceCtorEq, Nat.reduceAdd, Nat.reduceSub, Nat.reduceLT, Nat.reduceMul, Nat.reducePow, Nat.reduceLeDiff, Int.reduceToNat, Int.reduceLE, Int.reduceLT, Int.reducePow]
  exact ⟨_, _, List.range H.length, ⟨rfl, rfl⟩, LeS_mem rfl x1 (by simp [leT]) (by simp [stL, stV]) hst⟩
theorem blob_32 (h : blobB n K D Q = true) : n ≤ 32 := by
  unfold blobB at h
  simp only [Bool.and_eq_true, decide_eq_true_eq] at h
  exact h.1.1
/-- What the root of a store is: with its code. -/
def rtB (n : Nat) (K : List UInt8) (D : List (List UInt8 × Nat)) (Q : List Int) : List UInt8 × Int := if blobB n K D Q then (rootL n K, 0) else (List.replicate 32 0, 1)
theorem rtB_len (hK : K.length = 32 * n) : (rtB n K D Q).1.length = 32 := by
  unfold rtB; split
  · exact rootL_len hK
  · simp
theorem c_spec_RootOfBlobs (hst : stM H) (hK : K.length = 32 * n) (hc0 : n ≤ c0) (hn : n ≤ 1048576) (hDn : D.length ≤ 1048576) (hQn : Q.length ≤ 1048576) (hL : ∀ p ∈ D, p.1.length ≤ p.2 ∧ p.1.length ≤ 1048576) (f : sAt H g0 g1 g2 b K D Q) :
    LC Try.prog 31 [.a [.s g0 0 n c0, .s g1 0 D.length c1, .s g2 0 Q.length c2]] H (fun v hp => v = .t [.a (bs (rtB n K D Q).1), .c (.int .i64 ((rtB n K D Q).2))] ∧ hp = H) := by
  have hll : ∀ x, (H ++ [x]).length = H.length + 1 := fun x => by simp
  refine LC_of (X := XX (fun _ => .nil) (fun _ => []) [19, 20, 48, 49, 59, 72, 93, 112, 174] (H.length)) envOK Try.func31 (by kernel_rfl) (by kernel_rfl) (by simp [XX]) (Nat.le_of_ble_eq_true (by kernel_rfl)) ?_
  simp only [kFun, Try.f31, List.length_nil, List.length_cons, Nat.sub_zero, Nat.reduceSub, Nat.reduceAdd, List.nil_append, List.cons_append, List.replicate_succ, List.replicate_zero]
  simp only [XX, ↓VC, VP, TT, List.getElem?_toArray, Nat.reduceEqDiff, reduceCtorEq, Nat.reduceAdd, Nat.reduceSub, Nat.reduceLT, Nat.reduceMul, Nat.reducePow, Nat.reduceLeDiff, Int.reduceToNat, Int.reduceLE, Int.reduceLT, Int.reducePow, hll, ↓app_last2, ↓app_last1]
  have l0 := f.k.lt; have l1 := f.d.1.lt; have l2 := f.q.lt
  obtain ⟨hp1, e1⟩ : ∃ hp1, hp1 = H ++ [⟨true, [V.s g0 0 n c0, V.s g1 0 D.length c1, V.s g2 0 Q.length c2]⟩] ++ [⟨true, bs (List.replicate 32 0)⟩] := ⟨_, rfl⟩
  rw [← e1]
  have x1 : Ext H hp1 := ⟨_, by rw [e1, List.append_assoc]⟩
  have hst1 : stM hp1 := by rw [e1]; exact (hst.app (by simp [stL, stV]; omega)).app (by intro x hx; rw [List.mem_singleton] at hx; subst hx; exact stL_bs _ _)
  have ll : hp1.length = H.length + 2 := by simp [e1]
  have fA : hp1[H.length]? = some ⟨true, [V.s g0 0 n c0, V.s g1 0 D.length c1, V.s g2 0 Q.length c2]⟩ := by rw [e1]; exact app_last2
  have fR : hp1[H.length + 1]? = some ⟨true, bs (List.replicate 32 0)⟩ := by rw [e1]; exact app_last1
  have f1 := f.mono x1
  clear e1
  refine kW_val (c_spec_l09Is hst1.frz hK hc0 hn hDn hQn hL f1.k.frz f1.d.frz f1.q.frz) (by rfl) (by simp [okL, okV]; omega) hst1.ok ?_
  cases hbb : blobB n K D Q with
  | false =>
    simp only [CALL, ↓VC, VP, TT, List.getElem?_toArray, Nat.reduceEqDiff, reduceCtorEq, Nat.reduceAdd, Nat.reduceSub, Nat.reduceLT, Nat.reduceMul, Nat.reducePow, Nat.reduceLeDiff, Int.reduceToNat, Int.reduceLE, Int.reduceLT, Int.reducePow, fR]
    have u := set_upd (b := ⟨true, bs (List.replicate 32 0)⟩) fR
    have fR2 := set_at (b := ⟨true, bs (List.replicate 32 0)⟩) fR
    simp only [↓VC, VP, TT, List.getElem?_toArray, Nat.reduceEqDiff, reduceCtorEq, Nat.reduceAdd, Nat.reduceSub, Nat.reduceLT, Nat.reduceMul, Nat.reducePow, Nat.reduceLeDiff, Int.reduceToNat, Int.reduceLE, Int.reduceLT, Int.reducePow, fR2, Bool.not_false]
    have e : rtB n K D Q = (List.replicate 32 0, 1) := by unfold rtB; rw [hbb]; rfl
    rw [e]
    exact ⟨_, _, List.range H.length, ⟨rfl, rfl⟩, LeS_mem rfl (x1.uext u (by intro h hh; omega)) (by simp [leT]) (by simp [stL, stV, stL_bs]) hst⟩
  | true =>
    have hn2 := blob_32 hbb
    have hr := rootL_len hK
    simp only [CALL, ↓VC, VP, TT, List.getElem?_toArray, Nat.reduceEqDiff, reduceCtorEq, Nat.reduceAdd, Nat.reduceSub, Nat.reduceLT, Nat.reduceMul, Nat.reducePow, Nat.reduceLeDiff, Int.reduceToNat, Int.reduceLE, Int.reduceLT, Int.reducePow, fA, Bool.not_true]
    refine kCall_val (c_spec_l09Root n K c0 hK hc0 (by omega)) (by rfl) [(g0, 0)] (by simp [CALL]) (seg_bAt f1.k (instL_bs _ _ _) trivial) (by simp [okL, okV]) (by simp [okL_bs]) ?_
    have u := set_upd (b := ⟨true, bs (rootL n K)⟩) fR
    have fR2 := set_at (b := ⟨true, bs (rootL n K)⟩) fR
    simp only [CALL, ↓VC, VP, TT, List.getElem?_toArray, Nat.reduceEqDiff, reduceCtorEq, Nat.reduceAdd, Nat.reduceSub, Nat.reduceLT, Nat.reduceMul, Nat.reducePow, Nat.reduceLeDiff, Int.reduceToNat, Int.reduceLE, Int.reduceLT, Int.reducePow, fR, fR2, hr]
    have e : rtB n K D Q = (rootL n K, 0) := by unfold rtB; rw [hbb]; rfl
    rw [e]
    exact ⟨_, _, List.range H.length, ⟨rfl, rfl⟩, LeS_mem rfl (x1.uext u (by intro h hh; omega)) (by simp [leT]) (by simp [stL, stV, stL_bs]) hst⟩
theorem set_last {H : List Blk} {x y : Blk} : (H ++ [x]).set H.length y = H ++ [y] := by
  rw [List.set_append_right _ _ (Nat.le_refl _), Nat.sub_self]; rfl
/-- The blocks of the house's engine, as they come. -/
theorem hB_new {hp hp2 : List Blk} {N : Nat} (hN : N = hp.length) (e : hp2 = hp ++ ((hB true).map fun b => (⟨b.own, V.instL [] N b.cells⟩ : Blk))) : Ext hp hp2 ∧ eAt hp2 N ∧ hp2.length = N + 3 ∧ (stM hp → stM hp2) := by
  simp only [hB, List.map_cons, List.map_nil, instL_hEng0, instL_bs] at e
  subst hN
  refine ⟨⟨_, e⟩, ⟨bAt_of (by rw [e]; exact at_app rfl), bAt_of (own := true) ?_, bAt_of (own := true) ?_⟩, by simp [e], fun h => ?_⟩
  · have e' : hp2 = (hp ++ [⟨true, hEng (hp.length + 1) (hp.length + 2)⟩]) ++ (⟨true, bs hT1⟩ :: [⟨true, bs hT2⟩]) := by rw [e]; simp
    rw [e']; exact at_app (by simp)
  · have e' : hp2 = (hp ++ [⟨true, hEng (hp.length + 1) (hp.length + 2)⟩, ⟨true, bs hT1⟩]) ++ (⟨true, bs hT2⟩ :: []) := by rw [e]; simp
    rw [e']; exact at_app (by simp)
  · rw [e]
    refine h.app (stB_cons ?_ (stB_cons (stL_bs _ _) (stB_cons (stL_bs _ _) stB_nil)))
    simp [hEng, engC, stL, stV, stL_app, stL_bs]
theorem c_impl_IsBlobs (hst : stM H) (hK : K.length = 32 * n) (hc0 : n ≤ c0) (hn : n ≤ 1048576) (hDn : D.length ≤ 1048576) (hQn : Q.length ≤ 1048576) (hL : ∀ p ∈ D, p.1.length ≤ p.2 ∧ p.1.length ≤ 1048576) (f : sAt H g0 g1 g2 b K D Q) :
    LC Try.prog 29 [.a [.s g0 0 n c0, .s g1 0 D.length c1, .s g2 0 Q.length c2]] H (fun v hp => v = .c (.bool (blobB n K D Q)) ∧ hp = H) := by
  refine LC_of (X := XX (fun | 1 => .one 1 (.one 0 (.one 2 (.one 3 .nil))) | _ => .nil) (fun _ => []) [19, 20, 48, 49, 59, 72, 93, 112, 174] (H.length)) envOK Try.func29 (by kernel_rfl) (by kernel_rfl) (by simp [XX]) (Nat.le_of_ble_eq_true (by kernel_rfl)) ?_
  simp only [kFun, Try.f29, List.length_nil, List.length_cons, Nat.sub_zero, Nat.reduceSub, Nat.reduceAdd, List.nil_append, List.cons_append, List.replicate_succ, List.replicate_zero]
  simp only [XX, ↓VC, VP, TT, List.getElem?_toArray, Nat.reduceEqDiff, reduceCtorEq, Nat.reduceAdd, Nat.reduceSub, Nat.reduceLT, Nat.reduceMul, Nat.reducePow, Nat.reduceLeDiff, Int.reduceToNat, Int.reduceLE, Int.reduceLT, Int.reducePow, ↓app_last]
  have l0 := f.k.lt; have l1 := f.d.1.lt; have l2 := f.q.lt
  obtain ⟨hp1, e1⟩ : ∃ hp1, hp1 = H ++ [⟨true, [V.s g0 0 n c0, V.s g1 0 D.length c1, V.s g2 0 Q.length c2]⟩] := ⟨_, rfl⟩
  rw [← e1]
  have x1 : Ext H hp1 := ⟨_, e1⟩
  have hst1 : stM hp1 := by rw [e1]; exact hst.app (by simp [stL, stV]; omega)
  have ll : hp1.length = H.length + 1 := by simp [e1]
  have fA : hp1[H.length]? = some ⟨true, [V.s g0 0 n c0, V.s g1 0 D.length c1, V.s g2 0 Q.length c2]⟩ := by rw [e1]; exact at_app rfl
  refine kA_ret c_newHasher (by rfl) [] (by simp [CALL]) (by simp [CALL]) (by simp [CALL]) (by simp) (by simp [hB]) fun _ N2 hp2 _ eN2 e2 => ?_
  obtain ⟨x2, he, l2', hs2⟩ := hB_new eN2 e2
  have hst2 := hs2 hst1
  replace fA := x2.get fA
  have x3 := x1.trans x2
  have f1 := f.mono x3
  simp only [CALL, ↓VC, VP, TT, List.getElem?_toArray, Nat.reduceEqDiff, reduceCtorEq, Nat.reduceAdd, Nat.reduceSub, Nat.reduceLT, Nat.reduceMul, Nat.reducePow, Nat.reduceLeDiff, Int.reduceToNat, Int.reduceLE, Int.reduceLT, Int.reducePow, fA]
  refine kW_val (c_hasher_isBlobs hst2.frz he.frz hK hc0 hn hDn hQn hL f1.k.frz f1.d.frz f1.q.frz) (by rfl) (by simp [okL, okV]; omega) hst2.ok ?_
  simp only [CALL, ↓VC, VP, TT, List.getElem?_toArray, Nat.reduceEqDiff, reduceCtorEq, Nat.reduceAdd, Nat.reduceSub, Nat.reduceLT, Nat.reduceMul, Nat.reducePow, Nat.reduceLeDiff, Int.reduceToNat, Int.reduceLE, Int.reduceLT, Int.reducePow]
  exact ⟨_, _, List.range H.length, ⟨rfl, rfl⟩, LeS_mem rfl x3 (by simp [leT]) (by simp [stL, stV]) hst⟩
theorem c_impl_RootOfBlobs (hst : stM H) (hK : K.length = 32 * n) (hc0 : n ≤ c0) (hn : n ≤ 1048576) (hDn : D.length ≤ 1048576) (hQn : Q.length ≤ 1048576) (hL : ∀ p ∈ D, p.1.length ≤ p.2 ∧ p.1.length ≤ 1048576) (f : sAt H g0 g1 g2 b K D Q) :
    LC Try.prog 32 [.a [.s g0 0 n c0, .s g1 0 D.length c1, .s g2 0 Q.length c2]] H (fun v hp => v = .t [.a (bs (rtB n K D Q).1), .c (.int .i64 ((rtB n K D Q).2))] ∧ hp = H) := by
  have hll : ∀ x, (H ++ [x]).length = H.length + 1 := fun x => by simp
  refine LC_of (X := XX (fun _ => .nil) (fun _ => []) [19, 20, 48, 49, 59, 72, 93, 112, 174] (H.length)) envOK Try.func32 (by kernel_rfl) (by kernel_rfl) (by simp [XX]) (Nat.le_of_ble_eq_true (by kernel_rfl)) ?_
  simp only [kFun, Try.f32, List.length_nil, List.length_cons, Nat.sub_zero, Nat.reduceSub, Nat.reduceAdd, List.nil_append, List.cons_append, List.replicate_succ, List.replicate_zero]
  simp only [XX, ↓VC, VP, TT, List.getElem?_toArray, Nat.reduceEqDiff, reduceCtorEq, Nat.reduceAdd, Nat.reduceSub, Nat.reduceLT, Nat.reduceMul, Nat.reducePow, Nat.reduceLeDiff, Int.reduceToNat, Int.reduceLE, Int.reduceLT, Int.reducePow, hll, ↓app_last2, ↓app_last1]
  have l0 := f.k.lt; have l1 := f.d.1.lt; have l2 := f.q.lt
  obtain ⟨hp1, e1⟩ : ∃ hp1, hp1 = H ++ [⟨true, [V.s g0 0 n c0, V.s g1 0 D.length c1, V.s g2 0 Q.length c2]⟩] ++ [⟨true, bs (List.replicate 32 0)⟩] := ⟨_, rfl⟩
  rw [← e1]
  have x1 : Ext H hp1 := ⟨_, by rw [e1, List.append_assoc]⟩
  have hst1 : stM hp1 := by rw [e1]; exact (hst.app (by simp [stL, stV]; omega)).app (by intro x hx; rw [List.mem_singleton] at hx; subst hx; exact stL_bs _ _)
  have ll : hp1.length = H.length + 2 := by simp [e1]
  have fA : hp1[H.length]? = some ⟨true, [V.s g0 0 n c0, V.s g1 0 D.length c1, V.s g2 0 Q.length c2]⟩ := by rw [e1]; exact app_last2
  have fR : hp1[H.length + 1]? = some ⟨true, bs (List.replicate 32 0)⟩ := by rw [e1]; exact app_last1
  clear e1
  refine kA_ret c_newHasher (by rfl) [] (by simp [CALL]) (by simp [CALL]) (by simp [CALL]) (by simp) (by simp [hB]) fun _ N2 hp2 _ eN2 e2 => ?_
  obtain ⟨x2, he, l2', hs2⟩ := hB_new eN2 e2
  have hst2 := hs2 hst1
  replace fA := x2.get fA; replace fR := x2.get fR; replace x1 := x1.trans x2
  clear e2 x2
  simp only [CALL, ↓VC, VP, TT, List.getElem?_toArray, Nat.reduceEqDiff, reduceCtorEq, Nat.reduceAdd, Nat.reduceSub, Nat.reduceLT, Nat.reduceMul, Nat.reducePow, Nat.reduceLeDiff, Int.reduceToNat, Int.reduceLE, Int.reduceLT, Int.reducePow, ↓app_last, set_last]
  obtain ⟨hp3, e3⟩ : ∃ hp3, hp3 = hp2 ++ [⟨true, [V.p N2 0]⟩] := ⟨_, rfl⟩
  have x3 : Ext hp2 hp3 := ⟨_, e3⟩
  have fH : hp3[hp2.length]? = some ⟨true, [V.p N2 0]⟩ := by rw [e3]; exact at_app rfl
  have hst3 : stM hp3 := by rw [e3]; exact hst2.app (by simp [stL, stV]; omega)
  have l3 : hp3.length = hp2.length + 1 := by simp [e3]
  rw [← e3]
  replace fA := x3.get fA; replace fR := x3.get fR; replace x1 := x1.trans x3; replace he := he.mono x3
  have f1 := f.mono x1
  clear e3
  simp only [↓VC, VP, TT, List.getElem?_toArray, Nat.reduceEqDiff, reduceCtorEq, Nat.reduceAdd, Nat.reduceSub, Nat.reduceLT, Nat.reduceMul, Nat.reducePow, Nat.reduceLeDiff, Int.reduceToNat, Int.reduceLE, Int.reduceLT, Int.reducePow, fA, fH]
  refine kW_val (c_hasher_isBlobs hst3.frz he.frz hK hc0 hn hDn hQn hL f1.k.frz f1.d.frz f1.q.frz) (by rfl) (by simp [okL, okV]; omega) hst3.ok ?_
  cases hbb : blobB n K D Q with
  | false =>
    simp only [CALL, ↓VC, VP, TT, List.getElem?_toArray, Nat.reduceEqDiff, reduceCtorEq, Nat.reduceAdd, Nat.reduceSub, Nat.reduceLT, Nat.reduceMul, Nat.reducePow, Nat.reduceLeDiff, Int.reduceToNat, Int.reduceLE, Int.reduceLT, Int.reducePow, fR]
    have u := set_upd (b := ⟨true, bs (List.replicate 32 0)⟩) fR
    have fR2 := set_at (b := ⟨true, bs (List.replicate 32 0)⟩) fR
    simp only [↓VC, VP, TT, List.getElem?_toArray, Nat.reduceEqDiff, reduceCtorEq, Nat.reduceAdd, Nat.reduceSub, Nat.reduceLT, Nat.reduceMul, Nat.reducePow, Nat.reduceLeDiff, Int.reduceToNat, Int.reduceLE, Int.reduceLT, Int.reducePow, fR2, Bool.not_false]
    have e : rtB n K D Q = (List.replicate 32 0, 1) := by unfold rtB; rw [hbb]; rfl
    rw [e]
    exact ⟨_, _, List.range H.length, ⟨rfl, rfl⟩, LeS_mem rfl (x1.uext u (by intro h hh; omega)) (by simp [leT]) (by simp [stL, stV, stL_bs]) hst⟩
  | true =>
    have hn2 := blob_32 hbb
    have hr := rootL_len hK
    simp only [CALL, ↓VC, VP, TT, List.getElem?_toArray, Nat.reduceEqDiff, reduceCtorEq, Nat.reduceAdd, Nat.reduceSub, Nat.reduceLT, Nat.reduceMul, Nat.reducePow, Nat.reduceLeDiff, Int.reduceToNat, Int.reduceLE, Int.reduceLT, Int.reducePow, fA, fH, Bool.not_true]
    refine kCall_val (c_hasher_root n K c0 hK hc0 (by omega)) (by rfl) [(N2, 0), (N2 + 1, 0), (N2 + 2, 0), (g0, 0)] (by simp [CALL]) (seg_eng he (seg_bAt f1.k (instL_bs _ _ _) trivial)) (by simp [okL, okV, hB]) (by simp [hB, okL_bs, okL_hEng]) ?_
    have u := set_upd (b := ⟨true, bs (rootL n K)⟩) fR
    have fR2 := set_at (b := ⟨true, bs (rootL n K)⟩) fR
    simp only [CALL, ↓VC, VP, TT, List.getElem?_toArray, Nat.reduceEqDiff, reduceCtorEq, Nat.reduceAdd, Nat.reduceSub, Nat.reduceLT, Nat.reduceMul, Nat.reducePow, Nat.reduceLeDiff, Int.reduceToNat, Int.reduceLE, Int.reduceLT, Int.reducePow, fR, fR2, hr]
    have e : rtB n K D Q = (rootL n K, 0) := by unfold rtB; rw [hbb]; rfl
    rw [e]
    exact ⟨_, _, List.range H.length, ⟨rfl, rfl⟩, LeS_mem rfl (x1.uext u (by intro h hh; omega)) (by simp [leT]) (by simp [stL, stV, stL_bs]) hst⟩
end
end Go.Proofs.Ytcfhdogmkbfnhaa

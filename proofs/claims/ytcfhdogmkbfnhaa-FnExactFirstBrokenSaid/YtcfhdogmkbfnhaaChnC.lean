import Derived.Test.YtcfhdogmkbfnhaaChnB
/- The first broken tag: both functions. -/
set_option linter.unusedSimpArgs false
set_option linter.unusedVariables false
namespace Go.Proofs.Ytcfhdogmkbfnhaa
open Go Go.Vc
set_option maxRecDepth 10000
set_option maxHeartbeats 4000000
/-- The first place at which digests differ. -/
def fbF (A B : List UInt8) : Nat → Nat → Nat
  | 0, i => i
  | f + 1, i => if dgA A i = dgA B i then fbF A B f (i + 1) else i
theorem LeS_nestX {D : List (List UInt8 × Nat)} {N : Nat} {tm tm' : List V} {hp ex : List Blk} {T : List UInt8} (hN : N = D.length + 2) (he : hp = ⟨false, ptrV 1 (bPs D)⟩ :: (partB false (bPs D) ++ ⟨false, bs T⟩ :: ex)) (ht : leT tm tm') (hs : stL N tm') : LeS N (List.range N) tm hp tm' (⟨false, ptrV 1 (bPs D)⟩ :: (partB false (bPs D) ++ [⟨false, bs T⟩])) :=
  LeS_id (ex := ex) (by simp [partB_length, bPs_length, hN]) (Nat.le_refl _) (by rw [he]; simp) ht hs (stB_cons (stL_ptrV (by rw [bPs_length]; omega)) (stB_app (stB_part bPs_st) (stB_cons (stL_bs _ _) stB_nil)))
theorem k_spec_FirstBroken (c : Cip) (key T : List UInt8) (hk : key.length = 16) (D : List (List UInt8 × Nat)) (cc ct : Nat) (hm : D.length ≤ 20) (hL : ∀ p ∈ D, p.1.length ≤ p.2 ∧ p.1.length ≤ 2000) (hT : T.length = 32 * D.length) (hct : D.length ≤ ct) : LC Try.prog 23 [.a c.cells, .a (bs key), .s 0 0 D.length cc, .s (D.length + 1) 0 D.length ct] (⟨false, ptrV 1 (bPs D)⟩ :: (partB false (bPs D) ++ [⟨false, bs T⟩]))
    (fun v hp => v = .t [.c (.int .i64 ((fbF (tgL c key D D.length) T D.length 0 : Nat))), .c (.int .i64 (0))] ∧ hp = (⟨false, ptrV 1 (bPs D)⟩ :: (partB false (bPs D) ++ [⟨false, bs T⟩]))) := by
  have hPn := bPs_length D
  have key1 := c_spec_l08Lists c.m c.n c.box c.A c.pl c.hb c.hA c.hp D cc (by omega) fun p hp => by have := (hL p hp).2; omega
  have e0 : lstE c.m c.box c.A c.pl c.n D = 0 := by
    have : bigB D = false := by
      unfold bigB; rw [List.any_eq_false]; intro p hp; have := (hL p hp).2; simpa using this
    unfold lstE; rw [if_pos c.is, this, if_neg]; simp; omega
  rw [e0] at key1
  rw [show cipC c.m c.box c.A c.pl c.n = c.cells from rfl] at *
  refine LC_of (X := XX (fun | 10 => .one 0 (.one 1 (.one 2 (.one 3 (.one 4 (.one 5 (.one 6 (.one 7 (.one 8 .nil)))))))) | _ => .nil) (fun _ => []) [19, 20, 48, 49, 59, 72, 93, 112, 174] (D.length + 2)) envOK Try.func23 (by kernel_rfl) (by kernel_rfl) (by simp [XX, partB_length, bPs_length]) (Nat.le_of_ble_eq_true (by kernel_rfl)) ?_
  simp only [kFun, Try.f23, List.length_nil, List.length_cons, Nat.sub_zero, Nat.reduceSub, Nat.reduceAdd, List.nil_append, List.cons_append, List.replicate_succ, List.replicate_zero]
  simp only [XX, ↓VC, VP, TT, List.getElem?_toArray, Nat.reduceEqDiff, reduceCtorEq, Nat.reduceAdd, Nat.reduceSub, Nat.reduceLT, Nat.reduceMul, Nat.reducePow, Nat.reduceLeDiff, Int.reduceToNat, Int.reduceLE, Int.reduceLT, Int.reducePow, k_len, ↓k_all, hk, partB_length, bPs_length, partB_skip hPn, partB_skip0 hPn, List.append_assoc, List.cons_append, List.nil_append]
  refine kCall_val key1 (by rfl) ((0, 0) :: rng 1 D.length) (by simp [CALL, k_inst]) seg_nest0 (by simp [okL, okV, k_ok]) (okB_nest (by simp [partB_length, hPn])) ?_
  simp only [CALL, ↓VC, VP, TT, List.getElem?_toArray, Nat.reduceEqDiff, reduceCtorEq, Nat.reduceAdd, Nat.reduceSub, Nat.reduceLT, Nat.reduceMul, Nat.reducePow, Nat.reduceLeDiff, Int.reduceToNat, Int.reduceLE, Int.reduceLT, Int.reducePow, ↓k_all, k_len, hk, partB_length, bPs_length, partB_skip hPn, partB_skip0 hPn, List.append_assoc, List.cons_append, List.nil_append, bne_self_eq_false, beq_self_eq_true]
  refine kCall_Ret (k_spec_chain c key hk D cc hm hL) (by rfl) ((0, 0) :: rng 1 D.length) (by simp [CALL, k_inst, instL_bs]) seg_nest0 (by simp [okL, okV, k_ok, okL_bs]) (okB_nest (by simp [partB_length, hPn])) (by simp [okL_room]) fun r _ => ?_
  simp only [CALL, ↓VC, VP, TT, List.getElem?_toArray, Nat.reduceEqDiff, reduceCtorEq, Nat.reduceAdd, Nat.reduceSub, Nat.reduceLT, Nat.reduceMul, Nat.reducePow, Nat.reduceLeDiff, Int.reduceToNat, Int.reduceLE, Int.reduceLT, Int.reducePow, hk, partB_length, hPn, rng_length, rng_end, instL_room, List.append_assoc, List.cons_append, List.nil_append]
  have hA := tgL_len (c := c) (key := key) (D := D) D.length
  generalize tgL c key D D.length = A at *
  have hst : ∀ b ∈ (⟨false, ptrV 1 (bPs D)⟩ : Blk) :: (partB false (bPs D) ++ [⟨false, bs T⟩, ⟨true, c.cells⟩, ⟨true, bs key⟩, ⟨true, bs A ++ List.replicate (32 * r) .j⟩]), stL (D.length + 5) b.cells :=
    stB_cons (stL_ptrV (by omega)) (stB_app (stB_part bPs_st) (stB_cons (stL_bs _ _) (stB_cons (k_st _) (stB_cons (stL_bs _ _) (stB_cons (stL_room _ _ _) stB_nil)))))
  refine kLoop_of (fun i : Nat => ([.j, .j, .j, .s (D.length + 1) 0 D.length ct, .j, .j, .j, .j, .j, .j, .j, .s (D.length + 4) 0 D.length (D.length + r), .c (.int .i64 (i)), .j, .j, .j, .j, .j, .j, .j, .j, .j, .j, .j, .j, .j, .j, .j, .j, .j, .j, .j, .j, .j, .j, .j, .j, .j, .j, .j, .j, .j, .j, .j, .j, .j, .j, .j, .j, .j], ⟨false, ptrV 1 (bPs D)⟩ :: (partB false (bPs D) ++ [⟨false, bs T⟩, ⟨true, c.cells⟩, ⟨true, bs key⟩, ⟨true, bs A ++ List.replicate (32 * r) .j⟩]))) (fun i => D.length - i) (fun i => i ≤ D.length ∧ fbF A T (D.length - i) i = fbF A T D.length 0) 0 (by simp) ⟨List.range (D.length + 5), ?_⟩ ?_
  · refine LeS_id (ex := []) (by simp [partB_length, hPn]) (Nat.le_add_right _ 3) (by simp) (by simp [leT]) (by simp [stL, stV]) hst
  rintro i ⟨hi, hf⟩
  rcases Nat.lt_or_ge i D.length with h | h
  · have hA1 : i * 32 + 32 ≤ A.length := by omega
    have hT1 : i * 32 + 32 ≤ T.length := by omega
    rw [show D.length - i = (D.length - (i + 1)) + 1 by omega, fbF] at hf
    simp only [↓VC, VP, TT, List.getElem?_toArray, Nat.reduceEqDiff, reduceCtorEq, Nat.reduceAdd, Nat.reduceSub, Nat.reduceLT, Nat.reduceMul, Nat.reducePow, Nat.reduceLeDiff, Int.reduceToNat, Int.reduceLE, Int.reduceLT, Int.reducePow, (eq_true (by omega) : ((i : Int) < (D.length : Int)) = True), decide_true, List.cons_append, List.append_assoc, List.nil_append, partB_skip hPn, partB_skip0 hPn, ↓vSub_appL (l := bs A) (o := i * 32) (n := 32) (by rw [bs_length]; exact hA1), dgA_eq, hA1, hT1]
    refine ⟨dgA_len hA h, dgA_len hT h, intCells_bs _, intCells_bs _, fun b hb => ⟨fun h1 => ?_, fun h1 => ?_⟩⟩
    · have hne : dgA A i ≠ dgA T i := fun e => by rw [bs_inj.symm, ← hb] at e; rw [e] at h1; exact absurd h1 (by decide)
      rw [if_neg hne] at hf
      rw [← hf]
      exact ⟨_, _, List.range (D.length + 2), ⟨rfl, rfl⟩, LeS_nestX rfl rfl (by simp [leT]) (by simp [stL, stV])⟩
    · have he : dgA A i = dgA T i := by
        rw [← bs_inj, ← hb]
        simpa using h1
      rw [if_pos he] at hf
      refine ⟨i + 1, ⟨by omega, hf⟩, by omega, List.range (D.length + 5), ?_⟩
      rw [wrap_i64 (by omega) (by omega)]
      refine LeS_id (ex := []) (by simp [partB_length, hPn]) (Nat.le_add_right _ 3) (by simp) (by simp [leT]) (by simp [stL, stV]) hst
  · obtain rfl : i = D.length := by omega
    simp only [↓VC, VP, TT, List.getElem?_toArray, Nat.reduceEqDiff, reduceCtorEq, Nat.reduceAdd, Nat.reduceSub, Nat.reduceLT, Nat.reduceMul, Nat.reducePow, Nat.reduceLeDiff, Int.reduceToNat, Int.reduceLE, Int.reduceLT, Int.reducePow, (eq_false (by omega) : ((D.length : Int) < (D.length : Int)) = False), decide_false, List.cons_append]
    rw [Nat.sub_self, fbF] at hf
    rw [← hf]
    exact ⟨_, _, List.range (D.length + 2), ⟨rfl, rfl⟩, LeS_nestX rfl rfl (by simp [leT]) (by simp [stL, stV])⟩
theorem c_impl_lengthN (D : List (List UInt8 × Nat)) (c : Nat) : LC Try.prog 73 [.s 0 0 D.length c] (⟨false, ptrV 1 (bPs D)⟩ :: partB false (bPs D)) (fun v hp => v = .c (.int .i64 ((D.length : Nat))) ∧ hp = (⟨false, ptrV 1 (bPs D)⟩ :: partB false (bPs D))) := by
  refine LC_of (X := XX (fun _ => .nil) (fun _ => []) [19, 20, 48, 49, 59, 72, 93, 112, 174] (D.length + 1)) envOK Try.func73 (by kernel_rfl) (by kernel_rfl) (by simp [XX, partB_length, bPs_length]) (Nat.le_of_ble_eq_true (by kernel_rfl)) ?_
  simp only [kFun, Try.f73, List.length_nil, List.length_cons, Nat.sub_zero, Nat.reduceSub, Nat.reduceAdd, List.nil_append, List.cons_append, List.replicate_succ, List.replicate_zero]
  simp only [XX, ↓VC, VP, TT, List.getElem?_toArray, Nat.reduceEqDiff, reduceCtorEq, Nat.reduceAdd, Nat.reduceSub, Nat.reduceLT, Nat.reduceMul, Nat.reducePow, Nat.reduceLeDiff, Int.reduceToNat, Int.reduceLE, Int.reduceLT, Int.reducePow, partB_length, bPs_length]
  exact ⟨_, _, List.range (D.length + 1), ⟨rfl, rfl⟩, LeS_nest rfl (List.append_nil _).symm (by simp [leT]) (by simp [stL, stV])⟩
theorem k_impl_FirstBroken (c : Cip) (key T : List UInt8) (hk : key.length = 16) (D : List (List UInt8 × Nat)) (cc ct : Nat) (hm : D.length ≤ 20) (hL : ∀ p ∈ D, p.1.length ≤ p.2 ∧ p.1.length ≤ 2000) (hT : T.length = 32 * D.length) (hct : D.length ≤ ct) : LC Try.prog 25 [.a c.cells, .a (bs key), .s 0 0 D.length cc, .s (D.length + 1) 0 D.length ct] (⟨false, ptrV 1 (bPs D)⟩ :: (partB false (bPs D) ++ [⟨false, bs T⟩]))
    (fun v hp => v = .t [.c (.int .i64 ((fbF (tgL c key D D.length) T D.length 0 : Nat))), .c (.int .i64 (0))] ∧ hp = (⟨false, ptrV 1 (bPs D)⟩ :: (partB false (bPs D) ++ [⟨false, bs T⟩]))) := by
  have hPn := bPs_length D
  have key1 := k_impl_ChainOfTags c key hk D cc hm hL
  refine LC_of (X := XX (fun | 9 => .one 0 (.one 1 (.one 2 (.one 3 (.one 4 (.one 5 .nil))))) | _ => .nil) (fun _ => []) [19, 20, 48, 49, 59, 72, 93, 112, 174] (D.length + 2)) envOK Try.func25 (by kernel_rfl) (by kernel_rfl) (by simp [XX, partB_length, bPs_length]) (Nat.le_of_ble_eq_true (by kernel_rfl)) ?_
  simp only [kFun, Try.f25, List.length_nil, List.length_cons, Nat.sub_zero, Nat.reduceSub, Nat.reduceAdd, List.nil_append, List.cons_append, List.replicate_succ, List.replicate_zero]
  simp only [XX, ↓VC, VP, TT, List.getElem?_toArray, Nat.reduceEqDiff, reduceCtorEq, Nat.reduceAdd, Nat.reduceSub, Nat.reduceLT, Nat.reduceMul, Nat.reducePow, Nat.reduceLeDiff, Int.reduceToNat, Int.reduceLE, Int.reduceLT, Int.reducePow, k_len, ↓k_all, hk, partB_length, bPs_length, partB_skip hPn, partB_skip0 hPn, List.append_assoc, List.cons_append, List.nil_append]
  refine kCall_Ret key1 (by rfl) ((0, 0) :: rng 1 D.length) (by simp [CALL, k_inst, instL_bs]) seg_nest0 (by simp [okL, okV, k_ok, okL_bs]) (okB_nest (by simp [partB_length, hPn])) (by simp [okL_room]) fun r _ => ?_
  simp only [CALL, ↓VC, VP, TT, List.getElem?_toArray, Nat.reduceEqDiff, reduceCtorEq, Nat.reduceAdd, Nat.reduceSub, Nat.reduceLT, Nat.reduceMul, Nat.reducePow, Nat.reduceLeDiff, Int.reduceToNat, Int.reduceLE, Int.reduceLT, Int.reducePow, hk, partB_length, hPn, rng_length, rng_end, instL_room, List.append_assoc, List.cons_append, List.nil_append, bne_self_eq_false]
  have hA := tgL_len (c := c) (key := key) (D := D) D.length
  generalize tgL c key D D.length = A at *
  have hst : ∀ b ∈ (⟨false, ptrV 1 (bPs D)⟩ : Blk) :: (partB false (bPs D) ++ [⟨false, bs T⟩, ⟨true, c.cells⟩, ⟨true, bs key⟩, ⟨true, bs A ++ List.replicate (32 * r) .j⟩]), stL (D.length + 5) b.cells :=
    stB_cons (stL_ptrV (by omega)) (stB_app (stB_part bPs_st) (stB_cons (stL_bs _ _) (stB_cons (k_st _) (stB_cons (stL_bs _ _) (stB_cons (stL_room _ _ _) stB_nil)))))
  refine kLoop_of (fun i : Nat => ([.j, .j, .s 0 0 D.length cc, .s (D.length + 1) 0 D.length ct, .j, .j, .j, .j, .j, .j, .j, .j, .j, .j, .j, .j, .j, .j, .j, .j, .j, .j, .j, .j, .j, .j, .j, .j, .j, .j, .j, .s (D.length + 4) 0 D.length (D.length + r), .c (.int .i64 (D.length)), .c (.int .i64 (i)), .j, .j, .j, .j, .j, .j, .j, .j, .j, .j, .j, .j, .j, .j], ⟨false, ptrV 1 (bPs D)⟩ :: (partB false (bPs D) ++ [⟨false, bs T⟩, ⟨true, c.cells⟩, ⟨true, bs key⟩, ⟨true, bs A ++ List.replicate (32 * r) .j⟩]))) (fun i => D.length - i) (fun i => i ≤ D.length ∧ fbF A T (D.length - i) i = fbF A T D.length 0) 0 (by simp) ⟨List.range (D.length + 5), ?_⟩ ?_
  · refine LeS_id (ex := []) (by simp [partB_length, hPn]) (Nat.le_add_right _ 3) (by simp) (by simp [leT]) (by simp [stL, stV]) hst
  rintro i ⟨hi, hf⟩
  rcases Nat.lt_or_ge i D.length with h | h
  · have hA1 : i * 32 + 32 ≤ A.length := by omega
    have hT1 : i * 32 + 32 ≤ T.length := by omega
    have hdA := dgA_len hA h
    have hdT := dgA_len hT h
    rw [show D.length - i = (D.length - (i + 1)) + 1 by omega, fbF] at hf
    simp only [↓VC, VP, TT, List.getElem?_toArray, Nat.reduceEqDiff, reduceCtorEq, Nat.reduceAdd, Nat.reduceSub, Nat.reduceLT, Nat.reduceMul, Nat.reducePow, Nat.reduceLeDiff, Int.reduceToNat, Int.reduceLE, Int.reduceLT, Int.reducePow, (eq_true (by omega) : ((i : Int) < (D.length : Int)) = True), decide_true, List.cons_append, List.append_assoc, List.nil_append, partB_skip hPn, partB_skip0 hPn, partB_set hPn, partB_set0 hPn, List.set_cons_zero, List.set_cons_succ, partB_length, hPn, ↓vSub_appL (l := bs A) (o := i * 32) (n := 32) (by rw [bs_length]; exact hA1), dgA_eq, hA1, hT1, hdA, hdT, flatZ, Nat.mul_one, bs_length, List.length_replicate, Nat.le_refl, if_true, splice_bs, splB0 (show (dgA A i).length = (List.replicate 32 (0 : UInt8)).length by rw [hdA, List.length_replicate])]
    refine ⟨intCells_bs _, intCells_bs _, fun b hb => ⟨fun h1 => ?_, fun h1 => ?_⟩⟩
    · have hne : dgA A i ≠ dgA T i := fun e => by rw [bs_inj.symm, ← hb] at e; rw [e] at h1; exact absurd h1 (by decide)
      rw [if_neg hne] at hf
      rw [← hf]
      exact ⟨_, _, List.range (D.length + 2), ⟨rfl, rfl⟩, LeS_nestX rfl rfl (by simp [leT]) (by simp [stL, stV])⟩
    · have he : dgA A i = dgA T i := by
        rw [← bs_inj, ← hb]
        simpa using h1
      rw [if_pos he] at hf
      refine ⟨i + 1, ⟨by omega, hf⟩, by omega, List.range (D.length + 5), ?_⟩
      rw [wrap_i64 (by omega) (by omega)]
      refine LeS_id (ex := [_]) (by simp [partB_length, hPn]) (Nat.le_add_right _ 3) (by simp; rfl) (by simp [leT]) (by simp [stL, stV]) hst
  · obtain rfl : i = D.length := by omega
    simp only [↓VC, VP, TT, List.getElem?_toArray, Nat.reduceEqDiff, reduceCtorEq, Nat.reduceAdd, Nat.reduceSub, Nat.reduceLT, Nat.reduceMul, Nat.reducePow, Nat.reduceLeDiff, Int.reduceToNat, Int.reduceLE, Int.reduceLT, Int.reducePow, (eq_false (by omega) : ((D.length : Int) < (D.length : Int)) = False), decide_false, List.cons_append]
    rw [Nat.sub_self, fbF] at hf
    rw [← hf]
    refine kCall_val (c_impl_lengthN D cc) (by rfl) ((0, 0) :: rng 1 D.length) (by simp [CALL]) seg_nest0 (by simp [okL, okV]) (okB_nest (by simp [partB_length, hPn])) ?_
    simp only [CALL, ↓VC, VP, TT, List.getElem?_toArray, Nat.reduceEqDiff, reduceCtorEq, Nat.reduceAdd, Nat.reduceSub, Nat.reduceLT, Nat.reduceMul, Nat.reducePow, Nat.reduceLeDiff, Int.reduceToNat, Int.reduceLE, Int.reduceLT, Int.reducePow]
    exact ⟨_, _, List.range (D.length + 2), ⟨rfl, rfl⟩, LeS_nestX rfl rfl (by simp [leT]) (by simp [stL, stV])⟩
theorem c_spec_FirstBroken_no (z n : Int) (box A pl key T : List UInt8) (hb : box.length = 256) (hA : A.length = 16) (hp : pl.length = 16) (hk : key.length = 16) (D : List (List UInt8 × Nat)) (c m ct : Nat) (hm : D.length ≤ 1048576) (hmm : m ≤ 1048576) (hL : ∀ p ∈ D, p.1.length ≤ 1048576) (hE : ¬ (lstE z box A pl n D = 0 ∧ D.length = m)) : LC Try.prog 23 [.a (cipC z box A pl n), .a (bs key), .s 0 0 D.length c, .s (D.length + 1) 0 m ct] (⟨false, ptrV 1 (bPs D)⟩ :: (partB false (bPs D) ++ [⟨false, bs T⟩]))
    (fun v hp => v = .t [.c (.int .i64 (0)), .c (.int .i64 ((if lstE z box A pl n D = 0 then 2 else lstE z box A pl n D)))] ∧ hp = (⟨false, ptrV 1 (bPs D)⟩ :: (partB false (bPs D) ++ [⟨false, bs T⟩]))) := by
  have hPn := bPs_length D
  refine LC_of (X := XX (fun | 10 => .one 0 (.one 1 (.one 2 (.one 3 (.one 4 (.one 5 (.one 6 (.one 7 (.one 8 .nil)))))))) | _ => .nil) (fun _ => []) [19, 20, 48, 49, 59, 72, 93, 112, 174] (D.length + 2)) envOK Try.func23 (by kernel_rfl) (by kernel_rfl) (by simp [XX, partB_length, bPs_length]) (Nat.le_of_ble_eq_true (by kernel_rfl)) ?_
  simp only [kFun, Try.f23, List.length_nil, List.length_cons, Nat.sub_zero, Nat.reduceSub, Nat.reduceAdd, List.nil_append, List.cons_append, List.replicate_succ, List.replicate_zero]
  simp only [XX, ↓VC, VP, TT, List.getElem?_toArray, Nat.reduceEqDiff, reduceCtorEq, Nat.reduceAdd, Nat.reduceSub, Nat.reduceLT, Nat.reduceMul, Nat.reducePow, Nat.reduceLeDiff, Int.reduceToNat, Int.reduceLE, Int.reduceLT, Int.reducePow, cipC_len hb hA hp, ↓cip_all hb hA hp, hk, partB_length, bPs_length, partB_skip hPn, partB_skip0 hPn, List.append_assoc, List.cons_append, List.nil_append]
  refine kCall_val (c_spec_l08Lists z n box A pl hb hA hp D c hm hL) (by rfl) ((0, 0) :: rng 1 D.length) (by simp [CALL, instL_cip]) seg_nest0 (by simp [okL, okV, okL_cip]) (okB_nest (by simp [partB_length, hPn])) ?_
  by_cases h0 : lstE z box A pl n D = 0
  · have hne : D.length ≠ m := fun e => hE ⟨h0, e⟩
    rw [h0, if_pos rfl]
    simp only [CALL, ↓VC, VP, TT, List.getElem?_toArray, Nat.reduceEqDiff, reduceCtorEq, Nat.reduceAdd, Nat.reduceSub, Nat.reduceLT, Nat.reduceMul, Nat.reducePow, Nat.reduceLeDiff, Int.reduceToNat, Int.reduceLE, Int.reduceLT, Int.reducePow, cipC_len hb hA hp, ↓cip_all hb hA hp, hk, partB_length, bPs_length, partB_skip hPn, partB_skip0 hPn, List.append_assoc, List.cons_append, List.nil_append, beq_self_eq_true, (bne_iff_ne.2 (by omega) : ((D.length : Int) != (m : Int)) = true), (by decide : ((2 : Int) != 0) = true)]
    exact ⟨_, _, List.range (D.length + 2), ⟨rfl, rfl⟩, LeS_nestX rfl rfl (by simp [leT]) (by simp [stL, stV])⟩
  · rw [if_neg h0]
    simp only [CALL, ↓VC, VP, TT, List.getElem?_toArray, Nat.reduceEqDiff, reduceCtorEq, Nat.reduceAdd, Nat.reduceSub, Nat.reduceLT, Nat.reduceMul, Nat.reducePow, Nat.reduceLeDiff, Int.reduceToNat, Int.reduceLE, Int.reduceLT, Int.reducePow, cipC_len hb hA hp, ↓cip_all hb hA hp, hk, partB_length, bPs_length, partB_skip hPn, partB_skip0 hPn, List.append_assoc, List.cons_append, List.nil_append, (beq_eq_false_iff_ne.2 h0 : (lstE z box A pl n D == 0) = false), (bne_iff_ne.2 h0 : (lstE z box A pl n D != 0) = true)]
    exact ⟨_, _, List.range (D.length + 2), ⟨rfl, rfl⟩, LeS_nestX rfl rfl (by simp [leT]) (by simp [stL, stV])⟩
theorem c_impl_FirstBroken_no (z n : Int) (box A pl key T : List UInt8) (hb : box.length = 256) (hA : A.length = 16) (hp : pl.length = 16) (hk : key.length = 16) (D : List (List UInt8 × Nat)) (c m ct : Nat) (hm : D.length ≤ 1048576) (hmm : m ≤ 1048576) (hL : ∀ p ∈ D, p.1.length ≤ p.2 ∧ p.1.length ≤ 1048576) (hE : ¬ (lstE z box A pl n D = 0 ∧ D.length = m)) : LC Try.prog 25 [.a (cipC z box A pl n), .a (bs key), .s 0 0 D.length c, .s (D.length + 1) 0 m ct] (⟨false, ptrV 1 (bPs D)⟩ :: (partB false (bPs D) ++ [⟨false, bs T⟩]))
    (fun v hp => v = .t [.c (.int .i64 (0)), .c (.int .i64 ((if lstE z box A pl n D = 0 then 2 else lstE z box A pl n D)))] ∧ hp = (⟨false, ptrV 1 (bPs D)⟩ :: (partB false (bPs D) ++ [⟨false, bs T⟩]))) := by
  have hPn := bPs_length D
  refine LC_of (X := XX (fun | 9 => .one 0 (.one 1 (.one 2 (.one 3 (.one 4 (.one 5 .nil))))) | _ => .nil) (fun _ => []) [19, 20, 48, 49, 59, 72, 93, 112, 174] (D.length + 2)) envOK Try.func25 (by kernel_rfl) (by kernel_rfl) (by simp [XX, partB_length, bPs_length]) (Nat.le_of_ble_eq_true (by kernel_rfl)) ?_
  simp only [kFun, Try.f25, List.length_nil, List.length_cons, Nat.sub_zero, Nat.reduceSub, Nat.reduceAdd, List.nil_append, List.cons_append, List.replicate_succ, List.replicate_zero]
  simp only [XX, ↓VC, VP, TT, List.getElem?_toArray, Nat.reduceEqDiff, reduceCtorEq, Nat.reduceAdd, Nat.reduceSub, Nat.reduceLT, Nat.reduceMul, Nat.reducePow, Nat.reduceLeDiff, Int.reduceToNat, Int.reduceLE, Int.reduceLT, Int.reducePow, cipC_len hb hA hp, ↓cip_all hb hA hp, hk, partB_length, bPs_length, partB_skip hPn, partB_skip0 hPn, List.append_assoc, List.cons_append, List.nil_append]
  by_cases h0 : lstE z box A pl n D = 0
  · have hne : D.length ≠ m := fun e => hE ⟨h0, e⟩
    rw [h0, if_pos rfl]
    have hB : cipB z box A pl n = true ∧ D.length ≤ 20 ∧ bigB D = false := by
      by_cases h : cipB z box A pl n = true ∧ D.length ≤ 20 ∧ bigB D = false
      · exact h
      · exact absurd h0 (lstE_no h)
    obtain ⟨hB, h20, hbig⟩ := hB
    obtain ⟨k, rfl, rfl, rfl, rfl, rfl⟩ := cip_of hb hA hp hB
    rw [show cipC k.m k.box k.A k.pl k.n = k.cells from rfl] at *
    refine kCall_Ret (k_impl_ChainOfTags k key hk D c h20 fun p hp => ⟨(hL p hp).1, bigB_all hbig p hp⟩) (by rfl) ((0, 0) :: rng 1 D.length) (by simp [CALL, k_inst, instL_bs]) seg_nest0 (by simp [okL, okV, k_ok, okL_bs]) (okB_nest (by simp [partB_length, hPn])) (by simp [okL_room]) fun r _ => ?_
    simp only [CALL, ↓VC, VP, TT, List.getElem?_toArray, Nat.reduceEqDiff, reduceCtorEq, Nat.reduceAdd, Nat.reduceSub, Nat.reduceLT, Nat.reduceMul, Nat.reducePow, Nat.reduceLeDiff, Int.reduceToNat, Int.reduceLE, Int.reduceLT, Int.reducePow, hk, partB_length, hPn, rng_length, rng_end, instL_room, List.append_assoc, List.cons_append, List.nil_append, bne_self_eq_false, (bne_iff_ne.2 (by omega) : ((m : Int) != (D.length : Int)) = true)]
    exact ⟨_, _, List.range (D.length + 2), ⟨rfl, rfl⟩, LeS_nestX rfl rfl (by simp [leT]) (by simp [stL, stV])⟩
  · rw [if_neg h0]
    refine kCall_Ret (c_impl_ChainOfTags_no z n box A pl key hb hA hp hk D c hm h0) (by rfl) ((0, 0) :: rng 1 D.length) (by simp [CALL, instL_cip, instL_bs]) seg_nest0 (by simp [okL, okV, okL_cip, okL_bs]) (okB_nest (by simp [partB_length, hPn])) (by simp [okL_room]) fun r _ => ?_
    simp only [CALL, ↓VC, VP, TT, List.getElem?_toArray, Nat.reduceEqDiff, reduceCtorEq, Nat.reduceAdd, Nat.reduceSub, Nat.reduceLT, Nat.reduceMul, Nat.reducePow, Nat.reduceLeDiff, Int.reduceToNat, Int.reduceLE, Int.reduceLT, Int.reducePow, hk, partB_length, hPn, rng_length, rng_end, instL_room, List.append_assoc, List.cons_append, List.nil_append, (bne_iff_ne.2 h0 : (lstE z box A pl n D != 0) = true)]
    exact ⟨_, _, List.range (D.length + 2), ⟨rfl, rfl⟩, LeS_nestX rfl rfl (by simp [leT]) (by simp [stL, stV])⟩
theorem fb_both (z n : Int) (box A pl key T : List UInt8) (hb : box.length = 256) (hA : A.length = 16) (hp : pl.length = 16) (hk : key.length = 16) (D : List (List UInt8 × Nat)) (c m ct : Nat) (hm : D.length ≤ 1048576) (hmm : m ≤ 1048576) (hL : ∀ p ∈ D, p.1.length ≤ p.2 ∧ p.1.length ≤ 1048576) (hT : T.length = 32 * m) (hct : m ≤ ct) : ∃ v e : Int,
    LC Try.prog 23 [.a (cipC z box A pl n), .a (bs key), .s 0 0 D.length c, .s (D.length + 1) 0 m ct] (⟨false, ptrV 1 (bPs D)⟩ :: (partB false (bPs D) ++ [⟨false, bs T⟩])) (fun x hp => x = .t [.c (.int .i64 (v)), .c (.int .i64 (e))] ∧ hp = (⟨false, ptrV 1 (bPs D)⟩ :: (partB false (bPs D) ++ [⟨false, bs T⟩]))) ∧
    LC Try.prog 25 [.a (cipC z box A pl n), .a (bs key), .s 0 0 D.length c, .s (D.length + 1) 0 m ct] (⟨false, ptrV 1 (bPs D)⟩ :: (partB false (bPs D) ++ [⟨false, bs T⟩])) (fun x hp => x = .t [.c (.int .i64 (v)), .c (.int .i64 (e))] ∧ hp = (⟨false, ptrV 1 (bPs D)⟩ :: (partB false (bPs D) ++ [⟨false, bs T⟩]))) := by
  by_cases hE : lstE z box A pl n D = 0 ∧ D.length = m
  · obtain ⟨h0, rfl⟩ := hE
    have hB : cipB z box A pl n = true ∧ D.length ≤ 20 ∧ bigB D = false := by
      by_cases h : cipB z box A pl n = true ∧ D.length ≤ 20 ∧ bigB D = false
      · exact h
      · exact absurd h0 (lstE_no h)
    obtain ⟨hB, h20, hbig⟩ := hB
    obtain ⟨k, rfl, rfl, rfl, rfl, rfl⟩ := cip_of hb hA hp hB
    exact ⟨_, _, k_spec_FirstBroken k key T hk D c ct h20 (fun p hp => ⟨(hL p hp).1, bigB_all hbig p hp⟩) hT hct, k_impl_FirstBroken k key T hk D c ct h20 (fun p hp => ⟨(hL p hp).1, bigB_all hbig p hp⟩) hT hct⟩
  · exact ⟨_, _, c_spec_FirstBroken_no z n box A pl key T hb hA hp hk D c m ct hm hmm (fun p hp => (hL p hp).2) hE, c_impl_FirstBroken_no z n box A pl key T hb hA hp hk D c m ct hm hmm hL hE⟩
end Go.Proofs.Ytcfhdogmkbfnhaa

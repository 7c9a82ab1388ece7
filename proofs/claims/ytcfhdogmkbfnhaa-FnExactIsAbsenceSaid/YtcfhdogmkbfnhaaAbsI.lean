import Derived.Test.YtcfhdogmkbfnhaaAbs
/- Absences: the program's function, over any memory. -/
set_option linter.unusedSimpArgs false
set_option linter.unusedVariables false
namespace Go.Proofs.Ytcfhdogmkbfnhaa
open Go Go.Vc
set_option maxRecDepth 10000
set_option maxHeartbeats 4000000
theorem repl_len {a : UInt8} {n : Nat} : (List.replicate n a).length = n := List.length_replicate
section
variable {H : List Blk} {m c1 c2 g1 g2 b : Nat} {K r d : List UInt8} {D : List (List UInt8 × Nat)}
theorem c_impl_IsAbsence (hst : stM H) (hr : r.length = 32) (hd : d.length = 32) (n z : Int) (hK : K.length = 32 * m) (hc1 : m ≤ c1) (hm : m ≤ 1048576) (hDn : D.length ≤ 1048576) (hL : ∀ p ∈ D, p.1.length = 32 * (p.1.length / 32) ∧ p.1.length / 32 ≤ p.2 ∧ p.1.length / 32 ≤ 1048576) (f1 : bAt H g1 (bs K)) (f2 : nAt H g2 b (dPs D)) :
    LC Try.prog 55 [.a (bs r), .c (.int .i64 (n)), .a (bs d), .a [.c (.int .i64 (z)), .s g1 0 m c1, .s g2 0 D.length c2]] H (fun v hp => v = .c (.bool (absB r d n z m K D)) ∧ hp = H) := by
  have l1 := f1.lt
  have l2 := f2.1.lt
  have fin : ∀ {hp : List Blk} {v : Bool}, Ext H hp → ∃ (v' : V) (hp' : List Blk) (σ : List Nat), (v' = .c (.bool (v)) ∧ hp' = H) ∧ LeS H.length σ [.c (.bool (v))] hp [v'] hp' := fun x => ⟨_, _, List.range H.length, ⟨rfl, rfl⟩, LeS_mem rfl x (by simp [leT]) (by simp [stL, stV]) hst⟩
  have hll : ∀ x, (H ++ [x]).length = H.length + 1 := fun x => by simp
  have hll2 : ∀ x y, ((H ++ [x]) ++ [y]).length = H.length + 1 + 1 := fun x y => by simp
  refine LC_of (X := XX (fun | 16 => .one 0 (.one 1 (.one 2 (.one 3 (.one 4 (.one 5 (.one 6 (.one 7 .nil))))))) | 19 => .one 0 (.one 1 (.one 2 (.one 3 (.one 4 (.one 5 (.one 6 (.one 7 (.one 8 (.one 9 (.one 10 (.one 11 (.one 12 (.one 13 (.one 14 (.one 15 (.one 16 (.one 17 (.one 18 (.one 19 .nil))))))))))))))))))) | 23 => .one 0 (.one 1 (.one 2 (.one 3 (.one 4 (.one 5 (.one 6 (.one 7 (.one 8 .nil)))))))) | _ => .nil) (fun | 19 => [(17, 16)] | _ => []) [19, 20, 48, 49, 59, 72, 93, 112, 174] (H.length)) envOK Try.func55 (by kernel_rfl) (by kernel_rfl) (by simp [XX]) (Nat.le_of_ble_eq_true (by kernel_rfl)) ?_
  simp only [kFun, Try.f55, List.length_nil, List.length_cons, Nat.sub_zero, Nat.reduceSub, Nat.reduceAdd, List.nil_append, List.cons_append, List.replicate_succ, List.replicate_zero]
  simp only [XX, ↓VC, VP, TT, List.getElem?_toArray, Nat.reduceEqDiff, reduceCtorEq, Nat.reduceAdd, Nat.reduceSub, Nat.reduceLT, Nat.reduceMul, Nat.reducePow, Nat.reduceLeDiff, Int.reduceToNat, Int.reduceLE, Int.reduceLT, Int.reducePow, hr, hd, hll, hll2]
  obtain ⟨hp1, e1⟩ : ∃ hp1, hp1 = H ++ [⟨true, bs r⟩] ++ [⟨true, bs d⟩] ++ [⟨true, [.c (.int .i64 (z)), V.s g1 0 m c1, V.s g2 0 D.length c2]⟩] := ⟨_, rfl⟩
  rw [← e1]
  have x1 : Ext H hp1 := ⟨_, by rw [e1, List.append_assoc, List.append_assoc]⟩
  have fr : hp1[H.length]? = some ⟨true, bs r⟩ := by rw [e1]; exact app_3a
  have fd : hp1[H.length + 1]? = some ⟨true, bs d⟩ := by rw [e1]; exact app_3b
  have fa : hp1[H.length + 1 + 1]? = some ⟨true, [.c (.int .i64 (z)), V.s g1 0 m c1, V.s g2 0 D.length c2]⟩ := by rw [e1]; exact app_3c
  have hst1 : stM hp1 := by
    rw [e1]
    exact ((hst.app (stB_cons (stL_bs _ _) stB_nil)).app (stB_cons (stL_bs _ _) stB_nil)).app (by simp [stL, stV]; omega)
  have ll : hp1.length = H.length + 3 := by simp [e1]
  clear e1
  refine kCall_val (c_impl_inRange n 0 64) (by rfl) [] (by simp [CALL]) (by simp [CALL, cellsAt]) (by simp [CALL]) (by simp [okL_bs]) ?_
  by_cases h1 : 0 ≤ n ∧ n ≤ 64
  · simp only [CALL, ↓VC, VP, TT, List.getElem?_toArray, Nat.reduceEqDiff, reduceCtorEq, Nat.reduceAdd, Nat.reduceSub, Nat.reduceLT, Nat.reduceMul, Nat.reducePow, Nat.reduceLeDiff, Int.reduceToNat, Int.reduceLE, Int.reduceLT, Int.reducePow, h1, and_self, decide_true, Bool.not_true, fa]
    refine kCall_val (c_impl_inRange z 0 n) (by rfl) [] (by simp [CALL]) (by simp [CALL, cellsAt]) (by simp [CALL]) (by simp [okL_bs]) ?_
    by_cases h2 : 0 ≤ z ∧ z ≤ n
    · obtain ⟨n, rfl⟩ : ∃ k : Nat, n = k := ⟨n.toNat, by omega⟩
      obtain ⟨z, rfl⟩ : ∃ k : Nat, z = k := ⟨z.toNat, by omega⟩
      simp only [CALL, ↓VC, VP, TT, List.getElem?_toArray, Nat.reduceEqDiff, reduceCtorEq, Nat.reduceAdd, Nat.reduceSub, Nat.reduceLT, Nat.reduceMul, Nat.reducePow, Nat.reduceLeDiff, Int.reduceToNat, Int.reduceLE, Int.reduceLT, Int.reducePow, h2, and_self, decide_true, Bool.not_true, fa]
      have hA : ∀ x, (hp1 ++ [x])[H.length + 1 + 1]? = some ⟨true, [.c (.int .i64 (z)), V.s g1 0 m c1, V.s g2 0 D.length c2]⟩ := fun x => by rw [List.getElem?_append_left (by omega)]; exact fa
      have ez : IntKind.i64.wrap ((z : Int) - 1) = (z : Int) - 1 := wrap_i64 (by omega) (by omega)
      have en : IntKind.i64.wrap ((n : Int) - 1) = (n : Int) - 1 := wrap_i64 (by omega) (by omega)
      simp only [↓VC, VP, TT, List.getElem?_toArray, Nat.reduceEqDiff, reduceCtorEq, Nat.reduceAdd, Nat.reduceSub, Nat.reduceLT, Nat.reduceMul, Nat.reducePow, Nat.reduceLeDiff, Int.reduceToNat, Int.reduceLE, Int.reduceLT, Int.reducePow, hA, ez]
      have hl1 : ∀ x, (hp1 ++ [x]).length = hp1.length + 1 := fun x => by simp
      have hP0 : ∀ x, (hp1 ++ [x])[hp1.length]? = some x := fun x => at_app rfl
      have hstP : ∀ (L : List Int) (r : Nat), ∀ b ∈ hp1 ++ [⟨true, nsv L ++ List.replicate r .j⟩], stL (hp1.length + 1) b.cells := fun L r b hb => by
        have := (hst1.app (R := [⟨true, nsv L ++ List.replicate r .j⟩]) (stB_cons (stL_app.2 ⟨stL_nsv _ _, stL_rep _ _⟩) stB_nil)) b hb
        rwa [hl1] at this
      refine kLoop_of (fun s : Nat × Nat => ([.j, .c (.int .i64 (n)), .j, .j, .p H.length 0, .j, .p (H.length + 1) 0, .p (H.length + 1 + 1) 0, .j, .s hp1.length 0 (plA n z s.1).length ((plA n z s.1).length + s.2), .j, .j, .j, .j, .j, .j, .j, .j, .j, .j, .j, .j, .j, .j, .j, .j, .j, .j, .j, .j, .j, .j, .j, .j, .a [.c (.int .i64 ((z : Int) - 1)), .c (.int .i64 (z : Int))], .c (.int .i64 (s.1)), .j, .j, .j, .j, .j, .j, .j, .j, .j, .j, .j, .j, .j, .j, .j, .j, .j, .j, .j, .j, .j, .j, .j, .j, .j, .j, .j, .j, .j, .j, .j, .j, .j, .j, .j, .j, .j, .j, .j, .j, .j, .j, .j, .j, .j, .j, .j, .j, .j, .j, .j, .j, .j, .j, .j, .j, .j, .j, .j, .j, .j, .j, .j, .j, .j, .j, .j, .j, .j, .j, .j, .j, .j, .j, .j, .j, .j, .j, .j, .j, .j, .j, .j, .j, .j, .j, .j, .j, .j, .j, .j], hp1 ++ [⟨true, nsv (plA n z s.1) ++ List.replicate s.2 .j⟩])) (fun s => 2 - s.1) (fun s => s.1 ≤ 2) (0, 0) (by simp) ⟨List.range (hp1.length + 1), LeS_id (ex := []) (hl1 _) (show H.length ≤ hp1.length + 1 by omega) (by simp [plA, nsv]) (by simp [leT, plA]) (by simp [stL, stV, plA]; omega) (hstP _ _)⟩ ?_
      rintro ⟨j, r0⟩ hj
      simp only at hj
      match j, hj with
      | 0, _ =>
        simp only [↓VC, VP, TT, List.getElem?_toArray, Nat.reduceEqDiff, reduceCtorEq, Nat.reduceAdd, Nat.reduceSub, Nat.reduceLT, Nat.reduceMul, Nat.reducePow, Nat.reduceLeDiff, Int.reduceToNat, Int.reduceLE, Int.reduceLT, Int.reducePow, (by decide : (((0 : Nat) : Int) < 2) = True), decide_true, en]
        repeat (refine ⟨by first | omega | (simp; done) | decide, ?_⟩)
        refine kCall_val (c_impl_inRange ((z : Int) - 1) 0 ((n : Int) - 1)) (by rfl) [] (by simp [CALL]) (by simp [CALL]) (by simp [CALL, okL, okV]) (by simp) ?_
        by_cases hz : 1 ≤ z
        · simp only [CALL, ↓VC, VP, TT, List.getElem?_toArray, Nat.reduceEqDiff, reduceCtorEq, Nat.reduceAdd, Nat.reduceSub, Nat.reduceLT, Nat.reduceMul, Nat.reducePow, Nat.reduceLeDiff, Int.reduceToNat, Int.reduceLE, Int.reduceLT, Int.reducePow, (eq_true (by omega) : (0 ≤ (z : Int) - 1) = True), (eq_true (by omega) : ((z : Int) - 1 ≤ (n : Int) - 1) = True), and_self, decide_true, ↓app_last2, ↓app_last1, set_2, if_true]
          have hlen : (plA n z 0).length ≤ 1 := plA_le
          refine ⟨by omega, by omega, by simp [nsv_length], .inr (by simp [nsv_length]), fun r1 c1' e1 e2 => ⟨(1, r1), by simp, by simp, List.range hp1.length ++ [hp1.length + 1 + 1], ?_⟩⟩
          have e : plA n z 1 = plA n z 0 ++ [(z : Int) - 1] := by simp [plA, hz]; omega
          rw [e, e1]
          refine LeS_pre (A := hp1) (B := [_]) (X := [_, _, _]) rfl (show H.length ≤ hp1.length by omega) (by simp only [List.append_assoc, List.cons_append, List.nil_append]; rfl) (by simp) (by simp; omega) rfl (by simp only [leTm, leV, V.ren, V.renL, range_getD_lt (show H.length < hp1.length by omega), range_getD_lt (show H.length + 1 < hp1.length by omega), range_getD_lt (show H.length + 1 + 1 < hp1.length by omega), range_getD_eq, List.getD_cons_zero, List.length_append, List.length_singleton]; simp; decide) hst1 (by refine ⟨.inr ?_, trivial⟩; rw [app_3c]; refine ⟨?_, fun _ => rfl⟩; rw [← nsv_snoc]; simp [nsv_take, renL_app, renL_nsv, renL_rep, V.renL, V.ren]) (by simp [okL, okV]; omega) (by simp [okL_app, okL_nsv, okL_rep])
        · simp only [CALL, ↓VC, VP, TT, List.getElem?_toArray, Nat.reduceEqDiff, reduceCtorEq, Nat.reduceAdd, Nat.reduceSub, Nat.reduceLT, Nat.reduceMul, Nat.reducePow, Nat.reduceLeDiff, Int.reduceToNat, Int.reduceLE, Int.reduceLT, Int.reducePow, (eq_false (by omega) : (0 ≤ (z : Int) - 1) = False), false_and, decide_false]
          have e : plA n z 1 = plA n z 0 := by simp [plA, hz]
          refine ⟨(1, r0), by simp, by simp, List.range (hp1.length + 1), ?_⟩
          rw [e]
          exact LeS_id (ex := []) (hl1 _) (show H.length ≤ hp1.length + 1 by omega) (by simp) (by simp [leT]; decide) (by simp [stL, stV]; omega) (hstP _ _)
      | 1, _ =>
        simp only [↓VC, VP, TT, List.getElem?_toArray, Nat.reduceEqDiff, reduceCtorEq, Nat.reduceAdd, Nat.reduceSub, Nat.reduceLT, Nat.reduceMul, Nat.reducePow, Nat.reduceLeDiff, Int.reduceToNat, Int.reduceLE, Int.reduceLT, Int.reducePow, (by decide : (((1 : Nat) : Int) < 2) = True), decide_true, en]
        repeat (refine ⟨by first | omega | (simp; done) | decide, ?_⟩)
        refine kCall_val (c_impl_inRange ((z : Int)) 0 ((n : Int) - 1)) (by rfl) [] (by simp [CALL]) (by simp [CALL]) (by simp [CALL, okL, okV]) (by simp) ?_
        by_cases hz : z < n
        · simp only [CALL, ↓VC, VP, TT, List.getElem?_toArray, Nat.reduceEqDiff, reduceCtorEq, Nat.reduceAdd, Nat.reduceSub, Nat.reduceLT, Nat.reduceMul, Nat.reducePow, Nat.reduceLeDiff, Int.reduceToNat, Int.reduceLE, Int.reduceLT, Int.reducePow, (eq_true (by omega) : (0 ≤ (z : Int)) = True), (eq_true (by omega) : ((z : Int) ≤ (n : Int) - 1) = True), and_self, decide_true, ↓app_last2, ↓app_last1, set_2, if_true]
          have hlen : (plA n z 1).length ≤ 1 := plA_le
          refine ⟨by omega, by omega, by simp [nsv_length], .inr (by simp [nsv_length]), fun r1 c1' e1 e2 => ⟨(2, r1), by simp, by simp, List.range hp1.length ++ [hp1.length + 1 + 1], ?_⟩⟩
          have e : plA n z 2 = plA n z 1 ++ [(z : Int)] := by simp [plA, hz]
          rw [e, e1]
          refine LeS_pre (A := hp1) (B := [_]) (X := [_, _, _]) rfl (show H.length ≤ hp1.length by omega) (by simp only [List.append_assoc, List.cons_append, List.nil_append]; rfl) (by simp) (by simp; omega) rfl (by simp only [leTm, leV, V.ren, V.renL, range_getD_lt (show H.length < hp1.length by omega), range_getD_lt (show H.length + 1 < hp1.length by omega), range_getD_lt (show H.length + 1 + 1 < hp1.length by omega), range_getD_eq, List.getD_cons_zero, List.length_append, List.length_singleton]; simp; decide) hst1 (by refine ⟨.inr ?_, trivial⟩; rw [app_3c]; refine ⟨?_, fun _ => rfl⟩; rw [← nsv_snoc]; simp [nsv_take, renL_app, renL_nsv, renL_rep, V.renL, V.ren]) (by simp [okL, okV]; omega) (by simp [okL_app, okL_nsv, okL_rep])
        · simp only [CALL, ↓VC, VP, TT, List.getElem?_toArray, Nat.reduceEqDiff, reduceCtorEq, Nat.reduceAdd, Nat.reduceSub, Nat.reduceLT, Nat.reduceMul, Nat.reducePow, Nat.reduceLeDiff, Int.reduceToNat, Int.reduceLE, Int.reduceLT, Int.reducePow, (eq_false (by omega) : ((z : Int) ≤ (n : Int) - 1) = False), and_false, decide_false]
          have e : plA n z 2 = plA n z 1 := by simp [plA, hz]
          refine ⟨(2, r0), by simp, by simp, List.range (hp1.length + 1), ?_⟩
          rw [e]
          exact LeS_id (ex := []) (hl1 _) (show H.length ≤ hp1.length + 1 by omega) (by simp) (by simp [leT]; decide) (by simp [stL, stV]; omega) (hstP _ _)
      | 2, _ =>
        simp only [↓VC, VP, TT, List.getElem?_toArray, Nat.reduceEqDiff, reduceCtorEq, Nat.reduceAdd, Nat.reduceSub, Nat.reduceLT, Nat.reduceMul, Nat.reducePow, Nat.reduceLeDiff, Int.reduceToNat, Int.reduceLE, Int.reduceLT, Int.reducePow, (by decide : (((2 : Nat) : Int) < 2) = False), decide_false]
        obtain ⟨hp2, e2⟩ : ∃ hp2, hp2 = hp1 ++ [⟨true, nsv (plA n z 2) ++ List.replicate r0 .j⟩] := ⟨_, rfl⟩
        rw [← e2]
        have x2 : Ext hp1 hp2 := ⟨_, e2⟩
        have fP : hp2[hp1.length]? = some ⟨true, nsv (plA n z 2) ++ List.replicate r0 .j⟩ := by rw [e2]; exact at_app rfl
        have hst2 : stM hp2 := by rw [e2]; intro b hb; rw [hl1]; exact hstP _ _ b hb
        have l2' : hp2.length = hp1.length + 1 := by rw [e2]; exact hl1 _
        replace fr := x2.get fr; replace fd := x2.get fd; replace fa := x2.get fa; replace x1 := x1.trans x2
        clear e2 hA hl1 hP0 hstP x2 hj
        have hpl := plA_len (n := n) (z := z) (by omega)
        refine kA_ret c_newHasher (by rfl) [] (by simp [CALL]) (by simp [CALL]) (by simp [CALL]) (by simp) (by simp [hB]) fun _ N3 hp3 _ eN3 e3 => ?_
        obtain ⟨x3, he, l3, hs3⟩ := hB_new eN3 e3
        have hst3 := hs3 hst2
        replace fr := x3.get fr; replace fd := x3.get fd; replace fa := x3.get fa; replace fP := x3.get fP; replace x1 := x1.trans x3
        clear e3 x3
        simp only [CALL, ↓VC, VP, TT, List.getElem?_toArray, Nat.reduceEqDiff, reduceCtorEq, Nat.reduceAdd, Nat.reduceSub, Nat.reduceLT, Nat.reduceMul, Nat.reducePow, Nat.reduceLeDiff, Int.reduceToNat, Int.reduceLE, Int.reduceLT, Int.reducePow, ↓app_last, set_last]
        obtain ⟨hp4, e4⟩ : ∃ hp4, hp4 = hp3 ++ [⟨true, [V.p N3 0]⟩] := ⟨_, rfl⟩
        have x4 : Ext hp3 hp4 := ⟨_, e4⟩
        have fH : hp4[hp3.length]? = some ⟨true, [V.p N3 0]⟩ := by rw [e4]; exact at_app rfl
        have hst4 : stM hp4 := by rw [e4]; exact hst3.app (by simp [stL, stV]; omega)
        have l4 : hp4.length = hp3.length + 1 := by simp [e4]
        rw [← e4]
        replace fr := x4.get fr; replace fd := x4.get fd; replace fa := x4.get fa; replace fP := x4.get fP; replace he := he.mono x4; replace x1 := x1.trans x4
        clear e4 x4
        obtain ⟨o1, X1, f1⟩ := f1
        obtain ⟨⟨o2, X2, f2⟩, f3⟩ := f2
        replace f1 := x1.get f1; replace f2 := x1.get f2
        by_cases h3 : m = cntA n z ∧ D.length = cntA n z
        · obtain ⟨hmc, hDc⟩ := h3
          obtain rfl : m = D.length := by omega
          rw [← hDc] at hpl
          simp only [↓VC, VP, TT, List.getElem?_toArray, Nat.reduceEqDiff, reduceCtorEq, Nat.reduceAdd, Nat.reduceSub, Nat.reduceLT, Nat.reduceMul, Nat.reducePow, Nat.reduceLeDiff, Int.reduceToNat, Int.reduceLE, Int.reduceLT, Int.reducePow, fa, hpl, bne_self_eq_false]
          refine kLoop_of (fun k : Nat => ([.j, .c (.int .i64 (n)), .j, .j, .p H.length 0, .j, .p (H.length + 1) 0, .p (H.length + 1 + 1) 0, .j, .j, .j, .j, .p hp3.length 0, .j, .j, .j, .j, .j, .j, .j, .j, .j, .j, .j, .j, .j, .j, .j, .j, .j, .j, .j, .j, .j, .j, .j, .j, .j, .j, .j, .j, .j, .j, .j, .j, .j, .j, .j, .j, .j, .j, .j, .j, .j, .j, .j, .j, .j, .j, .j, .j, .j, .s hp1.length 0 D.length (D.length + r0), .c (.int .i64 (D.length)), .c (.int .i64 (k)), .j, .j, .j, .j, .j, .j, .j, .j, .j, .j, .j, .j, .j, .j, .j, .j, .j, .j, .j, .j, .j, .j, .j, .j, .j, .j, .j, .j, .j, .j, .j, .j, .j, .j, .j, .j, .j, .j, .j, .j, .j, .j, .j, .j, .j, .j, .j, .j, .j, .j, .j, .j, .j, .j, .j, .j, .j, .j, .j, .j, .j, .j], hp4)) (fun k => D.length - k) (fun k => k ≤ D.length ∧ ∀ j, j < k → chkA r d n z (z - 1 + j) (dgA K j) (D.getD j default) = true) 0 ⟨by omega, by intro j hj; omega⟩ ⟨List.range hp4.length, LeS_id (ex := []) rfl (show H.length ≤ hp4.length by omega) (by simp) (by simp [leT]) (by simp [stL, stV]; omega) hst4⟩ ?_
          rintro k ⟨hk, hch⟩
          rcases Nat.lt_or_ge k D.length with hkD | hkD
          · have hpi : D[k]? = some D[k] := List.getElem?_eq_getElem hkD
            generalize D[k] = p at hpi
            have hp : D.getD k default = p := by rw [List.getD_eq_getElem?_getD, hpi]; rfl
            have hL1 := dPs_get hpi
            obtain ⟨q1, q2, q3⟩ := hL p (List.mem_of_getElem? hpi)
            have hb4 := (f3 k _ hL1).mono x1
            have hln := dgA_len hK hkD
            have hkp : k < (plA n z 2).length := by rw [hpl]; exact hkD
            have hpg := plA_get (n := n) (z := z) (by omega) (show k < cntA n z by omega)
            have g1' : z - 1 + k ≤ z ∧ z - 1 + k < n := by have h5 := hDc; unfold cntA at h5; omega
            have no : chkA r d n z (z - 1 + k) (dgA K k) p = false → absB r d n z D.length K D = false := fun h' => abs_chk (k := k) (by omega) (by rw [hp]; exact h')
            simp only [↓VC, VP, TT, List.getElem?_toArray, Nat.reduceEqDiff, reduceCtorEq, Nat.reduceAdd, Nat.reduceSub, Nat.reduceLT, Nat.reduceMul, Nat.reducePow, Nat.reduceLeDiff, Int.reduceToNat, Int.reduceLE, Int.reduceLT, Int.reducePow, fr, fd, fa, f1, f2, fP, fH, ↓vGet_ptrV hL1, ↓vSub_dgR hK hkD, ↓vSub_r hr, ↓vSub_r hd, dP, if_true, ↓vGet_bsR hkp, hpg, (eq_true (by omega) : ((k : Int) < (D.length : Int)) = True), decide_true]
            repeat (refine ⟨by first | omega | (simp; done) | decide, ?_⟩)
            refine kCall_val (c_Digest_compare (dgA K k) d hln hd) (by rfl) [] (by simp [CALL]) (by simp [CALL]) (by simp [okL, okV, okL_bs]) (by simp) ?_
            rcases Nat.lt_or_ge (z - 1 + k) z with h7 | h7
            · have hcm := cmp_neg (dgA K k) d
              cases h5 : lesD (dgA K k) d with
              | false =>
                rw [h5] at hcm
                have hcm2 : ¬ (cmpD (dgA K k) d < 0) := by rw [hcm]; simp
                simp only [CALL, ↓VC, VP, TT, List.getElem?_toArray, Nat.reduceEqDiff, reduceCtorEq, Nat.reduceAdd, Nat.reduceSub, Nat.reduceLT, Nat.reduceMul, Nat.reducePow, Nat.reduceLeDiff, Int.reduceToNat, Int.reduceLE, Int.reduceLT, Int.reducePow, fr, fd, fa, f1, f2, fP, fH, ↓vGet_ptrV hL1, ↓vSub_dgR hK hkD, ↓vSub_r hr, ↓vSub_r hd, dP, if_true, (eq_true (by omega) : (((z - 1 + k : Nat) : Int) < (z : Int)) = True), (eq_true (by omega) : (cmpD (dgA K k) d ≥ 0) = True), decide_true]
                rw [no (by unfold chkA; rw [if_pos h7, h5]; rfl)]
                exact fin x1
              | true =>
                rw [h5] at hcm
                have hcm2 : cmpD (dgA K k) d < 0 := by rw [hcm]
                simp only [CALL, ↓VC, VP, TT, List.getElem?_toArray, Nat.reduceEqDiff, reduceCtorEq, Nat.reduceAdd, Nat.reduceSub, Nat.reduceLT, Nat.reduceMul, Nat.reducePow, Nat.reduceLeDiff, Int.reduceToNat, Int.reduceLE, Int.reduceLT, Int.reducePow, fr, fd, fa, f1, f2, fP, fH, ↓vGet_ptrV hL1, ↓vSub_dgR hK hkD, ↓vSub_r hr, ↓vSub_r hd, dP, if_true, (eq_true (by omega) : (((z - 1 + k : Nat) : Int) < (z : Int)) = True), (eq_false (by omega) : (cmpD (dgA K k) d ≥ 0) = False), (beq_eq_false_iff_ne.2 (by omega) : (((z - 1 + k : Nat) : Int) == (z : Int)) = false), decide_true, decide_false]
                repeat (refine ⟨by first | omega | (simp; done) | decide, ?_⟩)
                refine kCall_val (c_hasher_shows (dgA K k) hln (p.1.length / 32) (z - 1 + k) n p.1 p.2 q1 q2 q3 (by omega) (by omega) g1'.2) (by rfl) [(N3, 0), (N3 + 1, 0), (N3 + 2, 0), (b + k, 0)] (by simp [CALL]) (seg_eng he (seg_bAt hb4 (instL_bs _ _ _) trivial)) (by simp [okL, okV, hB, okL_bs]) (by simp [hB, okL_bs, okL_hEng, okL]) ?_
                have hip := ip_in (r := r) (l := dgA K k) (m := p.1.length / 32) (P := p.1) (i := z - 1 + k) (n := n) (by omega) (by omega) g1'.2
                have hsl := showL_len hln (p.1.length / 32) (z - 1 + k) n p.1
                generalize showL (dgA K k) (p.1.length / 32) (z - 1 + k) n p.1 = sh at *
                obtain ⟨s1, s2⟩ := sh
                simp only at hip hsl
                cases s2 with
                | false =>
                  simp only [CALL, ↓VC, VP, TT, List.getElem?_toArray, Nat.reduceEqDiff, reduceCtorEq, Nat.reduceAdd, Nat.reduceSub, Nat.reduceLT, Nat.reduceMul, Nat.reducePow, Nat.reduceLeDiff, Int.reduceToNat, Int.reduceLE, Int.reduceLT, Int.reducePow, fr, fd, fa, f1, f2, fP, fH, ↓vGet_ptrV hL1, ↓vSub_dgR hK hkD, ↓vSub_r hr, ↓vSub_r hd, dP, if_true, ↓app_last, set_last, hsl, Bool.not_false, repl_len]
                  rw [no (by unfold chkA; rw [hip]; simp)]
                  exact fin (x1.trans ⟨_, rfl⟩)
                | true =>
                  have hAr : ∀ x, (hp4 ++ [x])[H.length]? = some ⟨true, bs r⟩ := fun x => by rw [List.getElem?_append_left (by omega)]; exact fr
                  simp only [CALL, ↓VC, VP, TT, List.getElem?_toArray, Nat.reduceEqDiff, reduceCtorEq, Nat.reduceAdd, Nat.reduceSub, Nat.reduceLT, Nat.reduceMul, Nat.reducePow, Nat.reduceLeDiff, Int.reduceToNat, Int.reduceLE, Int.reduceLT, Int.reducePow, fr, fd, fa, f1, f2, fP, fH, ↓vGet_ptrV hL1, ↓vSub_dgR hK hkD, ↓vSub_r hr, ↓vSub_r hd, dP, if_true, ↓app_last, set_last, hsl, Bool.not_true, hAr, repl_len]
                  refine ⟨hr, intCells_bs _, intCells_bs _, fun b' hb' => ⟨fun h6 => ?_, fun h6 => ?_⟩⟩
                  · have e1 : (s1 == r) = false := by
                      rw [beq_eq_false_iff_ne]; intro e
                      rw [hb'.2 (by rw [e])] at h6; cases h6
                    rw [no (by unfold chkA; rw [hip, e1]; simp)]
                    exact fin (x1.trans ⟨_, rfl⟩)
                  · have e1 : s1 = r := bs_inj.1 (hb'.1 (by simpa using h6))
                    refine ⟨k + 1, ⟨by omega, fun j hj => ?_⟩, by omega, List.range hp4.length, ?_⟩
                    · rcases Nat.lt_or_ge j k with h8 | h8
                      · exact hch j h8
                      · rw [show j = k by omega, hp]
                        unfold chkA
                        rw [hip, e1, if_pos h7, h5]; simp
                    rw [wrap_i64 (by omega) (by omega)]
                    exact LeS_id rfl (show H.length ≤ hp4.length by omega) rfl (by simp [leT]) (by simp [stL, stV]; omega) hst4
            · have hcm := cmp_pos (dgA K k) d
              cases h5 : lesD d (dgA K k) with
              | false =>
                rw [h5] at hcm
                have hcm2 : ¬ (cmpD (dgA K k) d > 0) := by rw [hcm]; simp
                simp only [CALL, ↓VC, VP, TT, List.getElem?_toArray, Nat.reduceEqDiff, reduceCtorEq, Nat.reduceAdd, Nat.reduceSub, Nat.reduceLT, Nat.reduceMul, Nat.reducePow, Nat.reduceLeDiff, Int.reduceToNat, Int.reduceLE, Int.reduceLT, Int.reducePow, fr, fd, fa, f1, f2, fP, fH, ↓vGet_ptrV hL1, ↓vSub_dgR hK hkD, ↓vSub_r hr, ↓vSub_r hd, dP, if_true, (eq_false (by omega) : (((z - 1 + k : Nat) : Int) < (z : Int)) = False), (beq_iff_eq.2 (by omega) : (((z - 1 + k : Nat) : Int) == (z : Int)) = true), (eq_true (by omega) : (cmpD (dgA K k) d ≤ 0) = True), decide_true, decide_false]
                rw [no (by unfold chkA; rw [if_neg (show ¬ (z - 1 + k < z) by omega), h5]; rfl)]
                exact fin x1
              | true =>
                rw [h5] at hcm
                have hcm2 : cmpD (dgA K k) d > 0 := by rw [hcm]
                simp only [CALL, ↓VC, VP, TT, List.getElem?_toArray, Nat.reduceEqDiff, reduceCtorEq, Nat.reduceAdd, Nat.reduceSub, Nat.reduceLT, Nat.reduceMul, Nat.reducePow, Nat.reduceLeDiff, Int.reduceToNat, Int.reduceLE, Int.reduceLT, Int.reducePow, fr, fd, fa, f1, f2, fP, fH, ↓vGet_ptrV hL1, ↓vSub_dgR hK hkD, ↓vSub_r hr, ↓vSub_r hd, dP, if_true, (eq_false (by omega) : (((z - 1 + k : Nat) : Int) < (z : Int)) = False), (beq_iff_eq.2 (by omega) : (((z - 1 + k : Nat) : Int) == (z : Int)) = true), (eq_false (by omega) : (cmpD (dgA K k) d ≤ 0) = False), decide_true, decide_false]
                repeat (refine ⟨by first | omega | (simp; done) | decide, ?_⟩)
                refine kCall_val (c_hasher_shows (dgA K k) hln (p.1.length / 32) (z - 1 + k) n p.1 p.2 q1 q2 q3 (by omega) (by omega) g1'.2) (by rfl) [(N3, 0), (N3 + 1, 0), (N3 + 2, 0), (b + k, 0)] (by simp [CALL]) (seg_eng he (seg_bAt hb4 (instL_bs _ _ _) trivial)) (by simp [okL, okV, hB, okL_bs]) (by simp [hB, okL_bs, okL_hEng, okL]) ?_
                have hip := ip_in (r := r) (l := dgA K k) (m := p.1.length / 32) (P := p.1) (i := z - 1 + k) (n := n) (by omega) (by omega) g1'.2
                have hsl := showL_len hln (p.1.length / 32) (z - 1 + k) n p.1
                generalize showL (dgA K k) (p.1.length / 32) (z - 1 + k) n p.1 = sh at *
                obtain ⟨s1, s2⟩ := sh
                simp only at hip hsl
                cases s2 with
                | false =>
                  simp only [CALL, ↓VC, VP, TT, List.getElem?_toArray, Nat.reduceEqDiff, reduceCtorEq, Nat.reduceAdd, Nat.reduceSub, Nat.reduceLT, Nat.reduceMul, Nat.reducePow, Nat.reduceLeDiff, Int.reduceToNat, Int.reduceLE, Int.reduceLT, Int.reducePow, fr, fd, fa, f1, f2, fP, fH, ↓vGet_ptrV hL1, ↓vSub_dgR hK hkD, ↓vSub_r hr, ↓vSub_r hd, dP, if_true, ↓app_last, set_last, hsl, Bool.not_false, repl_len]
                  rw [no (by unfold chkA; rw [hip]; simp)]
                  exact fin (x1.trans ⟨_, rfl⟩)
                | true =>
                  have hAr : ∀ x, (hp4 ++ [x])[H.length]? = some ⟨true, bs r⟩ := fun x => by rw [List.getElem?_append_left (by omega)]; exact fr
                  simp only [CALL, ↓VC, VP, TT, List.getElem?_toArray, Nat.reduceEqDiff, reduceCtorEq, Nat.reduceAdd, Nat.reduceSub, Nat.reduceLT, Nat.reduceMul, Nat.reducePow, Nat.reduceLeDiff, Int.reduceToNat, Int.reduceLE, Int.reduceLT, Int.reducePow, fr, fd, fa, f1, f2, fP, fH, ↓vGet_ptrV hL1, ↓vSub_dgR hK hkD, ↓vSub_r hr, ↓vSub_r hd, dP, if_true, ↓app_last, set_last, hsl, Bool.not_true, hAr, repl_len]
                  refine ⟨hr, intCells_bs _, intCells_bs _, fun b' hb' => ⟨fun h6 => ?_, fun h6 => ?_⟩⟩
                  · have e1 : (s1 == r) = false := by
                      rw [beq_eq_false_iff_ne]; intro e
                      rw [hb'.2 (by rw [e])] at h6; cases h6
                    rw [no (by unfold chkA; rw [hip, e1]; simp)]
                    exact fin (x1.trans ⟨_, rfl⟩)
                  · have e1 : s1 = r := bs_inj.1 (hb'.1 (by simpa using h6))
                    refine ⟨k + 1, ⟨by omega, fun j hj => ?_⟩, by omega, List.range hp4.length, ?_⟩
                    · rcases Nat.lt_or_ge j k with h8 | h8
                      · exact hch j h8
                      · rw [show j = k by omega, hp]
                        unfold chkA
                        rw [hip, e1, if_neg (show ¬ (z - 1 + k < z) by omega), h5]; simp
                    rw [wrap_i64 (by omega) (by omega)]
                    exact LeS_id rfl (show H.length ≤ hp4.length by omega) rfl (by simp [leT]) (by simp [stL, stV]; omega) hst4
          · obtain rfl : k = D.length := by omega
            simp only [↓VC, VP, TT, List.getElem?_toArray, Nat.reduceEqDiff, reduceCtorEq, Nat.reduceAdd, Nat.reduceSub, Nat.reduceLT, Nat.reduceMul, Nat.reducePow, Nat.reduceLeDiff, Int.reduceToNat, Int.reduceLE, Int.reduceLT, Int.reducePow, fr, fH, ↓vSub_r hr, (eq_false (by omega) : ((D.length : Int) < (D.length : Int)) = False), decide_false]
            rcases Nat.eq_zero_or_pos n with hn0 | hn0
            · subst hn0
              simp only [↓VC, VP, TT, List.getElem?_toArray, Nat.reduceEqDiff, reduceCtorEq, Nat.reduceAdd, Nat.reduceSub, Nat.reduceLT, Nat.reduceMul, Nat.reducePow, Nat.reduceLeDiff, Int.reduceToNat, Int.reduceLE, Int.reduceLT, Int.reducePow, fr, fH, ↓vSub_r hr, (eq_false (by omega) : (((0 : Nat) : Int) > 0) = False), decide_false]
              refine kCall_val (c_hasher_root 0 [] 0 (by simp) (Nat.le_refl _) (by omega)) (by rfl) [(N3, 0), (N3 + 1, 0), (N3 + 2, 0), (H.length, 0)] (by simp [CALL]) (seg_eng he ⟨⟨rfl, by omega, by simp [bs_nil, V.instL]⟩, trivial⟩) (by simp [okL, okV, hB]) (by simp [hB, okL_bs, okL_hEng, bs_nil, okL]) ?_
              simp only [CALL, ↓VC, VP, TT, List.getElem?_toArray, Nat.reduceEqDiff, reduceCtorEq, Nat.reduceAdd, Nat.reduceSub, Nat.reduceLT, Nat.reduceMul, Nat.reducePow, Nat.reduceLeDiff, Int.reduceToNat, Int.reduceLE, Int.reduceLT, Int.reducePow, fr, ↓vSub_r hr]
              rw [rootL_zero]
              refine ⟨hr, houseD_len _, intCells_bs _, intCells_bs _, fun b' hb' => ?_⟩
              have e : absB r d ((0 : Nat) : Int) z D.length K D = b' := by
                cases b' with
                | true =>
                  have e1 : r = houseD [] := bs_inj.1 (hb'.1 rfl)
                  exact abs_yes ⟨by omega, by omega⟩ ⟨hmc, hDc⟩ (fun j hj => hch j (by omega)) (fun _ => by rw [e1]; exact beq_self_eq_true _)
                | false =>
                  have e1 : (r == houseD []) = false := by
                    rw [beq_eq_false_iff_ne]; intro e
                    have := hb'.2 (by rw [e]); cases this
                  exact abs_root e1
              rw [e]
              exact fin x1
            · simp only [↓VC, VP, TT, List.getElem?_toArray, Nat.reduceEqDiff, reduceCtorEq, Nat.reduceAdd, Nat.reduceSub, Nat.reduceLT, Nat.reduceMul, Nat.reducePow, Nat.reduceLeDiff, Int.reduceToNat, Int.reduceLE, Int.reduceLT, Int.reducePow, (eq_true (by omega) : ((n : Int) > 0) = True), decide_true]
              rw [abs_yes ⟨by omega, by omega⟩ ⟨hmc, hDc⟩ (fun j hj => hch j (by omega)) (fun h => by omega)]
              exact fin x1
        · have e : absB r d n z m K D = false := abs_len h3
          rw [e]
          by_cases h4 : m = cntA n z
          · simp only [↓VC, VP, TT, List.getElem?_toArray, Nat.reduceEqDiff, reduceCtorEq, Nat.reduceAdd, Nat.reduceSub, Nat.reduceLT, Nat.reduceMul, Nat.reducePow, Nat.reduceLeDiff, Int.reduceToNat, Int.reduceLE, Int.reduceLT, Int.reducePow, fa, hpl, (bne_eq_false_iff_eq.2 (by omega) : ((m : Int) != ((cntA n z : Nat) : Int)) = false), (bne_iff_ne.2 (by omega) : ((D.length : Int) != ((cntA n z : Nat) : Int)) = true)]
            exact fin x1
          · simp only [↓VC, VP, TT, List.getElem?_toArray, Nat.reduceEqDiff, reduceCtorEq, Nat.reduceAdd, Nat.reduceSub, Nat.reduceLT, Nat.reduceMul, Nat.reducePow, Nat.reduceLeDiff, Int.reduceToNat, Int.reduceLE, Int.reduceLT, Int.reducePow, fa, hpl, (bne_iff_ne.2 (by omega) : ((m : Int) != ((cntA n z : Nat) : Int)) = true)]
            exact fin x1
    · simp only [CALL, ↓VC, VP, TT, List.getElem?_toArray, Nat.reduceEqDiff, reduceCtorEq, Nat.reduceAdd, Nat.reduceSub, Nat.reduceLT, Nat.reduceMul, Nat.reducePow, Nat.reduceLeDiff, Int.reduceToNat, Int.reduceLE, Int.reduceLT, Int.reducePow, h2, decide_false, Bool.not_false]
      rw [abs_no (by omega)]
      exact fin x1
  · simp only [CALL, ↓VC, VP, TT, List.getElem?_toArray, Nat.reduceEqDiff, reduceCtorEq, Nat.reduceAdd, Nat.reduceSub, Nat.reduceLT, Nat.reduceMul, Nat.reducePow, Nat.reduceLeDiff, Int.reduceToNat, Int.reduceLE, Int.reduceLT, Int.reducePow, h1, decide_false, Bool.not_false]
    rw [abs_no (by omega)]
    exact fin x1
end
end Go.Proofs.Ytcfhdogmkbfnhaa

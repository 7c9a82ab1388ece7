import Derived.Test.YtapagcnipdpfiaaIsProof
import Derived.Test.YtapagcnipdpfiaaProofM
/- Growths: the program and the reference. -/
set_option linter.unusedSimpArgs false
set_option linter.unusedVariables false
namespace Go.Proofs.Ytapagcnipdpfiaa
open Go Go.Vc
set_option maxRecDepth 10000
set_option maxHeartbeats 4000000
def growV (g : List UInt8 × List UInt8 × Bool) : V := .t [.a (bs g.1), .a (bs g.2.1), .c (.bool (g.2.2))]
theorem pkS_len : ∀ q P, P.length = 32 * (q + 1) → (pkS P q).length = 32 := fun q P h => dgA_len h (by omega)
theorem pkI_len : ∀ q P, P.length = 32 * (q + 1) → (pkI P q).length = 32 := fun q P h => dgA_len h (by omega)
theorem c_spec_l09Grown (d : List UInt8) (hd : d.length = 32) (q : Nat) : ∀ (w : Bool) (m n : Nat) (P : List UInt8) (c : Nat), P.length = 32 * q → q ≤ c → q ≤ 1048576 → 1 ≤ m → m ≤ n → n ≤ 1048576 → LC Try.prog 71 [.a (bs d), .c (.int .i64 (m)), .c (.int .i64 (n)), .c (.bool (w)), .s 0 0 q c] [⟨false, bs P⟩] (fun v hp => v = growV (grownL pkS d q m n w P) ∧ hp = [⟨false, bs P⟩]) := by
  refine Nat.strongRecOn q ?_
  clear q
  intro q ih w m n P c hP hc hq hm hmn hn
  refine LC_of (X := XX (fun | 2 => .one 0 (.one 2 (.one 3 (.one 4 (.alt (.one 1 (.one 5 (.one 6 (.one 7 .nil)))) (.one 5 (.one 1 (.one 6 (.one 7 .nil)))))))) | 5 => .one 0 (.one 1 (.one 2 (.one 3 (.one 4 (.one 5 (.one 6 (.one 7 (.one 8 (.one 9 (.one 10 (.one 11 (.one 12 (.one 13 (.one 14 (.one 15 (.one 16 .nil)))))))))))))))) | 7 => .one 0 (.one 2 (.one 3 (.one 4 (.alt (.one 1 (.one 5 (.one 6 (.one 7 .nil)))) (.one 5 (.one 1 (.one 6 (.one 7 .nil)))))))) | 10 => .one 0 (.one 1 (.one 2 (.one 4 (.one 3 (.one 5 (.one 6 (.one 7 .nil))))))) | 12 => .one 0 (.one 1 (.one 3 (.one 4 (.one 6 (.one 2 (.one 5 (.one 7 (.one 8 (.one 9 .nil))))))))) | _ => .nil) (fun | 5 => [(13, 13)] | _ => []) [25, 33, 34, 61, 62, 82, 87, 112, 119, 141] 1) envOK Try.func71 (by kernel_rfl) (by kernel_rfl) rfl (Nat.le_of_ble_eq_true (by kernel_rfl)) ?_
  simp only [kFun, Try.f71, List.length_nil, List.length_cons, Nat.sub_zero, Nat.reduceSub, Nat.reduceAdd, List.nil_append, List.cons_append, List.replicate_succ, List.replicate_zero]
  simp only [XX, ↓VC, VP, TT, List.getElem?_toArray, Nat.reduceEqDiff, reduceCtorEq, Nat.reduceAdd, Nat.reduceSub, Nat.reduceLT, Nat.reduceMul, Nat.reducePow, Nat.reduceLeDiff, Int.reduceToNat, Int.reduceLE, Int.reduceLT, Int.reducePow, hd]
  refine kGd_split rfl (fun h1 => ?_) (fun h1 => ?_) <;> simp only [↓VC, VP, TT, List.getElem?_toArray, Nat.reduceEqDiff, reduceCtorEq, Nat.reduceAdd, Nat.reduceSub, Nat.reduceLT, Nat.reduceMul, Nat.reducePow, Nat.reduceLeDiff, Int.reduceToNat, Int.reduceLE, Int.reduceLT, Int.reducePow, h1, hd, tk32 hd, ge_iff_le, Nat.le_refl, true_and, and_self]
  · obtain rfl : m = n := by have := beq_iff_eq.1 h1; omega
    refine ⟨fun hw => ?_, fun hw => ?_⟩
    · subst hw
      cases q with
      | zero =>
        refine ⟨_, _, [0], ⟨rfl, rfl⟩, ?_⟩
        simp [-List.reduceReplicate, LES, growV, grownL]
      | succ q =>
        have hz : (((q + 1 : Nat) : Int) == 0) = false := by rw [beq_eq_false_iff_ne]; omega
        rw [hz]
        refine ⟨_, _, [0], ⟨rfl, rfl⟩, ?_⟩
        simp [-List.reduceReplicate, LES, growV, grownL]
    · subst hw
      cases q with
      | zero =>
        refine ⟨fun _ => ?_, fun h => absurd h (by simp)⟩
        refine ⟨_, _, [0], ⟨rfl, rfl⟩, ?_⟩
        simp [-List.reduceReplicate, LES, growV, grownL]
      | succ q =>
        have hz : (((q + 1 : Nat) : Int) == 0) = false := by rw [beq_eq_false_iff_ne]; omega
        refine ⟨fun h => absurd h (by rw [hz]; simp), fun _ => ?_⟩
        have hl : (dgA P q).length = 32 := dgA_len hP (by omega)
        have w1 : IntKind.i64.wrap (((q + 1 : Nat) : Int) - 1) = ((q : Nat) : Int) := by rw [wrap_i64 (by omega) (by omega)]; omega
        simp only [w1, Int.toNat_natCast, dgA_eq]
        repeat (refine ⟨by first | omega | (simp; done) | decide, ?_⟩)
        refine kCall_val (c_spec_l09Half m (by omega)) (by rfl) [] (by simp [CALL]) (by simp [CALL, cellsAt]) (by simp [CALL]) (by simp [okL_bs]) ?_
        simp only [CALL, ↓VC, VP, TT, List.getElem?_toArray, Nat.reduceEqDiff, reduceCtorEq, Nat.reduceAdd, Nat.reduceSub, Nat.reduceLT, Nat.reduceMul, Nat.reducePow, Nat.reduceLeDiff, Int.reduceToNat, Int.reduceLE, Int.reduceLT, Int.reducePow, hl, tk32 hl, Nat.sub_zero, w1, Int.toNat_natCast, ge_iff_le, Nat.le_refl, true_and, and_self]
        repeat (refine ⟨by first | omega | (simp; done) | decide, ?_⟩)
        refine ⟨fun _ => ?_, fun h => absurd h1 (by rw [h]; simp)⟩
        have hq0 : ((q : Int) == 0) = decide (q = 0) := by rw [Bool.eq_iff_iff, beq_iff_eq, decide_eq_true_eq]; omega
        have hq1 : (((q + 1 : Nat) : Int) == 1) = decide (q = 0) := by rw [Bool.eq_iff_iff, beq_iff_eq, decide_eq_true_eq]; omega
        rw [hq0]
        refine ⟨_, _, [0], ⟨rfl, rfl⟩, ?_⟩
        simp [-List.reduceReplicate, LES, growV, grownL, pkS]
  · have hne : m < n := by have := beq_eq_false_iff_ne.1 h1; omega
    have hmn2 : ¬ m = n := by omega
    cases q with
    | zero =>
      refine ⟨fun _ => ?_, fun h => absurd h (by simp)⟩
      refine ⟨_, _, [0], ⟨rfl, rfl⟩, ?_⟩
      simp [-List.reduceReplicate, LES, growV, grownL, hmn2]
    | succ q =>
      have hz : (((q + 1 : Nat) : Int) == 0) = false := by rw [beq_eq_false_iff_ne]; omega
      refine ⟨fun h => absurd h (by rw [hz]; simp), fun _ => ?_⟩
      have hl : (dgA P q).length = 32 := dgA_len hP (by omega)
      have hr : (P.take (32 * q)).length = 32 * q := by rw [List.length_take]; omega
      obtain ⟨p1, p2⟩ := partN_spec (n := n) (by omega)
      have w1 : IntKind.i64.wrap (((q + 1 : Nat) : Int) - 1) = ((q : Nat) : Int) := by rw [wrap_i64 (by omega) (by omega)]; omega
      have w2 : IntKind.i64.wrap (q : Int) = ((q : Nat) : Int) := wrap_i64 (by omega) (by omega)
      simp only [w1, Int.toNat_natCast, dgA_eq]
      repeat (refine ⟨by first | omega | (simp; done) | decide, ?_⟩)
      refine kCall_val (c_spec_l09Half n (by omega)) (by rfl) [] (by simp [CALL]) (by simp [CALL, cellsAt]) (by simp [CALL]) (by simp [okL_bs]) ?_
      simp only [CALL, ↓VC, VP, TT, List.getElem?_toArray, Nat.reduceEqDiff, reduceCtorEq, Nat.reduceAdd, Nat.reduceSub, Nat.reduceLT, Nat.reduceMul, Nat.reducePow, Nat.reduceLeDiff, Int.reduceToNat, Int.reduceLE, Int.reduceLT, Int.reducePow, hl, hd, tk32 hd, tk32 hl, Nat.sub_zero, w1, w2, Int.toNat_natCast, ge_iff_le, Nat.le_refl, true_and, and_self]
      repeat (refine ⟨by first | omega | (simp; done) | decide, ?_⟩)
      refine ⟨fun h => absurd h1 (by rw [h]; simp), fun _ => ?_⟩
      refine ⟨fun h2 => ?_, fun h2 => ?_⟩
      · have hle : m ≤ partN n := by omega
        repeat (refine ⟨by first | omega | (simp; done) | decide, ?_⟩)
        refine kCall_val (ih q (by omega) w m (partN n) (P.take (32 * q)) c hr (by omega) (by omega) (by omega) (by omega) (by omega)) (by rfl) [(0, 0)] (by simp [CALL]) (by simp [CALL, cellsAt, bs_take, bs_length, hr, Nat.sub_zero]) (by simp [CALL]) (by simp [okL_bs]) ?_
        have g1 := (grownL_len hd q m (partN n) w (P.take (32 * q)) hr pkS_len).1
        have g2 := (grownL_len hd q m (partN n) w (P.take (32 * q)) hr pkS_len).2
        simp (config := { maxSteps := 1000000 }) only [growV, CALL, ↓VC, VP, TT, List.getElem?_toArray, Nat.reduceEqDiff, reduceCtorEq, Nat.reduceAdd, Nat.reduceSub, Nat.reduceLT, Nat.reduceMul, Nat.reducePow, Nat.reduceLeDiff, Int.reduceToNat, Int.reduceLE, Int.reduceLT, Int.reducePow, hl, tk32 hl, g1, g2, tk32 g1, tk32 g2, ge_iff_le, Nat.le_refl, true_and, and_self]
        repeat (refine ⟨by first | omega | (simp; done) | decide, ?_⟩)
        refine kCall_val (c_spec_l09Node (grownL pkS d q m (partN n) w (P.take (32 * q))).2.1 (dgA P q) g2 hl) (by rfl) [] (by simp [CALL]) (by simp [CALL, cellsAt]) (by simp [CALL]) (by simp [okL_bs]) ?_
        simp (config := { maxSteps := 1000000 }) only [CALL, ↓VC, VP, TT, List.getElem?_toArray, Nat.reduceEqDiff, reduceCtorEq, Nat.reduceAdd, Nat.reduceSub, Nat.reduceLT, Nat.reduceMul, Nat.reducePow, Nat.reduceLeDiff, Int.reduceToNat, Int.reduceLE, Int.reduceLT, Int.reducePow, nodeL_len, g1, g2, tk32 g1, tk32 g2, hl, tk32 hl, ge_iff_le, Nat.le_refl, true_and, and_self]
        repeat (refine ⟨by first | omega | (simp; done) | decide, ?_⟩)
        have e : grownL pkS d (q + 1) m n w P = ((grownL pkS d q m (partN n) w (P.take (32 * q))).1, nodeL (grownL pkS d q m (partN n) w (P.take (32 * q))).2.1 (dgA P q), (grownL pkS d q m (partN n) w (P.take (32 * q))).2.2) := by rw [grownL, if_neg (fun h => hmn2 h.1), if_neg hmn2, if_pos hle]
        refine ⟨_, _, [0], ⟨rfl, rfl⟩, ?_⟩
        rw [e]; simp (config := { maxSteps := 1000000 }) [-List.reduceReplicate, LES, growV]
      · have hge : ¬ m ≤ partN n := by omega
        rw [wrap_i64 (by omega) (by omega), wrap_i64 (by omega) (by omega), show (m : Int) - (partN n : Nat) = ((m - partN n : Nat) : Int) by omega, show (n : Int) - (partN n : Nat) = ((n - partN n : Nat) : Int) by omega]
        repeat (refine ⟨by first | omega | (simp; done) | decide, ?_⟩)
        refine kCall_val (ih q (by omega) false (m - partN n) (n - partN n) (P.take (32 * q)) c hr (by omega) (by omega) (by omega) (by omega) (by omega)) (by rfl) [(0, 0)] (by simp [CALL]) (by simp [CALL, cellsAt, bs_take, bs_length, hr, Nat.sub_zero]) (by simp [CALL]) (by simp [okL_bs]) ?_
        have g1 := (grownL_len hd q (m - partN n) (n - partN n) false (P.take (32 * q)) hr pkS_len).1
        have g2 := (grownL_len hd q (m - partN n) (n - partN n) false (P.take (32 * q)) hr pkS_len).2
        simp (config := { maxSteps := 1000000 }) only [growV, CALL, ↓VC, VP, TT, List.getElem?_toArray, Nat.reduceEqDiff, reduceCtorEq, Nat.reduceAdd, Nat.reduceSub, Nat.reduceLT, Nat.reduceMul, Nat.reducePow, Nat.reduceLeDiff, Int.reduceToNat, Int.reduceLE, Int.reduceLT, Int.reducePow, hl, tk32 hl, g1, g2, tk32 g1, tk32 g2, ge_iff_le, Nat.le_refl, true_and, and_self]
        repeat (refine ⟨by first | omega | (simp; done) | decide, ?_⟩)
        refine kCall_val (c_spec_l09Node (dgA P q) (grownL pkS d q (m - partN n) (n - partN n) false (P.take (32 * q))).1 hl g1) (by rfl) [] (by simp [CALL]) (by simp [CALL, cellsAt]) (by simp [CALL]) (by simp [okL_bs]) ?_
        simp (config := { maxSteps := 1000000 }) only [CALL, ↓VC, VP, TT, List.getElem?_toArray, Nat.reduceEqDiff, reduceCtorEq, Nat.reduceAdd, Nat.reduceSub, Nat.reduceLT, Nat.reduceMul, Nat.reducePow, Nat.reduceLeDiff, Int.reduceToNat, Int.reduceLE, Int.reduceLT, Int.reducePow, nodeL_len, g1, g2, tk32 g1, tk32 g2, hl, tk32 hl, ge_iff_le, Nat.le_refl, true_and, and_self]
        repeat (refine ⟨by first | omega | (simp; done) | decide, ?_⟩)
        refine kCall_val (c_spec_l09Node (dgA P q) (grownL pkS d q (m - partN n) (n - partN n) false (P.take (32 * q))).2.1 hl g2) (by rfl) [] (by simp [CALL]) (by simp [CALL, cellsAt]) (by simp [CALL]) (by simp [okL_bs]) ?_
        simp (config := { maxSteps := 1000000 }) only [CALL, ↓VC, VP, TT, List.getElem?_toArray, Nat.reduceEqDiff, reduceCtorEq, Nat.reduceAdd, Nat.reduceSub, Nat.reduceLT, Nat.reduceMul, Nat.reducePow, Nat.reduceLeDiff, Int.reduceToNat, Int.reduceLE, Int.reduceLT, Int.reducePow, nodeL_len, g1, g2, tk32 g1, tk32 g2, hl, tk32 hl, ge_iff_le, Nat.le_refl, true_and, and_self]
        repeat (refine ⟨by first | omega | (simp; done) | decide, ?_⟩)
        have e : grownL pkS d (q + 1) m n w P = (nodeL (dgA P q) (grownL pkS d q (m - partN n) (n - partN n) false (P.take (32 * q))).1, nodeL (dgA P q) (grownL pkS d q (m - partN n) (n - partN n) false (P.take (32 * q))).2.1, (grownL pkS d q (m - partN n) (n - partN n) false (P.take (32 * q))).2.2) := by rw [grownL, if_neg (fun h => hmn2 h.1), if_neg hmn2, if_neg hge]
        refine ⟨_, _, [0], ⟨rfl, rfl⟩, ?_⟩
        rw [e]
        generalize nodeL (dgA P q) (grownL pkS d q (m - partN n) (n - partN n) false (P.take (32 * q))).1 = X1
        generalize nodeL (dgA P q) (grownL pkS d q (m - partN n) (n - partN n) false (P.take (32 * q))).2.1 = X2
        generalize (grownL pkS d q (m - partN n) (n - partN n) false (P.take (32 * q))).2.2 = X3
        simp [-List.reduceReplicate, LES, growV]
theorem c_hasher_grows (d : List UInt8) (hd : d.length = 32) (q : Nat) : ∀ (w : Bool) (m n : Nat) (P : List UInt8) (c : Nat), P.length = 32 * q → q ≤ c → q ≤ 1048576 → 1 ≤ m → m ≤ n → n ≤ 1048576 → LC Try.prog 70 [.a [.p 0 0], .a (bs d), .c (.int .i64 (m)), .c (.int .i64 (n)), .c (.bool (w)), .s 3 0 q c] (hB false ++ [⟨false, bs P⟩]) (fun v hp => v = growV (grownL pkI d q m n w P) ∧ hp = (hB false ++ [⟨false, bs P⟩])) := by
  refine Nat.strongRecOn q ?_
  clear q
  intro q ih w m n P c hP hc hq hm hmn hn
  unfold hB
  refine LC_of (X := XX (fun | 2 => .one 0 (.one 2 (.one 3 (.one 4 (.alt (.one 1 (.one 5 (.one 6 (.one 7 .nil)))) (.one 5 (.one 1 (.one 6 (.one 7 .nil)))))))) | 6 => .one 0 (.one 1 (.one 2 (.one 3 (.one 4 (.one 6 (.one 7 (.one 8 (.alt (.one 5 (.one 9 (.one 10 (.one 11 .nil)))) (.one 9 (.one 5 (.one 10 (.one 11 .nil)))))))))))) | 7 => .one 0 (.one 2 (.one 3 (.one 4 (.one 5 (.one 6 (.one 7 (.one 1 (.one 8 (.one 9 (.one 10 .nil)))))))))) | 11 => .one 0 (.one 1 (.one 2 (.one 3 (.one 5 (.one 4 (.one 6 (.one 7 (.one 8 .nil)))))))) | 13 => .one 0 (.one 1 (.one 2 (.one 4 (.one 5 (.one 6 (.one 8 (.one 3 (.one 7 (.one 9 (.one 10 (.one 11 .nil))))))))))) | _ => .nil) (fun | 7 => [(8, 16)] | _ => []) [25, 33, 34, 61, 62, 82, 87, 112, 119, 141] 4) envOK Try.func70 (by kernel_rfl) (by kernel_rfl) rfl (Nat.le_of_ble_eq_true (by kernel_rfl)) ?_
  simp only [kFun, Try.f70, List.length_nil, List.length_cons, Nat.sub_zero, Nat.reduceSub, Nat.reduceAdd, List.nil_append, List.cons_append, List.replicate_succ, List.replicate_zero]
  simp only [XX, ↓VC, VP, TT, List.getElem?_toArray, Nat.reduceEqDiff, reduceCtorEq, Nat.reduceAdd, Nat.reduceSub, Nat.reduceLT, Nat.reduceMul, Nat.reducePow, Nat.reduceLeDiff, Int.reduceToNat, Int.reduceLE, Int.reduceLT, Int.reducePow, hd]
  refine kGd_split rfl (fun h1 => ?_) (fun h1 => ?_) <;> simp only [↓VC, VP, TT, List.getElem?_toArray, Nat.reduceEqDiff, reduceCtorEq, Nat.reduceAdd, Nat.reduceSub, Nat.reduceLT, Nat.reduceMul, Nat.reducePow, Nat.reduceLeDiff, Int.reduceToNat, Int.reduceLE, Int.reduceLT, Int.reducePow, h1, hd, tk32 hd, ge_iff_le, Nat.le_refl, true_and, and_self]
  · obtain rfl : m = n := by have := beq_iff_eq.1 h1; omega
    refine ⟨fun hw => ?_, fun hw => ?_⟩
    · subst hw
      cases q with
      | zero =>
        refine ⟨_, _, [0, 1, 2, 3], ⟨rfl, rfl⟩, ?_⟩
        simp [-List.reduceReplicate, LES, growV, grownL, renL_hEng, okL_hEng]
      | succ q =>
        have hz : (((q + 1 : Nat) : Int) == 0) = false := by rw [beq_eq_false_iff_ne]; omega
        rw [hz]
        refine ⟨_, _, [0, 1, 2, 3], ⟨rfl, rfl⟩, ?_⟩
        simp [-List.reduceReplicate, LES, growV, grownL, renL_hEng, okL_hEng]
    · subst hw
      cases q with
      | zero =>
        refine ⟨fun _ => ?_, fun h => absurd h (by simp)⟩
        refine ⟨_, _, [0, 1, 2, 3], ⟨rfl, rfl⟩, ?_⟩
        simp [-List.reduceReplicate, LES, growV, grownL, renL_hEng, okL_hEng]
      | succ q =>
        have hz : (((q + 1 : Nat) : Int) == 0) = false := by rw [beq_eq_false_iff_ne]; omega
        refine ⟨fun h => absurd h (by rw [hz]; simp), fun _ => ?_⟩
        have hl : (dgA P 0).length = 32 := dgA_len hP (by omega)
        have e0 : List.take 32 P = dgA P 0 := by unfold dgA; rw [Nat.mul_zero, List.drop_zero]
        simp only [Int.toNat_zero, Nat.zero_mul, List.drop_zero, e0, hl, tk32 hl, ge_iff_le, Nat.le_refl, true_and, and_self]
        repeat (refine ⟨by first | omega | (simp; done) | decide, ?_⟩)
        have hq0 : ((q : Int) == 0) = decide (q = 0) := by rw [Bool.eq_iff_iff, beq_iff_eq, decide_eq_true_eq]; omega
        have hq1 : (((q + 1 : Nat) : Int) == 1) = decide (q = 0) := by rw [Bool.eq_iff_iff, beq_iff_eq, decide_eq_true_eq]; omega
        simp only [splB0 (show (dgA P 0).length = (List.replicate 32 (0 : UInt8)).length by rw [hl, List.length_replicate]), hl, tk32 hl, Nat.le_refl, true_and, hq1]
        refine ⟨_, _, [0, 1, 2, 3], ⟨rfl, rfl⟩, ?_⟩
        simp [-List.reduceReplicate, LES, growV, grownL, renL_hEng, okL_hEng, pkI]
  · have hne : m < n := by have := beq_eq_false_iff_ne.1 h1; omega
    have hmn2 : ¬ m = n := by omega
    cases q with
    | zero =>
      refine ⟨fun _ => ?_, fun h => absurd h (by simp)⟩
      refine ⟨_, _, [0, 1, 2, 3], ⟨rfl, rfl⟩, ?_⟩
      simp [-List.reduceReplicate, LES, growV, grownL, renL_hEng, okL_hEng, hmn2]
    | succ q =>
      have hz : (((q + 1 : Nat) : Int) == 0) = false := by rw [beq_eq_false_iff_ne]; omega
      refine ⟨fun h => absurd h (by rw [hz]; simp), fun _ => ?_⟩
      have hl : (dgA P q).length = 32 := dgA_len hP (by omega)
      have hr : (P.take (32 * q)).length = 32 * q := by rw [List.length_take]; omega
      obtain ⟨p1, p2⟩ := partN_spec (n := n) (by omega)
      have w1 : IntKind.i64.wrap (((q + 1 : Nat) : Int) - 1) = ((q : Nat) : Int) := by rw [wrap_i64 (by omega) (by omega)]; omega
      have w2 : IntKind.i64.wrap (q : Int) = ((q : Nat) : Int) := wrap_i64 (by omega) (by omega)
      simp only [w1, Int.toNat_natCast, dgA_eq]
      repeat (refine ⟨by first | omega | (simp; done) | decide, ?_⟩)
      refine kCall_val (c_impl_part n (by omega)) (by rfl) [] (by simp [CALL]) (by simp [CALL, cellsAt]) (by simp [CALL]) (by simp [okL_bs]) ?_
      simp only [CALL, ↓VC, VP, TT, List.getElem?_toArray, Nat.reduceEqDiff, reduceCtorEq, Nat.reduceAdd, Nat.reduceSub, Nat.reduceLT, Nat.reduceMul, Nat.reducePow, Nat.reduceLeDiff, Int.reduceToNat, Int.reduceLE, Int.reduceLT, Int.reducePow, hl, hd, tk32 hd, tk32 hl, Nat.sub_zero, w1, w2, Int.toNat_natCast, ge_iff_le, Nat.le_refl, true_and, and_self]
      repeat (refine ⟨by first | omega | (simp; done) | decide, ?_⟩)
      refine ⟨fun h2 => ?_, fun h2 => ?_⟩
      · have hle : m ≤ partN n := by omega
        repeat (refine ⟨by first | omega | (simp; done) | decide, ?_⟩)
        refine kCall_val (ih q (by omega) w m (partN n) (P.take (32 * q)) c hr (by omega) (by omega) (by omega) (by omega) (by omega)) (by rfl) [(0, 0), (1, 0), (2, 0), (3, 0)] (by simp [CALL]) (by simp [CALL, hB, cellsAt, bs_take, bs_length, hr, Nat.sub_zero, instL_hEng, hEng_take, tk]) (by simp [CALL, hB]) (by simp [hB, okL_bs, okL_hEng]) ?_
        have g1 := (grownL_len hd q m (partN n) w (P.take (32 * q)) hr pkI_len).1
        have g2 := (grownL_len hd q m (partN n) w (P.take (32 * q)) hr pkI_len).2
        simp (config := { maxSteps := 1000000 }) only [growV, CALL, ↓VC, VP, TT, List.getElem?_toArray, Nat.reduceEqDiff, reduceCtorEq, Nat.reduceAdd, Nat.reduceSub, Nat.reduceLT, Nat.reduceMul, Nat.reducePow, Nat.reduceLeDiff, Int.reduceToNat, Int.reduceLE, Int.reduceLT, Int.reducePow, hl, tk32 hl, g1, g2, tk32 g1, tk32 g2, ge_iff_le, Nat.le_refl, true_and, and_self]
        repeat (refine ⟨by first | omega | (simp; done) | decide, ?_⟩)
        refine kCall_val (c_hasher_node (grownL pkI d q m (partN n) w (P.take (32 * q))).2.1 (dgA P q) g2 hl) (by rfl) [(0, 0), (1, 0), (2, 0)] (by simp [CALL]) (by simp [CALL, hB, cellsAt, instL_hEng, hEng_take, tk]) (by simp [CALL, hB]) (by simp [hB, okL_bs, okL_hEng]) ?_
        simp (config := { maxSteps := 1000000 }) only [CALL, ↓VC, VP, TT, List.getElem?_toArray, Nat.reduceEqDiff, reduceCtorEq, Nat.reduceAdd, Nat.reduceSub, Nat.reduceLT, Nat.reduceMul, Nat.reducePow, Nat.reduceLeDiff, Int.reduceToNat, Int.reduceLE, Int.reduceLT, Int.reducePow, nodeL_len, g1, g2, tk32 g1, tk32 g2, hl, tk32 hl, ge_iff_le, Nat.le_refl, true_and, and_self]
        repeat (refine ⟨by first | omega | (simp; done) | decide, ?_⟩)
        have e : grownL pkI d (q + 1) m n w P = ((grownL pkI d q m (partN n) w (P.take (32 * q))).1, nodeL (grownL pkI d q m (partN n) w (P.take (32 * q))).2.1 (dgA P q), (grownL pkI d q m (partN n) w (P.take (32 * q))).2.2) := by rw [grownL, if_neg (fun h => hmn2 h.1), if_neg hmn2, if_pos hle]
        refine ⟨_, _, [0, 1, 2, 3], ⟨rfl, rfl⟩, ?_⟩
        rw [e]; simp (config := { maxSteps := 1000000 }) [-List.reduceReplicate, LES, growV, renL_hEng, okL_hEng]
      · have hge : ¬ m ≤ partN n := by omega
        rw [wrap_i64 (by omega) (by omega), wrap_i64 (by omega) (by omega), show (m : Int) - (partN n : Nat) = ((m - partN n : Nat) : Int) by omega, show (n : Int) - (partN n : Nat) = ((n - partN n : Nat) : Int) by omega]
        repeat (refine ⟨by first | omega | (simp; done) | decide, ?_⟩)
        refine kCall_val (ih q (by omega) false (m - partN n) (n - partN n) (P.take (32 * q)) c hr (by omega) (by omega) (by omega) (by omega) (by omega)) (by rfl) [(0, 0), (1, 0), (2, 0), (3, 0)] (by simp [CALL]) (by simp [CALL, hB, cellsAt, bs_take, bs_length, hr, Nat.sub_zero, instL_hEng, hEng_take, tk]) (by simp [CALL, hB]) (by simp [hB, okL_bs, okL_hEng]) ?_
        have g1 := (grownL_len hd q (m - partN n) (n - partN n) false (P.take (32 * q)) hr pkI_len).1
        have g2 := (grownL_len hd q (m - partN n) (n - partN n) false (P.take (32 * q)) hr pkI_len).2
        simp (config := { maxSteps := 1000000 }) only [growV, CALL, ↓VC, VP, TT, List.getElem?_toArray, Nat.reduceEqDiff, reduceCtorEq, Nat.reduceAdd, Nat.reduceSub, Nat.reduceLT, Nat.reduceMul, Nat.reducePow, Nat.reduceLeDiff, Int.reduceToNat, Int.reduceLE, Int.reduceLT, Int.reducePow, hl, tk32 hl, g1, g2, tk32 g1, tk32 g2, ge_iff_le, Nat.le_refl, true_and, and_self]
        repeat (refine ⟨by first | omega | (simp; done) | decide, ?_⟩)
        refine kCall_val (c_hasher_node (dgA P q) (grownL pkI d q (m - partN n) (n - partN n) false (P.take (32 * q))).1 hl g1) (by rfl) [(0, 0), (1, 0), (2, 0)] (by simp [CALL]) (by simp [CALL, hB, cellsAt, instL_hEng, hEng_take, tk]) (by simp [CALL, hB]) (by simp [hB, okL_bs, okL_hEng]) ?_
        simp (config := { maxSteps := 1000000 }) only [CALL, ↓VC, VP, TT, List.getElem?_toArray, Nat.reduceEqDiff, reduceCtorEq, Nat.reduceAdd, Nat.reduceSub, Nat.reduceLT, Nat.reduceMul, Nat.reducePow, Nat.reduceLeDiff, Int.reduceToNat, Int.reduceLE, Int.reduceLT, Int.reducePow, nodeL_len, g1, g2, tk32 g1, tk32 g2, hl, tk32 hl, ge_iff_le, Nat.le_refl, true_and, and_self]
        repeat (refine ⟨by first | omega | (simp; done) | decide, ?_⟩)
        refine kCall_val (c_hasher_node (dgA P q) (grownL pkI d q (m - partN n) (n - partN n) false (P.take (32 * q))).2.1 hl g2) (by rfl) [(0, 0), (1, 0), (2, 0)] (by simp [CALL]) (by simp [CALL, hB, cellsAt, instL_hEng, hEng_take, tk]) (by simp [CALL, hB]) (by simp [hB, okL_bs, okL_hEng]) ?_
        simp (config := { maxSteps := 1000000 }) only [CALL, ↓VC, VP, TT, List.getElem?_toArray, Nat.reduceEqDiff, reduceCtorEq, Nat.reduceAdd, Nat.reduceSub, Nat.reduceLT, Nat.reduceMul, Nat.reducePow, Nat.reduceLeDiff, Int.reduceToNat, Int.reduceLE, Int.reduceLT, Int.reducePow, nodeL_len, g1, g2, tk32 g1, tk32 g2, hl, tk32 hl, ge_iff_le, Nat.le_refl, true_and, and_self]
        repeat (refine ⟨by first | omega | (simp; done) | decide, ?_⟩)
        have e : grownL pkI d (q + 1) m n w P = (nodeL (dgA P q) (grownL pkI d q (m - partN n) (n - partN n) false (P.take (32 * q))).1, nodeL (dgA P q) (grownL pkI d q (m - partN n) (n - partN n) false (P.take (32 * q))).2.1, (grownL pkI d q (m - partN n) (n - partN n) false (P.take (32 * q))).2.2) := by rw [grownL, if_neg (fun h => hmn2 h.1), if_neg hmn2, if_neg hge]
        refine ⟨_, _, [0, 1, 2, 3], ⟨rfl, rfl⟩, ?_⟩
        rw [e]
        generalize nodeL (dgA P q) (grownL pkI d q (m - partN n) (n - partN n) false (P.take (32 * q))).1 = X1
        generalize nodeL (dgA P q) (grownL pkI d q (m - partN n) (n - partN n) false (P.take (32 * q))).2.1 = X2
        generalize (grownL pkI d q (m - partN n) (n - partN n) false (P.take (32 * q))).2.2 = X3
        simp [-List.reduceReplicate, LES, growV, renL_hEng, okL_hEng]
end Go.Proofs.Ytapagcnipdpfiaa

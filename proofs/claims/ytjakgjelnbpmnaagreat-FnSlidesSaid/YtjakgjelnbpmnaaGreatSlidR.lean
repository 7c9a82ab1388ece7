import Derived.Test.YtjakgjelnbpmnaaGreatInt64SS
import Derived.Test.YtjakgjelnbpmnaaGreatSlidS
/- Slides: places that are alike; what the places tell. -/
set_option linter.unusedSimpArgs false
set_option linter.unusedVariables false
namespace Go.Proofs.YtjakgjelnbpmnaaGreat
open Go Go.Vc
set_option maxRecDepth 10000
set_option maxHeartbeats 4000000
theorem c_laws_likeInts (a b : List Int) (ca cb : Nat) (hca : a.length ≤ ca) (hcb : b.length ≤ cb) (hm : a.length ≤ 4194304) : LC Tryz.prog 43 [.s 0 0 a.length ca, .s 1 0 b.length cb] [⟨false, nsv a⟩, ⟨false, nsv b⟩] (fun v hp => v = .c (.bool (a == b)) ∧ hp = [⟨false, nsv a⟩, ⟨false, nsv b⟩]) := by
  refine LC_of (X := XX (fun | 6 => .one 0 (.one 1 (.one 2 (.one 3 (.one 4 (.one 5 (.one 6 (.one 7 (.one 8 .nil)))))))) | _ => .nil) (fun _ => []) [33, 34, 35, 36, 39, 45, 53, 54, 65, 75, 90, 91, 92, 104] 2) envOK Tryz.func43 (by kernel_rfl) (by kernel_rfl) rfl (Nat.le_of_ble_eq_true (by kernel_rfl)) ?_
  simp only [kFun, Tryz.f43, List.length_nil, List.length_cons, Nat.sub_zero, Nat.reduceSub, Nat.reduceAdd, List.nil_append, List.cons_append, List.replicate_succ, List.replicate_zero]
  simp only [XX, ↓VC, VP, TT, Nat.reduceEqDiff, reduceCtorEq, Nat.reduceAdd, Nat.reduceSub, Nat.reduceLT, Nat.reduceMul, Nat.reducePow, Nat.reduceLeDiff, Int.reduceToNat, Int.reduceLE, Int.reduceLT, Int.reducePow]
  refine ⟨fun h => ⟨_, _, [0, 1], ⟨rfl, rfl⟩, ?_⟩, fun h => ?_⟩
  · rw [bne_iff_ne] at h
    have : (a == b) = false := by rw [beq_eq_false_iff_ne]; intro e; exact h (by rw [e])
    rw [this]; simp [-List.reduceReplicate, LES]
  · have hab : b.length = a.length := by have := bne_eq_false_iff_eq.1 h; omega
    refine kLoop_of (fun i : Nat => ([.s 0 0 a.length ca, .s 1 0 b.length cb, .j, .j, .j, .c (.int .i64 (i : Nat)), .j, .j, .j, .j, .j, .j, .j, .j, .j, .j, .j, .j, .j, .j, .j, .j, .j, .j, .j, .j], [⟨false, nsv a⟩, ⟨false, nsv b⟩])) (fun i => a.length - i) (fun i => i ≤ a.length ∧ a.take i = b.take i) 0 (by simp) ⟨[0, 1], by simp [-List.reduceReplicate, LES]⟩ ?_
    rintro i ⟨hi, ht⟩
    simp only [↓VC, VP, TT, Nat.reduceEqDiff, reduceCtorEq, Nat.reduceAdd, Nat.reduceSub, Nat.reduceLT, Nat.reduceMul, Nat.reducePow, Nat.reduceLeDiff, Int.reduceToNat, Int.reduceLE, Int.reduceLT, Int.reducePow, hab]
    refine ⟨fun h => ⟨by omega, by omega, by omega, by omega, fun hne => ⟨_, _, [0, 1], ⟨rfl, rfl⟩, ?_⟩, fun he => ⟨i + 1, ⟨by omega, take_succ_eqQ (by omega) (by omega) ht ?_⟩, by omega, [0, 1], ?_⟩⟩, fun h => ⟨_, _, [0, 1], ⟨rfl, rfl⟩, ?_⟩⟩
    · rw [bne_iff_ne] at hne
      have : (a == b) = false := by rw [beq_eq_false_iff_ne]; intro e; exact hne (by rw [e])
      rw [this]; simp [-List.reduceReplicate, LES]
    · exact bne_eq_false_iff_eq.1 he
    · rw [wrap_i64 (by omega) (by omega)]
      simp [-List.reduceReplicate, LES, hab]
    · obtain rfl : i = a.length := by omega
      rw [List.take_of_length_le (by omega), List.take_of_length_le (by omega)] at ht
      subst ht
      simp [-List.reduceReplicate, LES]
theorem likePair (p : Nat × Nat) : LC Tryz.prog 43 [.s 0 0 2 2, .s 1 0 2 2] [⟨false, nsv [(p.1 : Int), (p.2 : Int)]⟩, ⟨false, nsv [(p.1 : Int), (p.2 : Int)]⟩] (fun v hp => v = .c (.bool (true)) ∧ hp = [⟨false, nsv [(p.1 : Int), (p.2 : Int)]⟩, ⟨false, nsv [(p.1 : Int), (p.2 : Int)]⟩]) := by
  have key := c_laws_likeInts [(p.1 : Int), (p.2 : Int)] [(p.1 : Int), (p.2 : Int)] 2 2 (by simp) (by simp) (by simp)
  rw [beq_self_eq_true] at key
  exact key
theorem c_laws_rows5 (P : List (Nat × Nat)) (c1 c2 : Nat) (hc1 : P.length ≤ c1) (hc2 : P.length ≤ c2) (hm : P.length ≤ 1048576) : LC Tryz.prog 8 [.s 0 0 P.length c1, .s 1 0 P.length c2] (⟨false, ptrV 2 (iPs P)⟩ :: ⟨false, ptrV (P.length + 2) (iPs P)⟩ :: (partB false (iPs P) ++ partB false (iPs P)))
    (fun v hp => v = .c (.bool (true)) ∧ hp = (⟨false, ptrV 2 (iPs P)⟩ :: ⟨false, ptrV (P.length + 2) (iPs P)⟩ :: (partB false (iPs P) ++ partB false (iPs P)))) := by
  refine LC_of (X := XX (fun | 6 => .one 0 (.one 1 (.one 2 (.one 3 (.one 4 (.one 5 (.one 6 (.one 7 (.one 8 (.one 9 .nil))))))))) | _ => .nil) (fun _ => []) [33, 34, 35, 36, 39, 45, 53, 54, 65, 75, 90, 91, 92, 104] (P.length + P.length + 2)) envOK Tryz.func8 (by kernel_rfl) (by kernel_rfl) (by simp [XX, partB_length, iPs_length]) (Nat.le_of_ble_eq_true (by kernel_rfl)) ?_
  simp only [kFun, Tryz.f8, List.length_nil, List.length_cons, Nat.sub_zero, Nat.reduceSub, Nat.reduceAdd, List.nil_append, List.cons_append, List.replicate_succ, List.replicate_zero]
  simp only [XX, ↓VC, VP, TT, Nat.reduceEqDiff, reduceCtorEq, Nat.reduceAdd, Nat.reduceSub, Nat.reduceLT, Nat.reduceMul, Nat.reducePow, Nat.reduceLeDiff, Int.reduceToNat, Int.reduceLE, Int.reduceLT, Int.reducePow, partB_length, iPs_length, bne_self_eq_false]
  have hPn := iPs_length P
  have hPs : ∀ {N : Nat}, ∀ p ∈ iPs P, stL N p.cells := fun {N} => iPs_st
  generalize hP : iPs P = Q at *
  refine kLoop_of (fun i : Nat => ([.s 0 0 P.length c1, .s 1 0 P.length c2, .j, .j, .j, .c (.int .i64 (i)), .j, .j, .j, .j, .j, .j, .j, .j, .j, .j, .j, .j, .j, .j, .j, .j, .j, .j, .j, .j, .j], (⟨false, ptrV 2 Q⟩ :: ⟨false, ptrV (P.length + 2) Q⟩ :: (partB false Q ++ partB false Q)))) (fun i => P.length - i) (fun i => i ≤ P.length) 0 (by omega) ⟨List.range (P.length + P.length + 2), ?_⟩ ?_
  · refine LeS_id (ex := []) (by simp [partB_length, hPn]) (Nat.le_refl _) (by simp) (by simp [leT]) (by simp [stL, stV]) ?_
    exact stB_cons (stL_ptrV (by omega)) (stB_cons (stL_ptrV (by omega)) (stB_app (stB_part hPs) (stB_part hPs)))
  intro i hi
  rcases Nat.lt_or_ge i P.length with h1 | h1
  · have hpi : P[i]? = some P[i] := List.getElem?_eq_getElem h1
    generalize P[i] = p at hpi
    have hL : Q[i]? = some (iP p) := by rw [← hP]; exact iPs_get hpi
    have hlk : ∀ R, ((⟨false, ptrV 2 Q⟩ : Blk) :: ⟨false, ptrV (P.length + 2) Q⟩ :: (partB false Q ++ R))[i + 2]? = some ⟨false, nsv [(p.1 : Int), (p.2 : Int)]⟩ := fun R => partB_get hL
    have hlk2 : ((⟨false, ptrV 2 Q⟩ : Blk) :: ⟨false, ptrV (P.length + 2) Q⟩ :: (partB false Q ++ partB false Q))[P.length + i + 2]? = some ⟨false, nsv [(p.1 : Int), (p.2 : Int)]⟩ := by
      show (partB false Q ++ partB false Q)[P.length + i]? = _
      rw [partB_skip hPn]; exact partB_get0 hL
    have hi2 : 2 + i = i + 2 := by omega
    have hi3 : P.length + 2 + i = P.length + i + 2 := by omega
    simp only [↓VC, VP, TT, Nat.reduceEqDiff, reduceCtorEq, Nat.reduceAdd, Nat.reduceSub, Nat.reduceLT, Nat.reduceMul, Nat.reducePow, Nat.reduceLeDiff, Int.reduceToNat, Int.reduceLE, Int.reduceLT, Int.reducePow, (eq_true (by omega) : ((i : Int) < (P.length : Int)) = True), decide_true, ↓vGet_ptrV0 hL, iP, ptrV_length, hPn, hi2, hi3]
    have hg1 : i < P.length + P.length := by omega
    refine kCall_val (likePair p) (by rfl) [(i + 2, 0), (P.length + i + 2, 0)] (by simp [CALL, SCB, ptrV_length, partB_length, iPs_length, stL, okL_nsv, instL_nsv, ↓hlk, ↓hlk2, h1, hg1, hPn]) (by simp [CALL, SCB, ptrV_length, partB_length, iPs_length, stL, okL_nsv, instL_nsv, ↓hlk, ↓hlk2, h1, hg1, hPn]) (by simp [CALL, SCB, ptrV_length, partB_length, iPs_length, stL, okL_nsv, instL_nsv, ↓hlk, ↓hlk2, h1, hg1, hPn]) (by simp [okL_bs, okL_room, okL, okV, ptrV_length, partB_length, iPs_length, stL, okL_nsv, instL_nsv, ↓hlk, ↓hlk2, h1, hg1, hPn]) ?_
    simp (config := { maxSteps := 2000000 }) only [CALL, ↓VC, VP, TT, Nat.reduceEqDiff, reduceCtorEq, Nat.reduceAdd, Nat.reduceSub, Nat.reduceLT, Nat.reduceMul, Nat.reducePow, Nat.reduceLeDiff, Int.reduceToNat, Int.reduceLE, Int.reduceLT, Int.reducePow, GOB, ptrV_length, partB_length, iPs_length, iP, beq_self_eq_true, Bool.not_true]
    refine ⟨i + 1, by omega, by omega, List.range (P.length + P.length + 2), ?_⟩
    rw [wrap_i64 (by omega) (by omega)]
    refine LeS_id (ex := []) (by simp [partB_length, hPn]) (Nat.le_refl _) (by simp) (by simp [leT]) (by simp [stL, stV]) ?_
    exact stB_cons (stL_ptrV (by omega)) (stB_cons (stL_ptrV (by omega)) (stB_app (stB_part hPs) (stB_part hPs)))
  · obtain rfl : i = P.length := by omega
    simp only [↓VC, VP, TT, Nat.reduceEqDiff, reduceCtorEq, Nat.reduceAdd, Nat.reduceSub, Nat.reduceLT, Nat.reduceMul, Nat.reducePow, Nat.reduceLeDiff, Int.reduceToNat, Int.reduceLE, Int.reduceLT, Int.reducePow, (eq_false (by omega) : ((P.length : Int) < (P.length : Int)) = False), decide_false]
    refine ⟨_, _, List.range (P.length + P.length + 2), ⟨rfl, rfl⟩, ?_⟩
    refine LeS_id (ex := []) (by simp [partB_length, hPn]) (Nat.le_refl _) (by simp) (by simp [leT]) (by simp [stL, stV]) ?_
    exact stB_cons (stL_ptrV (by omega)) (stB_cons (stL_ptrV (by omega)) (stB_app (stB_part hPs) (stB_part hPs)))
theorem rowS_mem {f : Nat → Nat → Bool} {i : Nat} {p : Nat × Nat} : ∀ {n : Nat}, p ∈ rowS f i n → p.1 = i ∧ p.2 < n ∧ f p.1 p.2 = true
  | 0, h => by simp [rowS] at h
  | n + 1, h => by
    rw [rowS, List.mem_append] at h
    rcases h with h | h
    · obtain ⟨a, b, c⟩ := rowS_mem h; exact ⟨a, by omega, c⟩
    · split at h
      · rw [List.mem_singleton] at h; subst h; exact ⟨rfl, by simp only; omega, by assumption⟩
      · simp at h
theorem slS_mem {f : Nat → Nat → Bool} {n : Nat} {p : Nat × Nat} : ∀ {m : Nat}, p ∈ slS f n m → p.1 < m ∧ p.2 < n ∧ f p.1 p.2 = true
  | 0, h => by simp [slS] at h
  | m + 1, h => by
    rw [slS, List.mem_append] at h
    rcases h with h | h
    · obtain ⟨a, b, c⟩ := slS_mem h; exact ⟨by omega, b, c⟩
    · obtain ⟨a, b, c⟩ := rowS_mem h; exact ⟨by omega, b, c⟩
theorem slid_tells (z k n : Int) (box A key : List UInt8) (hbx : box.length = 256) (hA : A.length = 16) (hk : key.length = 8) (m c : Nat) (L : List UInt8) (hL : L.length = 16 * m) (hc : m ≤ c) (hm : m ≤ 1048576) : ∃ (P : List (Nat × Nat)) (e : Int), P.length ≤ 3600 ∧
    LC Tryz.prog 7 [.a (netC z box A k n), .a (bs key), .s 0 0 m c] [⟨false, bs L⟩] (Ret [⟨false, bs L⟩] (fun _ : Nat => True) (slR P e)) ∧
    LC Tryz.prog 6 [.a (netC z box A k n), .a (bs key), .s 0 0 m c] [⟨false, bs L⟩] (Ret [⟨false, bs L⟩] (fun _ : Nat => True) (slR P e)) ∧
    ((e ≠ 0 ∧ P = []) ∨ (e = 0 ∧ ∃ d : Net, z = d.m ∧ box = d.box ∧ A = d.A ∧ k = d.k ∧ n = d.n ∧ ∀ p ∈ P, p.1 < m ∧ p.2 < m ∧ bkA L p.2 = d.rnd key (bkA L p.1))) := by
  by_cases hE : netB z box A k n = true ∧ m ≤ 60
  · obtain ⟨hB, h60⟩ := hE
    obtain ⟨d, rfl, rfl, rfl, rfl, rfl⟩ := net_of hbx hA hB
    have hst : stM [(⟨false, bs L⟩ : Blk)] := by
      intro b hb
      simp only [List.mem_cons, List.not_mem_nil, or_false] at hb
      subst hb
      exact stL_bs _ _
    have f : bAt [(⟨false, bs L⟩ : Blk)] 0 (bs L) := bAt_of rfl
    refine ⟨slS (slF d key L) m m, 0, ?_, k_spec_Slid d hst hk hL h60 hc f, k_impl_Slid d hst hk hL h60 hc f, .inr ⟨rfl, d, rfl, rfl, rfl, rfl, rfl, fun p hp => ?_⟩⟩
    · have := slS_len (slF d key L) m m
      have : m * m ≤ 60 * 60 := Nat.mul_le_mul h60 h60
      omega
    · obtain ⟨a, b, e⟩ := slS_mem hp
      exact ⟨a, b, by unfold slF at e; exact beq_iff_eq.1 e⟩
  · have hE' : netB z box A k n = false ∨ 60 < m := by
      cases hB : netB z box A k n with
      | false => exact .inl rfl
      | true => right; exact Nat.lt_of_not_le fun h => hE ⟨hB, h⟩
    exact ⟨[], codeS z box A k n, by simp, LC_nil (c_spec_Slid_no z k n box A key hbx hA hk m c L hL hc hm hE') (none_uniS _), LC_nil (c_impl_Slid_no z k n box A key hbx hA hk m c L hL hc hm hE') (none_uniS _), .inl ⟨by unfold codeS; split <;> decide, rfl⟩⟩
end Go.Proofs.YtjakgjelnbpmnaaGreat

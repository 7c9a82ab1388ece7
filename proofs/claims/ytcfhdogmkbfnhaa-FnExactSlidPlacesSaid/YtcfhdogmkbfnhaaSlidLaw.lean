import Derived.Test.YtcfhdogmkbfnhaaVals
import Derived.Test.YtcfhdogmkbfnhaaFieldM
import Derived.Test.YtcfhdogmkbfnhaaNetF
import Derived.Test.YtcfhdogmkbfnhaaNetC
import Derived.Test.YtcfhdogmkbfnhaaBlob
import Derived.Test.YtcfhdogmkbfnhaaVcgR
import Derived.Test.YtcfhdogmkbfnhaaInt64S
import Derived.Test.YtcfhdogmkbfnhaaByteSS
/- The laws' own helpers over slices of blocks. -/
set_option linter.unusedSimpArgs false
set_option linter.unusedVariables false
namespace Go.Proofs.Ytcfhdogmkbfnhaa
open Go Go.Vc
set_option maxRecDepth 10000
set_option maxHeartbeats 4000000
theorem flatZk (k : Nat) : ∀ n, (List.replicate n (bs (List.replicate k 0))).flatten = bs (List.replicate (k * n) 0)
  | 0 => by simp [bs_nil]
  | n + 1 => by rw [List.replicate_succ, List.flatten_cons, flatZk k n, bs_append, List.replicate_append_replicate, show k + k * n = k * (n + 1) by rw [Nat.mul_succ]; omega]
theorem c_laws_szBlockS (n c m : Nat) (D : List UInt8) (hD : D.length = 16 * n) (hc : n ≤ c) (hm : n ≤ maxLen) (h20 : m ≤ 1048576) : LC Try.prog 41 [.s 0 0 n c, .c (.int .i64 (m))] [⟨false, bs D⟩] (fun v hp => v = .c (.int .i64 ((if n ≤ m then (m : Int) - n else -1))) ∧ hp = [⟨false, bs D⟩]) := by
  refine LC_of (X := XX (fun _ => .nil) (fun _ => []) [19, 20, 48, 49, 59, 72, 93, 112, 174] 1) envOK Try.func41 (by kernel_rfl) (by kernel_rfl) rfl (Nat.le_of_ble_eq_true (by kernel_rfl)) ?_
  simp only [kFun, Try.f41, List.length_nil, List.length_cons, Nat.sub_zero, Nat.reduceSub, Nat.reduceAdd, List.nil_append, List.cons_append, List.replicate_succ, List.replicate_zero]
  simp only [XX, ↓VC, VP, TT, List.getElem?_toArray, Nat.reduceEqDiff, reduceCtorEq, Nat.reduceAdd, Nat.reduceSub, Nat.reduceLT, Nat.reduceMul, Nat.reducePow, Nat.reduceLeDiff, Int.reduceToNat, Int.reduceLE, Int.reduceLT, Int.reducePow]
  unfold maxLen at hm
  rw [wrap_i64 (by omega) (by omega)]
  refine ⟨fun h => ⟨_, _, [0], ⟨rfl, rfl⟩, ?_⟩, fun h => ⟨_, _, [0], ⟨rfl, rfl⟩, ?_⟩⟩
  · rw [if_neg (by omega)]; simp [-List.reduceReplicate, LES]
  · rw [if_pos (by omega)]; simp [-List.reduceReplicate, LES]
/-- The block at a place. -/
def blA (D : List UInt8) (i : Nat) : List UInt8 := (D.drop (16 * i)).take 16
theorem blA_len {D : List UInt8} {i n : Nat} (hD : D.length = 16 * n) (h : i < n) : (blA D i).length = 16 := by
  unfold blA; rw [List.length_take, List.length_drop]; omega
theorem blA_succ {D : List UInt8} {i n : Nat} (hD : D.length = 16 * n) (h : i < n) : D.take (16 * (i + 1)) = D.take (16 * i) ++ blA D i := by
  unfold blA; rw [Nat.mul_succ, List.take_add]
theorem blA_eq (D : List UInt8) (i : Nat) : List.take 16 (List.drop (i * 16) D) = blA D i := by rw [Nat.mul_comm]; rfl
theorem splK_fill {D : List UInt8} {i n : Nat} (hD : D.length = 16 * n) (h : i < n) : splB (D.take (16 * i) ++ List.replicate (16 * (n - i)) 0) (i * 16) (blA D i) = D.take (16 * (i + 1)) ++ List.replicate (16 * (n - (i + 1))) 0 := by
  have hl : (D.take (16 * i)).length = 16 * i := by rw [List.length_take]; omega
  unfold splB
  rw [blA_len hD h, List.take_append_of_le_length (by omega), List.take_of_length_le (by omega), List.drop_append, List.drop_eq_nil_of_le (by omega), hl, List.drop_replicate, blA_succ hD h, List.append_assoc]
  simp only [List.nil_append]
  rw [show 16 * (n - i) - (i * 16 + 16 - 16 * i) = 16 * (n - (i + 1)) by omega, List.append_assoc]
theorem c_laws_toBlockS (n c : Nat) (D : List UInt8) (hD : D.length = 16 * n) (hc : n ≤ c) (hm : n ≤ 1048576) : LC Try.prog 44 [.s 0 0 n c] [⟨false, bs D⟩] (Ret [⟨false, bs D⟩] (fun _ : Unit => True) fun _ => (.s 1 0 n n, [⟨true, bs D⟩])) := by
  refine LC_of (X := XX (fun _ => .nil) (fun _ => []) [19, 20, 48, 49, 59, 72, 93, 112, 174] 1) envOK Try.func44 (by kernel_rfl) (by kernel_rfl) rfl (Nat.le_of_ble_eq_true (by kernel_rfl)) ?_
  simp only [kFun, Try.f44, List.length_nil, List.length_cons, Nat.sub_zero, Nat.reduceSub, Nat.reduceAdd, List.nil_append, List.cons_append, List.replicate_succ, List.replicate_zero]
  simp only [XX, ↓VC, VP, TT, List.getElem?_toArray, Nat.reduceEqDiff, reduceCtorEq, Nat.reduceAdd, Nat.reduceSub, Nat.reduceLT, Nat.reduceMul, Nat.reducePow, Nat.reduceLeDiff, Int.reduceToNat, Int.reduceLE, Int.reduceLT, Int.reducePow, flat_zeros, flatZk]
  refine ⟨by omega, by omega, by omega, ?_⟩
  refine kLoop_of (fun i : Nat => ([.s 0 0 n c, .j, .j, .s 1 0 n n, .c (.int .i64 (i)), .j, .j, .j, .j, .j, .j, .j, .j, .j, .j, .j, .j, .j, .j, .j, .j, .j, .j], [⟨false, bs D⟩, ⟨true, bs (D.take (16 * i) ++ List.replicate (16 * (n - i)) 0)⟩])) (fun i => n - i) (fun i => i ≤ n) 0 (by omega) ⟨[0, 1], by simp [-List.reduceReplicate, LES, flatZk]⟩ ?_
  intro i hi
  have hl : (D.take (16 * i) ++ List.replicate (16 * (n - i)) 0).length = 16 * n := by simp; omega
  simp only [↓VC, VP, TT, List.getElem?_toArray, Nat.reduceEqDiff, reduceCtorEq, Nat.reduceAdd, Nat.reduceSub, Nat.reduceLT, Nat.reduceMul, Nat.reducePow, Nat.reduceLeDiff, Int.reduceToNat, Int.reduceLE, Int.reduceLT, Int.reducePow, hl, hD, blA_eq]
  refine ⟨fun h => ⟨by omega, by omega, ?_⟩, fun h => ⟨_, _, [0, 1], ⟨(), trivial, rfl, rfl⟩, ?_⟩⟩
  · have hd := blA_len (D := D) (i := i) hD (by omega)
    refine kCall_val (c_laws_toBlock (blA D i) hd) (by rfl) [] (by simp [CALL]) (by simp [CALL, cellsAt]) (by simp [CALL]) (by simp [okL_bs]) ?_
    simp only [CALL, ↓VC, VP, TT, List.getElem?_toArray, Nat.reduceEqDiff, reduceCtorEq, Nat.reduceAdd, Nat.reduceSub, Nat.reduceLT, Nat.reduceMul, Nat.reducePow, Nat.reduceLeDiff, Int.reduceToNat, Int.reduceLE, Int.reduceLT, Int.reducePow, hl, hd]
    refine ⟨by omega, by omega, i + 1, by omega, by omega, [0, 1], ?_⟩
    rw [wrap_i64 (by omega) (by omega), splK_fill hD (by omega)]
    simp [-List.reduceReplicate, LES]
  · obtain rfl : i = n := by omega
    rw [List.take_of_length_le (by omega)]
    simp [-List.reduceReplicate, LES]
theorem bks_ne {A B : List UInt8} {i : Nat} (h : blA A i ≠ blA B i) : A ≠ B := fun e => h (by rw [e])
theorem c_laws_eqBlockS (n m ca cb : Nat) (A B : List UInt8) (hA : A.length = 16 * n) (hB : B.length = 16 * m) (hca : n ≤ ca) (hcb : m ≤ cb) (hm : n ≤ 1048576) : LC Try.prog 47 [.s 0 0 n ca, .s 1 0 m cb] [⟨false, bs A⟩, ⟨false, bs B⟩] (fun v hp => v = .c (.bool (A == B)) ∧ hp = [⟨false, bs A⟩, ⟨false, bs B⟩]) := by
  refine LC_of (X := XX (fun | 6 => .one 0 (.one 1 (.one 2 (.one 3 (.one 4 (.one 5 (.one 6 (.one 7 (.one 8 (.one 9 .nil))))))))) | _ => .nil) (fun _ => []) [19, 20, 48, 49, 59, 72, 93, 112, 174] 2) envOK Try.func47 (by kernel_rfl) (by kernel_rfl) rfl (Nat.le_of_ble_eq_true (by kernel_rfl)) ?_
  simp only [kFun, Try.f47, List.length_nil, List.length_cons, Nat.sub_zero, Nat.reduceSub, Nat.reduceAdd, List.nil_append, List.cons_append, List.replicate_succ, List.replicate_zero]
  simp only [XX, ↓VC, VP, TT, List.getElem?_toArray, Nat.reduceEqDiff, reduceCtorEq, Nat.reduceAdd, Nat.reduceSub, Nat.reduceLT, Nat.reduceMul, Nat.reducePow, Nat.reduceLeDiff, Int.reduceToNat, Int.reduceLE, Int.reduceLT, Int.reducePow]
  refine ⟨fun h => ⟨_, _, [0, 1], ⟨rfl, rfl⟩, ?_⟩, fun h => ?_⟩
  · rw [bne_iff_ne] at h
    have : (A == B) = false := by rw [beq_eq_false_iff_ne]; intro e; exact h (by rw [e] at hA; omega)
    rw [this]; simp [-List.reduceReplicate, LES]
  · obtain rfl : m = n := by have := bne_eq_false_iff_eq.1 h; omega
    refine kLoop_of (fun i : Nat => ([.s 0 0 m ca, .s 1 0 m cb, .j, .j, .j, .c (.int .i64 (i)), .j, .j, .j, .j, .j, .j, .j, .j, .j, .j, .j, .j, .j, .j, .j, .j, .j, .j, .j, .j, .j], [⟨false, bs A⟩, ⟨false, bs B⟩])) (fun i => m - i) (fun i => i ≤ m ∧ A.take (16 * i) = B.take (16 * i)) 0 (by simp) ⟨[0, 1], by simp [-List.reduceReplicate, LES]⟩ ?_
    rintro i ⟨hi, ht⟩
    simp only [↓VC, VP, TT, List.getElem?_toArray, Nat.reduceEqDiff, reduceCtorEq, Nat.reduceAdd, Nat.reduceSub, Nat.reduceLT, Nat.reduceMul, Nat.reducePow, Nat.reduceLeDiff, Int.reduceToNat, Int.reduceLE, Int.reduceLT, Int.reducePow, hA, hB, blA_eq]
    refine ⟨fun h => ?_, fun h => ⟨_, _, [0, 1], ⟨rfl, rfl⟩, ?_⟩⟩
    · repeat (refine ⟨by first | omega | (simp; done) | decide, ?_⟩)
      refine kCall_val (c_laws_eqBlock (blA A i) (blA B i) (blA_len hA (by omega)) (blA_len hB (by omega))) (by rfl) [] (by simp [CALL]) (by simp [CALL, cellsAt]) (by simp [CALL]) (by simp [okL_bs]) ?_
      simp only [CALL, ↓VC, VP, TT, List.getElem?_toArray, Nat.reduceEqDiff, reduceCtorEq, Nat.reduceAdd, Nat.reduceSub, Nat.reduceLT, Nat.reduceMul, Nat.reducePow, Nat.reduceLeDiff, Int.reduceToNat, Int.reduceLE, Int.reduceLT, Int.reducePow]
      refine ⟨fun hne => ⟨_, _, [0, 1], ⟨rfl, rfl⟩, ?_⟩, fun he => ⟨i + 1, ⟨by omega, ?_⟩, by omega, [0, 1], ?_⟩⟩
      · simp only [Bool.not_eq_true', beq_eq_false_iff_ne] at hne
        have : (A == B) = false := by rw [beq_eq_false_iff_ne]; exact bks_ne hne
        rw [this]; simp [-List.reduceReplicate, LES]
      · simp only [Bool.not_eq_false', beq_iff_eq] at he
        rw [blA_succ hA (by omega), blA_succ hB (by omega), ht, he]
      · rw [wrap_i64 (by omega) (by omega)]
        simp [-List.reduceReplicate, LES]
    · obtain rfl : i = m := by omega
      rw [List.take_of_length_le (by omega), List.take_of_length_le (by omega)] at ht
      subst ht
      simp [-List.reduceReplicate, LES]
theorem c_laws_markBlockS (n c r k : Nat) (D : List UInt8) (hD : D.length = 16 * n) (hc : n ≤ c) (hm : n ≤ 1048576) (hk : k ≤ 4294967296) : LC Try.prog 48 [.s 0 0 n c, .c (.int .i64 (k))] [⟨true, bs D ++ List.replicate r .j⟩]
    (RetM (fun _ : Unit => True) fun _ => (.c (.int .i64 (((k + 16 * n : Nat) : Int))), [⟨true, bs (markL k (16 * n)) ++ List.replicate r .j⟩], [])) := by
  refine LC_of (X := XX (fun _ => .nil) (fun _ => []) [19, 20, 48, 49, 59, 72, 93, 112, 174] 1) envOK Try.func48 (by kernel_rfl) (by kernel_rfl) rfl (Nat.le_of_ble_eq_true (by kernel_rfl)) ?_
  simp only [kFun, Try.f48, List.length_nil, List.length_cons, Nat.sub_zero, Nat.reduceSub, Nat.reduceAdd, List.nil_append, List.cons_append, List.replicate_succ, List.replicate_zero]
  simp only [XX, ↓VC, VP, TT, List.getElem?_toArray, Nat.reduceEqDiff, reduceCtorEq, Nat.reduceAdd, Nat.reduceSub, Nat.reduceLT, Nat.reduceMul, Nat.reducePow, Nat.reduceLeDiff, Int.reduceToNat, Int.reduceLE, Int.reduceLT, Int.reducePow]
  refine kLoop_of (fun i : Nat => ([.s 0 0 n c, .c (.int .i64 (((k + 16 * i : Nat) : Int))), .j, .j, .j, .c (.int .i64 (i)), .j, .j, .j, .j, .j, .j, .j, .j, .j, .j, .j, .j, .j, .j, .j, .j, .j, .j, .j, .j, .j], [⟨true, bs (markL k (16 * i) ++ D.drop (16 * i)) ++ List.replicate r .j⟩])) (fun i => n - i) (fun i => i ≤ n) 0 (by omega) ⟨[0], by simp [-List.reduceReplicate, LES, markL]⟩ ?_
  intro i hi
  by_cases hlt : i < n
  · simp only [↓VC, VP, TT, List.getElem?_toArray, Nat.reduceEqDiff, reduceCtorEq, Nat.reduceAdd, Nat.reduceSub, Nat.reduceLT, Nat.reduceMul, Nat.reducePow, Nat.reduceLeDiff, Int.reduceToNat, Int.reduceLE, Int.reduceLT, Int.reducePow, hlt, (eq_true (by omega) : ((i : Int) < n) = True), (eq_true (by omega) : ((i : Int) < ((n : Nat) : Int)) = True), wrap_i64 (n := (i : Int) + 1) (by omega) (by omega), decide_true]
    refine kLoop_of (fun j : Nat => ([.s 0 0 n c, .c (.int .i64 (((k + (16 * i + j) : Nat) : Int))), .j, .j, .j, .c (.int .i64 (i)), .c (.int .i64 (j)), .j, .j, .j, .j, .j, .j, .j, .j, .j, .j, .j, .j, .j, .j, .j, .j, .j, .j, .j, .j], [⟨true, bs (markL k (16 * i + j) ++ D.drop (16 * i + j)) ++ List.replicate r .j⟩])) (fun j => 16 - j) (fun j => j ≤ 16) 0 (by omega) ⟨[0], by simp [-List.reduceReplicate, LES]⟩ ?_
    intro j hj
    have hl : (markL k (16 * i + j) ++ D.drop (16 * i + j)).length = 16 * n := by simp [markL_len]; omega
    by_cases hlt2 : j < 16
    · simp only [↓VC, VP, TT, List.getElem?_toArray, Nat.reduceEqDiff, reduceCtorEq, Nat.reduceAdd, Nat.reduceSub, Nat.reduceLT, Nat.reduceMul, Nat.reducePow, Nat.reduceLeDiff, Int.reduceToNat, Int.reduceLE, Int.reduceLT, Int.reducePow, hl, hlt2, (eq_true (by omega) : ((j : Int) < 16) = True), (eq_true (by omega) : ((j : Int) < ((16 : Nat) : Int)) = True), wrap_i64 (n := (j : Int) + 1) (by omega) (by omega), decide_true, (show i * 16 + j < 16 * n by omega), ↓vPut_room]
      refine ⟨by omega, j + 1, by omega, by omega, [0], ?_⟩
      rw [wrap_i64 (n := ((k + (16 * i + j) : Nat) : Int) + 1) (by omega) (by omega), show i * 16 + j = 16 * i + j by omega, mark_step (by omega), show ((k + (16 * i + j) : Nat) : Int) + 1 = ((k + (16 * i + (j + 1)) : Nat) : Int) by omega]
      simp [-List.reduceReplicate, LES, Nat.add_assoc]
    · obtain rfl : j = 16 := by omega
      simp only [↓VC, VP, TT, List.getElem?_toArray, Nat.reduceEqDiff, reduceCtorEq, Nat.reduceAdd, Nat.reduceSub, Nat.reduceLT, Nat.reduceMul, Nat.reducePow, Nat.reduceLeDiff, Int.reduceToNat, Int.reduceLE, Int.reduceLT, Int.reducePow, hl]
      refine ⟨fun h => absurd h (by simp), fun _ => ⟨i + 1, by omega, by omega, [0], ?_⟩⟩
      rw [wrap_i64 (n := (i : Int) + 1) (by omega) (by omega), show 16 * i + 16 = 16 * (i + 1) by omega]
      simp [-List.reduceReplicate, LES]
  · obtain rfl : i = n := by omega
    simp only [↓VC, VP, TT, List.getElem?_toArray, Nat.reduceEqDiff, reduceCtorEq, Nat.reduceAdd, Nat.reduceSub, Nat.reduceLT, Nat.reduceMul, Nat.reducePow, Nat.reduceLeDiff, Int.reduceToNat, Int.reduceLE, Int.reduceLT, Int.reducePow, (eq_false (by omega) : ((i : Int) < (i : Int)) = False), decide_false]
    refine ⟨_, _, [0], ⟨(), trivial, rfl, rfl⟩, ?_⟩
    rw [List.drop_eq_nil_of_le (by omega), List.append_nil]
    simp [-List.reduceReplicate, LES]
end Go.Proofs.Ytcfhdogmkbfnhaa
/- SlidPlaces: both functions, over any memory. -/
set_option linter.unusedSimpArgs false
set_option linter.unusedVariables false
namespace Go.Proofs.Ytcfhdogmkbfnhaa
open Go Go.Vc
set_option maxRecDepth 10000
set_option maxHeartbeats 4000000
/-- Parts of two numbers. -/
def iP (p : Nat × Nat) : Prt := ⟨nsv [(p.1 : Int), (p.2 : Int)], 2, 2⟩
def iPs (L : List (Nat × Nat)) : List Prt := L.map iP
theorem iPs_length (L : List (Nat × Nat)) : (iPs L).length = L.length := by simp [iPs]
theorem iPs_app (L M : List (Nat × Nat)) : iPs (L ++ M) = iPs L ++ iPs M := by simp [iPs]
theorem iPs_st {N : Nat} {L : List (Nat × Nat)} : ∀ p ∈ iPs L, stL N p.cells := by
  intro p hp
  simp only [iPs, List.mem_map] at hp
  obtain ⟨q, _, rfl⟩ := hp
  exact stL_nsv _ _
theorem iPs_ren {σ : List Nat} {L : List (Nat × Nat)} : ∀ p ∈ iPs L, V.renL σ p.cells = p.cells := by
  intro p hp
  simp only [iPs, List.mem_map] at hp
  obtain ⟨q, _, rfl⟩ := hp
  exact renL_nsv _ _
theorem iPs_id {L : List (Nat × Nat)} : ∀ sub N, ∀ p ∈ iPs L, V.instL sub N p.cells = p.cells := by
  intro sub N p hp
  simp only [iPs, List.mem_map] at hp
  obtain ⟨q, _, rfl⟩ := hp
  exact instL_nsv _ _ _
/-- The pairs of row i, up to j; all rows up to i. -/
def rowS (f : Nat → Nat → Bool) (i : Nat) : Nat → List (Nat × Nat)
  | 0 => []
  | j + 1 => rowS f i j ++ (if f i j then [(i, j)] else [])
def slS (f : Nat → Nat → Bool) (n : Nat) : Nat → List (Nat × Nat)
  | 0 => []
  | i + 1 => slS f n i ++ rowS f i n
theorem rowS_len (f : Nat → Nat → Bool) (i : Nat) : ∀ j, (rowS f i j).length ≤ j
  | 0 => by simp [rowS]
  | j + 1 => by rw [rowS, List.length_append]; have := rowS_len f i j; split <;> simp <;> omega
theorem slS_len (f : Nat → Nat → Bool) (n : Nat) : ∀ i, (slS f n i).length ≤ i * n
  | 0 => by simp [slS]
  | i + 1 => by rw [slS, List.length_append, Nat.succ_mul]; have := slS_len f n i; have := rowS_len f i n; omega
/-- The block at a place. -/
def bkA (L : List UInt8) (i : Nat) : List UInt8 := (L.drop (16 * i)).take 16
theorem bkA_len {L : List UInt8} {i n : Nat} (hL : L.length = 16 * n) (h : i < n) : (bkA L i).length = 16 := by
  unfold bkA; rw [List.length_take, List.length_drop]; omega
theorem vSub_bkR {L : List UInt8} {n i : Nat} {X : List V} {k : V → Prop} (hL : L.length = 16 * n) (h : i < n) : vSub (bs L ++ X) (i * 16) 16 k = k (.a (bs (bkA L i))) := by
  rw [vSub_appL (by rw [bs_length, hL]; omega), vSub_bs, Nat.mul_comm i 16]
  simp only [eq_iff_iff]
  exact ⟨fun h => h.2, fun h => ⟨by omega, h⟩⟩
theorem repl16 {a : UInt8} {n : Nat} : (List.replicate n a).length = n := List.length_replicate
theorem set_2b {A B : List Blk} {x y b : Blk} {k : Nat} : True := trivial
theorem vSub_16 {r : List UInt8} (hr : r.length = 16) {k : V → Prop} : vSub (bs r) 0 16 k = k (.a (bs r)) := vSub_all (by rw [bs_length, hr])
theorem vSub_8 {r : List UInt8} (hr : r.length = 8) {k : V → Prop} : vSub (bs r) 0 8 k = k (.a (bs r)) := vSub_all (by rw [bs_length, hr])
/-- Which pairs are slid. -/
def slF (c : Net) (key L : List UInt8) (i j : Nat) : Bool := bkA L j == c.rnd key (bkA L i)
/-- What is handed back: the pairs, in new memory. -/
def newP (N : Nat) (P : List (Nat × Nat)) (r : Nat) : List Blk := ⟨true, ptrV (N + 1) (iPs P) ++ List.replicate r .j⟩ :: partB true (iPs P)
theorem newP_len {N r : Nat} {P : List (Nat × Nat)} : (newP N P r).length = 1 + P.length := by simp [newP, partB_length, iPs_length]; omega
theorem newP_st {N r : Nat} {P : List (Nat × Nat)} : ∀ x ∈ newP N P r, stL (N + (newP N P r).length) x.cells := by
  rw [newP_len]
  exact stB_cons (stL_app.2 ⟨stL_ptrV (by rw [iPs_length]; omega), stL_rep _ _⟩) (stB_part iPs_st)
theorem newP_own {N r : Nat} {P : List (Nat × Nat)} : ∀ x ∈ newP N P r, x.own = true ∨ x.cells = [] := by
  intro x hx
  simp only [newP, List.mem_cons, partB, List.mem_map] at hx
  rcases hx with rfl | ⟨p, _, rfl⟩ <;> exact .inl rfl
theorem newP_part {A : List Blk} {P : List (Nat × Nat)} {r i : Nat} {p : Prt} (h : (iPs P)[i]? = some p) : (A ++ newP A.length P r)[A.length + 1 + i]? = some ⟨true, p.cells⟩ := by
  have e : A ++ newP A.length P r = (A ++ [⟨true, ptrV (A.length + 1) (iPs P) ++ List.replicate r .j⟩]) ++ (partB true (iPs P) ++ []) := by simp [newP]
  rw [e]; exact at_part (by simp) h
theorem newP_out {A : List Blk} {P : List (Nat × Nat)} {r : Nat} : (A ++ newP A.length P r)[A.length]? = some ⟨true, ptrV (A.length + 1) (iPs P) ++ List.replicate r .j⟩ := at_app rfl
theorem newP_stM {A : List Blk} {P : List (Nat × Nat)} {r : Nat} (h : stM A) : stM (A ++ newP A.length P r) := h.app newP_st
theorem newP_all {A : List Blk} {P : List (Nat × Nat)} {r : Nat} (h : stM A) : ∀ b ∈ A ++ newP A.length P r, stL (A.length + (1 + P.length)) b.cells := by
  have := newP_stM (P := P) (r := r) h
  unfold Vc.stM at this
  rwa [List.length_append, newP_len] at this
/-- Pairs found anywhere, told as new ones. -/
theorem LeS_sl0 {m o b r : Nat} {A hp : List Blk} {P : List (Nat × Nat)} {tm tm' : List V} (hA : stM A) (x : Ext A hp) (hm : m ≤ A.length) (fO : hp[o]? = some (⟨true, ptrV b (iPs P) ++ List.replicate r .j⟩ : Blk)) (fQ : ∀ (k : Nat) (p : Prt), (iPs P)[k]? = some p → hp[b + k]? = some (⟨true, p.cells⟩ : Blk)) (ho : A.length ≤ o ∧ (o < b ∨ b + P.length ≤ o)) (hb : A.length ≤ b)
    (ht : leTm (List.range A.length ++ ([o] ++ List.range' b P.length)) tm tm') (hok : okL (A.length + (1 + P.length)) tm') : LeS m (List.range A.length ++ ([o] ++ List.range' b P.length)) tm hp tm' (A ++ newP A.length P r) := by
  have hn := iPs_length P
  have hr : V.renL (List.range A.length ++ ([o] ++ List.range' b P.length)) (ptrV (A.length + 1) (iPs P)) = ptrV b (iPs P) := renL_ptrV fun i hi => by
    rw [Nat.add_assoc, range_getD_ge, List.getD_eq_getElem?_getD, List.getElem?_append_right (by simp), ← List.getD_eq_getElem?_getD]
    have e : 1 + i - [o].length = i := by simp
    rw [e, getD_range' (by rw [hn] at hi; exact hi)]
  exact LeS_new (B := [⟨true, ptrV (A.length + 1) (iPs P) ++ List.replicate r .j⟩]) rfl x hA hm rfl (by simp) (by intro g hg; simp only [List.mem_cons, List.not_mem_nil, or_false] at hg; subst hg; exact ho) hb hn fQ (fun _ => iPs_ren) (fun _ p hp => stL_ok (iPs_st p hp)) ht (by simp only [leHp, fO, renL_app, hr, renL_rep]; simp) hok (by simp [okL_app, okL_rep]; exact stL_ok (stL_ptrV (by rw [hn]; omega)))
theorem LeS_sl1 {m o b r h1 : Nat} {A hp : List Blk} {P : List (Nat × Nat)} {tm tm' : List V} {nx : List UInt8} (hA : stM A) (x : Ext A hp) (hm : m ≤ A.length) (fN : hp[h1]? = some (⟨true, bs nx⟩ : Blk)) (fO : hp[o]? = some (⟨true, ptrV b (iPs P) ++ List.replicate r .j⟩ : Blk)) (fQ : ∀ (k : Nat) (p : Prt), (iPs P)[k]? = some p → hp[b + k]? = some (⟨true, p.cells⟩ : Blk)) (ho : A.length ≤ o ∧ (o < b ∨ b + P.length ≤ o)) (hh : A.length ≤ h1 ∧ (h1 < b ∨ b + P.length ≤ h1)) (hne : h1 ≠ o) (hb : A.length ≤ b)
    (ht : leTm (List.range A.length ++ ([h1, o] ++ List.range' b P.length)) tm tm') (hok : okL (A.length + (2 + P.length)) tm') : LeS m (List.range A.length ++ ([h1, o] ++ List.range' b P.length)) tm hp tm' ((A ++ [(⟨true, bs nx⟩ : Blk)]) ++ newP (A ++ [(⟨true, bs nx⟩ : Blk)]).length P r) := by
  have hn := iPs_length P
  have hr : V.renL (List.range A.length ++ ([h1, o] ++ List.range' b P.length)) (ptrV (A.length + 2) (iPs P)) = ptrV b (iPs P) := renL_ptrV fun i hi => by
    rw [Nat.add_assoc, range_getD_ge, List.getD_eq_getElem?_getD, List.getElem?_append_right (by simp), ← List.getD_eq_getElem?_getD]
    have e : 2 + i - [h1, o].length = i := by simp
    rw [e, getD_range' (by rw [hn] at hi; exact hi)]
  have e : (A ++ [(⟨true, bs nx⟩ : Blk)]) ++ newP (A ++ [(⟨true, bs nx⟩ : Blk)]).length P r = A ++ ([⟨true, bs nx⟩, ⟨true, ptrV (A.length + 2) (iPs P) ++ List.replicate r .j⟩] ++ partB true (iPs P)) := by simp [newP]
  rw [e]
  exact LeS_new (B := [⟨true, bs nx⟩, ⟨true, ptrV (A.length + 2) (iPs P) ++ List.replicate r .j⟩]) rfl x hA hm rfl (by simp; exact hne) (by intro g hg; simp only [List.mem_cons, List.not_mem_nil, or_false] at hg; rcases hg with rfl | rfl <;> assumption) hb hn fQ (fun _ => iPs_ren) (fun _ p hp => stL_ok (iPs_st p hp)) ht (by simp only [leHp, fN, fO, renL_app, hr, renL_rep, renL_bs]; simp) hok (by simp [okL_app, okL_rep, okL_bs]; exact stL_ok (stL_ptrV (by rw [hn]; omega)))
section
variable {H : List Blk} {n g cc : Nat} {L key : List UInt8}
theorem k_spec_Slid (c : Net) (hst : stM H) (hk : key.length = 8) (hL : L.length = 16 * n) (hn : n ≤ 60) (hcc : n ≤ cc) (f : bAt H g (bs L)) :
    LC Try.prog 42 [.a c.cells, .a (bs key), .s g 0 n cc] H (Ret H (fun _ : Nat => True) fun r => (.t [.s H.length 0 (slS (slF c key L) n n).length ((slS (slF c key L) n n).length + r), .c (.int .i64 (0))], newP H.length (slS (slF c key L) n n) r)) := by
  have lg := f.lt
  have hll : ∀ x, (H ++ [x]).length = H.length + 1 := fun x => by simp
  have hll2 : ∀ x y, ((H ++ [x]) ++ [y]).length = H.length + 1 + 1 := fun x y => by simp
  refine LC_of (X := XX (fun | 9 => .one 0 (.one 1 (.one 2 (.one 3 (.one 4 (.one 5 (.one 6 (.one 7 (.one 8 .nil)))))))) | 13 => .one 0 (.one 1 (.one 2 (.one 3 (.one 4 (.one 5 .nil))))) | _ => .nil) (fun | 9 => [(7, 10)] | _ => []) [19, 20, 48, 49, 59, 72, 93, 112, 174] (H.length)) envOK Try.func42 (by kernel_rfl) (by kernel_rfl) (by simp [XX]) (Nat.le_of_ble_eq_true (by kernel_rfl)) ?_
  simp only [kFun, Try.f42, List.length_nil, List.length_cons, Nat.sub_zero, Nat.reduceSub, Nat.reduceAdd, List.nil_append, List.cons_append, List.replicate_succ, List.replicate_zero]
  simp only [XX, ↓VC, VP, TT, List.getElem?_toArray, Nat.reduceEqDiff, reduceCtorEq, Nat.reduceAdd, Nat.reduceSub, Nat.reduceLT, Nat.reduceMul, Nat.reducePow, Nat.reduceLeDiff, Int.reduceToNat, Int.reduceLE, Int.reduceLT, Int.reducePow, n_len, ↓n_all, hk, hll, hll2, ↓app_last2, ↓app_last1]
  obtain ⟨hb, eb⟩ : ∃ hb, hb = H ++ [⟨true, c.cells⟩] ++ [⟨true, bs key⟩] := ⟨_, rfl⟩
  rw [← eb]
  have x1 : Ext H hb := ⟨_, by rw [eb, List.append_assoc]⟩
  have fC : hb[H.length]? = some ⟨true, c.cells⟩ := by rw [eb]; exact app_last2
  have fK : hb[H.length + 1]? = some ⟨true, bs key⟩ := by rw [eb]; exact app_last1
  have hstb : stM hb := by
    rw [eb]
    exact (hst.app (stB_cons (by simp [Net.cells, netC, stL, stV, stL_app, stL_bs]) stB_nil)).app (stB_cons (stL_bs _ _) stB_nil)
  have lb : hb.length = H.length + 2 := by simp [eb]
  obtain ⟨o1, X1, fL⟩ := f.mono x1
  clear eb
  refine kCall_val (k_spec_NIs c) (by rfl) [] (by simp [CALL, cellsAt, tk, take_room, bs_length, bs_nil, n_inst, n_ok]) (by simp [CALL, cellsAt, tk, take_room, bs_length, bs_nil, n_inst, n_ok]) (by simp [CALL, cellsAt, tk, take_room, bs_length, bs_nil, n_inst, n_ok]) (by simp [okL_bs, okL_room, okL, okV, n_inst, n_ok]) ?_
  simp (config := { maxSteps := 2000000 }) only [CALL, ↓VC, VP, TT, List.getElem?_toArray, Nat.reduceEqDiff, reduceCtorEq, Nat.reduceAdd, Nat.reduceSub, Nat.reduceLT, Nat.reduceMul, Nat.reducePow, Nat.reduceLeDiff, Int.reduceToNat, Int.reduceLE, Int.reduceLT, Int.reducePow, instL_room, Bool.not_true, Bool.not_false, n_inst, n_len, ↓n_all, fC, n_len, ↓n_all]
  simp only [↓VC, VP, TT, List.getElem?_toArray, Nat.reduceEqDiff, reduceCtorEq, Nat.reduceAdd, Nat.reduceSub, Nat.reduceLT, Nat.reduceMul, Nat.reducePow, Nat.reduceLeDiff, Int.reduceToNat, Int.reduceLE, Int.reduceLT, Int.reducePow, (eq_false (by omega) : ((n : Int) > 60) = False), decide_false]
  generalize hF : slF c key L = F at *
  have hlb : ∀ P r, (hb ++ newP hb.length P r).length = hb.length + (1 + P.length) := fun P r => by rw [List.length_append, newP_len]
  refine kLoop_of (fun s : Nat × Nat => ([.j, .j, .s g 0 n cc, .p H.length 0, .p (H.length + 1) 0, .j, .j, .j, .s hb.length 0 (slS F n s.1).length ((slS F n s.1).length + s.2), .c (.int .i64 (s.1)), .j, .j, .j, .j, .j, .j, .j, .j, .j, .j, .j, .j, .j, .j, .j, .j, .j, .j, .j, .j, .j, .j, .j, .j, .j, .j, .j, .j, .j, .j, .j, .j, .j, .j, .j, .j, .j, .j, .j, .j, .j, .j, .j], hb ++ newP hb.length (slS F n s.1) s.2)) (fun s => n - s.1) (fun s => s.1 ≤ n) (0, 0) (by simp) ⟨List.range (hb.length + (1 + (slS F n 0).length)), LeS_id (ex := []) (hlb _ _) (show H.length ≤ _ by omega) (by simp [newP, slS, iPs, ptrV, partB]) (by simp [leT, slS]) (by simp [stL, stV]; omega) (newP_all hstb)⟩ ?_
  rintro ⟨i, r0⟩ hi
  simp only at hi
  have hPl := slS_len F n i
  rcases Nat.lt_or_ge i n with h | h
  · obtain ⟨hp, ep⟩ : ∃ hp, hp = hb ++ newP hb.length (slS F n i) r0 := ⟨_, rfl⟩
    have fO : hp[hb.length]? = some ⟨true, ptrV (hb.length + 1) (iPs (slS F n i)) ++ List.replicate r0 .j⟩ := by rw [ep]; exact newP_out
    have fQ : ∀ k p, (iPs (slS F n i))[k]? = some p → hp[hb.length + 1 + k]? = some ⟨true, p.cells⟩ := fun k p hk => by rw [ep]; exact newP_part hk
    have x2 : Ext hb hp := ⟨_, ep⟩
    have lp : hp.length = hb.length + (1 + (slS F n i).length) := by rw [ep]; exact hlb _ _
    have gC := x2.get fC; have gK := x2.get fK; have gL := x2.get fL
    rw [← ep]
    simp only [↓VC, VP, TT, List.getElem?_toArray, Nat.reduceEqDiff, reduceCtorEq, Nat.reduceAdd, Nat.reduceSub, Nat.reduceLT, Nat.reduceMul, Nat.reducePow, Nat.reduceLeDiff, Int.reduceToNat, Int.reduceLE, Int.reduceLT, Int.reducePow, gC, gK, gL, n_len, ↓n_all, hk, ↓vSub_8 hk, ↓vSub_bkR hL h, (eq_true (by omega) : ((i : Int) < (n : Int)) = True), decide_true]
    repeat (refine ⟨by first | omega | (simp; done) | decide, ?_⟩)
    have hbl := bkA_len hL h
    have hrl := rnd_len (c := c) key (bkA L i) hbl
    refine kCall_val (k_spec_rnd c key (bkA L i) hk hbl) (by rfl) [] (by simp [CALL, cellsAt, tk, take_room, bs_length, bs_nil, n_inst, n_ok]) (by simp [CALL, cellsAt, tk, take_room, bs_length, bs_nil, n_inst, n_ok]) (by simp [CALL, cellsAt, tk, take_room, bs_length, bs_nil, n_inst, n_ok]) (by simp [okL_bs, okL_room, okL, okV, n_inst, n_ok]) ?_
    simp (config := { maxSteps := 2000000 }) only [CALL, ↓VC, VP, TT, List.getElem?_toArray, Nat.reduceEqDiff, reduceCtorEq, Nat.reduceAdd, Nat.reduceSub, Nat.reduceLT, Nat.reduceMul, Nat.reducePow, Nat.reduceLeDiff, Int.reduceToNat, Int.reduceLE, Int.reduceLT, Int.reducePow, instL_room, Bool.not_true, Bool.not_false, n_inst, n_len, ↓n_all, ↓app_last, set_last, hrl, repl16]
    have hFi : ∀ j, F i j = (bkA L j == c.rnd key (bkA L i)) := fun j => by rw [← hF]; rfl
    generalize c.rnd key (bkA L i) = nx at *
    have y0 : Ext hp (hp ++ [⟨true, bs nx⟩]) := ⟨_, rfl⟩
    have g0 : (hp ++ [⟨true, bs nx⟩])[hp.length]? = some ⟨true, bs nx⟩ := app_last
    obtain ⟨hb2, eb2⟩ : ∃ hb2, hb2 = hb ++ [⟨true, bs nx⟩] := ⟨_, rfl⟩
    have y2 : Ext hb hb2 := ⟨_, eb2⟩
    have lb2 : hb2.length = hb.length + 1 := by simp [eb2]
    have hstb2 : stM hb2 := by rw [eb2]; exact hstb.app (stB_cons (stL_bs _ _) stB_nil)
    have hlb2 : ∀ P r, (hb2 ++ newP hb2.length P r).length = hb2.length + (1 + P.length) := fun P r => by rw [List.length_append, newP_len]
    have fN2 : hb2[hb.length]? = some ⟨true, bs nx⟩ := by rw [eb2]; exact app_last
    refine kLoop_of (fun s : Nat × Nat => ([.j, .j, .s g 0 n cc, .p H.length 0, .p (H.length + 1) 0, .j, .j, .j, .s hb2.length 0 (slS F n i ++ rowS F i s.1).length ((slS F n i ++ rowS F i s.1).length + s.2), .c (.int .i64 (i)), .p hb.length 0, .c (.int .i64 (s.1)), .j, .j, .j, .j, .j, .j, .j, .j, .j, .j, .j, .j, .j, .j, .j, .j, .j, .j, .j, .j, .j, .j, .j, .j, .j, .j, .j, .j, .j, .j, .j, .j, .j, .j, .j, .j, .j, .j, .j, .j, .j], hb2 ++ newP hb2.length (slS F n i ++ rowS F i s.1) s.2)) (fun s => n - s.1) (fun s => s.1 ≤ n) (0, r0) (by simp) ⟨List.range hb.length ++ ([hp.length, hb.length] ++ List.range' (hb.length + 1) (slS F n i).length), ?_⟩ ?_
    · simp only [rowS, List.append_nil, eb2]
      exact LeS_sl1 (nx := nx) (r := r0) hstb (x2.trans y0) (show H.length ≤ hb.length by omega) g0 (y0.get fO) (fun k p hk => y0.get (fQ k p hk)) (by omega) (by omega) (by omega) (by omega)
        (by simp only [leTm, leV, V.ren, V.renL, range_getD_lt (show H.length < hb.length by omega), range_getD_lt (show H.length + 1 < hb.length by omega), range_getD_lt (show g < hb.length by omega), range_getD_ge, range_getD_eq, List.cons_append, List.nil_append, List.getD_cons_zero, List.getD_cons_succ]; simp) (by simp [okL, okV]; omega)
    rintro ⟨j, r1⟩ hj
    simp only at hj
    have hPl2 := rowS_len F i j
    have hPl3 : (slS F n i ++ rowS F i j).length ≤ 1000000 := by
      rw [List.length_append]
      have : i * n ≤ 60 * 60 := Nat.mul_le_mul (by omega) hn
      omega
    have eP1 : slS F n i ++ rowS F i (j + 1) = (slS F n i ++ rowS F i j) ++ (if F i j then [(i, j)] else []) := by rw [rowS, List.append_assoc]
    have eP2 : j = n → slS F n (i + 1) = slS F n i ++ rowS F i j := fun e => by rw [slS, e]
    generalize slS F n i ++ rowS F i j = P at *
    rcases Nat.lt_or_ge j n with h2 | h2
    · obtain ⟨hp2, ep2⟩ : ∃ hp2, hp2 = hb2 ++ newP hb2.length P r1 := ⟨_, rfl⟩
      have fO2 : hp2[hb2.length]? = some ⟨true, ptrV (hb2.length + 1) (iPs P) ++ List.replicate r1 .j⟩ := by rw [ep2]; exact newP_out
      have fQ2 : ∀ k p, (iPs P)[k]? = some p → hp2[hb2.length + 1 + k]? = some ⟨true, p.cells⟩ := fun k p hk => by rw [ep2]; exact newP_part hk
      have x3 : Ext hb2 hp2 := ⟨_, ep2⟩
      have lp2 : hp2.length = hb2.length + (1 + P.length) := by rw [ep2]; exact hlb2 _ _
      have gL2 := x3.get (y2.get fL); have gN2 := x3.get fN2
      have hbj := bkA_len hL h2
      rw [← ep2]
      have fA1 : ∀ x y : Blk, ((hp2 ++ [x]) ++ [y])[hb2.length]? = some ⟨true, ptrV (hb2.length + 1) (iPs P) ++ List.replicate r1 .j⟩ := fun x y => by rw [List.append_assoc, List.getElem?_append_left (by omega)]; exact fO2
      simp only [↓VC, VP, TT, List.getElem?_toArray, Nat.reduceEqDiff, reduceCtorEq, Nat.reduceAdd, Nat.reduceSub, Nat.reduceLT, Nat.reduceMul, Nat.reducePow, Nat.reduceLeDiff, Int.reduceToNat, Int.reduceLE, Int.reduceLT, Int.reducePow, gL2, gN2, hrl, ↓vSub_16 hrl, ↓vSub_bkR hL h2, (eq_true (by omega) : ((j : Int) < (n : Int)) = True), decide_true, fA1, ↓app_last1, if_true]
      repeat (refine ⟨by first | omega | (simp; done) | decide, ?_⟩)
      refine ⟨intCells_bs _, intCells_bs _, fun b' hb' => ⟨fun h5 => ?_, fun h5 => ?_⟩⟩
      · have hFj : F i j = true := by rw [hFi, beq_iff_eq]; exact bs_inj.1 (hb'.1 h5)
        rw [hFj, if_pos rfl] at eP1
        refine ⟨by omega, by omega, by simp [ptrV_length, iPs_length], .inr (by simp [ptrV_length, iPs_length]), .inr trivial, fun r2 c2 e5 e6 => ?_⟩
        refine ⟨(j + 1, r2), by simp only; omega, by simp only; omega, List.range hb2.length ++ ([hp2.length + 1 + 1] ++ List.range' (hb2.length + 1) (P ++ [(i, j)]).length), ?_⟩
        simp only [eP1]
        have ec : c2 = (P ++ [(i, j)]).length + r2 := by simp; omega
        have hlen : (slS F n i).length + (rowS F i (j + 1)).length = (P ++ [(i, j)]).length := by rw [← List.length_append, eP1]
        rw [wrap_i64 (by omega) (by omega), ec, hlen]
        have fA2 := set_upd (b := ⟨false, []⟩) (fA1 ⟨true, [.c (.int .i64 (i)), .c (.int .i64 (j))]⟩ ⟨true, [V.s hp2.length 0 2 2]⟩)
        have xE := ((x3.trans ⟨[⟨true, [.c (.int .i64 (i)), .c (.int .i64 (j))]⟩, ⟨true, [V.s hp2.length 0 2 2]⟩], by rw [List.append_assoc]; rfl⟩ : Ext hb2 (hp2 ++ [⟨true, [.c (.int .i64 (i)), .c (.int .i64 (j))]⟩] ++ [⟨true, [V.s hp2.length 0 2 2]⟩]))).uext fA2 (by intro h hh; omega)
        have hcells : List.take P.length (ptrV (hb2.length + 1) (iPs P) ++ List.replicate r1 V.j) ++ [V.s hp2.length 0 2 2] ++ List.replicate r2 V.j = ptrV (hb2.length + 1) (iPs (P ++ [(i, j)])) ++ List.replicate r2 .j := by
          rw [List.take_left' (by rw [ptrV_length, iPs_length]), iPs_app, ptrV_app, iPs_length]
          have e : hb2.length + 1 + P.length = hp2.length := by omega
          rw [e]; rfl
        rw [hcells]
        have lM : (((hp2 ++ [(⟨true, [.c (.int .i64 (i)), .c (.int .i64 (j))]⟩ : Blk)] ++ [(⟨true, [V.s hp2.length 0 2 2]⟩ : Blk)])).set hb2.length (⟨false, []⟩ : Blk)).length = hp2.length + 1 + 1 := by simp
        refine LeS_sl0 (P := P ++ [(i, j)]) (r := r2) hstb2 (xE.trans ⟨_, rfl⟩) (show H.length ≤ hb2.length by omega) (at_app lM) (fun k p hk => ?_) (by rw [List.length_append, List.length_singleton]; omega) (by omega) ?_ (by simp [okL, okV]; omega)
        · rw [List.getElem?_append_left (by rw [lM]; have := (List.getElem?_eq_some_iff.1 hk).1; rw [iPs_length, List.length_append, List.length_singleton] at this; omega), List.getElem?_set, if_neg (by omega)]
          rcases Nat.lt_or_ge k P.length with h9 | h9
          · rw [iPs_app, List.getElem?_append_left (by rw [iPs_length]; exact h9)] at hk
            rw [List.append_assoc, List.getElem?_append_left (by omega)]
            exact fQ2 k p hk
          · have hkl : k = P.length := by have := (List.getElem?_eq_some_iff.1 hk).1; rw [iPs_length, List.length_append, List.length_singleton] at this; omega
            subst hkl
            rw [iPs_app, List.getElem?_append_right (by rw [iPs_length]; exact Nat.le_refl _), iPs_length, Nat.sub_self] at hk
            simp only [iPs, List.map_cons, List.map_nil, List.getElem?_cons_zero, Option.some.injEq] at hk
            subst hk
            rw [show hb2.length + 1 + P.length = hp2.length by omega]
            exact app_last2
        · simp only [leTm, leV, V.ren, V.renL, range_getD_lt (show H.length < hb2.length by omega), range_getD_lt (show H.length + 1 < hb2.length by omega), range_getD_lt (show hb.length < hb2.length by omega), range_getD_lt (show g < hb2.length by omega), range_getD_ge, range_getD_eq, List.cons_append, List.nil_append, List.getD_cons_zero, List.getD_cons_succ]
          simp
      · have hFj : F i j = false := by
          rw [hFi, beq_eq_false_iff_ne]; intro e
          rw [hb'.2 (by rw [e])] at h5; cases h5
        rw [hFj] at eP1
        simp only [Bool.false_eq_true, if_false, List.append_nil] at eP1
        refine ⟨(j + 1, r1), by simp only; omega, by simp only; omega, List.range (hb2.length + (1 + P.length)), ?_⟩
        simp only [eP1]
        rw [wrap_i64 (by omega) (by omega)]
        exact LeS_id (ex := []) (hlb2 _ _) (show H.length ≤ _ by omega) (by simp [ep2]) (by simp [leT]; have := congrArg List.length eP1; simpa using this.symm) (by simp [stL, stV]; omega) (newP_all hstb2)
    · obtain rfl : j = n := by omega
      simp only [↓VC, VP, TT, List.getElem?_toArray, Nat.reduceEqDiff, reduceCtorEq, Nat.reduceAdd, Nat.reduceSub, Nat.reduceLT, Nat.reduceMul, Nat.reducePow, Nat.reduceLeDiff, Int.reduceToNat, Int.reduceLE, Int.reduceLT, Int.reducePow, (eq_false (by omega) : ((j : Int) < (j : Int)) = False), decide_false]
      refine ⟨(i + 1, r1), by simp only; omega, by simp only; omega, List.range hb.length ++ ([hb2.length] ++ List.range' (hb2.length + 1) P.length), ?_⟩
      simp only [eP2 rfl]
      rw [wrap_i64 (by omega) (by omega)]
      exact LeS_sl0 hstb (y2.trans ⟨_, rfl⟩) (show H.length ≤ hb.length by omega) newP_out (fun k p hk => newP_part hk) (by omega) (by omega) (by simp only [leTm, leV, V.ren, V.renL, range_getD_lt (show H.length < hb.length by omega), range_getD_lt (show H.length + 1 < hb.length by omega), range_getD_lt (show g < hb.length by omega), range_getD_ge, range_getD_eq, List.cons_append, List.nil_append, List.getD_cons_zero, List.getD_cons_succ]; simp) (by simp [okL, okV]; omega)
  · obtain rfl : i = n := by omega
    simp only [↓VC, VP, TT, List.getElem?_toArray, Nat.reduceEqDiff, reduceCtorEq, Nat.reduceAdd, Nat.reduceSub, Nat.reduceLT, Nat.reduceMul, Nat.reducePow, Nat.reduceLeDiff, Int.reduceToNat, Int.reduceLE, Int.reduceLT, Int.reducePow, (eq_false (by omega) : ((i : Int) < (i : Int)) = False), decide_false]
    refine ⟨_, _, List.range H.length ++ ([hb.length] ++ List.range' (hb.length + 1) (slS F i i).length), ⟨r0, trivial, rfl, rfl⟩, ?_⟩
    exact LeS_sl0 hst (x1.trans ⟨_, rfl⟩) (Nat.le_refl _) newP_out (fun k p hk => newP_part hk) (by omega) (by omega) (by simp [leTm, leV, V.ren, V.renL, range_getD_ge, range_getD_eq]) (by simp [okL, okV]; omega)
end
end Go.Proofs.Ytcfhdogmkbfnhaa
/- SlidPlaces: the program, over any memory. -/
set_option linter.unusedSimpArgs false
set_option linter.unusedVariables false
namespace Go.Proofs.Ytcfhdogmkbfnhaa
open Go Go.Vc
set_option maxRecDepth 10000
set_option maxHeartbeats 4000000
/-- Pairs found anywhere, the last one apart, told as new ones. -/
theorem LeS_slG {m o b r g : Nat} {A hp : List Blk} {P : List (Nat × Nat)} {q : Nat × Nat} {tm tm' : List V} (hA : stM A) (x : Ext A hp) (hm : m ≤ A.length) (fO : hp[o]? = some (⟨true, ptrV b (iPs P) ++ [V.s g 0 2 2] ++ List.replicate r .j⟩ : Blk)) (fQ : ∀ (k : Nat) (p : Prt), (iPs P)[k]? = some p → hp[b + k]? = some (⟨true, p.cells⟩ : Blk)) (fg : hp[g]? = some (⟨true, nsv [(q.1 : Int), (q.2 : Int)]⟩ : Blk)) (ho : A.length ≤ o ∧ (o < b ∨ b + P.length ≤ o)) (hb : A.length ≤ b) (hg : A.length ≤ g ∧ (g < b ∨ b + P.length ≤ g) ∧ g ≠ o)
    (ht : leTm (List.range A.length ++ ([o] ++ (List.range' b P.length ++ [g]))) tm tm') (hok : okL (A.length + (1 + (P ++ [q]).length)) tm') : LeS m (List.range A.length ++ ([o] ++ (List.range' b P.length ++ [g]))) tm hp tm' (A ++ newP A.length (P ++ [q]) r) := by
  have hn := iPs_length P
  have hr : V.renL (List.range A.length ++ ([o] ++ (List.range' b P.length ++ [g]))) (ptrV (A.length + 1) (iPs (P ++ [q]))) = ptrV b (iPs P) ++ [V.s g 0 2 2] := by
    rw [iPs_app, ptrV_app, renL_app]
    congr 1
    · refine renL_ptrV fun i hi => ?_
      rw [hn] at hi
      rw [Nat.add_assoc, range_getD_ge, List.getD_eq_getElem?_getD, List.getElem?_append_right (by simp), List.getElem?_append_left (by simp; omega), ← List.getD_eq_getElem?_getD]
      have e : 1 + i - [o].length = i := by simp
      rw [e, getD_range' hi]
    · simp only [iPs, List.map_cons, List.map_nil, ptrV, V.renL, V.ren, iP]
      rw [List.length_map, Nat.add_assoc, range_getD_ge, List.getD_eq_getElem?_getD, List.getElem?_append_right (by simp), List.getElem?_append_right (by simp)]
      simp
  refine LeS_gen (B := [⟨true, ptrV (A.length + 1) (iPs (P ++ [q])) ++ List.replicate r .j⟩]) (P := iPs (P ++ [q])) rfl x hA hm rfl (by simp [iPs_length]) ?_ ?_ ?_ (fun _ => iPs_ren) (fun _ p hp => stL_ok (iPs_st p hp)) ht (by simp only [leHp, fO, renL_app, hr, renL_rep]; simp) (by rw [iPs_length]; exact hok) (by simp [okL_app, okL_rep]; exact stL_ok (stL_ptrV (by rw [iPs_length, List.length_append, List.length_singleton]; omega)))
  · rw [List.singleton_append, List.nodup_cons]
    refine ⟨by simp only [List.mem_append, List.mem_range'_1, List.mem_cons, List.not_mem_nil, or_false, not_or]; omega, List.nodup_append.2 ⟨List.nodup_range', by simp, fun y hy z hz => ?_⟩⟩
    rw [List.mem_range'_1] at hy
    simp only [List.mem_cons, List.not_mem_nil, or_false] at hz
    omega
  · intro h hh
    simp only [List.mem_append, List.mem_range'_1, List.mem_cons, List.not_mem_nil, or_false] at hh
    omega
  · intro k p hk
    rcases Nat.lt_or_ge k P.length with h9 | h9
    · rw [iPs_app, List.getElem?_append_left (by rw [iPs_length]; exact h9)] at hk
      rw [List.getD_eq_getElem?_getD, List.getElem?_append_left (by simp; omega), ← List.getD_eq_getElem?_getD, getD_range' h9]
      exact fQ k p hk
    · have hkl : k = P.length := by have := (List.getElem?_eq_some_iff.1 hk).1; rw [iPs_length, List.length_append, List.length_singleton] at this; omega
      subst hkl
      rw [iPs_app, List.getElem?_append_right (by rw [iPs_length]; exact Nat.le_refl _), iPs_length, Nat.sub_self] at hk
      simp only [iPs, List.map_cons, List.map_nil, List.getElem?_cons_zero, Option.some.injEq] at hk
      subst hk
      rw [List.getD_eq_getElem?_getD, List.getElem?_append_right (by simp)]
      simp [iP, fg]
theorem set_last1 {H : List Blk} {x y z : Blk} : ((H ++ [x]) ++ [y]).set (H.length + 1) z = (H ++ [x]) ++ [z] := by
  have := set_last (H := H ++ [x]) (x := y) (y := z)
  rwa [List.length_append, List.length_singleton] at this
section
variable {H : List Blk} {n g cc : Nat} {L key : List UInt8}
theorem k_impl_Slid (c : Net) (hst : stM H) (hk : key.length = 8) (hL : L.length = 16 * n) (hn : n ≤ 60) (hcc : n ≤ cc) (f : bAt H g (bs L)) :
    LC Try.prog 45 [.a c.cells, .a (bs key), .s g 0 n cc] H (Ret H (fun _ : Nat => True) fun r => (.t [.s H.length 0 (slS (slF c key L) n n).length ((slS (slF c key L) n n).length + r), .c (.int .i64 (0))], newP H.length (slS (slF c key L) n n) r)) := by
  have lg := f.lt
  have hll : ∀ x, (H ++ [x]).length = H.length + 1 := fun x => by simp
  have hll2 : ∀ x y, ((H ++ [x]) ++ [y]).length = H.length + 1 + 1 := fun x y => by simp
  refine LC_of (X := XX (fun _ => .nil) (fun _ => []) [19, 20, 48, 49, 59, 72, 93, 112, 174] (H.length)) envOK Try.func45 (by kernel_rfl) (by kernel_rfl) (by simp [XX]) (Nat.le_of_ble_eq_true (by kernel_rfl)) ?_
  simp only [kFun, Try.f45, List.length_nil, List.length_cons, Nat.sub_zero, Nat.reduceSub, Nat.reduceAdd, List.nil_append, List.cons_append, List.replicate_succ, List.replicate_zero]
  simp only [XX, ↓VC, VP, TT, List.getElem?_toArray, Nat.reduceEqDiff, reduceCtorEq, Nat.reduceAdd, Nat.reduceSub, Nat.reduceLT, Nat.reduceMul, Nat.reducePow, Nat.reduceLeDiff, Int.reduceToNat, Int.reduceLE, Int.reduceLT, Int.reducePow, n_len, ↓n_all, hk, hll, hll2, ↓app_last2, ↓app_last1]
  obtain ⟨h0, eh0⟩ : ∃ h0, h0 = H ++ [⟨true, c.cells⟩] ++ [⟨true, bs key⟩] := ⟨_, rfl⟩
  rw [← eh0]
  have lh0 : h0.length = H.length + 2 := by simp [eh0]
  have fC0 : h0[H.length]? = some ⟨true, c.cells⟩ := by rw [eh0]; exact app_last2
  refine kCall_val (k_impl_NIs c) (by rfl) [] (by simp [CALL, cellsAt, tk, take_room, bs_length, bs_nil, n_inst, n_ok, ne_inst, ne_take, ne_ok, Net.bl, t2_take, t1_take]) (by simp [CALL, cellsAt, tk, take_room, bs_length, bs_nil, n_inst, n_ok, ne_inst, ne_take, ne_ok, Net.bl, t2_take, t1_take]) (by simp [CALL, cellsAt, tk, take_room, bs_length, bs_nil, n_inst, n_ok, ne_inst, ne_take, ne_ok, Net.bl, t2_take, t1_take]) (by simp [okL_bs, okL_room, okL, okV, n_inst, n_ok, ne_inst, ne_take, ne_ok, Net.bl, t2_take, t1_take]) ?_
  simp (config := { maxSteps := 2000000 }) only [CALL, ↓VC, VP, TT, List.getElem?_toArray, Nat.reduceEqDiff, reduceCtorEq, Nat.reduceAdd, Nat.reduceSub, Nat.reduceLT, Nat.reduceMul, Nat.reducePow, Nat.reduceLeDiff, Int.reduceToNat, Int.reduceLE, Int.reduceLT, Int.reducePow, instL_room, Bool.not_true, Bool.not_false, n_inst, n_len, ↓n_all, ne_len, ne_inst0, Net.bl, fC0, n_len, ↓n_all]
  simp only [↓VC, VP, TT, List.getElem?_toArray, Nat.reduceEqDiff, reduceCtorEq, Nat.reduceAdd, Nat.reduceSub, Nat.reduceLT, Nat.reduceMul, Nat.reducePow, Nat.reduceLeDiff, Int.reduceToNat, Int.reduceLE, Int.reduceLT, Int.reducePow, (eq_false (by omega) : ((n : Int) > 60) = False), decide_false]
  refine kCall_Ret (k_newNet c) (by rfl) [] (by simp [CALL, cellsAt, tk, take_room, bs_length, bs_nil, n_inst, n_ok, ne_inst, ne_take, ne_ok, Net.bl, t2_take, t1_take]) (by simp [CALL, cellsAt, tk, take_room, bs_length, bs_nil, n_inst, n_ok, ne_inst, ne_take, ne_ok, Net.bl, t2_take, t1_take]) (by simp [CALL, cellsAt, tk, take_room, bs_length, bs_nil, n_inst, n_ok, ne_inst, ne_take, ne_ok, Net.bl, t2_take, t1_take]) (by simp [okL_bs, okL_room, okL, okV, n_inst, n_ok, ne_inst, ne_take, ne_ok, Net.bl, t2_take, t1_take]) (by simp [CALL, cellsAt, tk, take_room, bs_length, bs_nil, n_inst, n_ok, ne_inst, ne_take, ne_ok, Net.bl, t2_take, t1_take]) fun _ _ => ?_
  simp (config := { maxSteps := 2000000 }) only [CALL, ↓VC, VP, TT, List.getElem?_toArray, Nat.reduceEqDiff, reduceCtorEq, Nat.reduceAdd, Nat.reduceSub, Nat.reduceLT, Nat.reduceMul, Nat.reducePow, Nat.reduceLeDiff, Int.reduceToNat, Int.reduceLE, Int.reduceLT, Int.reducePow, instL_room, Bool.not_true, Bool.not_false, n_inst, n_len, ↓n_all, ne_len, ne_inst0, Net.bl, fC0, n_len]
  obtain ⟨hb, eb⟩ : ∃ hb, hb = h0 ++ [(⟨true, c.eng (h0.length + 1) (h0.length + 2)⟩ : Blk), ⟨true, bs c.t1⟩, ⟨true, bs c.t2⟩] := ⟨_, rfl⟩
  rw [← eb]
  have x0 : Ext H h0 := ⟨_, by rw [eh0, List.append_assoc]⟩
  have x01 : Ext h0 hb := ⟨_, eb⟩
  have x1 : Ext H hb := x0.trans x01
  have lb : hb.length = H.length + 5 := by simp [eb, lh0]
  have fK : hb[H.length + 1]? = some ⟨true, bs key⟩ := x01.get (by rw [eh0]; exact app_last1)
  have fE : hb[H.length + 2]? = some ⟨true, c.eng (H.length + 3) (H.length + 4)⟩ := by rw [eb, List.getElem?_append_right (by omega), lh0]; simp
  have f1 : hb[H.length + 3]? = some ⟨true, bs c.t1⟩ := by rw [eb, List.getElem?_append_right (by omega), lh0]; simp
  have f2 : hb[H.length + 4]? = some ⟨true, bs c.t2⟩ := by rw [eb, List.getElem?_append_right (by omega), lh0]; simp
  have hst0 : stM h0 := by
    rw [eh0]
    exact (hst.app (stB_cons (by simp [Net.cells, netC, stL, stV, stL_app, stL_bs]) stB_nil)).app (stB_cons (stL_bs _ _) stB_nil)
  have hstb : stM hb := by
    rw [eb]
    exact hst0.app (stB_cons (by simp [Net.eng, nengC, stL, stV, stL_app, stL_bs]) (stB_cons (stL_bs _ _) (stB_cons (stL_bs _ _) stB_nil)))
  obtain ⟨o1, X1, fL⟩ := f.mono x1
  rw [lh0, show H.length + 2 + 3 = hb.length by omega]
  clear eb eh0
  generalize hF : slF c key L = F at *
  have hlb : ∀ P r, (hb ++ newP hb.length P r).length = hb.length + (1 + P.length) := fun P r => by rw [List.length_append, newP_len]
  refine kLoop_of (fun s : Nat × Nat => ([.j, .j, .s g 0 n cc, .j, .p (H.length + 1) 0, .j, .j, .j, .p (H.length + 2) 0, .s hb.length 0 (slS F n s.1).length ((slS F n s.1).length + s.2), .j, .j, .j, .j, .j, .j, .j, .j, .j, .j, .j, .j, .j, .j, .j, .j, .s g 0 n cc, .c (.int .i64 (n)), .c (.int .i64 (s.1)), .j, .j, .j, .j, .j, .j, .j, .j, .j, .j, .j, .j, .j, .j, .j, .j, .j, .j, .j, .j, .j, .j, .j, .j, .j, .j, .j], hb ++ newP hb.length (slS F n s.1) s.2)) (fun s => n - s.1) (fun s => s.1 ≤ n) (0, 0) (by simp) ⟨List.range (hb.length + (1 + (slS F n 0).length)), LeS_id (ex := []) (hlb _ _) (show H.length ≤ _ by omega) (by simp [newP, slS, iPs, ptrV, partB]) (by simp [leT, slS]) (by simp [stL, stV]; omega) (newP_all hstb)⟩ ?_
  rintro ⟨i, r0⟩ hi
  simp only at hi
  have hPl := slS_len F n i
  rcases Nat.lt_or_ge i n with h | h
  · obtain ⟨hp, ep⟩ : ∃ hp, hp = hb ++ newP hb.length (slS F n i) r0 := ⟨_, rfl⟩
    have fO : hp[hb.length]? = some ⟨true, ptrV (hb.length + 1) (iPs (slS F n i)) ++ List.replicate r0 .j⟩ := by rw [ep]; exact newP_out
    have fQ : ∀ k p, (iPs (slS F n i))[k]? = some p → hp[hb.length + 1 + k]? = some ⟨true, p.cells⟩ := fun k p hk => by rw [ep]; exact newP_part hk
    have x2 : Ext hb hp := ⟨_, ep⟩
    have lp : hp.length = hb.length + (1 + (slS F n i).length) := by rw [ep]; exact hlb _ _
    have y1 : ∀ x : Blk, Ext hb (hp ++ [x]) := fun x => x2.trans ⟨_, rfl⟩
    have gL := x2.get fL
    have gK := fun x => (y1 x).get fK; have gE := fun x => (y1 x).get fE; have g1 := fun x => (y1 x).get f1; have g2 := fun x => (y1 x).get f2
    rw [← ep]
    have hbl := bkA_len hL h
    simp only [↓VC, VP, TT, List.getElem?_toArray, Nat.reduceEqDiff, reduceCtorEq, Nat.reduceAdd, Nat.reduceSub, Nat.reduceLT, Nat.reduceMul, Nat.reducePow, Nat.reduceLeDiff, Int.reduceToNat, Int.reduceLE, Int.reduceLT, Int.reducePow, gK, gL, n_len, ↓n_all, hk, hbl, ↓vSub_8 hk, ↓vSub_16 hbl, ↓vSub_bkR hL h, ↓app_last, set_last, repl16, (eq_true (by omega) : ((i : Int) < (n : Int)) = True), decide_true]
    repeat (refine ⟨by first | omega | (simp; done) | decide, ?_⟩)
    have hrl := rnd_len (c := c) key (bkA L i) hbl
    have q2 : H.length + 2 < hp.length + 1 := by omega
    have q3 : H.length + 3 < hp.length + 1 := by omega
    have q4' : H.length + 4 < hp.length + 1 := by omega
    refine kCall_val (k_impl_rnd c key (bkA L i) hk hbl) (by rfl) [(H.length + 2, 0), (H.length + 3, 0), (H.length + 4, 0)] (by simp [CALL, cellsAt, tk, take_room, bs_length, bs_nil, n_inst, n_ok, ne_inst, ne_take, ne_ok, Net.bl, t2_take, t1_take, ↓gE, ↓g1, ↓g2, q2, q3, q4']) (by simp [CALL, cellsAt, tk, take_room, bs_length, bs_nil, n_inst, n_ok, ne_inst, ne_take, ne_ok, Net.bl, t2_take, t1_take, ↓gE, ↓g1, ↓g2, q2, q3, q4']) (by simp [CALL, cellsAt, tk, take_room, bs_length, bs_nil, n_inst, n_ok, ne_inst, ne_take, ne_ok, Net.bl, t2_take, t1_take, ↓gE, ↓g1, ↓g2, q2, q3, q4']) (by simp [okL_bs, okL_room, okL, okV, n_inst, n_ok, ne_inst, ne_take, ne_ok, Net.bl, t2_take, t1_take, ↓gE, ↓g1, ↓g2, q2, q3, q4']) ?_
    simp (config := { maxSteps := 2000000 }) only [CALL, ↓VC, VP, TT, List.getElem?_toArray, Nat.reduceEqDiff, reduceCtorEq, Nat.reduceAdd, Nat.reduceSub, Nat.reduceLT, Nat.reduceMul, Nat.reducePow, Nat.reduceLeDiff, Int.reduceToNat, Int.reduceLE, Int.reduceLT, Int.reducePow, instL_room, Bool.not_true, Bool.not_false, n_inst, n_len, ↓n_all, ne_len, ne_inst0, Net.bl, ↓app_last, ↓app_last1, set_last, set_last1, hrl, repl16]
    have hFi : ∀ j, F i j = (bkA L j == c.rnd key (bkA L i)) := fun j => by rw [← hF]; rfl
    generalize c.rnd key (bkA L i) = nx at *
    generalize bkA L i = xi at *
    have y0 : Ext hp (hp ++ [⟨true, bs xi⟩] ++ [⟨true, bs nx⟩]) := ⟨[⟨true, bs xi⟩, ⟨true, bs nx⟩], by rw [List.append_assoc]; rfl⟩
    have g0 : (hp ++ [⟨true, bs xi⟩] ++ [⟨true, bs nx⟩])[hp.length + 1]? = some ⟨true, bs nx⟩ := app_last1
    obtain ⟨hb2, eb2⟩ : ∃ hb2, hb2 = hb ++ [⟨true, bs nx⟩] := ⟨_, rfl⟩
    have y2 : Ext hb hb2 := ⟨_, eb2⟩
    have lb2 : hb2.length = hb.length + 1 := by simp [eb2]
    have hstb2 : stM hb2 := by rw [eb2]; exact hstb.app (stB_cons (stL_bs _ _) stB_nil)
    have hlb2 : ∀ P r, (hb2 ++ newP hb2.length P r).length = hb2.length + (1 + P.length) := fun P r => by rw [List.length_append, newP_len]
    have fN2 : hb2[hb.length]? = some ⟨true, bs nx⟩ := by rw [eb2]; exact app_last
    refine kLoop_of (fun s : Nat × Nat => ([.j, .j, .s g 0 n cc, .j, .p (H.length + 1) 0, .j, .j, .j, .p (H.length + 2) 0, .s hb2.length 0 (slS F n i ++ rowS F i s.1).length ((slS F n i ++ rowS F i s.1).length + s.2), .c (.int .i64 (i)), .j, .p hb.length 0, .j, .j, .j, .j, .j, .j, .j, .j, .j, .j, .j, .j, .j, .s g 0 n cc, .c (.int .i64 (n)), .c (.int .i64 (i)), .j, .j, .j, .j, .j, .j, .j, .j, .s g 0 n cc, .c (.int .i64 (n)), .c (.int .i64 (s.1)), .j, .j, .j, .j, .j, .j, .j, .j, .j, .j, .j, .j, .j, .j, .j, .j], hb2 ++ newP hb2.length (slS F n i ++ rowS F i s.1) s.2)) (fun s => n - s.1) (fun s => s.1 ≤ n) (0, r0) (by simp) ⟨List.range hb.length ++ ([hp.length + 1, hb.length] ++ List.range' (hb.length + 1) (slS F n i).length), ?_⟩ ?_
    · simp only [rowS, List.append_nil, eb2]
      exact LeS_sl1 (nx := nx) (r := r0) hstb (x2.trans y0) (show H.length ≤ hb.length by omega) g0 (y0.get fO) (fun k p hk => y0.get (fQ k p hk)) (by omega) (by omega) (by omega) (by omega)
        (by simp only [leTm, leV, V.ren, V.renL, range_getD_lt (show H.length < hb.length by omega), range_getD_lt (show H.length + 1 < hb.length by omega), range_getD_lt (show H.length + 2 < hb.length by omega), range_getD_lt (show g < hb.length by omega), range_getD_ge, range_getD_eq, List.cons_append, List.nil_append, List.getD_cons_zero, List.getD_cons_succ]; simp) (by simp [okL, okV]; omega)
    rintro ⟨j, r1⟩ hj
    simp only at hj
    have hPl2 := rowS_len F i j
    have hPl3 : (slS F n i ++ rowS F i j).length ≤ 1000000 := by
      rw [List.length_append]
      have : i * n ≤ 60 * 60 := Nat.mul_le_mul (by omega) hn
      omega
    have eP1 : slS F n i ++ rowS F i (j + 1) = (slS F n i ++ rowS F i j) ++ (if F i j then [(i, j)] else []) := by rw [rowS, List.append_assoc]
    have eP2 : j = n → slS F n (i + 1) = slS F n i ++ rowS F i j := fun e => by rw [slS, e]
    generalize slS F n i ++ rowS F i j = P at *
    rcases Nat.lt_or_ge j n with h2 | h2
    · obtain ⟨hp2, ep2⟩ : ∃ hp2, hp2 = hb2 ++ newP hb2.length P r1 := ⟨_, rfl⟩
      have fO2 : hp2[hb2.length]? = some ⟨true, ptrV (hb2.length + 1) (iPs P) ++ List.replicate r1 .j⟩ := by rw [ep2]; exact newP_out
      have fQ2 : ∀ k p, (iPs P)[k]? = some p → hp2[hb2.length + 1 + k]? = some ⟨true, p.cells⟩ := fun k p hk => by rw [ep2]; exact newP_part hk
      have x3 : Ext hb2 hp2 := ⟨_, ep2⟩
      have lp2 : hp2.length = hb2.length + (1 + P.length) := by rw [ep2]; exact hlb2 _ _
      have gL2 := x3.get (y2.get fL); have gN2 := x3.get fN2
      have hbj := bkA_len hL h2
      have gN3 : ∀ x : Blk, (hp2 ++ [x])[hb.length]? = some ⟨true, bs nx⟩ := fun x => by rw [List.getElem?_append_left (by omega)]; exact gN2
      rw [← ep2]
      have fA1 : ∀ x y z : Blk, (((hp2 ++ [x]) ++ [y]) ++ [z])[hb2.length]? = some ⟨true, ptrV (hb2.length + 1) (iPs P) ++ List.replicate r1 .j⟩ := fun x y z => by rw [List.append_assoc, List.append_assoc, List.getElem?_append_left (by omega)]; exact fO2
      have fA3 : ∀ x y z : Blk, (((hp2 ++ [x]) ++ [y]) ++ [z])[hp2.length + 1 + 1]? = some z := fun x y z => at_app (by simp)
      simp (config := {maxSteps := 2000000}) only [↓VC, VP, TT, List.getElem?_toArray, Nat.reduceEqDiff, reduceCtorEq, Nat.reduceAdd, Nat.reduceSub, Nat.reduceLT, Nat.reduceMul, Nat.reducePow, Nat.reduceLeDiff, Int.reduceToNat, Int.reduceLE, Int.reduceLT, Int.reducePow, gL2, ↓gN3, hrl, hbj, ↓app_last, set_last, repl16, ↓vSub_16 hrl, ↓vSub_16 hbj, ↓vSub_bkR hL h2, (eq_true (by omega) : ((j : Int) < (n : Int)) = True), decide_true, ↓fA1, ↓fA3, ↓app_last1, if_true]
      repeat (refine ⟨by first | omega | (simp; done) | decide, ?_⟩)
      refine ⟨intCells_bs _, intCells_bs _, fun b' hb' => ⟨fun h5 => ?_, fun h5 => ?_⟩⟩
      · have hFj : F i j = true := by rw [hFi, beq_iff_eq]; exact (bs_inj.1 (hb'.1 h5)).symm
        rw [hFj, if_pos rfl] at eP1
        refine ⟨by omega, by omega, by simp [ptrV_length, iPs_length], .inr (by simp [ptrV_length, iPs_length]), .inr trivial, fun r2 c2 e5 e6 => ?_⟩
        refine ⟨(j + 1, r2), by simp only; omega, by simp only; omega, List.range hb2.length ++ ([hp2.length + 1 + 1 + 1] ++ (List.range' (hb2.length + 1) P.length ++ [hp2.length + 1])), ?_⟩
        simp only [eP1]
        have ec : c2 = (P ++ [(i, j)]).length + r2 := by simp; omega
        have hlen : (slS F n i).length + (rowS F i (j + 1)).length = (P ++ [(i, j)]).length := by rw [← List.length_append, eP1]
        rw [wrap_i64 (by omega) (by omega), ec, hlen]
        have fA2 := set_upd (b := ⟨false, []⟩) (fA1 ⟨true, bs (bkA L j)⟩ ⟨true, [.c (.int .i64 (i)), .c (.int .i64 (j))]⟩ ⟨true, [V.s (hp2.length + 1) 0 2 2]⟩)
        have xE := ((x3.trans ⟨[⟨true, bs (bkA L j)⟩, ⟨true, [.c (.int .i64 (i)), .c (.int .i64 (j))]⟩, ⟨true, [V.s (hp2.length + 1) 0 2 2]⟩], by rw [List.append_assoc, List.append_assoc]; rfl⟩ : Ext hb2 (hp2 ++ [⟨true, bs (bkA L j)⟩] ++ [⟨true, [.c (.int .i64 (i)), .c (.int .i64 (j))]⟩] ++ [⟨true, [V.s (hp2.length + 1) 0 2 2]⟩]))).uext fA2 (by intro h hh; omega)
        have hcells : List.take P.length (ptrV (hb2.length + 1) (iPs P) ++ List.replicate r1 V.j) ++ [V.s (hp2.length + 1) 0 2 2] ++ List.replicate r2 V.j = ptrV (hb2.length + 1) (iPs P) ++ [V.s (hp2.length + 1) 0 2 2] ++ List.replicate r2 .j := by
          rw [List.take_left' (by rw [ptrV_length, iPs_length])]
        rw [hcells]
        have lM : ((hp2 ++ [(⟨true, bs (bkA L j)⟩ : Blk)] ++ [(⟨true, [.c (.int .i64 (i)), .c (.int .i64 (j))]⟩ : Blk)] ++ [(⟨true, [V.s (hp2.length + 1) 0 2 2]⟩ : Blk)]).set hb2.length (⟨false, []⟩ : Blk)).length = hp2.length + 1 + 1 + 1 := by simp
        refine LeS_slG (P := P) (q := (i, j)) (r := r2) (g := hp2.length + 1) hstb2 (xE.trans ⟨_, rfl⟩) (show H.length ≤ hb2.length by omega) (at_app lM) (fun k p hk => ?_) ?_ (by omega) (by omega) (by omega) ?_ (by simp [okL, okV]; omega)
        · have hkl := (List.getElem?_eq_some_iff.1 hk).1
          rw [iPs_length] at hkl
          rw [List.getElem?_append_left (by rw [lM]; omega), List.getElem?_set, if_neg (by omega), List.append_assoc, List.append_assoc, List.getElem?_append_left (by omega)]
          exact fQ2 k p hk
        · rw [List.getElem?_append_left (by rw [lM]; omega), List.getElem?_set, if_neg (by omega), List.getElem?_append_left (by simp)]
          exact app_last1
        · simp only [leTm, leV, V.ren, V.renL, range_getD_lt (show H.length < hb2.length by omega), range_getD_lt (show H.length + 1 < hb2.length by omega), range_getD_lt (show H.length + 2 < hb2.length by omega), range_getD_lt (show hb.length < hb2.length by omega), range_getD_lt (show g < hb2.length by omega), range_getD_ge, range_getD_eq, List.cons_append, List.nil_append, List.getD_cons_zero, List.getD_cons_succ]
          simp
      · have hFj : F i j = false := by
          rw [hFi, beq_eq_false_iff_ne]; intro e
          rw [hb'.2 (by rw [e])] at h5; cases h5
        rw [hFj] at eP1
        simp only [Bool.false_eq_true, if_false, List.append_nil] at eP1
        refine ⟨(j + 1, r1), by simp only; omega, by simp only; omega, List.range hb2.length ++ ([hb2.length] ++ List.range' (hb2.length + 1) P.length), ?_⟩
        have hlen : (slS F n i).length + (rowS F i (j + 1)).length = P.length := by rw [← List.length_append, eP1]
        simp only [eP1]
        rw [wrap_i64 (by omega) (by omega), hlen]
        exact LeS_sl0 hstb2 (x3.trans ⟨_, rfl⟩) (show H.length ≤ hb2.length by omega) (by rw [List.getElem?_append_left (by omega)]; exact fO2) (fun k p hk => by have hkl := (List.getElem?_eq_some_iff.1 hk).1; rw [iPs_length] at hkl; rw [List.getElem?_append_left (by omega)]; exact fQ2 k p hk) (by omega) (by omega) (by simp only [leTm, leV, V.ren, V.renL, range_getD_lt (show H.length < hb2.length by omega), range_getD_lt (show H.length + 1 < hb2.length by omega), range_getD_lt (show H.length + 2 < hb2.length by omega), range_getD_lt (show hb.length < hb2.length by omega), range_getD_lt (show g < hb2.length by omega), range_getD_ge, range_getD_eq, List.cons_append, List.nil_append, List.getD_cons_zero, List.getD_cons_succ]; simp) (by simp [okL, okV]; omega)
    · obtain rfl : j = n := by omega
      simp only [↓VC, VP, TT, List.getElem?_toArray, Nat.reduceEqDiff, reduceCtorEq, Nat.reduceAdd, Nat.reduceSub, Nat.reduceLT, Nat.reduceMul, Nat.reducePow, Nat.reduceLeDiff, Int.reduceToNat, Int.reduceLE, Int.reduceLT, Int.reducePow, (eq_false (by omega) : ((j : Int) < (j : Int)) = False), decide_false]
      refine ⟨(i + 1, r1), by simp only; omega, by simp only; omega, List.range hb.length ++ ([hb2.length] ++ List.range' (hb2.length + 1) P.length), ?_⟩
      simp only [eP2 rfl]
      rw [wrap_i64 (by omega) (by omega)]
      exact LeS_sl0 hstb (y2.trans ⟨_, rfl⟩) (show H.length ≤ hb.length by omega) newP_out (fun k p hk => newP_part hk) (by omega) (by omega) (by simp only [leTm, leV, V.ren, V.renL, range_getD_lt (show H.length < hb.length by omega), range_getD_lt (show H.length + 1 < hb.length by omega), range_getD_lt (show H.length + 2 < hb.length by omega), range_getD_lt (show g < hb.length by omega), range_getD_ge, range_getD_eq, List.cons_append, List.nil_append, List.getD_cons_zero, List.getD_cons_succ]; simp) (by simp [okL, okV]; omega)
  · obtain rfl : i = n := by omega
    simp only [↓VC, VP, TT, List.getElem?_toArray, Nat.reduceEqDiff, reduceCtorEq, Nat.reduceAdd, Nat.reduceSub, Nat.reduceLT, Nat.reduceMul, Nat.reducePow, Nat.reduceLeDiff, Int.reduceToNat, Int.reduceLE, Int.reduceLT, Int.reducePow, (eq_false (by omega) : ((i : Int) < (i : Int)) = False), decide_false]
    refine ⟨_, _, List.range H.length ++ ([hb.length] ++ List.range' (hb.length + 1) (slS F i i).length), ⟨r0, trivial, rfl, rfl⟩, ?_⟩
    exact LeS_sl0 hst (x1.trans ⟨_, rfl⟩) (Nat.le_refl _) newP_out (fun k p hk => newP_part hk) (by omega) (by omega) (by simp [leTm, leV, V.ren, V.renL, range_getD_ge, range_getD_eq]) (by simp [okL, okV]; omega)
end
end Go.Proofs.Ytcfhdogmkbfnhaa
/- The laws' own helpers over slices of pairs. -/
set_option linter.unusedSimpArgs false
set_option linter.unusedVariables false
namespace Go.Proofs.Ytcfhdogmkbfnhaa
open Go Go.Vc
set_option maxRecDepth 10000
set_option maxHeartbeats 4000000
theorem iPs_get {P : List (Nat × Nat)} {i : Nat} {p : Nat × Nat} (h : P[i]? = some p) : (iPs P)[i]? = some (iP p) := by
  rw [iPs, List.getElem?_map, h]; rfl
theorem eqPair (p : Nat × Nat) : LC Try.prog 79 [.s 0 0 2 2, .s 1 0 2 2] [⟨false, nsv [(p.1 : Int), (p.2 : Int)]⟩, ⟨false, nsv [(p.1 : Int), (p.2 : Int)]⟩] (fun v hp => v = .c (.bool (true)) ∧ hp = [⟨false, nsv [(p.1 : Int), (p.2 : Int)]⟩, ⟨false, nsv [(p.1 : Int), (p.2 : Int)]⟩]) := by
  have key := c_laws_eqInt64S [(p.1 : Int), (p.2 : Int)] [(p.1 : Int), (p.2 : Int)] 2 2 (by simp) (by simp) (by simp)
  rw [beq_self_eq_true] at key
  exact key
theorem c_laws_eqInt64SS (P : List (Nat × Nat)) (c1 c2 : Nat) (hc1 : P.length ≤ c1) (hc2 : P.length ≤ c2) (hm : P.length ≤ 1048576) : LC Try.prog 46 [.s 0 0 P.length c1, .s 1 0 P.length c2] (⟨false, ptrV 2 (iPs P)⟩ :: ⟨false, ptrV (P.length + 2) (iPs P)⟩ :: (partB false (iPs P) ++ partB false (iPs P)))
    (fun v hp => v = .c (.bool (true)) ∧ hp = (⟨false, ptrV 2 (iPs P)⟩ :: ⟨false, ptrV (P.length + 2) (iPs P)⟩ :: (partB false (iPs P) ++ partB false (iPs P)))) := by
  refine LC_of (X := XX (fun | 6 => .one 0 (.one 1 (.one 2 (.one 3 (.one 4 (.one 5 (.one 6 (.one 7 (.one 8 (.one 9 .nil))))))))) | _ => .nil) (fun _ => []) [19, 20, 48, 49, 59, 72, 93, 112, 174] (P.length + P.length + 2)) envOK Try.func46 (by kernel_rfl) (by kernel_rfl) (by simp [XX, partB_length, iPs_length]) (Nat.le_of_ble_eq_true (by kernel_rfl)) ?_
  simp only [kFun, Try.f46, List.length_nil, List.length_cons, Nat.sub_zero, Nat.reduceSub, Nat.reduceAdd, List.nil_append, List.cons_append, List.replicate_succ, List.replicate_zero]
  simp only [XX, ↓VC, VP, TT, List.getElem?_toArray, Nat.reduceEqDiff, reduceCtorEq, Nat.reduceAdd, Nat.reduceSub, Nat.reduceLT, Nat.reduceMul, Nat.reducePow, Nat.reduceLeDiff, Int.reduceToNat, Int.reduceLE, Int.reduceLT, Int.reducePow, partB_length, iPs_length, bne_self_eq_false]
  have hPn := iPs_length P
  have hPs : ∀ {N : Nat}, ∀ p ∈ iPs P, stL N p.cells := fun {N} => iPs_st
  generalize hP : iPs P = Q at *
  refine kLoop_of (fun i : Nat => ([.s 0 0 P.length c1, .s 1 0 P.length c2, .j, .j, .j, .c (.int .i64 (i)), .j, .j, .j, .j, .j, .j, .j, .j, .j, .j, .j, .j, .j, .j, .j, .j, .j, .j, .j, .j, .j], (⟨false, ptrV 2 Q⟩ :: ⟨false, ptrV (P.length + 2) Q⟩ :: (partB false Q ++ partB false Q)))) (fun i => P.length - i) (fun i => i ≤ P.length) 0 (by omega) ⟨List.range (P.length + P.length + 2), ?_⟩ ?_
  · refine LeS_id (ex := []) (by simp [partB_length, hPn]) (Nat.le_refl _) (by simp) (by simp [leT]) (by simp [stL, stV]) ?_
    exact stB_cons (stL_ptrV (by omega)) (stB_cons (stL_ptrV (by omega)) (stB_app (stB_part hPs) (stB_part hPs)))
  intro i hi
  rcases Nat.lt_or_ge i P.length with h1 | h1
  · have hpi : P[i]? = some P[i] := List.getElem?_eq_getElem h1
    generalize P[i] = p at hpi
    have hL : Q[i]? = some (iP p) := by rw [← hP]; exact iPs_get hpi
    have hlk : ∀ R, ((⟨false, ptrV 2 Q⟩ : Blk) :: ⟨false, ptrV (P.length + 2) Q⟩ :: (partB false Q ++ R))[i + 2]? = some ⟨false, nsv [(p.1 : Int), (p.2 : Int)]⟩ := fun R => partB_get hL
    have hlk2 : ((⟨false, ptrV 2 Q⟩ : Blk) :: ⟨false, ptrV (P.length + 2) Q⟩ :: (partB false Q ++ partB false Q))[P.length + i + 2]? = some ⟨false, nsv [(p.1 : Int), (p.2 : Int)]⟩ := by
      show (partB false Q ++ partB false Q)[P.length + i]? = _
      rw [partB_skip hPn]; exact partB_get0 hL
    have hi2 : 2 + i = i + 2 := by omega
    have hi3 : P.length + 2 + i = P.length + i + 2 := by omega
    simp only [↓VC, VP, TT, List.getElem?_toArray, Nat.reduceEqDiff, reduceCtorEq, Nat.reduceAdd, Nat.reduceSub, Nat.reduceLT, Nat.reduceMul, Nat.reducePow, Nat.reduceLeDiff, Int.reduceToNat, Int.reduceLE, Int.reduceLT, Int.reducePow, (eq_true (by omega) : ((i : Int) < (P.length : Int)) = True), decide_true, ↓vGet_ptrV0 hL, iP, ptrV_length, hPn, hi2, hi3]
    have hg1 : i < P.length + P.length := by omega
    refine kCall_val (eqPair p) (by rfl) [(i + 2, 0), (P.length + i + 2, 0)] (by simp [CALL, cellsAt, tk, take_room, bs_length, bs_nil, ptrV_length, partB_length, iPs_length, stL, okL_nsv, instL_nsv, ↓hlk, ↓hlk2, h1, hg1, hPn]) (by simp [CALL, cellsAt, tk, take_room, bs_length, bs_nil, ptrV_length, partB_length, iPs_length, stL, okL_nsv, instL_nsv, ↓hlk, ↓hlk2, h1, hg1, hPn]) (by simp [CALL, cellsAt, tk, take_room, bs_length, bs_nil, ptrV_length, partB_length, iPs_length, stL, okL_nsv, instL_nsv, ↓hlk, ↓hlk2, h1, hg1, hPn]) (by simp [okL_bs, okL_room, okL, okV, ptrV_length, partB_length, iPs_length, stL, okL_nsv, instL_nsv, ↓hlk, ↓hlk2, h1, hg1, hPn]) ?_
    simp (config := { maxSteps := 2000000 }) only [CALL, ↓VC, VP, TT, List.getElem?_toArray, Nat.reduceEqDiff, reduceCtorEq, Nat.reduceAdd, Nat.reduceSub, Nat.reduceLT, Nat.reduceMul, Nat.reducePow, Nat.reduceLeDiff, Int.reduceToNat, Int.reduceLE, Int.reduceLT, Int.reducePow, instL_room, Bool.not_true, Bool.not_false, ptrV_length, partB_length, iPs_length, iP, beq_self_eq_true, Bool.not_true]
    refine ⟨i + 1, by omega, by omega, List.range (P.length + P.length + 2), ?_⟩
    rw [wrap_i64 (by omega) (by omega)]
    refine LeS_id (ex := []) (by simp [partB_length, hPn]) (Nat.le_refl _) (by simp) (by simp [leT]) (by simp [stL, stV]) ?_
    exact stB_cons (stL_ptrV (by omega)) (stB_cons (stL_ptrV (by omega)) (stB_app (stB_part hPs) (stB_part hPs)))
  · obtain rfl : i = P.length := by omega
    simp only [↓VC, VP, TT, List.getElem?_toArray, Nat.reduceEqDiff, reduceCtorEq, Nat.reduceAdd, Nat.reduceSub, Nat.reduceLT, Nat.reduceMul, Nat.reducePow, Nat.reduceLeDiff, Int.reduceToNat, Int.reduceLE, Int.reduceLT, Int.reducePow, (eq_false (by omega) : ((P.length : Int) < (P.length : Int)) = False), decide_false]
    refine ⟨_, _, List.range (P.length + P.length + 2), ⟨rfl, rfl⟩, ?_⟩
    refine LeS_id (ex := []) (by simp [partB_length, hPn]) (Nat.le_refl _) (by simp) (by simp [leT]) (by simp [stL, stV]) ?_
    exact stB_cons (stL_ptrV (by omega)) (stB_cons (stL_ptrV (by omega)) (stB_app (stB_part hPs) (stB_part hPs)))
/-- Marks, pair by pair. -/
def mkN (k n : Nat) : List (Nat × Nat) := (List.range n).map fun i => (k + 2 * i, k + 2 * i + 1)
theorem mkN_length (k n : Nat) : (mkN k n).length = n := by simp [mkN]
theorem mkN_get {k n i : Nat} (h : i < n) : (mkN k n)[i]? = some (k + 2 * i, k + 2 * i + 1) := by
  rw [mkN, List.getElem?_map, List.getElem?_range h]; rfl
theorem mkN_succ {k i : Nat} : mkN k (i + 1) = mkN k i ++ [(k + 2 * i, k + 2 * i + 1)] := by
  simp [mkN, List.range_succ]
def mxN (k : Nat) (P : List (Nat × Nat)) (i : Nat) : List (Nat × Nat) := mkN k i ++ P.drop i
theorem mxN_len {k i : Nat} {P : List (Nat × Nat)} (h : i ≤ P.length) : (mxN k P i).length = P.length := by
  rw [mxN, List.length_append, mkN_length, List.length_drop]; omega
theorem mxN_get {k i : Nat} {P : List (Nat × Nat)} {p : Nat × Nat} (h : P[i]? = some p) : (mxN k P i)[i]? = some p := by
  rw [mxN, List.getElem?_append_right (by rw [mkN_length]; omega), mkN_length, Nat.sub_self, List.getElem?_drop, Nat.add_zero, h]
theorem mxN_set {k i : Nat} {P : List (Nat × Nat)} {p : Nat × Nat} (h : P[i]? = some p) : (mxN k P i).set i (k + 2 * i, k + 2 * i + 1) = mxN k P (i + 1) := by
  have hi := (List.getElem?_eq_some_iff.1 h).1
  rw [mxN, mxN, mkN_succ, List.drop_eq_getElem_cons hi, List.set_append_right _ _ (by rw [mkN_length]; omega), mkN_length, Nat.sub_self, List.set_cons_zero, List.append_assoc]; rfl
theorem mxN_all {k : Nat} {P : List (Nat × Nat)} : mxN k P P.length = mkN k P.length := by
  rw [mxN, List.drop_of_length_le (Nat.le_refl _), List.append_nil]
theorem partB_iPs_set {own : Bool} {L : List (Nat × Nat)} {i : Nat} {x : Nat × Nat} : (partB own (iPs L)).set i ⟨own, nsv [(x.1 : Int), (x.2 : Int)]⟩ = partB own (iPs (L.set i x)) := by
  simp [partB, iPs, List.map_set, iP]
theorem markPair (p : Nat × Nat) (k : Nat) (hk : k ≤ 4294967296) : LC Try.prog 93 [.s 0 0 2 2, .c (.int .i64 ((k : Nat)))] [⟨true, nsv [(p.1 : Int), (p.2 : Int)]⟩]
    (RetM (fun _ : Unit => True) fun _ => (.c (.int .i64 (((k + 2 : Nat) : Int))), [⟨true, nsv [(k : Int), ((k + 1 : Nat) : Int)]⟩], [])) := by
  have key := c_laws_markInt64S [(p.1 : Int), (p.2 : Int)] 2 0 k (by simp) (by simp) hk
  simp only [List.replicate_zero, List.append_nil] at key
  exact key
theorem c_laws_markInt64SS (P : List (Nat × Nat)) (c k : Nat) (hc : P.length ≤ c) (hm : P.length ≤ 1048576) (hk : k ≤ 1048576) : LC Try.prog 49 [.s 0 0 P.length c, .c (.int .i64 ((k : Nat)))] (⟨false, ptrV 1 (iPs P)⟩ :: partB true (iPs P))
    (RetM (fun _ : Unit => True) fun _ => (.c (.int .i64 (((k + 2 * P.length : Nat) : Int))), ⟨false, ptrV 1 (iPs P)⟩ :: partB true (iPs (mkN k P.length)), [])) := by
  have hPn := iPs_length P
  refine LC_of (X := XX (fun _ => .nil) (fun _ => []) [19, 20, 48, 49, 59, 72, 93, 112, 174] (P.length + 1)) envOK Try.func49 (by kernel_rfl) (by kernel_rfl) (by simp [XX, partB_length, iPs_length]) (Nat.le_of_ble_eq_true (by kernel_rfl)) ?_
  simp only [kFun, Try.f49, List.length_nil, List.length_cons, Nat.sub_zero, Nat.reduceSub, Nat.reduceAdd, List.nil_append, List.cons_append, List.replicate_succ, List.replicate_zero]
  simp only [XX, ↓VC, VP, TT, List.getElem?_toArray, Nat.reduceEqDiff, reduceCtorEq, Nat.reduceAdd, Nat.reduceSub, Nat.reduceLT, Nat.reduceMul, Nat.reducePow, Nat.reduceLeDiff, Int.reduceToNat, Int.reduceLE, Int.reduceLT, Int.reducePow, partB_length, iPs_length]
  refine kLoop_of (fun i : Nat => ([.s 0 0 P.length c, .c (.int .i64 ((k + 2 * i : Nat))), .j, .j, .j, .c (.int .i64 (i)), .j, .j, .j, .j, .j, .j, .j, .j, .j, .j, .j, .j, .j], (⟨false, ptrV 1 (iPs P)⟩ :: partB true (iPs (mxN k P i))))) (fun i => P.length - i) (fun i => i ≤ P.length) 0 (by omega) ⟨List.range (P.length + 1), ?_⟩ ?_
  · refine LeS_id (ex := []) (by simp [partB_length, iPs_length, mxN_len]) (Nat.le_refl _) (by simp [mxN, mkN]) (by simp [leT]) (by simp [stL, stV]) ?_
    exact stB_cons (stL_ptrV (by omega)) (stB_part iPs_st)
  intro i hi
  rcases Nat.lt_or_ge i P.length with h1 | h1
  · have hpi : P[i]? = some P[i] := List.getElem?_eq_getElem h1
    generalize P[i] = p at hpi
    have hL : (iPs P)[i]? = some (iP p) := iPs_get hpi
    have hM : (iPs (mxN k P i))[i]? = some (iP p) := iPs_get (mxN_get hpi)
    have hlk : ((⟨false, ptrV 1 (iPs P)⟩ : Blk) :: partB true (iPs (mxN k P i)))[i + 1]? = some ⟨true, nsv [(p.1 : Int), (p.2 : Int)]⟩ := partB_get0 hM
    have hset : ((⟨false, ptrV 1 (iPs P)⟩ : Blk) :: partB true (iPs (mxN k P i))).set (i + 1) ⟨true, nsv [((k + 2 * i : Nat) : Int), ((k + 2 * i + 1 : Nat) : Int)]⟩ = ⟨false, ptrV 1 (iPs P)⟩ :: partB true (iPs (mxN k P (i + 1))) := by
      rw [List.set_cons_succ, ← mxN_set hpi, ← partB_iPs_set]
    have hln : ((⟨false, ptrV 1 (iPs P)⟩ : Blk) :: partB true (iPs (mxN k P i))).length = P.length + 1 := by simp [partB_length, iPs_length, mxN_len hi]
    simp only [↓VC, VP, TT, List.getElem?_toArray, Nat.reduceEqDiff, reduceCtorEq, Nat.reduceAdd, Nat.reduceSub, Nat.reduceLT, Nat.reduceMul, Nat.reducePow, Nat.reduceLeDiff, Int.reduceToNat, Int.reduceLE, Int.reduceLT, Int.reducePow, (eq_true (by omega) : ((i : Int) < (P.length : Int)) = True), decide_true, ↓vGet_ptrV0 hL, iP, ptrV_length, hPn, Nat.add_comm 1 i]
    refine kCall_M (markPair p (k + 2 * i) (by omega)) (by rfl) [(i + 1, 0)] (by simp [CALL]) ⟨.inr ⟨rfl, rfl, by rw [hlk, instL_nsv]⟩, trivial⟩ (by simp) (by simp [okL, okV]) (by simp [okL_nsv]) (by intro x _; simp [keepR, nsv]) (by simp) fun _ _ => ?_
    simp only [CALL, ↓VC, VP, TT, List.getElem?_toArray, Nat.reduceEqDiff, reduceCtorEq, Nat.reduceAdd, Nat.reduceSub, Nat.reduceLT, Nat.reduceMul, Nat.reducePow, Nat.reduceLeDiff, Int.reduceToNat, Int.reduceLE, Int.reduceLT, Int.reducePow, putSegs, if_true, instL_nsv, hset, List.append_nil, List.map_nil]
    refine ⟨i + 1, by omega, by omega, List.range (P.length + 1), ?_⟩
    rw [wrap_i64 (by omega) (by omega)]
    refine LeS_id (ex := []) (by simp [partB_length, iPs_length, mxN_len (show i + 1 ≤ P.length from h1)]) (Nat.le_refl _) (by simp) (by simp [leT]; omega) (by simp [stL, stV]) ?_
    exact stB_cons (stL_ptrV (by omega)) (stB_part iPs_st)
  · obtain rfl : i = P.length := by omega
    simp only [↓VC, VP, TT, List.getElem?_toArray, Nat.reduceEqDiff, reduceCtorEq, Nat.reduceAdd, Nat.reduceSub, Nat.reduceLT, Nat.reduceMul, Nat.reducePow, Nat.reduceLeDiff, Int.reduceToNat, Int.reduceLE, Int.reduceLT, Int.reducePow, (eq_false (by omega) : ((P.length : Int) < (P.length : Int)) = False), decide_false]
    refine ⟨_, _, List.range (P.length + 1), ⟨(), trivial, rfl, (List.append_nil _).symm⟩, ?_⟩
    rw [mxN_all]
    refine LeS_id (ex := []) (by simp [partB_length, iPs_length, mkN_length]) (Nat.le_refl _) (by simp) (by simp [leT]) (by simp [stL, stV]) ?_
    exact stB_cons (stL_ptrV (by omega)) (stB_part iPs_st)
theorem heldPair (k : Nat) (hk : k ≤ 4294967296) : LC Try.prog 94 [.s 0 0 2 2, .c (.int .i64 ((k : Nat)))] [⟨false, nsv [(k : Int), ((k + 1 : Nat) : Int)]⟩]
    (fun v hp => v = .c (.int .i64 (((k + 2 : Nat) : Int))) ∧ hp = [⟨false, nsv [(k : Int), ((k + 1 : Nat) : Int)]⟩]) := c_laws_heldInt64S 2 2 k (by omega) (by omega) hk
theorem c_laws_heldInt64SS (n c k : Nat) (hc : n ≤ c) (hm : n ≤ 1048576) (hk : k ≤ 1048576) : LC Try.prog 50 [.s 0 0 n c, .c (.int .i64 ((k : Nat)))] (⟨false, ptrV 1 (iPs (mkN k n))⟩ :: partB false (iPs (mkN k n)))
    (fun v hp => v = .c (.int .i64 (((k + 2 * n : Nat) : Int))) ∧ hp = (⟨false, ptrV 1 (iPs (mkN k n))⟩ :: partB false (iPs (mkN k n)))) := by
  have hPn : (iPs (mkN k n)).length = n := by rw [iPs_length, mkN_length]
  refine LC_of (X := XX (fun _ => .nil) (fun _ => []) [19, 20, 48, 49, 59, 72, 93, 112, 174] (n + 1)) envOK Try.func50 (by kernel_rfl) (by kernel_rfl) (by simp [XX, partB_length, hPn]) (Nat.le_of_ble_eq_true (by kernel_rfl)) ?_
  simp only [kFun, Try.f50, List.length_nil, List.length_cons, Nat.sub_zero, Nat.reduceSub, Nat.reduceAdd, List.nil_append, List.cons_append, List.replicate_succ, List.replicate_zero]
  simp only [XX, ↓VC, VP, TT, List.getElem?_toArray, Nat.reduceEqDiff, reduceCtorEq, Nat.reduceAdd, Nat.reduceSub, Nat.reduceLT, Nat.reduceMul, Nat.reducePow, Nat.reduceLeDiff, Int.reduceToNat, Int.reduceLE, Int.reduceLT, Int.reducePow, partB_length, hPn]
  refine kLoop_of (fun i : Nat => ([.s 0 0 n c, .c (.int .i64 ((k + 2 * i : Nat))), .j, .j, .j, .c (.int .i64 (i)), .j, .j, .j, .j, .j, .j, .j, .j, .j, .j, .j, .j, .j, .j, .j], (⟨false, ptrV 1 (iPs (mkN k n))⟩ :: partB false (iPs (mkN k n))))) (fun i => n - i) (fun i => i ≤ n) 0 (by omega) ⟨List.range (n + 1), ?_⟩ ?_
  · refine LeS_id (ex := []) (by simp [partB_length, hPn]) (Nat.le_refl _) (by simp) (by simp [leT]) (by simp [stL, stV]) ?_
    exact stB_cons (stL_ptrV (by omega)) (stB_part iPs_st)
  intro i hi
  rcases Nat.lt_or_ge i n with h1 | h1
  · have hL : (iPs (mkN k n))[i]? = some (iP (k + 2 * i, k + 2 * i + 1)) := iPs_get (mkN_get h1)
    have hlk : ((⟨false, ptrV 1 (iPs (mkN k n))⟩ : Blk) :: partB false (iPs (mkN k n)))[i + 1]? = some ⟨false, nsv [((k + 2 * i : Nat) : Int), ((k + 2 * i + 1 : Nat) : Int)]⟩ := partB_get0 hL
    simp only [↓VC, VP, TT, List.getElem?_toArray, Nat.reduceEqDiff, reduceCtorEq, Nat.reduceAdd, Nat.reduceSub, Nat.reduceLT, Nat.reduceMul, Nat.reducePow, Nat.reduceLeDiff, Int.reduceToNat, Int.reduceLE, Int.reduceLT, Int.reducePow, (eq_true (by omega) : ((i : Int) < (n : Int)) = True), decide_true, ↓vGet_ptrV0 hL, iP, ptrV_length, hPn, Nat.add_comm 1 i]
    refine kCall_val (heldPair (k + 2 * i) (by omega)) (by rfl) [(i + 1, 0)] (by simp [CALL, cellsAt, tk, take_room, bs_length, bs_nil, ptrV_length, partB_length, iPs_length, stL, okL_nsv, instL_nsv, ↓hlk, h1, hPn]) (by simp [CALL, cellsAt, tk, take_room, bs_length, bs_nil, ptrV_length, partB_length, iPs_length, stL, okL_nsv, instL_nsv, ↓hlk, h1, hPn]) (by simp [CALL, cellsAt, tk, take_room, bs_length, bs_nil, ptrV_length, partB_length, iPs_length, stL, okL_nsv, instL_nsv, ↓hlk, h1, hPn]) (by simp [okL_bs, okL_room, okL, okV, ptrV_length, partB_length, iPs_length, stL, okL_nsv, instL_nsv, ↓hlk, h1, hPn]) ?_
    simp (config := { maxSteps := 2000000 }) only [CALL, ↓VC, VP, TT, List.getElem?_toArray, Nat.reduceEqDiff, reduceCtorEq, Nat.reduceAdd, Nat.reduceSub, Nat.reduceLT, Nat.reduceMul, Nat.reducePow, Nat.reduceLeDiff, Int.reduceToNat, Int.reduceLE, Int.reduceLT, Int.reducePow, instL_room, Bool.not_true, Bool.not_false, ptrV_length, partB_length, iPs_length, iP]
    refine ⟨fun h2 => absurd h2 (by omega), fun _ => ⟨i + 1, by omega, by omega, List.range (n + 1), ?_⟩⟩
    rw [wrap_i64 (by omega) (by omega)]
    refine LeS_id (ex := []) (by simp [partB_length, hPn]) (Nat.le_refl _) (by simp) (by simp [leT]; omega) (by simp [stL, stV]) ?_
    exact stB_cons (stL_ptrV (by omega)) (stB_part iPs_st)
  · obtain rfl : i = n := by omega
    simp only [↓VC, VP, TT, List.getElem?_toArray, Nat.reduceEqDiff, reduceCtorEq, Nat.reduceAdd, Nat.reduceSub, Nat.reduceLT, Nat.reduceMul, Nat.reducePow, Nat.reduceLeDiff, Int.reduceToNat, Int.reduceLE, Int.reduceLT, Int.reducePow, (eq_false (by omega) : ((i : Int) < (i : Int)) = False), decide_false]
    refine ⟨_, _, List.range (i + 1), ⟨rfl, rfl⟩, ?_⟩
    refine LeS_id (ex := []) (by simp [partB_length, hPn]) (Nat.le_refl _) (by simp) (by simp [leT]) (by simp [stL, stV]) ?_
    exact stB_cons (stL_ptrV (by omega)) (stB_part iPs_st)
end Go.Proofs.Ytcfhdogmkbfnhaa
/- SlidPlaces: both functions hand back the same, in memory of their own. -/
set_option linter.unusedSimpArgs false
set_option linter.unusedVariables false
namespace Go.Proofs.Ytcfhdogmkbfnhaa
open Go Go.Vc
set_option maxRecDepth 10000
set_option maxHeartbeats 4000000
/-- What both hand back: the pairs P, the code e, room for r more. -/
def slR (P : List (Nat × Nat)) (e : Int) (r : Nat) : V × List Blk := (.t [.s 1 0 P.length (P.length + r), .c (.int .i64 (e))], newP 1 P r)
theorem none_uniS (e : Int) : ∀ _ : Unit, True → ∃ r : Nat, True ∧ nilV ((fun _ : Unit => (V.t [.c (.slice none 0 0), .c (.int .i64 (e))], ([] : List Blk))) ()).1 (slR [] e r).1 ∧ ∃ ex, (slR [] e r).2 = ((fun _ : Unit => (V.t [.c (.slice none 0 0), .c (.int .i64 (e))], ([] : List Blk))) ()).2 ++ ex ∧ ∀ b ∈ ex, b.cells = [] :=
  fun _ _ => ⟨0, trivial, by simp [slR, nilV, nilVs], _, by simp [slR, newP, iPs, ptrV, partB]; rfl, by simp⟩
theorem inst_newP {sub : List (Nat × Nat)} {N r : Nat} {P : List (Nat × Nat)} (hs : sub.length = 1) : ((newP 1 P r).map fun b => (⟨b.own, V.instL sub N b.cells⟩ : Blk)) = newP N P r := by
  unfold newP
  rw [List.map_cons, instL_app, instL_ptrN (b := 1) (by omega)]
  congr 1
  · have : V.instL sub N (List.replicate r V.j) = List.replicate r V.j := by
      induction r with
      | zero => rfl
      | succ r ih => rw [List.replicate_succ, V.instL, ih]; rfl
    rw [this]
  · unfold partB
    rw [List.map_map]
    refine List.map_congr_left fun p hp => ?_
    show (⟨true, V.instL sub N p.cells⟩ : Blk) = ⟨true, p.cells⟩
    rw [iPs_id sub N p hp]
/-- The code when there are no pairs to look for. -/
def codeS (z : Int) (box A : List UInt8) (k n : Int) : Int := if netB z box A k n = true then 2 else 1
theorem c_spec_Slid_no (z k n : Int) (box A key : List UInt8) (hbx : box.length = 256) (hA : A.length = 16) (hk : key.length = 8) (m c : Nat) (L : List UInt8) (hL : L.length = 16 * m) (hc : m ≤ c) (hm : m ≤ 1048576) (hE : netB z box A k n = false ∨ 60 < m) :
    LC Try.prog 42 [.a (netC z box A k n), .a (bs key), .s 0 0 m c] [⟨false, bs L⟩] (Ret [⟨false, bs L⟩] (fun _ : Unit => True) fun _ => (.t [.c (.slice none 0 0), .c (.int .i64 (codeS z box A k n))], [])) := by
  refine LC_of (X := XX (fun | 9 => .one 0 (.one 1 (.one 2 (.one 3 (.one 4 (.one 5 (.one 6 (.one 7 (.one 8 .nil)))))))) | 13 => .one 0 (.one 1 (.one 2 (.one 3 (.one 4 (.one 5 .nil))))) | _ => .nil) (fun | 9 => [(7, 10)] | _ => []) [19, 20, 48, 49, 59, 72, 93, 112, 174] 1) envOK Try.func42 (by kernel_rfl) (by kernel_rfl) rfl (Nat.le_of_ble_eq_true (by kernel_rfl)) ?_
  simp only [kFun, Try.f42, List.length_nil, List.length_cons, Nat.sub_zero, Nat.reduceSub, Nat.reduceAdd, List.nil_append, List.cons_append, List.replicate_succ, List.replicate_zero]
  simp only [XX, ↓VC, VP, TT, List.getElem?_toArray, Nat.reduceEqDiff, reduceCtorEq, Nat.reduceAdd, Nat.reduceSub, Nat.reduceLT, Nat.reduceMul, Nat.reducePow, Nat.reduceLeDiff, Int.reduceToNat, Int.reduceLE, Int.reduceLT, Int.reducePow, netC_len hbx hA, ↓net_all hbx hA, hk]
  refine kCall_val (c_spec_l06Is z k n box A hbx hA) (by rfl) [] (by simp [CALL, cellsAt, tk, take_room, bs_length, bs_nil, instL_net, okL_net]) (by simp [CALL, cellsAt, tk, take_room, bs_length, bs_nil, instL_net, okL_net]) (by simp [CALL, cellsAt, tk, take_room, bs_length, bs_nil, instL_net, okL_net]) (by simp [okL_bs, okL_room, okL, okV, instL_net, okL_net]) ?_
  simp (config := { maxSteps := 2000000 }) only [CALL, ↓VC, VP, TT, List.getElem?_toArray, Nat.reduceEqDiff, reduceCtorEq, Nat.reduceAdd, Nat.reduceSub, Nat.reduceLT, Nat.reduceMul, Nat.reducePow, Nat.reduceLeDiff, Int.reduceToNat, Int.reduceLE, Int.reduceLT, Int.reducePow, instL_room, Bool.not_true, Bool.not_false, instL_net, netC_len hbx hA, ↓net_all hbx hA, hk]
  unfold codeS
  cases hB : netB z box A k n with
  | false =>
    simp only [↓VC, VP, TT, List.getElem?_toArray, Nat.reduceEqDiff, reduceCtorEq, Nat.reduceAdd, Nat.reduceSub, Nat.reduceLT, Nat.reduceMul, Nat.reducePow, Nat.reduceLeDiff, Int.reduceToNat, Int.reduceLE, Int.reduceLT, Int.reducePow, hB]
    refine ⟨fun _ => ⟨_, _, [0], ⟨(), trivial, rfl, (List.append_nil _).symm⟩, ?_⟩, fun h => absurd h (by decide)⟩
    simp [-List.reduceReplicate, LES]
  | true =>
    have h60 : 60 < m := by rcases hE with h | h
                            · rw [hB] at h; cases h
                            · exact h
    simp only [↓VC, VP, TT, List.getElem?_toArray, Nat.reduceEqDiff, reduceCtorEq, Nat.reduceAdd, Nat.reduceSub, Nat.reduceLT, Nat.reduceMul, Nat.reducePow, Nat.reduceLeDiff, Int.reduceToNat, Int.reduceLE, Int.reduceLT, Int.reducePow, hB]
    refine ⟨fun h => absurd h (by decide), fun _ => ⟨fun _ => ⟨_, _, [0], ⟨(), trivial, rfl, (List.append_nil _).symm⟩, ?_⟩, fun h => absurd (show (m : Int) > 60 by omega) h⟩⟩
    simp [-List.reduceReplicate, LES]
theorem c_impl_Slid_no (z k n : Int) (box A key : List UInt8) (hbx : box.length = 256) (hA : A.length = 16) (hk : key.length = 8) (m c : Nat) (L : List UInt8) (hL : L.length = 16 * m) (hc : m ≤ c) (hm : m ≤ 1048576) (hE : netB z box A k n = false ∨ 60 < m) :
    LC Try.prog 45 [.a (netC z box A k n), .a (bs key), .s 0 0 m c] [⟨false, bs L⟩] (Ret [⟨false, bs L⟩] (fun _ : Unit => True) fun _ => (.t [.c (.slice none 0 0), .c (.int .i64 (codeS z box A k n))], [])) := by
  refine LC_of (X := XX (fun _ => .nil) (fun _ => []) [19, 20, 48, 49, 59, 72, 93, 112, 174] 1) envOK Try.func45 (by kernel_rfl) (by kernel_rfl) rfl (Nat.le_of_ble_eq_true (by kernel_rfl)) ?_
  simp only [kFun, Try.f45, List.length_nil, List.length_cons, Nat.sub_zero, Nat.reduceSub, Nat.reduceAdd, List.nil_append, List.cons_append, List.replicate_succ, List.replicate_zero]
  simp only [XX, ↓VC, VP, TT, List.getElem?_toArray, Nat.reduceEqDiff, reduceCtorEq, Nat.reduceAdd, Nat.reduceSub, Nat.reduceLT, Nat.reduceMul, Nat.reducePow, Nat.reduceLeDiff, Int.reduceToNat, Int.reduceLE, Int.reduceLT, Int.reducePow, netC_len hbx hA, ↓net_all hbx hA, hk]
  refine kCall_val (c_impl_IsNetwork z k n box A hbx hA) (by rfl) [] (by simp [CALL, cellsAt, tk, take_room, bs_length, bs_nil, instL_net, okL_net]) (by simp [CALL, cellsAt, tk, take_room, bs_length, bs_nil, instL_net, okL_net]) (by simp [CALL, cellsAt, tk, take_room, bs_length, bs_nil, instL_net, okL_net]) (by simp [okL_bs, okL_room, okL, okV, instL_net, okL_net]) ?_
  simp (config := { maxSteps := 2000000 }) only [CALL, ↓VC, VP, TT, List.getElem?_toArray, Nat.reduceEqDiff, reduceCtorEq, Nat.reduceAdd, Nat.reduceSub, Nat.reduceLT, Nat.reduceMul, Nat.reducePow, Nat.reduceLeDiff, Int.reduceToNat, Int.reduceLE, Int.reduceLT, Int.reducePow, instL_room, Bool.not_true, Bool.not_false, instL_net, netC_len hbx hA, ↓net_all hbx hA, hk]
  unfold codeS
  cases hB : netB z box A k n with
  | false =>
    simp only [↓VC, VP, TT, List.getElem?_toArray, Nat.reduceEqDiff, reduceCtorEq, Nat.reduceAdd, Nat.reduceSub, Nat.reduceLT, Nat.reduceMul, Nat.reducePow, Nat.reduceLeDiff, Int.reduceToNat, Int.reduceLE, Int.reduceLT, Int.reducePow, hB]
    refine ⟨fun _ => ⟨_, _, [0], ⟨(), trivial, rfl, (List.append_nil _).symm⟩, ?_⟩, fun h => absurd h (by decide)⟩
    simp [-List.reduceReplicate, LES]
  | true =>
    have h60 : 60 < m := by rcases hE with h | h
                            · rw [hB] at h; cases h
                            · exact h
    simp only [↓VC, VP, TT, List.getElem?_toArray, Nat.reduceEqDiff, reduceCtorEq, Nat.reduceAdd, Nat.reduceSub, Nat.reduceLT, Nat.reduceMul, Nat.reducePow, Nat.reduceLeDiff, Int.reduceToNat, Int.reduceLE, Int.reduceLT, Int.reducePow, hB]
    refine ⟨fun h => absurd h (by decide), fun _ => ⟨fun _ => ⟨_, _, [0], ⟨(), trivial, rfl, (List.append_nil _).symm⟩, ?_⟩, fun h => absurd (show (m : Int) > 60 by omega) h⟩⟩
    simp [-List.reduceReplicate, LES]
theorem slid_both (z k n : Int) (box A key : List UInt8) (hbx : box.length = 256) (hA : A.length = 16) (hk : key.length = 8) (m : Nat) (L : List UInt8) (hL : L.length = 16 * m) (hm : m ≤ 1048576) : ∃ (P : List (Nat × Nat)) (e : Int), P.length ≤ 3600 ∧
    LC Try.prog 42 [.a (netC z box A k n), .a (bs key), .s 0 0 m m] [⟨false, bs L⟩] (Ret [⟨false, bs L⟩] (fun _ : Nat => True) (slR P e)) ∧
    LC Try.prog 45 [.a (netC z box A k n), .a (bs key), .s 0 0 m m] [⟨false, bs L⟩] (Ret [⟨false, bs L⟩] (fun _ : Nat => True) (slR P e)) := by
  by_cases hE : netB z box A k n = true ∧ m ≤ 60
  · obtain ⟨hB, h60⟩ := hE
    obtain ⟨c, rfl, rfl, rfl, rfl, rfl⟩ := net_of hbx hA hB
    have hst : stM [(⟨false, bs L⟩ : Blk)] := by
      intro b hb
      simp only [List.mem_cons, List.not_mem_nil, or_false] at hb
      subst hb
      exact stL_bs _ _
    have f : bAt [(⟨false, bs L⟩ : Blk)] 0 (bs L) := bAt_of rfl
    refine ⟨slS (slF c key L) m m, 0, ?_, k_spec_Slid c hst hk hL h60 (Nat.le_refl _) f, k_impl_Slid c hst hk hL h60 (Nat.le_refl _) f⟩
    have := slS_len (slF c key L) m m
    have : m * m ≤ 60 * 60 := Nat.mul_le_mul h60 h60
    omega
  · have hE' : netB z box A k n = false ∨ 60 < m := by
      cases hB : netB z box A k n with
      | false => exact .inl rfl
      | true => right; exact Nat.lt_of_not_le fun h => hE ⟨hB, h⟩
    exact ⟨[], codeS z box A k n, by simp, LC_nil (c_spec_Slid_no z k n box A key hbx hA hk m m L hL (Nat.le_refl _) hm hE') (none_uniS _), LC_nil (c_impl_Slid_no z k n box A key hbx hA hk m m L hL (Nat.le_refl _) hm hE') (none_uniS _)⟩
end Go.Proofs.Ytcfhdogmkbfnhaa
/- SlidPlaces: the program and the reference hand back the same, in memory of its own. -/
set_option linter.unusedSimpArgs false
set_option linter.unusedVariables false
namespace Go.Proofs.Ytcfhdogmkbfnhaa
open Go Go.Vc
set_option maxRecDepth 10000
set_option maxHeartbeats 4000000
theorem newP_nAt {hp hp2 : List Blk} {N r : Nat} {P : List (Nat × Nat)} (hN : N = hp.length) (e : hp2 = hp ++ newP N P r) : nAt hp2 N (N + 1) (iPs P) ∧ ∀ i p, (iPs P)[i]? = some p → hp2[N + 1 + i]? = some ⟨true, p.cells⟩ := by
  subst hN e
  exact ⟨⟨bAt_room newP_out, fun i p hp => bAt_of (newP_part hp)⟩, fun i p hp => newP_part hp⟩
theorem iPs_same {h : Nat} {P Q : List (Nat × Nat)} (e : P.length = Q.length) : ptrV h (iPs P) = ptrV h (iPs Q) := by
  refine ptrV_same (by rw [iPs_length, iPs_length, e]) fun i p q hp hq => ?_
  simp only [iPs, List.getElem?_map, Option.map_eq_some_iff] at hp hq
  obtain ⟨a, _, rfl⟩ := hp
  obtain ⟨b, _, rfl⟩ := hq
  exact ⟨rfl, rfl⟩
theorem iPs_cells {P Q : List (Nat × Nat)} : ∀ (i : Nat) (p q : Prt), (iPs P)[i]? = some p → (iPs Q)[i]? = some q → q.cells.length = p.cells.length := by
  intro i p q hp hq
  simp only [iPs, List.getElem?_map, Option.map_eq_some_iff] at hp hq
  obtain ⟨a, _, rfl⟩ := hp
  obtain ⟨b, _, rfl⟩ := hq
  rfl
theorem okB_iP {P : List (Nat × Nat)} {N : Nat} (hN : P.length + 1 ≤ N) : ∀ b ∈ (⟨false, ptrV 1 (iPs P)⟩ : Blk) :: partB false (iPs P), okL N b.cells := fun b hb =>
  stL_ok (stB_cons (stL_ptrV (by rw [iPs_length]; omega)) (stB_part iPs_st) b hb)
theorem okB_iT {P : List (Nat × Nat)} {N : Nat} (hN : P.length + 1 ≤ N) : ∀ b ∈ (⟨false, ptrV 1 (iPs P)⟩ : Blk) :: partB true (iPs P), okL N b.cells := fun b hb =>
  stL_ok (stB_cons (stL_ptrV (by rw [iPs_length]; omega)) (stB_part iPs_st) b hb)
theorem okB_i2 {P : List (Nat × Nat)} {N : Nat} (hN : P.length + P.length + 2 ≤ N) : ∀ b ∈ (⟨false, ptrV 2 (iPs P)⟩ : Blk) :: ⟨false, ptrV (P.length + 2) (iPs P)⟩ :: (partB false (iPs P) ++ partB false (iPs P)), okL N b.cells := fun b hb =>
  stL_ok (stB_cons (stL_ptrV (by rw [iPs_length]; omega)) (stB_cons (stL_ptrV (by rw [iPs_length]; omega)) (stB_app (stB_part iPs_st) (stB_part iPs_st))) b hb)
theorem law_FnExactSlidPlaces (z1 : Int) (wz1 : (Lit.int .i64 z1).wf = true) (bx1 : List UInt8) (lb1 : bx1.length = 256) (mx1 : List UInt8) (lm1 : mx1.length = 16) (kd1 : Int) (wk1 : (Lit.int .i64 kd1).wf = true) (n1 : Int) (wn1 : (Lit.int .i64 n1).wf = true) (key : List UInt8) (hkey : key.length = 8) (n c : Nat) (L : List UInt8) (hL : L.length = 16 * n) (hc : n ≤ c) (mx : c ≤ maxLen) :
    LC Try.prog 8 [.a (netC z1 bx1 mx1 kd1 n1), .a (bs key), .s 0 0 n c] [⟨false, bs L⟩] (fun v _ => v = .c (.bool true)) := by
  have hst : ∀ b ∈ [(⟨false, bs L⟩ : Blk)], stL 1 b.cells := stB_cons (stL_bs _ _) stB_nil
  have hN0 : [(⟨false, bs L⟩ : Blk)].length = 1 := rfl
  have g0 : bAt [(⟨false, bs L⟩ : Blk)] 0 (bs L) := bAt_of rfl
  generalize eH : [(⟨false, bs L⟩ : Blk)] = H at *
  refine LC_of (X := XX (fun | 5 => .one 0 (.one 2 (.one 4 (.one 1 (.one 3 (.one 5 (.one 6 (.one 7 (.one 8 (.one 9 (.one 10 (.one 11 .nil))))))))))) | 7 => .one 0 (.one 2 (.one 4 (.one 1 (.one 3 (.one 5 (.one 6 (.one 7 (.one 8 (.one 9 (.one 10 .nil)))))))))) | 24 => .one 0 (.one 2 (.one 4 (.one 1 (.one 3 (.one 5 (.one 6 (.one 7 (.one 8 (.one 9 (.one 10 (.one 11 .nil))))))))))) | _ => .nil) (fun _ => []) [19, 20, 48, 49, 59, 72, 93, 112, 174] (1)) envOK Try.func8 (by kernel_rfl) (by kernel_rfl) (by simp only [XX, hN0]) (Nat.le_of_ble_eq_true (by kernel_rfl)) ?_
  simp only [kFun, Try.f8, List.length_nil, List.length_cons, Nat.sub_zero, Nat.reduceSub, Nat.reduceAdd, List.nil_append, List.cons_append, List.replicate_succ, List.replicate_zero]
  simp only [XX, ↓VC, VP, TT, List.getElem?_toArray, Nat.reduceEqDiff, reduceCtorEq, Nat.reduceAdd, Nat.reduceSub, Nat.reduceLT, Nat.reduceMul, Nat.reducePow, Nat.reduceLeDiff, Int.reduceToNat, Int.reduceLE, Int.reduceLT, Int.reducePow, hkey, netC_len lb1 lm1, ↓net_all lb1 lm1, hN0, List.length_append, List.length_cons, List.length_nil, Nat.zero_add]
  have nat_lt0X : ∀ x : Nat, ((x : Int) < 0) = False := fun x => eq_false (by omega)
  obtain ⟨hp1, e1⟩ : ∃ hp1, hp1 = H ++ [⟨true, netC z1 bx1 mx1 kd1 n1⟩] ++ [⟨true, bs key⟩] := ⟨_, rfl⟩
  rw [← e1]
  have x1 : Ext H hp1 := ⟨_, by rw [e1, List.append_assoc]⟩
  have fC : hp1[1]? = some ⟨true, netC z1 bx1 mx1 kd1 n1⟩ := by rw [e1, List.append_assoc]; exact at_app hN0
  have fK : hp1[2]? = some ⟨true, bs key⟩ := by rw [e1]; exact at_app (by simp [hN0])
  replace g0 := g0.mono x1
  refine kCall_val (c_laws_szBlockS n c 1048576 L hL hc (by omega) (by omega)) (by rfl) [(0, 0)] (by simp [CALL]) (seg_bAt g0 (instL_bs _ _ _) trivial) (by simp [okL, okV]) (by simp [okL_bs]) ?_
  simp only [CALL, ↓VC, VP, TT, List.getElem?_toArray, Nat.reduceEqDiff, reduceCtorEq, Nat.reduceAdd, Nat.reduceSub, Nat.reduceLT, Nat.reduceMul, Nat.reducePow, Nat.reduceLeDiff, Int.reduceToNat, Int.reduceLE, Int.reduceLT, Int.reducePow]
  refine ⟨fun _ => ⟨_, H, List.range 1, rfl, LeS_ext x1 hN0 (Nat.le_refl _) (by simp [leT]) (by simp [stL, stV]) hst⟩, fun h => ?_⟩
  have hn : n ≤ 1048576 := by
    by_cases h' : n ≤ 1048576
    · exact h'
    · rw [if_neg h'] at h; omega
  clear h
  obtain ⟨P, e, hP, hs, hi⟩ := slid_both z1 kd1 n1 bx1 mx1 key lb1 lm1 hkey n L hL hn
  have hPn := iPs_length P
  simp (config := { maxSteps := 2000000 }) only [CALL, ↓VC, VP, TT, List.getElem?_toArray, Nat.reduceEqDiff, reduceCtorEq, Nat.reduceAdd, Nat.reduceSub, Nat.reduceLT, Nat.reduceMul, Nat.reducePow, Nat.reduceLeDiff, Int.reduceToNat, Int.reduceLE, Int.reduceLT, Int.reducePow, instL_room, Bool.not_true, Bool.not_false, instL_net, nat_lt0X, bne_self_eq_false, beq_self_eq_true, Bool.not_true, Bool.not_false, decide_false, List.replicate_zero, List.append_nil, netC_len lb1 lm1, ↓net_all lb1 lm1, hkey, fC, fK, rng_length, rng_end, slR]
  refine kCall_val (c_laws_toNetwork z1 kd1 n1 lb1 lm1) (by rfl) [] (by simp [CALL, cellsAt, tk, take_room, bs_length, bs_nil, instL_net, okL_net]) (by simp [CALL, cellsAt, tk, take_room, bs_length, bs_nil, instL_net, okL_net]) (by simp [CALL, cellsAt, tk, take_room, bs_length, bs_nil, instL_net, okL_net]) (by simp [okL_bs, okL_room, okL, okV, instL_net, okL_net]) ?_
  simp (config := { maxSteps := 2000000 }) only [CALL, ↓VC, VP, TT, List.getElem?_toArray, Nat.reduceEqDiff, reduceCtorEq, Nat.reduceAdd, Nat.reduceSub, Nat.reduceLT, Nat.reduceMul, Nat.reducePow, Nat.reduceLeDiff, Int.reduceToNat, Int.reduceLE, Int.reduceLT, Int.reducePow, instL_room, Bool.not_true, Bool.not_false, instL_net, nat_lt0X, bne_self_eq_false, beq_self_eq_true, Bool.not_true, Bool.not_false, decide_false, List.replicate_zero, List.append_nil, netC_len lb1 lm1, ↓net_all lb1 lm1, hkey, fC, fK, rng_length, rng_end, slR]
  refine kCall_val (c_laws_toHalf key hkey) (by rfl) [] (by simp [CALL, cellsAt, tk, take_room, bs_length, bs_nil, instL_net, okL_net]) (by simp [CALL, cellsAt, tk, take_room, bs_length, bs_nil, instL_net, okL_net]) (by simp [CALL, cellsAt, tk, take_room, bs_length, bs_nil, instL_net, okL_net]) (by simp [okL_bs, okL_room, okL, okV, instL_net, okL_net]) ?_
  simp (config := { maxSteps := 2000000 }) only [CALL, ↓VC, VP, TT, List.getElem?_toArray, Nat.reduceEqDiff, reduceCtorEq, Nat.reduceAdd, Nat.reduceSub, Nat.reduceLT, Nat.reduceMul, Nat.reducePow, Nat.reduceLeDiff, Int.reduceToNat, Int.reduceLE, Int.reduceLT, Int.reducePow, instL_room, Bool.not_true, Bool.not_false, instL_net, nat_lt0X, bne_self_eq_false, beq_self_eq_true, Bool.not_true, Bool.not_false, decide_false, List.replicate_zero, List.append_nil, netC_len lb1 lm1, ↓net_all lb1 lm1, hkey, fC, fK, rng_length, rng_end, slR]
  refine kA_ret (c_laws_toBlockS n c L hL hc hn) (by rfl) [(0, 0)] (by simp [CALL]) (seg_bAt g0 (instL_bs _ _ _) trivial) (by simp [okL, okV]) (by simp [okL_bs]) (by simp) fun _ N2 hp2 _ eN2 e2 => ?_
  simp only [List.map_cons, List.map_nil, instL_bs] at e2
  have x2 := new_ext e2
  have f2 : hp2[N2]? = some ⟨true, bs L⟩ := new_at (R := []) eN2 e2
  replace fC := x2.get fC; replace fK := x2.get fK; replace g0 := g0.mono x2; replace x1 := x1.trans x2
  clear e2 x2
  simp (config := { maxSteps := 2000000 }) only [CALL, ↓VC, VP, TT, List.getElem?_toArray, Nat.reduceEqDiff, reduceCtorEq, Nat.reduceAdd, Nat.reduceSub, Nat.reduceLT, Nat.reduceMul, Nat.reducePow, Nat.reduceLeDiff, Int.reduceToNat, Int.reduceLE, Int.reduceLT, Int.reducePow, instL_room, Bool.not_true, Bool.not_false, instL_net, nat_lt0X, bne_self_eq_false, beq_self_eq_true, Bool.not_true, Bool.not_false, decide_false, List.replicate_zero, List.append_nil, netC_len lb1 lm1, ↓net_all lb1 lm1, hkey, fC, fK, rng_length, rng_end, slR]
  refine kA_ret hs (by rfl) [(N2, 0)] (by simp [CALL, instL_net]) (seg_bAt (bAt_of f2) (instL_bs _ _ _) trivial) (by simp [okL, okV, okL_net, okL_bs]) (by simp [okL_bs]) (fun r => newP_own) fun r3 N3 hp3 _ eN3 e3 => ?_
  rw [show (slR P e r3).2 = newP 1 P r3 from rfl, inst_newP rfl] at e3
  have x3 := new_ext e3
  have l3 : hp3.length = N3 + (1 + P.length) := by rw [e3, List.length_append, newP_len, eN3]
  obtain ⟨q3, o3⟩ := newP_nAt eN3 e3
  replace fC := x3.get fC; replace fK := x3.get fK; replace g0 := g0.mono x3; replace x1 := x1.trans x3
  clear e3 x3
  simp (config := { maxSteps := 2000000 }) only [CALL, ↓VC, VP, TT, List.getElem?_toArray, Nat.reduceEqDiff, reduceCtorEq, Nat.reduceAdd, Nat.reduceSub, Nat.reduceLT, Nat.reduceMul, Nat.reducePow, Nat.reduceLeDiff, Int.reduceToNat, Int.reduceLE, Int.reduceLT, Int.reducePow, instL_room, Bool.not_true, Bool.not_false, instL_net, nat_lt0X, bne_self_eq_false, beq_self_eq_true, Bool.not_true, Bool.not_false, decide_false, List.replicate_zero, List.append_nil, netC_len lb1 lm1, ↓net_all lb1 lm1, hkey, fC, fK, rng_length, rng_end, slR]
  refine kA_ret (c_laws_toBlockS n c L hL hc hn) (by rfl) [(0, 0)] (by simp [CALL]) (seg_bAt g0 (instL_bs _ _ _) trivial) (by simp [okL, okV]) (by simp [okL_bs]) (by simp) fun _ N4 hp4 _ eN4 e4 => ?_
  simp only [List.map_cons, List.map_nil, instL_bs] at e4
  have x4 := new_ext e4
  have f4 : hp4[N4]? = some ⟨true, bs L⟩ := new_at (R := []) eN4 e4
  have d34 : N3 + 1 + P.length ≤ N4 := by omega
  have d14 : 2 < N4 := by rw [eN4]; exact at_lt fK
  replace fC := x4.get fC; replace fK := x4.get fK; replace g0 := g0.mono x4; replace q3 := q3.mono x4; replace x1 := x1.trans x4
  clear e4 x4
  simp (config := { maxSteps := 2000000 }) only [CALL, ↓VC, VP, TT, List.getElem?_toArray, Nat.reduceEqDiff, reduceCtorEq, Nat.reduceAdd, Nat.reduceSub, Nat.reduceLT, Nat.reduceMul, Nat.reducePow, Nat.reduceLeDiff, Int.reduceToNat, Int.reduceLE, Int.reduceLT, Int.reducePow, instL_room, Bool.not_true, Bool.not_false, instL_net, nat_lt0X, bne_self_eq_false, beq_self_eq_true, Bool.not_true, Bool.not_false, decide_false, List.replicate_zero, List.append_nil, netC_len lb1 lm1, ↓net_all lb1 lm1, hkey, fC, fK, rng_length, rng_end, slR]
  refine kCall_val (c_laws_toNetwork z1 kd1 n1 lb1 lm1) (by rfl) [] (by simp [CALL, cellsAt, tk, take_room, bs_length, bs_nil, instL_net, okL_net]) (by simp [CALL, cellsAt, tk, take_room, bs_length, bs_nil, instL_net, okL_net]) (by simp [CALL, cellsAt, tk, take_room, bs_length, bs_nil, instL_net, okL_net]) (by simp [okL_bs, okL_room, okL, okV, instL_net, okL_net]) ?_
  simp (config := { maxSteps := 2000000 }) only [CALL, ↓VC, VP, TT, List.getElem?_toArray, Nat.reduceEqDiff, reduceCtorEq, Nat.reduceAdd, Nat.reduceSub, Nat.reduceLT, Nat.reduceMul, Nat.reducePow, Nat.reduceLeDiff, Int.reduceToNat, Int.reduceLE, Int.reduceLT, Int.reducePow, instL_room, Bool.not_true, Bool.not_false, instL_net, nat_lt0X, bne_self_eq_false, beq_self_eq_true, Bool.not_true, Bool.not_false, decide_false, List.replicate_zero, List.append_nil, netC_len lb1 lm1, ↓net_all lb1 lm1, hkey, fC, fK, rng_length, rng_end, slR]
  refine kCall_val (c_laws_toHalf key hkey) (by rfl) [] (by simp [CALL, cellsAt, tk, take_room, bs_length, bs_nil, instL_net, okL_net]) (by simp [CALL, cellsAt, tk, take_room, bs_length, bs_nil, instL_net, okL_net]) (by simp [CALL, cellsAt, tk, take_room, bs_length, bs_nil, instL_net, okL_net]) (by simp [okL_bs, okL_room, okL, okV, instL_net, okL_net]) ?_
  simp (config := { maxSteps := 2000000 }) only [CALL, ↓VC, VP, TT, List.getElem?_toArray, Nat.reduceEqDiff, reduceCtorEq, Nat.reduceAdd, Nat.reduceSub, Nat.reduceLT, Nat.reduceMul, Nat.reducePow, Nat.reduceLeDiff, Int.reduceToNat, Int.reduceLE, Int.reduceLT, Int.reducePow, instL_room, Bool.not_true, Bool.not_false, instL_net, nat_lt0X, bne_self_eq_false, beq_self_eq_true, Bool.not_true, Bool.not_false, decide_false, List.replicate_zero, List.append_nil, netC_len lb1 lm1, ↓net_all lb1 lm1, hkey, fC, fK, rng_length, rng_end, slR]
  refine kA_ret hi (by rfl) [(N4, 0)] (by simp [CALL, instL_net]) (seg_bAt (bAt_of f4) (instL_bs _ _ _) trivial) (by simp [okL, okV, okL_net, okL_bs]) (by simp [okL_bs]) (fun r => newP_own) fun r5 N5 hp5 _ eN5 e5 => ?_
  rw [show (slR P e r5).2 = newP 1 P r5 from rfl, inst_newP rfl] at e5
  have x5 := new_ext e5
  obtain ⟨q5, o5⟩ := newP_nAt eN5 e5
  have d45 : N4 < N5 := by rw [eN5]; exact at_lt f4
  replace fC := x5.get fC; replace fK := x5.get fK; replace f4 := x5.get f4; replace g0 := g0.mono x5; replace q3 := q3.mono x5; replace x1 := x1.trans x5
  clear e5 x5
  simp (config := { maxSteps := 2000000 }) only [CALL, ↓VC, VP, TT, List.getElem?_toArray, Nat.reduceEqDiff, reduceCtorEq, Nat.reduceAdd, Nat.reduceSub, Nat.reduceLT, Nat.reduceMul, Nat.reducePow, Nat.reduceLeDiff, Int.reduceToNat, Int.reduceLE, Int.reduceLT, Int.reducePow, instL_room, Bool.not_true, Bool.not_false, instL_net, nat_lt0X, bne_self_eq_false, beq_self_eq_true, Bool.not_true, Bool.not_false, decide_false, List.replicate_zero, List.append_nil, netC_len lb1 lm1, ↓net_all lb1 lm1, hkey, fC, fK, rng_length, rng_end, slR]
  refine kCall_val (c_laws_eqInt64SS P (P.length + r5) (P.length + r3) (by omega) (by omega) (by omega)) (by rfl) ((N5, 0) :: (N3, 0) :: (rng (N5 + 1) P.length ++ rng (N3 + 1) P.length)) (by simp [CALL]) (seg_two q5 q3 hPn iPs_id) (by simp [okL, okV]) (okB_i2 (by simp [partB_length, hPn])) ?_
  simp (config := { maxSteps := 2000000 }) only [CALL, ↓VC, VP, TT, List.getElem?_toArray, Nat.reduceEqDiff, reduceCtorEq, Nat.reduceAdd, Nat.reduceSub, Nat.reduceLT, Nat.reduceMul, Nat.reducePow, Nat.reduceLeDiff, Int.reduceToNat, Int.reduceLE, Int.reduceLT, Int.reducePow, instL_room, Bool.not_true, Bool.not_false, instL_net, nat_lt0X, bne_self_eq_false, beq_self_eq_true, Bool.not_true, Bool.not_false, decide_false, List.replicate_zero, List.append_nil, netC_len lb1 lm1, ↓net_all lb1 lm1, hkey, fC, fK, rng_length, rng_end, slR]
  refine kA_ret (c_laws_toBlockS n c L hL hc hn) (by rfl) [(0, 0)] (by simp [CALL]) (seg_bAt g0 (instL_bs _ _ _) trivial) (by simp [okL, okV]) (by simp [okL_bs]) (by simp) fun _ N6 hp6 _ eN6 e6 => ?_
  simp only [List.map_cons, List.map_nil, instL_bs] at e6
  have x6 := new_ext e6
  have f6 : hp6[N6]? = some ⟨true, bs L⟩ := new_at (R := []) eN6 e6
  replace fC := x6.get fC; replace fK := x6.get fK; replace f4 := x6.get f4; replace g0 := g0.mono x6; replace q3 := q3.mono x6; replace q5 := q5.mono x6; replace x1 := x1.trans x6
  replace o5 : ∀ i p, (iPs P)[i]? = some p → hp6[N5 + 1 + i]? = some ⟨true, p.cells⟩ := fun i p hp => x6.get (o5 i p hp)
  clear e6 x6
  simp (config := { maxSteps := 2000000 }) only [CALL, ↓VC, VP, TT, List.getElem?_toArray, Nat.reduceEqDiff, reduceCtorEq, Nat.reduceAdd, Nat.reduceSub, Nat.reduceLT, Nat.reduceMul, Nat.reducePow, Nat.reduceLeDiff, Int.reduceToNat, Int.reduceLE, Int.reduceLT, Int.reducePow, instL_room, Bool.not_true, Bool.not_false, instL_net, nat_lt0X, bne_self_eq_false, beq_self_eq_true, Bool.not_true, Bool.not_false, decide_false, List.replicate_zero, List.append_nil, netC_len lb1 lm1, ↓net_all lb1 lm1, hkey, fC, fK, rng_length, rng_end, slR]
  refine kCall_val (c_laws_eqBlockS n n n n L L hL hL (Nat.le_refl _) (Nat.le_refl _) hn) (by rfl) [(N4, 0), (N6, 0)] (by simp [CALL]) (seg_bAt (bAt_of f4) (instL_bs _ _ _) (seg_bAt (bAt_of f6) (instL_bs _ _ _) trivial)) (by simp [okL, okV]) (by simp [okL_bs]) ?_
  simp (config := { maxSteps := 2000000 }) only [CALL, ↓VC, VP, TT, List.getElem?_toArray, Nat.reduceEqDiff, reduceCtorEq, Nat.reduceAdd, Nat.reduceSub, Nat.reduceLT, Nat.reduceMul, Nat.reducePow, Nat.reduceLeDiff, Int.reduceToNat, Int.reduceLE, Int.reduceLT, Int.reducePow, instL_room, Bool.not_true, Bool.not_false, instL_net, nat_lt0X, bne_self_eq_false, beq_self_eq_true, Bool.not_true, Bool.not_false, decide_false, List.replicate_zero, List.append_nil, netC_len lb1 lm1, ↓net_all lb1 lm1, hkey, fC, fK, rng_length, rng_end, slR]
  have km := c_laws_markBlockS n n 0 1 L hL (Nat.le_refl _) hn (by omega)
  simp only [List.replicate_zero, List.append_nil] at km
  refine kA_M km (by rfl) [(N4, 0)] (by simp [CALL]) ⟨.inr ⟨rfl, rfl, by rw [f4, instL_bs]⟩, trivial⟩ (by simp) (by simp [okL, okV]) (by simp [okL_bs]) (by intro x _; simp [keepR, bs_length, markL_len, hL]) (fun _ => rfl) fun _ N7 hp7 _ eN7 e7 => ?_
  simp only [putSegs, if_true, instL_bs] at e7
  have u7 := set_upd (b := ⟨true, bs (markL 1 (16 * n))⟩) f4
  rw [← e7] at u7
  replace fC := u7.get (by omega) fC; replace fK := u7.get (by omega) fK; replace g0 := g0.upd u7 (by omega); replace q3 := q3.upd u7 (by omega) (by intro i hi; omega); replace q5 := q5.upd u7 (by omega) (by intro i hi; omega); replace x1 := x1.uext u7 (by intro h hh; omega)
  replace o5 : ∀ i p, (iPs P)[i]? = some p → hp7[N5 + 1 + i]? = some ⟨true, p.cells⟩ := fun i p hp => u7.get (by omega) (o5 i p hp)
  clear e7 u7 f4 f6
  simp (config := { maxSteps := 2000000 }) only [CALL, ↓VC, VP, TT, List.getElem?_toArray, Nat.reduceEqDiff, reduceCtorEq, Nat.reduceAdd, Nat.reduceSub, Nat.reduceLT, Nat.reduceMul, Nat.reducePow, Nat.reduceLeDiff, Int.reduceToNat, Int.reduceLE, Int.reduceLT, Int.reducePow, instL_room, Bool.not_true, Bool.not_false, instL_net, nat_lt0X, bne_self_eq_false, beq_self_eq_true, Bool.not_true, Bool.not_false, decide_false, List.replicate_zero, List.append_nil, netC_len lb1 lm1, ↓net_all lb1 lm1, hkey, fC, fK, rng_length, rng_end, slR]
  refine kCall_val (c_laws_eqInt64SS P (P.length + r5) (P.length + r3) (by omega) (by omega) (by omega)) (by rfl) ((N5, 0) :: (N3, 0) :: (rng (N5 + 1) P.length ++ rng (N3 + 1) P.length)) (by simp [CALL]) (seg_two q5 q3 hPn iPs_id) (by simp [okL, okV]) (okB_i2 (by simp [partB_length, hPn])) ?_
  simp (config := { maxSteps := 2000000 }) only [CALL, ↓VC, VP, TT, List.getElem?_toArray, Nat.reduceEqDiff, reduceCtorEq, Nat.reduceAdd, Nat.reduceSub, Nat.reduceLT, Nat.reduceMul, Nat.reducePow, Nat.reduceLeDiff, Int.reduceToNat, Int.reduceLE, Int.reduceLT, Int.reducePow, instL_room, Bool.not_true, Bool.not_false, instL_net, nat_lt0X, bne_self_eq_false, beq_self_eq_true, Bool.not_true, Bool.not_false, decide_false, List.replicate_zero, List.append_nil, netC_len lb1 lm1, ↓net_all lb1 lm1, hkey, fC, fK, rng_length, rng_end, slR]
  have hMn : (iPs (mkN 1 P.length)).length = P.length := by rw [iPs_length, mkN_length]
  refine kA_M (c_laws_markInt64SS P (P.length + r5) 1 (by omega) (by omega) (by omega)) (by rfl) ((N5, 0) :: rng (N5 + 1) P.length) (by simp [CALL]) (segM_nest q5 o5 hPn iPs_id) (nest_nodup (by omega)) (by simp [okL, okV]) (okB_iT (by simp [partB_length, hPn])) (fun _ _ => ⟨rfl, keepR_part (by rw [iPs_length, iPs_length, mkN_length]) iPs_cells⟩) (fun _ => rfl) fun _ N8 hp8 _ eN8 e8 => ?_
  obtain ⟨u8, o8⟩ := put_nest (S := (N5, 0) :: rng (N5 + 1) P.length) (N := N8) (own := false) (Q := iPs (mkN 1 P.length)) q5 hPn hMn (fun p hp => iPs_id _ _ p hp)
  have hsm : ptrV 1 (iPs P) = ptrV 1 (iPs (mkN 1 P.length)) := iPs_same (mkN_length _ _).symm
  rw [← hsm, ← e8] at u8 o8
  have b5 := q5.1
  replace fC := u8.get (by omega) fC; replace fK := u8.get (by omega) fK; replace g0 := g0.upd u8 (by omega); replace b5 := b5.upd u8 (by omega); replace q3 := q3.upd u8 (by omega) (by intro i hi; omega); replace x1 := x1.uext u8 (by intro h hh; omega)
  have q8 : nAt hp8 N5 (N5 + 1) (iPs (mkN 1 P.length)) := ⟨by rw [← iPs_same (P := P) (mkN_length _ _).symm]; exact b5, fun i p hp => bAt_of (o8 i p hp)⟩
  clear e8 u8 o8 b5 q5 o5
  have hheld := c_laws_heldInt64SS P.length (P.length + r5) 1 (by omega) (by omega) (by omega)
  simp (config := { maxSteps := 2000000 }) only [CALL, ↓VC, VP, TT, List.getElem?_toArray, Nat.reduceEqDiff, reduceCtorEq, Nat.reduceAdd, Nat.reduceSub, Nat.reduceLT, Nat.reduceMul, Nat.reducePow, Nat.reduceLeDiff, Int.reduceToNat, Int.reduceLE, Int.reduceLT, Int.reducePow, instL_room, Bool.not_true, Bool.not_false, instL_net, nat_lt0X, bne_self_eq_false, beq_self_eq_true, Bool.not_true, Bool.not_false, decide_false, List.replicate_zero, List.append_nil, netC_len lb1 lm1, ↓net_all lb1 lm1, hkey, fC, fK, rng_length, rng_end, slR]
  refine kCall_val hheld (by rfl) ((N5, 0) :: rng (N5 + 1) P.length) (by simp [CALL]) (seg_nAt0 q8 hMn iPs_id) (by simp [okL, okV]) (okB_iP (by simp [partB_length, hMn, mkN_length])) ?_
  simp (config := { maxSteps := 2000000 }) only [CALL, ↓VC, VP, TT, List.getElem?_toArray, Nat.reduceEqDiff, reduceCtorEq, Nat.reduceAdd, Nat.reduceSub, Nat.reduceLT, Nat.reduceMul, Nat.reducePow, Nat.reduceLeDiff, Int.reduceToNat, Int.reduceLE, Int.reduceLT, Int.reducePow, instL_room, Bool.not_true, Bool.not_false, instL_net, nat_lt0X, bne_self_eq_false, beq_self_eq_true, Bool.not_true, Bool.not_false, decide_false, List.replicate_zero, List.append_nil, netC_len lb1 lm1, ↓net_all lb1 lm1, hkey, fC, fK, rng_length, rng_end, slR]
  refine kCall_val (c_laws_toNetwork z1 kd1 n1 lb1 lm1) (by rfl) [] (by simp [CALL, cellsAt, tk, take_room, bs_length, bs_nil, instL_net, okL_net]) (by simp [CALL, cellsAt, tk, take_room, bs_length, bs_nil, instL_net, okL_net]) (by simp [CALL, cellsAt, tk, take_room, bs_length, bs_nil, instL_net, okL_net]) (by simp [okL_bs, okL_room, okL, okV, instL_net, okL_net]) ?_
  simp (config := { maxSteps := 2000000 }) only [CALL, ↓VC, VP, TT, List.getElem?_toArray, Nat.reduceEqDiff, reduceCtorEq, Nat.reduceAdd, Nat.reduceSub, Nat.reduceLT, Nat.reduceMul, Nat.reducePow, Nat.reduceLeDiff, Int.reduceToNat, Int.reduceLE, Int.reduceLT, Int.reducePow, instL_room, Bool.not_true, Bool.not_false, instL_net, nat_lt0X, bne_self_eq_false, beq_self_eq_true, Bool.not_true, Bool.not_false, decide_false, List.replicate_zero, List.append_nil, netC_len lb1 lm1, ↓net_all lb1 lm1, hkey, fC, fK, rng_length, rng_end, slR]
  refine kCall_val (c_laws_toHalf key hkey) (by rfl) [] (by simp [CALL, cellsAt, tk, take_room, bs_length, bs_nil, instL_net, okL_net]) (by simp [CALL, cellsAt, tk, take_room, bs_length, bs_nil, instL_net, okL_net]) (by simp [CALL, cellsAt, tk, take_room, bs_length, bs_nil, instL_net, okL_net]) (by simp [okL_bs, okL_room, okL, okV, instL_net, okL_net]) ?_
  simp (config := { maxSteps := 2000000 }) only [CALL, ↓VC, VP, TT, List.getElem?_toArray, Nat.reduceEqDiff, reduceCtorEq, Nat.reduceAdd, Nat.reduceSub, Nat.reduceLT, Nat.reduceMul, Nat.reducePow, Nat.reduceLeDiff, Int.reduceToNat, Int.reduceLE, Int.reduceLT, Int.reducePow, instL_room, Bool.not_true, Bool.not_false, instL_net, nat_lt0X, bne_self_eq_false, beq_self_eq_true, Bool.not_true, Bool.not_false, decide_false, List.replicate_zero, List.append_nil, netC_len lb1 lm1, ↓net_all lb1 lm1, hkey, fC, fK, rng_length, rng_end, slR]
  refine kA_ret (c_laws_toBlockS n c L hL hc hn) (by rfl) [(0, 0)] (by simp [CALL]) (seg_bAt g0 (instL_bs _ _ _) trivial) (by simp [okL, okV]) (by simp [okL_bs]) (by simp) fun _ N9 hp9 _ eN9 e9 => ?_
  simp only [List.map_cons, List.map_nil, instL_bs] at e9
  have x9 := new_ext e9
  have f9 : hp9[N9]? = some ⟨true, bs L⟩ := new_at (R := []) eN9 e9
  replace fC := x9.get fC; replace fK := x9.get fK; replace g0 := g0.mono x9; replace q3 := q3.mono x9; replace q8 := q8.mono x9; replace x1 := x1.trans x9
  clear e9 x9
  simp (config := { maxSteps := 2000000 }) only [CALL, ↓VC, VP, TT, List.getElem?_toArray, Nat.reduceEqDiff, reduceCtorEq, Nat.reduceAdd, Nat.reduceSub, Nat.reduceLT, Nat.reduceMul, Nat.reducePow, Nat.reduceLeDiff, Int.reduceToNat, Int.reduceLE, Int.reduceLT, Int.reducePow, instL_room, Bool.not_true, Bool.not_false, instL_net, nat_lt0X, bne_self_eq_false, beq_self_eq_true, Bool.not_true, Bool.not_false, decide_false, List.replicate_zero, List.append_nil, netC_len lb1 lm1, ↓net_all lb1 lm1, hkey, fC, fK, rng_length, rng_end, slR]
  refine kA_ret hi (by rfl) [(N9, 0)] (by simp [CALL, instL_net]) (seg_bAt (bAt_of f9) (instL_bs _ _ _) trivial) (by simp [okL, okV, okL_net, okL_bs]) (by simp [okL_bs]) (fun r => newP_own) fun r10 N10 hp10 _ eN10 e10 => ?_
  rw [show (slR P e r10).2 = newP 1 P r10 from rfl, inst_newP rfl] at e10
  have x10 := new_ext e10
  obtain ⟨q10, o10⟩ := newP_nAt eN10 e10
  replace fC := x10.get fC; replace fK := x10.get fK; replace q3 := q3.mono x10; replace q8 := q8.mono x10; replace x1 := x1.trans x10
  clear e10 x10
  simp (config := { maxSteps := 2000000 }) only [CALL, ↓VC, VP, TT, List.getElem?_toArray, Nat.reduceEqDiff, reduceCtorEq, Nat.reduceAdd, Nat.reduceSub, Nat.reduceLT, Nat.reduceMul, Nat.reducePow, Nat.reduceLeDiff, Int.reduceToNat, Int.reduceLE, Int.reduceLT, Int.reducePow, instL_room, Bool.not_true, Bool.not_false, instL_net, nat_lt0X, bne_self_eq_false, beq_self_eq_true, Bool.not_true, Bool.not_false, decide_false, List.replicate_zero, List.append_nil, netC_len lb1 lm1, ↓net_all lb1 lm1, hkey, fC, fK, rng_length, rng_end, slR]
  refine kCall_val (c_laws_eqInt64SS P (P.length + r10) (P.length + r3) (by omega) (by omega) (by omega)) (by rfl) ((N10, 0) :: (N3, 0) :: (rng (N10 + 1) P.length ++ rng (N3 + 1) P.length)) (by simp [CALL]) (seg_two q10 q3 hPn iPs_id) (by simp [okL, okV]) (okB_i2 (by simp [partB_length, hPn])) ?_
  simp (config := { maxSteps := 2000000 }) only [CALL, ↓VC, VP, TT, List.getElem?_toArray, Nat.reduceEqDiff, reduceCtorEq, Nat.reduceAdd, Nat.reduceSub, Nat.reduceLT, Nat.reduceMul, Nat.reducePow, Nat.reduceLeDiff, Int.reduceToNat, Int.reduceLE, Int.reduceLT, Int.reducePow, instL_room, Bool.not_true, Bool.not_false, instL_net, nat_lt0X, bne_self_eq_false, beq_self_eq_true, Bool.not_true, Bool.not_false, decide_false, List.replicate_zero, List.append_nil, netC_len lb1 lm1, ↓net_all lb1 lm1, hkey, fC, fK, rng_length, rng_end, slR]
  refine kCall_val hheld (by rfl) ((N5, 0) :: rng (N5 + 1) P.length) (by simp [CALL]) (seg_nAt0 q8 hMn iPs_id) (by simp [okL, okV]) (okB_iP (by simp [partB_length, hMn, mkN_length])) ?_
  simp (config := { maxSteps := 2000000 }) only [CALL, ↓VC, VP, TT, List.getElem?_toArray, Nat.reduceEqDiff, reduceCtorEq, Nat.reduceAdd, Nat.reduceSub, Nat.reduceLT, Nat.reduceMul, Nat.reducePow, Nat.reduceLeDiff, Int.reduceToNat, Int.reduceLE, Int.reduceLT, Int.reducePow, instL_room, Bool.not_true, Bool.not_false, instL_net, nat_lt0X, bne_self_eq_false, beq_self_eq_true, Bool.not_true, Bool.not_false, decide_false, List.replicate_zero, List.append_nil, netC_len lb1 lm1, ↓net_all lb1 lm1, hkey, fC, fK, rng_length, rng_end, slR]
  exact ⟨_, H, List.range 1, rfl, LeS_ext x1 hN0 (Nat.le_refl _) (by simp [leT]) (by simp [stL, stV]) hst⟩
end Go.Proofs.Ytcfhdogmkbfnhaa

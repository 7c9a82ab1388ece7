import Derived.Test.YtjakgjelnbpmnaaGreatSldA
import Derived.Test.YtjakgjelnbpmnaaGreatSlidR
/- FnSlides: its section from region 17 on: blocks that are slid from each other are enciphered to slid blocks. -/
set_option linter.unusedSimpArgs false
set_option linter.unusedVariables false
namespace Go.Proofs.YtjakgjelnbpmnaaGreat
open Go Go.Vc
set_option maxRecDepth 10000
set_option maxHeartbeats 40000000
theorem run_alike {c : Net} {K key x : List UInt8} {q : Nat} (hK : ∀ i, i < q → hfA K i = key) : ∀ i, i ≤ q → c.run K (c.rnd key x) i = c.rnd key (c.run K x i)
  | 0, _ => rfl
  | i + 1, h => by rw [Net.run, run_alike hK i (by omega), Net.run, hK i (by omega)]
section
variable {l : List UInt8} {c : Nat}
abbrev seS (l : List UInt8) (c m r q r2 i j : Nat) : List V := ((.s 0 0 l.length c) :: (@HAppend.hAppend (List V) (List V) (List V) _ (List.replicate 2 V.j) ((.p 2 0) :: ((.p 3 0) :: ((.s 1 0 m (m + r)) :: (@HAppend.hAppend (List V) (List V) (List V) _ (List.replicate 4 V.j) ((.s 4 0 q (q + r2)) :: (@HAppend.hAppend (List V) (List V) (List V) _ (List.replicate 1 V.j) ((.c (.int .i64 (i))) :: ((.c (.int .i64 (j))) :: (List.replicate 323 .j)))))))))))
abbrev seH (l L : List UInt8) (r : Nat) (d : Net) (key K : List UInt8) (r2 : Nat) : List Blk := [⟨false, bs l⟩, ⟨true, bs L ++ List.replicate (16 * r) .j⟩, ⟨true, netC d.m d.box d.A d.k d.n⟩, ⟨true, bs key⟩, ⟨true, bs K ++ List.replicate (8 * r2) .j⟩]
theorem se_run (hc : l.length ≤ c) (hm : l.length ≤ 4096) (d : Net) {m r q r2 i j : Nat} {L key K : List UInt8} (hL : L.length = 16 * m) (hk : key.length = 8) (hq : q = d.n) (hK : K.length = 8 * q) (hKk : ∀ x, x < q → hfA K x = key) (hi : i < m) (hj : j < m) (hij : bkA L j = d.rnd key (bkA L i)) : kFrom cx_FnSlides Tryz.f3 [17, 22, 25, 30, 33, 36, 39, 41] 17 lawPost (seS l c m r q r2 i j) (seH l L r d key K r2) := by
  have hqn := d.hn
  have ha := bkA_len hL hi
  have hb := bkA_len hL hj
  have sa : ∀ (X : List V) (k : V → Prop), vSub (bs L ++ X) (i * 16) 16 k = k (.a (bs (bkA L i))) := fun X k => vSub_bkR hL hi
  have sb : ∀ (X : List V) (k : V → Prop), vSub (bs L ++ X) (j * 16) 16 k = k (.a (bs (bkA L j))) := fun X k => vSub_bkR hL hj
  have hT : ∀ X, List.take K.length (bs K ++ X) = bs K := fun X => by rw [List.take_append_of_le_length (by rw [bs_length]; exact Nat.le_refl _), List.take_of_length_le (by rw [bs_length]; exact Nat.le_refl _)]
  have I1 := k_impl_run d q (q + r2) K (bkA L i) hK (by omega) (by omega) ha hq
  have I2 := k_impl_run d q (q + r2) K (bkA L j) hK (by omega) (by omega) hb hq
  have hx := run_len (c := d) (D := K) ha q
  have hy := run_len (c := d) (D := K) hb q
  have hxt : List.take 16 (d.run K (bkA L i) q) = d.run K (bkA L i) q := List.take_of_length_le (Nat.le_of_eq hx)
  have hyt : List.take 16 (d.run K (bkA L j) q) = d.run K (bkA L j) q := List.take_of_length_le (Nat.le_of_eq hy)
  have hat : List.take 16 (bkA L i) = bkA L i := List.take_of_length_le (Nat.le_of_eq ha)
  have hbt : List.take 16 (bkA L j) = bkA L j := List.take_of_length_le (Nat.le_of_eq hb)
  have hkt : List.take 8 key = key := List.take_of_length_le (Nat.le_of_eq hk)
  have hS := k_impl_IsSlid d key (d.run K (bkA L i) q) (d.run K (bkA L j) q) hk hx hy
  have he : (d.rnd key (d.run K (bkA L i) q) == d.run K (bkA L j) q) = true := by rw [hij, run_alike hKk q (Nat.le_refl _), beq_self_eq_true]
  rw [he] at hS
  unfold Net.cells at I1 I2 hS
  simp only [kFrom, kFromK, kAt, Go.Vc.mark, lawPost, List.contains_cons, List.contains_nil, Nat.reduceBEq, Bool.or_false, Bool.false_or, Bool.true_or, Bool.or_true, Bool.false_eq_true, if_true, if_false, Nat.reduceAdd, Nat.reduceEqDiff, reduceCtorEq, Tryz.f3]
  simp only [CX_FnSlides, SPV, lawPost, ↓VC2, ZP, VP, TT, Nat.reduceEqDiff, reduceCtorEq, Nat.reduceAdd, Nat.reduceSub, Nat.reduceLT, Nat.reduceMul, Nat.reducePow, Nat.reduceLeDiff, Int.reduceToNat, Int.reduceLE, Int.reduceLT, Int.reducePow, seS, seH, ha, hb, hk, netC_len d.hb d.hA, ↓net_all d.hb d.hA, ↓sa, (eq_true (by omega) : ((i : Int) < (m : Int)) = True), Int.toNat_natCast]
  refine kCall_val (I1) (by rfl) [(4, 0)] (by simp [CALL, SCB, instL_net, okL_net, instL_room, okL_room, hT, hat]) (by simp [CALL, SCB, instL_net, okL_net, instL_room, okL_room, hT, hat]) (by simp [CALL, SCB, instL_net, okL_net, instL_room, okL_room, hT, hat]) (by simp [okL_bs, okL_room, okL, okV, instL_net, okL_net, instL_room, okL_room, hT, hat]) ?_
  simp (config := { maxSteps := 2000000 }) only [CALL, ↓VC2, ZP, VP, TT, Nat.reduceEqDiff, reduceCtorEq, Nat.reduceAdd, Nat.reduceSub, Nat.reduceLT, Nat.reduceMul, Nat.reducePow, Nat.reduceLeDiff, Int.reduceToNat, Int.reduceLE, Int.reduceLT, Int.reducePow, GOB, CX_FnSlides, lawPost, SPV, instL_net, net_zero, netC_len z256 z16, DN.cells, ha, hb, hk, hx, hy, netC_len d.hb d.hA, ↓net_all d.hb d.hA, ↓sb, (eq_true (by omega) : ((j : Int) < (m : Int)) = True), Int.toNat_natCast]
  refine kCall_val (I2) (by rfl) [(4, 0)] (by simp [CALL, SCB, instL_net, okL_net, instL_room, okL_room, hT, hbt]) (by simp [CALL, SCB, instL_net, okL_net, instL_room, okL_room, hT, hbt]) (by simp [CALL, SCB, instL_net, okL_net, instL_room, okL_room, hT, hbt]) (by simp [okL_bs, okL_room, okL, okV, instL_net, okL_net, instL_room, okL_room, hT, hbt]) ?_
  simp (config := { maxSteps := 2000000 }) only [CALL, ↓VC2, ZP, VP, TT, Nat.reduceEqDiff, reduceCtorEq, Nat.reduceAdd, Nat.reduceSub, Nat.reduceLT, Nat.reduceMul, Nat.reducePow, Nat.reduceLeDiff, Int.reduceToNat, Int.reduceLE, Int.reduceLT, Int.reducePow, GOB, CX_FnSlides, lawPost, SPV, instL_net, net_zero, netC_len z256 z16, DN.cells, ha, hb, hk, hx, hy, netC_len d.hb d.hA, ↓net_all d.hb d.hA]
  refine kCall_val (hS) (by rfl) [] (by simp [CALL, SCB, instL_net, okL_net, instL_room, okL_room, hxt, hyt, hkt]) (by simp [CALL, SCB, instL_net, okL_net, instL_room, okL_room, hxt, hyt, hkt]) (by simp [CALL, SCB, instL_net, okL_net, instL_room, okL_room, hxt, hyt, hkt]) (by simp [okL_bs, okL_room, okL, okV, instL_net, okL_net, instL_room, okL_room, hxt, hyt, hkt]) ?_
  simp (config := { maxSteps := 2000000 }) only [CALL, ↓VC2, ZP, VP, TT, Nat.reduceEqDiff, reduceCtorEq, Nat.reduceAdd, Nat.reduceSub, Nat.reduceLT, Nat.reduceMul, Nat.reducePow, Nat.reduceLeDiff, Int.reduceToNat, Int.reduceLE, Int.reduceLT, Int.reducePow, GOB, CX_FnSlides, lawPost, SPV, instL_net, net_zero, netC_len z256 z16, DN.cells, ha, hb, hk, hx, hy, netC_len d.hb d.hA, ↓net_all d.hb d.hA, bne_self_eq_false, Bool.not_true]
  try rw [if_neg (by simp)]
  exact kMeet (sd_looks hc hm) (by kernel_rfl) ⟨[0], by simp [-List.reduceReplicate, LES, CX_FnSlides, SPL, List.drop_succ_cons, List.length_append, List.length_replicate, List.length_cons, okL_app, okL_rep, sdS]⟩
end
end Go.Proofs.YtjakgjelnbpmnaaGreat

import Derived.Test.YtjakgjelnbpmnaaGreatDrawX
import Derived.Test.YtjakgjelnbpmnaaGreatVcgJ
import Derived.Test.YtjakgjelnbpmnaaGreatVcgZV
/- The draw of blocks that may be slid. In sections. -/
set_option linter.unusedSimpArgs false
set_option linter.unusedVariables false
namespace Go.Proofs.YtjakgjelnbpmnaaGreat
open Go Go.Vc
set_option maxRecDepth 10000
set_option maxHeartbeats 40000000
noncomputable def cx_DrawIsSlid : Cx := XX (fun | 4 => .cut (.one 0 (.one 3 (.one 4 (.one 5 (.alt (.one 1 (.alt (.one 2 (.one 6 (.one 7 (.one 8 (.one 9 (.one 10 .nil)))))) (.one 6 (.alt (.one 2 (.one 7 (.one 8 (.one 9 (.one 10 .nil))))) (.one 7 (.alt (.one 2 (.one 8 (.one 9 (.one 10 .nil)))) (.one 8 (.one 2 (.one 9 (.one 10 .nil)))))))))) (.alt (.one 2 (.alt (.one 1 (.one 6 (.one 7 (.one 8 (.one 9 (.one 10 .nil)))))) (.one 6 (.alt (.one 1 (.one 7 (.one 8 (.one 9 (.one 10 .nil))))) (.one 7 (.one 1 (.one 8 (.one 9 (.one 10 .nil))))))))) (.one 6 (.alt (.one 1 (.alt (.one 2 (.one 7 (.one 8 (.one 9 (.one 10 .nil))))) (.one 7 (.alt (.one 2 (.one 8 (.one 9 (.one 10 .nil)))) (.one 8 (.one 2 (.one 9 (.one 10 .nil)))))))) (.alt (.one 2 (.alt (.one 1 (.one 7 (.one 8 (.one 9 (.one 10 .nil))))) (.one 7 (.one 1 (.one 8 (.one 9 (.one 10 .nil))))))) (.one 7 (.one 1 (.alt (.one 2 (.one 8 (.one 9 (.one 10 .nil)))) (.one 8 (.one 2 (.one 9 (.one 10 .nil)))))))))))))))) | 5 => .cut (.one 3 (.alt (.one 0 (.alt (.one 1 (.alt (.one 2 (.one 4 (.one 5 (.one 6 (.one 7 (.one 8 .nil)))))) (.one 4 (.alt (.one 2 (.one 5 (.one 6 (.one 7 (.one 8 .nil))))) (.one 5 (.alt (.one 2 (.one 6 (.one 7 (.one 8 .nil)))) (.one 6 (.one 2 (.one 7 (.one 8 .nil)))))))))) (.alt (.one 2 (.alt (.one 1 (.one 4 (.one 5 (.one 6 (.one 7 (.one 8 .nil)))))) (.one 4 (.alt (.one 1 (.one 5 (.one 6 (.one 7 (.one 8 .nil))))) (.one 5 (.one 1 (.one 6 (.one 7 (.one 8 .nil))))))))) (.one 4 (.alt (.one 1 (.alt (.one 2 (.one 5 (.one 6 (.one 7 (.one 8 .nil))))) (.one 5 (.alt (.one 2 (.one 6 (.one 7 (.one 8 .nil)))) (.one 6 (.one 2 (.one 7 (.one 8 .nil)))))))) (.alt (.one 2 (.alt (.one 1 (.one 5 (.one 6 (.one 7 (.one 8 .nil))))) (.one 5 (.one 1 (.one 6 (.one 7 (.one 8 .nil))))))) (.one 5 (.one 1 (.alt (.one 2 (.one 6 (.one 7 (.one 8 .nil)))) (.one 6 (.one 2 (.one 7 (.one 8 .nil))))))))))))) (.alt (.one 1 (.alt (.one 0 (.alt (.one 2 (.one 4 (.one 5 (.one 6 (.one 7 (.one 8 .nil)))))) (.one 4 (.alt (.one 2 (.one 5 (.one 6 (.one 7 (.one 8 .nil))))) (.one 5 (.alt (.one 2 (.one 6 (.one 7 (.one 8 .nil)))) (.one 6 (.one 2 (.one 7 (.one 8 .nil)))))))))) (.alt (.one 2 (.alt (.one 0 (.one 4 (.one 5 (.one 6 (.one 7 (.one 8 .nil)))))) (.one 4 (.one 0 (.one 5 (.one 6 (.one 7 (.one 8 .nil)))))))) (.one 4 (.one 0 (.alt (.one 2 (.one 5 (.one 6 (.one 7 (.one 8 .nil))))) (.one 5 (.alt (.one 2 (.one 6 (.one 7 (.one 8 .nil)))) (.one 6 (.one 2 (.one 7 (.one 8 .nil)))))))))))) (.alt (.one 2 (.alt (.one 0 (.alt (.one 1 (.one 4 (.one 5 (.one 6 (.one 7 (.one 8 .nil)))))) (.one 4 (.alt (.one 1 (.one 5 (.one 6 (.one 7 (.one 8 .nil))))) (.one 5 (.one 1 (.one 6 (.one 7 (.one 8 .nil))))))))) (.alt (.one 1 (.alt (.one 0 (.one 4 (.one 5 (.one 6 (.one 7 (.one 8 .nil)))))) (.one 4 (.one 0 (.one 5 (.one 6 (.one 7 (.one 8 .nil)))))))) (.one 4 (.one 0 (.alt (.one 1 (.one 5 (.one 6 (.one 7 (.one 8 .nil))))) (.one 5 (.one 1 (.one 6 (.one 7 (.one 8 .nil))))))))))) (.one 4 (.one 0 (.alt (.one 1 (.alt (.one 2 (.one 5 (.one 6 (.one 7 (.one 8 .nil))))) (.one 5 (.alt (.one 2 (.one 6 (.one 7 (.one 8 .nil)))) (.one 6 (.one 2 (.one 7 (.one 8 .nil)))))))) (.alt (.one 2 (.alt (.one 1 (.one 5 (.one 6 (.one 7 (.one 8 .nil))))) (.one 5 (.one 1 (.one 6 (.one 7 (.one 8 .nil))))))) (.one 5 (.one 1 (.alt (.one 2 (.one 6 (.one 7 (.one 8 .nil)))) (.one 6 (.one 2 (.one 7 (.one 8 .nil))))))))))))))) | 1000004 => .cut .nil | 1000005 => .cut .nil | _ => .nil) (fun _ => []) [33, 34, 35, 36, 39, 45, 53, 54, 65, 75, 90, 91, 92, 104] 1
theorem cx_DrawIsSlid_E : cx_DrawIsSlid.E = E := rfl
theorem cx_DrawIsSlid_P : cx_DrawIsSlid.P = Tryz.prog := rfl
theorem cx_DrawIsSlid_mu : cx_DrawIsSlid.mu = [33, 34, 35, 36, 39, 45, 53, 54, 65, 75, 90, 91, 92, 104] := rfl
theorem cx_DrawIsSlid_m : cx_DrawIsSlid.m = 1 := rfl
theorem cx_DrawIsSlid_ord4 : cx_DrawIsSlid.ord 4 = .cut (.one 0 (.one 3 (.one 4 (.one 5 (.alt (.one 1 (.alt (.one 2 (.one 6 (.one 7 (.one 8 (.one 9 (.one 10 .nil)))))) (.one 6 (.alt (.one 2 (.one 7 (.one 8 (.one 9 (.one 10 .nil))))) (.one 7 (.alt (.one 2 (.one 8 (.one 9 (.one 10 .nil)))) (.one 8 (.one 2 (.one 9 (.one 10 .nil)))))))))) (.alt (.one 2 (.alt (.one 1 (.one 6 (.one 7 (.one 8 (.one 9 (.one 10 .nil)))))) (.one 6 (.alt (.one 1 (.one 7 (.one 8 (.one 9 (.one 10 .nil))))) (.one 7 (.one 1 (.one 8 (.one 9 (.one 10 .nil))))))))) (.one 6 (.alt (.one 1 (.alt (.one 2 (.one 7 (.one 8 (.one 9 (.one 10 .nil))))) (.one 7 (.alt (.one 2 (.one 8 (.one 9 (.one 10 .nil)))) (.one 8 (.one 2 (.one 9 (.one 10 .nil)))))))) (.alt (.one 2 (.alt (.one 1 (.one 7 (.one 8 (.one 9 (.one 10 .nil))))) (.one 7 (.one 1 (.one 8 (.one 9 (.one 10 .nil))))))) (.one 7 (.one 1 (.alt (.one 2 (.one 8 (.one 9 (.one 10 .nil)))) (.one 8 (.one 2 (.one 9 (.one 10 .nil)))))))))))))))) := rfl
theorem cx_DrawIsSlid_ord5 : cx_DrawIsSlid.ord 5 = .cut (.one 3 (.alt (.one 0 (.alt (.one 1 (.alt (.one 2 (.one 4 (.one 5 (.one 6 (.one 7 (.one 8 .nil)))))) (.one 4 (.alt (.one 2 (.one 5 (.one 6 (.one 7 (.one 8 .nil))))) (.one 5 (.alt (.one 2 (.one 6 (.one 7 (.one 8 .nil)))) (.one 6 (.one 2 (.one 7 (.one 8 .nil)))))))))) (.alt (.one 2 (.alt (.one 1 (.one 4 (.one 5 (.one 6 (.one 7 (.one 8 .nil)))))) (.one 4 (.alt (.one 1 (.one 5 (.one 6 (.one 7 (.one 8 .nil))))) (.one 5 (.one 1 (.one 6 (.one 7 (.one 8 .nil))))))))) (.one 4 (.alt (.one 1 (.alt (.one 2 (.one 5 (.one 6 (.one 7 (.one 8 .nil))))) (.one 5 (.alt (.one 2 (.one 6 (.one 7 (.one 8 .nil)))) (.one 6 (.one 2 (.one 7 (.one 8 .nil)))))))) (.alt (.one 2 (.alt (.one 1 (.one 5 (.one 6 (.one 7 (.one 8 .nil))))) (.one 5 (.one 1 (.one 6 (.one 7 (.one 8 .nil))))))) (.one 5 (.one 1 (.alt (.one 2 (.one 6 (.one 7 (.one 8 .nil)))) (.one 6 (.one 2 (.one 7 (.one 8 .nil))))))))))))) (.alt (.one 1 (.alt (.one 0 (.alt (.one 2 (.one 4 (.one 5 (.one 6 (.one 7 (.one 8 .nil)))))) (.one 4 (.alt (.one 2 (.one 5 (.one 6 (.one 7 (.one 8 .nil))))) (.one 5 (.alt (.one 2 (.one 6 (.one 7 (.one 8 .nil)))) (.one 6 (.one 2 (.one 7 (.one 8 .nil)))))))))) (.alt (.one 2 (.alt (.one 0 (.one 4 (.one 5 (.one 6 (.one 7 (.one 8 .nil)))))) (.one 4 (.one 0 (.one 5 (.one 6 (.one 7 (.one 8 .nil)))))))) (.one 4 (.one 0 (.alt (.one 2 (.one 5 (.one 6 (.one 7 (.one 8 .nil))))) (.one 5 (.alt (.one 2 (.one 6 (.one 7 (.one 8 .nil)))) (.one 6 (.one 2 (.one 7 (.one 8 .nil)))))))))))) (.alt (.one 2 (.alt (.one 0 (.alt (.one 1 (.one 4 (.one 5 (.one 6 (.one 7 (.one 8 .nil)))))) (.one 4 (.alt (.one 1 (.one 5 (.one 6 (.one 7 (.one 8 .nil))))) (.one 5 (.one 1 (.one 6 (.one 7 (.one 8 .nil))))))))) (.alt (.one 1 (.alt (.one 0 (.one 4 (.one 5 (.one 6 (.one 7 (.one 8 .nil)))))) (.one 4 (.one 0 (.one 5 (.one 6 (.one 7 (.one 8 .nil)))))))) (.one 4 (.one 0 (.alt (.one 1 (.one 5 (.one 6 (.one 7 (.one 8 .nil))))) (.one 5 (.one 1 (.one 6 (.one 7 (.one 8 .nil))))))))))) (.one 4 (.one 0 (.alt (.one 1 (.alt (.one 2 (.one 5 (.one 6 (.one 7 (.one 8 .nil))))) (.one 5 (.alt (.one 2 (.one 6 (.one 7 (.one 8 .nil)))) (.one 6 (.one 2 (.one 7 (.one 8 .nil)))))))) (.alt (.one 2 (.alt (.one 1 (.one 5 (.one 6 (.one 7 (.one 8 .nil))))) (.one 5 (.one 1 (.one 6 (.one 7 (.one 8 .nil))))))) (.one 5 (.one 1 (.alt (.one 2 (.one 6 (.one 7 (.one 8 .nil)))) (.one 6 (.one 2 (.one 7 (.one 8 .nil))))))))))))))) := rfl
theorem cx_DrawIsSlid_ord1000004 : cx_DrawIsSlid.ord 1000004 = .cut .nil := rfl
theorem cx_DrawIsSlid_ord1000005 : cx_DrawIsSlid.ord 1000005 = .cut .nil := rfl
theorem cx_DrawIsSlid_flt4 : cx_DrawIsSlid.flt 4 = [] := rfl
theorem cx_DrawIsSlid_flt5 : cx_DrawIsSlid.flt 5 = [] := rfl
theorem cx_DrawIsSlid_flt1000004 : cx_DrawIsSlid.flt 1000004 = [] := rfl
theorem cx_DrawIsSlid_flt1000005 : cx_DrawIsSlid.flt 1000005 = [] := rfl
theorem CX_DrawIsSlid : type_of% (
  And.intro @cx_DrawIsSlid_E <|
  And.intro @cx_DrawIsSlid_P <|
  And.intro @cx_DrawIsSlid_mu <|
  And.intro @cx_DrawIsSlid_m <|
  And.intro @cx_DrawIsSlid_ord4 <|
  And.intro @cx_DrawIsSlid_ord5 <|
  And.intro @cx_DrawIsSlid_ord1000004 <|
  And.intro @cx_DrawIsSlid_ord1000005 <|
  And.intro @cx_DrawIsSlid_flt4 <|
  And.intro @cx_DrawIsSlid_flt5 <|
  And.intro @cx_DrawIsSlid_flt1000004 <|
  @cx_DrawIsSlid_flt1000005) :=
  And.intro @cx_DrawIsSlid_E <|
  And.intro @cx_DrawIsSlid_P <|
  And.intro @cx_DrawIsSlid_mu <|
  And.intro @cx_DrawIsSlid_m <|
  And.intro @cx_DrawIsSlid_ord4 <|
  And.intro @cx_DrawIsSlid_ord5 <|
  And.intro @cx_DrawIsSlid_ord1000004 <|
  And.intro @cx_DrawIsSlid_ord1000005 <|
  And.intro @cx_DrawIsSlid_flt4 <|
  And.intro @cx_DrawIsSlid_flt5 <|
  And.intro @cx_DrawIsSlid_flt1000004 <|
  @cx_DrawIsSlid_flt1000005
section
variable {l : List UInt8} {c : Nat} {q : Nat × Nat}
def ysG (x : DN × List UInt8 × List UInt8 × List UInt8) : Prop := x.1.ok ∧ x.2.1.length = 8 ∧ x.2.2.1.length = 16 ∧ x.2.2.2.length = 16
def ysR (x : DN × List UInt8 × List UInt8 × List UInt8) : V × List Blk := (.t [.a x.1.cells, .a (bs x.2.1), .a (bs x.2.2.1), .a (bs x.2.2.2)], [])
abbrev ysS (l : List UInt8) (c : Nat) : List V := ((.s 0 0 l.length c) :: (@HAppend.hAppend (List V) (List V) (List V) _ (List.replicate 1 V.j) ((.p 1 0) :: ((.p 2 0) :: ((.p 3 0) :: ((.p 4 0) :: ((.p 5 0) :: ((.p 6 0) :: ((.p 7 0) :: ((.p 8 0) :: (List.replicate 27 .j)))))))))))
abbrev ysH (l : List UInt8) (c : Nat) (z k n : Int) (b A d s : List UInt8) (q : Nat × Nat) : List Blk := [⟨false, bs l⟩, ⟨true, netC 0 (List.replicate 256 0) (List.replicate 16 0) 0 0⟩, ⟨true, bs (List.replicate 8 0)⟩, ⟨true, bs (List.replicate 16 0)⟩, ⟨true, bs (List.replicate 16 0)⟩, ⟨true, sv 0 l.length c q⟩, ⟨true, netC z b A k n⟩, ⟨true, bs d⟩, ⟨true, bs s⟩]
theorem ys_five (hc : l.length ≤ c) (hm : l.length ≤ 4096) {z k n : Int} {b A d s : List UInt8} {q : Nat × Nat} (hb : b.length = 256) (hA : A.length = 16) (hd : d.length = 8) (hs : s.length = 16) (hq : okS l q) : kFrom cx_DrawIsSlid Tryz.f24 [4, 5] 5 (fun v hp => ∃ v' hp' σ, Ret [⟨false, bs l⟩] ysG ysR v' hp' ∧ LeS 1 σ [v] hp [v'] hp') (ysS l c) (ysH l c z k n b A d s q) := by
  simp only [kFrom, kFromK, kAt, Go.Vc.mark, lawPost, List.contains_cons, List.contains_nil, Nat.reduceBEq, Bool.or_false, Bool.false_or, Bool.true_or, Bool.or_true, Bool.false_eq_true, if_true, if_false, Nat.reduceAdd, Nat.reduceEqDiff, reduceCtorEq, Tryz.f24]
  simp only [CX_DrawIsSlid, SPV, lawPost, ↓VC2, ZP, VP, TT, Nat.reduceEqDiff, reduceCtorEq, Nat.reduceAdd, Nat.reduceSub, Nat.reduceLT, Nat.reduceMul, Nat.reducePow, Nat.reduceLeDiff, Int.reduceToNat, Int.reduceLE, Int.reduceLT, Int.reducePow, ysS, ysH]
  refine kCut_of (fun o : List UInt8 => ((@HAppend.hAppend (List V) (List V) (List V) _ (List.replicate 2 V.j) ((.p 1 0) :: ((.p 2 0) :: ((.p 3 0) :: ((.p 4 0) :: (List.replicate 31 .j)))))), [⟨false, bs l⟩, ⟨true, netC z b A k n⟩, ⟨true, bs d⟩, ⟨true, bs s⟩, ⟨true, bs o⟩])) (fun o => o.length = 16) ?_ (fun o ho => ?_)
  · simp (config := { maxSteps := 4000000 }) only [CX_DrawIsSlid, SPV, ↓VC2, ZP, VP, TT, Nat.reduceEqDiff, reduceCtorEq, Nat.reduceAdd, Nat.reduceSub, Nat.reduceLT, Nat.reduceMul, Nat.reducePow, Nat.reduceLeDiff, Int.reduceToNat, Int.reduceLE, Int.reduceLT, Int.reducePow, hd, hs, netC_len hb hA, ↓net_put_all z256 z16 hb hA, ↓net_all hb hA, and_self]
    repeat' apply And.intro
    all_goals as_aux_lemma =>
      refine kCall_M (z_block hc hm hq) (by rfl) [(5, 0), (0, 0)] (by simp [CALL, SCB, SD, nsv, instL_net, okL_net]) (by simp [CALL, SCB, SD, nsv, instL_net, okL_net]) (by simp) (by simp [CALL, SCB, SD, nsv, instL_net, okL_net]) (by simp [okL_bs, okL_room, okL, okV, SD, nsv, instL_net, okL_net]) (by intro x _; simp [keepR, bs_length, SD, nsv, instL_net, okL_net]) (by simp [CALL, SCB, SD, nsv, instL_net, okL_net]) fun x9 h9 => ?_
      obtain ⟨q9, o⟩ := x9
      obtain ⟨hq9, ho⟩ := h9
      simp only at hq9 ho ⊢
      simp (config := { maxSteps := 2000000 }) only [CALL, ↓VC2, ZP, VP, TT, Nat.reduceEqDiff, reduceCtorEq, Nat.reduceAdd, Nat.reduceSub, Nat.reduceLT, Nat.reduceMul, Nat.reducePow, Nat.reduceLeDiff, Int.reduceToNat, Int.reduceLE, Int.reduceLT, Int.reducePow, GOB, CX_DrawIsSlid, lawPost, SPV, GD, cipC_len z256 z16 z16, instL_net, net_zero, netC_len z256 z16, hd, hs, ho, netC_len hb hA, ↓net_put_all z256 z16 hb hA, ↓net_all hb hA]
      repeat' apply And.intro
      all_goals exact ⟨_, by assumption, [0, 1, 2, 3, 4], by simp [-List.reduceReplicate, LES, CX_DrawIsSlid, SPL, List.drop_succ_cons, List.length_append, List.length_replicate, List.length_cons, okL_app, okL_rep, sv_ren, sv_ok, renL_net, okL_net]⟩
  · simp only [CX_DrawIsSlid, SPV, ↓VC2, ZP, VP, TT, Nat.reduceEqDiff, reduceCtorEq, Nat.reduceAdd, Nat.reduceSub, Nat.reduceLT, Nat.reduceMul, Nat.reducePow, Nat.reduceLeDiff, Int.reduceToNat, Int.reduceLE, Int.reduceLT, Int.reducePow, hd, hs, ho, ↓net_all hb hA]
    exact ⟨_, _, [0], ⟨(⟨z, b, A, k, n⟩, d, s, o), ⟨⟨hb, hA⟩, hd, hs, ho⟩, rfl, rfl⟩, by simp [-List.reduceReplicate, LES, ysR, DN.cells, renL_net, okL_net]⟩
theorem ys_four (hc : l.length ≤ c) (hm : l.length ≤ 4096) {z k n : Int} {b A d s : List UInt8} {q : Nat × Nat} (hb : b.length = 256) (hA : A.length = 16) (hd : d.length = 8) (hs : s.length = 16) (e : Net) (he : netC z b A k n = e.cells) : kFrom cx_DrawIsSlid Tryz.f24 [4, 5] 4 (fun v hp => ∃ v' hp' σ, Ret [⟨false, bs l⟩] ysG ysR v' hp' ∧ LeS 1 σ [v] hp [v'] hp') (ysS l c) (ysH l c z k n b A d s q) := by
  simp only [kFrom, kFromK, kAt, Go.Vc.mark, lawPost, List.contains_cons, List.contains_nil, Nat.reduceBEq, Bool.or_false, Bool.false_or, Bool.true_or, Bool.or_true, Bool.false_eq_true, if_true, if_false, Nat.reduceAdd, Nat.reduceEqDiff, reduceCtorEq, Tryz.f24]
  simp only [CX_DrawIsSlid, SPV, lawPost, ↓VC2, ZP, VP, TT, Nat.reduceEqDiff, reduceCtorEq, Nat.reduceAdd, Nat.reduceSub, Nat.reduceLT, Nat.reduceMul, Nat.reducePow, Nat.reduceLeDiff, Int.reduceToNat, Int.reduceLE, Int.reduceLT, Int.reducePow, ysS, ysH]
  refine kCut_of (fun o : List UInt8 => ((@HAppend.hAppend (List V) (List V) (List V) _ (List.replicate 2 V.j) ((.p 1 0) :: ((.p 2 0) :: ((.p 3 0) :: ((.p 4 0) :: (List.replicate 31 .j)))))), [⟨false, bs l⟩, ⟨true, netC z b A k n⟩, ⟨true, bs d⟩, ⟨true, bs s⟩, ⟨true, bs o⟩])) (fun o => o.length = 16) ?_ (fun o ho => ?_)
  · simp (config := { maxSteps := 4000000 }) only [CX_DrawIsSlid, SPV, ↓VC2, ZP, VP, TT, Nat.reduceEqDiff, reduceCtorEq, Nat.reduceAdd, Nat.reduceSub, Nat.reduceLT, Nat.reduceMul, Nat.reducePow, Nat.reduceLeDiff, Int.reduceToNat, Int.reduceLE, Int.reduceLT, Int.reducePow, hd, hs, netC_len hb hA, ↓net_put_all z256 z16 hb hA, ↓net_all hb hA, and_self]
    repeat' apply And.intro
    all_goals as_aux_lemma =>
      have hr := rnd_len (c := e) d s hs
      have hN := k_spec_rnd e d s hd hs
      rw [← he] at hN
      refine kCall_val (hN) (by rfl) [] (by simp [CALL, SCB, SD, nsv, instL_net, okL_net]) (by simp [CALL, SCB, SD, nsv, instL_net, okL_net]) (by simp [CALL, SCB, SD, nsv, instL_net, okL_net]) (by simp [okL_bs, okL_room, okL, okV, SD, nsv, instL_net, okL_net]) ?_
      simp (config := { maxSteps := 2000000 }) only [CALL, ↓VC2, ZP, VP, TT, Nat.reduceEqDiff, reduceCtorEq, Nat.reduceAdd, Nat.reduceSub, Nat.reduceLT, Nat.reduceMul, Nat.reducePow, Nat.reduceLeDiff, Int.reduceToNat, Int.reduceLE, Int.reduceLT, Int.reducePow, GOB, CX_DrawIsSlid, lawPost, SPV, GD, cipC_len z256 z16 z16, instL_net, net_zero, netC_len z256 z16, hd, hs, hr, netC_len hb hA, ↓net_put_all z256 z16 hb hA, ↓net_all hb hA]
      repeat' apply And.intro
      all_goals exact ⟨_, by assumption, [0, 1, 2, 3, 4], by simp [-List.reduceReplicate, LES, CX_DrawIsSlid, SPL, List.drop_succ_cons, List.length_append, List.length_replicate, List.length_cons, okL_app, okL_rep, sv_ren, sv_ok, renL_net, okL_net]⟩
  · simp only [CX_DrawIsSlid, SPV, ↓VC2, ZP, VP, TT, Nat.reduceEqDiff, reduceCtorEq, Nat.reduceAdd, Nat.reduceSub, Nat.reduceLT, Nat.reduceMul, Nat.reducePow, Nat.reduceLeDiff, Int.reduceToNat, Int.reduceLE, Int.reduceLT, Int.reducePow, hd, hs, ho, ↓net_all hb hA]
    exact ⟨_, _, [0], ⟨(⟨z, b, A, k, n⟩, d, s, o), ⟨⟨hb, hA⟩, hd, hs, ho⟩, rfl, rfl⟩, by simp [-List.reduceReplicate, LES, ysR, DN.cells, renL_net, okL_net]⟩
theorem d_Slid (hc : l.length ≤ c) (hm : l.length ≤ 4096) : LC Tryz.prog 24 [.s 0 0 l.length c] [⟨false, bs l⟩] (Ret [⟨false, bs l⟩] (fun x : DN × List UInt8 × List UInt8 × List UInt8 => x.1.ok ∧ x.2.1.length = 8 ∧ x.2.2.1.length = 16 ∧ x.2.2.2.length = 16) fun x => (.t [.a x.1.cells, .a (bs x.2.1), .a (bs x.2.2.1), .a (bs x.2.2.2)], [])) := by
  refine LC_ofM (X := cx_DrawIsSlid) [4, 5] envOK Tryz.func24 (by kernel_rfl) (ord_two (by kernel_rfl)) rfl (Nat.le_of_ble_eq_true (by kernel_rfl)) ?_
  simp only [kFunM, Go.Vc.mark, List.contains_cons, List.contains_nil, Nat.reduceBEq, Bool.or_false, Bool.false_or, Bool.true_or, Bool.or_true, Bool.false_eq_true, if_true, if_false, Nat.reduceAdd, Nat.reduceEqDiff, Tryz.f24, List.length_nil, List.length_cons, Nat.sub_zero, Nat.reduceSub, List.nil_append, List.cons_append]
  simp only [CX_DrawIsSlid, SPV, ↓VC2, ZP, VP, TT, Nat.reduceEqDiff, reduceCtorEq, Nat.reduceAdd, Nat.reduceSub, Nat.reduceLT, Nat.reduceMul, Nat.reducePow, Nat.reduceLeDiff, Int.reduceToNat, Int.reduceLE, Int.reduceLT, Int.reducePow, net_zero, netC_len z256 z16]
  refine kCall_Ret (d_from hc hm) (by rfl) [(0, 0)] (by simp [CALL, SCB, SD, nsv, instL_net, okL_net]) (by simp [CALL, SCB, SD, nsv, instL_net, okL_net]) (by simp [CALL, SCB, SD, nsv, instL_net, okL_net]) (by simp [okL_bs, okL_room, okL, okV, SD, nsv, instL_net, okL_net]) (by simp [CALL, SCB, SD, nsv, instL_net, okL_net]) fun q hq => ?_
  simp (config := { maxSteps := 2000000 }) only [CALL, ↓VC2, ZP, VP, TT, Nat.reduceEqDiff, reduceCtorEq, Nat.reduceAdd, Nat.reduceSub, Nat.reduceLT, Nat.reduceMul, Nat.reducePow, Nat.reduceLeDiff, Int.reduceToNat, Int.reduceLE, Int.reduceLT, Int.reducePow, GOB, CX_DrawIsSlid, lawPost, SPV, GD, cipC_len z256 z16 z16, instL_net, net_zero, netC_len z256 z16]
  refine kCall_M (d_netS hc hm hq) (by rfl) [(5, 0), (0, 0)] (by simp [CALL, SCB, SD, nsv, instL_net, okL_net]) (by simp [CALL, SCB, SD, nsv, instL_net, okL_net]) (by simp) (by simp [CALL, SCB, SD, nsv, instL_net, okL_net]) (by simp [okL_bs, okL_room, okL, okV, SD, nsv, instL_net, okL_net]) (by intro x _; simp [keepR, bs_length, SD, nsv, instL_net, okL_net]) (by simp [CALL, SCB, SD, nsv, instL_net, okL_net]) fun x1 h1 => ?_
  obtain ⟨q1, ⟨z, b, A, k, n⟩⟩ := x1
  obtain ⟨hq1, hb, hA⟩ := h1
  simp only [DN.cells] at hq1 hb hA ⊢
  simp (config := { maxSteps := 2000000 }) only [CALL, ↓VC2, ZP, VP, TT, Nat.reduceEqDiff, reduceCtorEq, Nat.reduceAdd, Nat.reduceSub, Nat.reduceLT, Nat.reduceMul, Nat.reducePow, Nat.reduceLeDiff, Int.reduceToNat, Int.reduceLE, Int.reduceLT, Int.reducePow, GOB, CX_DrawIsSlid, lawPost, SPV, GD, cipC_len z256 z16 z16, instL_net, net_zero, netC_len z256 z16, netC_len hb hA]
  refine kCall_M (d_half hc hm hq1) (by rfl) [(5, 0), (0, 0)] (by simp [CALL, SCB, SD, nsv, instL_net, okL_net]) (by simp [CALL, SCB, SD, nsv, instL_net, okL_net]) (by simp) (by simp [CALL, SCB, SD, nsv, instL_net, okL_net]) (by simp [okL_bs, okL_room, okL, okV, SD, nsv, instL_net, okL_net]) (by intro x _; simp [keepR, bs_length, SD, nsv, instL_net, okL_net]) (by simp [CALL, SCB, SD, nsv, instL_net, okL_net]) fun x2 h2 => ?_
  obtain ⟨q2, d⟩ := x2
  obtain ⟨hq2, hd⟩ := h2
  simp only at hq2 hd ⊢
  simp (config := { maxSteps := 2000000 }) only [CALL, ↓VC2, ZP, VP, TT, Nat.reduceEqDiff, reduceCtorEq, Nat.reduceAdd, Nat.reduceSub, Nat.reduceLT, Nat.reduceMul, Nat.reducePow, Nat.reduceLeDiff, Int.reduceToNat, Int.reduceLE, Int.reduceLT, Int.reducePow, GOB, CX_DrawIsSlid, lawPost, SPV, GD, cipC_len z256 z16 z16, instL_net, net_zero, netC_len z256 z16, hd]
  refine kCall_M (z_block hc hm hq2) (by rfl) [(5, 0), (0, 0)] (by simp [CALL, SCB, SD, nsv, instL_net, okL_net]) (by simp [CALL, SCB, SD, nsv, instL_net, okL_net]) (by simp) (by simp [CALL, SCB, SD, nsv, instL_net, okL_net]) (by simp [okL_bs, okL_room, okL, okV, SD, nsv, instL_net, okL_net]) (by intro x _; simp [keepR, bs_length, SD, nsv, instL_net, okL_net]) (by simp [CALL, SCB, SD, nsv, instL_net, okL_net]) fun x3 h3 => ?_
  obtain ⟨q3, s⟩ := x3
  obtain ⟨hq3, hs⟩ := h3
  simp only at hq3 hs ⊢
  simp (config := { maxSteps := 2000000 }) only [CALL, ↓VC2, ZP, VP, TT, Nat.reduceEqDiff, reduceCtorEq, Nat.reduceAdd, Nat.reduceSub, Nat.reduceLT, Nat.reduceMul, Nat.reducePow, Nat.reduceLeDiff, Int.reduceToNat, Int.reduceLE, Int.reduceLT, Int.reducePow, GOB, CX_DrawIsSlid, lawPost, SPV, GD, cipC_len z256 z16 z16, instL_net, net_zero, netC_len z256 z16, hd, hs, netC_len hb hA, ↓net_put_all z256 z16 hb hA, ↓net_all hb hA]
  refine kCall_val (c_spec_l06Is z k n b A hb hA) (by rfl) [] (by simp [CALL, SCB, SD, nsv, instL_net, okL_net]) (by simp [CALL, SCB, SD, nsv, instL_net, okL_net]) (by simp [CALL, SCB, SD, nsv, instL_net, okL_net]) (by simp [okL_bs, okL_room, okL, okV, SD, nsv, instL_net, okL_net]) ?_
  simp (config := { maxSteps := 2000000 }) only [CALL, ↓VC2, ZP, VP, TT, Nat.reduceEqDiff, reduceCtorEq, Nat.reduceAdd, Nat.reduceSub, Nat.reduceLT, Nat.reduceMul, Nat.reducePow, Nat.reduceLeDiff, Int.reduceToNat, Int.reduceLE, Int.reduceLT, Int.reducePow, GOB, CX_DrawIsSlid, lawPost, SPV, GD, cipC_len z256 z16 z16, instL_net, net_zero, netC_len z256 z16, hd, hs, netC_len hb hA, ↓net_put_all z256 z16 hb hA, ↓net_all hb hA]
  cases hB : netB z b A k n with
  | false =>
    simp (config := { maxSteps := 2000000 }) only [CALL, ↓VC2, ZP, VP, TT, Nat.reduceEqDiff, reduceCtorEq, Nat.reduceAdd, Nat.reduceSub, Nat.reduceLT, Nat.reduceMul, Nat.reducePow, Nat.reduceLeDiff, Int.reduceToNat, Int.reduceLE, Int.reduceLT, Int.reducePow, GOB, CX_DrawIsSlid, lawPost, SPV, GD, cipC_len z256 z16 z16, instL_net, net_zero, netC_len z256 z16]
    exact kMeet (ys_five (z := z) (k := k) (n := n) (q := q3) hc hm hb hA hd hs hq3) (by kernel_rfl) ⟨[0, 1, 2, 3, 4, 5, 6, 7, 8], by simp [-List.reduceReplicate, LES, CX_DrawIsSlid, SPL, List.drop_succ_cons, List.length_append, List.length_replicate, List.length_cons, okL_app, okL_rep, ysS, ysH, sv_ren, sv_ok, renL_net, okL_net]⟩
  | true =>
    simp (config := { maxSteps := 2000000 }) only [CALL, ↓VC2, ZP, VP, TT, Nat.reduceEqDiff, reduceCtorEq, Nat.reduceAdd, Nat.reduceSub, Nat.reduceLT, Nat.reduceMul, Nat.reducePow, Nat.reduceLeDiff, Int.reduceToNat, Int.reduceLE, Int.reduceLT, Int.reducePow, GOB, CX_DrawIsSlid, lawPost, SPV, GD, cipC_len z256 z16 z16, instL_net, net_zero, netC_len z256 z16, hd, hs, netC_len hb hA, ↓net_all hb hA]
    refine kCall_M (d_next hc hm hq3 2) (by rfl) [(5, 0), (0, 0)] (by simp [CALL, SCB, SD, nsv, instL_net, okL_net]) (by simp [CALL, SCB, SD, nsv, instL_net, okL_net]) (by simp) (by simp [CALL, SCB, SD, nsv, instL_net, okL_net]) (by simp [okL_bs, okL_room, okL, okV, SD, nsv, instL_net, okL_net]) (by intro x _; simp [keepR, bs_length, SD, nsv, instL_net, okL_net]) (by simp [CALL, SCB, SD, nsv, instL_net, okL_net]) fun x4 h4 => ?_
    obtain ⟨q4, i4⟩ := x4
    obtain ⟨hq4, _⟩ := h4
    simp only at hq4 ⊢
    simp (config := { maxSteps := 2000000 }) only [CALL, ↓VC2, ZP, VP, TT, Nat.reduceEqDiff, reduceCtorEq, Nat.reduceAdd, Nat.reduceSub, Nat.reduceLT, Nat.reduceMul, Nat.reducePow, Nat.reduceLeDiff, Int.reduceToNat, Int.reduceLE, Int.reduceLT, Int.reducePow, GOB, CX_DrawIsSlid, lawPost, SPV, GD, cipC_len z256 z16 z16, instL_net, net_zero, netC_len z256 z16, hd, hs, netC_len hb hA, ↓net_all hb hA]
    refine zIf (fun _ => ?_) (fun _ => ?_)
    · obtain ⟨e, e1, e2, e3, e4, e5⟩ := net_of hb hA hB
      have he : netC z b A k n = e.cells := by rw [e1, e2, e3, e4, e5]; rfl
      exact kMeet (ys_four (z := z) (k := k) (n := n) (q := q4) hc hm hb hA hd hs e he) (by kernel_rfl) ⟨[0, 1, 2, 3, 4, 5, 6, 7, 8], by simp [-List.reduceReplicate, LES, CX_DrawIsSlid, SPL, List.drop_succ_cons, List.length_append, List.length_replicate, List.length_cons, okL_app, okL_rep, ysS, ysH, sv_ren, sv_ok, renL_net, okL_net]⟩
    · exact kMeet (ys_five (z := z) (k := k) (n := n) (q := q4) hc hm hb hA hd hs hq4) (by kernel_rfl) ⟨[0, 1, 2, 3, 4, 5, 6, 7, 8], by simp [-List.reduceReplicate, LES, CX_DrawIsSlid, SPL, List.drop_succ_cons, List.length_append, List.length_replicate, List.length_cons, okL_app, okL_rep, ysS, ysH, sv_ren, sv_ok, renL_net, okL_net]⟩
end
end Go.Proofs.YtjakgjelnbpmnaaGreat

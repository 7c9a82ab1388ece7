import Derived.Test.YtjakgjelnbpmnaaGreatDrawX
import Derived.Test.YtjakgjelnbpmnaaGreatNetZ
import Derived.Test.YtjakgjelnbpmnaaGreatVcgJ
import Derived.Test.YtjakgjelnbpmnaaGreatVcgZV
/- The draw of blocks that look like two rounds. In sections. -/
set_option linter.unusedSimpArgs false
set_option linter.unusedVariables false
namespace Go.Proofs.YtjakgjelnbpmnaaGreat
open Go Go.Vc
set_option maxRecDepth 10000
set_option maxHeartbeats 40000000
noncomputable def cx_DrawLooksLikeTwo : Cx := XX (fun | 5 => .cut (.one 1 (.alt (.one 0 (.alt (.one 2 (.one 4 (.one 3 (.one 5 (.one 6 (.one 7 .nil)))))) (.one 4 (.one 2 (.one 3 (.one 5 (.one 6 (.one 7 .nil)))))))) (.alt (.one 2 (.one 0 (.one 4 (.one 3 (.one 5 (.one 6 (.one 7 .nil))))))) (.one 4 (.alt (.one 0 (.one 2 (.one 3 (.one 5 (.one 6 (.one 7 .nil)))))) (.one 2 (.one 0 (.one 3 (.one 5 (.one 6 (.one 7 .nil))))))))))) | 8 => .cut (.one 0 (.one 2 (.one 3 (.one 4 (.one 5 (.one 6 (.one 9 (.one 10 (.one 11 (.one 12 (.one 13 (.alt (.one 1 (.one 7 (.one 8 (.one 14 (.one 15 (.one 16 (.one 17 (.one 18 (.one 19 .nil))))))))) (.one 7 (.alt (.one 1 (.one 8 (.one 14 (.one 15 (.one 16 (.one 17 (.one 18 (.one 19 .nil)))))))) (.one 8 (.alt (.one 1 (.one 14 (.one 15 (.one 16 (.one 17 (.one 18 (.one 19 .nil))))))) (.one 14 (.alt (.one 1 (.one 15 (.one 16 (.one 17 (.one 18 (.one 19 .nil)))))) (.one 15 (.alt (.one 1 (.one 16 (.one 17 (.one 18 (.one 19 .nil))))) (.one 16 (.one 1 (.one 17 (.one 18 (.one 19 .nil))))))))))))))))))))))))) | 1000006 => .cut .nil | 1000008 => .cut .nil | _ => .nil) (fun | 5 => [(6, 13)] | _ => []) [33, 34, 35, 36, 39, 45, 53, 54, 65, 75, 90, 91, 92, 104] 1
theorem cx_DrawLooksLikeTwo_E : cx_DrawLooksLikeTwo.E = E := rfl
theorem cx_DrawLooksLikeTwo_P : cx_DrawLooksLikeTwo.P = Tryz.prog := rfl
theorem cx_DrawLooksLikeTwo_mu : cx_DrawLooksLikeTwo.mu = [33, 34, 35, 36, 39, 45, 53, 54, 65, 75, 90, 91, 92, 104] := rfl
theorem cx_DrawLooksLikeTwo_m : cx_DrawLooksLikeTwo.m = 1 := rfl
theorem cx_DrawLooksLikeTwo_ord5 : cx_DrawLooksLikeTwo.ord 5 = .cut (.one 1 (.alt (.one 0 (.alt (.one 2 (.one 4 (.one 3 (.one 5 (.one 6 (.one 7 .nil)))))) (.one 4 (.one 2 (.one 3 (.one 5 (.one 6 (.one 7 .nil)))))))) (.alt (.one 2 (.one 0 (.one 4 (.one 3 (.one 5 (.one 6 (.one 7 .nil))))))) (.one 4 (.alt (.one 0 (.one 2 (.one 3 (.one 5 (.one 6 (.one 7 .nil)))))) (.one 2 (.one 0 (.one 3 (.one 5 (.one 6 (.one 7 .nil))))))))))) := rfl
theorem cx_DrawLooksLikeTwo_ord8 : cx_DrawLooksLikeTwo.ord 8 = .cut (.one 0 (.one 2 (.one 3 (.one 4 (.one 5 (.one 6 (.one 9 (.one 10 (.one 11 (.one 12 (.one 13 (.alt (.one 1 (.one 7 (.one 8 (.one 14 (.one 15 (.one 16 (.one 17 (.one 18 (.one 19 .nil))))))))) (.one 7 (.alt (.one 1 (.one 8 (.one 14 (.one 15 (.one 16 (.one 17 (.one 18 (.one 19 .nil)))))))) (.one 8 (.alt (.one 1 (.one 14 (.one 15 (.one 16 (.one 17 (.one 18 (.one 19 .nil))))))) (.one 14 (.alt (.one 1 (.one 15 (.one 16 (.one 17 (.one 18 (.one 19 .nil)))))) (.one 15 (.alt (.one 1 (.one 16 (.one 17 (.one 18 (.one 19 .nil))))) (.one 16 (.one 1 (.one 17 (.one 18 (.one 19 .nil))))))))))))))))))))))))) := rfl
theorem cx_DrawLooksLikeTwo_ord1000006 : cx_DrawLooksLikeTwo.ord 1000006 = .cut .nil := rfl
theorem cx_DrawLooksLikeTwo_ord1000008 : cx_DrawLooksLikeTwo.ord 1000008 = .cut .nil := rfl
theorem cx_DrawLooksLikeTwo_flt5 : cx_DrawLooksLikeTwo.flt 5 = [(6, 13)] := rfl
theorem cx_DrawLooksLikeTwo_flt8 : cx_DrawLooksLikeTwo.flt 8 = [] := rfl
theorem cx_DrawLooksLikeTwo_flt1000006 : cx_DrawLooksLikeTwo.flt 1000006 = [] := rfl
theorem cx_DrawLooksLikeTwo_flt1000008 : cx_DrawLooksLikeTwo.flt 1000008 = [] := rfl
theorem CX_DrawLooksLikeTwo : type_of% (
  And.intro @cx_DrawLooksLikeTwo_E <|
  And.intro @cx_DrawLooksLikeTwo_P <|
  And.intro @cx_DrawLooksLikeTwo_mu <|
  And.intro @cx_DrawLooksLikeTwo_m <|
  And.intro @cx_DrawLooksLikeTwo_ord5 <|
  And.intro @cx_DrawLooksLikeTwo_ord8 <|
  And.intro @cx_DrawLooksLikeTwo_ord1000006 <|
  And.intro @cx_DrawLooksLikeTwo_ord1000008 <|
  And.intro @cx_DrawLooksLikeTwo_flt5 <|
  And.intro @cx_DrawLooksLikeTwo_flt8 <|
  And.intro @cx_DrawLooksLikeTwo_flt1000006 <|
  @cx_DrawLooksLikeTwo_flt1000008) :=
  And.intro @cx_DrawLooksLikeTwo_E <|
  And.intro @cx_DrawLooksLikeTwo_P <|
  And.intro @cx_DrawLooksLikeTwo_mu <|
  And.intro @cx_DrawLooksLikeTwo_m <|
  And.intro @cx_DrawLooksLikeTwo_ord5 <|
  And.intro @cx_DrawLooksLikeTwo_ord8 <|
  And.intro @cx_DrawLooksLikeTwo_ord1000006 <|
  And.intro @cx_DrawLooksLikeTwo_ord1000008 <|
  And.intro @cx_DrawLooksLikeTwo_flt5 <|
  And.intro @cx_DrawLooksLikeTwo_flt8 <|
  And.intro @cx_DrawLooksLikeTwo_flt1000006 <|
  @cx_DrawLooksLikeTwo_flt1000008
section
variable {l : List UInt8} {c : Nat} {q : Nat × Nat}
def lkG (x : List UInt8 × List UInt8 × List UInt8 × List UInt8) : Prop := x.1.length = 16 ∧ x.2.1.length = 16 ∧ x.2.2.1.length = 16 ∧ x.2.2.2.length = 16
def lkR (x : List UInt8 × List UInt8 × List UInt8 × List UInt8) : V × List Blk := (.t [.a (bs x.1), .a (bs x.2.1), .a (bs x.2.2.1), .a (bs x.2.2.2)], [])
abbrev lkS (l : List UInt8) (c : Nat) : List V := ((.s 0 0 l.length c) :: (@HAppend.hAppend (List V) (List V) (List V) _ (List.replicate 1 V.j) ((.p 1 0) :: ((.p 2 0) :: ((.p 3 0) :: ((.p 4 0) :: (@HAppend.hAppend (List V) (List V) (List V) _ (List.replicate 1 V.j) ((.p 5 0) :: ((.p 6 0) :: ((.p 7 0) :: ((.p 8 0) :: (@HAppend.hAppend (List V) (List V) (List V) _ (List.replicate 2 V.j) ((.p 9 0) :: (List.replicate 41 .j))))))))))))))
abbrev lkH (l : List UInt8) (z kd n : Int) (bx A a key oth b : List UInt8) : List Blk := [⟨false, bs l⟩, ⟨true, bs (List.replicate 16 0)⟩, ⟨true, bs (List.replicate 16 0)⟩, ⟨true, bs (List.replicate 16 0)⟩, ⟨true, bs (List.replicate 16 0)⟩, ⟨true, netC z bx A kd n⟩, ⟨true, bs a⟩, ⟨true, bs key⟩, ⟨true, bs oth⟩, ⟨true, bs b⟩]
theorem lk_eight {z kd n : Int} {bx A a key oth b : List UInt8} (hbx : bx.length = 256) (hA : A.length = 16) (hz : fieldR z) (ha : a.length = 16) (hk : key.length = 8) (ho : oth.length = 8) (hb : b.length = 16) : kFrom cx_DrawLooksLikeTwo Tryz.f11 [6, 8] 8 (fun v hp => ∃ v' hp' σ, Ret [⟨false, bs l⟩] lkG lkR v' hp' ∧ LeS 1 σ [v] hp [v'] hp') (lkS l c) (lkH l z kd n bx A a key oth b) := by
  simp only [kFrom, kFromK, kAt, Go.Vc.mark, lawPost, List.contains_cons, List.contains_nil, Nat.reduceBEq, Bool.or_false, Bool.false_or, Bool.true_or, Bool.or_true, Bool.false_eq_true, if_true, if_false, Nat.reduceAdd, Nat.reduceEqDiff, reduceCtorEq, Tryz.f11]
  simp only [CX_DrawLooksLikeTwo, SPV, lawPost, ↓VC2, ZP, VP, TT, Nat.reduceEqDiff, reduceCtorEq, Nat.reduceAdd, Nat.reduceSub, Nat.reduceLT, Nat.reduceMul, Nat.reducePow, Nat.reduceLeDiff, Int.reduceToNat, Int.reduceLE, Int.reduceLT, Int.reducePow, lkS, lkH]
  obtain ⟨R, hR⟩ : ∃ R : NetR, R.cells = netC z bx A kd n := ⟨⟨z.toNat, bx, A, kd, n, by unfold fieldR at hz; omega, by unfold fieldR at hz; omega, hbx, hA⟩, by unfold NetR.cells; simp only; rw [show ((z.toNat : Nat) : Int) = z by unfold fieldR at hz; omega]⟩
  have e1 := rrnd_len (c := R) key a ha
  have e2 := rrnd_len (c := R) oth (R.rnd key a) e1
  have e3 := rrnd_len (c := R) key b hb
  have e4 := rrnd_len (c := R) oth (R.rnd key b) e3
  have N1 := r_spec_rnd R key a hk ha
  have N2 := r_spec_rnd R oth (R.rnd key a) ho e1
  have N3 := r_spec_rnd R key b hk hb
  have N4 := r_spec_rnd R oth (R.rnd key b) ho e3
  rw [hR] at N1 N2 N3 N4
  generalize R.rnd oth (R.rnd key a) = w2 at *
  generalize R.rnd oth (R.rnd key b) = w4 at *
  generalize R.rnd key a = w1 at *
  generalize R.rnd key b = w3 at *
  refine kCut_of (fun _ : Unit => ((@HAppend.hAppend (List V) (List V) (List V) _ (List.replicate 2 V.j) ((.p 1 0) :: ((.p 2 0) :: ((.p 3 0) :: ((.p 4 0) :: (List.replicate 49 .j)))))), [⟨false, bs l⟩, ⟨true, bs a⟩, ⟨true, bs b⟩, ⟨true, bs w2⟩, ⟨true, bs w4⟩])) (fun _ => True) ?_ (fun _ _ => ?_)
  · simp (config := { maxSteps := 4000000 }) only [CX_DrawLooksLikeTwo, SPV, ↓VC2, ZP, VP, TT, Nat.reduceEqDiff, reduceCtorEq, Nat.reduceAdd, Nat.reduceSub, Nat.reduceLT, Nat.reduceMul, Nat.reducePow, Nat.reduceLeDiff, Int.reduceToNat, Int.reduceLE, Int.reduceLT, Int.reducePow, ha, hb, hk, ho, netC_len hbx hA, ↓net_all hbx hA, and_self]
    repeat' apply And.intro
    all_goals as_aux_lemma =>
      refine kCall_val (N1) (by rfl) [] (by simp [CALL, SCB, SD, nsv, instL_net, okL_net]) (by simp [CALL, SCB, SD, nsv, instL_net, okL_net]) (by simp [CALL, SCB, SD, nsv, instL_net, okL_net]) (by simp [okL_bs, okL_room, okL, okV, SD, nsv, instL_net, okL_net]) ?_
      simp (config := { maxSteps := 2000000 }) only [CALL, ↓VC2, ZP, VP, TT, Nat.reduceEqDiff, reduceCtorEq, Nat.reduceAdd, Nat.reduceSub, Nat.reduceLT, Nat.reduceMul, Nat.reducePow, Nat.reduceLeDiff, Int.reduceToNat, Int.reduceLE, Int.reduceLT, Int.reducePow, GOB, CX_DrawLooksLikeTwo, lawPost, SPV, GD, cipC_len z256 z16 z16, instL_net, net_zero, netC_len z256 z16, ha, hb, hk, ho, e1, e2, e3, e4, netC_len hbx hA, ↓net_all hbx hA, and_self]
      repeat' apply And.intro
      all_goals
        refine kCall_val (N2) (by rfl) [] (by simp [CALL, SCB, SD, nsv, instL_net, okL_net]) (by simp [CALL, SCB, SD, nsv, instL_net, okL_net]) (by simp [CALL, SCB, SD, nsv, instL_net, okL_net]) (by simp [okL_bs, okL_room, okL, okV, SD, nsv, instL_net, okL_net]) ?_
        simp (config := { maxSteps := 2000000 }) only [CALL, ↓VC2, ZP, VP, TT, Nat.reduceEqDiff, reduceCtorEq, Nat.reduceAdd, Nat.reduceSub, Nat.reduceLT, Nat.reduceMul, Nat.reducePow, Nat.reduceLeDiff, Int.reduceToNat, Int.reduceLE, Int.reduceLT, Int.reducePow, GOB, CX_DrawLooksLikeTwo, lawPost, SPV, GD, cipC_len z256 z16 z16, instL_net, net_zero, netC_len z256 z16, ha, hb, hk, ho, e1, e2, e3, e4, netC_len hbx hA, ↓net_all hbx hA, and_self]
        repeat' apply And.intro
        all_goals
          refine kCall_val (N3) (by rfl) [] (by simp [CALL, SCB, SD, nsv, instL_net, okL_net]) (by simp [CALL, SCB, SD, nsv, instL_net, okL_net]) (by simp [CALL, SCB, SD, nsv, instL_net, okL_net]) (by simp [okL_bs, okL_room, okL, okV, SD, nsv, instL_net, okL_net]) ?_
          simp (config := { maxSteps := 2000000 }) only [CALL, ↓VC2, ZP, VP, TT, Nat.reduceEqDiff, reduceCtorEq, Nat.reduceAdd, Nat.reduceSub, Nat.reduceLT, Nat.reduceMul, Nat.reducePow, Nat.reduceLeDiff, Int.reduceToNat, Int.reduceLE, Int.reduceLT, Int.reducePow, GOB, CX_DrawLooksLikeTwo, lawPost, SPV, GD, cipC_len z256 z16 z16, instL_net, net_zero, netC_len z256 z16, ha, hb, hk, ho, e1, e2, e3, e4, netC_len hbx hA, ↓net_all hbx hA, and_self]
          repeat' apply And.intro
          all_goals
            refine kCall_val (N4) (by rfl) [] (by simp [CALL, SCB, SD, nsv, instL_net, okL_net]) (by simp [CALL, SCB, SD, nsv, instL_net, okL_net]) (by simp [CALL, SCB, SD, nsv, instL_net, okL_net]) (by simp [okL_bs, okL_room, okL, okV, SD, nsv, instL_net, okL_net]) ?_
            simp (config := { maxSteps := 2000000 }) only [CALL, ↓VC2, ZP, VP, TT, Nat.reduceEqDiff, reduceCtorEq, Nat.reduceAdd, Nat.reduceSub, Nat.reduceLT, Nat.reduceMul, Nat.reducePow, Nat.reduceLeDiff, Int.reduceToNat, Int.reduceLE, Int.reduceLT, Int.reducePow, GOB, CX_DrawLooksLikeTwo, lawPost, SPV, GD, cipC_len z256 z16 z16, instL_net, net_zero, netC_len z256 z16, ha, hb, hk, ho, e1, e2, e3, e4, netC_len hbx hA, ↓net_all hbx hA, and_self]
            repeat' apply And.intro
            all_goals exact ⟨(), [0, 1, 2, 3, 4], by simp [-List.reduceReplicate, LES, CX_DrawLooksLikeTwo, SPL, List.drop_succ_cons, List.length_append, List.length_replicate, List.length_cons, okL_app, okL_rep, sv_ren, sv_ok, renL_net, okL_net]⟩
  · simp only [CX_DrawLooksLikeTwo, SPV, ↓VC2, ZP, VP, TT, Nat.reduceEqDiff, reduceCtorEq, Nat.reduceAdd, Nat.reduceSub, Nat.reduceLT, Nat.reduceMul, Nat.reducePow, Nat.reduceLeDiff, Int.reduceToNat, Int.reduceLE, Int.reduceLT, Int.reducePow, ha, hb, e2, e4]
    exact ⟨_, _, [0], ⟨(a, b, w2, w4), ⟨ha, hb, e2, e4⟩, rfl, rfl⟩, by simp [-List.reduceReplicate, LES, lkR]⟩
abbrev lkT (l : List UInt8) (c : Nat) : List V := ((.s 0 0 l.length c) :: (@HAppend.hAppend (List V) (List V) (List V) _ (List.replicate 1 V.j) ((.p 1 0) :: ((.p 2 0) :: ((.p 3 0) :: ((.p 4 0) :: ((.p 5 0) :: ((.p 6 0) :: ((.p 7 0) :: ((.p 8 0) :: ((.p 9 0) :: (@HAppend.hAppend (List V) (List V) (List V) _ (List.replicate 2 V.j) ((.p 10 0) :: (List.replicate 41 .j))))))))))))))
abbrev lkI (l : List UInt8) (c : Nat) (q : Nat × Nat) (z kd n : Int) (bx A a key oth b : List UInt8) : List Blk := [⟨false, bs l⟩, ⟨true, bs (List.replicate 16 0)⟩, ⟨true, bs (List.replicate 16 0)⟩, ⟨true, bs (List.replicate 16 0)⟩, ⟨true, bs (List.replicate 16 0)⟩, ⟨true, sv 0 l.length c q⟩, ⟨true, netC z bx A kd n⟩, ⟨true, bs a⟩, ⟨true, bs key⟩, ⟨true, bs oth⟩, ⟨true, bs b⟩]
theorem lk_six (hc : l.length ≤ c) (hm : l.length ≤ 4096) (hq : okS l q) {z kd n : Int} {bx A a key oth b : List UInt8} (hbx : bx.length = 256) (hA : A.length = 16) (hz : fieldR z) (ha : a.length = 16) (hk : key.length = 8) (ho : oth.length = 8) (hb : b.length = 16) : kFrom cx_DrawLooksLikeTwo Tryz.f11 [6, 8] 6 (fun v hp => ∃ v' hp' σ, Ret [⟨false, bs l⟩] lkG lkR v' hp' ∧ LeS 1 σ [v] hp [v'] hp') (lkT l c) (lkI l c q z kd n bx A a key oth b) := by
  simp only [kFrom, kFromK, kAt, Go.Vc.mark, lawPost, List.contains_cons, List.contains_nil, Nat.reduceBEq, Bool.or_false, Bool.false_or, Bool.true_or, Bool.or_true, Bool.false_eq_true, if_true, if_false, Nat.reduceAdd, Nat.reduceEqDiff, reduceCtorEq, Tryz.f11]
  simp only [CX_DrawLooksLikeTwo, SPV, lawPost, ↓VC2, ZP, VP, TT, Nat.reduceEqDiff, reduceCtorEq, Nat.reduceAdd, Nat.reduceSub, Nat.reduceLT, Nat.reduceMul, Nat.reducePow, Nat.reduceLeDiff, Int.reduceToNat, Int.reduceLE, Int.reduceLT, Int.reducePow, lkT, lkI]
  refine kCall_M (d_next hc hm hq 4) (by rfl) [(5, 0), (0, 0)] (by simp [CALL, SCB, SD, nsv, instL_net, okL_net]) (by simp [CALL, SCB, SD, nsv, instL_net, okL_net]) (by simp) (by simp [CALL, SCB, SD, nsv, instL_net, okL_net]) (by simp [okL_bs, okL_room, okL, okV, SD, nsv, instL_net, okL_net]) (by intro x _; simp [keepR, bs_length, SD, nsv, instL_net, okL_net]) (by simp [CALL, SCB, SD, nsv, instL_net, okL_net]) fun x6 h6 => ?_
  obtain ⟨q6, i6⟩ := x6
  obtain ⟨hq6, _⟩ := h6
  simp only at hq6 ⊢
  simp (config := { maxSteps := 2000000 }) only [CALL, ↓VC2, ZP, VP, TT, Nat.reduceEqDiff, reduceCtorEq, Nat.reduceAdd, Nat.reduceSub, Nat.reduceLT, Nat.reduceMul, Nat.reducePow, Nat.reduceLeDiff, Int.reduceToNat, Int.reduceLE, Int.reduceLT, Int.reducePow, GOB, CX_DrawLooksLikeTwo, lawPost, SPV, GD, cipC_len z256 z16 z16, instL_net, net_zero, netC_len z256 z16, netC_len hbx hA, ↓netw_kind hbx hA]
  refine zIf (fun _ => ?_) (fun _ => ?_)
  · exact kMeet (lk_eight (l := l) (c := c) (z := z) (kd := 0) (n := n) hbx hA hz ha hk ho hb) (by kernel_rfl) ⟨[0, 1, 2, 3, 4, 6, 7, 8, 9, 10], by simp [-List.reduceReplicate, LES, CX_DrawLooksLikeTwo, SPL, List.drop_succ_cons, List.length_append, List.length_replicate, List.length_cons, okL_app, okL_rep, lkS, lkH, renL_net, okL_net]⟩
  · exact kMeet (lk_eight (l := l) (c := c) (z := z) (kd := kd) (n := n) hbx hA hz ha hk ho hb) (by kernel_rfl) ⟨[0, 1, 2, 3, 4, 6, 7, 8, 9, 10], by simp [-List.reduceReplicate, LES, CX_DrawLooksLikeTwo, SPL, List.drop_succ_cons, List.length_append, List.length_replicate, List.length_cons, okL_app, okL_rep, lkS, lkH, renL_net, okL_net]⟩
theorem d_Looks (hc : l.length ≤ c) (hm : l.length ≤ 4096) : LC Tryz.prog 11 [.s 0 0 l.length c] [⟨false, bs l⟩] (Ret [⟨false, bs l⟩] (fun x : List UInt8 × List UInt8 × List UInt8 × List UInt8 => x.1.length = 16 ∧ x.2.1.length = 16 ∧ x.2.2.1.length = 16 ∧ x.2.2.2.length = 16) fun x => (.t [.a (bs x.1), .a (bs x.2.1), .a (bs x.2.2.1), .a (bs x.2.2.2)], [])) := by
  refine LC_ofM (X := cx_DrawLooksLikeTwo) [6, 8] envOK Tryz.func11 (by kernel_rfl) (ord_two (by kernel_rfl)) rfl (Nat.le_of_ble_eq_true (by kernel_rfl)) ?_
  simp only [kFunM, Go.Vc.mark, List.contains_cons, List.contains_nil, Nat.reduceBEq, Bool.or_false, Bool.false_or, Bool.true_or, Bool.or_true, Bool.false_eq_true, if_true, if_false, Nat.reduceAdd, Nat.reduceEqDiff, Tryz.f11, List.length_nil, List.length_cons, Nat.sub_zero, Nat.reduceSub, List.nil_append, List.cons_append]
  simp only [CX_DrawLooksLikeTwo, SPV, ↓VC2, ZP, VP, TT, Nat.reduceEqDiff, reduceCtorEq, Nat.reduceAdd, Nat.reduceSub, Nat.reduceLT, Nat.reduceMul, Nat.reducePow, Nat.reduceLeDiff, Int.reduceToNat, Int.reduceLE, Int.reduceLT, Int.reducePow, net_zero, netC_len z256 z16]
  refine kCall_Ret (d_from hc hm) (by rfl) [(0, 0)] (by simp [CALL, SCB, SD, nsv, instL_net, okL_net]) (by simp [CALL, SCB, SD, nsv, instL_net, okL_net]) (by simp [CALL, SCB, SD, nsv, instL_net, okL_net]) (by simp [okL_bs, okL_room, okL, okV, SD, nsv, instL_net, okL_net]) (by simp [CALL, SCB, SD, nsv, instL_net, okL_net]) fun q hq => ?_
  simp (config := { maxSteps := 2000000 }) only [CALL, ↓VC2, ZP, VP, TT, Nat.reduceEqDiff, reduceCtorEq, Nat.reduceAdd, Nat.reduceSub, Nat.reduceLT, Nat.reduceMul, Nat.reducePow, Nat.reduceLeDiff, Int.reduceToNat, Int.reduceLE, Int.reduceLT, Int.reducePow, GOB, CX_DrawLooksLikeTwo, lawPost, SPV, GD, cipC_len z256 z16 z16, instL_net, net_zero, netC_len z256 z16]
  refine kCall_M (d_netF hc hm hq) (by rfl) [(5, 0), (0, 0)] (by simp [CALL, SCB, SD, nsv, instL_net, okL_net]) (by simp [CALL, SCB, SD, nsv, instL_net, okL_net]) (by simp) (by simp [CALL, SCB, SD, nsv, instL_net, okL_net]) (by simp [okL_bs, okL_room, okL, okV, SD, nsv, instL_net, okL_net]) (by intro x _; simp [keepR, bs_length, SD, nsv, instL_net, okL_net]) (by simp [CALL, SCB, SD, nsv, instL_net, okL_net]) fun x1 h1 => ?_
  obtain ⟨q1, ⟨z, bx, A, kd, n⟩⟩ := x1
  obtain ⟨hq1, ⟨hbx, hA⟩, hz⟩ := h1
  simp only [DN.cells] at hq1 hbx hA hz ⊢
  simp (config := { maxSteps := 2000000 }) only [CALL, ↓VC2, ZP, VP, TT, Nat.reduceEqDiff, reduceCtorEq, Nat.reduceAdd, Nat.reduceSub, Nat.reduceLT, Nat.reduceMul, Nat.reducePow, Nat.reduceLeDiff, Int.reduceToNat, Int.reduceLE, Int.reduceLT, Int.reducePow, GOB, CX_DrawLooksLikeTwo, lawPost, SPV, GD, cipC_len z256 z16 z16, instL_net, net_zero, netC_len z256 z16, netC_len hbx hA, ↓net_put_all z256 z16 hbx hA, ↓net_all hbx hA]
  refine kCall_M (z_block hc hm hq1) (by rfl) [(5, 0), (0, 0)] (by simp [CALL, SCB, SD, nsv, instL_net, okL_net]) (by simp [CALL, SCB, SD, nsv, instL_net, okL_net]) (by simp) (by simp [CALL, SCB, SD, nsv, instL_net, okL_net]) (by simp [okL_bs, okL_room, okL, okV, SD, nsv, instL_net, okL_net]) (by intro x _; simp [keepR, bs_length, SD, nsv, instL_net, okL_net]) (by simp [CALL, SCB, SD, nsv, instL_net, okL_net]) fun x2 h2 => ?_
  obtain ⟨q2, a⟩ := x2
  obtain ⟨hq2, ha⟩ := h2
  simp only at hq2 ha ⊢
  simp (config := { maxSteps := 2000000 }) only [CALL, ↓VC2, ZP, VP, TT, Nat.reduceEqDiff, reduceCtorEq, Nat.reduceAdd, Nat.reduceSub, Nat.reduceLT, Nat.reduceMul, Nat.reducePow, Nat.reduceLeDiff, Int.reduceToNat, Int.reduceLE, Int.reduceLT, Int.reducePow, GOB, CX_DrawLooksLikeTwo, lawPost, SPV, GD, cipC_len z256 z16 z16, instL_net, net_zero, netC_len z256 z16, ha]
  refine kCall_M (d_half hc hm hq2) (by rfl) [(5, 0), (0, 0)] (by simp [CALL, SCB, SD, nsv, instL_net, okL_net]) (by simp [CALL, SCB, SD, nsv, instL_net, okL_net]) (by simp) (by simp [CALL, SCB, SD, nsv, instL_net, okL_net]) (by simp [okL_bs, okL_room, okL, okV, SD, nsv, instL_net, okL_net]) (by intro x _; simp [keepR, bs_length, SD, nsv, instL_net, okL_net]) (by simp [CALL, SCB, SD, nsv, instL_net, okL_net]) fun x3 h3 => ?_
  obtain ⟨q3, key⟩ := x3
  obtain ⟨hq3, hk⟩ := h3
  simp only at hq3 hk ⊢
  simp (config := { maxSteps := 2000000 }) only [CALL, ↓VC2, ZP, VP, TT, Nat.reduceEqDiff, reduceCtorEq, Nat.reduceAdd, Nat.reduceSub, Nat.reduceLT, Nat.reduceMul, Nat.reducePow, Nat.reduceLeDiff, Int.reduceToNat, Int.reduceLE, Int.reduceLT, Int.reducePow, GOB, CX_DrawLooksLikeTwo, lawPost, SPV, GD, cipC_len z256 z16 z16, instL_net, net_zero, netC_len z256 z16, ha, hk]
  refine kCall_M (d_half hc hm hq3) (by rfl) [(5, 0), (0, 0)] (by simp [CALL, SCB, SD, nsv, instL_net, okL_net]) (by simp [CALL, SCB, SD, nsv, instL_net, okL_net]) (by simp) (by simp [CALL, SCB, SD, nsv, instL_net, okL_net]) (by simp [okL_bs, okL_room, okL, okV, SD, nsv, instL_net, okL_net]) (by intro x _; simp [keepR, bs_length, SD, nsv, instL_net, okL_net]) (by simp [CALL, SCB, SD, nsv, instL_net, okL_net]) fun x4 h4 => ?_
  obtain ⟨q4, oth⟩ := x4
  obtain ⟨hq4, ho⟩ := h4
  simp only at hq4 ho ⊢
  simp (config := { maxSteps := 2000000 }) only [CALL, ↓VC2, ZP, VP, TT, Nat.reduceEqDiff, reduceCtorEq, Nat.reduceAdd, Nat.reduceSub, Nat.reduceLT, Nat.reduceMul, Nat.reducePow, Nat.reduceLeDiff, Int.reduceToNat, Int.reduceLE, Int.reduceLT, Int.reducePow, GOB, CX_DrawLooksLikeTwo, lawPost, SPV, GD, cipC_len z256 z16 z16, instL_net, net_zero, netC_len z256 z16, ha, hk, ho]
  have hl := take8_len ha
  have hr := drop8_len ha
  refine kCall_val (c_spec_l06Halves a ha) (by rfl) [] (by simp [CALL, SCB, SD, nsv, instL_net, okL_net]) (by simp [CALL, SCB, SD, nsv, instL_net, okL_net]) (by simp [CALL, SCB, SD, nsv, instL_net, okL_net]) (by simp [okL_bs, okL_room, okL, okV, SD, nsv, instL_net, okL_net]) ?_
  simp (config := { maxSteps := 2000000 }) only [CALL, ↓VC2, ZP, VP, TT, Nat.reduceEqDiff, reduceCtorEq, Nat.reduceAdd, Nat.reduceSub, Nat.reduceLT, Nat.reduceMul, Nat.reducePow, Nat.reduceLeDiff, Int.reduceToNat, Int.reduceLE, Int.reduceLT, Int.reducePow, GOB, CX_DrawLooksLikeTwo, lawPost, SPV, GD, cipC_len z256 z16 z16, instL_net, net_zero, netC_len z256 z16, ha, hk, ho, hl, hr, netC_len hbx hA, ↓net_all hbx hA]
  refine kCut_of (fun s : (Nat × Nat) × List UInt8 => (lkT l c, lkI l c s.1 z kd n bx A a key oth s.2)) (fun s => okS l s.1 ∧ s.2.length = 16) ?_ (fun s hs => ?_)
  · simp (config := { maxSteps := 4000000 }) only [CX_DrawLooksLikeTwo, SPV, ↓VC2, ZP, VP, TT, Nat.reduceEqDiff, reduceCtorEq, Nat.reduceAdd, Nat.reduceSub, Nat.reduceLT, Nat.reduceMul, Nat.reducePow, Nat.reduceLeDiff, Int.reduceToNat, Int.reduceLE, Int.reduceLT, Int.reducePow, ha, hk, ho, hl, hr, netC_len hbx hA, ↓net_all hbx hA, and_self]
    repeat' apply And.intro
    all_goals as_aux_lemma =>
      refine kCall_M (d_half hc hm hq4) (by rfl) [(5, 0), (0, 0)] (by simp [CALL, SCB, SD, nsv, instL_net, okL_net]) (by simp [CALL, SCB, SD, nsv, instL_net, okL_net]) (by simp) (by simp [CALL, SCB, SD, nsv, instL_net, okL_net]) (by simp [okL_bs, okL_room, okL, okV, SD, nsv, instL_net, okL_net]) (by intro x _; simp [keepR, bs_length, SD, nsv, instL_net, okL_net]) (by simp [CALL, SCB, SD, nsv, instL_net, okL_net]) fun x5 h5 => ?_
      obtain ⟨q5, w⟩ := x5
      obtain ⟨hq5, hw⟩ := h5
      simp only at hq5 hw ⊢
      simp (config := { maxSteps := 2000000 }) only [CALL, ↓VC2, ZP, VP, TT, Nat.reduceEqDiff, reduceCtorEq, Nat.reduceAdd, Nat.reduceSub, Nat.reduceLT, Nat.reduceMul, Nat.reducePow, Nat.reduceLeDiff, Int.reduceToNat, Int.reduceLE, Int.reduceLT, Int.reducePow, GOB, CX_DrawLooksLikeTwo, lawPost, SPV, GD, cipC_len z256 z16 z16, instL_net, net_zero, netC_len z256 z16, ha, hk, ho, hl, hr, hw]
      repeat' apply And.intro
      all_goals
        refine kCall_val (c_spec_l06Xor (a.take 8) w hl hw) (by rfl) [] (by simp [CALL, SCB, SD, nsv, instL_net, okL_net]) (by simp [CALL, SCB, SD, nsv, instL_net, okL_net]) (by simp [CALL, SCB, SD, nsv, instL_net, okL_net]) (by simp [okL_bs, okL_room, okL, okV, SD, nsv, instL_net, okL_net]) ?_
        simp (config := { maxSteps := 2000000 }) only [CALL, ↓VC2, ZP, VP, TT, Nat.reduceEqDiff, reduceCtorEq, Nat.reduceAdd, Nat.reduceSub, Nat.reduceLT, Nat.reduceMul, Nat.reducePow, Nat.reduceLeDiff, Int.reduceToNat, Int.reduceLE, Int.reduceLT, Int.reducePow, GOB, CX_DrawLooksLikeTwo, lawPost, SPV, GD, cipC_len z256 z16 z16, instL_net, net_zero, netC_len z256 z16, ha, hk, ho, hl, hr, hw, xorN_len]
        refine kCall_val (c_spec_l06Join (xorN 8 (a.take 8) w) (a.drop 8) (xorN_len _ _ _) hr) (by rfl) [] (by simp [CALL, SCB, SD, nsv, instL_net, okL_net]) (by simp [CALL, SCB, SD, nsv, instL_net, okL_net]) (by simp [CALL, SCB, SD, nsv, instL_net, okL_net]) (by simp [okL_bs, okL_room, okL, okV, SD, nsv, instL_net, okL_net]) ?_
        simp (config := { maxSteps := 2000000 }) only [CALL, ↓VC2, ZP, VP, TT, Nat.reduceEqDiff, reduceCtorEq, Nat.reduceAdd, Nat.reduceSub, Nat.reduceLT, Nat.reduceMul, Nat.reducePow, Nat.reduceLeDiff, Int.reduceToNat, Int.reduceLE, Int.reduceLT, Int.reducePow, GOB, CX_DrawLooksLikeTwo, lawPost, SPV, GD, cipC_len z256 z16 z16, instL_net, net_zero, netC_len z256 z16, ha, hk, ho, hl, hr, hw, xorN_len, List.length_append]
        exact ⟨(q5, xorN 8 (a.take 8) w ++ a.drop 8), ⟨hq5, by rw [List.length_append, xorN_len, hr]⟩, [0, 1, 2, 3, 4, 5, 6, 7, 8, 9, 12], by simp [-List.reduceReplicate, LES, CX_DrawLooksLikeTwo, SPL, List.drop_succ_cons, List.length_append, List.length_replicate, List.length_cons, okL_app, okL_rep, lkT, lkI, sv_ren, sv_ok, renL_net, okL_net]⟩
  · obtain ⟨q5, b⟩ := s
    obtain ⟨hq5, hb⟩ := hs
    simp only at hq5 hb ⊢
    simp only [CX_DrawLooksLikeTwo, SPV, ↓VC2, ZP, VP, TT, Nat.reduceEqDiff, reduceCtorEq, Nat.reduceAdd, Nat.reduceSub, Nat.reduceLT, Nat.reduceMul, Nat.reducePow, Nat.reduceLeDiff, Int.reduceToNat, Int.reduceLE, Int.reduceLT, Int.reducePow]
    exact kMeet (lk_six (l := l) (c := c) (z := z) (kd := kd) (n := n) hc hm hq5 hbx hA hz ha hk ho hb) (by kernel_rfl) ⟨[0, 1, 2, 3, 4, 5, 6, 7, 8, 9, 10], by simp [-List.reduceReplicate, LES, CX_DrawLooksLikeTwo, SPL, List.drop_succ_cons, List.length_append, List.length_replicate, List.length_cons, okL_app, okL_rep, lkT, lkI, sv_ren, sv_ok, renL_net, okL_net]⟩
end
end Go.Proofs.YtjakgjelnbpmnaaGreat

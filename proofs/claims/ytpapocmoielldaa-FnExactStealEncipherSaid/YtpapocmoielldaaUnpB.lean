import Derived.Test.YtpapocmoielldaaUnp
/- 'UnpadBlocks', both ways: the same data, or none. -/
set_option linter.unusedSimpArgs false
set_option linter.unusedVariables false
namespace Go.Proofs.Ytpapocmoielldaa
open Go Go.Vc
def unpV (o : Option (List UInt8)) (r : Nat) : V × List Blk := match o with
  | some t => (.t [.s 1 0 t.length (t.length + r), .c (.bool true)], [⟨true, bs t ++ List.replicate r .j⟩])
  | none => (.t [.c (.slice none 0 0), .c (.bool false)], [])
set_option maxRecDepth 10000
theorem c_impl_unpadded (l : List UInt8) (c : Nat) (hc : l.length ≤ c) (hm : l.length ≤ 1048576) : LC Try.prog 60 [.s 0 0 l.length c] [⟨false, bs l⟩] (Ret [⟨false, bs l⟩] (fun _ : Nat => True) (unpV (unp l))) := by
  refine LC_of (X := XX (fun _ => .nil) (fun _ => []) [19, 36, 117] 1) envOK Try.func60 (by kernel_rfl) (by kernel_rfl) rfl (Nat.le_of_ble_eq_true (by kernel_rfl)) ?_
  simp only [kFun, Try.f60, List.length_nil, List.length_cons, Nat.sub_zero, Nat.reduceSub, Nat.reduceAdd, List.nil_append, List.cons_append, List.replicate_succ, List.replicate_zero]
  simp only [XX, ↓VC, VP, TT, List.getElem?_toArray, Nat.reduceEqDiff, reduceCtorEq, Nat.reduceAdd, Nat.reduceSub, Nat.reduceLT, Nat.reduceMul, Nat.reducePow, Nat.reduceLeDiff, Int.reduceToNat, Int.reduceLE, Int.reduceLT, Int.reducePow]
  refine kCall_val (c_bytes_LastIndexByte l c 1 hc (by omega)) (by rfl) [(0, 0)] (by simp [CALL]) (by simp [CALL, cellsAt]) (by simp [CALL]) (by simp [okL_bs]) ?_
  simp only [CALL, ↓VC, VP, TT, List.getElem?_toArray, Nat.reduceEqDiff, reduceCtorEq, Nat.reduceAdd, Nat.reduceSub, Nat.reduceLT, Nat.reduceMul, Nat.reducePow, Nat.reduceLeDiff, Int.reduceToNat, Int.reduceLE, Int.reduceLT, Int.reducePow]
  have hr := lastF_range l 1 l.length
  refine kGd_split rfl (fun h => ?_) (fun h => ?_)
  · simp only [decide_eq_true_eq] at h
    simp only [↓VC, VP, TT, List.getElem?_toArray, Nat.reduceEqDiff, reduceCtorEq, Nat.reduceAdd, Nat.reduceSub, Nat.reduceLT, Nat.reduceMul, Nat.reducePow, Nat.reduceLeDiff, Int.reduceToNat, Int.reduceLE, Int.reduceLT, Int.reducePow]
    refine ⟨_, _, [0], ⟨0, trivial, rfl, rfl⟩, ?_⟩
    rw [unp_last_neg h]
    simp [-List.reduceReplicate, LES, unpV]
  · simp only [decide_eq_false_iff_not] at h
    obtain ⟨e, he⟩ : ∃ e : Nat, lastF l 1 l.length = e := ⟨(lastF l 1 l.length).toNat, by omega⟩
    have hlt : (l.take e).length = e := by rw [List.length_take]; omega
    have hu := unp_last he
    simp only [↓VC, VP, TT, List.getElem?_toArray, Nat.reduceEqDiff, reduceCtorEq, Nat.reduceAdd, Nat.reduceSub, Nat.reduceLT, Nat.reduceMul, Nat.reducePow, Nat.reduceLeDiff, Int.reduceToNat, Int.reduceLE, Int.reduceLT, Int.reducePow, he]
    refine ⟨by omega, ?_⟩
    refine kCall_Ret (c_impl_padded (l.take e) c (by omega) (by omega)) (by rfl) [(0, 0)] (by simp [CALL, hlt]) (by simp [CALL, cellsAt, bs_take, bs_length, hlt]) (by simp [CALL]) (by simp [okL_bs]) (by simp) fun r _ => ?_
    simp only [CALL, ↓VC, VP, TT, List.getElem?_toArray, Nat.reduceEqDiff, reduceCtorEq, Nat.reduceAdd, Nat.reduceSub, Nat.reduceLT, Nat.reduceMul, Nat.reducePow, Nat.reduceLeDiff, Int.reduceToNat, Int.reduceLE, Int.reduceLT, Int.reducePow, instL_room]
    refine kCall_val (c_bytes_Equal (padL (l.take e)) l ((padL (l.take e)).length + r) c (by omega) hc) (by rfl) [(1, 0), (0, 0)] (by simp [CALL]) (by simp [CALL, cellsAt, take_room]) (by simp [CALL]) (by simp [okL_bs]) ?_
    simp only [CALL, ↓VC, VP, TT, List.getElem?_toArray, Nat.reduceEqDiff, reduceCtorEq, Nat.reduceAdd, Nat.reduceSub, Nat.reduceLT, Nat.reduceMul, Nat.reducePow, Nat.reduceLeDiff, Int.reduceToNat, Int.reduceLE, Int.reduceLT, Int.reducePow]
    refine kGd_split rfl (fun h1 => ?_) (fun h1 => ?_)
    · simp only [↓VC, VP, TT, List.getElem?_toArray, Nat.reduceEqDiff, reduceCtorEq, Nat.reduceAdd, Nat.reduceSub, Nat.reduceLT, Nat.reduceMul, Nat.reducePow, Nat.reduceLeDiff, Int.reduceToNat, Int.reduceLE, Int.reduceLT, Int.reducePow]
      refine ⟨_, _, [0], ⟨0, trivial, rfl, rfl⟩, ?_⟩
      rw [hu, if_neg (fun hh => by rw [hh.1] at h1; simp at h1)]
      simp [-List.reduceReplicate, LES, unpV]
    · have hpl : padL (l.take e) = l := by simpa using h1
      simp only [↓VC, VP, TT, List.getElem?_toArray, Nat.reduceEqDiff, reduceCtorEq, Nat.reduceAdd, Nat.reduceSub, Nat.reduceLT, Nat.reduceMul, Nat.reducePow, Nat.reduceLeDiff, Int.reduceToNat, Int.reduceLE, Int.reduceLT, Int.reducePow]
      refine ⟨fun h2 => ⟨_, _, [0], ⟨0, trivial, rfl, rfl⟩, ?_⟩, fun h2 => ⟨by omega, ?_⟩⟩
      · rw [hu, if_neg (by omega)]
        simp [-List.reduceReplicate, LES, unpV]
      · refine kCall_Ret (c_slices_Clone (l.take e) c (by omega) (by omega)) (by rfl) [(0, 0)] (by simp [CALL, hlt]) (by simp [CALL, cellsAt, bs_take, bs_length, hlt]) (by simp [CALL]) (by simp [okL_bs]) (by rintro (_ | r) <;> simp) fun o ho => ?_
        cases o with
        | none => exact absurd (ho rfl).2 (by omega)
        | some r =>
          simp only [CALL, ↓VC, VP, TT, List.getElem?_toArray, Nat.reduceEqDiff, reduceCtorEq, Nat.reduceAdd, Nat.reduceSub, Nat.reduceLT, Nat.reduceMul, Nat.reducePow, Nat.reduceLeDiff, Int.reduceToNat, Int.reduceLE, Int.reduceLT, Int.reducePow, instL_room]
          refine ⟨_, _, [0, 2], ⟨r, trivial, rfl, rfl⟩, ?_⟩
          rw [hu, if_pos ⟨hpl, by omega⟩]
          simp [-List.reduceReplicate, LES, unpV, hlt]
theorem c_spec_l07Unpad (l : List UInt8) (c : Nat) (hc : l.length ≤ c) (hm : l.length ≤ 1048576) : LC Try.prog 58 [.s 0 0 l.length c] [⟨false, bs l⟩] (Ret [⟨false, bs l⟩] (fun _ : Nat × Option (List UInt8) => True) fun x => match unp l with
    | some t => unpV (some t) x.1
    | none => match x.2 with
      | none => (.t [.c (.slice none 0 0), .c (.bool false)], [])
      | some d => (.t [.s 1 0 d.length (d.length + x.1), .c (.bool false)], [⟨true, bs d ++ List.replicate x.1 .j⟩])) := by
  refine LC_of (X := XX (fun | 7 => .one 0 (.one 1 (.one 2 (.one 4 (.one 5 (.one 6 (.one 7 (.one 8 (.one 3 (.one 9 (.one 10 (.one 11 (.one 12 (.one 13 (.one 14 .nil)))))))))))))) | _ => .nil) (fun _ => []) [19, 36, 117] 1) envOK Try.func58 (by kernel_rfl) (by kernel_rfl) rfl (Nat.le_of_ble_eq_true (by kernel_rfl)) ?_
  simp only [kFun, Try.f58, List.length_nil, List.length_cons, Nat.sub_zero, Nat.reduceSub, Nat.reduceAdd, List.nil_append, List.cons_append, List.replicate_succ, List.replicate_zero]
  simp only [XX, ↓VC, VP, TT, List.getElem?_toArray, Nat.reduceEqDiff, reduceCtorEq, Nat.reduceAdd, Nat.reduceSub, Nat.reduceLT, Nat.reduceMul, Nat.reducePow, Nat.reduceLeDiff, Int.reduceToNat, Int.reduceLE, Int.reduceLT, Int.reducePow]
  have e16 : (l.length : Int).tmod 16 = ((l.length % 16 : Nat) : Int) := by rw [Int.tmod_eq_emod_of_nonneg (by omega)]; omega
  refine kGd_split rfl (fun h => ?_) (fun h => ?_)
  · simp only [beq_iff_eq] at h
    simp only [↓VC, VP, TT, List.getElem?_toArray, Nat.reduceEqDiff, reduceCtorEq, Nat.reduceAdd, Nat.reduceSub, Nat.reduceLT, Nat.reduceMul, Nat.reducePow, Nat.reduceLeDiff, Int.reduceToNat, Int.reduceLE, Int.reduceLT, Int.reducePow]
    refine ⟨_, _, [0], ⟨(0, none), trivial, rfl, rfl⟩, ?_⟩
    rw [unp_len16 (.inl (by omega))]
    simp [-List.reduceReplicate, LES]
  · simp only [beq_eq_false_iff_ne] at h
    simp only [↓VC, VP, TT, List.getElem?_toArray, Nat.reduceEqDiff, reduceCtorEq, Nat.reduceAdd, Nat.reduceSub, Nat.reduceLT, Nat.reduceMul, Nat.reducePow, Nat.reduceLeDiff, Int.reduceToNat, Int.reduceLE, Int.reduceLT, Int.reducePow, e16]
    refine ⟨by omega, fun h2 => ⟨_, _, [0], ⟨(0, none), trivial, rfl, rfl⟩, ?_⟩, fun h2 => ?_⟩
    · rw [bne_iff_ne] at h2
      rw [unp_len16 (.inr (by omega))]
      simp [-List.reduceReplicate, LES]
    · have h16 : l.length % 16 = 0 := by have := bne_eq_false_iff_eq.1 h2; omega
      rw [wrap_i64 (by omega) (by omega)]
      refine kLoop_of (fun p : Nat => ([.s 0 0 l.length c, .j, .j, .j, .c (.int .i64 (l.length : Nat)), .c (.int .i64 (p : Nat)), .j, .j, .j, .j, .j, .j, .j, .j, .j, .j, .j, .j, .j, .j, .j, .j, .j, .j, .j, .j, .j, .j, .j, .j, .j, .j, .j, .j, .j, .j, .j, .j, .j, .j, .j, .j, .j], [⟨false, bs l⟩])) (fun p => p) (fun p => StopAt l p) (l.length - 1) ⟨by omega, by omega, fun k _ _ => by omega⟩ ⟨[0], by simp [-List.reduceReplicate, LES]; omega⟩ ?_
      intro p hp
      have hp1 := hp.lt
      have hp2 := hp.near
      have hlt : (l.take p).length = p := by rw [List.length_take]; omega
      have ew : IntKind.i64.wrap ((l.length : Int) - 16) = (l.length : Int) - 16 := wrap_i64 (by omega) (by omega)
      simp only [↓VC, VP, TT, List.getElem?_toArray, Nat.reduceEqDiff, reduceCtorEq, Nat.reduceAdd, Nat.reduceSub, Nat.reduceLT, Nat.reduceMul, Nat.reducePow, Nat.reduceLeDiff, Int.reduceToNat, Int.reduceLE, Int.reduceLT, Int.reducePow, ew]
      refine kGd_split rfl (fun h3 => ?_) (fun h3 => ?_)
      · simp only [decide_eq_true_eq] at h3
        simp only [↓VC, VP, TT, List.getElem?_toArray, Nat.reduceEqDiff, reduceCtorEq, Nat.reduceAdd, Nat.reduceSub, Nat.reduceLT, Nat.reduceMul, Nat.reducePow, Nat.reduceLeDiff, Int.reduceToNat, Int.reduceLE, Int.reduceLT, Int.reducePow, Nat.sub_zero]
        refine ⟨by omega, by omega, fun h0 => ?_, fun h0 => ⟨by omega, by omega, by omega, ?_⟩⟩
        · have hz : l.getD p 0 = 0 := UInt8.toNat_inj.1 (by have := beq_iff_eq.1 h0; show (l.getD p 0).toNat = 0; omega)
          obtain ⟨q, rfl⟩ : ∃ q, p = q + 1 := ⟨p - 1, by omega⟩
          refine ⟨q, hp.next (by omega) hz, by omega, [0], ?_⟩
          rw [wrap_i64 (by omega) (by omega), show ((q + 1 : Nat) : Int) - 1 = (q : Nat) by omega]
          simp [-List.reduceReplicate, LES]
        · have hs : l.length = p + 16 ∨ l.getD p 0 ≠ 0 := .inr (fun e => by rw [e] at h0; simp at h0)
          refine kCall_Ret (c_spec_l01Copy (l.take p) c (by omega) (by omega)) (by rfl) [(0, 0)] (by simp [CALL, hlt]) (by simp [CALL, cellsAt, bs_take, bs_length, hlt]) (by simp [CALL]) (by simp [okL_bs]) (by simp) fun r _ => ?_
          simp only [CALL, ↓VC, VP, TT, List.getElem?_toArray, Nat.reduceEqDiff, reduceCtorEq, Nat.reduceAdd, Nat.reduceSub, Nat.reduceLT, Nat.reduceMul, Nat.reducePow, Nat.reduceLeDiff, Int.reduceToNat, Int.reduceLE, Int.reduceLT, Int.reducePow, instL_room]
          refine kGd_split rfl (fun h4 => ?_) (fun h4 => ?_)
          · have h1 : l.getD p 0 = 1 := UInt8.toNat_inj.1 (by have := beq_iff_eq.1 h4; show (l.getD p 0).toNat = 1; omega)
            simp only [↓VC, VP, TT, List.getElem?_toArray, Nat.reduceEqDiff, reduceCtorEq, Nat.reduceAdd, Nat.reduceSub, Nat.reduceLT, Nat.reduceMul, Nat.reducePow, Nat.reduceLeDiff, Int.reduceToNat, Int.reduceLE, Int.reduceLT, Int.reducePow]
            by_cases h5 : p ≤ 2000
            · refine ⟨_, _, [0, 1], ⟨(r, none), trivial, rfl, rfl⟩, ?_⟩
              rw [unp_stop_yes hp h16 h1 h5, show decide ((p : Int) ≤ 2000) = true by simp; omega]
              simp [-List.reduceReplicate, LES, unpV, hlt]
            · refine ⟨_, _, [0, 1], ⟨(r, some (l.take p)), trivial, rfl, rfl⟩, ?_⟩
              rw [unp_stop_no hp hs (fun hh => h5 hh.2), show decide ((p : Int) ≤ 2000) = false by simp; omega]
              simp [-List.reduceReplicate, LES, unpV, hlt]
          · have h1 : l.getD p 0 ≠ 1 := fun e => by rw [e] at h4; simp at h4
            simp only [↓VC, VP, TT, List.getElem?_toArray, Nat.reduceEqDiff, reduceCtorEq, Nat.reduceAdd, Nat.reduceSub, Nat.reduceLT, Nat.reduceMul, Nat.reducePow, Nat.reduceLeDiff, Int.reduceToNat, Int.reduceLE, Int.reduceLT, Int.reducePow]
            refine ⟨_, _, [0, 1], ⟨(r, some (l.take p)), trivial, rfl, rfl⟩, ?_⟩
            rw [unp_stop_no hp hs (fun hh => h1 hh.1)]
            simp [-List.reduceReplicate, LES, unpV, hlt]
      · simp only [decide_eq_false_iff_not] at h3
        simp only [↓VC, VP, TT, List.getElem?_toArray, Nat.reduceEqDiff, reduceCtorEq, Nat.reduceAdd, Nat.reduceSub, Nat.reduceLT, Nat.reduceMul, Nat.reducePow, Nat.reduceLeDiff, Int.reduceToNat, Int.reduceLE, Int.reduceLT, Int.reducePow, Nat.sub_zero]
        have hs : l.length = p + 16 ∨ l.getD p 0 ≠ 0 := .inl (by omega)
        refine ⟨by omega, by omega, by omega, ?_⟩
        refine kCall_Ret (c_spec_l01Copy (l.take p) c (by omega) (by omega)) (by rfl) [(0, 0)] (by simp [CALL, hlt]) (by simp [CALL, cellsAt, bs_take, bs_length, hlt]) (by simp [CALL]) (by simp [okL_bs]) (by simp) fun r _ => ?_
        simp only [CALL, ↓VC, VP, TT, List.getElem?_toArray, Nat.reduceEqDiff, reduceCtorEq, Nat.reduceAdd, Nat.reduceSub, Nat.reduceLT, Nat.reduceMul, Nat.reducePow, Nat.reduceLeDiff, Int.reduceToNat, Int.reduceLE, Int.reduceLT, Int.reducePow, instL_room]
        refine kGd_split rfl (fun h4 => ?_) (fun h4 => ?_)
        · have h1 : l.getD p 0 = 1 := UInt8.toNat_inj.1 (by have := beq_iff_eq.1 h4; show (l.getD p 0).toNat = 1; omega)
          simp only [↓VC, VP, TT, List.getElem?_toArray, Nat.reduceEqDiff, reduceCtorEq, Nat.reduceAdd, Nat.reduceSub, Nat.reduceLT, Nat.reduceMul, Nat.reducePow, Nat.reduceLeDiff, Int.reduceToNat, Int.reduceLE, Int.reduceLT, Int.reducePow]
          by_cases h5 : p ≤ 2000
          · refine ⟨_, _, [0, 1], ⟨(r, none), trivial, rfl, rfl⟩, ?_⟩
            rw [unp_stop_yes hp h16 h1 h5, show decide ((p : Int) ≤ 2000) = true by simp; omega]
            simp [-List.reduceReplicate, LES, unpV, hlt]
          · refine ⟨_, _, [0, 1], ⟨(r, some (l.take p)), trivial, rfl, rfl⟩, ?_⟩
            rw [unp_stop_no hp hs (fun hh => h5 hh.2), show decide ((p : Int) ≤ 2000) = false by simp; omega]
            simp [-List.reduceReplicate, LES, unpV, hlt]
        · have h1 : l.getD p 0 ≠ 1 := fun e => by rw [e] at h4; simp at h4
          simp only [↓VC, VP, TT, List.getElem?_toArray, Nat.reduceEqDiff, reduceCtorEq, Nat.reduceAdd, Nat.reduceSub, Nat.reduceLT, Nat.reduceMul, Nat.reducePow, Nat.reduceLeDiff, Int.reduceToNat, Int.reduceLE, Int.reduceLT, Int.reducePow]
          refine ⟨_, _, [0, 1], ⟨(r, some (l.take p)), trivial, rfl, rfl⟩, ?_⟩
          rw [unp_stop_no hp hs (fun hh => h1 hh.1)]
          simp [-List.reduceReplicate, LES, unpV, hlt]
noncomputable def unpadR (l : List UInt8) : Except Int (List UInt8) := if l.length ≤ 2016 then (match unp l with | some t => .ok t | none => .error 5) else .error 2
theorem unpadR_len {l out : List UInt8} (hm : l.length ≤ 1048576) (h : unpadR l = .ok out) : out.length ≤ 4194304 := by
  unfold unpadR at h
  split at h
  · cases hu : unp l with
    | none => rw [hu] at h; cases h
    | some t => rw [hu] at h; cases h; have := unp_len hu; omega
  · cases h
end Go.Proofs.Ytpapocmoielldaa

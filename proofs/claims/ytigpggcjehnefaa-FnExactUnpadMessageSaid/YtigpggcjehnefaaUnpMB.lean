/- 'UnpadMessage', both ways: the same data, or none. -/
import Derived.Test.YtigpggcjehnefaaUnpM
set_option linter.unusedSimpArgs false
set_option linter.unusedVariables false
namespace Go.Proofs.Ytigpggcjehnefaa
open Go Go.Vc
noncomputable def unpadMR (l : List UInt8) : Except Int (List UInt8) := if l.length ≤ 2024 then (match unpM l with | some t => .ok t | none => .error 4) else .error 2
theorem unpadMR_len {l out : List UInt8} (hm : l.length ≤ 1048576) (h : unpadMR l = .ok out) : out.length ≤ 4194304 := by
  unfold unpadMR at h
  split at h
  · cases hu : unpM l with
    | none => rw [hu] at h; cases h
    | some t => rw [hu] at h; cases h; have := unpM_len hu; omega
  · cases h
theorem unpadMR_2 {l : List UInt8} (h : ¬ l.length ≤ 2024) : unpadMR l = .error 2 := by unfold unpadMR; rw [if_neg h]
theorem unpadMR_4 {l : List UInt8} (h : l.length ≤ 2024) (h2 : unpM l = none) : unpadMR l = .error 4 := by unfold unpadMR; rw [if_pos h, h2]
theorem unpadMR_ok {l t : List UInt8} (h : l.length ≤ 2024) (h2 : unpM l = some t) : unpadMR l = .ok t := by unfold unpadMR; rw [if_pos h, h2]
set_option maxRecDepth 10000
theorem c_spec_l01Alike (a b : List UInt8) (ca cb : Nat) (hca : a.length ≤ ca) (hcb : b.length ≤ cb) (hm : a.length ≤ 4194304) : LC Try.prog 54 [.s 0 0 a.length ca, .s 1 0 b.length cb] [⟨false, bs a⟩, ⟨false, bs b⟩] (fun v hp => v = .c (.bool (a == b)) ∧ hp = [⟨false, bs a⟩, ⟨false, bs b⟩]) := by
  refine LC_of (X := XX (fun | 6 => [0, 1, 2, 3, 4, 5, 6, 7, 8] | _ => []) [26] 2) envOK Try.func54 (by kernel_rfl) (by kernel_rfl) rfl (Nat.le_of_ble_eq_true (by kernel_rfl)) ?_
  simp only [kFun, Try.f54, List.length_nil, List.length_cons, Nat.sub_zero, Nat.reduceSub, Nat.reduceAdd, List.nil_append, List.cons_append, List.replicate_succ, List.replicate_zero]
  simp only [XX, ↓VC, VP, TT, reduceCtorEq, Nat.reduceAdd, Nat.reduceSub, Nat.reduceLT, Nat.reduceMul, Nat.reducePow, Nat.reduceLeDiff, Int.reduceToNat, Int.reduceLE, Int.reduceLT, Int.reducePow]
  refine ⟨fun h => ⟨_, _, [0, 1], ⟨rfl, rfl⟩, ?_⟩, fun h => ?_⟩
  · rw [bne_iff_ne] at h
    have : (a == b) = false := by rw [beq_eq_false_iff_ne]; intro e; exact h (by rw [e])
    rw [this]; simp [LES]
  · have hab : b.length = a.length := by have := bne_eq_false_iff_eq.1 h; omega
    refine kLoop_of (fun i : Nat => ([.s 0 0 a.length ca, .s 1 0 b.length cb, .j, .j, .j, .c (.int .i64 (i : Nat)), .j, .j, .j, .j, .j, .j, .j, .j, .j, .j, .j, .j, .j, .j, .j, .j, .j, .j, .j, .j], [⟨false, bs a⟩, ⟨false, bs b⟩])) (fun i => a.length - i) (fun i => i ≤ a.length ∧ a.take i = b.take i) 0 (by simp) ⟨[0, 1], by simp [LES]⟩ ?_
    rintro i ⟨hi, ht⟩
    simp only [↓VC, VP, TT, reduceCtorEq, Nat.reduceAdd, Nat.reduceSub, Nat.reduceLT, Nat.reduceMul, Nat.reducePow, Nat.reduceLeDiff, Int.reduceToNat, Int.reduceLE, Int.reduceLT, Int.reducePow, hab]
    refine ⟨fun h => ⟨by omega, by omega, by omega, by omega, fun hne => ⟨_, _, [0, 1], ⟨rfl, rfl⟩, ?_⟩, fun he => ⟨i + 1, ⟨by omega, take_succ_eqB (by omega) (by omega) ht ?_⟩, by omega, [0, 1], ?_⟩⟩, fun h => ⟨_, _, [0, 1], ⟨rfl, rfl⟩, ?_⟩⟩
    · rw [bne_iff_ne] at hne
      have : (a == b) = false := by rw [beq_eq_false_iff_ne]; intro e; exact hne (by rw [e])
      rw [this]; simp [LES]
    · exact UInt8.toNat_inj.1 (by have := bne_eq_false_iff_eq.1 he; omega)
    · rw [wrap_i64 (by omega) (by omega)]
      simp [LES, hab]
    · obtain rfl : i = a.length := by omega
      rw [List.take_of_length_le (by omega), List.take_of_length_le (by omega)] at ht
      subst ht
      simp [LES]
theorem c_spec_UnpadMessage (l : List UInt8) (c : Nat) (hc : l.length ≤ c) : LC Try.prog 34 [.s 0 0 l.length c] [⟨false, bs l⟩] (Ret [⟨false, bs l⟩] (fun _ : Nat => True) (outV (unpadMR l))) := by
  refine LC_of (X := XX (fun _ => []) [26] 1) envOK Try.func34 (by kernel_rfl) (by kernel_rfl) rfl (Nat.le_of_ble_eq_true (by kernel_rfl)) ?_
  simp only [kFun, Try.f34, List.length_nil, List.length_cons, Nat.sub_zero, Nat.reduceSub, Nat.reduceAdd, List.nil_append, List.cons_append, List.replicate_succ, List.replicate_zero]
  simp only [XX, ↓VC, VP, TT, reduceCtorEq, Nat.reduceAdd, Nat.reduceSub, Nat.reduceLT, Nat.reduceMul, Nat.reducePow, Nat.reduceLeDiff, Int.reduceToNat, Int.reduceLE, Int.reduceLT, Int.reducePow]
  refine ⟨fun h => ⟨_, _, [0], ⟨0, trivial, rfl, rfl⟩, ?_⟩, fun h => ?_⟩
  · rw [unpadMR_2 (by omega)]
    simp [LES, outV]
  · have e16 : (l.length : Int).tmod 16 = ((l.length % 16 : Nat) : Int) := by rw [Int.tmod_eq_emod_of_nonneg (by omega)]; omega
    rw [e16]
    refine ⟨by omega, ?_⟩
    refine kGd_split rfl (fun h1 => ?_) (fun h1 => ?_)
    · rw [bne_iff_ne] at h1
      simp only [↓VC, VP, TT, reduceCtorEq, Nat.reduceAdd, Nat.reduceSub, Nat.reduceLT, Nat.reduceMul, Nat.reducePow, Nat.reduceLeDiff, Int.reduceToNat, Int.reduceLE, Int.reduceLT, Int.reducePow]
      refine ⟨_, _, [0], ⟨0, trivial, rfl, rfl⟩, ?_⟩
      rw [unpadMR_4 (by omega) (unpM_len16 (.inr (by omega)))]
      simp [LES, outV]
    · have h16 := bne_eq_false_iff_eq.1 h1
      simp only [↓VC, VP, TT, reduceCtorEq, Nat.reduceAdd, Nat.reduceSub, Nat.reduceLT, Nat.reduceMul, Nat.reducePow, Nat.reduceLeDiff, Int.reduceToNat, Int.reduceLE, Int.reduceLT, Int.reducePow]
      refine ⟨fun h2 => ⟨_, _, [0], ⟨0, trivial, rfl, rfl⟩, ?_⟩, fun h2 => ?_⟩
      · rw [beq_iff_eq] at h2
        rw [unpadMR_4 (by omega) (unpM_len16 (.inl (by omega)))]
        simp [LES, outV]
      · rw [beq_eq_false_iff_ne] at h2
        have h3 : 16 ≤ l.length := by omega
        rw [wrap_i64 (by omega) (by omega)]
        refine kLoop_of (fun j : Nat => ([.s 0 0 l.length c, .j, .j, .j, .c (.int .i64 (valA l j : Nat)), .c (.int .i64 ((l.length - 8 + j : Nat) : Int)), .j, .j, .j, .j, .j, .j, .j, .j, .j, .j, .j, .j, .j, .j, .j, .j, .j, .j, .j, .j, .j, .j, .j, .j, .j, .j, .j, .j, .j, .j, .j, .j, .j, .j, .j, .j, .j, .j, .j, .j, .j, .j, .j, .j, .j, .j, .j, .j], [⟨false, bs l⟩])) (fun j => 8 - j) (fun j => j ≤ 8 ∧ valA l j ≤ l.length) 0 ⟨by omega, by simp [valA]⟩ ⟨[0], by simp [LES, valA]; omega⟩ ?_
        rintro j ⟨hj, hv⟩
        simp only [↓VC, VP, TT, reduceCtorEq, Nat.reduceAdd, Nat.reduceSub, Nat.reduceLT, Nat.reduceMul, Nat.reducePow, Nat.reduceLeDiff, Int.reduceToNat, Int.reduceLE, Int.reduceLT, Int.reducePow]
        have hu := (l.getD (l.length - 8 + j) 0).toNat_lt
        refine ⟨fun h4 => ⟨by omega, by omega, ?_⟩, fun h4 => ?_⟩
        · have en : IntKind.i64.wrap (IntKind.i64.wrap ((valA l j : Int) * 256) + IntKind.i64.wrap (((l.getD (l.length - 8 + j) 0).toNat : Nat) : Int)) = ((valA l (j + 1) : Nat) : Int) := by
            rw [wrap_i64 (n := (valA l j : Int) * 256) (by omega) (by omega), wrap_i64 (n := (((l.getD (l.length - 8 + j) 0).toNat : Nat) : Int)) (by omega) (by omega), wrap_i64 (by omega) (by omega), valA]; omega
          rw [en]
          refine ⟨fun h5 => ⟨_, _, [0], ⟨0, trivial, rfl, rfl⟩, ?_⟩, fun h5 => ⟨j + 1, ⟨by omega, by omega⟩, by omega, [0], ?_⟩⟩
          · rw [unpadMR_4 (by omega) (unpM_big (j := j + 1) (by omega) (by omega))]
            simp [LES, outV]
          · rw [wrap_i64 (by omega) (by omega), show ((l.length - 8 + j : Nat) : Int) + 1 = ((l.length - 8 + (j + 1) : Nat) : Int) by omega]
            simp [LES]
        · obtain rfl : j = 8 := by omega
          have hval := unpM_val hv
          generalize valA l 8 = n at hv hval ⊢
          have hlt : (l.take n).length = n := by rw [List.length_take]; omega
          refine kGd_split rfl (fun h5 => ?_) (fun h5 => ?_)
          · simp only [decide_eq_true_eq] at h5
            simp only [↓VC, VP, TT, reduceCtorEq, Nat.reduceAdd, Nat.reduceSub, Nat.reduceLT, Nat.reduceMul, Nat.reducePow, Nat.reduceLeDiff, Int.reduceToNat, Int.reduceLE, Int.reduceLT, Int.reducePow]
            refine ⟨_, _, [0], ⟨0, trivial, rfl, rfl⟩, ?_⟩
            rw [unpadMR_4 (by omega) (by rw [hval, if_neg (by omega)])]
            simp [LES, outV]
          · simp only [decide_eq_false_iff_not] at h5
            simp only [↓VC, VP, TT, reduceCtorEq, Nat.reduceAdd, Nat.reduceSub, Nat.reduceLT, Nat.reduceMul, Nat.reducePow, Nat.reduceLeDiff, Int.reduceToNat, Int.reduceLE, Int.reduceLT, Int.reducePow, Nat.sub_zero]
            refine ⟨by omega, ?_⟩
            refine kCall_Ret (c_spec_l08Pad (l.take n) c (by omega) (by omega)) (by rfl) [(0, 0)] (by simp [CALL, hlt]) (by simp [CALL, cellsAt, bs_take, bs_length, hlt]) (by simp [CALL]) (by simp [okL_bs]) (by simp) fun r _ => ?_
            simp only [CALL, ↓VC, VP, TT, reduceCtorEq, Nat.reduceAdd, Nat.reduceSub, Nat.reduceLT, Nat.reduceMul, Nat.reducePow, Nat.reduceLeDiff, Int.reduceToNat, Int.reduceLE, Int.reduceLT, Int.reducePow, instL_room]
            have hpl := padM_len (l.take n)
            have hmz := mz_lt (l.take n)
            refine kCall_val (c_spec_l01Alike (padM (l.take n)) l ((padM (l.take n)).length + r) c (by omega) hc (by omega)) (by rfl) [(1, 0), (0, 0)] (by simp [CALL]) (by simp [CALL, cellsAt, take_room]) (by simp [CALL]) (by simp [okL_bs]) ?_
            simp only [CALL, ↓VC, VP, TT, reduceCtorEq, Nat.reduceAdd, Nat.reduceSub, Nat.reduceLT, Nat.reduceMul, Nat.reducePow, Nat.reduceLeDiff, Int.reduceToNat, Int.reduceLE, Int.reduceLT, Int.reducePow, Nat.sub_zero]
            refine ⟨fun h6 => ⟨_, _, [0], ⟨0, trivial, rfl, rfl⟩, ?_⟩, fun h6 => ⟨by omega, ?_⟩⟩
            · rw [unpadMR_4 (by omega) (by rw [hval, if_neg (fun hh => by rw [hh.1] at h6; simp at h6)])]
              simp [LES, outV]
            · have hp : padM (l.take n) = l := by simpa using h6
              refine kCall_Ret (c_spec_l01Copy (l.take n) c (by omega) (by omega)) (by rfl) [(0, 0)] (by simp [CALL, hlt]) (by simp [CALL, cellsAt, bs_take, bs_length, hlt]) (by simp [CALL]) (by simp [okL_bs]) (by simp) fun r _ => ?_
              simp only [CALL, ↓VC, VP, TT, reduceCtorEq, Nat.reduceAdd, Nat.reduceSub, Nat.reduceLT, Nat.reduceMul, Nat.reducePow, Nat.reduceLeDiff, Int.reduceToNat, Int.reduceLE, Int.reduceLT, Int.reducePow, instL_room]
              refine ⟨_, _, [0, 2], ⟨r, trivial, rfl, rfl⟩, ?_⟩
              rw [unpadMR_ok (by omega) (by rw [hval, if_pos ⟨hp, by omega⟩])]
              simp [LES, outV, hlt]
theorem c_impl_UnpadMessage (l : List UInt8) (c : Nat) (hc : l.length ≤ c) : LC Try.prog 35 [.s 0 0 l.length c] [⟨false, bs l⟩] (Ret [⟨false, bs l⟩] (fun _ : Nat => True) (outV (unpadMR l))) := by
  refine LC_of (X := XX (fun _ => []) [26] 1) envOK Try.func35 (by kernel_rfl) (by kernel_rfl) rfl (Nat.le_of_ble_eq_true (by kernel_rfl)) ?_
  simp only [kFun, Try.f35, List.length_nil, List.length_cons, Nat.sub_zero, Nat.reduceSub, Nat.reduceAdd, List.nil_append, List.cons_append, List.replicate_succ, List.replicate_zero]
  simp only [XX, ↓VC, VP, TT, reduceCtorEq, Nat.reduceAdd, Nat.reduceSub, Nat.reduceLT, Nat.reduceMul, Nat.reducePow, Nat.reduceLeDiff, Int.reduceToNat, Int.reduceLE, Int.reduceLT, Int.reducePow]
  refine ⟨fun h => ⟨_, _, [0], ⟨0, trivial, rfl, rfl⟩, ?_⟩, fun h => ?_⟩
  · rw [unpadMR_2 (by omega)]
    simp [LES, outV]
  · have e8 : max 0 (IntKind.i64.wrap ((l.length : Int) - 8)) = ((l.length - 8 : Nat) : Int) := by rw [wrap_i64 (by omega) (by omega)]; omega
    rw [e8]
    have hlt : (l.take (l.length - 8)).length = l.length - 8 := by rw [List.length_take]; omega
    simp only [Int.toNat_natCast, Nat.sub_zero]
    refine ⟨by omega, by omega, ?_⟩
    refine kCall_val (c_bytes_LastIndexByte (l.take (l.length - 8)) c 128 (by omega) (by omega)) (by rfl) [(0, 0)] (by simp [CALL, hlt]) (by simp [CALL, cellsAt, bs_take, bs_length, hlt]) (by simp [CALL]) (by simp [okL_bs]) ?_
    simp only [CALL, ↓VC, VP, TT, reduceCtorEq, Nat.reduceAdd, Nat.reduceSub, Nat.reduceLT, Nat.reduceMul, Nat.reducePow, Nat.reduceLeDiff, Int.reduceToNat, Int.reduceLE, Int.reduceLT, Int.reducePow]
    rw [hlt, lastF_take (Nat.le_refl _)]
    have hr := lastF_range l 128 (l.length - 8)
    refine kGd_split rfl (fun h1 => ?_) (fun h1 => ?_)
    · simp only [decide_eq_true_eq] at h1
      simp only [↓VC, VP, TT, reduceCtorEq, Nat.reduceAdd, Nat.reduceSub, Nat.reduceLT, Nat.reduceMul, Nat.reducePow, Nat.reduceLeDiff, Int.reduceToNat, Int.reduceLE, Int.reduceLT, Int.reducePow]
      refine ⟨_, _, [0], ⟨0, trivial, rfl, rfl⟩, ?_⟩
      rw [unpadMR_4 (by omega) (unpM_last_neg h1)]
      simp [LES, outV]
    · simp only [decide_eq_false_iff_not] at h1
      obtain ⟨n, hn⟩ : ∃ n : Nat, lastF l 128 (l.length - 8) = n := ⟨(lastF l 128 (l.length - 8)).toNat, by omega⟩
      have hval := unpM_last hn
      have hlt : (l.take n).length = n := by rw [List.length_take]; omega
      simp only [↓VC, VP, TT, reduceCtorEq, Nat.reduceAdd, Nat.reduceSub, Nat.reduceLT, Nat.reduceMul, Nat.reducePow, Nat.reduceLeDiff, Int.reduceToNat, Int.reduceLE, Int.reduceLT, Int.reducePow, hn]
      refine kGd_split rfl (fun h5 => ?_) (fun h5 => ?_)
      · simp only [decide_eq_true_eq] at h5
        simp only [↓VC, VP, TT, reduceCtorEq, Nat.reduceAdd, Nat.reduceSub, Nat.reduceLT, Nat.reduceMul, Nat.reducePow, Nat.reduceLeDiff, Int.reduceToNat, Int.reduceLE, Int.reduceLT, Int.reducePow]
        refine ⟨_, _, [0], ⟨0, trivial, rfl, rfl⟩, ?_⟩
        rw [unpadMR_4 (by omega) (by rw [hval, if_neg (by omega)])]
        simp [LES, outV]
      · simp only [decide_eq_false_iff_not] at h5
        simp only [↓VC, VP, TT, reduceCtorEq, Nat.reduceAdd, Nat.reduceSub, Nat.reduceLT, Nat.reduceMul, Nat.reducePow, Nat.reduceLeDiff, Int.reduceToNat, Int.reduceLE, Int.reduceLT, Int.reducePow, Nat.sub_zero]
        refine ⟨by omega, ?_⟩
        refine kCall_Ret (c_impl_padMessage (l.take n) c (by omega) (by omega)) (by rfl) [(0, 0)] (by simp [CALL, hlt]) (by simp [CALL, cellsAt, bs_take, bs_length, hlt]) (by simp [CALL]) (by simp [okL_bs]) (by simp) fun r _ => ?_
        simp only [CALL, ↓VC, VP, TT, reduceCtorEq, Nat.reduceAdd, Nat.reduceSub, Nat.reduceLT, Nat.reduceMul, Nat.reducePow, Nat.reduceLeDiff, Int.reduceToNat, Int.reduceLE, Int.reduceLT, Int.reducePow, instL_room]
        refine kCall_val (c_bytes_Equal (padM (l.take n)) l ((padM (l.take n)).length + r) c (by omega) hc) (by rfl) [(1, 0), (0, 0)] (by simp [CALL]) (by simp [CALL, cellsAt, take_room]) (by simp [CALL]) (by simp [okL_bs]) ?_
        simp only [CALL, ↓VC, VP, TT, reduceCtorEq, Nat.reduceAdd, Nat.reduceSub, Nat.reduceLT, Nat.reduceMul, Nat.reducePow, Nat.reduceLeDiff, Int.reduceToNat, Int.reduceLE, Int.reduceLT, Int.reducePow, Nat.sub_zero]
        refine ⟨fun h6 => ⟨_, _, [0], ⟨0, trivial, rfl, rfl⟩, ?_⟩, fun h6 => ⟨by omega, ?_⟩⟩
        · rw [unpadMR_4 (by omega) (by rw [hval, if_neg (fun hh => by rw [hh.1] at h6; simp at h6)])]
          simp [LES, outV]
        · have hp : padM (l.take n) = l := by simpa using h6
          refine kCall_Ret (c_slices_Clone (l.take n) c (by omega) (by omega)) (by rfl) [(0, 0)] (by simp [CALL, hlt]) (by simp [CALL, cellsAt, bs_take, bs_length, hlt]) (by simp [CALL]) (by simp [okL_bs]) (by rintro (_ | r) <;> simp) fun o ho => ?_
          cases o with
          | none => exact absurd (ho rfl).2 (by omega)
          | some r =>
            simp only [CALL, ↓VC, VP, TT, reduceCtorEq, Nat.reduceAdd, Nat.reduceSub, Nat.reduceLT, Nat.reduceMul, Nat.reducePow, Nat.reduceLeDiff, Int.reduceToNat, Int.reduceLE, Int.reduceLT, Int.reducePow, instL_room]
            refine ⟨_, _, [0, 2], ⟨r, trivial, rfl, rfl⟩, ?_⟩
            rw [unpadMR_ok (by omega) (by rw [hval, if_pos ⟨hp, by omega⟩])]
            simp [LES, outV, hlt]
end Go.Proofs.Ytigpggcjehnefaa

import Derived.Test.YtahnjhppkgndiaaGreatHexR
import Derived.Test.YtahnjhppkgndiaaGreatTk
/- 'ParseDigest' of the program and of the reference read the same digest, or none. -/
set_option linter.unusedSimpArgs false
set_option linter.unusedVariables false
namespace Go.Proofs.YtahnjhppkgndiaaGreat
open Go Go.Vc
set_option maxRecDepth 10000
theorem vGet_room {L : List UInt8} {X : List V} {i : Nat} {k : V → Prop} (h : i < L.length) : vGet (bs L ++ X) i k = k (.c (.int .u8 ((L.getD i 0).toNat : Int))) := by
  unfold vGet
  have h1 : i < (bs L).length := by rw [bs_length]; exact h
  rw [show (bs L ++ X).getD i .j = (bs L).getD i .j by simp only [List.getD, List.getElem?_append_left h1], bs_getD h]
  apply propext
  simp only [List.length_append, bs_length]
  exact ⟨fun h => h.2, fun h2 => ⟨by omega, h2⟩⟩
theorem vSub_room {L : List UInt8} {X : List V} {n : Nat} {k : V → Prop} (h : n = L.length) : vSub (bs L ++ X) 0 n k = k (.a (bs L)) := by
  unfold vSub
  rw [List.drop_zero, take_room h]
  apply propext
  simp only [List.length_append, bs_length]
  exact ⟨fun h => h.2, fun h2 => ⟨by omega, h2⟩⟩
def zeroD : List UInt8 := List.replicate 32 0
theorem readD_none {l : List UInt8} (h : unhex l = none) : readD l = none := by unfold readD; rw [h]
theorem readD_short {l o : List UInt8} (h : unhex l = some o) (ho : o.length ≠ 32) : readD l = none := by unfold readD; rw [h]; simp only; rw [if_neg ho]
theorem readD_some {l o : List UInt8} (h : unhex l = some o) (ho : o.length = 32) : readD l = some o := by unfold readD; rw [h]; simp only; rw [if_pos ho]
theorem c_spec_l08Read (l : List UInt8) (hm : l.length ≤ 549755813888) : LC Tryz.prog 120 [.c (.string ⟨l.toArray⟩)] [] (fun v hp => v = (match readD l with | some o => .t [.a (bs o), .c (.bool true)] | none => .t [.a (bs zeroD), .c (.bool false)]) ∧ hp = []) := by
  refine LC_of (X := XX (fun _ => .nil) (fun _ => []) [15, 71, 72, 73, 79, 80, 87, 90, 91, 93, 99, 119, 137, 176, 177, 203, 204, 212, 219] 0) envOK Tryz.func120 (by kernel_rfl) (by kernel_rfl) rfl (Nat.le_of_ble_eq_true (by kernel_rfl)) ?_
  simp only [kFun, Tryz.f120, List.length_nil, List.length_cons, Nat.sub_zero, Nat.reduceSub, Nat.reduceAdd, List.nil_append, List.cons_append, List.replicate_succ, List.replicate_zero]
  simp only [XX, ↓VC, VP, TT, Nat.reduceEqDiff, reduceCtorEq, Nat.reduceAdd, Nat.reduceSub, Nat.reduceLT, Nat.reduceMul, Nat.reducePow, Nat.reduceLeDiff, Int.reduceToNat, Int.reduceLE, Int.reduceLT, Int.reducePow, size_mk]
  have hc := c_spec_l01Bytes l hm
  cases hx : unhex l with
  | none =>
    rw [hx] at hc
    refine kCall_Ret hc (by rfl) [] (by simp [CALL]) (by simp [CALL]) (by simp [CALL]) (by simp) (by simp [unhexV]) fun r _ => ?_
    simp only [unhexV, CALL, ↓VC, VP, TT, Nat.reduceEqDiff, reduceCtorEq, Nat.reduceAdd, Nat.reduceSub, Nat.reduceLT, Nat.reduceMul, Nat.reducePow, Nat.reduceLeDiff, Int.reduceToNat, Int.reduceLE, Int.reduceLT, Int.reducePow, Bool.not_true, Bool.not_false]
    refine ⟨_, _, [], ⟨rfl, rfl⟩, ?_⟩
    rw [readD_none hx]
    simp [-List.reduceReplicate, LES, zeroD]
  | some o =>
    rw [hx] at hc
    refine kCall_Ret hc (by rfl) [] (by simp [CALL]) (by simp [CALL]) (by simp [CALL]) (by simp) (by simp [unhexV]) fun r _ => ?_
    simp only [unhexV, CALL, ↓VC, VP, TT, Nat.reduceEqDiff, reduceCtorEq, Nat.reduceAdd, Nat.reduceSub, Nat.reduceLT, Nat.reduceMul, Nat.reducePow, Nat.reduceLeDiff, Int.reduceToNat, Int.reduceLE, Int.reduceLT, Int.reducePow, Bool.not_true, Bool.not_false]
    refine ⟨fun h => ⟨_, _, [], ⟨rfl, rfl⟩, ?_⟩, fun h => ?_⟩
    · rw [bne_iff_ne] at h
      rw [readD_short hx (by omega)]
      simp [-List.reduceReplicate, LES, zeroD]
    · have ho : o.length = 32 := by have := bne_eq_false_iff_eq.1 h; omega
      refine kLoop_of (fun i : Nat => ([.c (.string ⟨l.toArray⟩), .j, .p 0 0, .j, .s 1 0 o.length (o.length + r), .j, .p 2 0, .c (.int .i64 (i : Nat)), .j, .j, .j, .j, .j, .j, .j, .j, .j, .j, .j, .j, .j, .j, .j, .j, .j, .j, .j, .j, .j, .j, .j, .j, .j], [⟨true, bs (List.replicate 32 0)⟩, ⟨true, bs o ++ List.replicate r .j⟩, ⟨true, bs (o.take i ++ List.replicate (32 - i) 0)⟩])) (fun i => 32 - i) (fun i => i ≤ 32) 0 (by omega) ⟨[0, 1, 2], by simp [-List.reduceReplicate, LES]⟩ ?_
      intro i hi
      have hl : (o.take i ++ List.replicate (32 - i) 0).length = 32 := by simp [ho]; omega
      by_cases hlt : i < 32
      · simp only [↓VC, VP, TT, Nat.reduceEqDiff, reduceCtorEq, Nat.reduceAdd, Nat.reduceSub, Nat.reduceLT, Nat.reduceMul, Nat.reducePow, Nat.reduceLeDiff, Int.reduceToNat, Int.reduceLE, Int.reduceLT, Int.reducePow, ho, hl, hlt, ↓vGet_room]
        refine ⟨fun _ => ⟨by omega, by omega, i + 1, by omega, by omega, [0, 1, 2], ?_⟩, fun h => absurd h (by omega)⟩
        rw [wrap_i64 (by omega) (by omega), fill_step (by omega) (by omega)]
        simp [-List.reduceReplicate, LES, ho]
      · obtain rfl : i = 32 := by omega
        rw [List.take_of_length_le (by omega)]
        simp only [↓VC, VP, TT, Nat.reduceEqDiff, reduceCtorEq, Nat.reduceAdd, Nat.reduceSub, Nat.reduceLT, Nat.reduceMul, Nat.reducePow, Nat.reduceLeDiff, Int.reduceToNat, Int.reduceLE, Int.reduceLT, Int.reducePow, ho]
        refine ⟨fun h => absurd h (by omega), fun _ => ?_⟩
        refine ⟨_, _, [], ⟨rfl, rfl⟩, ?_⟩
        rw [readD_some hx ho]
        simp [-List.reduceReplicate, LES]
def parseV (o : Option (List UInt8)) : V := match o with
  | some o => .t [.a (bs o), .c (.int .i64 0)]
  | none => .t [.a (bs zeroD), .c (.int .i64 6)]
theorem c_spec_ParseDigest (l : List UInt8) (hm : l.length ≤ 549755813888) : LC Tryz.prog 51 [.c (.string ⟨l.toArray⟩)] [] (fun v hp => v = parseV (readD l) ∧ hp = []) := by
  refine LC_of (X := XX (fun _ => .nil) (fun _ => []) [15, 71, 72, 73, 79, 80, 87, 90, 91, 93, 99, 119, 137, 176, 177, 203, 204, 212, 219] 0) envOK Tryz.func51 (by kernel_rfl) (by kernel_rfl) rfl (Nat.le_of_ble_eq_true (by kernel_rfl)) ?_
  simp only [kFun, Tryz.f51, List.length_nil, List.length_cons, Nat.sub_zero, Nat.reduceSub, Nat.reduceAdd, List.nil_append, List.cons_append, List.replicate_succ, List.replicate_zero]
  simp only [XX, ↓VC, VP, TT, Nat.reduceEqDiff, reduceCtorEq, Nat.reduceAdd, Nat.reduceSub, Nat.reduceLT, Nat.reduceMul, Nat.reducePow, Nat.reduceLeDiff, Int.reduceToNat, Int.reduceLE, Int.reduceLT, Int.reducePow, size_mk]
  have hc := c_spec_l08Read l hm
  cases hx : readD l with
  | none =>
    rw [hx] at hc
    refine kCall_val hc (by rfl) [] (by simp [CALL]) (by simp [CALL]) (by simp [CALL]) (by simp) ?_
    simp only [CALL, ↓VC, VP, TT, Nat.reduceEqDiff, reduceCtorEq, Nat.reduceAdd, Nat.reduceSub, Nat.reduceLT, Nat.reduceMul, Nat.reducePow, Nat.reduceLeDiff, Int.reduceToNat, Int.reduceLE, Int.reduceLT, Int.reducePow, Bool.not_true, Bool.not_false, show zeroD.length = 32 from rfl]
    refine ⟨_, _, [], ⟨rfl, rfl⟩, ?_⟩
    simp [-List.reduceReplicate, LES, parseV, zeroD]
  | some o =>
    rw [hx] at hc
    have ho := readD_len hx
    refine kCall_val hc (by rfl) [] (by simp [CALL]) (by simp [CALL]) (by simp [CALL]) (by simp) ?_
    simp only [CALL, ↓VC, VP, TT, Nat.reduceEqDiff, reduceCtorEq, Nat.reduceAdd, Nat.reduceSub, Nat.reduceLT, Nat.reduceMul, Nat.reducePow, Nat.reduceLeDiff, Int.reduceToNat, Int.reduceLE, Int.reduceLT, Int.reducePow, Bool.not_true, Bool.not_false, ho]
    refine ⟨_, _, [], ⟨rfl, rfl⟩, ?_⟩
    simp [-List.reduceReplicate, LES, parseV]
theorem c_impl_ParseDigest (l : List UInt8) (hm : l.length ≤ 549755813888) : LC Tryz.prog 49 [.c (.string ⟨l.toArray⟩)] [] (fun v hp => v = parseV (readD l) ∧ hp = []) := by
  refine LC_of (X := XX (fun _ => .nil) (fun _ => []) [15, 71, 72, 73, 79, 80, 87, 90, 91, 93, 99, 119, 137, 176, 177, 203, 204, 212, 219] 0) envOK Tryz.func49 (by kernel_rfl) (by kernel_rfl) rfl (Nat.le_of_ble_eq_true (by kernel_rfl)) ?_
  simp only [kFun, Tryz.f49, List.length_nil, List.length_cons, Nat.sub_zero, Nat.reduceSub, Nat.reduceAdd, List.nil_append, List.cons_append, List.replicate_succ, List.replicate_zero]
  simp only [XX, ↓VC, VP, TT, Nat.reduceEqDiff, reduceCtorEq, Nat.reduceAdd, Nat.reduceSub, Nat.reduceLT, Nat.reduceMul, Nat.reducePow, Nat.reduceLeDiff, Int.reduceToNat, Int.reduceLE, Int.reduceLT, Int.reducePow, size_mk]
  have hc := c_impl_fromHex l hm
  cases hx : unhex l with
  | none =>
    rw [hx] at hc
    refine kCall_Ret hc (by rfl) [] (by simp [CALL]) (by simp [CALL]) (by simp [CALL]) (by simp) (by simp [unhexV]) fun r _ => ?_
    simp only [unhexV, CALL, ↓VC, VP, TT, Nat.reduceEqDiff, reduceCtorEq, Nat.reduceAdd, Nat.reduceSub, Nat.reduceLT, Nat.reduceMul, Nat.reducePow, Nat.reduceLeDiff, Int.reduceToNat, Int.reduceLE, Int.reduceLT, Int.reducePow, Bool.not_true, Bool.not_false]
    refine ⟨_, _, [], ⟨rfl, rfl⟩, ?_⟩
    rw [readD_none hx]
    simp [-List.reduceReplicate, LES, parseV, zeroD]
  | some o =>
    rw [hx] at hc
    refine kCall_Ret hc (by rfl) [] (by simp [CALL]) (by simp [CALL]) (by simp [CALL]) (by simp) (by simp [unhexV]) fun r _ => ?_
    by_cases ho : o.length = 32
    · simp only [unhexV, CALL, ↓VC, VP, TT, Nat.reduceEqDiff, reduceCtorEq, Nat.reduceAdd, Nat.reduceSub, Nat.reduceLT, Nat.reduceMul, Nat.reducePow, Nat.reduceLeDiff, Int.reduceToNat, Int.reduceLE, Int.reduceLT, Int.reducePow, Bool.not_true, Bool.not_false, ho, ↓vSub_room]
      refine ⟨fun h => absurd h (by simp), fun _ => ⟨by omega, _, _, [], ⟨rfl, rfl⟩, ?_⟩⟩
      rw [readD_some hx ho]
      simp [-List.reduceReplicate, LES, parseV]
    · simp only [unhexV, CALL, ↓VC, VP, TT, Nat.reduceEqDiff, reduceCtorEq, Nat.reduceAdd, Nat.reduceSub, Nat.reduceLT, Nat.reduceMul, Nat.reducePow, Nat.reduceLeDiff, Int.reduceToNat, Int.reduceLE, Int.reduceLT, Int.reducePow, Bool.not_true, Bool.not_false]
      refine ⟨fun _ => ⟨_, _, [], ⟨rfl, rfl⟩, ?_⟩, fun h => absurd (bne_eq_false_iff_eq.1 h) (by omega)⟩
      rw [readD_short hx ho]
      simp [-List.reduceReplicate, LES, parseV, zeroD]
end Go.Proofs.YtahnjhppkgndiaaGreat

import Derived.Test.YtahnjhppkgndiaaGreatCip
import Derived.Test.YtahnjhppkgndiaaGreatEngP
/- Digests of data with a cipher: the program and the reference. -/
set_option linter.unusedSimpArgs false
set_option linter.unusedVariables false
namespace Go.Proofs.YtahnjhppkgndiaaGreat
open Go Go.Vc
set_option maxRecDepth 10000
set_option maxHeartbeats 4000000
/-- The code of a cipher and data. -/
def digE (z : Int) (box A pl : List UInt8) (n : Int) (l : List UInt8) : Int := if cipB z box A pl n then (if l.length ≤ 2000 then 0 else 2) else 1
theorem k_spec_of (c : Cip) (l : List UInt8) (q : Nat) (hc : l.length ≤ q) (hl : l.length ≤ 2097152) : LC Tryz.prog 96 [.a c.cells, .s 0 0 l.length q] [⟨false, bs l⟩] (fun v hp => v = .a (bs (c.dig l)) ∧ hp = [⟨false, bs l⟩]) :=
  c_spec_l08Of c.m c.box c.A c.pl l c.n q hc hl (by have := c.hn; omega) c.hm c.hm' c.hb c.hA c.hp c.hpl
theorem k_digest1 (c : Cip) (l1 : List UInt8) (c1 : Nat) (hc1 : l1.length ≤ c1) (htot : l1.length ≤ 2097152) : LC Tryz.prog 94 [.p 0 0, .s 3 0 1 1] (c.bl false ++ [⟨false, [.s 4 0 l1.length c1]⟩, ⟨false, bs l1⟩]) (fun v hp => v = .a (bs (c.dig l1)) ∧ hp = c.bl false ++ [⟨false, [.s 4 0 l1.length c1]⟩, ⟨false, bs l1⟩]) :=
  c_digest1 c.m c.box _ c.pl _ c.A _ c.n l1 c1 hc1 htot (by have := c.hn; omega) c.engL c.hA c.hpl
theorem k_digest2 (c : Cip) (l1 l2 : List UInt8) (c1 c2 : Nat) (hc1 : l1.length ≤ c1) (hc2 : l2.length ≤ c2) (htot : l1.length + l2.length ≤ 2097152) : LC Tryz.prog 94 [.p 0 0, .s 3 0 2 2] (c.bl false ++ [⟨false, [.s 4 0 l1.length c1, .s 5 0 l2.length c2]⟩, ⟨false, bs l1⟩, ⟨false, bs l2⟩]) (fun v hp => v = .a (bs (c.dig (l1 ++ l2))) ∧ hp = c.bl false ++ [⟨false, [.s 4 0 l1.length c1, .s 5 0 l2.length c2]⟩, ⟨false, bs l1⟩, ⟨false, bs l2⟩]) :=
  c_digest2 c.m c.box _ c.pl _ c.A _ c.n l1 l2 c1 c2 hc1 hc2 htot (by have := c.hn; omega) c.engL c.hA c.hpl
theorem c_spec_l08Code (z n : Int) (box A pl l : List UInt8) (q : Nat) (hb : box.length = 256) (hA : A.length = 16) (hp : pl.length = 16) (hl : l.length ≤ 2097152) : LC Tryz.prog 77 [.a (cipC z box A pl n), .s 0 0 l.length q] [⟨false, bs l⟩] (fun v hp => v = .c (.int .i64 (digE z box A pl n l)) ∧ hp = [⟨false, bs l⟩]) := by
  refine LC_of (X := XX (fun _ => .nil) (fun _ => []) [15, 71, 72, 73, 79, 80, 87, 90, 91, 93, 99, 119, 137, 176, 177, 203, 204, 212, 219] 1) envOK Tryz.func77 (by kernel_rfl) (by kernel_rfl) rfl (Nat.le_of_ble_eq_true (by kernel_rfl)) ?_
  simp only [kFun, Tryz.f77, List.length_nil, List.length_cons, Nat.sub_zero, Nat.reduceSub, Nat.reduceAdd, List.nil_append, List.cons_append, List.replicate_succ, List.replicate_zero]
  simp only [XX, ↓VC, VP, TT, Nat.reduceEqDiff, reduceCtorEq, Nat.reduceAdd, Nat.reduceSub, Nat.reduceLT, Nat.reduceMul, Nat.reducePow, Nat.reduceLeDiff, Int.reduceToNat, Int.reduceLE, Int.reduceLT, Int.reducePow, cipC_len hb hA hp, ↓cip_all hb hA hp]
  refine kCall_val (c_spec_l04Is z n box A pl hb hA hp) (by rfl) [] (by simp [CALL, SCB, instL_cip, okL_cip, k_inst, k_ok, e_inst, e_take, e_ok, Cip.bl, okL, okV]) (by simp [CALL, SCB, instL_cip, okL_cip, k_inst, k_ok, e_inst, e_take, e_ok, Cip.bl, okL, okV]) (by simp [CALL, SCB, instL_cip, okL_cip, k_inst, k_ok, e_inst, e_take, e_ok, Cip.bl, okL, okV]) (by simp [okL_bs, okL_room, okL, okV, instL_cip, okL_cip, k_inst, k_ok, e_inst, e_take, e_ok, Cip.bl, okL, okV]) ?_
  simp (config := { maxSteps := 2000000 }) only [CALL, ↓VC, VP, TT, Nat.reduceEqDiff, reduceCtorEq, Nat.reduceAdd, Nat.reduceSub, Nat.reduceLT, Nat.reduceMul, Nat.reducePow, Nat.reduceLeDiff, Int.reduceToNat, Int.reduceLE, Int.reduceLT, Int.reducePow, GOB, Cip.bl, e_inst0, k_inst, k_len, abs_len, enc_len, dig_len, ↓k_all]
  cases hB : cipB z box A pl n with
  | false =>
    simp only [↓VC, VP, TT, Nat.reduceEqDiff, reduceCtorEq, Nat.reduceAdd, Nat.reduceSub, Nat.reduceLT, Nat.reduceMul, Nat.reducePow, Nat.reduceLeDiff, Int.reduceToNat, Int.reduceLE, Int.reduceLT, Int.reducePow, Bool.not_false]
    refine ⟨_, _, [0], ⟨rfl, rfl⟩, ?_⟩
    simp [-List.reduceReplicate, LES, digE, hB] <;> rfl
  | true =>
    simp only [↓VC, VP, TT, Nat.reduceEqDiff, reduceCtorEq, Nat.reduceAdd, Nat.reduceSub, Nat.reduceLT, Nat.reduceMul, Nat.reducePow, Nat.reduceLeDiff, Int.reduceToNat, Int.reduceLE, Int.reduceLT, Int.reducePow, Bool.not_true]
    refine ⟨fun h => ?_, fun h => ?_⟩
    · refine ⟨_, _, [0], ⟨rfl, rfl⟩, ?_⟩
      simp [-List.reduceReplicate, LES, digE, hB, (by omega : 2000 < l.length)] <;> rfl
    · refine ⟨_, _, [0], ⟨rfl, rfl⟩, ?_⟩
      simp [-List.reduceReplicate, LES, digE, hB, (by omega : l.length ≤ 2000)] <;> rfl
theorem c_checkDigest1 (l : List UInt8) (q : Nat) : LC Tryz.prog 139 [.s 0 0 l.length q] [⟨false, bs l⟩] (fun v hp => v = .c (.bool (!decide (l.length ≤ 2000))) ∧ hp = [⟨false, bs l⟩]) := by
  refine LC_of (X := XX (fun _ => .nil) (fun _ => []) [15, 71, 72, 73, 79, 80, 87, 90, 91, 93, 99, 119, 137, 176, 177, 203, 204, 212, 219] 1) envOK Tryz.func139 (by kernel_rfl) (by kernel_rfl) rfl (Nat.le_of_ble_eq_true (by kernel_rfl)) ?_
  simp only [kFun, Tryz.f139, List.length_nil, List.length_cons, Nat.sub_zero, Nat.reduceSub, Nat.reduceAdd, List.nil_append, List.cons_append, List.replicate_succ, List.replicate_zero]
  simp only [XX, ↓VC, VP, TT, Nat.reduceEqDiff, reduceCtorEq, Nat.reduceAdd, Nat.reduceSub, Nat.reduceLT, Nat.reduceMul, Nat.reducePow, Nat.reduceLeDiff, Int.reduceToNat, Int.reduceLE, Int.reduceLT, Int.reducePow]
  refine kCall_val (c_impl_isData l q) (by rfl) [(0, 0)] (by simp [CALL, SCB, instL_cip, okL_cip, k_inst, k_ok, e_inst, e_take, e_ok, Cip.bl, okL, okV]) (by simp [CALL, SCB, instL_cip, okL_cip, k_inst, k_ok, e_inst, e_take, e_ok, Cip.bl, okL, okV]) (by simp [CALL, SCB, instL_cip, okL_cip, k_inst, k_ok, e_inst, e_take, e_ok, Cip.bl, okL, okV]) (by simp [okL_bs, okL_room, okL, okV, instL_cip, okL_cip, k_inst, k_ok, e_inst, e_take, e_ok, Cip.bl, okL, okV]) ?_
  simp (config := { maxSteps := 2000000 }) only [CALL, ↓VC, VP, TT, Nat.reduceEqDiff, reduceCtorEq, Nat.reduceAdd, Nat.reduceSub, Nat.reduceLT, Nat.reduceMul, Nat.reducePow, Nat.reduceLeDiff, Int.reduceToNat, Int.reduceLE, Int.reduceLT, Int.reducePow, GOB, Cip.bl, e_inst0, k_inst, k_len, abs_len, enc_len, dig_len, ↓k_all]
  refine ⟨_, _, [0], ⟨rfl, rfl⟩, ?_⟩
  simp [-List.reduceReplicate, LES] <;> rfl
theorem c_IndexFunc1 (l : List UInt8) (q : Nat) : LC Tryz.prog 178 [.s 0 0 1 1, .c (.func (.func 139) #[] #[])] [⟨false, [.s 1 0 l.length q]⟩, ⟨false, bs l⟩] (fun v hp => v = .c (.int .i64 (if l.length ≤ 2000 then -1 else 0)) ∧ hp = [⟨false, [.s 1 0 l.length q]⟩, ⟨false, bs l⟩]) := by
  refine LC_of (X := XX (fun _ => .nil) (fun _ => []) [15, 71, 72, 73, 79, 80, 87, 90, 91, 93, 99, 119, 137, 176, 177, 203, 204, 212, 219] 2) envOK Tryz.func178 (by kernel_rfl) (by kernel_rfl) rfl (Nat.le_of_ble_eq_true (by kernel_rfl)) ?_
  simp only [kFun, Tryz.f178, List.length_nil, List.length_cons, Nat.sub_zero, Nat.reduceSub, Nat.reduceAdd, List.nil_append, List.cons_append, List.replicate_succ, List.replicate_zero]
  simp only [XX, ↓VC, VP, TT, Nat.reduceEqDiff, reduceCtorEq, Nat.reduceAdd, Nat.reduceSub, Nat.reduceLT, Nat.reduceMul, Nat.reducePow, Nat.reduceLeDiff, Int.reduceToNat, Int.reduceLE, Int.reduceLT, Int.reducePow]
  refine kLoop_of (fun i : Nat => ([.s 0 0 1 1, .c (.func (.func 139) #[] #[]), .j, .j, .j, .j, .j, .c (.int .i64 (1)), .c (.int .i64 (i)), .j, .j, .j, .j, .j, .j, .j, .j, .j, .j], [⟨false, [.s 1 0 l.length q]⟩, ⟨false, bs l⟩])) (fun i => 1 - i) (fun i => i ≤ 1 ∧ (i = 1 → l.length ≤ 2000)) 0 (by simp) ⟨[0, 1], by simp [-List.reduceReplicate, LES]⟩ ?_
  rintro i ⟨hi, hl⟩
  rcases (by omega : i = 0 ∨ i = 1) with rfl | rfl
  · simp only [↓VC, VP, TT, Nat.reduceEqDiff, reduceCtorEq, Nat.reduceAdd, Nat.reduceSub, Nat.reduceLT, Nat.reduceMul, Nat.reducePow, Nat.reduceLeDiff, Int.reduceToNat, Int.reduceLE, Int.reduceLT, Int.reducePow, show (((0 : Nat) : Int) < 1) = True from eq_true (by decide), decide_true, show ((0 : Nat) : Int) = 0 from rfl, Int.toNat_zero, Nat.zero_mul, show ((0 : Int) < ((1 : Nat) : Int)) = True from eq_true (by decide)]
    refine kCallV_of (by rfl) ?_
    refine kCall_val (c_checkDigest1 l q) (by rfl) [(1, 0)] (by simp [CALL, SCB, instL_cip, okL_cip, k_inst, k_ok, e_inst, e_take, e_ok, Cip.bl, okL, okV]) (by simp [CALL, SCB, instL_cip, okL_cip, k_inst, k_ok, e_inst, e_take, e_ok, Cip.bl, okL, okV]) (by simp [CALL, SCB, instL_cip, okL_cip, k_inst, k_ok, e_inst, e_take, e_ok, Cip.bl, okL, okV]) (by simp [okL_bs, okL_room, okL, okV, instL_cip, okL_cip, k_inst, k_ok, e_inst, e_take, e_ok, Cip.bl, okL, okV]) ?_
    simp (config := { maxSteps := 2000000 }) only [CALL, ↓VC, VP, TT, Nat.reduceEqDiff, reduceCtorEq, Nat.reduceAdd, Nat.reduceSub, Nat.reduceLT, Nat.reduceMul, Nat.reducePow, Nat.reduceLeDiff, Int.reduceToNat, Int.reduceLE, Int.reduceLT, Int.reducePow, GOB, Cip.bl, e_inst0, k_inst, k_len, abs_len, enc_len, dig_len, ↓k_all]
    refine ⟨fun h => ?_, fun h => ?_⟩
    · simp only [Bool.not_eq_true', decide_eq_false_iff_not] at h
      refine ⟨_, _, [0, 1], ⟨rfl, rfl⟩, ?_⟩
      simp [-List.reduceReplicate, LES, h] <;> rfl
    · simp only [Bool.not_eq_false', decide_eq_true_eq] at h
      refine ⟨1, ⟨by omega, fun _ => h⟩, by omega, [0, 1], ?_⟩
      try rw [wrap_i64 (by omega) (by omega)]
      simp [-List.reduceReplicate, LES]
  · simp only [↓VC, VP, TT, Nat.reduceEqDiff, reduceCtorEq, Nat.reduceAdd, Nat.reduceSub, Nat.reduceLT, Nat.reduceMul, Nat.reducePow, Nat.reduceLeDiff, Int.reduceToNat, Int.reduceLE, Int.reduceLT, Int.reducePow, show (((1 : Nat) : Int) < 1) = False from eq_false (by decide), decide_false]
    refine ⟨_, _, [0, 1], ⟨rfl, rfl⟩, ?_⟩
    simp [-List.reduceReplicate, LES, hl rfl] <;> rfl
theorem c_ContainsFunc1 (l : List UInt8) (q : Nat) : LC Tryz.prog 138 [.s 0 0 1 1, .c (.func (.func 139) #[] #[])] [⟨false, [.s 1 0 l.length q]⟩, ⟨false, bs l⟩] (fun v hp => v = .c (.bool (!decide (l.length ≤ 2000))) ∧ hp = [⟨false, [.s 1 0 l.length q]⟩, ⟨false, bs l⟩]) := by
  refine LC_of (X := XX (fun _ => .nil) (fun _ => []) [15, 71, 72, 73, 79, 80, 87, 90, 91, 93, 99, 119, 137, 176, 177, 203, 204, 212, 219] 2) envOK Tryz.func138 (by kernel_rfl) (by kernel_rfl) rfl (Nat.le_of_ble_eq_true (by kernel_rfl)) ?_
  simp only [kFun, Tryz.f138, List.length_nil, List.length_cons, Nat.sub_zero, Nat.reduceSub, Nat.reduceAdd, List.nil_append, List.cons_append, List.replicate_succ, List.replicate_zero]
  simp only [XX, ↓VC, VP, TT, Nat.reduceEqDiff, reduceCtorEq, Nat.reduceAdd, Nat.reduceSub, Nat.reduceLT, Nat.reduceMul, Nat.reducePow, Nat.reduceLeDiff, Int.reduceToNat, Int.reduceLE, Int.reduceLT, Int.reducePow]
  refine kCall_val (c_IndexFunc1 l q) (by rfl) [(0, 0), (1, 0)] (by simp [CALL, SCB, instL_cip, okL_cip, k_inst, k_ok, e_inst, e_take, e_ok, Cip.bl, okL, okV]) (by simp [CALL, SCB, instL_cip, okL_cip, k_inst, k_ok, e_inst, e_take, e_ok, Cip.bl, okL, okV]) (by simp [CALL, SCB, instL_cip, okL_cip, k_inst, k_ok, e_inst, e_take, e_ok, Cip.bl, okL, okV]) (by simp [okL_bs, okL_room, okL, okV, instL_cip, okL_cip, k_inst, k_ok, e_inst, e_take, e_ok, Cip.bl, okL, okV]) ?_
  simp (config := { maxSteps := 2000000 }) only [CALL, ↓VC, VP, TT, Nat.reduceEqDiff, reduceCtorEq, Nat.reduceAdd, Nat.reduceSub, Nat.reduceLT, Nat.reduceMul, Nat.reducePow, Nat.reduceLeDiff, Int.reduceToNat, Int.reduceLE, Int.reduceLT, Int.reducePow, GOB, Cip.bl, e_inst0, k_inst, k_len, abs_len, enc_len, dig_len, ↓k_all]
  have e : decide ((if l.length ≤ 2000 then (-1 : Int) else 0) ≥ 0) = !decide (l.length ≤ 2000) := by split <;> simp [*]
  rw [e]
  refine ⟨_, _, [0, 1], ⟨rfl, rfl⟩, ?_⟩
  simp [-List.reduceReplicate, LES] <;> rfl
theorem c_impl_checkDigest1 (z n : Int) (box A pl l : List UInt8) (q : Nat) (hb : box.length = 256) (hA : A.length = 16) (hp : pl.length = 16) : LC Tryz.prog 74 [.a (cipC z box A pl n), .s 0 0 1 1] [⟨false, [.s 1 0 l.length q]⟩, ⟨false, bs l⟩] (fun v hp => v = .c (.int .i64 (digE z box A pl n l)) ∧ hp = [⟨false, [.s 1 0 l.length q]⟩, ⟨false, bs l⟩]) := by
  refine LC_of (X := XX (fun _ => .nil) (fun _ => []) [15, 71, 72, 73, 79, 80, 87, 90, 91, 93, 99, 119, 137, 176, 177, 203, 204, 212, 219] 2) envOK Tryz.func74 (by kernel_rfl) (by kernel_rfl) rfl (Nat.le_of_ble_eq_true (by kernel_rfl)) ?_
  simp only [kFun, Tryz.f74, List.length_nil, List.length_cons, Nat.sub_zero, Nat.reduceSub, Nat.reduceAdd, List.nil_append, List.cons_append, List.replicate_succ, List.replicate_zero]
  simp only [XX, ↓VC, VP, TT, Nat.reduceEqDiff, reduceCtorEq, Nat.reduceAdd, Nat.reduceSub, Nat.reduceLT, Nat.reduceMul, Nat.reducePow, Nat.reduceLeDiff, Int.reduceToNat, Int.reduceLE, Int.reduceLT, Int.reducePow, cipC_len hb hA hp, ↓cip_all hb hA hp]
  refine kCall_val (c_impl_IsCipher z n box A pl hb hA hp) (by rfl) [] (by simp [CALL, SCB, instL_cip, okL_cip, k_inst, k_ok, e_inst, e_take, e_ok, Cip.bl, okL, okV]) (by simp [CALL, SCB, instL_cip, okL_cip, k_inst, k_ok, e_inst, e_take, e_ok, Cip.bl, okL, okV]) (by simp [CALL, SCB, instL_cip, okL_cip, k_inst, k_ok, e_inst, e_take, e_ok, Cip.bl, okL, okV]) (by simp [okL_bs, okL_room, okL, okV, instL_cip, okL_cip, k_inst, k_ok, e_inst, e_take, e_ok, Cip.bl, okL, okV]) ?_
  simp (config := { maxSteps := 2000000 }) only [CALL, ↓VC, VP, TT, Nat.reduceEqDiff, reduceCtorEq, Nat.reduceAdd, Nat.reduceSub, Nat.reduceLT, Nat.reduceMul, Nat.reducePow, Nat.reduceLeDiff, Int.reduceToNat, Int.reduceLE, Int.reduceLT, Int.reducePow, GOB, Cip.bl, e_inst0, k_inst, k_len, abs_len, enc_len, dig_len, ↓k_all]
  cases hB : cipB z box A pl n with
  | false =>
    simp only [↓VC, VP, TT, Nat.reduceEqDiff, reduceCtorEq, Nat.reduceAdd, Nat.reduceSub, Nat.reduceLT, Nat.reduceMul, Nat.reducePow, Nat.reduceLeDiff, Int.reduceToNat, Int.reduceLE, Int.reduceLT, Int.reducePow, Bool.not_false]
    refine ⟨_, _, [0, 1], ⟨rfl, rfl⟩, ?_⟩
    simp [-List.reduceReplicate, LES, digE, hB] <;> rfl
  | true =>
    simp only [↓VC, VP, TT, Nat.reduceEqDiff, reduceCtorEq, Nat.reduceAdd, Nat.reduceSub, Nat.reduceLT, Nat.reduceMul, Nat.reducePow, Nat.reduceLeDiff, Int.reduceToNat, Int.reduceLE, Int.reduceLT, Int.reducePow, Bool.not_true]
    refine kCall_val (c_ContainsFunc1 l q) (by rfl) [(0, 0), (1, 0)] (by simp [CALL, SCB, instL_cip, okL_cip, k_inst, k_ok, e_inst, e_take, e_ok, Cip.bl, okL, okV]) (by simp [CALL, SCB, instL_cip, okL_cip, k_inst, k_ok, e_inst, e_take, e_ok, Cip.bl, okL, okV]) (by simp [CALL, SCB, instL_cip, okL_cip, k_inst, k_ok, e_inst, e_take, e_ok, Cip.bl, okL, okV]) (by simp [okL_bs, okL_room, okL, okV, instL_cip, okL_cip, k_inst, k_ok, e_inst, e_take, e_ok, Cip.bl, okL, okV]) ?_
    simp (config := { maxSteps := 2000000 }) only [CALL, ↓VC, VP, TT, Nat.reduceEqDiff, reduceCtorEq, Nat.reduceAdd, Nat.reduceSub, Nat.reduceLT, Nat.reduceMul, Nat.reducePow, Nat.reduceLeDiff, Int.reduceToNat, Int.reduceLE, Int.reduceLT, Int.reducePow, GOB, Cip.bl, e_inst0, k_inst, k_len, abs_len, enc_len, dig_len, ↓k_all]
    refine ⟨fun h => ?_, fun h => ?_⟩
    · simp only [Bool.not_eq_true', decide_eq_false_iff_not] at h
      refine ⟨_, _, [0, 1], ⟨rfl, rfl⟩, ?_⟩
      simp [-List.reduceReplicate, LES, digE, hB, h] <;> rfl
    · simp only [Bool.not_eq_false', decide_eq_true_eq] at h
      refine ⟨_, _, [0, 1], ⟨rfl, rfl⟩, ?_⟩
      simp [-List.reduceReplicate, LES, digE, hB, h] <;> rfl
/-- What DigestOf hands back. -/
def digO (z : Int) (box A pl : List UInt8) (n : Int) (l : List UInt8) : List UInt8 := if digE z box A pl n l = 0 then digL z.toNat box A pl n.toNat (startL 32) (padM l) else List.replicate 32 0
theorem digO_k (c : Cip) {l : List UInt8} (h : l.length ≤ 2000) : digE c.m c.box c.A c.pl c.n l = 0 ∧ digO c.m c.box c.A c.pl c.n l = c.dig l := by
  have e : digE c.m c.box c.A c.pl c.n l = 0 := by unfold digE; rw [c.is, if_pos rfl, if_pos h]
  refine ⟨e, ?_⟩
  unfold digO
  rw [if_pos e]; rfl
theorem digE_ne {z n : Int} {box A pl l : List UInt8} (h : ¬ (cipB z box A pl n = true ∧ l.length ≤ 2000)) : digE z box A pl n l ≠ 0 := by
  unfold digE
  split
  · rename_i h1
    rw [if_neg (fun h2 => h ⟨h1, h2⟩)]; decide
  · decide
theorem c_impl_DigestOf (z n : Int) (box A pl l : List UInt8) (q : Nat) (hq : l.length ≤ q) (hb : box.length = 256) (hA : A.length = 16) (hp : pl.length = 16) (hl : l.length ≤ 2097152) : LC Tryz.prog 25 [.a (cipC z box A pl n), .s 0 0 l.length q] [⟨false, bs l⟩]
    (fun v hp => v = .t [.a (bs (digO z box A pl n l)), .c (.int .i64 (digE z box A pl n l))] ∧ hp = [⟨false, bs l⟩]) := by
  by_cases hB : cipB z box A pl n = true ∧ l.length ≤ 2000
  · obtain ⟨hB, h2⟩ := hB
    have key := c_impl_checkDigest1 z n box A pl l q hb hA hp
    obtain ⟨c, rfl, rfl, rfl, rfl, rfl⟩ := cip_of hb hA hp hB
    obtain ⟨e1, e2⟩ := digO_k c h2
    rw [e1] at key ⊢
    rw [e2, show cipC c.m c.box c.A c.pl c.n = c.cells from rfl] at *
    refine LC_of (X := XX (fun _ => .nil) (fun _ => []) [15, 71, 72, 73, 79, 80, 87, 90, 91, 93, 99, 119, 137, 176, 177, 203, 204, 212, 219] 1) envOK Tryz.func25 (by kernel_rfl) (by kernel_rfl) rfl (Nat.le_of_ble_eq_true (by kernel_rfl)) ?_
    simp only [kFun, Tryz.f25, List.length_nil, List.length_cons, Nat.sub_zero, Nat.reduceSub, Nat.reduceAdd, List.nil_append, List.cons_append, List.replicate_succ, List.replicate_zero]
    simp only [XX, ↓VC, VP, TT, Nat.reduceEqDiff, reduceCtorEq, Nat.reduceAdd, Nat.reduceSub, Nat.reduceLT, Nat.reduceMul, Nat.reducePow, Nat.reduceLeDiff, Int.reduceToNat, Int.reduceLE, Int.reduceLT, Int.reducePow, k_len, ↓k_all]
    refine kCall_val (key) (by rfl) [(3, 0), (0, 0)] (by simp [CALL, SCB, instL_cip, okL_cip, k_inst, k_ok, e_inst, e_take, e_ok, Cip.bl, okL, okV]) (by simp [CALL, SCB, instL_cip, okL_cip, k_inst, k_ok, e_inst, e_take, e_ok, Cip.bl, okL, okV]) (by simp [CALL, SCB, instL_cip, okL_cip, k_inst, k_ok, e_inst, e_take, e_ok, Cip.bl, okL, okV]) (by simp [okL_bs, okL_room, okL, okV, instL_cip, okL_cip, k_inst, k_ok, e_inst, e_take, e_ok, Cip.bl, okL, okV]) ?_
    simp (config := { maxSteps := 2000000 }) only [CALL, ↓VC, VP, TT, Nat.reduceEqDiff, reduceCtorEq, Nat.reduceAdd, Nat.reduceSub, Nat.reduceLT, Nat.reduceMul, Nat.reducePow, Nat.reduceLeDiff, Int.reduceToNat, Int.reduceLE, Int.reduceLT, Int.reducePow, GOB, Cip.bl, e_inst0, k_inst, k_len, abs_len, enc_len, dig_len, ↓k_all, bne_self_eq_false]
    refine kCall_Ret (k_newEngine c) (by rfl) [] (by simp [CALL, SCB, instL_cip, okL_cip, k_inst, k_ok, e_inst, e_take, e_ok, Cip.bl, okL, okV]) (by simp [CALL, SCB, instL_cip, okL_cip, k_inst, k_ok, e_inst, e_take, e_ok, Cip.bl, okL, okV]) (by simp [CALL, SCB, instL_cip, okL_cip, k_inst, k_ok, e_inst, e_take, e_ok, Cip.bl, okL, okV]) (by simp [okL_bs, okL_room, okL, okV, instL_cip, okL_cip, k_inst, k_ok, e_inst, e_take, e_ok, Cip.bl, okL, okV]) (by simp [CALL, SCB, instL_cip, okL_cip, k_inst, k_ok, e_inst, e_take, e_ok, Cip.bl, okL, okV]) fun _ _ => ?_
    simp (config := { maxSteps := 2000000 }) only [CALL, ↓VC, VP, TT, Nat.reduceEqDiff, reduceCtorEq, Nat.reduceAdd, Nat.reduceSub, Nat.reduceLT, Nat.reduceMul, Nat.reducePow, Nat.reduceLeDiff, Int.reduceToNat, Int.reduceLE, Int.reduceLT, Int.reducePow, GOB, Cip.bl, e_inst0, k_inst, k_len, abs_len, enc_len, dig_len, ↓k_all]
    refine kCall_val (k_digest1 c l q hq hl) (by rfl) [(4, 0), (5, 0), (6, 0), (7, 0), (0, 0)] (by simp [CALL, SCB, instL_cip, okL_cip, k_inst, k_ok, e_inst, e_take, e_ok, Cip.bl, okL, okV]) (by simp [CALL, SCB, instL_cip, okL_cip, k_inst, k_ok, e_inst, e_take, e_ok, Cip.bl, okL, okV]) (by simp [CALL, SCB, instL_cip, okL_cip, k_inst, k_ok, e_inst, e_take, e_ok, Cip.bl, okL, okV]) (by simp [okL_bs, okL_room, okL, okV, instL_cip, okL_cip, k_inst, k_ok, e_inst, e_take, e_ok, Cip.bl, okL, okV]) ?_
    simp (config := { maxSteps := 2000000 }) only [CALL, ↓VC, VP, TT, Nat.reduceEqDiff, reduceCtorEq, Nat.reduceAdd, Nat.reduceSub, Nat.reduceLT, Nat.reduceMul, Nat.reducePow, Nat.reduceLeDiff, Int.reduceToNat, Int.reduceLE, Int.reduceLT, Int.reducePow, GOB, Cip.bl, e_inst0, k_inst, k_len, abs_len, enc_len, dig_len, ↓k_all]
    refine ⟨_, _, [0], ⟨rfl, rfl⟩, ?_⟩
    simp [-List.reduceReplicate, LES] <;> rfl
  · have hE := digE_ne hB
    have key := c_impl_checkDigest1 z n box A pl l q hb hA hp
    have e : digO z box A pl n l = List.replicate 32 0 := by unfold digO; rw [if_neg hE]
    rw [e]
    refine LC_of (X := XX (fun _ => .nil) (fun _ => []) [15, 71, 72, 73, 79, 80, 87, 90, 91, 93, 99, 119, 137, 176, 177, 203, 204, 212, 219] 1) envOK Tryz.func25 (by kernel_rfl) (by kernel_rfl) rfl (Nat.le_of_ble_eq_true (by kernel_rfl)) ?_
    simp only [kFun, Tryz.f25, List.length_nil, List.length_cons, Nat.sub_zero, Nat.reduceSub, Nat.reduceAdd, List.nil_append, List.cons_append, List.replicate_succ, List.replicate_zero]
    simp only [XX, ↓VC, VP, TT, Nat.reduceEqDiff, reduceCtorEq, Nat.reduceAdd, Nat.reduceSub, Nat.reduceLT, Nat.reduceMul, Nat.reducePow, Nat.reduceLeDiff, Int.reduceToNat, Int.reduceLE, Int.reduceLT, Int.reducePow, cipC_len hb hA hp, ↓cip_all hb hA hp]
    refine kCall_val (key) (by rfl) [(3, 0), (0, 0)] (by simp [CALL, SCB, instL_cip, okL_cip, k_inst, k_ok, e_inst, e_take, e_ok, Cip.bl, okL, okV]) (by simp [CALL, SCB, instL_cip, okL_cip, k_inst, k_ok, e_inst, e_take, e_ok, Cip.bl, okL, okV]) (by simp [CALL, SCB, instL_cip, okL_cip, k_inst, k_ok, e_inst, e_take, e_ok, Cip.bl, okL, okV]) (by simp [okL_bs, okL_room, okL, okV, instL_cip, okL_cip, k_inst, k_ok, e_inst, e_take, e_ok, Cip.bl, okL, okV]) ?_
    simp (config := { maxSteps := 2000000 }) only [CALL, ↓VC, VP, TT, Nat.reduceEqDiff, reduceCtorEq, Nat.reduceAdd, Nat.reduceSub, Nat.reduceLT, Nat.reduceMul, Nat.reducePow, Nat.reduceLeDiff, Int.reduceToNat, Int.reduceLE, Int.reduceLT, Int.reducePow, GOB, Cip.bl, e_inst0, k_inst, k_len, abs_len, enc_len, dig_len, ↓k_all, (bne_iff_ne.2 hE : (digE z box A pl n l != 0) = true)]
    refine ⟨_, _, [0], ⟨rfl, rfl⟩, ?_⟩
    simp [-List.reduceReplicate, LES] <;> rfl
end Go.Proofs.YtahnjhppkgndiaaGreat

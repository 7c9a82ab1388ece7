import Derived.Test.YtahnjhppkgndiaaGreatCip
import Derived.Test.YtahnjhppkgndiaaGreatListsM
import Derived.Test.YtahnjhppkgndiaaGreatConcatB
import Derived.Test.YtahnjhppkgndiaaGreatDecI
import Derived.Test.YtahnjhppkgndiaaGreatEngN
/- Modes: the codes of faults; counting: the reference. -/
set_option linter.unusedSimpArgs false
set_option linter.unusedVariables false
namespace Go.Proofs.YtahnjhppkgndiaaGreat
open Go Go.Vc
set_option maxRecDepth 10000
set_option maxHeartbeats 4000000
theorem mapT_succ {n i : Nat} {g : Nat → UInt8} (h : i < n) : ((List.range n).map g).take (i + 1) = ((List.range n).map g).take i ++ [g i] := by
  rw [List.take_add_one, List.getElem?_map, List.getElem?_range h]; rfl
theorem cntL_succ {enc : List UInt8 → List UInt8} {start l : List UInt8} {i : Nat} (h : i < l.length) : (cntL enc start l).take (i + 1) = (cntL enc start l).take i ++ [l.getD i 0 ^^^ (enc (cntB start (i / 16))).getD (i % 16) 0] := mapT_succ h
theorem fedL_succ {enc : List UInt8 → List UInt8} {b : Bool} {start l : List UInt8} {i : Nat} (h : i < l.length) : (fedL enc b start l).take (i + 1) = (fedL enc b start l).take i ++ [l.getD i 0 ^^^ (enc (fedH enc b start l (i / 16))).getD (i % 16) 0] := mapT_succ h
theorem nxtL_len : ∀ (j : Nat) (s : List UInt8), (nxtL j s).length = s.length
  | 0, _ => rfl
  | j + 1, s => by
    rw [nxtL]
    split
    · rw [nxtL_len j, List.length_set]
    · rw [List.length_set]
/-- The code of a fault of a cipher and a number of bytes. -/
def modE (z : Int) (box A pl : List UInt8) (n len least most : Int) : Int := if cipB z box A pl n then (if len < least ∨ most < len then 2 else 0) else 1
theorem c_spec_l07Code (z n : Int) (box A pl : List UInt8) (hb : box.length = 256) (hA : A.length = 16) (hp : pl.length = 16) (len least most : Int) : LC Tryz.prog 130 [.a (cipC z box A pl n), .c (.int .i64 (len)), .c (.int .i64 (least)), .c (.int .i64 (most))] [] (fun v hp => v = .c (.int .i64 (modE z box A pl n len least most)) ∧ hp = []) := by
  refine LC_of (X := XX (fun _ => .nil) (fun _ => []) [15, 71, 72, 73, 79, 80, 87, 90, 91, 93, 99, 119, 137, 176, 177, 203, 204, 212, 219] 0) envOK Tryz.func130 (by kernel_rfl) (by kernel_rfl) rfl (Nat.le_of_ble_eq_true (by kernel_rfl)) ?_
  simp only [kFun, Tryz.f130, List.length_nil, List.length_cons, Nat.sub_zero, Nat.reduceSub, Nat.reduceAdd, List.nil_append, List.cons_append, List.replicate_succ, List.replicate_zero]
  simp only [XX, ↓VC, VP, TT, Nat.reduceEqDiff, reduceCtorEq, Nat.reduceAdd, Nat.reduceSub, Nat.reduceLT, Nat.reduceMul, Nat.reducePow, Nat.reduceLeDiff, Int.reduceToNat, Int.reduceLE, Int.reduceLT, Int.reducePow, cipC_len hb hA hp, ↓cip_all hb hA hp]
  refine kCall_val (c_spec_l04Is z n box A pl hb hA hp) (by rfl) [] (by simp [CALL, SCB, instL_cip, okL_cip, k_inst, k_ok, okL, okV, cntB_len]) (by simp [CALL, SCB, instL_cip, okL_cip, k_inst, k_ok, okL, okV, cntB_len]) (by simp [CALL, SCB, instL_cip, okL_cip, k_inst, k_ok, okL, okV, cntB_len]) (by simp [okL_bs, okL_room, okL, okV, instL_cip, okL_cip, k_inst, k_ok, okL, okV, cntB_len]) ?_
  simp (config := { maxSteps := 2000000 }) only [CALL, ↓VC, VP, TT, Nat.reduceEqDiff, reduceCtorEq, Nat.reduceAdd, Nat.reduceSub, Nat.reduceLT, Nat.reduceMul, Nat.reducePow, Nat.reduceLeDiff, Int.reduceToNat, Int.reduceLE, Int.reduceLT, Int.reducePow, GOB, k_len, ↓k_all, enc_len, cntB_len]
  cases hB : cipB z box A pl n with
  | false =>
    simp only [↓VC, VP, TT, Nat.reduceEqDiff, reduceCtorEq, Nat.reduceAdd, Nat.reduceSub, Nat.reduceLT, Nat.reduceMul, Nat.reducePow, Nat.reduceLeDiff, Int.reduceToNat, Int.reduceLE, Int.reduceLT, Int.reducePow, Bool.not_false]
    refine ⟨_, _, [], ⟨rfl, rfl⟩, ?_⟩
    simp [-List.reduceReplicate, LES, modE, hB] <;> rfl
  | true =>
    simp only [↓VC, VP, TT, Nat.reduceEqDiff, reduceCtorEq, Nat.reduceAdd, Nat.reduceSub, Nat.reduceLT, Nat.reduceMul, Nat.reducePow, Nat.reduceLeDiff, Int.reduceToNat, Int.reduceLE, Int.reduceLT, Int.reducePow, Bool.not_true]
    refine kGd_split rfl (fun h1 => ?_) (fun h1 => ?_)
    · rw [decide_eq_true_eq] at h1
      simp only [↓VC, VP, TT, Nat.reduceEqDiff, reduceCtorEq, Nat.reduceAdd, Nat.reduceSub, Nat.reduceLT, Nat.reduceMul, Nat.reducePow, Nat.reduceLeDiff, Int.reduceToNat, Int.reduceLE, Int.reduceLT, Int.reducePow]
      refine ⟨_, _, [], ⟨rfl, rfl⟩, ?_⟩
      simp [-List.reduceReplicate, LES, modE, hB, h1] <;> rfl
    · rw [decide_eq_false_iff_not] at h1
      simp only [↓VC, VP, TT, Nat.reduceEqDiff, reduceCtorEq, Nat.reduceAdd, Nat.reduceSub, Nat.reduceLT, Nat.reduceMul, Nat.reducePow, Nat.reduceLeDiff, Int.reduceToNat, Int.reduceLE, Int.reduceLT, Int.reducePow]
      refine ⟨fun h2 => ?_, fun h2 => ?_⟩
      · refine ⟨_, _, [], ⟨rfl, rfl⟩, ?_⟩
        simp [-List.reduceReplicate, LES, modE, hB, h1, h2] <;> rfl
      · refine ⟨_, _, [], ⟨rfl, rfl⟩, ?_⟩
        simp [-List.reduceReplicate, LES, modE, hB, h1, h2] <;> rfl
end Go.Proofs.YtahnjhppkgndiaaGreat
/- Feedback: the reference. -/
set_option linter.unusedSimpArgs false
set_option linter.unusedVariables false
namespace Go.Proofs.YtahnjhppkgndiaaGreat
open Go Go.Vc
set_option maxRecDepth 10000
set_option maxHeartbeats 4000000
/-- A block of at most 16 bytes, filled up with 0. -/
def fillB (l : List UInt8) : List UInt8 := fl 16 (fun _ => 0) (fun i => l.getD i 0) l.length
theorem fillB_len (l : List UInt8) : (fillB l).length = 16 := fl_len _ _ _ _
theorem fillB_get {l : List UInt8} {j : Nat} (h : j < 16) : (fillB l).getD j 0 = l.getD j 0 := by
  unfold fillB; rw [fl_get h]
  split
  · rfl
  · rw [List.getD_eq_getElem?_getD, List.getElem?_eq_none (by omega)]; rfl
theorem fillB_full {l : List UInt8} (h : l.length = 16) : fillB l = l := by
  unfold fillB; rw [h, fl_done, range_getD h]
theorem mapT_add {n a : Nat} {g : Nat → UInt8} : ∀ m, a + m ≤ n → ((List.range n).map g).take (a + m) = ((List.range n).map g).take a ++ (List.range m).map fun j => g (a + j)
  | 0, _ => by simp
  | m + 1, h => by rw [← Nat.add_assoc, mapT_succ (by omega), mapT_add m (by omega), List.range_succ, List.map_append, List.append_assoc]; rfl
theorem fedL_block {enc : List UInt8 → List UInt8} {b : Bool} {start l P : List UInt8} {k : Nat} (h : 16 * k < l.length) (hP : P = (l.drop (16 * k)).take 16) : (fedL enc b start l).take (16 * k) ++ (xorN 16 (fillB P) (enc (fedH enc b start l k))).take P.length = (fedL enc b start l).take (16 * (k + 1)) := by
  have hl : P.length = min 16 (l.length - 16 * k) := by rw [hP, List.length_take, List.length_drop]
  have e : (fedL enc b start l).take (16 * (k + 1)) = (fedL enc b start l).take (16 * k + P.length) := by
    rcases Nat.lt_or_ge (l.length - 16 * k) 16 with h2 | h2
    · rw [List.take_of_length_le (by rw [fedL_len]; omega), List.take_of_length_le (by rw [fedL_len]; omega)]
    · rw [hl, Nat.min_eq_left h2, Nat.mul_succ]
  rw [e]
  unfold fedL
  rw [mapT_add P.length (by omega)]
  congr 1
  unfold xorN tab
  rw [← List.map_take, List.take_range, Nat.min_eq_left (by omega)]
  refine List.map_congr_left fun j hj => ?_
  rw [List.mem_range] at hj
  rw [fillB_get (by omega), show (16 * k + j) / 16 = k by omega, show (16 * k + j) % 16 = j by omega, hP]
  congr 1
  simp only [List.getD_eq_getElem?_getD, List.getElem?_take, List.getElem?_drop, show j < 16 by omega, if_true]
theorem fedH_own {enc : List UInt8 → List UInt8} {start l : List UInt8} {k : Nat} (h : 16 * (k + 1) ≤ l.length) : xorN 16 (fillB ((l.drop (16 * k)).take 16)) (enc (fedH enc false start l k)) = fedH enc false start l (k + 1) := by
  rw [fedH, if_neg (by simp)]
  refine tab_congr fun j hj => ?_
  rw [fillB_get hj]
  congr 1
  simp only [List.getD_eq_getElem?_getD, List.getElem?_take, List.getElem?_drop, hj, if_true]
theorem fedH_back {enc : List UInt8 → List UInt8} {start l : List UInt8} {k : Nat} (h : 16 * (k + 1) ≤ l.length) : fillB ((l.drop (16 * k)).take 16) = fedH enc true start l (k + 1) := by
  rw [fedH, if_pos rfl, fillB_full (by rw [List.length_take, List.length_drop]; omega)]
theorem seg_blk {l P : List UInt8} {k : Nat} (hP : (l.drop (16 * k)).take 16 = P) : List.take P.length (List.drop (16 * k) (bs l)) = bs P := by
  rw [bs_drop, bs_take, ← hP]
  congr 1
  rw [List.length_take, List.length_drop]
  rcases Nat.le_total 16 (l.length - 16 * k) with h2 | h2
  · rw [Nat.min_eq_left h2]
  · rw [Nat.min_eq_right h2, List.take_of_length_le (by rw [List.length_drop]; omega), List.take_of_length_le (by rw [List.length_drop]; omega)]
theorem c_spec_l07Fill (l : List UInt8) (cp : Nat) (hc : l.length ≤ cp) (h16 : l.length ≤ 16) : LC Tryz.prog 173 [.s 0 0 l.length cp] [⟨false, bs l⟩] (fun v hp => v = .a (bs (fillB l)) ∧ hp = [⟨false, bs l⟩]) := by
  refine LC_of (X := XX (fun _ => .nil) (fun _ => []) [15, 71, 72, 73, 79, 80, 87, 90, 91, 93, 99, 119, 137, 176, 177, 203, 204, 212, 219] 1) envOK Tryz.func173 (by kernel_rfl) (by kernel_rfl) rfl (Nat.le_of_ble_eq_true (by kernel_rfl)) ?_
  simp only [kFun, Tryz.f173, List.length_nil, List.length_cons, Nat.sub_zero, Nat.reduceSub, Nat.reduceAdd, List.nil_append, List.cons_append, List.replicate_succ, List.replicate_zero]
  simp only [XX, ↓VC, VP, TT, Nat.reduceEqDiff, reduceCtorEq, Nat.reduceAdd, Nat.reduceSub, Nat.reduceLT, Nat.reduceMul, Nat.reducePow, Nat.reduceLeDiff, Int.reduceToNat, Int.reduceLE, Int.reduceLT, Int.reducePow]
  refine kLoop_of (fun i : Nat => ([.s 0 0 l.length cp, .j, .p 1 0, .p 2 0, .c (.int .i64 (i)), .j, .j, .j, .j, .j, .j, .j, .j, .j, .j, .j, .j, .j, .j], [⟨false, bs l⟩, ⟨true, bs (List.replicate 16 0)⟩, ⟨true, bs (fl 16 (fun _ => 0) (fun i => l.getD i 0) i)⟩])) (fun i => l.length - i) (fun i => i ≤ l.length) 0 (by omega)
    ⟨[0, 1, 2], by rw [← fl_zero]; simp [-List.reduceReplicate, LES]⟩ ?_
  intro i hi
  rcases Nat.lt_or_ge i l.length with h | h
  · have h2 : i < 16 := by omega
    simp only [↓VC, VP, TT, Nat.reduceEqDiff, reduceCtorEq, Nat.reduceAdd, Nat.reduceSub, Nat.reduceLT, Nat.reduceMul, Nat.reducePow, Nat.reduceLeDiff, Int.reduceToNat, Int.reduceLE, Int.reduceLT, Int.reducePow, fl_len, (eq_true (by omega) : ((i : Int) < (l.length : Int)) = True), decide_true, h2, (eq_true (by omega) : ((i : Int) < 16) = True), (eq_true (by omega) : ((i : Int) < ((16 : Nat) : Int)) = True), wrap_i64 (n := (i : Int) + 1) (by omega) (by omega), decide_true]
    try rw [fl_set h2 rfl]
    repeat' apply And.intro
    all_goals first | omega | skip
    refine ⟨i + 1, by omega, by omega, [0, 1, 2], ?_⟩
    simp [-List.reduceReplicate, LES]
  · obtain rfl : i = l.length := by omega
    simp only [↓VC, VP, TT, Nat.reduceEqDiff, reduceCtorEq, Nat.reduceAdd, Nat.reduceSub, Nat.reduceLT, Nat.reduceMul, Nat.reducePow, Nat.reduceLeDiff, Int.reduceToNat, Int.reduceLE, Int.reduceLT, Int.reducePow, fl_len, (eq_false (by omega) : ((l.length : Int) < (l.length : Int)) = False), decide_false]
    refine ⟨_, _, [0], ⟨rfl, rfl⟩, ?_⟩
    simp [-List.reduceReplicate, LES, fillB]
end Go.Proofs.YtahnjhppkgndiaaGreat
/- Modes: the codes of faults; counting: the program. -/
set_option linter.unusedSimpArgs false
set_option linter.unusedVariables false
namespace Go.Proofs.YtahnjhppkgndiaaGreat
open Go Go.Vc
set_option maxRecDepth 10000
set_option maxHeartbeats 4000000
theorem c_impl_checkMode (z n : Int) (box A pl l : List UInt8) (q : Nat) (hb : box.length = 256) (hA : A.length = 16) (hp : pl.length = 16) (least most : Int) : LC Tryz.prog 127 [.a (cipC z box A pl n), .s 0 0 l.length q, .c (.int .i64 (least)), .c (.int .i64 (most))] [⟨false, bs l⟩] (fun v hp => v = .c (.int .i64 (modE z box A pl n l.length least most)) ∧ hp = [⟨false, bs l⟩]) := by
  refine LC_of (X := XX (fun _ => .nil) (fun _ => []) [15, 71, 72, 73, 79, 80, 87, 90, 91, 93, 99, 119, 137, 176, 177, 203, 204, 212, 219] 1) envOK Tryz.func127 (by kernel_rfl) (by kernel_rfl) rfl (Nat.le_of_ble_eq_true (by kernel_rfl)) ?_
  simp only [kFun, Tryz.f127, List.length_nil, List.length_cons, Nat.sub_zero, Nat.reduceSub, Nat.reduceAdd, List.nil_append, List.cons_append, List.replicate_succ, List.replicate_zero]
  simp only [XX, ↓VC, VP, TT, Nat.reduceEqDiff, reduceCtorEq, Nat.reduceAdd, Nat.reduceSub, Nat.reduceLT, Nat.reduceMul, Nat.reducePow, Nat.reduceLeDiff, Int.reduceToNat, Int.reduceLE, Int.reduceLT, Int.reducePow, cipC_len hb hA hp, ↓cip_all hb hA hp]
  refine kCall_val (c_impl_IsCipher z n box A pl hb hA hp) (by rfl) [] (by simp [CALL, SCB, e_inst, e_take, e_ok, okL, okV, Cip.bl, Cip.kbl, Cip.kd, keysB_take, instL_cip, okL_cip, k_inst, k_ok, cntB_len]) (by simp [CALL, SCB, e_inst, e_take, e_ok, okL, okV, Cip.bl, Cip.kbl, Cip.kd, keysB_take, instL_cip, okL_cip, k_inst, k_ok, cntB_len]) (by simp [CALL, SCB, e_inst, e_take, e_ok, okL, okV, Cip.bl, Cip.kbl, Cip.kd, keysB_take, instL_cip, okL_cip, k_inst, k_ok, cntB_len]) (by simp [okL_bs, okL_room, okL, okV, e_inst, e_take, e_ok, okL, okV, Cip.bl, Cip.kbl, Cip.kd, keysB_take, instL_cip, okL_cip, k_inst, k_ok, cntB_len]) ?_
  simp (config := { maxSteps := 2000000 }) only [CALL, ↓VC, VP, TT, Nat.reduceEqDiff, reduceCtorEq, Nat.reduceAdd, Nat.reduceSub, Nat.reduceLT, Nat.reduceMul, Nat.reducePow, Nat.reduceLeDiff, Int.reduceToNat, Int.reduceLE, Int.reduceLT, Int.reducePow, GOB, Cip.bl, Cip.kbl, Cip.kd, e_inst0, e_inst, enc_len, cntB_len]
  cases hB : cipB z box A pl n with
  | false =>
    simp only [↓VC, VP, TT, Nat.reduceEqDiff, reduceCtorEq, Nat.reduceAdd, Nat.reduceSub, Nat.reduceLT, Nat.reduceMul, Nat.reducePow, Nat.reduceLeDiff, Int.reduceToNat, Int.reduceLE, Int.reduceLT, Int.reducePow, Bool.not_false]
    refine ⟨_, _, [0], ⟨rfl, rfl⟩, ?_⟩
    simp [-List.reduceReplicate, LES, modE, hB] <;> rfl
  | true =>
    simp only [↓VC, VP, TT, Nat.reduceEqDiff, reduceCtorEq, Nat.reduceAdd, Nat.reduceSub, Nat.reduceLT, Nat.reduceMul, Nat.reducePow, Nat.reduceLeDiff, Int.reduceToNat, Int.reduceLE, Int.reduceLT, Int.reducePow, Bool.not_true]
    refine kGd_split rfl (fun h1 => ?_) (fun h1 => ?_)
    · rw [decide_eq_true_eq] at h1
      simp only [↓VC, VP, TT, Nat.reduceEqDiff, reduceCtorEq, Nat.reduceAdd, Nat.reduceSub, Nat.reduceLT, Nat.reduceMul, Nat.reducePow, Nat.reduceLeDiff, Int.reduceToNat, Int.reduceLE, Int.reduceLT, Int.reducePow]
      refine ⟨_, _, [0], ⟨rfl, rfl⟩, ?_⟩
      simp [-List.reduceReplicate, LES, modE, hB, h1] <;> rfl
    · rw [decide_eq_false_iff_not] at h1
      simp only [↓VC, VP, TT, Nat.reduceEqDiff, reduceCtorEq, Nat.reduceAdd, Nat.reduceSub, Nat.reduceLT, Nat.reduceMul, Nat.reducePow, Nat.reduceLeDiff, Int.reduceToNat, Int.reduceLE, Int.reduceLT, Int.reducePow]
      refine ⟨fun h2 => ?_, fun h2 => ?_⟩
      · refine ⟨_, _, [0], ⟨rfl, rfl⟩, ?_⟩
        simp [-List.reduceReplicate, LES, modE, hB, h1, h2] <;> rfl
      · refine ⟨_, _, [0], ⟨rfl, rfl⟩, ?_⟩
        simp [-List.reduceReplicate, LES, modE, hB, h1, h2] <;> rfl
theorem or_u64 {x : Nat} (u : UInt8) (h : x < 2 ^ 56) : bitI .or .u64 (IntKind.u64.wrap ((x : Int) * 2 ^ min 8 64)) (IntKind.u64.wrap (u.toNat : Int)) = ((x * 256 + u.toNat : Nat) : Int) := by
  have hu := u.toNat_lt
  have e : ((x : Int) * 2 ^ min 8 64) = ((x * 256 : Nat) : Int) := by simp
  rw [e, wrap_u64 (by omega) (by omega), wrap_u64 (by omega) (by omega)]
  show IntKind.u64.wrap (((BitVec.ofInt 64 ((x * 256 : Nat) : Int)) ||| (BitVec.ofInt 64 ((u.toNat : Nat) : Int))).toNat : Int) = _
  rw [BitVec.ofInt_natCast, BitVec.ofInt_natCast]
  have e2 : (BitVec.ofNat 64 (x * 256) ||| BitVec.ofNat 64 u.toNat).toNat = x * 256 + u.toNat := by
    rw [BitVec.toNat_or, BitVec.toNat_ofNat, BitVec.toNat_ofNat, Nat.mod_eq_of_lt (by omega), Nat.mod_eq_of_lt (by omega)]
    have := Nat.shiftLeft_add_eq_or_of_lt (b := u.toNat) (i := 8) (by omega) x
    rw [Nat.shiftLeft_eq, show 2 ^ 8 = 256 from rfl] at this
    omega
  rw [e2, wrap_u64 (by omega) (by omega)]
theorem num_snoc {l : List UInt8} {i : Nat} (h : i < l.length) : numL (l.take (i + 1)) = numL (l.take i) * 256 + (l.getD i 0).toNat := by
  rw [List.take_add_one, List.getElem?_eq_getElem h]
  simp only [numL, Option.toList, List.foldl_append, List.foldl_cons, List.foldl_nil, List.getD, List.getElem?_eq_getElem h, Option.getD_some]
theorem num_take {l : List UInt8} : ∀ {i : Nat}, i ≤ l.length → numL (l.take i) < 256 ^ i
  | 0, _ => by simp [numL]
  | i + 1, h => by
    have := num_take (l := l) (i := i) (by omega)
    have hu := (l.getD i 0).toNat_lt
    rw [num_snoc (by omega), Nat.pow_succ]
    omega
end Go.Proofs.YtahnjhppkgndiaaGreat
/- Chaining: the reference. -/
set_option linter.unusedSimpArgs false
set_option linter.unusedVariables false
namespace Go.Proofs.YtahnjhppkgndiaaGreat
open Go Go.Vc
set_option maxRecDepth 10000
set_option maxHeartbeats 4000000
theorem blkB_load {P : List UInt8} {i : Nat} {k : V → Prop} (h : 16 * i + 16 ≤ P.length) : vSub (bs P) (i * 16) 16 k = k (.a (bs ((P.drop (16 * i)).take 16))) := by
  rw [vSub_bs, show i * 16 = 16 * i by omega]
  simp; omega
theorem blkR_load {P : List UInt8} {i : Nat} {R : List V} {k : V → Prop} (h : 16 * i + 16 ≤ P.length) : vSub (bs P ++ R) (i * 16) 16 k = k (.a (bs ((P.drop (16 * i)).take 16))) := by
  rw [vSub_appL (by rw [bs_length]; omega), vSub_bs, show i * 16 = 16 * i by omega]
  simp; omega
theorem blkB_len {P : List UInt8} {i : Nat} (h : 16 * i + 16 ≤ P.length) : ((P.drop (16 * i)).take 16).length = 16 := by
  rw [List.length_take, List.length_drop]; omega
/-- The first k blocks of data, the last one filled up with 0. -/
def partsL (l : List UInt8) : Nat → List UInt8
  | 0 => []
  | k + 1 => partsL l k ++ fillB ((l.drop (16 * k)).take 16)
theorem partsL_len (l : List UInt8) : ∀ k, (partsL l k).length = 16 * k
  | 0 => rfl
  | k + 1 => by rw [partsL, List.length_append, partsL_len l k, fillB_len]; omega
theorem partsL_take {l : List UInt8} : ∀ {k : Nat}, 16 * k ≤ l.length → partsL l k = l.take (16 * k)
  | 0, _ => by simp [partsL]
  | k + 1, h => by rw [partsL, partsL_take (by omega), fillB_full (blkB_len (by omega)), show 16 * (k + 1) = 16 * k + 16 by omega, List.take_add]
theorem partsL_full {l : List UInt8} {K : Nat} (h : l.length = 16 * K) : partsL l K = l := by rw [partsL_take (by omega), ← h, List.take_length]
theorem c_spec_l07Parts (l : List UInt8) (cp : Nat) (hc : l.length ≤ cp) (hm : l.length ≤ 4194304) : LC Tryz.prog 133 [.s 0 0 l.length cp] [⟨false, bs l⟩] (Ret [⟨false, bs l⟩] (fun _ : Nat => True) fun r => (.s 1 0 ((l.length + 15) / 16) ((l.length + 15) / 16 + r), [⟨true, bs (partsL l ((l.length + 15) / 16)) ++ List.replicate (16 * r) .j⟩])) := by
  refine LC_of (X := XX (fun _ => .nil) (fun _ => []) [15, 71, 72, 73, 79, 80, 87, 90, 91, 93, 99, 119, 137, 176, 177, 203, 204, 212, 219] 1) envOK Tryz.func133 (by kernel_rfl) (by kernel_rfl) rfl (Nat.le_of_ble_eq_true (by kernel_rfl)) ?_
  simp only [kFun, Tryz.f133, List.length_nil, List.length_cons, Nat.sub_zero, Nat.reduceSub, Nat.reduceAdd, List.nil_append, List.cons_append, List.replicate_succ, List.replicate_zero]
  simp only [XX, ↓VC, VP, TT, Nat.reduceEqDiff, reduceCtorEq, Nat.reduceAdd, Nat.reduceSub, Nat.reduceLT, Nat.reduceMul, Nat.reducePow, Nat.reduceLeDiff, Int.reduceToNat, Int.reduceLE, Int.reduceLT, Int.reducePow]
  refine kLoop_of (fun s : Nat × Nat => ([.s 0 0 l.length cp, .j, .j, .s 1 0 s.1 (s.1 + s.2), .c (.int .i64 ((16 * s.1 : Nat))), .j, .j, .j, .j, .j, .j, .j, .j, .j, .j, .j, .j, .j, .j, .j, .j, .j, .j, .j, .j], [⟨false, bs l⟩, ⟨true, bs (partsL l s.1) ++ List.replicate (16 * s.2) .j⟩])) (fun s => (l.length + 15) / 16 - s.1) (fun s => s.1 ≤ (l.length + 15) / 16) (0, 0) (by simp)
    ⟨[0, 1], by simp [-List.reduceReplicate, LES, bs_nil, partsL]⟩ ?_
  rintro ⟨k, r⟩ hk
  simp only at hk
  have hT := partsL_len l k
  rcases Nat.lt_or_ge (16 * k) l.length with h1 | h1
  · simp only [↓VC, VP, TT, Nat.reduceEqDiff, reduceCtorEq, Nat.reduceAdd, Nat.reduceSub, Nat.reduceLT, Nat.reduceMul, Nat.reducePow, Nat.reduceLeDiff, Int.reduceToNat, Int.reduceLE, Int.reduceLT, Int.reducePow, (eq_true (by omega) : (((16 * k : Nat) : Int) < (l.length : Int)) = True), decide_true]
    generalize hP : (l.drop (16 * k)).take 16 = P
    have hPl : P.length = min 16 (l.length - 16 * k) := by rw [← hP, List.length_take, List.length_drop]
    have hmin : min (IntKind.i64.wrap (((16 * k : Nat) : Int) + 16)) (l.length : Int) = ((16 * k + P.length : Nat) : Int) := by rw [wrap_i64 (by omega) (by omega)]; omega
    have hseg := seg_blk hP
    rw [hmin]
    refine ⟨by omega, by omega, by omega, ?_⟩
    rw [Int.toNat_natCast, Nat.add_sub_cancel_left]
    refine kCall_val (c_spec_l07Fill P (cp - 16 * k) (by omega) (by omega)) (by rfl) [(0, 16 * k)] (by simp [CALL, SCB, instL_cip, okL_cip, k_inst, k_ok, okL, okV, fillB_len, enc_len, xorN_len, hseg]) (by simp [CALL, SCB, instL_cip, okL_cip, k_inst, k_ok, okL, okV, fillB_len, enc_len, xorN_len, hseg]) (by simp [CALL, SCB, instL_cip, okL_cip, k_inst, k_ok, okL, okV, fillB_len, enc_len, xorN_len, hseg]) (by simp [okL_bs, okL_room, okL, okV, instL_cip, okL_cip, k_inst, k_ok, okL, okV, fillB_len, enc_len, xorN_len, hseg]) ?_
    simp (config := { maxSteps := 2000000 }) only [CALL, ↓VC, VP, TT, Nat.reduceEqDiff, reduceCtorEq, Nat.reduceAdd, Nat.reduceSub, Nat.reduceLT, Nat.reduceMul, Nat.reducePow, Nat.reduceLeDiff, Int.reduceToNat, Int.reduceLE, Int.reduceLT, Int.reducePow, GOB, k_len, ↓k_all, enc_len, fillB_len, xorN_len, fillB_len, hT, repl1]
    refine ⟨by omega, by omega, by omega, .inr (by omega), .inr trivial, fun r1 c' hc' _ => ⟨(k + 1, c' - (k + 1)), by simp only; omega, by simp only; omega, [0, 3], ?_⟩⟩
    rw [take_room (by rw [hT]; omega), wrap_i64 (by omega) (by omega), bs_append, show partsL l k ++ fillB P = partsL l (k + 1) by rw [partsL, hP], show r1 = 16 * (c' - (k + 1)) by omega]
    simp [-List.reduceReplicate, LES]
    omega
  · obtain rfl : k = (l.length + 15) / 16 := by omega
    simp only [↓VC, VP, TT, Nat.reduceEqDiff, reduceCtorEq, Nat.reduceAdd, Nat.reduceSub, Nat.reduceLT, Nat.reduceMul, Nat.reducePow, Nat.reduceLeDiff, Int.reduceToNat, Int.reduceLE, Int.reduceLT, Int.reducePow, (eq_false (by omega) : (((16 * ((l.length + 15) / 16) : Nat) : Int) < (l.length : Int)) = False), decide_false]
    refine ⟨_, _, [0, 1], ⟨r, trivial, rfl, rfl⟩, ?_⟩
    simp [-List.reduceReplicate, LES]
theorem c_spec_l07Join (D : List UInt8) (K cp : Nat) (hD : D.length = 16 * K) (hc : K ≤ cp) (hm : K ≤ 262144) : LC Tryz.prog 131 [.s 0 0 K cp] [⟨false, bs D⟩] (Ret [⟨false, bs D⟩] (fun _ : Nat => True) fun r => (.s 1 0 D.length (D.length + r), [⟨true, bs D ++ List.replicate r .j⟩])) := by
  refine LC_of (X := XX (fun _ => .nil) (fun _ => []) [15, 71, 72, 73, 79, 80, 87, 90, 91, 93, 99, 119, 137, 176, 177, 203, 204, 212, 219] 1) envOK Tryz.func131 (by kernel_rfl) (by kernel_rfl) rfl (Nat.le_of_ble_eq_true (by kernel_rfl)) ?_
  simp only [kFun, Tryz.f131, List.length_nil, List.length_cons, Nat.sub_zero, Nat.reduceSub, Nat.reduceAdd, List.nil_append, List.cons_append, List.replicate_succ, List.replicate_zero]
  simp only [XX, ↓VC, VP, TT, Nat.reduceEqDiff, reduceCtorEq, Nat.reduceAdd, Nat.reduceSub, Nat.reduceLT, Nat.reduceMul, Nat.reducePow, Nat.reduceLeDiff, Int.reduceToNat, Int.reduceLE, Int.reduceLT, Int.reducePow]
  refine kLoop_of (fun s : Nat × Nat => ([.s 0 0 K cp, .j, .j, .s 1 0 (16 * s.1) (16 * s.1 + s.2), .c (.int .i64 (s.1)), .j, .j, .j, .j, .j, .j, .j, .j, .j, .j, .j, .j, .j, .j], [⟨false, bs D⟩, ⟨true, bs (D.take (16 * s.1)) ++ List.replicate s.2 .j⟩])) (fun s => K - s.1) (fun s => s.1 ≤ K) (0, 0) (by simp)
    ⟨[0, 1], by simp [-List.reduceReplicate, LES, bs_nil]⟩ ?_
  rintro ⟨k, r⟩ hk
  simp only at hk
  have hT : (D.take (16 * k)).length = 16 * k := by rw [List.length_take]; omega
  rcases Nat.lt_or_ge k K with h1 | h1
  · simp only [↓VC, VP, TT, Nat.reduceEqDiff, reduceCtorEq, Nat.reduceAdd, Nat.reduceSub, Nat.reduceLT, Nat.reduceMul, Nat.reducePow, Nat.reduceLeDiff, Int.reduceToNat, Int.reduceLE, Int.reduceLT, Int.reducePow, (eq_true (by omega) : ((k : Int) < (K : Int)) = True), decide_true]
    refine ⟨by omega, by omega, by omega, .inr (by omega), .inr (by omega), fun r1 c' hc' _ => ⟨(k + 1, r1), by simp only; omega, by simp only; omega, [0, 2], ?_⟩⟩
    rw [take_room hT.symm, wrap_i64 (by omega) (by omega), Nat.add_zero, bs_drop, bs_take, bs_append, show List.drop (k * 16 + 0) D = List.drop (16 * k) D by congr 1; omega, ← List.take_add, show 16 * k + 16 = 16 * (k + 1) by omega, hc']
    simp [-List.reduceReplicate, LES]
    omega
  · obtain rfl : k = K := by omega
    simp only [↓VC, VP, TT, Nat.reduceEqDiff, reduceCtorEq, Nat.reduceAdd, Nat.reduceSub, Nat.reduceLT, Nat.reduceMul, Nat.reducePow, Nat.reduceLeDiff, Int.reduceToNat, Int.reduceLE, Int.reduceLT, Int.reducePow, (eq_false (by omega) : ((k : Int) < (k : Int)) = False), decide_false]
    rw [List.take_of_length_le (by omega), ← hD]
    refine ⟨_, _, [0, 1], ⟨r, trivial, rfl, rfl⟩, ?_⟩
    simp [-List.reduceReplicate, LES]
theorem k_spec_chain (c : Cip) (key start D : List UInt8) (K cp : Nat) (hk : key.length = 16) (hs : start.length = 16) (hD : D.length = 16 * K) (hc : K ≤ cp) (hm : K ≤ 262144) : LC Tryz.prog 132 [.a c.cells, .a (bs key), .a (bs start), .s 0 0 K cp] [⟨false, bs D⟩] (Ret [⟨false, bs D⟩] (fun _ : Nat => True) fun r => (.s 1 0 K (K + r), [⟨true, bs (chnL (c.enc key) start D K) ++ List.replicate (16 * r) .j⟩])) := by
  refine LC_of (X := XX (fun | 5 => .one 0 (.one 1 (.one 2 (.one 3 (.one 4 (.one 5 (.one 6 (.one 8 (.one 9 (.one 7 (.one 10 (.one 11 .nil))))))))))) | _ => .nil) (fun _ => []) [15, 71, 72, 73, 79, 80, 87, 90, 91, 93, 99, 119, 137, 176, 177, 203, 204, 212, 219] 1) envOK Tryz.func132 (by kernel_rfl) (by kernel_rfl) rfl (Nat.le_of_ble_eq_true (by kernel_rfl)) ?_
  simp only [kFun, Tryz.f132, List.length_nil, List.length_cons, Nat.sub_zero, Nat.reduceSub, Nat.reduceAdd, List.nil_append, List.cons_append, List.replicate_succ, List.replicate_zero]
  simp only [XX, ↓VC, VP, TT, Nat.reduceEqDiff, reduceCtorEq, Nat.reduceAdd, Nat.reduceSub, Nat.reduceLT, Nat.reduceMul, Nat.reducePow, Nat.reduceLeDiff, Int.reduceToNat, Int.reduceLE, Int.reduceLT, Int.reducePow, hk, hs, k_len, ↓k_all]
  refine kLoop_of (fun s : Nat × Nat => ([.j, .j, .j, .s 0 0 K cp, .p 1 0, .p 2 0, .p 3 0, .j, .j, .s 4 0 s.1 (s.1 + s.2), .c (.int .i64 (s.1)), .j, .j, .j, .j, .j, .j, .j, .j, .j, .j, .j, .j, .j, .j, .j, .j, .j, .j, .j, .j, .j, .j, .j], [⟨false, bs D⟩, ⟨true, c.cells⟩, ⟨true, bs key⟩, ⟨true, bs (chnH (c.enc key) start D s.1)⟩, ⟨true, bs (chnL (c.enc key) start D s.1) ++ List.replicate (16 * s.2) .j⟩])) (fun s => K - s.1) (fun s => s.1 ≤ K) (0, 0) (by simp) ⟨[0, 1, 2, 3, 4], by simp [-List.reduceReplicate, LES, bs_nil, chnH, chnL, k_ren, k_ok]⟩ ?_
  rintro ⟨k, r⟩ hk16
  simp only at hk16
  have hT := chnL_len (enc := c.enc key) (start := start) (data := D) (fun x => enc_len _ _) k
  have hH : (chnH (c.enc key) start D k).length = 16 := by cases k with | zero => exact hs | succ k => exact enc_len _ _
  rcases Nat.lt_or_ge k K with h1 | h1
  · have hB := blkB_len (P := D) (i := k) (by omega)
    simp only [↓VC, VP, TT, Nat.reduceEqDiff, reduceCtorEq, Nat.reduceAdd, Nat.reduceSub, Nat.reduceLT, Nat.reduceMul, Nat.reducePow, Nat.reduceLeDiff, Int.reduceToNat, Int.reduceLE, Int.reduceLT, Int.reducePow, (eq_true (by omega) : ((k : Int) < (K : Int)) = True), decide_true, hH, hk, k_len, ↓k_all, ↓k_rd, ↓blkB_load (P := D) (i := k) (by omega), hB]
    refine kCall_val (c_spec_l01Xor ((D.drop (16 * k)).take 16) (chnH (c.enc key) start D k) hB hH) (by rfl) [] (by simp [CALL, SCB, instL_cip, okL_cip, k_inst, k_ok, okL, okV, fillB_len, enc_len, xorN_len]) (by simp [CALL, SCB, instL_cip, okL_cip, k_inst, k_ok, okL, okV, fillB_len, enc_len, xorN_len]) (by simp [CALL, SCB, instL_cip, okL_cip, k_inst, k_ok, okL, okV, fillB_len, enc_len, xorN_len]) (by simp [okL_bs, okL_room, okL, okV, instL_cip, okL_cip, k_inst, k_ok, okL, okV, fillB_len, enc_len, xorN_len]) ?_
    simp (config := { maxSteps := 2000000 }) only [CALL, ↓VC, VP, TT, Nat.reduceEqDiff, reduceCtorEq, Nat.reduceAdd, Nat.reduceSub, Nat.reduceLT, Nat.reduceMul, Nat.reducePow, Nat.reduceLeDiff, Int.reduceToNat, Int.reduceLE, Int.reduceLT, Int.reducePow, GOB, k_len, ↓k_all, enc_len, fillB_len, xorN_len, hH, hB, xorN_len]
    refine kCall_val (k_spec_encipher c key (xorN 16 ((D.drop (16 * k)).take 16) (chnH (c.enc key) start D k)) hk (xorN_len _ _ _)) (by rfl) [] (by simp [CALL, SCB, instL_cip, okL_cip, k_inst, k_ok, okL, okV, fillB_len, enc_len, xorN_len]) (by simp [CALL, SCB, instL_cip, okL_cip, k_inst, k_ok, okL, okV, fillB_len, enc_len, xorN_len]) (by simp [CALL, SCB, instL_cip, okL_cip, k_inst, k_ok, okL, okV, fillB_len, enc_len, xorN_len]) (by simp [okL_bs, okL_room, okL, okV, instL_cip, okL_cip, k_inst, k_ok, okL, okV, fillB_len, enc_len, xorN_len]) ?_
    simp (config := { maxSteps := 2000000 }) only [CALL, ↓VC, VP, TT, Nat.reduceEqDiff, reduceCtorEq, Nat.reduceAdd, Nat.reduceSub, Nat.reduceLT, Nat.reduceMul, Nat.reducePow, Nat.reduceLeDiff, Int.reduceToNat, Int.reduceLE, Int.reduceLT, Int.reducePow, GOB, k_len, ↓k_all, enc_len, fillB_len, xorN_len, hH, hT, repl1, enc_len]
    refine ⟨by omega, by omega, by omega, .inr (by omega), .inr trivial, fun r1 c' hc' _ => ⟨(k + 1, c' - (k + 1)), by simp only; omega, by simp only; omega, [0, 1, 2, 3, 6], ?_⟩⟩
    rw [take_room (by rw [hT]; omega), wrap_i64 (by omega) (by omega), bs_append, show c.enc key (xorN 16 ((D.drop (16 * k)).take 16) (chnH (c.enc key) start D k)) = chnH (c.enc key) start D (k + 1) from rfl, show chnL (c.enc key) start D k ++ chnH (c.enc key) start D (k + 1) = chnL (c.enc key) start D (k + 1) from rfl, show r1 = 16 * (c' - (k + 1)) by omega]
    simp [-List.reduceReplicate, LES, k_ren, k_ok]
    omega
  · obtain rfl : k = K := by omega
    simp only [↓VC, VP, TT, Nat.reduceEqDiff, reduceCtorEq, Nat.reduceAdd, Nat.reduceSub, Nat.reduceLT, Nat.reduceMul, Nat.reducePow, Nat.reduceLeDiff, Int.reduceToNat, Int.reduceLE, Int.reduceLT, Int.reducePow, (eq_false (by omega) : ((k : Int) < (k : Int)) = False), decide_false]
    refine ⟨_, _, [0, 4], ⟨r, trivial, rfl, rfl⟩, ?_⟩
    simp [-List.reduceReplicate, LES]
theorem k_spec_unchain (c : Cip) (key start D : List UInt8) (K cp : Nat) (hk : key.length = 16) (hs : start.length = 16) (hD : D.length = 16 * K) (hc : K ≤ cp) (hm : K ≤ 262144) : LC Tryz.prog 135 [.a c.cells, .a (bs key), .a (bs start), .s 0 0 K cp] [⟨false, bs D⟩] (Ret [⟨false, bs D⟩] (fun _ : Nat => True) fun r => (.s 1 0 K (K + r), [⟨true, bs (unchL (c.dec key) start D K) ++ List.replicate (16 * r) .j⟩])) := by
  refine LC_of (X := XX (fun | 5 => .one 0 (.one 1 (.one 2 (.one 3 (.one 4 (.one 5 (.one 6 (.one 7 (.one 8 (.one 10 (.one 9 (.one 11 (.one 12 (.one 13 (.one 14 .nil)))))))))))))) | _ => .nil) (fun _ => []) [15, 71, 72, 73, 79, 80, 87, 90, 91, 93, 99, 119, 137, 176, 177, 203, 204, 212, 219] 1) envOK Tryz.func135 (by kernel_rfl) (by kernel_rfl) rfl (Nat.le_of_ble_eq_true (by kernel_rfl)) ?_
  simp only [kFun, Tryz.f135, List.length_nil, List.length_cons, Nat.sub_zero, Nat.reduceSub, Nat.reduceAdd, List.nil_append, List.cons_append, List.replicate_succ, List.replicate_zero]
  simp only [XX, ↓VC, VP, TT, Nat.reduceEqDiff, reduceCtorEq, Nat.reduceAdd, Nat.reduceSub, Nat.reduceLT, Nat.reduceMul, Nat.reducePow, Nat.reduceLeDiff, Int.reduceToNat, Int.reduceLE, Int.reduceLT, Int.reducePow, hk, hs, k_len, ↓k_all]
  refine kLoop_of (fun s : Nat × Nat => ([.j, .j, .j, .s 0 0 K cp, .p 1 0, .p 2 0, .p 3 0, .j, .j, .s 4 0 s.1 (s.1 + s.2), .c (.int .i64 (s.1)), .j, .j, .j, .j, .j, .j, .j, .j, .j, .j, .j, .j, .j, .j, .j, .j, .j, .j, .j, .j, .j, .j, .j, .j, .j, .j], [⟨false, bs D⟩, ⟨true, c.cells⟩, ⟨true, bs key⟩, ⟨true, bs (if s.1 = 0 then start else (D.drop (16 * (s.1 - 1))).take 16)⟩, ⟨true, bs (unchL (c.dec key) start D s.1) ++ List.replicate (16 * s.2) .j⟩])) (fun s => K - s.1) (fun s => s.1 ≤ K) (0, 0) (by simp) ⟨[0, 1, 2, 3, 4], by simp [-List.reduceReplicate, LES, bs_nil, unchL, k_ren, k_ok]⟩ ?_
  rintro ⟨k, r⟩ hk16
  simp only at hk16
  have hT := unchL_len (c.dec key) start D k
  have hH : (if k = 0 then start else (D.drop (16 * (k - 1))).take 16).length = 16 := by
    split
    · exact hs
    · exact blkB_len (by omega)
  rcases Nat.lt_or_ge k K with h1 | h1
  · have hB := blkB_len (P := D) (i := k) (by omega)
    simp only [↓VC, VP, TT, Nat.reduceEqDiff, reduceCtorEq, Nat.reduceAdd, Nat.reduceSub, Nat.reduceLT, Nat.reduceMul, Nat.reducePow, Nat.reduceLeDiff, Int.reduceToNat, Int.reduceLE, Int.reduceLT, Int.reducePow, (eq_true (by omega) : ((k : Int) < (K : Int)) = True), decide_true, hH, hk, k_len, ↓k_all, ↓k_rd, ↓blkB_load (P := D) (i := k) (by omega), hB]
    generalize hH0 : (if k = 0 then start else (D.drop (16 * (k - 1))).take 16) = H at *
    refine kCall_val (k_spec_decipher c key ((D.drop (16 * k)).take 16) hk hB) (by rfl) [] (by simp [CALL, SCB, instL_cip, okL_cip, k_inst, k_ok, okL, okV, fillB_len, enc_len, xorN_len]) (by simp [CALL, SCB, instL_cip, okL_cip, k_inst, k_ok, okL, okV, fillB_len, enc_len, xorN_len]) (by simp [CALL, SCB, instL_cip, okL_cip, k_inst, k_ok, okL, okV, fillB_len, enc_len, xorN_len]) (by simp [okL_bs, okL_room, okL, okV, instL_cip, okL_cip, k_inst, k_ok, okL, okV, fillB_len, enc_len, xorN_len]) ?_
    simp (config := { maxSteps := 2000000 }) only [CALL, ↓VC, VP, TT, Nat.reduceEqDiff, reduceCtorEq, Nat.reduceAdd, Nat.reduceSub, Nat.reduceLT, Nat.reduceMul, Nat.reducePow, Nat.reduceLeDiff, Int.reduceToNat, Int.reduceLE, Int.reduceLT, Int.reducePow, GOB, k_len, ↓k_all, enc_len, fillB_len, xorN_len, hH, hB, dec_len]
    refine kCall_val (c_spec_l01Xor (c.dec key ((D.drop (16 * k)).take 16)) H (dec_len _ _ _) hH) (by rfl) [] (by simp [CALL, SCB, instL_cip, okL_cip, k_inst, k_ok, okL, okV, fillB_len, enc_len, xorN_len]) (by simp [CALL, SCB, instL_cip, okL_cip, k_inst, k_ok, okL, okV, fillB_len, enc_len, xorN_len]) (by simp [CALL, SCB, instL_cip, okL_cip, k_inst, k_ok, okL, okV, fillB_len, enc_len, xorN_len]) (by simp [okL_bs, okL_room, okL, okV, instL_cip, okL_cip, k_inst, k_ok, okL, okV, fillB_len, enc_len, xorN_len]) ?_
    simp (config := { maxSteps := 2000000 }) only [CALL, ↓VC, VP, TT, Nat.reduceEqDiff, reduceCtorEq, Nat.reduceAdd, Nat.reduceSub, Nat.reduceLT, Nat.reduceMul, Nat.reducePow, Nat.reduceLeDiff, Int.reduceToNat, Int.reduceLE, Int.reduceLT, Int.reducePow, GOB, k_len, ↓k_all, enc_len, fillB_len, xorN_len, hH, hB, hT, repl1, xorN_len, ↓blkB_load (P := D) (i := k) (by omega)]
    refine ⟨by omega, by omega, by omega, .inr (by omega), .inr trivial, fun r1 c' hc' _ => ?_⟩
    try simp only [↓VC, VP, TT, Nat.reduceEqDiff, reduceCtorEq, Nat.reduceAdd, Nat.reduceSub, Nat.reduceLT, Nat.reduceMul, Nat.reducePow, Nat.reduceLeDiff, Int.reduceToNat, Int.reduceLE, Int.reduceLT, Int.reducePow, hH, hB, ↓blkB_load (P := D) (i := k) (by omega)]
    refine ⟨by omega, (k + 1, c' - (k + 1)), by simp only; omega, by simp only; omega, [0, 1, 2, 3, 6], ?_⟩
    rw [take_room (by rw [hT]; omega), wrap_i64 (by omega) (by omega), bs_append, show unchL (c.dec key) start D k ++ xorN 16 (c.dec key ((D.drop (16 * k)).take 16)) H = unchL (c.dec key) start D (k + 1) by rw [← hH0]; rfl, show r1 = 16 * (c' - (k + 1)) by omega]
    simp [-List.reduceReplicate, LES, k_ren, k_ok]
    omega
  · obtain rfl : k = K := by omega
    simp only [↓VC, VP, TT, Nat.reduceEqDiff, reduceCtorEq, Nat.reduceAdd, Nat.reduceSub, Nat.reduceLT, Nat.reduceMul, Nat.reducePow, Nat.reduceLeDiff, Int.reduceToNat, Int.reduceLE, Int.reduceLT, Int.reducePow, (eq_false (by omega) : ((k : Int) < (k : Int)) = False), decide_false]
    refine ⟨_, _, [0, 4], ⟨r, trivial, rfl, rfl⟩, ?_⟩
    simp [-List.reduceReplicate, LES]
end Go.Proofs.YtahnjhppkgndiaaGreat
/- Chaining and feedback: the program. -/
set_option linter.unusedSimpArgs false
set_option linter.unusedVariables false
namespace Go.Proofs.YtahnjhppkgndiaaGreat
open Go Go.Vc
set_option maxRecDepth 10000
set_option maxHeartbeats 4000000
theorem c_impl_dataOf (D : List UInt8) (K cp : Nat) (hD : D.length = 16 * K) (hc : K ≤ cp) (hm : K ≤ 262144) : LC Tryz.prog 172 [.s 0 0 K cp] [⟨false, bs D⟩] (Ret [⟨false, bs D⟩] (fun _ : Nat => True) fun r => (.s 1 0 D.length (D.length + r), [⟨true, bs D ++ List.replicate r .j⟩])) := by
  refine LC_of (X := XX (fun _ => .nil) (fun _ => []) [15, 71, 72, 73, 79, 80, 87, 90, 91, 93, 99, 119, 137, 176, 177, 203, 204, 212, 219] 1) envOK Tryz.func172 (by kernel_rfl) (by kernel_rfl) rfl (Nat.le_of_ble_eq_true (by kernel_rfl)) ?_
  simp only [kFun, Tryz.f172, List.length_nil, List.length_cons, Nat.sub_zero, Nat.reduceSub, Nat.reduceAdd, List.nil_append, List.cons_append, List.replicate_succ, List.replicate_zero]
  simp only [XX, ↓VC, VP, TT, Nat.reduceEqDiff, reduceCtorEq, Nat.reduceAdd, Nat.reduceSub, Nat.reduceLT, Nat.reduceMul, Nat.reducePow, Nat.reduceLeDiff, Int.reduceToNat, Int.reduceLE, Int.reduceLT, Int.reducePow]
  refine kLoop_of (fun s : Nat × Nat => ([.j, .j, .j, .s 1 0 (16 * s.1) (16 * s.1 + s.2), .j, .j, .j, .s 0 0 K cp, .c (.int .i64 (K)), .c (.int .i64 (s.1)), .j, .j, .j, .j, .j, .j, .j, .j], [⟨false, bs D⟩, ⟨true, bs (D.take (16 * s.1)) ++ List.replicate s.2 .j⟩])) (fun s => K - s.1) (fun s => s.1 ≤ K) (0, 0) (by simp)
    ⟨[0, 1], by simp [-List.reduceReplicate, LES, bs_nil]⟩ ?_
  rintro ⟨k, r⟩ hk
  simp only at hk
  have hT : (D.take (16 * k)).length = 16 * k := by rw [List.length_take]; omega
  rcases Nat.lt_or_ge k K with h1 | h1
  · have hB := blkB_len (P := D) (i := k) (by omega)
    simp only [↓VC, VP, TT, Nat.reduceEqDiff, reduceCtorEq, Nat.reduceAdd, Nat.reduceSub, Nat.reduceLT, Nat.reduceMul, Nat.reducePow, Nat.reduceLeDiff, Int.reduceToNat, Int.reduceLE, Int.reduceLT, Int.reducePow, (eq_true (by omega) : ((k : Int) < (K : Int)) = True), decide_true, hB, ↓blkB_load (P := D) (i := k) (by omega)]
    refine ⟨by omega, by omega, by omega, .inr (by omega), .inr trivial, fun r1 c' hc' _ => ⟨(k + 1, r1), by simp only; omega, by simp only; omega, [0, 3], ?_⟩⟩
    rw [take_room hT.symm, wrap_i64 (by omega) (by omega), bs_append, ← List.take_add, show 16 * k + 16 = 16 * (k + 1) by omega, hc']
    simp [-List.reduceReplicate, LES]
    omega
  · obtain rfl : k = K := by omega
    simp only [↓VC, VP, TT, Nat.reduceEqDiff, reduceCtorEq, Nat.reduceAdd, Nat.reduceSub, Nat.reduceLT, Nat.reduceMul, Nat.reducePow, Nat.reduceLeDiff, Int.reduceToNat, Int.reduceLE, Int.reduceLT, Int.reducePow, (eq_false (by omega) : ((k : Int) < (k : Int)) = False), decide_false]
    rw [List.take_of_length_le (by omega), ← hD]
    refine ⟨_, _, [0, 1], ⟨r, trivial, rfl, rfl⟩, ?_⟩
    simp [-List.reduceReplicate, LES]
theorem k_impl_chain (c : Cip) (key start l : List UInt8) (q cp K : Nat) (hk : key.length = 16) (hs : start.length = 16) (hc : l.length ≤ cp) (hK : l.length = 16 * K) (hm : K ≤ 262144) : LC Tryz.prog 129 [c.kd q, .a (bs start), .s 4 0 l.length cp] (c.kbl false key q ++ [⟨false, bs l⟩]) (Ret (c.kbl false key q ++ [⟨false, bs l⟩]) (fun _ : Nat => True) fun r => (.s 5 0 (chnL (c.enc key) start l K).length ((chnL (c.enc key) start l K).length + r), [⟨true, bs (chnL (c.enc key) start l K) ++ List.replicate r .j⟩])) := by
  have hcl := fun k => chnL_len (enc := c.enc key) (start := start) (data := l) (fun x => enc_len _ _) k
  unfold Cip.kbl Cip.kd
  refine LC_of (X := XX (fun | 5 => .one 0 (.one 1 (.one 2 (.one 3 (.one 4 (.one 5 .nil))))) | _ => .nil) (fun _ => []) [15, 71, 72, 73, 79, 80, 87, 90, 91, 93, 99, 119, 137, 176, 177, 203, 204, 212, 219] 5) envOK Tryz.func129 (by kernel_rfl) (by kernel_rfl) rfl (Nat.le_of_ble_eq_true (by kernel_rfl)) ?_
  simp only [kFun, Tryz.f129, List.length_nil, List.length_cons, Nat.sub_zero, Nat.reduceSub, Nat.reduceAdd, List.nil_append, List.cons_append, List.replicate_succ, List.replicate_zero]
  simp only [XX, ↓VC, VP, TT, Nat.reduceEqDiff, reduceCtorEq, Nat.reduceAdd, Nat.reduceSub, Nat.reduceLT, Nat.reduceMul, Nat.reducePow, Nat.reduceLeDiff, Int.reduceToNat, Int.reduceLE, Int.reduceLT, Int.reducePow, hs]
  refine kCall_Ret (c_impl_blocksOf l cp K hc hK (by omega)) (by rfl) [(4, 0)] (by simp [CALL, SCB, e_inst, e_take, e_ok, okL, okV, Cip.bl, Cip.kbl, Cip.kd, keysB_take, enc_len, xorN_len]) (by simp [CALL, SCB, e_inst, e_take, e_ok, okL, okV, Cip.bl, Cip.kbl, Cip.kd, keysB_take, enc_len, xorN_len]) (by simp [CALL, SCB, e_inst, e_take, e_ok, okL, okV, Cip.bl, Cip.kbl, Cip.kd, keysB_take, enc_len, xorN_len]) (by simp [okL_bs, okL_room, okL, okV, e_inst, e_take, e_ok, okL, okV, Cip.bl, Cip.kbl, Cip.kd, keysB_take, enc_len, xorN_len]) (by simp [CALL, SCB, e_inst, e_take, e_ok, okL, okV, Cip.bl, Cip.kbl, Cip.kd, keysB_take, enc_len, xorN_len]) fun r0 _ => ?_
  simp (config := { maxSteps := 2000000 }) only [CALL, ↓VC, VP, TT, Nat.reduceEqDiff, reduceCtorEq, Nat.reduceAdd, Nat.reduceSub, Nat.reduceLT, Nat.reduceMul, Nat.reducePow, Nat.reduceLeDiff, Int.reduceToNat, Int.reduceLE, Int.reduceLT, Int.reducePow, GOB, Cip.bl, Cip.kbl, Cip.kd, e_inst0, e_inst, enc_len, xorN_len]
  refine kLoop_of (fun s : Nat × Nat => ([.j, .j, .j, .p 5 0, .p 6 0, .j, .j, .s 7 0 s.1 (s.1 + s.2), .j, .j, .j, .j, .s 8 0 K (K + r0), .c (.int .i64 (K)), .c (.int .i64 (s.1)), .j, .j, .j, .j, .j, .j, .j, .j, .j, .j, .j, .j, .j, .j, .j], [⟨false, c.eng 1 2⟩, ⟨false, bs c.t1⟩, ⟨false, bs c.t2⟩, ⟨false, bs (keysL c.box key (c.n + 1)) ++ List.replicate (16 * q) .j⟩, ⟨false, bs l⟩, ⟨true, [.p 0 0, .s 3 0 (c.n + 1) (c.n + 1 + q)]⟩, ⟨true, bs (chnH (c.enc key) start l s.1)⟩, ⟨true, bs (chnL (c.enc key) start l s.1) ++ List.replicate (16 * s.2) .j⟩, ⟨true, bs l ++ List.replicate (16 * r0) .j⟩])) (fun s => K - s.1) (fun s => s.1 ≤ K) (0, 0) (by simp) ⟨[0, 1, 2, 3, 4, 5, 6, 7, 8], by simp [-List.reduceReplicate, LES, e_ren, e_ok, bs_nil, chnH, chnL]⟩ ?_
  rintro ⟨k, r⟩ hk16
  simp only at hk16
  have hT := hcl k
  have hH : (chnH (c.enc key) start l k).length = 16 := by cases k with | zero => exact hs | succ k => exact enc_len _ _
  rcases Nat.lt_or_ge k K with h1 | h1
  · have hB := blkB_len (P := l) (i := k) (by omega)
    simp only [↓VC, VP, TT, Nat.reduceEqDiff, reduceCtorEq, Nat.reduceAdd, Nat.reduceSub, Nat.reduceLT, Nat.reduceMul, Nat.reducePow, Nat.reduceLeDiff, Int.reduceToNat, Int.reduceLE, Int.reduceLT, Int.reducePow, (eq_true (by omega) : ((k : Int) < (K : Int)) = True), decide_true, hH, hB, ↓blkR_load (P := l) (i := k) (by omega)]
    refine kCall_val (c_impl_XorBlocks ((l.drop (16 * k)).take 16) (chnH (c.enc key) start l k) hB hH) (by rfl) [] (by simp [CALL, SCB, e_inst, e_take, e_ok, okL, okV, Cip.bl, Cip.kbl, Cip.kd, keysB_take, enc_len, xorN_len]) (by simp [CALL, SCB, e_inst, e_take, e_ok, okL, okV, Cip.bl, Cip.kbl, Cip.kd, keysB_take, enc_len, xorN_len]) (by simp [CALL, SCB, e_inst, e_take, e_ok, okL, okV, Cip.bl, Cip.kbl, Cip.kd, keysB_take, enc_len, xorN_len]) (by simp [okL_bs, okL_room, okL, okV, e_inst, e_take, e_ok, okL, okV, Cip.bl, Cip.kbl, Cip.kd, keysB_take, enc_len, xorN_len]) ?_
    simp (config := { maxSteps := 2000000 }) only [CALL, ↓VC, VP, TT, Nat.reduceEqDiff, reduceCtorEq, Nat.reduceAdd, Nat.reduceSub, Nat.reduceLT, Nat.reduceMul, Nat.reducePow, Nat.reduceLeDiff, Int.reduceToNat, Int.reduceLE, Int.reduceLT, Int.reducePow, GOB, Cip.bl, Cip.kbl, Cip.kd, e_inst0, e_inst, enc_len, xorN_len, hH, hB, xorN_len]
    refine kCall_val (k_encipher c key (xorN 16 ((l.drop (16 * k)).take 16) (chnH (c.enc key) start l k)) q hk (xorN_len _ _ _)) (by rfl) [(0, 0), (1, 0), (2, 0), (3, 0)] (by simp [CALL, SCB, e_inst, e_take, e_ok, okL, okV, Cip.bl, Cip.kbl, Cip.kd, keysB_take, enc_len, xorN_len]) (by simp [CALL, SCB, e_inst, e_take, e_ok, okL, okV, Cip.bl, Cip.kbl, Cip.kd, keysB_take, enc_len, xorN_len]) (by simp [CALL, SCB, e_inst, e_take, e_ok, okL, okV, Cip.bl, Cip.kbl, Cip.kd, keysB_take, enc_len, xorN_len]) (by simp [okL_bs, okL_room, okL, okV, e_inst, e_take, e_ok, okL, okV, Cip.bl, Cip.kbl, Cip.kd, keysB_take, enc_len, xorN_len]) ?_
    simp (config := { maxSteps := 2000000 }) only [CALL, ↓VC, VP, TT, Nat.reduceEqDiff, reduceCtorEq, Nat.reduceAdd, Nat.reduceSub, Nat.reduceLT, Nat.reduceMul, Nat.reducePow, Nat.reduceLeDiff, Int.reduceToNat, Int.reduceLE, Int.reduceLT, Int.reducePow, GOB, Cip.bl, Cip.kbl, Cip.kd, e_inst0, e_inst, enc_len, xorN_len, hH, hT, repl1, enc_len]
    refine ⟨by omega, by omega, by omega, .inr (by omega), .inr trivial, fun r1 c' hc' _ => ⟨(k + 1, c' - (k + 1)), by simp only; omega, by simp only; omega, [0, 1, 2, 3, 4, 5, 6, 11, 8], ?_⟩⟩
    rw [take_room (by rw [hT]; omega), wrap_i64 (by omega) (by omega), bs_append, show c.enc key (xorN 16 ((l.drop (16 * k)).take 16) (chnH (c.enc key) start l k)) = chnH (c.enc key) start l (k + 1) from rfl, show chnL (c.enc key) start l k ++ chnH (c.enc key) start l (k + 1) = chnL (c.enc key) start l (k + 1) from rfl, show r1 = 16 * (c' - (k + 1)) by omega]
    simp [-List.reduceReplicate, LES, e_ren, e_ok]
    omega
  · obtain rfl : k = K := by omega
    simp only [↓VC, VP, TT, Nat.reduceEqDiff, reduceCtorEq, Nat.reduceAdd, Nat.reduceSub, Nat.reduceLT, Nat.reduceMul, Nat.reducePow, Nat.reduceLeDiff, Int.reduceToNat, Int.reduceLE, Int.reduceLT, Int.reducePow, (eq_false (by omega) : ((k : Int) < (k : Int)) = False), decide_false]
    refine kCall_Ret (c_impl_dataOf (chnL (c.enc key) start l k) k (k + r) hT (by omega) hm) (by rfl) [(7, 0)] (by simp [CALL, SCB, e_inst, e_take, e_ok, okL, okV, Cip.bl, Cip.kbl, Cip.kd, keysB_take, enc_len, xorN_len]) (by simp [CALL, SCB, e_inst, e_take, e_ok, okL, okV, Cip.bl, Cip.kbl, Cip.kd, keysB_take, enc_len, xorN_len]) (by simp [CALL, SCB, e_inst, e_take, e_ok, okL, okV, Cip.bl, Cip.kbl, Cip.kd, keysB_take, enc_len, xorN_len]) (by simp [okL_bs, okL_room, okL, okV, e_inst, e_take, e_ok, okL, okV, Cip.bl, Cip.kbl, Cip.kd, keysB_take, enc_len, xorN_len]) (by simp [CALL, SCB, e_inst, e_take, e_ok, okL, okV, Cip.bl, Cip.kbl, Cip.kd, keysB_take, enc_len, xorN_len]) fun r2 _ => ?_
    simp (config := { maxSteps := 2000000 }) only [CALL, ↓VC, VP, TT, Nat.reduceEqDiff, reduceCtorEq, Nat.reduceAdd, Nat.reduceSub, Nat.reduceLT, Nat.reduceMul, Nat.reducePow, Nat.reduceLeDiff, Int.reduceToNat, Int.reduceLE, Int.reduceLT, Int.reducePow, GOB, Cip.bl, Cip.kbl, Cip.kd, e_inst0, e_inst, enc_len, xorN_len]
    refine ⟨_, _, [0, 1, 2, 3, 4, 9], ⟨r2, trivial, rfl, rfl⟩, ?_⟩
    simp [-List.reduceReplicate, LES, e_ren, e_ok]
theorem k_impl_unchain (c : Cip) (key start l : List UInt8) (q cp K : Nat) (hk : key.length = 16) (hs : start.length = 16) (hc : l.length ≤ cp) (hK : l.length = 16 * K) (hm : K ≤ 262144) : LC Tryz.prog 134 [c.kd q, .a (bs start), .s 4 0 l.length cp] (c.kbl false key q ++ [⟨false, bs l⟩]) (Ret (c.kbl false key q ++ [⟨false, bs l⟩]) (fun _ : Nat => True) fun r => (.s 5 0 (unchL (c.dec key) start l K).length ((unchL (c.dec key) start l K).length + r), [⟨true, bs (unchL (c.dec key) start l K) ++ List.replicate r .j⟩])) := by
  have hcl := fun k => unchL_len (c.dec key) start l k
  unfold Cip.kbl Cip.kd
  refine LC_of (X := XX (fun | 5 => .one 0 (.one 1 (.one 2 (.one 4 (.one 3 (.one 5 (.one 6 (.one 7 (.one 8 .nil)))))))) | _ => .nil) (fun _ => []) [15, 71, 72, 73, 79, 80, 87, 90, 91, 93, 99, 119, 137, 176, 177, 203, 204, 212, 219] 5) envOK Tryz.func134 (by kernel_rfl) (by kernel_rfl) rfl (Nat.le_of_ble_eq_true (by kernel_rfl)) ?_
  simp only [kFun, Tryz.f134, List.length_nil, List.length_cons, Nat.sub_zero, Nat.reduceSub, Nat.reduceAdd, List.nil_append, List.cons_append, List.replicate_succ, List.replicate_zero]
  simp only [XX, ↓VC, VP, TT, Nat.reduceEqDiff, reduceCtorEq, Nat.reduceAdd, Nat.reduceSub, Nat.reduceLT, Nat.reduceMul, Nat.reducePow, Nat.reduceLeDiff, Int.reduceToNat, Int.reduceLE, Int.reduceLT, Int.reducePow, hs]
  refine kCall_Ret (c_impl_blocksOf l cp K hc hK (by omega)) (by rfl) [(4, 0)] (by simp [CALL, SCB, e_inst, e_take, e_ok, okL, okV, Cip.bl, Cip.kbl, Cip.kd, keysB_take, enc_len, xorN_len]) (by simp [CALL, SCB, e_inst, e_take, e_ok, okL, okV, Cip.bl, Cip.kbl, Cip.kd, keysB_take, enc_len, xorN_len]) (by simp [CALL, SCB, e_inst, e_take, e_ok, okL, okV, Cip.bl, Cip.kbl, Cip.kd, keysB_take, enc_len, xorN_len]) (by simp [okL_bs, okL_room, okL, okV, e_inst, e_take, e_ok, okL, okV, Cip.bl, Cip.kbl, Cip.kd, keysB_take, enc_len, xorN_len]) (by simp [CALL, SCB, e_inst, e_take, e_ok, okL, okV, Cip.bl, Cip.kbl, Cip.kd, keysB_take, enc_len, xorN_len]) fun r0 _ => ?_
  simp (config := { maxSteps := 2000000 }) only [CALL, ↓VC, VP, TT, Nat.reduceEqDiff, reduceCtorEq, Nat.reduceAdd, Nat.reduceSub, Nat.reduceLT, Nat.reduceMul, Nat.reducePow, Nat.reduceLeDiff, Int.reduceToNat, Int.reduceLE, Int.reduceLT, Int.reducePow, GOB, Cip.bl, Cip.kbl, Cip.kd, e_inst0, e_inst, enc_len, xorN_len]
  refine kLoop_of (fun s : Nat × Nat => ([.j, .j, .j, .p 5 0, .p 6 0, .j, .j, .s 7 0 s.1 (s.1 + s.2), .j, .j, .j, .j, .s 8 0 K (K + r0), .c (.int .i64 (K)), .c (.int .i64 (s.1)), .j, .j, .j, .j, .j, .j, .j, .j, .j, .j, .j, .j, .j, .j, .j], [⟨false, c.eng 1 2⟩, ⟨false, bs c.t1⟩, ⟨false, bs c.t2⟩, ⟨false, bs (keysL c.box key (c.n + 1)) ++ List.replicate (16 * q) .j⟩, ⟨false, bs l⟩, ⟨true, [.p 0 0, .s 3 0 (c.n + 1) (c.n + 1 + q)]⟩, ⟨true, bs (if s.1 = 0 then start else (l.drop (16 * (s.1 - 1))).take 16)⟩, ⟨true, bs (unchL (c.dec key) start l s.1) ++ List.replicate (16 * s.2) .j⟩, ⟨true, bs l ++ List.replicate (16 * r0) .j⟩])) (fun s => K - s.1) (fun s => s.1 ≤ K) (0, 0) (by simp) ⟨[0, 1, 2, 3, 4, 5, 6, 7, 8], by simp [-List.reduceReplicate, LES, e_ren, e_ok, bs_nil, unchL]⟩ ?_
  rintro ⟨k, r⟩ hk16
  simp only at hk16
  have hT := hcl k
  have hH : (if k = 0 then start else (l.drop (16 * (k - 1))).take 16).length = 16 := by
    split
    · exact hs
    · exact blkB_len (by omega)
  rcases Nat.lt_or_ge k K with h1 | h1
  · have hB := blkB_len (P := l) (i := k) (by omega)
    simp only [↓VC, VP, TT, Nat.reduceEqDiff, reduceCtorEq, Nat.reduceAdd, Nat.reduceSub, Nat.reduceLT, Nat.reduceMul, Nat.reducePow, Nat.reduceLeDiff, Int.reduceToNat, Int.reduceLE, Int.reduceLT, Int.reducePow, (eq_true (by omega) : ((k : Int) < (K : Int)) = True), decide_true, hH, hB, ↓blkR_load (P := l) (i := k) (by omega)]
    generalize hH0 : (if k = 0 then start else (l.drop (16 * (k - 1))).take 16) = H at *
    refine kCall_val (k_decipher c key ((l.drop (16 * k)).take 16) q hk hB) (by rfl) [(0, 0), (1, 0), (2, 0), (3, 0)] (by simp [CALL, SCB, e_inst, e_take, e_ok, okL, okV, Cip.bl, Cip.kbl, Cip.kd, keysB_take, enc_len, xorN_len]) (by simp [CALL, SCB, e_inst, e_take, e_ok, okL, okV, Cip.bl, Cip.kbl, Cip.kd, keysB_take, enc_len, xorN_len]) (by simp [CALL, SCB, e_inst, e_take, e_ok, okL, okV, Cip.bl, Cip.kbl, Cip.kd, keysB_take, enc_len, xorN_len]) (by simp [okL_bs, okL_room, okL, okV, e_inst, e_take, e_ok, okL, okV, Cip.bl, Cip.kbl, Cip.kd, keysB_take, enc_len, xorN_len]) ?_
    simp (config := { maxSteps := 2000000 }) only [CALL, ↓VC, VP, TT, Nat.reduceEqDiff, reduceCtorEq, Nat.reduceAdd, Nat.reduceSub, Nat.reduceLT, Nat.reduceMul, Nat.reducePow, Nat.reduceLeDiff, Int.reduceToNat, Int.reduceLE, Int.reduceLT, Int.reducePow, GOB, Cip.bl, Cip.kbl, Cip.kd, e_inst0, e_inst, enc_len, xorN_len, hH, hB, dec_len]
    refine kCall_val (c_impl_XorBlocks (c.dec key ((l.drop (16 * k)).take 16)) H (dec_len _ _ _) hH) (by rfl) [] (by simp [CALL, SCB, e_inst, e_take, e_ok, okL, okV, Cip.bl, Cip.kbl, Cip.kd, keysB_take, enc_len, xorN_len]) (by simp [CALL, SCB, e_inst, e_take, e_ok, okL, okV, Cip.bl, Cip.kbl, Cip.kd, keysB_take, enc_len, xorN_len]) (by simp [CALL, SCB, e_inst, e_take, e_ok, okL, okV, Cip.bl, Cip.kbl, Cip.kd, keysB_take, enc_len, xorN_len]) (by simp [okL_bs, okL_room, okL, okV, e_inst, e_take, e_ok, okL, okV, Cip.bl, Cip.kbl, Cip.kd, keysB_take, enc_len, xorN_len]) ?_
    simp (config := { maxSteps := 2000000 }) only [CALL, ↓VC, VP, TT, Nat.reduceEqDiff, reduceCtorEq, Nat.reduceAdd, Nat.reduceSub, Nat.reduceLT, Nat.reduceMul, Nat.reducePow, Nat.reduceLeDiff, Int.reduceToNat, Int.reduceLE, Int.reduceLT, Int.reducePow, GOB, Cip.bl, Cip.kbl, Cip.kd, e_inst0, e_inst, enc_len, xorN_len, hH, hB, hT, repl1, xorN_len]
    refine ⟨by omega, by omega, by omega, .inr (by omega), .inr trivial, fun r1 c' hc' _ => ⟨(k + 1, c' - (k + 1)), by simp only; omega, by simp only; omega, [0, 1, 2, 3, 4, 5, 6, 11, 8], ?_⟩⟩
    rw [take_room (by rw [hT]; omega), wrap_i64 (by omega) (by omega), bs_append, show unchL (c.dec key) start l k ++ xorN 16 (c.dec key ((l.drop (16 * k)).take 16)) H = unchL (c.dec key) start l (k + 1) by rw [← hH0]; rfl, show r1 = 16 * (c' - (k + 1)) by omega]
    simp [-List.reduceReplicate, LES, e_ren, e_ok]
    omega
  · obtain rfl : k = K := by omega
    simp only [↓VC, VP, TT, Nat.reduceEqDiff, reduceCtorEq, Nat.reduceAdd, Nat.reduceSub, Nat.reduceLT, Nat.reduceMul, Nat.reducePow, Nat.reduceLeDiff, Int.reduceToNat, Int.reduceLE, Int.reduceLT, Int.reducePow, (eq_false (by omega) : ((k : Int) < (k : Int)) = False), decide_false]
    refine kCall_Ret (c_impl_dataOf (unchL (c.dec key) start l k) k (k + r) hT (by omega) hm) (by rfl) [(7, 0)] (by simp [CALL, SCB, e_inst, e_take, e_ok, okL, okV, Cip.bl, Cip.kbl, Cip.kd, keysB_take, enc_len, xorN_len]) (by simp [CALL, SCB, e_inst, e_take, e_ok, okL, okV, Cip.bl, Cip.kbl, Cip.kd, keysB_take, enc_len, xorN_len]) (by simp [CALL, SCB, e_inst, e_take, e_ok, okL, okV, Cip.bl, Cip.kbl, Cip.kd, keysB_take, enc_len, xorN_len]) (by simp [okL_bs, okL_room, okL, okV, e_inst, e_take, e_ok, okL, okV, Cip.bl, Cip.kbl, Cip.kd, keysB_take, enc_len, xorN_len]) (by simp [CALL, SCB, e_inst, e_take, e_ok, okL, okV, Cip.bl, Cip.kbl, Cip.kd, keysB_take, enc_len, xorN_len]) fun r2 _ => ?_
    simp (config := { maxSteps := 2000000 }) only [CALL, ↓VC, VP, TT, Nat.reduceEqDiff, reduceCtorEq, Nat.reduceAdd, Nat.reduceSub, Nat.reduceLT, Nat.reduceMul, Nat.reducePow, Nat.reduceLeDiff, Int.reduceToNat, Int.reduceLE, Int.reduceLT, Int.reducePow, GOB, Cip.bl, Cip.kbl, Cip.kd, e_inst0, e_inst, enc_len, xorN_len]
    refine ⟨_, _, [0, 1, 2, 3, 4, 9], ⟨r2, trivial, rfl, rfl⟩, ?_⟩
    simp [-List.reduceReplicate, LES, e_ren, e_ok]
theorem splB_full {l v : List UInt8} (h : v.length = l.length) : splB l 0 v = v := by
  unfold splB; rw [h, Nat.zero_add, List.drop_length]; simp
end Go.Proofs.YtahnjhppkgndiaaGreat

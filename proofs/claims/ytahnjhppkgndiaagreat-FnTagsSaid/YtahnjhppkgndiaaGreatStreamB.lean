import Derived.Test.YtahnjhppkgndiaaGreatTag
/- Streams: the program and the reference. -/
set_option linter.unusedSimpArgs false
set_option linter.unusedVariables false
namespace Go.Proofs.YtahnjhppkgndiaaGreat
open Go Go.Vc
set_option maxRecDepth 10000
set_option maxHeartbeats 4000000
theorem k_impl_tag2 (c : Cip) (key l1 l2 : List UInt8) (q1 q2 : Nat) (hk : key.length = 16) (hq1 : l1.length ≤ q1) (hq2 : l2.length ≤ q2) (hl : l1.length + l2.length ≤ 2097000) : LC Tryz.prog 76 [.p 0 0, .a (bs key), .s 3 0 2 2] (c.bl false ++ [⟨false, [.s 4 0 l1.length q1, .s 5 0 l2.length q2]⟩, ⟨false, bs l1⟩, ⟨false, bs l2⟩]) (fun v hp => v = .a (bs (c.tag key (l1 ++ l2))) ∧ hp = c.bl false ++ [⟨false, [.s 4 0 l1.length q1, .s 5 0 l2.length q2]⟩, ⟨false, bs l1⟩, ⟨false, bs l2⟩]) := by
  have m90 := c_impl_changedKey key 90 hk
  have m165 := c_impl_changedKey key 165 hk
  unfold Cip.bl
  refine LC_of (X := XX (fun | 2 => .one 0 (.one 1 (.one 3 (.one 2 (.one 4 (.one 5 (.one 6 .nil)))))) | _ => .nil) (fun _ => []) [15, 71, 72, 73, 79, 80, 87, 90, 91, 93, 99, 119, 137, 176, 177, 203, 204, 212, 219] 6) envOK Tryz.func76 (by kernel_rfl) (by kernel_rfl) rfl (Nat.le_of_ble_eq_true (by kernel_rfl)) ?_
  simp only [kFun, Tryz.f76, List.length_nil, List.length_cons, Nat.sub_zero, Nat.reduceSub, Nat.reduceAdd, List.nil_append, List.cons_append, List.replicate_succ, List.replicate_zero]
  simp only [XX, ↓VC, VP, TT, Nat.reduceEqDiff, reduceCtorEq, Nat.reduceAdd, Nat.reduceSub, Nat.reduceLT, Nat.reduceMul, Nat.reducePow, Nat.reduceLeDiff, Int.reduceToNat, Int.reduceLE, Int.reduceLT, Int.reducePow, hk]
  refine kCall_Ret (m90) (by rfl) [] (by simp [CALL, SCB, instL_cip, okL_cip, k_inst, k_ok, e_inst, e_take, e_ok, Cip.bl, okL, okV, maskL_len, dig_len, tkm, tkd, tag_len]) (by simp [CALL, SCB, instL_cip, okL_cip, k_inst, k_ok, e_inst, e_take, e_ok, Cip.bl, okL, okV, maskL_len, dig_len, tkm, tkd, tag_len]) (by simp [CALL, SCB, instL_cip, okL_cip, k_inst, k_ok, e_inst, e_take, e_ok, Cip.bl, okL, okV, maskL_len, dig_len, tkm, tkd, tag_len]) (by simp [okL_bs, okL_room, okL, okV, instL_cip, okL_cip, k_inst, k_ok, e_inst, e_take, e_ok, Cip.bl, okL, okV, maskL_len, dig_len, tkm, tkd, tag_len]) (by simp [CALL, SCB, instL_cip, okL_cip, k_inst, k_ok, e_inst, e_take, e_ok, Cip.bl, okL, okV, maskL_len, dig_len, tkm, tkd, tag_len]) fun _ _ => ?_
  simp (config := { maxSteps := 2000000 }) only [CALL, ↓VC, VP, TT, Nat.reduceEqDiff, reduceCtorEq, Nat.reduceAdd, Nat.reduceSub, Nat.reduceLT, Nat.reduceMul, Nat.reducePow, Nat.reduceLeDiff, Int.reduceToNat, Int.reduceLE, Int.reduceLT, Int.reducePow, GOB, Cip.bl, e_inst0, k_inst, k_len, abs_len, enc_len, dig_len, ↓k_all, maskL_len, tag_len, hk]
  refine kCall_Ret (c_Concat2 l1 l2 q1 q2 hq1 hq2 (by omega)) (by rfl) [(3, 0), (4, 0), (5, 0)] (by simp [CALL, SCB, instL_cip, okL_cip, k_inst, k_ok, e_inst, e_take, e_ok, Cip.bl, okL, okV, maskL_len, dig_len, tkm, tkd, tag_len]) (by simp [CALL, SCB, instL_cip, okL_cip, k_inst, k_ok, e_inst, e_take, e_ok, Cip.bl, okL, okV, maskL_len, dig_len, tkm, tkd, tag_len]) (by simp [CALL, SCB, instL_cip, okL_cip, k_inst, k_ok, e_inst, e_take, e_ok, Cip.bl, okL, okV, maskL_len, dig_len, tkm, tkd, tag_len]) (by simp [okL_bs, okL_room, okL, okV, instL_cip, okL_cip, k_inst, k_ok, e_inst, e_take, e_ok, Cip.bl, okL, okV, maskL_len, dig_len, tkm, tkd, tag_len]) (by simp [CALL, SCB, instL_cip, okL_cip, k_inst, k_ok, e_inst, e_take, e_ok, Cip.bl, okL, okV, maskL_len, dig_len, tkm, tkd, tag_len]) fun r _ => ?_
  simp (config := { maxSteps := 2000000 }) only [CALL, ↓VC, VP, TT, Nat.reduceEqDiff, reduceCtorEq, Nat.reduceAdd, Nat.reduceSub, Nat.reduceLT, Nat.reduceMul, Nat.reducePow, Nat.reduceLeDiff, Int.reduceToNat, Int.reduceLE, Int.reduceLT, Int.reducePow, GOB, Cip.bl, e_inst0, k_inst, k_len, abs_len, enc_len, dig_len, ↓k_all, maskL_len, tag_len, hk]
  refine kCall_val (k_digest2 c (maskL key 90) (l1 ++ l2) 16 ((l1 ++ l2).length + r) (by rw [maskL_len]; omega) (by omega) (by rw [maskL_len, List.length_append]; omega)) (by rfl) [(0, 0), (1, 0), (2, 0), (10, 0), (8, 0), (9, 0)] (by simp [CALL, SCB, instL_cip, okL_cip, k_inst, k_ok, e_inst, e_take, e_ok, Cip.bl, okL, okV, maskL_len, dig_len, tkm, tkd, tag_len]) (by simp [CALL, SCB, instL_cip, okL_cip, k_inst, k_ok, e_inst, e_take, e_ok, Cip.bl, okL, okV, maskL_len, dig_len, tkm, tkd, tag_len]) (by simp [CALL, SCB, instL_cip, okL_cip, k_inst, k_ok, e_inst, e_take, e_ok, Cip.bl, okL, okV, maskL_len, dig_len, tkm, tkd, tag_len]) (by simp [okL_bs, okL_room, okL, okV, instL_cip, okL_cip, k_inst, k_ok, e_inst, e_take, e_ok, Cip.bl, okL, okV, maskL_len, dig_len, tkm, tkd, tag_len]) ?_
  simp (config := { maxSteps := 2000000 }) only [CALL, ↓VC, VP, TT, Nat.reduceEqDiff, reduceCtorEq, Nat.reduceAdd, Nat.reduceSub, Nat.reduceLT, Nat.reduceMul, Nat.reducePow, Nat.reduceLeDiff, Int.reduceToNat, Int.reduceLE, Int.reduceLT, Int.reducePow, GOB, Cip.bl, e_inst0, k_inst, k_len, abs_len, enc_len, dig_len, ↓k_all, maskL_len, tag_len, hk]
  refine kCall_Ret (m165) (by rfl) [] (by simp [CALL, SCB, instL_cip, okL_cip, k_inst, k_ok, e_inst, e_take, e_ok, Cip.bl, okL, okV, maskL_len, dig_len, tkm, tkd, tag_len]) (by simp [CALL, SCB, instL_cip, okL_cip, k_inst, k_ok, e_inst, e_take, e_ok, Cip.bl, okL, okV, maskL_len, dig_len, tkm, tkd, tag_len]) (by simp [CALL, SCB, instL_cip, okL_cip, k_inst, k_ok, e_inst, e_take, e_ok, Cip.bl, okL, okV, maskL_len, dig_len, tkm, tkd, tag_len]) (by simp [okL_bs, okL_room, okL, okV, instL_cip, okL_cip, k_inst, k_ok, e_inst, e_take, e_ok, Cip.bl, okL, okV, maskL_len, dig_len, tkm, tkd, tag_len]) (by simp [CALL, SCB, instL_cip, okL_cip, k_inst, k_ok, e_inst, e_take, e_ok, Cip.bl, okL, okV, maskL_len, dig_len, tkm, tkd, tag_len]) fun _ _ => ?_
  simp (config := { maxSteps := 2000000 }) only [CALL, ↓VC, VP, TT, Nat.reduceEqDiff, reduceCtorEq, Nat.reduceAdd, Nat.reduceSub, Nat.reduceLT, Nat.reduceMul, Nat.reducePow, Nat.reduceLeDiff, Int.reduceToNat, Int.reduceLE, Int.reduceLT, Int.reducePow, GOB, Cip.bl, e_inst0, k_inst, k_len, abs_len, enc_len, dig_len, ↓k_all, maskL_len, tag_len, hk]
  refine kCall_val (k_digest2 c (maskL key 165) (c.dig (maskL key 90 ++ (l1 ++ l2))) 16 32 (by rw [maskL_len]; omega) (by rw [dig_len]; omega) (by rw [maskL_len, dig_len]; omega)) (by rfl) [(0, 0), (1, 0), (2, 0), (13, 0), (12, 0), (11, 0)] (by simp [CALL, SCB, instL_cip, okL_cip, k_inst, k_ok, e_inst, e_take, e_ok, Cip.bl, okL, okV, maskL_len, dig_len, tkm, tkd, tag_len]) (by simp [CALL, SCB, instL_cip, okL_cip, k_inst, k_ok, e_inst, e_take, e_ok, Cip.bl, okL, okV, maskL_len, dig_len, tkm, tkd, tag_len]) (by simp [CALL, SCB, instL_cip, okL_cip, k_inst, k_ok, e_inst, e_take, e_ok, Cip.bl, okL, okV, maskL_len, dig_len, tkm, tkd, tag_len]) (by simp [okL_bs, okL_room, okL, okV, instL_cip, okL_cip, k_inst, k_ok, e_inst, e_take, e_ok, Cip.bl, okL, okV, maskL_len, dig_len, tkm, tkd, tag_len]) ?_
  simp (config := { maxSteps := 2000000 }) only [CALL, ↓VC, VP, TT, Nat.reduceEqDiff, reduceCtorEq, Nat.reduceAdd, Nat.reduceSub, Nat.reduceLT, Nat.reduceMul, Nat.reducePow, Nat.reduceLeDiff, Int.reduceToNat, Int.reduceLE, Int.reduceLT, Int.reducePow, GOB, Cip.bl, e_inst0, k_inst, k_len, abs_len, enc_len, dig_len, ↓k_all, maskL_len, tag_len, hk]
  refine ⟨_, _, [0, 1, 2, 3, 4, 5], ⟨rfl, rfl⟩, ?_⟩
  simp [-List.reduceReplicate, LES, e_ren, e_ok, Cip.tag]
def Cip.blkS (c : Cip) (key nonce : List UInt8) (k : Nat) : List UInt8 := c.tag key (nonce ++ [UInt8.ofInt ((k / 256 : Nat) : Int), UInt8.ofInt (k : Int)])
def Cip.strm (c : Cip) (key nonce : List UInt8) : Nat → List UInt8
  | 0 => []
  | k + 1 => c.strm key nonce k ++ c.blkS key nonce k
theorem strm_len {c : Cip} {key nonce : List UInt8} : ∀ k, (c.strm key nonce k).length = 32 * k
  | 0 => rfl
  | k + 1 => by rw [Cip.strm, List.length_append, strm_len k, Cip.blkS, tag_len]; omega
def Cip.outS (c : Cip) (key nonce : List UInt8) (n : Nat) : List UInt8 := (c.strm key nonce ((n + 31) / 32)).take n
theorem outS_len {c : Cip} {key nonce : List UInt8} (n : Nat) : (c.outS key nonce n).length = n := by unfold Cip.outS; rw [List.length_take, strm_len]; omega
theorem c_spec_l01Data1 (b : List UInt8) (hb : b.length = 16) : LC Tryz.prog 155 [.s 0 0 1 1] [⟨false, bs b⟩] (Ret [⟨false, bs b⟩] (fun _ : Nat => True) fun r => (.s 1 0 16 (16 + r), [⟨true, bs b ++ List.replicate r .j⟩])) := by
  refine LC_of (X := XX (fun _ => .nil) (fun _ => []) [15, 71, 72, 73, 79, 80, 87, 90, 91, 93, 99, 119, 137, 176, 177, 203, 204, 212, 219] 1) envOK Tryz.func155 (by kernel_rfl) (by kernel_rfl) rfl (Nat.le_of_ble_eq_true (by kernel_rfl)) ?_
  simp only [kFun, Tryz.f155, List.length_nil, List.length_cons, Nat.sub_zero, Nat.reduceSub, Nat.reduceAdd, List.nil_append, List.cons_append, List.replicate_succ, List.replicate_zero]
  simp only [XX, ↓VC, VP, TT, Nat.reduceEqDiff, reduceCtorEq, Nat.reduceAdd, Nat.reduceSub, Nat.reduceLT, Nat.reduceMul, Nat.reducePow, Nat.reduceLeDiff, Int.reduceToNat, Int.reduceLE, Int.reduceLT, Int.reducePow]
  refine kLoop_of (fun s : Nat × Nat => ([.s 0 0 1 1, .j, .j, .s 1 0 (16 * s.1) (16 * s.1 + s.2), .c (.int .i64 (s.1)), .j, .j, .j, .j, .j, .j, .j, .j, .j, .j, .j, .j, .j, .j, .j, .j, .j, .j, .j, .j, .j, .j], [⟨false, bs b⟩, ⟨true, bs (b.take (16 * s.1)) ++ List.replicate s.2 .j⟩])) (fun s => 1 - s.1) (fun s => s.1 ≤ 1) (0, 0) (by simp) ⟨[0, 1], by simp [-List.reduceReplicate, LES, bs_nil]⟩ ?_
  rintro ⟨j, r⟩ hj
  simp only at hj
  rcases (by omega : j = 0 ∨ j = 1) with rfl | rfl
  · simp only [↓VC, VP, TT, Nat.reduceEqDiff, reduceCtorEq, Nat.reduceAdd, Nat.reduceSub, Nat.reduceLT, Nat.reduceMul, Nat.reducePow, Nat.reduceLeDiff, Int.reduceToNat, Int.reduceLE, Int.reduceLT, Int.reducePow, show (((0 : Nat) : Int) < ((1 : Nat) : Int)) = True from eq_true (by decide), decide_true]
    refine kLoop_of (fun s : Nat × Nat => ([.s 0 0 1 1, .j, .j, .s 1 0 s.1 (s.1 + s.2), .c (.int .i64 (0)), .c (.int .i64 (s.1)), .j, .j, .j, .j, .j, .j, .j, .j, .j, .j, .j, .j, .j, .j, .j, .j, .j, .j, .j, .j, .j], [⟨false, bs b⟩, ⟨true, bs (b.take s.1) ++ List.replicate s.2 .j⟩])) (fun s => 16 - s.1) (fun s => s.1 ≤ 16) (0, r) (by simp) ⟨[0, 1], by simp [-List.reduceReplicate, LES, bs_nil]⟩ ?_
    rintro ⟨i, r⟩ hi
    simp only at hi
    have hl : (b.take i).length = i := by rw [List.length_take]; omega
    rcases Nat.lt_or_ge i 16 with h | h
    · simp only [↓VC, VP, TT, Nat.reduceEqDiff, reduceCtorEq, Nat.reduceAdd, Nat.reduceSub, Nat.reduceLT, Nat.reduceMul, Nat.reducePow, Nat.reduceLeDiff, Int.reduceToNat, Int.reduceLE, Int.reduceLT, Int.reducePow, h, (eq_true (by omega) : ((i : Int) < 16) = True), (eq_true (by omega) : ((i : Int) < ((16 : Nat) : Int)) = True), wrap_i64 (n := (i : Int) + 1) (by omega) (by omega), decide_true, hl, hb, h, Int.toNat_zero, Nat.zero_mul, show ((0 : Int) < ((1 : Nat) : Int)) = True from eq_true (by decide)]
      refine ⟨by omega, by omega, .inr (by omega), .inr trivial, fun r1 c' hc' _ => ⟨(i + 1, r1), by simp only; omega, by simp only; omega, [0, 3], ?_⟩⟩
      rw [one_more, ← take_snoc (by omega), hc']
      try rw [wrap_i64 (by omega) (by omega)]
      simp [-List.reduceReplicate, LES, renL_room, okL_room]
    · obtain rfl : i = 16 := by omega
      simp only [↓VC, VP, TT, Nat.reduceEqDiff, reduceCtorEq, Nat.reduceAdd, Nat.reduceSub, Nat.reduceLT, Nat.reduceMul, Nat.reducePow, Nat.reduceLeDiff, Int.reduceToNat, Int.reduceLE, Int.reduceLT, Int.reducePow, (eq_false (by omega) : (((16 : Nat) : Int) < 16) = False), decide_false, show ((16 : Int) < 16) = False from eq_false (by decide), decide_false]
      refine ⟨(1, r), by simp only; omega, by simp only; omega, [0, 1], ?_⟩
      simp [-List.reduceReplicate, LES, renL_room, okL_room, show IntKind.i64.wrap 1 = 1 from by decide]
  · simp only [↓VC, VP, TT, Nat.reduceEqDiff, reduceCtorEq, Nat.reduceAdd, Nat.reduceSub, Nat.reduceLT, Nat.reduceMul, Nat.reducePow, Nat.reduceLeDiff, Int.reduceToNat, Int.reduceLE, Int.reduceLT, Int.reducePow, show (((1 : Nat) : Int) < ((1 : Nat) : Int)) = False from eq_false (by decide), decide_false]
    rw [List.take_of_length_le (by omega)]
    refine ⟨_, _, [0, 1], ⟨r, trivial, rfl, rfl⟩, ?_⟩
    simp [-List.reduceReplicate, LES, renL_room, okL_room]
theorem take_bs_room {l : List UInt8} {n : Nat} {X : List V} (h : n ≤ l.length) : List.take n (bs l ++ X) = bs (l.take n) := by
  rw [List.take_append_of_le_length (by rw [bs_length]; exact h), bs_take]
end Go.Proofs.YtahnjhppkgndiaaGreat
/- Streams: the two functions. -/
set_option linter.unusedSimpArgs false
set_option linter.unusedVariables false
namespace Go.Proofs.YtahnjhppkgndiaaGreat
open Go Go.Vc
set_option maxRecDepth 10000
set_option maxHeartbeats 4000000
theorem hiB {k : Nat} (h : k ≤ 100) : IntKind.u8.wrap (IntKind.i64.wrap ((k : Int).tdiv 256)) = ((UInt8.ofInt ((k / 256 : Nat) : Int)).toNat : Int) := by
  rw [show (k : Int).tdiv 256 = ((k / 256 : Nat) : Int) from (Int.ofNat_tdiv k 256).symm, wrap_i64 (by omega) (by omega), wrap_u8]
theorem shB {k : Nat} : IntKind.u8.wrap ((k : Int).fdiv (2 ^ min 8 64)) = ((UInt8.ofInt ((k / 256 : Nat) : Int)).toNat : Int) := by
  rw [show (min 8 64 : Nat) = 8 from rfl, shr_nat, wrap_u8]
theorem loB {k : Nat} : IntKind.u8.wrap ((k : Int).tmod 256) = ((UInt8.ofInt (k : Int)).toNat : Int) := by
  rw [show (k : Int).tmod 256 = ((k % 256 : Nat) : Int) from (Int.ofNat_tmod k 256).symm, wrap_u8, ofInt_eq (b := (k : Int)) (by omega)]
theorem twoB {a b : UInt8} : [V.c (.int .u8 (a.toNat : Int)), V.c (.int .u8 (b.toNat : Int))] = bs [a, b] := rfl
theorem two_take {a b : UInt8} : List.take 2 (bs [a, b]) = bs [a, b] := rfl
theorem strm_take {c : Cip} {key nonce : List UInt8} {n k : Nat} (h1 : n ≤ 32 * k) (h2 : k ≤ (n + 31) / 32) : (c.strm key nonce k).take n = c.outS key nonce n := by
  obtain rfl : k = (n + 31) / 32 := by omega
  rfl
theorem k_spec_stream (c : Cip) (key nonce : List UInt8) (n : Nat) (hk : key.length = 16) (hn : nonce.length = 16) (h2 : n ≤ 2000) : LC Tryz.prog 86 [.a c.cells, .a (bs key), .a (bs nonce), .c (.int .i64 (n))] [] (Ret [] (fun _ : Nat => True) fun r => (.s 0 0 n (n + r), [⟨true, bs (c.outS key nonce n) ++ List.replicate r .j⟩])) := by
  refine LC_of (X := XX (fun _ => .nil) (fun _ => []) [15, 71, 72, 73, 79, 80, 87, 90, 91, 93, 99, 119, 137, 176, 177, 203, 204, 212, 219] 0) envOK Tryz.func86 (by kernel_rfl) (by kernel_rfl) rfl (Nat.le_of_ble_eq_true (by kernel_rfl)) ?_
  simp only [kFun, Tryz.f86, List.length_nil, List.length_cons, Nat.sub_zero, Nat.reduceSub, Nat.reduceAdd, List.nil_append, List.cons_append, List.replicate_succ, List.replicate_zero]
  simp only [XX, ↓VC, VP, TT, Nat.reduceEqDiff, reduceCtorEq, Nat.reduceAdd, Nat.reduceSub, Nat.reduceLT, Nat.reduceMul, Nat.reducePow, Nat.reduceLeDiff, Int.reduceToNat, Int.reduceLE, Int.reduceLT, Int.reducePow, k_len, ↓k_all, hk, hn]
  refine kLoop_of (fun s : Nat × Nat => ([.j, .j, .j, .c (.int .i64 (n)), .p 0 0, .p 1 0, .p 2 0, .j, .j, .s 3 0 (32 * s.1) (32 * s.1 + s.2), .c (.int .i64 (s.1)), .j, .j, .j, .j, .j, .j, .j, .j, .j, .j, .j, .j, .j, .j, .j, .j, .j, .j, .j, .j, .j, .j, .j, .j, .j, .j, .j, .j, .j, .j], [⟨true, c.cells⟩, ⟨true, bs key⟩, ⟨true, bs nonce⟩, ⟨true, bs (c.strm key nonce s.1) ++ List.replicate s.2 .j⟩])) (fun s => (n + 31) / 32 - s.1) (fun s => s.1 ≤ (n + 31) / 32) (0, 0) (by simp) ⟨[0, 1, 2, 3], by simp [-List.reduceReplicate, LES, bs_nil, Cip.strm, k_ren, k_ok]⟩ ?_
  rintro ⟨k, r⟩ hj
  simp only at hj
  rcases Nat.lt_or_ge (32 * k) n with h | h
  · simp only [↓VC, VP, TT, Nat.reduceEqDiff, reduceCtorEq, Nat.reduceAdd, Nat.reduceSub, Nat.reduceLT, Nat.reduceMul, Nat.reducePow, Nat.reduceLeDiff, Int.reduceToNat, Int.reduceLE, Int.reduceLT, Int.reducePow, ↓k_all, k_len, hk, hn, show ((32 * k : Nat) : Int) < (n : Int) from by omega, decide_true]
    have hx : List.take 16 (bs nonce) = bs nonce := List.take_of_length_le (by rw [bs_length, hn]; omega)
    have hS : (c.strm key nonce k).length = 32 * k := strm_len k
    simp only [↓VC, VP, TT, Nat.reduceEqDiff, reduceCtorEq, Nat.reduceAdd, Nat.reduceSub, Nat.reduceLT, Nat.reduceMul, Nat.reducePow, Nat.reduceLeDiff, Int.reduceToNat, Int.reduceLE, Int.reduceLT, Int.reducePow, List.replicate_one, List.flatten_cons, List.flatten_nil, hn]
    refine kCall_Ret (c_spec_l01Data1 nonce hn) (by rfl) [(4, 0)] (by simp [CALL, SCB, hn, hk, hx, outS_len, two_take, instL_cip, okL_cip, k_inst, k_ok, e_inst, e_take, e_ok, Cip.bl, okL, okV, maskL_len, dig_len, tkm, tkd, tag_len]) (by simp [CALL, SCB, hn, hk, hx, outS_len, two_take, instL_cip, okL_cip, k_inst, k_ok, e_inst, e_take, e_ok, Cip.bl, okL, okV, maskL_len, dig_len, tkm, tkd, tag_len]) (by simp [CALL, SCB, hn, hk, hx, outS_len, two_take, instL_cip, okL_cip, k_inst, k_ok, e_inst, e_take, e_ok, Cip.bl, okL, okV, maskL_len, dig_len, tkm, tkd, tag_len]) (by simp [okL_bs, okL_room, okL, okV, hn, hk, hx, outS_len, two_take, instL_cip, okL_cip, k_inst, k_ok, e_inst, e_take, e_ok, Cip.bl, okL, okV, maskL_len, dig_len, tkm, tkd, tag_len]) (by simp [CALL, SCB, hn, hk, hx, outS_len, two_take, instL_cip, okL_cip, k_inst, k_ok, e_inst, e_take, e_ok, Cip.bl, okL, okV, maskL_len, dig_len, tkm, tkd, tag_len]) fun r1 _ => ?_
    simp (config := { maxSteps := 2000000 }) only [CALL, ↓VC, VP, TT, Nat.reduceEqDiff, reduceCtorEq, Nat.reduceAdd, Nat.reduceSub, Nat.reduceLT, Nat.reduceMul, Nat.reducePow, Nat.reduceLeDiff, Int.reduceToNat, Int.reduceLE, Int.reduceLT, Int.reducePow, GOB, Cip.bl, e_inst0, k_inst, k_len, abs_len, enc_len, dig_len, ↓k_all, maskL_len, tag_len, hk, hn]
    refine ⟨by omega, by omega, .inr (by omega), .inr trivial, fun r2 c' hc' hle => ?_⟩
    rw [hiB (by omega), loB, twoB, show ∀ l m : List UInt8, bs l ++ bs m = bs (l ++ m) from fun l m => List.map_append.symm]
    refine kCall_val (k_spec_tag c key (nonce ++ [UInt8.ofInt ((k / 256 : Nat) : Int), UInt8.ofInt (k : Int)]) c' hk (by simp [hn]; omega) (by simp [hn])) (by rfl) [(7, 0)] (by simp [CALL, SCB, hn, hk, hx, outS_len, two_take, instL_cip, okL_cip, k_inst, k_ok, e_inst, e_take, e_ok, Cip.bl, okL, okV, maskL_len, dig_len, tkm, tkd, tag_len]) (by simp [CALL, SCB, hn, hk, hx, outS_len, two_take, instL_cip, okL_cip, k_inst, k_ok, e_inst, e_take, e_ok, Cip.bl, okL, okV, maskL_len, dig_len, tkm, tkd, tag_len]) (by simp [CALL, SCB, hn, hk, hx, outS_len, two_take, instL_cip, okL_cip, k_inst, k_ok, e_inst, e_take, e_ok, Cip.bl, okL, okV, maskL_len, dig_len, tkm, tkd, tag_len]) (by simp [okL_bs, okL_room, okL, okV, hn, hk, hx, outS_len, two_take, instL_cip, okL_cip, k_inst, k_ok, e_inst, e_take, e_ok, Cip.bl, okL, okV, maskL_len, dig_len, tkm, tkd, tag_len]) ?_
    simp (config := { maxSteps := 2000000 }) only [CALL, ↓VC, VP, TT, Nat.reduceEqDiff, reduceCtorEq, Nat.reduceAdd, Nat.reduceSub, Nat.reduceLT, Nat.reduceMul, Nat.reducePow, Nat.reduceLeDiff, Int.reduceToNat, Int.reduceLE, Int.reduceLT, Int.reducePow, GOB, Cip.bl, e_inst0, k_inst, k_len, abs_len, enc_len, dig_len, ↓k_all, maskL_len, tag_len, hk, hn]
    refine kCall_Ret (c_spec_l08Bytes (c.tag key (nonce ++ [UInt8.ofInt ((k / 256 : Nat) : Int), UInt8.ofInt (k : Int)])) (tag_len _ _)) (by rfl) [] (by simp [CALL, SCB, hn, hk, hx, outS_len, two_take, instL_cip, okL_cip, k_inst, k_ok, e_inst, e_take, e_ok, Cip.bl, okL, okV, maskL_len, dig_len, tkm, tkd, tag_len]) (by simp [CALL, SCB, hn, hk, hx, outS_len, two_take, instL_cip, okL_cip, k_inst, k_ok, e_inst, e_take, e_ok, Cip.bl, okL, okV, maskL_len, dig_len, tkm, tkd, tag_len]) (by simp [CALL, SCB, hn, hk, hx, outS_len, two_take, instL_cip, okL_cip, k_inst, k_ok, e_inst, e_take, e_ok, Cip.bl, okL, okV, maskL_len, dig_len, tkm, tkd, tag_len]) (by simp [okL_bs, okL_room, okL, okV, hn, hk, hx, outS_len, two_take, instL_cip, okL_cip, k_inst, k_ok, e_inst, e_take, e_ok, Cip.bl, okL, okV, maskL_len, dig_len, tkm, tkd, tag_len]) (by simp [CALL, SCB, hn, hk, hx, outS_len, two_take, instL_cip, okL_cip, k_inst, k_ok, e_inst, e_take, e_ok, Cip.bl, okL, okV, maskL_len, dig_len, tkm, tkd, tag_len]) fun r3 _ => ?_
    simp (config := { maxSteps := 2000000 }) only [CALL, ↓VC, VP, TT, Nat.reduceEqDiff, reduceCtorEq, Nat.reduceAdd, Nat.reduceSub, Nat.reduceLT, Nat.reduceMul, Nat.reducePow, Nat.reduceLeDiff, Int.reduceToNat, Int.reduceLE, Int.reduceLT, Int.reducePow, GOB, Cip.bl, e_inst0, k_inst, k_len, abs_len, enc_len, dig_len, ↓k_all, maskL_len, tag_len, hk, hn]
    refine ⟨by omega, by omega, by omega, .inr (by omega), .inr (by omega), fun r4 c2 hc2 hle2 => ?_⟩
    refine ⟨(k + 1, r4), by simp only; omega, by simp only; omega, [0, 1, 2, 9], ?_⟩
    rw [take_room hS.symm, show ∀ l m : List UInt8, bs l ++ bs m = bs (l ++ m) from fun l m => List.map_append.symm, wrap_i64 (by omega) (by omega), hc2, show c.strm key nonce k ++ c.tag key (nonce ++ [UInt8.ofInt ((k / 256 : Nat) : Int), UInt8.ofInt (k : Int)]) = c.strm key nonce (k + 1) from rfl]
    simp [-List.reduceReplicate, LES, renL_room, okL_room, k_ren, k_ok]
    omega
  · simp only [↓VC, VP, TT, Nat.reduceEqDiff, reduceCtorEq, Nat.reduceAdd, Nat.reduceSub, Nat.reduceLT, Nat.reduceMul, Nat.reducePow, Nat.reduceLeDiff, Int.reduceToNat, Int.reduceLE, Int.reduceLT, Int.reducePow, ↓k_all, k_len, hk, hn, show ¬ ((32 * k : Nat) : Int) < (n : Int) from by omega, decide_false]
    have hx : List.take n (bs (c.strm key nonce k) ++ List.replicate r V.j) = bs (c.outS key nonce n) := by rw [take_bs_room (by rw [strm_len]; omega), strm_take h hj]
    refine ⟨by omega, ?_⟩
    refine kCall_Ret (c_spec_l01Copy (c.outS key nonce n) (32 * k + r) (by rw [outS_len]; omega) (by rw [outS_len]; omega)) (by rfl) [(3, 0)] (by simp [CALL, SCB, hn, hk, hx, outS_len, two_take, instL_cip, okL_cip, k_inst, k_ok, e_inst, e_take, e_ok, Cip.bl, okL, okV, maskL_len, dig_len, tkm, tkd, tag_len]) (by simp [CALL, SCB, hn, hk, hx, outS_len, two_take, instL_cip, okL_cip, k_inst, k_ok, e_inst, e_take, e_ok, Cip.bl, okL, okV, maskL_len, dig_len, tkm, tkd, tag_len]) (by simp [CALL, SCB, hn, hk, hx, outS_len, two_take, instL_cip, okL_cip, k_inst, k_ok, e_inst, e_take, e_ok, Cip.bl, okL, okV, maskL_len, dig_len, tkm, tkd, tag_len]) (by simp [okL_bs, okL_room, okL, okV, hn, hk, hx, outS_len, two_take, instL_cip, okL_cip, k_inst, k_ok, e_inst, e_take, e_ok, Cip.bl, okL, okV, maskL_len, dig_len, tkm, tkd, tag_len]) (by simp [CALL, SCB, hn, hk, hx, outS_len, two_take, instL_cip, okL_cip, k_inst, k_ok, e_inst, e_take, e_ok, Cip.bl, okL, okV, maskL_len, dig_len, tkm, tkd, tag_len]) fun x _ => ?_
    simp (config := { maxSteps := 2000000 }) only [CALL, ↓VC, VP, TT, Nat.reduceEqDiff, reduceCtorEq, Nat.reduceAdd, Nat.reduceSub, Nat.reduceLT, Nat.reduceMul, Nat.reducePow, Nat.reduceLeDiff, Int.reduceToNat, Int.reduceLE, Int.reduceLT, Int.reducePow, GOB, Cip.bl, e_inst0, k_inst, k_len, abs_len, enc_len, dig_len, ↓k_all, maskL_len, tag_len, hk, hn, outS_len]
    refine ⟨_, _, [4], ⟨x, trivial, rfl, rfl⟩, ?_⟩
    simp [-List.reduceReplicate, LES, renL_room, okL_room, k_ren, k_ok]
theorem clone_uni {l : List UInt8} {c : Nat} (hc : l.length ≤ c) : ∀ o : Option Nat, (o = none → l = [] ∧ c = 0) → ∃ y : Nat, True ∧ nilV ((fun o : Option Nat => match o with | some r => (V.s 1 0 l.length (l.length + r), [(⟨true, bs l ++ List.replicate r V.j⟩ : Blk)]) | none => (.c (.slice none 0 0), [])) o).1 ((fun r => (V.s 1 0 l.length (l.length + r), [(⟨true, bs l ++ List.replicate r V.j⟩ : Blk)])) y).1 ∧ ∃ ex, ((fun r => (V.s 1 0 l.length (l.length + r), [(⟨true, bs l ++ List.replicate r V.j⟩ : Blk)])) y).2 = ((fun o : Option Nat => match o with | some r => (V.s 1 0 l.length (l.length + r), [(⟨true, bs l ++ List.replicate r V.j⟩ : Blk)]) | none => (.c (.slice none 0 0), [])) o).2 ++ ex ∧ ∀ b ∈ ex, b.cells = [] := by
  intro o ho
  cases o with
  | some r => exact ⟨r, trivial, by simp [nilV], [], by simp, by simp⟩
  | none =>
    obtain ⟨rfl, rfl⟩ := ho rfl
    exact ⟨0, trivial, by simp [nilV], _, by simp [bs_nil]; rfl, by simp⟩
theorem c_Clone0 (l : List UInt8) (c : Nat) (hc : l.length ≤ c) (hm : l.length ≤ 4194304) : LC Tryz.prog 109 [.s 0 0 l.length c] [⟨false, bs l⟩] (Ret [⟨false, bs l⟩] (fun _ : Nat => True) fun r => (.s 1 0 l.length (l.length + r), [⟨true, bs l ++ List.replicate r .j⟩])) :=
  LC_nil (c_slices_Clone l c hc hm) (clone_uni hc)
theorem k_impl_stream (c : Cip) (key nonce : List UInt8) (n : Nat) (hk : key.length = 16) (hn : nonce.length = 16) (h2 : n ≤ 2000) : LC Tryz.prog 83 [.p 0 0, .a (bs key), .a (bs nonce), .c (.int .i64 (n))] (c.bl false) (Ret (c.bl false) (fun _ : Nat => True) fun r => (.s 3 0 n (n + r), [⟨true, bs (c.outS key nonce n) ++ List.replicate r .j⟩])) := by
  unfold Cip.bl
  refine LC_of (X := XX (fun | 5 => .one 0 (.one 1 (.one 2 (.one 3 (.one 4 (.one 5 (.one 6 (.one 7 (.one 8 (.one 9 (.one 10 (.one 11 (.one 12 .nil)))))))))))) | _ => .nil) (fun | 5 => [(11, 11)] | _ => []) [15, 71, 72, 73, 79, 80, 87, 90, 91, 93, 99, 119, 137, 176, 177, 203, 204, 212, 219] 3) envOK Tryz.func83 (by kernel_rfl) (by kernel_rfl) rfl (Nat.le_of_ble_eq_true (by kernel_rfl)) ?_
  simp only [kFun, Tryz.f83, List.length_nil, List.length_cons, Nat.sub_zero, Nat.reduceSub, Nat.reduceAdd, List.nil_append, List.cons_append, List.replicate_succ, List.replicate_zero]
  simp only [XX, ↓VC, VP, TT, Nat.reduceEqDiff, reduceCtorEq, Nat.reduceAdd, Nat.reduceSub, Nat.reduceLT, Nat.reduceMul, Nat.reducePow, Nat.reduceLeDiff, Int.reduceToNat, Int.reduceLE, Int.reduceLT, Int.reducePow, hk, hn]
  refine kLoop_of (fun s : Nat × Nat => ([.p 0 0, .j, .j, .c (.int .i64 (n)), .j, .p 3 0, .p 4 0, .j, .j, .s 5 0 (32 * s.1) (32 * s.1 + s.2), .c (.int .i64 (s.1)), .j, .j, .j, .j, .j, .j, .j, .j, .j, .j, .j, .j, .j, .j, .j, .j, .j, .j, .j, .j, .j, .j, .j, .j, .j, .j], [⟨false, c.eng 1 2⟩, ⟨false, bs c.t1⟩, ⟨false, bs c.t2⟩, ⟨true, bs key⟩, ⟨true, bs nonce⟩, ⟨true, bs (c.strm key nonce s.1) ++ List.replicate s.2 .j⟩])) (fun s => (n + 31) / 32 - s.1) (fun s => s.1 ≤ (n + 31) / 32) (0, 0) (by simp) ⟨[0, 1, 2, 3, 4, 5], by simp [-List.reduceReplicate, LES, bs_nil, Cip.strm, e_ren, e_ok]⟩ ?_
  rintro ⟨k, r⟩ hj
  simp only at hj
  rcases Nat.lt_or_ge (32 * k) n with h | h
  · simp only [↓VC, VP, TT, Nat.reduceEqDiff, reduceCtorEq, Nat.reduceAdd, Nat.reduceSub, Nat.reduceLT, Nat.reduceMul, Nat.reducePow, Nat.reduceLeDiff, Int.reduceToNat, Int.reduceLE, Int.reduceLT, Int.reducePow, hk, hn, show ((32 * k : Nat) : Int) < (n : Int) from by omega, decide_true]
    have hx : List.take 16 (bs nonce) = bs nonce := List.take_of_length_le (by rw [bs_length, hn]; omega)
    have hS : (c.strm key nonce k).length = 32 * k := strm_len k
    rw [shB, wrap_u8, twoB]
    refine kCall_val (k_impl_tag2 c key nonce [UInt8.ofInt ((k / 256 : Nat) : Int), UInt8.ofInt (k : Int)] 16 2 hk (by omega) (by simp) (by simp [hn])) (by rfl) [(0, 0), (1, 0), (2, 0), (7, 0), (4, 0), (6, 0)] (by simp [CALL, SCB, hn, hk, hx, outS_len, two_take, instL_cip, okL_cip, k_inst, k_ok, e_inst, e_take, e_ok, Cip.bl, okL, okV, maskL_len, dig_len, tkm, tkd, tag_len]) (by simp [CALL, SCB, hn, hk, hx, outS_len, two_take, instL_cip, okL_cip, k_inst, k_ok, e_inst, e_take, e_ok, Cip.bl, okL, okV, maskL_len, dig_len, tkm, tkd, tag_len]) (by simp [CALL, SCB, hn, hk, hx, outS_len, two_take, instL_cip, okL_cip, k_inst, k_ok, e_inst, e_take, e_ok, Cip.bl, okL, okV, maskL_len, dig_len, tkm, tkd, tag_len]) (by simp [okL_bs, okL_room, okL, okV, hn, hk, hx, outS_len, two_take, instL_cip, okL_cip, k_inst, k_ok, e_inst, e_take, e_ok, Cip.bl, okL, okV, maskL_len, dig_len, tkm, tkd, tag_len]) ?_
    simp (config := { maxSteps := 2000000 }) only [CALL, ↓VC, VP, TT, Nat.reduceEqDiff, reduceCtorEq, Nat.reduceAdd, Nat.reduceSub, Nat.reduceLT, Nat.reduceMul, Nat.reducePow, Nat.reduceLeDiff, Int.reduceToNat, Int.reduceLE, Int.reduceLT, Int.reducePow, GOB, Cip.bl, e_inst0, k_inst, k_len, abs_len, enc_len, dig_len, ↓k_all, maskL_len, tag_len, hk, hn]
    refine ⟨by omega, by omega, by omega, .inr (by omega), .inr trivial, fun r4 c2 hc2 hle2 => ?_⟩
    refine ⟨(k + 1, r4), by simp only; omega, by simp only; omega, [0, 1, 2, 3, 4, 9], ?_⟩
    rw [take_room hS.symm, show ∀ l m : List UInt8, bs l ++ bs m = bs (l ++ m) from fun l m => List.map_append.symm, wrap_i64 (by omega) (by omega), hc2, show c.strm key nonce k ++ c.tag key (nonce ++ [UInt8.ofInt ((k / 256 : Nat) : Int), UInt8.ofInt (k : Int)]) = c.strm key nonce (k + 1) from rfl]
    simp [-List.reduceReplicate, LES, renL_room, okL_room, e_ren, e_ok]
    omega
  · simp only [↓VC, VP, TT, Nat.reduceEqDiff, reduceCtorEq, Nat.reduceAdd, Nat.reduceSub, Nat.reduceLT, Nat.reduceMul, Nat.reducePow, Nat.reduceLeDiff, Int.reduceToNat, Int.reduceLE, Int.reduceLT, Int.reducePow, hk, hn, show ¬ ((32 * k : Nat) : Int) < (n : Int) from by omega, decide_false]
    refine ⟨by omega, ?_⟩
    have hx : List.take n (bs (c.strm key nonce k) ++ List.replicate r V.j) = bs (c.outS key nonce n) := by rw [take_bs_room (by rw [strm_len]; omega), strm_take h hj]
    refine kCall_Ret (c_Clone0 (c.outS key nonce n) (32 * k + r) (by rw [outS_len]; omega) (by rw [outS_len]; omega)) (by rfl) [(5, 0)] (by simp [CALL, SCB, hn, hk, hx, outS_len, two_take, instL_cip, okL_cip, k_inst, k_ok, e_inst, e_take, e_ok, Cip.bl, okL, okV, maskL_len, dig_len, tkm, tkd, tag_len]) (by simp [CALL, SCB, hn, hk, hx, outS_len, two_take, instL_cip, okL_cip, k_inst, k_ok, e_inst, e_take, e_ok, Cip.bl, okL, okV, maskL_len, dig_len, tkm, tkd, tag_len]) (by simp [CALL, SCB, hn, hk, hx, outS_len, two_take, instL_cip, okL_cip, k_inst, k_ok, e_inst, e_take, e_ok, Cip.bl, okL, okV, maskL_len, dig_len, tkm, tkd, tag_len]) (by simp [okL_bs, okL_room, okL, okV, hn, hk, hx, outS_len, two_take, instL_cip, okL_cip, k_inst, k_ok, e_inst, e_take, e_ok, Cip.bl, okL, okV, maskL_len, dig_len, tkm, tkd, tag_len]) (by simp [CALL, SCB, hn, hk, hx, outS_len, two_take, instL_cip, okL_cip, k_inst, k_ok, e_inst, e_take, e_ok, Cip.bl, okL, okV, maskL_len, dig_len, tkm, tkd, tag_len]) fun x _ => ?_
    simp (config := { maxSteps := 2000000 }) only [CALL, ↓VC, VP, TT, Nat.reduceEqDiff, reduceCtorEq, Nat.reduceAdd, Nat.reduceSub, Nat.reduceLT, Nat.reduceMul, Nat.reducePow, Nat.reduceLeDiff, Int.reduceToNat, Int.reduceLE, Int.reduceLT, Int.reducePow, GOB, Cip.bl, e_inst0, k_inst, k_len, abs_len, enc_len, dig_len, ↓k_all, maskL_len, tag_len, hk, hn, outS_len]
    refine ⟨_, _, [0, 1, 2, 6], ⟨x, trivial, rfl, rfl⟩, ?_⟩
    simp [-List.reduceReplicate, LES, renL_room, okL_room, e_ren, e_ok]
end Go.Proofs.YtahnjhppkgndiaaGreat

import Derived.Test.YtahnjhppkgndiaaGreatDrawD
import Derived.Test.YtahnjhppkgndiaaGreatTk
import Derived.Test.YtahnjhppkgndiaaGreatHexT
/- Draws for digests and tags: ciphers of few rounds, data, digests. -/
set_option linter.unusedSimpArgs false
set_option linter.unusedVariables false
namespace Go.Proofs.YtahnjhppkgndiaaGreat
open Go Go.Vc
set_option maxRecDepth 10000
set_option maxHeartbeats 40000000
theorem c_spec_l01DataN (n cc : Nat) (b : List UInt8) (hb : b.length = n * 16) (hc : n ≤ cc) (hm : n ≤ 100000) : LC Tryz.prog 155 [.s 0 0 n cc] [⟨false, bs b⟩] (Ret [⟨false, bs b⟩] (fun _ : Nat => True) fun r => (.s 1 0 (n * 16) (n * 16 + r), [⟨true, bs b ++ List.replicate r .j⟩])) := by
  refine LC_of (X := XX (fun _ => .nil) (fun _ => []) [15, 71, 72, 73, 79, 80, 87, 90, 91, 93, 99, 119, 137, 176, 177, 203, 204, 212, 219] 1) envOK Tryz.func155 (by kernel_rfl) (by kernel_rfl) rfl (Nat.le_of_ble_eq_true (by kernel_rfl)) ?_
  simp only [kFun, Tryz.f155, List.length_nil, List.length_cons, Nat.sub_zero, Nat.reduceSub, Nat.reduceAdd, List.nil_append, List.cons_append, List.replicate_succ, List.replicate_zero]
  simp only [XX, ↓VC, VP, TT, Nat.reduceEqDiff, reduceCtorEq, Nat.reduceAdd, Nat.reduceSub, Nat.reduceLT, Nat.reduceMul, Nat.reducePow, Nat.reduceLeDiff, Int.reduceToNat, Int.reduceLE, Int.reduceLT, Int.reducePow]
  refine kLoop_of (fun s : Nat × Nat => ([.s 0 0 n cc, .j, .j, .s 1 0 (s.1 * 16) (s.1 * 16 + s.2), .c (.int .i64 (s.1)), .j, .j, .j, .j, .j, .j, .j, .j, .j, .j, .j, .j, .j, .j, .j, .j, .j, .j, .j, .j, .j, .j], [⟨false, bs b⟩, ⟨true, bs (b.take (s.1 * 16)) ++ List.replicate s.2 .j⟩])) (fun s => n - s.1) (fun s => s.1 ≤ n) (0, 0) (by simp) ⟨[0, 1], by simp [-List.reduceReplicate, LES, bs_nil]⟩ ?_
  rintro ⟨j, r⟩ hj
  simp only at hj
  rcases Nat.lt_or_ge j n with h1 | h1
  · simp only [↓VC, VP, TT, Nat.reduceEqDiff, reduceCtorEq, Nat.reduceAdd, Nat.reduceSub, Nat.reduceLT, Nat.reduceMul, Nat.reducePow, Nat.reduceLeDiff, Int.reduceToNat, Int.reduceLE, Int.reduceLT, Int.reducePow, (eq_true (by omega) : ((j : Int) < (n : Int)) = True), decide_true]
    refine kLoop_of (fun s : Nat × Nat => ([.s 0 0 n cc, .j, .j, .s 1 0 (j * 16 + s.1) (j * 16 + s.1 + s.2), .c (.int .i64 (j)), .c (.int .i64 (s.1)), .j, .j, .j, .j, .j, .j, .j, .j, .j, .j, .j, .j, .j, .j, .j, .j, .j, .j, .j, .j, .j], [⟨false, bs b⟩, ⟨true, bs (b.take (j * 16 + s.1)) ++ List.replicate s.2 .j⟩])) (fun s => 16 - s.1) (fun s => s.1 ≤ 16) (0, r) (by simp) ⟨[0, 1], by simp [-List.reduceReplicate, LES, bs_nil]⟩ ?_
    rintro ⟨i, r⟩ hi
    simp only at hi
    have hl : (b.take (j * 16 + i)).length = j * 16 + i := by rw [List.length_take]; omega
    rcases Nat.lt_or_ge i 16 with h | h
    · have hx : j * 16 + i < b.length := by omega
      simp only [↓VC, VP, TT, Nat.reduceEqDiff, reduceCtorEq, Nat.reduceAdd, Nat.reduceSub, Nat.reduceLT, Nat.reduceMul, Nat.reducePow, Nat.reduceLeDiff, Int.reduceToNat, Int.reduceLE, Int.reduceLT, Int.reducePow, h, (eq_true (by omega) : ((i : Int) < 16) = True), (eq_true (by omega) : ((i : Int) < ((16 : Nat) : Int)) = True), wrap_i64 (n := (i : Int) + 1) (by omega) (by omega), decide_true, hl, hx, Int.toNat_natCast, (eq_true (by omega) : ((j : Int) < (n : Int)) = True)]
      refine ⟨by omega, by omega, .inr (by omega), .inr trivial, fun r1 c' hc' _ => ⟨(i + 1, r1), by simp only; omega, by simp only; omega, [0, 3], ?_⟩⟩
      rw [one_more, ← take_snoc (by omega), hc']
      try rw [wrap_i64 (by omega) (by omega)]
      simp [-List.reduceReplicate, LES, renL_room, okL_room, Nat.add_assoc]
    · obtain rfl : i = 16 := by omega
      simp only [↓VC, VP, TT, Nat.reduceEqDiff, reduceCtorEq, Nat.reduceAdd, Nat.reduceSub, Nat.reduceLT, Nat.reduceMul, Nat.reducePow, Nat.reduceLeDiff, Int.reduceToNat, Int.reduceLE, Int.reduceLT, Int.reducePow, (eq_false (by omega) : (((16 : Nat) : Int) < 16) = False), decide_false, show ((16 : Int) < 16) = False from eq_false (by decide), decide_false]
      refine ⟨(j + 1, r), by simp only; omega, by simp only; omega, [0, 1], ?_⟩
      rw [wrap_i64 (by omega) (by omega)]
      simp [-List.reduceReplicate, LES, renL_room, okL_room, Nat.add_mul]
  · obtain rfl : j = n := by omega
    simp only [↓VC, VP, TT, Nat.reduceEqDiff, reduceCtorEq, Nat.reduceAdd, Nat.reduceSub, Nat.reduceLT, Nat.reduceMul, Nat.reducePow, Nat.reduceLeDiff, Int.reduceToNat, Int.reduceLE, Int.reduceLT, Int.reducePow, (eq_false (by omega) : ((j : Int) < (j : Int)) = False), decide_false]
    rw [List.take_of_length_le (by omega)]
    refine ⟨_, _, [0, 1], ⟨r, trivial, rfl, rfl⟩, ?_⟩
    simp [-List.reduceReplicate, LES, renL_room, okL_room]
section
variable {l : List UInt8} {c : Nat} {q : Nat × Nat}
theorem d_dcipher (hc : l.length ≤ c) (hm : l.length ≤ 4096) (hq : okS l q) : LC Tryz.prog 71 [.p 0 0] [⟨true, sv 1 l.length c q⟩, ⟨false, bs l⟩] (RetM (fun x : (Nat × Nat) × DC => okS l x.1 ∧ x.2.ok) fun x => (.a x.2.cells, [⟨true, sv 1 l.length c x.1⟩, ⟨false, bs l⟩], [])) := by
  refine LC_of (X := XX (fun _ => .nil) (fun _ => []) [15, 71, 72, 73, 79, 80, 87, 90, 91, 93, 99, 119, 137, 176, 177, 203, 204, 212, 219] 2) envOK Tryz.func71 (by kernel_rfl) (by kernel_rfl) rfl (Nat.le_of_ble_eq_true (by kernel_rfl)) ?_
  simp only [kFun, Tryz.f71, List.length_nil, List.length_cons, Nat.sub_zero, Nat.reduceSub, Nat.reduceAdd, List.nil_append, List.cons_append, List.replicate_succ, List.replicate_zero]
  simp only [XX, ↓VC, VP, TT, Nat.reduceEqDiff, reduceCtorEq, Nat.reduceAdd, Nat.reduceSub, Nat.reduceLT, Nat.reduceMul, Nat.reducePow, Nat.reduceLeDiff, Int.reduceToNat, Int.reduceLE, Int.reduceLT, Int.reducePow, cip_build, cipC_len z256 z16 z16]
  refine kCall_M (d_cipherS hc hm hq) (by rfl) [(0, 0), (1, 0)] (by simp [CALL, SCB, SD, nsv]) (by simp [CALL, SCB, SD, nsv]) (by simp) (by simp [CALL, SCB, SD, nsv]) (by simp [okL_bs, okL_room, okL, okV, SD, nsv]) (by intro x _; simp [keepR, bs_length, SD, nsv]) (by simp [CALL, SCB, SD, nsv]) fun x1 h1 => ?_
  obtain ⟨q1, ⟨z, b, A, pl, n⟩⟩ := x1
  obtain ⟨hq1, ⟨hb, hA, hp⟩⟩ := h1
  simp only [DC.cells] at hq1 hb hA hp ⊢
  simp (config := { maxSteps := 2000000 }) only [CALL, ↓VC, VP, TT, Nat.reduceEqDiff, reduceCtorEq, Nat.reduceAdd, Nat.reduceSub, Nat.reduceLT, Nat.reduceMul, Nat.reducePow, Nat.reduceLeDiff, Int.reduceToNat, Int.reduceLE, Int.reduceLT, Int.reducePow, GOB, GD, cipC_len z256 z16 z16, DC.cells, cipC_len hb hA hp, ↓cip_put_all z256 z16 z16 hb hA hp, ↓cip_rd hb hA hp, ↓cip_put_n hb hA hp, ↓cip_all hb hA hp]
  refine kGd_split rfl (fun g1 => ?_) (fun g1 => ?_)
  · simp only [↓VC, VP, TT, Nat.reduceEqDiff, reduceCtorEq, Nat.reduceAdd, Nat.reduceSub, Nat.reduceLT, Nat.reduceMul, Nat.reducePow, Nat.reduceLeDiff, Int.reduceToNat, Int.reduceLE, Int.reduceLT, Int.reducePow, cipC_len hb hA hp, ↓cip_rd hb hA hp]
    refine kGd_split rfl (fun g2 => ?_) (fun g2 => ?_)
    · simp (config := { maxSteps := 2000000 }) only [CALL, ↓VC, VP, TT, Nat.reduceEqDiff, reduceCtorEq, Nat.reduceAdd, Nat.reduceSub, Nat.reduceLT, Nat.reduceMul, Nat.reducePow, Nat.reduceLeDiff, Int.reduceToNat, Int.reduceLE, Int.reduceLT, Int.reducePow, GOB, GD, cipC_len z256 z16 z16, DC.cells, cipC_len hb hA hp, ↓cip_rd hb hA hp]
      refine kCall_M (d_next hc hm hq1 8) (by rfl) [(0, 0), (1, 0)] (by simp [CALL, SCB, SD, nsv]) (by simp [CALL, SCB, SD, nsv]) (by simp) (by simp [CALL, SCB, SD, nsv]) (by simp [okL_bs, okL_room, okL, okV, SD, nsv]) (by intro x _; simp [keepR, bs_length, SD, nsv]) (by simp [CALL, SCB, SD, nsv]) fun x2 h2 => ?_
      simp (config := { maxSteps := 2000000 }) only [CALL, ↓VC, VP, TT, Nat.reduceEqDiff, reduceCtorEq, Nat.reduceAdd, Nat.reduceSub, Nat.reduceLT, Nat.reduceMul, Nat.reducePow, Nat.reduceLeDiff, Int.reduceToNat, Int.reduceLE, Int.reduceLT, Int.reducePow, GOB, GD, cipC_len z256 z16 z16, DC.cells, cipC_len hb hA hp, ↓cip_put_all z256 z16 z16 hb hA hp, ↓cip_rd hb hA hp, ↓cip_put_n hb hA hp, ↓cip_all hb hA hp]
      refine ⟨fun _ => ?_, fun _ => ?_⟩
      · refine ⟨by decide, ?_⟩
        exact ⟨_, _, [0, 1], ⟨(x2.1, ⟨z, b, A, pl, IntKind.i64.wrap (1 + n.tmod 3)⟩), ⟨h2.1, ⟨hb, hA, hp⟩⟩, rfl, rfl⟩, by simp [-List.reduceReplicate, LES, sv_ren, sv_ok, DC.cells, renL_cip, okL_cip]⟩
      · exact ⟨_, _, [0, 1], ⟨(x2.1, ⟨z, b, A, pl, n⟩), ⟨h2.1, ⟨hb, hA, hp⟩⟩, rfl, rfl⟩, by simp [-List.reduceReplicate, LES, sv_ren, sv_ok, DC.cells, renL_cip, okL_cip]⟩
    · simp only [↓VC, VP, TT, Nat.reduceEqDiff, reduceCtorEq, Nat.reduceAdd, Nat.reduceSub, Nat.reduceLT, Nat.reduceMul, Nat.reducePow, Nat.reduceLeDiff, Int.reduceToNat, Int.reduceLE, Int.reduceLT, Int.reducePow, cipC_len hb hA hp, ↓cip_put_all z256 z16 z16 hb hA hp, ↓cip_all hb hA hp]
      exact ⟨_, _, [0, 1], ⟨(q1, ⟨z, b, A, pl, n⟩), ⟨hq1, ⟨hb, hA, hp⟩⟩, rfl, rfl⟩, by simp [-List.reduceReplicate, LES, sv_ren, sv_ok, DC.cells, renL_cip, okL_cip]⟩
  · simp only [↓VC, VP, TT, Nat.reduceEqDiff, reduceCtorEq, Nat.reduceAdd, Nat.reduceSub, Nat.reduceLT, Nat.reduceMul, Nat.reducePow, Nat.reduceLeDiff, Int.reduceToNat, Int.reduceLE, Int.reduceLT, Int.reducePow, cipC_len hb hA hp, ↓cip_put_all z256 z16 z16 hb hA hp, ↓cip_all hb hA hp]
    exact ⟨_, _, [0, 1], ⟨(q1, ⟨z, b, A, pl, n⟩), ⟨hq1, ⟨hb, hA, hp⟩⟩, rfl, rfl⟩, by simp [-List.reduceReplicate, LES, sv_ren, sv_ok, DC.cells, renL_cip, okL_cip]⟩
theorem zer_flatR (n : Nat) : (List.replicate n [V.c (.int .u8 0)]).flatten = bs (List.replicate n 0) := flat_zeros
theorem d_data (hc : l.length ≤ c) (hm : l.length ≤ 4096) (hq : okS l q) : LC Tryz.prog 73 [.p 0 0] [⟨true, sv 1 l.length c q⟩, ⟨false, bs l⟩] (RetM (fun x : (Nat × Nat) × List UInt8 × Nat => okS l x.1 ∧ x.2.1.length ≤ 2001) fun x => (.s 2 0 x.2.1.length (x.2.1.length + x.2.2), [⟨true, sv 1 l.length c x.1⟩, ⟨false, bs l⟩], [⟨true, bs x.2.1 ++ List.replicate x.2.2 .j⟩])) := by
  refine LC_of (X := XX (fun _ => .nil) (fun _ => []) [15, 71, 72, 73, 79, 80, 87, 90, 91, 93, 99, 119, 137, 176, 177, 203, 204, 212, 219] 2) envOK Tryz.func73 (by kernel_rfl) (by kernel_rfl) rfl (Nat.le_of_ble_eq_true (by kernel_rfl)) ?_
  simp only [kFun, Tryz.f73, List.length_nil, List.length_cons, Nat.sub_zero, Nat.reduceSub, Nat.reduceAdd, List.nil_append, List.cons_append, List.replicate_succ, List.replicate_zero]
  simp only [XX, ↓VC, VP, TT, Nat.reduceEqDiff, reduceCtorEq, Nat.reduceAdd, Nat.reduceSub, Nat.reduceLT, Nat.reduceMul, Nat.reducePow, Nat.reduceLeDiff, Int.reduceToNat, Int.reduceLE, Int.reduceLT, Int.reducePow]
  refine kCall_M (d_next hc hm hq 40) (by rfl) [(0, 0), (1, 0)] (by simp [CALL, SCB, SD, nsv]) (by simp [CALL, SCB, SD, nsv]) (by simp) (by simp [CALL, SCB, SD, nsv]) (by simp [okL_bs, okL_room, okL, okV, SD, nsv]) (by intro x _; simp [keepR, bs_length, SD, nsv]) (by simp [CALL, SCB, SD, nsv]) fun x1 h1 => ?_
  simp (config := { maxSteps := 2000000 }) only [CALL, ↓VC, VP, TT, Nat.reduceEqDiff, reduceCtorEq, Nat.reduceAdd, Nat.reduceSub, Nat.reduceLT, Nat.reduceMul, Nat.reducePow, Nat.reduceLeDiff, Int.reduceToNat, Int.reduceLE, Int.reduceLT, Int.reducePow, GOB, GD, cipC_len z256 z16 z16, DC.cells]
  refine ⟨fun _ => ?_, fun _ => ?_⟩
  · refine kCall_M (d_pick hc hm h1.1 [2000, 2001, 200] 3 (by simp) (by simp)) (by rfl) [(0, 0), (1, 0), (2, 0)] (by simp [CALL, SCB, SD, nsv, splice]) (by simp [CALL, SCB, SD, nsv, splice]) (by simp) (by simp [CALL, SCB, SD, nsv, splice]) (by simp [okL_bs, okL_room, okL, okV, SD, nsv, splice]) (by intro x _; simp [keepR, bs_length, SD, nsv, splice]) (by simp [CALL, SCB, SD, nsv, splice]) fun x2 h2 => ?_
    obtain ⟨q2, k⟩ := x2
    obtain ⟨hq2, hk⟩ := h2
    simp only at hq2 hk ⊢
    have hk' : 0 ≤ k ∧ k ≤ 2001 := by
      simp only [List.mem_cons, List.not_mem_nil, or_false] at hk
      omega
    obtain ⟨m, rfl⟩ : ∃ m : Nat, k = m := ⟨k.toNat, by omega⟩
    simp (config := { maxSteps := 2000000 }) only [CALL, ↓VC, VP, TT, Nat.reduceEqDiff, reduceCtorEq, Nat.reduceAdd, Nat.reduceSub, Nat.reduceLT, Nat.reduceMul, Nat.reducePow, Nat.reduceLeDiff, Int.reduceToNat, Int.reduceLE, Int.reduceLT, Int.reducePow, GOB, GD, cipC_len z256 z16 z16, DC.cells, Int.toNat_natCast]
    repeat (refine ⟨by first | omega | (simp; done) | decide, ?_⟩)
    refine ⟨_, _, [0, 1, 3], ⟨(q2, List.replicate m 0, 0), ⟨hq2, by simp only [List.length_replicate]; omega⟩, rfl, rfl⟩, ?_⟩
    rw [zer_flatR]
    simp [-List.reduceReplicate, LES, -List.reduceReplicate, sv_ren, sv_ok]
  · refine kCall_M (d_pick hc hm h1.1 [10, 20, 60] 3 (by simp) (by simp)) (by rfl) [(0, 0), (1, 0), (2, 0)] (by simp [CALL, SCB, SD, nsv, splice]) (by simp [CALL, SCB, SD, nsv, splice]) (by simp) (by simp [CALL, SCB, SD, nsv, splice]) (by simp [okL_bs, okL_room, okL, okV, SD, nsv, splice]) (by intro x _; simp [keepR, bs_length, SD, nsv, splice]) (by simp [CALL, SCB, SD, nsv, splice]) fun x2 h2 => ?_
    obtain ⟨q2, k⟩ := x2
    obtain ⟨hq2, hk⟩ := h2
    simp only at hq2 hk ⊢
    have hk' : 0 ≤ k ∧ k ≤ 60 := by
      simp only [List.mem_cons, List.not_mem_nil, or_false] at hk
      omega
    obtain ⟨m, rfl⟩ : ∃ m : Nat, k = m := ⟨k.toNat, by omega⟩
    simp (config := { maxSteps := 2000000 }) only [CALL, ↓VC, VP, TT, Nat.reduceEqDiff, reduceCtorEq, Nat.reduceAdd, Nat.reduceSub, Nat.reduceLT, Nat.reduceMul, Nat.reducePow, Nat.reduceLeDiff, Int.reduceToNat, Int.reduceLE, Int.reduceLT, Int.reducePow, GOB, GD, cipC_len z256 z16 z16, DC.cells]
    refine kCall_M (z_bytes hc hm hq2 m (by omega)) (by rfl) [(0, 0), (1, 0)] (by simp [CALL, SCB, SD, nsv]) (by simp [CALL, SCB, SD, nsv]) (by simp) (by simp [CALL, SCB, SD, nsv]) (by simp [okL_bs, okL_room, okL, okV, SD, nsv]) (by intro x _; simp [keepR, bs_length, SD, nsv]) (by simp [CALL, SCB, SD, nsv]) fun x3 h3 => ?_
    simp (config := { maxSteps := 2000000 }) only [CALL, ↓VC, VP, TT, Nat.reduceEqDiff, reduceCtorEq, Nat.reduceAdd, Nat.reduceSub, Nat.reduceLT, Nat.reduceMul, Nat.reducePow, Nat.reduceLeDiff, Int.reduceToNat, Int.reduceLE, Int.reduceLT, Int.reducePow, GOB, GD, cipC_len z256 z16 z16, DC.cells]
    exact ⟨_, _, [0, 1, 3], ⟨(x3.1, x3.2.1, x3.2.2), ⟨h3.1, by have := h3.2; simp only; omega⟩, rfl, rfl⟩, by simp [-List.reduceReplicate, LES, sv_ren, sv_ok]⟩
theorem d_digest (hc : l.length ≤ c) (hm : l.length ≤ 4096) (hq : okS l q) : LC Tryz.prog 90 [.p 0 0] [⟨true, sv 1 l.length c q⟩, ⟨false, bs l⟩] (RetM (fun x : (Nat × Nat) × List UInt8 => okS l x.1 ∧ x.2.length = 32) fun x => (.a (bs x.2), [⟨true, sv 1 l.length c x.1⟩, ⟨false, bs l⟩], [])) := by
  refine LC_of (X := XX (fun _ => .nil) (fun _ => []) [15, 71, 72, 73, 79, 80, 87, 90, 91, 93, 99, 119, 137, 176, 177, 203, 204, 212, 219] 2) envOK Tryz.func90 (by kernel_rfl) (by kernel_rfl) rfl (Nat.le_of_ble_eq_true (by kernel_rfl)) ?_
  simp only [kFun, Tryz.f90, List.length_nil, List.length_cons, Nat.sub_zero, Nat.reduceSub, Nat.reduceAdd, List.nil_append, List.cons_append, List.replicate_succ, List.replicate_zero]
  simp only [XX, ↓VC, VP, TT, Nat.reduceEqDiff, reduceCtorEq, Nat.reduceAdd, Nat.reduceSub, Nat.reduceLT, Nat.reduceMul, Nat.reducePow, Nat.reduceLeDiff, Int.reduceToNat, Int.reduceLE, Int.reduceLT, Int.reducePow]
  refine kCall_M (z_block hc hm hq) (by rfl) [(0, 0), (1, 0)] (by simp [CALL, SCB, SD, nsv]) (by simp [CALL, SCB, SD, nsv]) (by simp) (by simp [CALL, SCB, SD, nsv]) (by simp [okL_bs, okL_room, okL, okV, SD, nsv]) (by intro x _; simp [keepR, bs_length, SD, nsv]) (by simp [CALL, SCB, SD, nsv]) fun x1 h1 => ?_
  obtain ⟨q1, b1⟩ := x1
  obtain ⟨hq1, hb1⟩ := h1
  simp only at hq1 hb1 ⊢
  simp (config := { maxSteps := 2000000 }) only [CALL, ↓VC, VP, TT, Nat.reduceEqDiff, reduceCtorEq, Nat.reduceAdd, Nat.reduceSub, Nat.reduceLT, Nat.reduceMul, Nat.reducePow, Nat.reduceLeDiff, Int.reduceToNat, Int.reduceLE, Int.reduceLT, Int.reducePow, GOB, GD, cipC_len z256 z16 z16, DC.cells, hb1]
  refine kCall_M (z_block hc hm hq1) (by rfl) [(0, 0), (1, 0)] (by simp [CALL, SCB, SD, nsv]) (by simp [CALL, SCB, SD, nsv]) (by simp) (by simp [CALL, SCB, SD, nsv]) (by simp [okL_bs, okL_room, okL, okV, SD, nsv]) (by intro x _; simp [keepR, bs_length, SD, nsv]) (by simp [CALL, SCB, SD, nsv]) fun x2 h2 => ?_
  obtain ⟨q2, b2⟩ := x2
  obtain ⟨hq2, hb2⟩ := h2
  simp only at hq2 hb2 ⊢
  have hD : (b1 ++ b2).length = 2 * 16 := by rw [List.length_append, hb1, hb2]
  have z2 : (List.replicate 2 (bs (List.replicate 16 0))).flatten = bs (List.replicate 32 0) := rfl
  have s1 : (splB (List.replicate 32 0) 0 b1).length = 32 := by rw [splB_length (by simp [hb1])]; simp
  have e1 : splB (splB (List.replicate 32 0) 0 b1) 16 b2 = b1 ++ b2 := by
    unfold splB
    simp [hb1, hb2]
  simp (config := { maxSteps := 2000000 }) only [CALL, ↓VC, VP, TT, Nat.reduceEqDiff, reduceCtorEq, Nat.reduceAdd, Nat.reduceSub, Nat.reduceLT, Nat.reduceMul, Nat.reducePow, Nat.reduceLeDiff, Int.reduceToNat, Int.reduceLE, Int.reduceLT, Int.reducePow, GOB, GD, cipC_len z256 z16 z16, DC.cells, hb1, hb2, z2, s1, List.length_replicate, e1]
  have hT : List.take 32 (bs (b1 ++ b2)) = bs (b1 ++ b2) := List.take_of_length_le (by rw [bs_length, hD]; decide)
  refine kCall_Ret (c_spec_l01DataN 2 2 (b1 ++ b2) hD (by omega) (by omega)) (by rfl) [(3, 0)] (by simp [CALL, SCB, SD, nsv, hD, hT]) (by simp [CALL, SCB, SD, nsv, hD, hT]) (by simp [CALL, SCB, SD, nsv, hD, hT]) (by simp [okL_bs, okL_room, okL, okV, SD, nsv, hD, hT]) (by simp [CALL, SCB, SD, nsv, hD, hT]) fun r _ => ?_
  simp (config := { maxSteps := 2000000 }) only [CALL, ↓VC, VP, TT, Nat.reduceEqDiff, reduceCtorEq, Nat.reduceAdd, Nat.reduceSub, Nat.reduceLT, Nat.reduceMul, Nat.reducePow, Nat.reduceLeDiff, Int.reduceToNat, Int.reduceLE, Int.reduceLT, Int.reducePow, GOB, GD, cipC_len z256 z16 z16, DC.cells, hD]
  refine kLoop_of (fun s : Nat × List UInt8 => ([.p 0 0, .j, .p 2 0, .p 3 0, .s 4 0 32 (32 + r), .c (.int .i64 (s.1)), .j, .j, .j, .j, .j, .j, .j, .j, .j, .j, .j, .j, .j, .j, .j, .j, .j, .j], [⟨true, sv 1 l.length c q2⟩, ⟨false, bs l⟩, ⟨true, bs (List.replicate 32 0)⟩, ⟨true, bs s.2⟩, ⟨true, bs (b1 ++ b2) ++ List.replicate r .j⟩])) (fun s => 32 - s.1) (fun s => s.1 ≤ 32 ∧ s.2.length = 32) (0, List.replicate 32 0) (by simp) ⟨[0, 1, 2, 5, 4], by simp [-List.reduceReplicate, LES, sv_ren, sv_ok]⟩ ?_
  rintro ⟨i, O⟩ ⟨hi, hO⟩
  simp only at hi hO
  rcases Nat.lt_or_ge i 32 with h | h
  · have hx : i < (b1 ++ b2).length := by omega
    simp only [↓VC, VP, TT, Nat.reduceEqDiff, reduceCtorEq, Nat.reduceAdd, Nat.reduceSub, Nat.reduceLT, Nat.reduceMul, Nat.reducePow, Nat.reduceLeDiff, Int.reduceToNat, Int.reduceLE, Int.reduceLT, Int.reducePow, h, (eq_true (by omega) : ((i : Int) < 32) = True), (eq_true (by omega) : ((i : Int) < ((32 : Nat) : Int)) = True), wrap_i64 (n := (i : Int) + 1) (by omega) (by omega), decide_true, Int.toNat_natCast, ↓vGet_roomB hx, hO, h]
    exact ⟨(i + 1, O.set i ((b1 ++ b2).getD i 0)), ⟨by simp only; omega, by simp only [List.length_set]; exact hO⟩, by simp only; omega, [0, 1, 2, 3, 4], by simp [-List.reduceReplicate, LES, sv_ren, sv_ok]⟩
  · obtain rfl : i = 32 := by omega
    have hp : ∀ kl : List V → Prop, vPut (bs (List.replicate 32 0)) 0 (bs O) kl = kl (bs O) := fun kl => vPut_all (by rw [bs_length, bs_length, hO, List.length_replicate])
    have hg : ∀ kk : V → Prop, vSub (bs O) 0 32 kk = kk (.a (bs O)) := fun kk => vSub_all (by rw [bs_length, hO])
    simp only [↓VC, VP, TT, Nat.reduceEqDiff, reduceCtorEq, Nat.reduceAdd, Nat.reduceSub, Nat.reduceLT, Nat.reduceMul, Nat.reducePow, Nat.reduceLeDiff, Int.reduceToNat, Int.reduceLE, Int.reduceLT, Int.reducePow, show ((32 : Int) < 32) = False from eq_false (by decide), show ((((32 : Nat) : Int)) < 32) = False from eq_false (by decide), decide_false, hO, ↓hp, ↓hg]
    exact ⟨_, _, [0, 1], ⟨(q2, O), ⟨hq2, hO⟩, rfl, rfl⟩, by simp [-List.reduceReplicate, LES, sv_ren, sv_ok]⟩
theorem d_near8 (hc : l.length ≤ c) (hm : l.length ≤ 4096) (hq : okS l q) : LC Tryz.prog 93 [.p 0 0, .c (.int .i64 (8))] [⟨true, sv 1 l.length c q⟩, ⟨false, bs l⟩] (RetM (fun x : (Nat × Nat) × Int => okS l x.1) fun x => (.c (.int .i64 (x.2)), [⟨true, sv 1 l.length c x.1⟩, ⟨false, bs l⟩], [])) := by
  refine LC_of (X := XX (fun _ => .nil) (fun _ => []) [15, 71, 72, 73, 79, 80, 87, 90, 91, 93, 99, 119, 137, 176, 177, 203, 204, 212, 219] 2) envOK Tryz.func93 (by kernel_rfl) (by kernel_rfl) rfl (Nat.le_of_ble_eq_true (by kernel_rfl)) ?_
  simp only [kFun, Tryz.f93, List.length_nil, List.length_cons, Nat.sub_zero, Nat.reduceSub, Nat.reduceAdd, List.nil_append, List.cons_append, List.replicate_succ, List.replicate_zero]
  simp only [XX, ↓VC, VP, TT, Nat.reduceEqDiff, reduceCtorEq, Nat.reduceAdd, Nat.reduceSub, Nat.reduceLT, Nat.reduceMul, Nat.reducePow, Nat.reduceLeDiff, Int.reduceToNat, Int.reduceLE, Int.reduceLT, Int.reducePow]
  have w : IntKind.i64.wrap (8 + 1) = 9 := by decide
  refine kCall_M (d_next hc hm hq 14) (by rfl) [(0, 0), (1, 0)] (by simp [CALL, SCB, SD, nsv]) (by simp [CALL, SCB, SD, nsv]) (by simp) (by simp [CALL, SCB, SD, nsv]) (by simp [okL_bs, okL_room, okL, okV, SD, nsv]) (by intro x _; simp [keepR, bs_length, SD, nsv]) (by simp [CALL, SCB, SD, nsv]) fun x1 h1 => ?_
  simp (config := { maxSteps := 2000000 }) only [CALL, ↓VC, VP, TT, Nat.reduceEqDiff, reduceCtorEq, Nat.reduceAdd, Nat.reduceSub, Nat.reduceLT, Nat.reduceMul, Nat.reducePow, Nat.reduceLeDiff, Int.reduceToNat, Int.reduceLE, Int.reduceLT, Int.reducePow, GOB, GD, cipC_len z256 z16 z16, DC.cells, w]
  refine ⟨fun _ => ?_, fun _ => ?_⟩
  · refine kCall_M (d_pick hc hm h1.1 [-1, 9, 1099511627776, -4611686018427387904] 4 (by simp) (by simp)) (by rfl) [(0, 0), (1, 0), (2, 0)] (by simp [CALL, SCB, SD, nsv, splice]) (by simp [CALL, SCB, SD, nsv, splice]) (by simp) (by simp [CALL, SCB, SD, nsv, splice]) (by simp [okL_bs, okL_room, okL, okV, SD, nsv, splice]) (by intro x _; simp [keepR, bs_length, SD, nsv, splice]) (by simp [CALL, SCB, SD, nsv, splice]) fun x2 h2 => ?_
    simp (config := { maxSteps := 2000000 }) only [CALL, ↓VC, VP, TT, Nat.reduceEqDiff, reduceCtorEq, Nat.reduceAdd, Nat.reduceSub, Nat.reduceLT, Nat.reduceMul, Nat.reducePow, Nat.reduceLeDiff, Int.reduceToNat, Int.reduceLE, Int.reduceLT, Int.reducePow, GOB, GD, cipC_len z256 z16 z16, DC.cells]
    exact ⟨_, _, [0, 1], ⟨(x2.1, x2.2), h2.1, rfl, rfl⟩, by simp [-List.reduceReplicate, LES, sv_ren, sv_ok]⟩
  · refine kCall_M (d_next hc hm h1.1 9) (by rfl) [(0, 0), (1, 0)] (by simp [CALL, SCB, SD, nsv]) (by simp [CALL, SCB, SD, nsv]) (by simp) (by simp [CALL, SCB, SD, nsv]) (by simp [okL_bs, okL_room, okL, okV, SD, nsv]) (by intro x _; simp [keepR, bs_length, SD, nsv]) (by simp [CALL, SCB, SD, nsv]) fun x2 h2 => ?_
    simp (config := { maxSteps := 2000000 }) only [CALL, ↓VC, VP, TT, Nat.reduceEqDiff, reduceCtorEq, Nat.reduceAdd, Nat.reduceSub, Nat.reduceLT, Nat.reduceMul, Nat.reducePow, Nat.reduceLeDiff, Int.reduceToNat, Int.reduceLE, Int.reduceLT, Int.reducePow, GOB, GD, cipC_len z256 z16 z16, DC.cells]
    exact ⟨_, _, [0, 1], ⟨(x2.1, x2.2), h2.1, rfl, rfl⟩, by simp [-List.reduceReplicate, LES, sv_ren, sv_ok]⟩
end
end Go.Proofs.YtahnjhppkgndiaaGreat

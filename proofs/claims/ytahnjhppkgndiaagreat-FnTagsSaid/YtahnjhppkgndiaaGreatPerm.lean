import Derived.Test.YtahnjhppkgndiaaGreatListsM
import Derived.Test.YtahnjhppkgndiaaGreatEnv
import Derived.Lib.BytesEntry
import Derived.Lib.IndexAny
/- Permutations: the program and the reference. -/
set_option linter.unusedSimpArgs false
set_option linter.unusedVariables false
namespace Go.Proofs.YtahnjhppkgndiaaGreat
open Go Go.Vc
set_option maxRecDepth 10000
set_option maxHeartbeats 4000000
theorem c_spec_l02Is (b : List UInt8) (hb : b.length = 256) : LC Tryz.prog 152 [.a (bs b)] [] (fun v hp => v = .c (.bool (permB b)) ∧ hp = []) := by
  refine LC_of (X := XX (fun _ => .nil) (fun _ => []) [15, 71, 72, 73, 79, 80, 87, 90, 91, 93, 99, 119, 137, 176, 177, 203, 204, 212, 219] 0) envOK Tryz.func152 (by kernel_rfl) (by kernel_rfl) rfl (Nat.le_of_ble_eq_true (by kernel_rfl)) ?_
  simp only [kFun, Tryz.f152, List.length_nil, List.length_cons, Nat.sub_zero, Nat.reduceSub, Nat.reduceAdd, List.nil_append, List.cons_append, List.replicate_succ, List.replicate_zero]
  simp only [XX, ↓VC, VP, TT, Nat.reduceEqDiff, reduceCtorEq, Nat.reduceAdd, Nat.reduceSub, Nat.reduceLT, Nat.reduceMul, Nat.reducePow, Nat.reduceLeDiff, Int.reduceToNat, Int.reduceLE, Int.reduceLT, Int.reducePow, hb]
  refine kLoop_of (fun x : Nat => ([.j, .p 0 0, .j, .p 1 0, .c (.int .i64 (x)), .j, .j, .j, .j, .j, .j, .j, .j, .j, .j, .j, .j, .j, .j], [⟨true, bs b⟩, ⟨true, blv (seenL 256 (b.take x))⟩])) (fun x => 256 - x) (fun x => x ≤ 256 ∧ (b.take x).Nodup) 0 (by simp)
    ⟨[0, 1], by rw [List.take_zero, ← seenL_nil]; simp [-List.reduceReplicate, LES]⟩ ?_
  rintro x ⟨hx, hn⟩
  rcases Nat.lt_or_ge x 256 with h | h
  · have hu : (b.getD x 0).toNat < 256 := (b.getD x 0).toNat_lt
    simp only [↓VC, VP, TT, Nat.reduceEqDiff, reduceCtorEq, Nat.reduceAdd, Nat.reduceSub, Nat.reduceLT, Nat.reduceMul, Nat.reducePow, Nat.reduceLeDiff, Int.reduceToNat, Int.reduceLE, Int.reduceLT, Int.reducePow, h, (eq_true (by omega) : ((x : Int) < 256) = True), (eq_true (by omega) : ((x : Int) < ((256 : Nat) : Int)) = True), wrap_i64 (n := (x : Int) + 1) (by omega) (by omega), decide_true, hb, seenL_len, seenL_get hu, hu, (eq_true (by omega) : (((b.getD x 0).toNat : Int) < ((256 : Nat) : Int)) = True), seenL_set (show x < b.length by omega), h]
    have hs := nodup_snoc (l := b) (x := x) (by omega)
    refine ⟨fun h1 => ?_, fun h1 => ?_⟩
    · have : permB b = false := decide_eq_false (not_nodup_take (x := x + 1) fun h2 => (hs.1 h2).2 h1)
      refine ⟨_, _, [], ⟨rfl, rfl⟩, ?_⟩; simp [-List.reduceReplicate, LES, this]
    · exact ⟨x + 1, ⟨by omega, hs.2 ⟨hn, h1⟩⟩, by omega, [0, 1], by simp [-List.reduceReplicate, LES]⟩
  · obtain rfl : x = 256 := by omega
    simp only [↓VC, VP, TT, Nat.reduceEqDiff, reduceCtorEq, Nat.reduceAdd, Nat.reduceSub, Nat.reduceLT, Nat.reduceMul, Nat.reducePow, Nat.reduceLeDiff, Int.reduceToNat, Int.reduceLE, Int.reduceLT, Int.reducePow, (eq_false (by omega) : (((256 : Nat) : Int) < 256) = False), decide_false, show ((256 : Int) < 256) = False from eq_false (by decide), decide_false]
    have : permB b = true := decide_eq_true (by rwa [List.take_of_length_le (by omega)] at hn)
    refine ⟨_, _, [], ⟨rfl, rfl⟩, ?_⟩; simp [-List.reduceReplicate, LES, this]
theorem c_slices_IndexB (L : List Bool) (c : Nat) (b : Bool) (hc : L.length ≤ c) (hm : L.length ≤ 1048576) : LC Tryz.prog 206 [.s 0 0 L.length c, .c (.bool (b))] [⟨false, blv L⟩] (Ret [⟨false, blv L⟩] (fun z : Int => decide (z ≥ 0) = L.contains b) fun z => (.c (.int .i64 (z)), [])) := by
  refine LC_of (X := XX (fun _ => .nil) (fun _ => []) [15, 71, 72, 73, 79, 80, 87, 90, 91, 93, 99, 119, 137, 176, 177, 203, 204, 212, 219] 1) envOK Tryz.func206 (by kernel_rfl) (by kernel_rfl) rfl (Nat.le_of_ble_eq_true (by kernel_rfl)) ?_
  simp only [kFun, Tryz.f206, List.length_nil, List.length_cons, Nat.sub_zero, Nat.reduceSub, Nat.reduceAdd, List.nil_append, List.cons_append, List.replicate_succ, List.replicate_zero]
  simp only [XX, ↓VC, VP, TT, Nat.reduceEqDiff, reduceCtorEq, Nat.reduceAdd, Nat.reduceSub, Nat.reduceLT, Nat.reduceMul, Nat.reducePow, Nat.reduceLeDiff, Int.reduceToNat, Int.reduceLE, Int.reduceLT, Int.reducePow]
  refine kLoop_of (fun i : Nat => ([.s 0 0 L.length c, .c (.bool (b)), .j, .j, .j, .j, .j, .c (.int .i64 (L.length)), .c (.int .i64 (i)), .j, .j, .j, .j, .j, .j, .j, .j, .j, .j], [⟨false, blv L⟩])) (fun i => L.length - i) (fun i => i ≤ L.length ∧ b ∉ L.take i) 0 (by simp) ⟨[0], by simp [-List.reduceReplicate, LES]⟩ ?_
  rintro i ⟨hi, hn⟩
  rcases Nat.lt_or_ge i L.length with h | h
  · simp only [↓VC, VP, TT, Nat.reduceEqDiff, reduceCtorEq, Nat.reduceAdd, Nat.reduceSub, Nat.reduceLT, Nat.reduceMul, Nat.reducePow, Nat.reduceLeDiff, Int.reduceToNat, Int.reduceLE, Int.reduceLT, Int.reducePow, h, (eq_true (by omega) : ((i : Int) < L.length) = True), (eq_true (by omega) : ((i : Int) < ((L.length : Nat) : Int)) = True), wrap_i64 (n := (i : Int) + 1) (by omega) (by omega), decide_true, h]
    refine ⟨fun h1 => ?_, fun h1 => ?_⟩
    · refine ⟨_, _, [0], ⟨(i : Int), ?_, rfl, rfl⟩, ?_⟩
      · show decide ((i : Int) ≥ 0) = L.contains b
        rw [decide_eq_true (by omega), List.contains_eq_mem, eq_comm, decide_eq_true_eq, beq_iff_eq.1 h1, List.getD_eq_getElem?_getD, List.getElem?_eq_getElem h]
        exact List.getElem_mem _
      · simp [-List.reduceReplicate, LES]
    · refine ⟨i + 1, ⟨by omega, ?_⟩, by omega, [0], by simp [-List.reduceReplicate, LES]⟩
      rw [List.take_add_one, List.getElem?_eq_getElem h]
      simp only [Option.toList, List.mem_append, List.mem_singleton, not_or]
      refine ⟨hn, ?_⟩
      have := beq_eq_false_iff_ne.1 h1
      rwa [List.getD_eq_getElem?_getD, List.getElem?_eq_getElem h] at this
  · obtain rfl : i = L.length := by omega
    rw [List.take_length] at hn
    simp only [↓VC, VP, TT, Nat.reduceEqDiff, reduceCtorEq, Nat.reduceAdd, Nat.reduceSub, Nat.reduceLT, Nat.reduceMul, Nat.reducePow, Nat.reduceLeDiff, Int.reduceToNat, Int.reduceLE, Int.reduceLT, Int.reducePow, (eq_false (by omega) : ((L.length : Int) < (L.length : Int)) = False), decide_false]
    refine ⟨_, _, [0], ⟨-1, ?_, rfl, rfl⟩, ?_⟩
    · show decide ((-1 : Int) ≥ 0) = L.contains b
      rw [decide_eq_false (by omega), List.contains_eq_mem, eq_comm, decide_eq_false_iff_not]; exact hn
    · simp [-List.reduceReplicate, LES]
theorem c_slices_ContainsB (L : List Bool) (c : Nat) (b : Bool) (hc : L.length ≤ c) (hm : L.length ≤ 1048576) : LC Tryz.prog 184 [.s 0 0 L.length c, .c (.bool (b))] [⟨false, blv L⟩] (fun v hp => v = .c (.bool (L.contains b)) ∧ hp = [⟨false, blv L⟩]) := by
  refine LC_of (X := XX (fun _ => .nil) (fun _ => []) [15, 71, 72, 73, 79, 80, 87, 90, 91, 93, 99, 119, 137, 176, 177, 203, 204, 212, 219] 1) envOK Tryz.func184 (by kernel_rfl) (by kernel_rfl) rfl (Nat.le_of_ble_eq_true (by kernel_rfl)) ?_
  simp only [kFun, Tryz.f184, List.length_nil, List.length_cons, Nat.sub_zero, Nat.reduceSub, Nat.reduceAdd, List.nil_append, List.cons_append, List.replicate_succ, List.replicate_zero]
  simp only [XX, ↓VC, VP, TT, Nat.reduceEqDiff, reduceCtorEq, Nat.reduceAdd, Nat.reduceSub, Nat.reduceLT, Nat.reduceMul, Nat.reducePow, Nat.reduceLeDiff, Int.reduceToNat, Int.reduceLE, Int.reduceLT, Int.reducePow]
  refine kCall_Ret (c_slices_IndexB L c b hc hm) (by rfl) [(0, 0)] (by simp [CALL]) (by simp [CALL, cellsAt, blv_length, take_all]) (by simp [CALL]) (by simp [okL_blv]) (by simp) fun z hz => ?_
  simp only [CALL, ↓VC, VP, TT, Nat.reduceEqDiff, reduceCtorEq, Nat.reduceAdd, Nat.reduceSub, Nat.reduceLT, Nat.reduceMul, Nat.reducePow, Nat.reduceLeDiff, Int.reduceToNat, Int.reduceLE, Int.reduceLT, Int.reducePow, hz]
  refine ⟨_, _, [0], ⟨rfl, rfl⟩, ?_⟩
  simp [-List.reduceReplicate, LES]
theorem c_impl_IsPermutation (b : List UInt8) (hb : b.length = 256) : LC Tryz.prog 148 [.a (bs b)] [] (fun v hp => v = .c (.bool (permB b)) ∧ hp = []) := by
  refine LC_of (X := XX (fun _ => .nil) (fun _ => []) [15, 71, 72, 73, 79, 80, 87, 90, 91, 93, 99, 119, 137, 176, 177, 203, 204, 212, 219] 0) envOK Tryz.func148 (by kernel_rfl) (by kernel_rfl) rfl (Nat.le_of_ble_eq_true (by kernel_rfl)) ?_
  simp only [kFun, Tryz.f148, List.length_nil, List.length_cons, Nat.sub_zero, Nat.reduceSub, Nat.reduceAdd, List.nil_append, List.cons_append, List.replicate_succ, List.replicate_zero]
  simp only [XX, ↓VC, VP, TT, Nat.reduceEqDiff, reduceCtorEq, Nat.reduceAdd, Nat.reduceSub, Nat.reduceLT, Nat.reduceMul, Nat.reducePow, Nat.reduceLeDiff, Int.reduceToNat, Int.reduceLE, Int.reduceLT, Int.reducePow, hb]
  refine kLoop_of (fun x : Nat => ([.j, .p 0 0, .j, .p 1 0, .j, .j, .j, .a (bs b), .c (.int .i64 (x)), .j, .j, .j, .j, .j, .j, .j, .j], [⟨true, bs b⟩, ⟨true, blv (seenL 256 (b.take x))⟩])) (fun x => 256 - x) (fun x => x ≤ 256) 0 (by simp)
    ⟨[0, 1], by rw [List.take_zero, ← seenL_nil]; simp [-List.reduceReplicate, LES]⟩ ?_
  intro x hx
  rcases Nat.lt_or_ge x 256 with h | h
  · have hu : (b.getD x 0).toNat < 256 := (b.getD x 0).toNat_lt
    simp only [↓VC, VP, TT, Nat.reduceEqDiff, reduceCtorEq, Nat.reduceAdd, Nat.reduceSub, Nat.reduceLT, Nat.reduceMul, Nat.reducePow, Nat.reduceLeDiff, Int.reduceToNat, Int.reduceLE, Int.reduceLT, Int.reducePow, h, (eq_true (by omega) : ((x : Int) < 256) = True), (eq_true (by omega) : ((x : Int) < ((256 : Nat) : Int)) = True), wrap_i64 (n := (x : Int) + 1) (by omega) (by omega), decide_true, hb, seenL_len, hu, (eq_true (by omega) : (((b.getD x 0).toNat : Int) < ((256 : Nat) : Int)) = True), seenL_set (show x < b.length by omega), h]
    exact ⟨x + 1, by omega, by omega, [0, 1], by simp [-List.reduceReplicate, LES]⟩
  · obtain rfl : x = 256 := by omega
    simp only [↓VC, VP, TT, Nat.reduceEqDiff, reduceCtorEq, Nat.reduceAdd, Nat.reduceSub, Nat.reduceLT, Nat.reduceMul, Nat.reducePow, Nat.reduceLeDiff, Int.reduceToNat, Int.reduceLE, Int.reduceLT, Int.reducePow, show ((256 : Int) < 256) = False from eq_false (by decide), decide_false, (eq_false (by omega) : (((256 : Nat) : Int) < 256) = False), decide_false]
    rw [List.take_of_length_le (by omega)]
    refine kCall_val (c_slices_ContainsB (seenL 256 b) 256 false (by rw [seenL_len]; omega) (by rw [seenL_len]; omega)) (by rfl) [(1, 0)] (by simp [CALL, seenL_len]) (by simp [CALL, cellsAt, blv_length, seenL_len, take_all]) (by simp [CALL, seenL_len]) (by simp [okL_blv]) ?_
    simp only [CALL, ↓VC, VP, TT, Nat.reduceEqDiff, reduceCtorEq, Nat.reduceAdd, Nat.reduceSub, Nat.reduceLT, Nat.reduceMul, Nat.reducePow, Nat.reduceLeDiff, Int.reduceToNat, Int.reduceLE, Int.reduceLT, Int.reducePow, seen_all hb]
    refine ⟨_, _, [], ⟨rfl, rfl⟩, ?_⟩; simp [-List.reduceReplicate, LES]
theorem ext_IndexByte (l : List UInt8) (n c : Nat) (u : UInt8) (hn : l.length = n) (hc : n ≤ c) (hc0 : 0 < c) (M : Nat → Prop) (w0 w : World) (ρ : Vc.Loc) (xs : List Value) (hd : Hd M w0 ρ [⟨false, bs l⟩] w) (hr : relL ρ [.s 0 0 n c, .c (.int .u8 ((u).toNat : Int))] xs) :
    (callFunc 220 xs.toArray).run Tryz.prog w = .ok (.value (.int .i64 (Lib.indexByte l u))) w := by
  simp only [relL] at hr
  obtain ⟨x1, _, rfl, r1, x2, _, rfl, r2, rfl⟩ := hr
  unfold rel at r1 r2
  obtain ⟨_, a, rfl, ha⟩ := r1
  have ha := ha hc0
  subst ha r2
  rw [run_callFunc_extern Tryz.func220 (by kernel_rfl) (by kernel_rfl) (by kernel_rfl) (e := Extern.BytealgIndexByte.indexByte) (by kernel_rfl)]
  have hcell : ∀ i, i < n → w.cell? ⟨(ρ 0).1, (ρ 0).2 + 0 + i, none⟩ = some (.int .u8 ((l.map fun u : UInt8 => (u.toNat : Int)).getD i 0)) := by
    intro i hi
    have hb : (bs l)[i]? = some (bv (l.getD i 0)) := by simp [bs, List.getD, show i < l.length by omega]
    obtain ⟨x, hx, _, h2⟩ := hd.cell 0 _ rfl i _ hb
    unfold bv rel at h2
    rw [Nat.add_zero, hx, h2]
    simp [List.getD, show i < l.length by omega]
  rw [Lib.run_indexByteSlice w _ _ n c (l.map fun u : UInt8 => (u.toNat : Int)) (by simpa using hn) hcell]
  have e1 : Lib.bytesOf (l.map fun u : UInt8 => (u.toNat : Int)) = l := by
    unfold Lib.bytesOf
    rw [List.map_map]
    have : ((fun n : Int => UInt8.ofNat n.toNat) ∘ fun u : UInt8 => (u.toNat : Int)) = id := by funext u; simp
    rw [this, List.map_id]
  have e2 : ((u.toNat : Int)).toNat.toUInt8 = u := by simp
  rw [e1, e2]
  rfl
theorem c_bytes_IndexByte (l : List UInt8) (n c : Nat) (u : UInt8) (hn : l.length = n) (hc : n ≤ c) (hc0 : 0 < c) : LC Tryz.prog 207 [.s 0 0 n c, .c (.int .u8 ((u).toNat : Int))] [⟨false, bs l⟩] (Ret [⟨false, bs l⟩] (fun z : Int => decide (z ≥ 0) = decide (u ∈ l)) fun z => (.c (.int .i64 (z)), [])) := by
  refine LC_of (X := XX (fun _ => .nil) (fun _ => []) [15, 71, 72, 73, 79, 80, 87, 90, 91, 93, 99, 119, 137, 176, 177, 203, 204, 212, 219] 1) envOK Tryz.func207 (by kernel_rfl) (by kernel_rfl) rfl (Nat.le_of_ble_eq_true (by kernel_rfl)) ?_
  simp only [kFun, Tryz.f207, List.length_nil, List.length_cons, Nat.sub_zero, Nat.reduceSub, Nat.reduceAdd, List.nil_append, List.cons_append, List.replicate_succ, List.replicate_zero]
  simp only [XX, ↓VC, VP, TT, Nat.reduceEqDiff, reduceCtorEq, Nat.reduceAdd, Nat.reduceSub, Nat.reduceLT, Nat.reduceMul, Nat.reducePow, Nat.reduceLeDiff, Int.reduceToNat, Int.reduceLE, Int.reduceLT, Int.reducePow]
  refine kCall_ext (z := .int .i64 (Lib.indexByte l u)) (by rfl) (ext_IndexByte l n c u hn hc hc0) ?_
  simp only [↓VC, VP, TT, Nat.reduceEqDiff, reduceCtorEq, Nat.reduceAdd, Nat.reduceSub, Nat.reduceLT, Nat.reduceMul, Nat.reducePow, Nat.reduceLeDiff, Int.reduceToNat, Int.reduceLE, Int.reduceLT, Int.reducePow]
  refine ⟨_, _, [0], ⟨Lib.indexByte l u, ?_, rfl, rfl⟩, ?_⟩
  · have := Lib.contains_iff_indexByte l u
    rw [List.contains_eq_mem] at this
    exact this.symm
  · simp [-List.reduceReplicate, LES]
theorem c_impl_areDifferent (l : List UInt8) (c : Nat) (hc : l.length ≤ c) (hc0 : 0 < c) (hm : l.length ≤ 1048576) : LC Tryz.prog 185 [.s 0 0 l.length c] [⟨false, bs l⟩] (fun v hp => v = .c (.bool (decide l.Nodup)) ∧ hp = [⟨false, bs l⟩]) := by
  refine LC_of (X := XX (fun _ => .nil) (fun _ => []) [15, 71, 72, 73, 79, 80, 87, 90, 91, 93, 99, 119, 137, 176, 177, 203, 204, 212, 219] 1) envOK Tryz.func185 (by kernel_rfl) (by kernel_rfl) rfl (Nat.le_of_ble_eq_true (by kernel_rfl)) ?_
  simp only [kFun, Tryz.f185, List.length_nil, List.length_cons, Nat.sub_zero, Nat.reduceSub, Nat.reduceAdd, List.nil_append, List.cons_append, List.replicate_succ, List.replicate_zero]
  simp only [XX, ↓VC, VP, TT, Nat.reduceEqDiff, reduceCtorEq, Nat.reduceAdd, Nat.reduceSub, Nat.reduceLT, Nat.reduceMul, Nat.reducePow, Nat.reduceLeDiff, Int.reduceToNat, Int.reduceLE, Int.reduceLT, Int.reducePow]
  refine kLoop_of (fun i : Nat => ([.s 0 0 l.length c, .j, .j, .j, .j, .s 0 0 l.length c, .c (.int .i64 (l.length)), .c (.int .i64 (i)), .j, .j, .j, .j, .j, .j, .j, .j, .j, .j, .j], [⟨false, bs l⟩])) (fun i => l.length - i) (fun i => i ≤ l.length ∧ (l.take i).Nodup) 0 (by simp) ⟨[0], by simp [-List.reduceReplicate, LES]⟩ ?_
  rintro i ⟨hi, hn⟩
  rcases Nat.lt_or_ge i l.length with h | h
  · have hs := nodup_snoc (l := l) (x := i) h
    simp only [↓VC, VP, TT, Nat.reduceEqDiff, reduceCtorEq, Nat.reduceAdd, Nat.reduceSub, Nat.reduceLT, Nat.reduceMul, Nat.reducePow, Nat.reduceLeDiff, Int.reduceToNat, Int.reduceLE, Int.reduceLT, Int.reducePow, h, (eq_true (by omega) : ((i : Int) < l.length) = True), (eq_true (by omega) : ((i : Int) < ((l.length : Nat) : Int)) = True), wrap_i64 (n := (i : Int) + 1) (by omega) (by omega), decide_true, h]
    repeat (refine ⟨by first | omega | (simp; done) | decide, ?_⟩)
    simp only [Nat.sub_zero]
    refine kCall_Ret (c_bytes_IndexByte (l.take i) i c (l.getD i 0) (by rw [List.length_take]; omega) (by omega) hc0) (by rfl) [(0, 0)] (by simp [CALL]) (by simp [CALL, cellsAt, bs_length, bs_take, Nat.min_eq_left hi]) (by simp [CALL]) (by simp [okL_bs]) (by simp) fun z hz => ?_
    simp only [CALL, ↓VC, VP, TT, Nat.reduceEqDiff, reduceCtorEq, Nat.reduceAdd, Nat.reduceSub, Nat.reduceLT, Nat.reduceMul, Nat.reducePow, Nat.reduceLeDiff, Int.reduceToNat, Int.reduceLE, Int.reduceLT, Int.reducePow, hz]
    refine ⟨fun h1 => ?_, fun h1 => ?_⟩
    · have : decide l.Nodup = false := decide_eq_false (not_nodup_take (x := i + 1) fun h2 => (hs.1 h2).2 h1)
      refine ⟨_, _, [0], ⟨rfl, rfl⟩, ?_⟩
      simp [-List.reduceReplicate, LES, this]
    · refine ⟨i + 1, ⟨by omega, hs.2 ⟨hn, h1⟩⟩, by omega, [0], ?_⟩
      try rw [wrap_i64 (by omega) (by omega)]
      simp [-List.reduceReplicate, LES]
  · obtain rfl : i = l.length := by omega
    rw [List.take_length] at hn
    simp only [↓VC, VP, TT, Nat.reduceEqDiff, reduceCtorEq, Nat.reduceAdd, Nat.reduceSub, Nat.reduceLT, Nat.reduceMul, Nat.reducePow, Nat.reduceLeDiff, Int.reduceToNat, Int.reduceLE, Int.reduceLT, Int.reducePow, (eq_false (by omega) : ((l.length : Int) < (l.length : Int)) = False), decide_false]
    refine ⟨_, _, [0], ⟨rfl, rfl⟩, ?_⟩
    simp [-List.reduceReplicate, LES, hn]
theorem c_impl_ArePlaces (p : List UInt8) (hp : p.length = 16) : LC Tryz.prog 150 [.a (bs p)] [] (fun v hp => v = .c (.bool (plcB p)) ∧ hp = []) := by
  refine LC_of (X := XX (fun _ => .nil) (fun _ => []) [15, 71, 72, 73, 79, 80, 87, 90, 91, 93, 99, 119, 137, 176, 177, 203, 204, 212, 219] 0) envOK Tryz.func150 (by kernel_rfl) (by kernel_rfl) rfl (Nat.le_of_ble_eq_true (by kernel_rfl)) ?_
  simp only [kFun, Tryz.f150, List.length_nil, List.length_cons, Nat.sub_zero, Nat.reduceSub, Nat.reduceAdd, List.nil_append, List.cons_append, List.replicate_succ, List.replicate_zero]
  simp only [XX, ↓VC, VP, TT, Nat.reduceEqDiff, reduceCtorEq, Nat.reduceAdd, Nat.reduceSub, Nat.reduceLT, Nat.reduceMul, Nat.reducePow, Nat.reduceLeDiff, Int.reduceToNat, Int.reduceLE, Int.reduceLT, Int.reducePow, hp]
  refine kLoop_of (fun i : Nat => ([.j, .p 0 0, .j, .j, .j, .a (bs p), .c (.int .i64 (i)), .j, .j, .j, .j, .j, .j, .j], [⟨true, bs p⟩])) (fun i => 16 - i) (fun i => i ≤ 16 ∧ ∀ u ∈ p.take i, u.toNat < 16) 0 (by simp) ⟨[0], by simp [-List.reduceReplicate, LES]⟩ ?_
  rintro i ⟨hi, hn⟩
  rcases Nat.lt_or_ge i 16 with h | h
  · simp only [↓VC, VP, TT, Nat.reduceEqDiff, reduceCtorEq, Nat.reduceAdd, Nat.reduceSub, Nat.reduceLT, Nat.reduceMul, Nat.reducePow, Nat.reduceLeDiff, Int.reduceToNat, Int.reduceLE, Int.reduceLT, Int.reducePow, h, (eq_true (by omega) : ((i : Int) < 16) = True), (eq_true (by omega) : ((i : Int) < ((16 : Nat) : Int)) = True), wrap_i64 (n := (i : Int) + 1) (by omega) (by omega), decide_true, hp, h]
    refine ⟨fun h1 => ?_, fun h1 => ?_⟩
    · have : plcB p = false := decide_eq_false fun h2 => by have := h2.1 _ (getD_mem (l := p) (x := i) (by omega)); omega
      refine ⟨_, _, [], ⟨rfl, rfl⟩, ?_⟩; simp [-List.reduceReplicate, LES, this]
    · refine ⟨i + 1, ⟨by omega, ?_⟩, by omega, [0], by simp [-List.reduceReplicate, LES]⟩
      intro u hu
      rw [takeP_snoc (by omega), List.mem_append, List.mem_singleton] at hu
      rcases hu with hu | rfl
      · exact hn u hu
      · omega
  · obtain rfl : i = 16 := by omega
    rw [List.take_of_length_le (by omega)] at hn
    simp only [↓VC, VP, TT, Nat.reduceEqDiff, reduceCtorEq, Nat.reduceAdd, Nat.reduceSub, Nat.reduceLT, Nat.reduceMul, Nat.reducePow, Nat.reduceLeDiff, Int.reduceToNat, Int.reduceLE, Int.reduceLT, Int.reducePow, show ((16 : Int) < 16) = False from eq_false (by decide), decide_false, (eq_false (by omega) : (((16 : Nat) : Int) < 16) = False), decide_false]
    refine kCall_val (by have := c_impl_areDifferent p 16 (by omega) (by omega) (by omega); rw [hp] at this; exact this) (by rfl) [(0, 0)] (by simp [CALL]) (by simp [CALL, cellsAt, bs_length, hp, take_all]) (by simp [CALL]) (by simp [okL_bs]) ?_
    simp only [CALL, ↓VC, VP, TT, Nat.reduceEqDiff, reduceCtorEq, Nat.reduceAdd, Nat.reduceSub, Nat.reduceLT, Nat.reduceMul, Nat.reducePow, Nat.reduceLeDiff, Int.reduceToNat, Int.reduceLE, Int.reduceLT, Int.reducePow]
    have : plcB p = decide p.Nodup := by
      unfold plcB
      rw [Bool.eq_iff_iff, decide_eq_true_eq, decide_eq_true_eq]
      exact ⟨fun h => h.2, fun h => ⟨hn, h⟩⟩
    refine ⟨_, _, [], ⟨rfl, rfl⟩, ?_⟩; simp [-List.reduceReplicate, LES, this]
theorem c_spec_l03Perm (p : List UInt8) (hp : p.length = 16) : LC Tryz.prog 153 [.a (bs p)] [] (fun v hp => v = .c (.bool (plcB p)) ∧ hp = []) := by
  refine LC_of (X := XX (fun _ => .nil) (fun _ => []) [15, 71, 72, 73, 79, 80, 87, 90, 91, 93, 99, 119, 137, 176, 177, 203, 204, 212, 219] 0) envOK Tryz.func153 (by kernel_rfl) (by kernel_rfl) rfl (Nat.le_of_ble_eq_true (by kernel_rfl)) ?_
  simp only [kFun, Tryz.f153, List.length_nil, List.length_cons, Nat.sub_zero, Nat.reduceSub, Nat.reduceAdd, List.nil_append, List.cons_append, List.replicate_succ, List.replicate_zero]
  simp only [XX, ↓VC, VP, TT, Nat.reduceEqDiff, reduceCtorEq, Nat.reduceAdd, Nat.reduceSub, Nat.reduceLT, Nat.reduceMul, Nat.reducePow, Nat.reduceLeDiff, Int.reduceToNat, Int.reduceLE, Int.reduceLT, Int.reducePow, hp]
  refine kLoop_of (fun x : Nat => ([.j, .p 0 0, .j, .p 1 0, .c (.int .i64 (x)), .j, .j, .j, .j, .j, .j, .j, .j, .j, .j, .j, .j, .j, .j, .j, .j, .j, .j, .j, .j], [⟨true, bs p⟩, ⟨true, blv (seenL 16 (p.take x))⟩])) (fun x => 16 - x) (fun x => x ≤ 16 ∧ (∀ u ∈ p.take x, u.toNat < 16) ∧ (p.take x).Nodup) 0 (by simp)
    ⟨[0, 1], by rw [List.take_zero, ← seenL_nil]; simp [-List.reduceReplicate, LES]⟩ ?_
  rintro x ⟨hx, hu, hn⟩
  rcases Nat.lt_or_ge x 16 with h | h
  · have hs := nodup_snoc (l := p) (x := x) (by omega)
    have hmem := getD_mem (l := p) (x := x) (by omega)
    simp only [↓VC, VP, TT, Nat.reduceEqDiff, reduceCtorEq, Nat.reduceAdd, Nat.reduceSub, Nat.reduceLT, Nat.reduceMul, Nat.reducePow, Nat.reduceLeDiff, Int.reduceToNat, Int.reduceLE, Int.reduceLT, Int.reducePow, h, (eq_true (by omega) : ((x : Int) < 16) = True), (eq_true (by omega) : ((x : Int) < ((16 : Nat) : Int)) = True), wrap_i64 (n := (x : Int) + 1) (by omega) (by omega), decide_true, hp, h]
    refine kGd_split rfl (fun h1 => ?_) (fun h1 => ?_) <;> simp only [↓VC, VP, TT, Nat.reduceEqDiff, reduceCtorEq, Nat.reduceAdd, Nat.reduceSub, Nat.reduceLT, Nat.reduceMul, Nat.reducePow, Nat.reduceLeDiff, Int.reduceToNat, Int.reduceLE, Int.reduceLT, Int.reducePow, h1, hp, h]
    · have : plcB p = false := decide_eq_false fun h2 => by have := h2.1 _ hmem; have := of_decide_eq_true h1; omega
      refine ⟨_, _, [], ⟨rfl, rfl⟩, ?_⟩; simp [-List.reduceReplicate, LES, this]
    · have hlt : (p.getD x 0).toNat < 16 := by have := of_decide_eq_false h1; omega
      simp only [seenL_len, seenL_get hlt, hlt, (eq_true (by omega) : (((p.getD x 0).toNat : Int) < ((16 : Nat) : Int)) = True), seenL_set (show x < p.length by omega), ↓VC, VP, TT, Nat.reduceEqDiff, reduceCtorEq, Nat.reduceAdd, Nat.reduceSub, Nat.reduceLT, Nat.reduceMul, Nat.reducePow, Nat.reduceLeDiff, Int.reduceToNat, Int.reduceLE, Int.reduceLT, Int.reducePow]
      refine ⟨by omega, fun h2 => ?_, fun h2 => ⟨by omega, x + 1, ⟨by omega, ?_, hs.2 ⟨hn, h2⟩⟩, by omega, [0, 1], ?_⟩⟩
      · have : plcB p = false := decide_eq_false fun h3 => not_nodup_take (x := x + 1) (fun h4 => (hs.1 h4).2 h2) h3.2
        refine ⟨_, _, [], ⟨rfl, rfl⟩, ?_⟩; simp [-List.reduceReplicate, LES, this]
      · intro u hm
        rw [takeP_snoc (by omega), List.mem_append, List.mem_singleton] at hm
        rcases hm with hm | rfl
        · exact hu u hm
        · exact hlt
      · rw [wrap_i64 (by omega) (by omega)]
        simp [-List.reduceReplicate, LES]
  · obtain rfl : x = 16 := by omega
    rw [List.take_of_length_le (by omega)] at hu hn
    simp only [↓VC, VP, TT, Nat.reduceEqDiff, reduceCtorEq, Nat.reduceAdd, Nat.reduceSub, Nat.reduceLT, Nat.reduceMul, Nat.reducePow, Nat.reduceLeDiff, Int.reduceToNat, Int.reduceLE, Int.reduceLT, Int.reducePow, show ((16 : Int) < 16) = False from eq_false (by decide), decide_false, (eq_false (by omega) : (((16 : Nat) : Int) < 16) = False), decide_false]
    have : plcB p = true := decide_eq_true ⟨hu, hn⟩
    refine ⟨_, _, [], ⟨rfl, rfl⟩, ?_⟩; simp [-List.reduceReplicate, LES, this]
end Go.Proofs.YtahnjhppkgndiaaGreat

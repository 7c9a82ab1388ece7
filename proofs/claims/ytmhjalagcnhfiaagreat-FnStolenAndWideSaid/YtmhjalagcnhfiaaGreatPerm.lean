import Derived.Test.YtmhjalagcnhfiaaGreatFieldC
import Derived.Test.YtmhjalagcnhfiaaGreatEnv
import Derived.Lib.BytesEntry
import Derived.Lib.IndexAny
/- Permutations told by what has been seen. No program in sight. -/
set_option linter.unusedSimpArgs false
set_option linter.unusedVariables false
namespace Go.Proofs.YtmhjalagcnhfiaaGreat
open Go Go.Vc
/-- Which of k numbers have been met. -/
def seenL (k : Nat) (l : List UInt8) : List Bool := (List.range k).map fun y => l.any fun u => u.toNat == y
theorem seenL_len (k : Nat) (l : List UInt8) : (seenL k l).length = k := by simp [seenL]
theorem any_mem (l : List UInt8) (u : UInt8) : (l.any fun v => v.toNat == u.toNat) = decide (u ∈ l) := by
  rw [Bool.eq_iff_iff, List.any_eq_true, decide_eq_true_eq]
  constructor
  · rintro ⟨v, hv, e⟩
    have : v = u := UInt8.toNat_inj.1 (by simpa using e)
    exact this ▸ hv
  · intro h; exact ⟨u, h, by simp⟩
theorem seenL_get {k : Nat} {l : List UInt8} {u : UInt8} (h : u.toNat < k) : (seenL k l).getD u.toNat false = decide (u ∈ l) := by
  rw [← any_mem]
  simp [seenL, List.getD, h]
theorem seenL_nil (k : Nat) : List.replicate k false = seenL k [] := by simp [seenL, List.map_const']
theorem takeP_snoc {l : List UInt8} {x : Nat} (h : x < l.length) : l.take (x + 1) = l.take x ++ [l.getD x 0] := by
  rw [List.take_add_one, List.getElem?_eq_getElem h]
  simp [List.getD, h]
theorem seenL_set {k : Nat} {l : List UInt8} {x : Nat} (h : x < l.length) : (seenL k (l.take x)).set (l.getD x 0).toNat true = seenL k (l.take (x + 1)) := by
  rw [takeP_snoc h]
  generalize l.getD x 0 = u
  apply List.ext_getElem?
  intro j
  rw [List.getElem?_set]
  simp only [seenL_len]
  rcases Nat.lt_or_ge j k with hj | hj
  · simp only [seenL, List.getElem?_map, List.getElem?_range hj, Option.map_some, List.any_append, List.any_cons, List.any_nil, Bool.or_false]
    by_cases e : u.toNat = j
    · simp [e, hj]
    · simp [e]
  · rw [List.getElem?_eq_none (by rw [seenL_len]; exact hj), List.getElem?_eq_none (by rw [seenL_len]; exact hj)]
    split
    · rw [if_neg (by omega)]
    · rfl
theorem nodup_snoc {l : List UInt8} {x : Nat} (h : x < l.length) : (l.take (x + 1)).Nodup ↔ (l.take x).Nodup ∧ l.getD x 0 ∉ l.take x := by
  rw [takeP_snoc h, List.nodup_append]
  constructor
  · rintro ⟨h1, _, h3⟩
    exact ⟨h1, fun hm => h3 _ hm _ (by simp) rfl⟩
  · rintro ⟨h1, h2⟩
    exact ⟨h1, by simp, fun a ha b hb e => h2 (by rw [List.mem_singleton] at hb; rw [← hb, ← e]; exact ha)⟩
theorem not_nodup_take {l : List UInt8} {x : Nat} (h : ¬ (l.take x).Nodup) : ¬ l.Nodup := fun hn => h (hn.sublist (List.take_sublist _ _))
/-- A list without doubles that lies in another one is no longer. -/
theorem nodup_le : ∀ (l r : List UInt8), l.Nodup → (∀ u ∈ l, u ∈ r) → l.length ≤ r.length
  | [], _, _, _ => Nat.zero_le _
  | u :: l, r, hn, hs => by
    rw [List.nodup_cons] at hn
    have hu : u ∈ r := hs u (by simp)
    have h1 := nodup_le l (r.erase u) hn.2 fun v hv => (List.mem_erase_of_ne (show v ≠ u from fun e => hn.1 (e ▸ hv))).2 (hs v (by simp [hv]))
    have h2 := List.length_erase_of_mem hu
    have h3 := List.length_pos_of_mem hu
    simp only [List.length_cons]; omega
def allU8 : List UInt8 := (List.range 256).map UInt8.ofNat
theorem allU8_len : allU8.length = 256 := by simp [allU8]
theorem mem_allU8 (u : UInt8) : u ∈ allU8 := by
  unfold allU8
  rw [List.mem_map]
  exact ⟨u.toNat, by rw [List.mem_range]; exact u.toNat_lt, UInt8.ofNat_toNat⟩
theorem allU8_nodup : allU8.Nodup := by
  unfold allU8 List.Nodup
  rw [List.pairwise_map]
  refine List.Pairwise.imp_of_mem ?_ (List.nodup_range (n := 256))
  intro a b ha hb hne e
  rw [List.mem_range] at ha hb
  have := congrArg UInt8.toNat e
  rw [UInt8.toNat_ofNat_of_lt' ha, UInt8.toNat_ofNat_of_lt' hb] at this
  exact hne this
theorem dup_shorter : ∀ (l : List UInt8), ¬ l.Nodup → ∃ r : List UInt8, r.length + 1 = l.length ∧ ∀ u ∈ l, u ∈ r
  | [], h => absurd List.nodup_nil h
  | u :: l, h => by
    by_cases hm : u ∈ l
    · exact ⟨l, rfl, fun v hv => by rcases List.mem_cons.1 hv with rfl | hv; exact hm; exact hv⟩
    · obtain ⟨r, h1, h2⟩ := dup_shorter l (fun hn => h (List.nodup_cons.2 ⟨hm, hn⟩))
      exact ⟨u :: r, by simp [h1], fun v hv => by rcases List.mem_cons.1 hv with rfl | hv; simp; exact List.mem_cons_of_mem _ (h2 v hv)⟩
/-- 256 bytes: none twice, or each of them is there. -/
theorem perm_iff {l : List UInt8} (h : l.length = 256) : l.Nodup ↔ ∀ u : UInt8, u ∈ l := by
  constructor
  · intro hn u
    refine Classical.byContradiction fun hu => ?_
    have h1 := nodup_le l (allU8.erase u) hn fun v hv => (List.mem_erase_of_ne (show v ≠ u from fun e => hu (e ▸ hv))).2 (mem_allU8 v)
    rw [List.length_erase_of_mem (mem_allU8 u), allU8_len] at h1
    omega
  · intro ha
    refine Classical.byContradiction fun hn => ?_
    obtain ⟨r, h1, h2⟩ := dup_shorter l hn
    have h3 := nodup_le allU8 r allU8_nodup fun u _ => h2 u (ha u)
    rw [allU8_len] at h3
    omega
def permB (l : List UInt8) : Bool := decide l.Nodup
theorem seen_all {l : List UInt8} (h : l.length = 256) : (!(seenL 256 l).contains false) = permB l := by
  unfold permB
  rw [Bool.eq_iff_iff, decide_eq_true_eq, perm_iff h, Bool.not_eq_true', Bool.eq_false_iff]
  constructor
  · intro hc u
    refine Classical.byContradiction fun hu => hc ?_
    rw [List.contains_eq_mem, decide_eq_true_eq]
    unfold seenL
    rw [List.mem_map]
    exact ⟨u.toNat, by rw [List.mem_range]; exact u.toNat_lt, by rw [any_mem]; exact decide_eq_false hu⟩
  · intro ha hc
    rw [List.contains_eq_mem, decide_eq_true_eq] at hc
    unfold seenL at hc
    rw [List.mem_map] at hc
    obtain ⟨y, hy, e⟩ := hc
    rw [List.mem_range] at hy
    have h2 := any_mem l (UInt8.ofNat y)
    rw [UInt8.toNat_ofNat_of_lt' hy, e, decide_eq_true (ha _)] at h2
    cases h2
/-- 16 places: each is below 16, none comes twice. -/
def plcB (p : List UInt8) : Bool := decide ((∀ u ∈ p, u.toNat < 16) ∧ p.Nodup)
theorem plcB_pl16 {p : List UInt8} (hp : p.length = 16) (h : plcB p = true) : pl16 p := by
  unfold plcB at h
  rw [decide_eq_true_eq] at h
  intro i hi
  refine h.1 _ ?_
  rw [List.getD_eq_getElem?_getD, List.getElem?_eq_getElem (by omega)]
  exact List.getElem_mem _
theorem getD_mem {l : List UInt8} {x : Nat} (h : x < l.length) : l.getD x 0 ∈ l := by
  rw [List.getD_eq_getElem?_getD, List.getElem?_eq_getElem h]; exact List.getElem_mem _
end Go.Proofs.YtmhjalagcnhfiaaGreat
/- Permutations: the program and the reference. -/
set_option linter.unusedSimpArgs false
set_option linter.unusedVariables false
namespace Go.Proofs.YtmhjalagcnhfiaaGreat
open Go Go.Vc
set_option maxRecDepth 10000
set_option maxHeartbeats 4000000
theorem c_spec_l02Is (b : List UInt8) (hb : b.length = 256) : LC Tryz.prog 109 [.a (bs b)] [] (fun v hp => v = .c (.bool (permB b)) ∧ hp = []) := by
  refine LC_of (X := XX (fun _ => .nil) (fun _ => []) [42, 74, 94, 95, 96, 97, 111, 117, 118, 129, 130, 141] 0) envOK Tryz.func109 (by kernel_rfl) (by kernel_rfl) rfl (Nat.le_of_ble_eq_true (by kernel_rfl)) ?_
  simp only [kFun, Tryz.f109, List.length_nil, List.length_cons, Nat.sub_zero, Nat.reduceSub, Nat.reduceAdd, List.nil_append, List.cons_append, List.replicate_succ, List.replicate_zero]
  simp only [XX, ↓VC, VP, TT, List.getElem?_toArray, Nat.reduceEqDiff, reduceCtorEq, Nat.reduceAdd, Nat.reduceSub, Nat.reduceLT, Nat.reduceMul, Nat.reducePow, Nat.reduceLeDiff, Int.reduceToNat, Int.reduceLE, Int.reduceLT, Int.reducePow, hb]
  refine kLoop_of (fun x : Nat => ([.j, .p 0 0, .j, .p 1 0, .c (.int .i64 (x)), .j, .j, .j, .j, .j, .j, .j, .j, .j, .j, .j, .j, .j, .j], [⟨true, bs b⟩, ⟨true, blv (seenL 256 (b.take x))⟩])) (fun x => 256 - x) (fun x => x ≤ 256 ∧ (b.take x).Nodup) 0 (by simp)
    ⟨[0, 1], by rw [List.take_zero, ← seenL_nil]; simp [-List.reduceReplicate, LES]⟩ ?_
  rintro x ⟨hx, hn⟩
  rcases Nat.lt_or_ge x 256 with h | h
  · have hu : (b.getD x 0).toNat < 256 := (b.getD x 0).toNat_lt
    simp only [↓VC, VP, TT, List.getElem?_toArray, Nat.reduceEqDiff, reduceCtorEq, Nat.reduceAdd, Nat.reduceSub, Nat.reduceLT, Nat.reduceMul, Nat.reducePow, Nat.reduceLeDiff, Int.reduceToNat, Int.reduceLE, Int.reduceLT, Int.reducePow, h, (eq_true (by omega) : ((x : Int) < 256) = True), (eq_true (by omega) : ((x : Int) < ((256 : Nat) : Int)) = True), wrap_i64 (n := (x : Int) + 1) (by omega) (by omega), decide_true, hb, seenL_len, seenL_get hu, hu, (eq_true (by omega) : (((b.getD x 0).toNat : Int) < ((256 : Nat) : Int)) = True), seenL_set (show x < b.length by omega), h]
    have hs := nodup_snoc (l := b) (x := x) (by omega)
    refine ⟨fun h1 => ?_, fun h1 => ?_⟩
    · have : permB b = false := decide_eq_false (not_nodup_take (x := x + 1) fun h2 => (hs.1 h2).2 h1)
      refine ⟨_, _, [], ⟨rfl, rfl⟩, ?_⟩; simp [-List.reduceReplicate, LES, this]
    · exact ⟨x + 1, ⟨by omega, hs.2 ⟨hn, h1⟩⟩, by omega, [0, 1], by simp [-List.reduceReplicate, LES]⟩
  · obtain rfl : x = 256 := by omega
    simp only [↓VC, VP, TT, List.getElem?_toArray, Nat.reduceEqDiff, reduceCtorEq, Nat.reduceAdd, Nat.reduceSub, Nat.reduceLT, Nat.reduceMul, Nat.reducePow, Nat.reduceLeDiff, Int.reduceToNat, Int.reduceLE, Int.reduceLT, Int.reducePow, (eq_false (by omega) : (((256 : Nat) : Int) < 256) = False), decide_false, show ((256 : Int) < 256) = False from eq_false (by decide), decide_false]
    have : permB b = true := decide_eq_true (by rwa [List.take_of_length_le (by omega)] at hn)
    refine ⟨_, _, [], ⟨rfl, rfl⟩, ?_⟩; simp [-List.reduceReplicate, LES, this]
theorem c_slices_IndexB (L : List Bool) (c : Nat) (b : Bool) (hc : L.length ≤ c) (hm : L.length ≤ 1048576) : LC Tryz.prog 131 [.s 0 0 L.length c, .c (.bool (b))] [⟨false, blv L⟩] (Ret [⟨false, blv L⟩] (fun z : Int => decide (z ≥ 0) = L.contains b) fun z => (.c (.int .i64 (z)), [])) := by
  refine LC_of (X := XX (fun _ => .nil) (fun _ => []) [42, 74, 94, 95, 96, 97, 111, 117, 118, 129, 130, 141] 1) envOK Tryz.func131 (by kernel_rfl) (by kernel_rfl) rfl (Nat.le_of_ble_eq_true (by kernel_rfl)) ?_
  simp only [kFun, Tryz.f131, List.length_nil, List.length_cons, Nat.sub_zero, Nat.reduceSub, Nat.reduceAdd, List.nil_append, List.cons_append, List.replicate_succ, List.replicate_zero]
  simp only [XX, ↓VC, VP, TT, List.getElem?_toArray, Nat.reduceEqDiff, reduceCtorEq, Nat.reduceAdd, Nat.reduceSub, Nat.reduceLT, Nat.reduceMul, Nat.reducePow, Nat.reduceLeDiff, Int.reduceToNat, Int.reduceLE, Int.reduceLT, Int.reducePow]
  refine kLoop_of (fun i : Nat => ([.s 0 0 L.length c, .c (.bool (b)), .j, .j, .j, .j, .j, .c (.int .i64 (L.length)), .c (.int .i64 (i)), .j, .j, .j, .j, .j, .j, .j, .j, .j, .j], [⟨false, blv L⟩])) (fun i => L.length - i) (fun i => i ≤ L.length ∧ b ∉ L.take i) 0 (by simp) ⟨[0], by simp [-List.reduceReplicate, LES]⟩ ?_
  rintro i ⟨hi, hn⟩
  rcases Nat.lt_or_ge i L.length with h | h
  · simp only [↓VC, VP, TT, List.getElem?_toArray, Nat.reduceEqDiff, reduceCtorEq, Nat.reduceAdd, Nat.reduceSub, Nat.reduceLT, Nat.reduceMul, Nat.reducePow, Nat.reduceLeDiff, Int.reduceToNat, Int.reduceLE, Int.reduceLT, Int.reducePow, h, (eq_true (by omega) : ((i : Int) < L.length) = True), (eq_true (by omega) : ((i : Int) < ((L.length : Nat) : Int)) = True), wrap_i64 (n := (i : Int) + 1) (by omega) (by omega), decide_true, h]
    refine ⟨fun h1 => ?_, fun h1 => ?_⟩
    · refine ⟨_, _, [0], ⟨(i : Int), ?_, rfl, rfl⟩, ?_⟩
      · show decide ((i : Int) ≥ 0) = L.contains b
        rw [decide_eq_true (by omega), List.contains_eq_mem, eq_comm, decide_eq_true_eq, beq_iff_eq.1 h1, List.getD_eq_getElem?_getD, List.getElem?_eq_getElem h]
        exact List.getElem_mem _
      · simp [-List.reduceReplicate, LES]
    · refine ⟨i + 1, ⟨by omega, ?_⟩, by omega, [0], by simp [-List.reduceReplicate, LES]⟩
      rw [List.take_add_one, List.getElem?_eq_getElem h]
      simp only [Option.toList, List.mem_append, List.mem_singleton, not_or]
      refine ⟨hn, ?_⟩
      have := beq_eq_false_iff_ne.1 h1
      rwa [List.getD_eq_getElem?_getD, List.getElem?_eq_getElem h] at this
  · obtain rfl : i = L.length := by omega
    rw [List.take_length] at hn
    simp only [↓VC, VP, TT, List.getElem?_toArray, Nat.reduceEqDiff, reduceCtorEq, Nat.reduceAdd, Nat.reduceSub, Nat.reduceLT, Nat.reduceMul, Nat.reducePow, Nat.reduceLeDiff, Int.reduceToNat, Int.reduceLE, Int.reduceLT, Int.reducePow, (eq_false (by omega) : ((L.length : Int) < (L.length : Int)) = False), decide_false]
    refine ⟨_, _, [0], ⟨-1, ?_, rfl, rfl⟩, ?_⟩
    · show decide ((-1 : Int) ≥ 0) = L.contains b
      rw [decide_eq_false (by omega), List.contains_eq_mem, eq_comm, decide_eq_false_iff_not]; exact hn
    · simp [-List.reduceReplicate, LES]
theorem c_slices_ContainsB (L : List Bool) (c : Nat) (b : Bool) (hc : L.length ≤ c) (hm : L.length ≤ 1048576) : LC Tryz.prog 120 [.s 0 0 L.length c, .c (.bool (b))] [⟨false, blv L⟩] (fun v hp => v = .c (.bool (L.contains b)) ∧ hp = [⟨false, blv L⟩]) := by
  refine LC_of (X := XX (fun _ => .nil) (fun _ => []) [42, 74, 94, 95, 96, 97, 111, 117, 118, 129, 130, 141] 1) envOK Tryz.func120 (by kernel_rfl) (by kernel_rfl) rfl (Nat.le_of_ble_eq_true (by kernel_rfl)) ?_
  simp only [kFun, Tryz.f120, List.length_nil, List.length_cons, Nat.sub_zero, Nat.reduceSub, Nat.reduceAdd, List.nil_append, List.cons_append, List.replicate_succ, List.replicate_zero]
  simp only [XX, ↓VC, VP, TT, List.getElem?_toArray, Nat.reduceEqDiff, reduceCtorEq, Nat.reduceAdd, Nat.reduceSub, Nat.reduceLT, Nat.reduceMul, Nat.reducePow, Nat.reduceLeDiff, Int.reduceToNat, Int.reduceLE, Int.reduceLT, Int.reducePow]
  refine kCall_Ret (c_slices_IndexB L c b hc hm) (by rfl) [(0, 0)] (by simp [CALL]) (by simp [CALL, cellsAt, blv_length, take_all]) (by simp [CALL]) (by simp [okL_blv]) (by simp) fun z hz => ?_
  simp only [CALL, ↓VC, VP, TT, List.getElem?_toArray, Nat.reduceEqDiff, reduceCtorEq, Nat.reduceAdd, Nat.reduceSub, Nat.reduceLT, Nat.reduceMul, Nat.reducePow, Nat.reduceLeDiff, Int.reduceToNat, Int.reduceLE, Int.reduceLT, Int.reducePow, hz]
  refine ⟨_, _, [0], ⟨rfl, rfl⟩, ?_⟩
  simp [-List.reduceReplicate, LES]
theorem c_impl_IsPermutation (b : List UInt8) (hb : b.length = 256) : LC Tryz.prog 100 [.a (bs b)] [] (fun v hp => v = .c (.bool (permB b)) ∧ hp = []) := by
  refine LC_of (X := XX (fun _ => .nil) (fun _ => []) [42, 74, 94, 95, 96, 97, 111, 117, 118, 129, 130, 141] 0) envOK Tryz.func100 (by kernel_rfl) (by kernel_rfl) rfl (Nat.le_of_ble_eq_true (by kernel_rfl)) ?_
  simp only [kFun, Tryz.f100, List.length_nil, List.length_cons, Nat.sub_zero, Nat.reduceSub, Nat.reduceAdd, List.nil_append, List.cons_append, List.replicate_succ, List.replicate_zero]
  simp only [XX, ↓VC, VP, TT, List.getElem?_toArray, Nat.reduceEqDiff, reduceCtorEq, Nat.reduceAdd, Nat.reduceSub, Nat.reduceLT, Nat.reduceMul, Nat.reducePow, Nat.reduceLeDiff, Int.reduceToNat, Int.reduceLE, Int.reduceLT, Int.reducePow, hb]
  refine kLoop_of (fun x : Nat => ([.j, .p 0 0, .j, .p 1 0, .j, .j, .j, .a (bs b), .c (.int .i64 (x)), .j, .j, .j, .j, .j, .j, .j, .j], [⟨true, bs b⟩, ⟨true, blv (seenL 256 (b.take x))⟩])) (fun x => 256 - x) (fun x => x ≤ 256) 0 (by simp)
    ⟨[0, 1], by rw [List.take_zero, ← seenL_nil]; simp [-List.reduceReplicate, LES]⟩ ?_
  intro x hx
  rcases Nat.lt_or_ge x 256 with h | h
  · have hu : (b.getD x 0).toNat < 256 := (b.getD x 0).toNat_lt
    simp only [↓VC, VP, TT, List.getElem?_toArray, Nat.reduceEqDiff, reduceCtorEq, Nat.reduceAdd, Nat.reduceSub, Nat.reduceLT, Nat.reduceMul, Nat.reducePow, Nat.reduceLeDiff, Int.reduceToNat, Int.reduceLE, Int.reduceLT, Int.reducePow, h, (eq_true (by omega) : ((x : Int) < 256) = True), (eq_true (by omega) : ((x : Int) < ((256 : Nat) : Int)) = True), wrap_i64 (n := (x : Int) + 1) (by omega) (by omega), decide_true, hb, seenL_len, hu, (eq_true (by omega) : (((b.getD x 0).toNat : Int) < ((256 : Nat) : Int)) = True), seenL_set (show x < b.length by omega), h]
    exact ⟨x + 1, by omega, by omega, [0, 1], by simp [-List.reduceReplicate, LES]⟩
  · obtain rfl : x = 256 := by omega
    simp only [↓VC, VP, TT, List.getElem?_toArray, Nat.reduceEqDiff, reduceCtorEq, Nat.reduceAdd, Nat.reduceSub, Nat.reduceLT, Nat.reduceMul, Nat.reducePow, Nat.reduceLeDiff, Int.reduceToNat, Int.reduceLE, Int.reduceLT, Int.reducePow, show ((256 : Int) < 256) = False from eq_false (by decide), decide_false, (eq_false (by omega) : (((256 : Nat) : Int) < 256) = False), decide_false]
    rw [List.take_of_length_le (by omega)]
    refine kCall_val (c_slices_ContainsB (seenL 256 b) 256 false (by rw [seenL_len]; omega) (by rw [seenL_len]; omega)) (by rfl) [(1, 0)] (by simp [CALL, seenL_len]) (by simp [CALL, cellsAt, blv_length, seenL_len, take_all]) (by simp [CALL, seenL_len]) (by simp [okL_blv]) ?_
    simp only [CALL, ↓VC, VP, TT, List.getElem?_toArray, Nat.reduceEqDiff, reduceCtorEq, Nat.reduceAdd, Nat.reduceSub, Nat.reduceLT, Nat.reduceMul, Nat.reducePow, Nat.reduceLeDiff, Int.reduceToNat, Int.reduceLE, Int.reduceLT, Int.reducePow, seen_all hb]
    refine ⟨_, _, [], ⟨rfl, rfl⟩, ?_⟩; simp [-List.reduceReplicate, LES]
theorem ext_IndexByte (l : List UInt8) (n c : Nat) (u : UInt8) (hn : l.length = n) (hc : n ≤ c) (hc0 : 0 < c) (M : Nat → Prop) (w0 w : World) (ρ : Vc.Loc) (xs : List Value) (hd : Hd M w0 ρ [⟨false, bs l⟩] w) (hr : relL ρ [.s 0 0 n c, .c (.int .u8 ((u).toNat : Int))] xs) :
    (callFunc 142 xs.toArray).run Tryz.prog w = .ok (.value (.int .i64 (Lib.indexByte l u))) w := by
  simp only [relL] at hr
  obtain ⟨x1, _, rfl, r1, x2, _, rfl, r2, rfl⟩ := hr
  unfold rel at r1 r2
  obtain ⟨_, a, rfl, ha⟩ := r1
  have ha := ha hc0
  subst ha r2
  rw [run_callFunc_extern Tryz.func142 (by kernel_rfl) (by kernel_rfl) (by kernel_rfl) (e := Extern.BytealgIndexByte.indexByte) (by kernel_rfl)]
  have hcell : ∀ i, i < n → w.cell? ⟨(ρ 0).1, (ρ 0).2 + 0 + i, none⟩ = some (.int .u8 ((l.map fun u : UInt8 => (u.toNat : Int)).getD i 0)) := by
    intro i hi
    have hb : (bs l)[i]? = some (bv (l.getD i 0)) := by simp [bs, List.getD, show i < l.length by omega]
    obtain ⟨x, hx, _, h2⟩ := hd.cell 0 _ rfl i _ hb
    unfold bv rel at h2
    rw [Nat.add_zero, hx, h2]
    simp [List.getD, show i < l.length by omega]
  rw [Lib.run_indexByteSlice w _ _ n c (l.map fun u : UInt8 => (u.toNat : Int)) (by simpa using hn) hcell]
  have e1 : Lib.bytesOf (l.map fun u : UInt8 => (u.toNat : Int)) = l := by
    unfold Lib.bytesOf
    rw [List.map_map]
    have : ((fun n : Int => UInt8.ofNat n.toNat) ∘ fun u : UInt8 => (u.toNat : Int)) = id := by funext u; simp
    rw [this, List.map_id]
  have e2 : ((u.toNat : Int)).toNat.toUInt8 = u := by simp
  rw [e1, e2]
  rfl
theorem c_bytes_IndexByte (l : List UInt8) (n c : Nat) (u : UInt8) (hn : l.length = n) (hc : n ≤ c) (hc0 : 0 < c) : LC Tryz.prog 132 [.s 0 0 n c, .c (.int .u8 ((u).toNat : Int))] [⟨false, bs l⟩] (Ret [⟨false, bs l⟩] (fun z : Int => decide (z ≥ 0) = decide (u ∈ l)) fun z => (.c (.int .i64 (z)), [])) := by
  refine LC_of (X := XX (fun _ => .nil) (fun _ => []) [42, 74, 94, 95, 96, 97, 111, 117, 118, 129, 130, 141] 1) envOK Tryz.func132 (by kernel_rfl) (by kernel_rfl) rfl (Nat.le_of_ble_eq_true (by kernel_rfl)) ?_
  simp only [kFun, Tryz.f132, List.length_nil, List.length_cons, Nat.sub_zero, Nat.reduceSub, Nat.reduceAdd, List.nil_append, List.cons_append, List.replicate_succ, List.replicate_zero]
  simp only [XX, ↓VC, VP, TT, List.getElem?_toArray, Nat.reduceEqDiff, reduceCtorEq, Nat.reduceAdd, Nat.reduceSub, Nat.reduceLT, Nat.reduceMul, Nat.reducePow, Nat.reduceLeDiff, Int.reduceToNat, Int.reduceLE, Int.reduceLT, Int.reducePow]
  refine kCall_ext (z := .int .i64 (Lib.indexByte l u)) (by rfl) (ext_IndexByte l n c u hn hc hc0) ?_
  simp only [↓VC, VP, TT, List.getElem?_toArray, Nat.reduceEqDiff, reduceCtorEq, Nat.reduceAdd, Nat.reduceSub, Nat.reduceLT, Nat.reduceMul, Nat.reducePow, Nat.reduceLeDiff, Int.reduceToNat, Int.reduceLE, Int.reduceLT, Int.reducePow]
  refine ⟨_, _, [0], ⟨Lib.indexByte l u, ?_, rfl, rfl⟩, ?_⟩
  · have := Lib.contains_iff_indexByte l u
    rw [List.contains_eq_mem] at this
    exact this.symm
  · simp [-List.reduceReplicate, LES]
theorem c_impl_areDifferent (l : List UInt8) (c : Nat) (hc : l.length ≤ c) (hc0 : 0 < c) (hm : l.length ≤ 1048576) : LC Tryz.prog 121 [.s 0 0 l.length c] [⟨false, bs l⟩] (fun v hp => v = .c (.bool (decide l.Nodup)) ∧ hp = [⟨false, bs l⟩]) := by
  refine LC_of (X := XX (fun _ => .nil) (fun _ => []) [42, 74, 94, 95, 96, 97, 111, 117, 118, 129, 130, 141] 1) envOK Tryz.func121 (by kernel_rfl) (by kernel_rfl) rfl (Nat.le_of_ble_eq_true (by kernel_rfl)) ?_
  simp only [kFun, Tryz.f121, List.length_nil, List.length_cons, Nat.sub_zero, Nat.reduceSub, Nat.reduceAdd, List.nil_append, List.cons_append, List.replicate_succ, List.replicate_zero]
  simp only [XX, ↓VC, VP, TT, List.getElem?_toArray, Nat.reduceEqDiff, reduceCtorEq, Nat.reduceAdd, Nat.reduceSub, Nat.reduceLT, Nat.reduceMul, Nat.reducePow, Nat.reduceLeDiff, Int.reduceToNat, Int.reduceLE, Int.reduceLT, Int.reducePow]
  refine kLoop_of (fun i : Nat => ([.s 0 0 l.length c, .j, .j, .j, .j, .s 0 0 l.length c, .c (.int .i64 (l.length)), .c (.int .i64 (i)), .j, .j, .j, .j, .j, .j, .j, .j, .j, .j, .j], [⟨false, bs l⟩])) (fun i => l.length - i) (fun i => i ≤ l.length ∧ (l.take i).Nodup) 0 (by simp) ⟨[0], by simp [-List.reduceReplicate, LES]⟩ ?_
  rintro i ⟨hi, hn⟩
  rcases Nat.lt_or_ge i l.length with h | h
  · have hs := nodup_snoc (l := l) (x := i) h
    simp only [↓VC, VP, TT, List.getElem?_toArray, Nat.reduceEqDiff, reduceCtorEq, Nat.reduceAdd, Nat.reduceSub, Nat.reduceLT, Nat.reduceMul, Nat.reducePow, Nat.reduceLeDiff, Int.reduceToNat, Int.reduceLE, Int.reduceLT, Int.reducePow, h, (eq_true (by omega) : ((i : Int) < l.length) = True), (eq_true (by omega) : ((i : Int) < ((l.length : Nat) : Int)) = True), wrap_i64 (n := (i : Int) + 1) (by omega) (by omega), decide_true, h]
    repeat (refine ⟨by first | omega | (simp; done) | decide, ?_⟩)
    simp only [Nat.sub_zero]
    refine kCall_Ret (c_bytes_IndexByte (l.take i) i c (l.getD i 0) (by rw [List.length_take]; omega) (by omega) hc0) (by rfl) [(0, 0)] (by simp [CALL]) (by simp [CALL, cellsAt, bs_length, bs_take, Nat.min_eq_left hi]) (by simp [CALL]) (by simp [okL_bs]) (by simp) fun z hz => ?_
    simp only [CALL, ↓VC, VP, TT, List.getElem?_toArray, Nat.reduceEqDiff, reduceCtorEq, Nat.reduceAdd, Nat.reduceSub, Nat.reduceLT, Nat.reduceMul, Nat.reducePow, Nat.reduceLeDiff, Int.reduceToNat, Int.reduceLE, Int.reduceLT, Int.reducePow, hz]
    refine ⟨fun h1 => ?_, fun h1 => ?_⟩
    · have : decide l.Nodup = false := decide_eq_false (not_nodup_take (x := i + 1) fun h2 => (hs.1 h2).2 h1)
      refine ⟨_, _, [0], ⟨rfl, rfl⟩, ?_⟩
      simp [-List.reduceReplicate, LES, this]
    · refine ⟨i + 1, ⟨by omega, hs.2 ⟨hn, h1⟩⟩, by omega, [0], ?_⟩
      try rw [wrap_i64 (by omega) (by omega)]
      simp [-List.reduceReplicate, LES]
  · obtain rfl : i = l.length := by omega
    rw [List.take_length] at hn
    simp only [↓VC, VP, TT, List.getElem?_toArray, Nat.reduceEqDiff, reduceCtorEq, Nat.reduceAdd, Nat.reduceSub, Nat.reduceLT, Nat.reduceMul, Nat.reducePow, Nat.reduceLeDiff, Int.reduceToNat, Int.reduceLE, Int.reduceLT, Int.reducePow, (eq_false (by omega) : ((l.length : Int) < (l.length : Int)) = False), decide_false]
    refine ⟨_, _, [0], ⟨rfl, rfl⟩, ?_⟩
    simp [-List.reduceReplicate, LES, hn]
theorem c_impl_ArePlaces (p : List UInt8) (hp : p.length = 16) : LC Tryz.prog 102 [.a (bs p)] [] (fun v hp => v = .c (.bool (plcB p)) ∧ hp = []) := by
  refine LC_of (X := XX (fun _ => .nil) (fun _ => []) [42, 74, 94, 95, 96, 97, 111, 117, 118, 129, 130, 141] 0) envOK Tryz.func102 (by kernel_rfl) (by kernel_rfl) rfl (Nat.le_of_ble_eq_true (by kernel_rfl)) ?_
  simp only [kFun, Tryz.f102, List.length_nil, List.length_cons, Nat.sub_zero, Nat.reduceSub, Nat.reduceAdd, List.nil_append, List.cons_append, List.replicate_succ, List.replicate_zero]
  simp only [XX, ↓VC, VP, TT, List.getElem?_toArray, Nat.reduceEqDiff, reduceCtorEq, Nat.reduceAdd, Nat.reduceSub, Nat.reduceLT, Nat.reduceMul, Nat.reducePow, Nat.reduceLeDiff, Int.reduceToNat, Int.reduceLE, Int.reduceLT, Int.reducePow, hp]
  refine kLoop_of (fun i : Nat => ([.j, .p 0 0, .j, .j, .j, .a (bs p), .c (.int .i64 (i)), .j, .j, .j, .j, .j, .j, .j], [⟨true, bs p⟩])) (fun i => 16 - i) (fun i => i ≤ 16 ∧ ∀ u ∈ p.take i, u.toNat < 16) 0 (by simp) ⟨[0], by simp [-List.reduceReplicate, LES]⟩ ?_
  rintro i ⟨hi, hn⟩
  rcases Nat.lt_or_ge i 16 with h | h
  · simp only [↓VC, VP, TT, List.getElem?_toArray, Nat.reduceEqDiff, reduceCtorEq, Nat.reduceAdd, Nat.reduceSub, Nat.reduceLT, Nat.reduceMul, Nat.reducePow, Nat.reduceLeDiff, Int.reduceToNat, Int.reduceLE, Int.reduceLT, Int.reducePow, h, (eq_true (by omega) : ((i : Int) < 16) = True), (eq_true (by omega) : ((i : Int) < ((16 : Nat) : Int)) = True), wrap_i64 (n := (i : Int) + 1) (by omega) (by omega), decide_true, hp, h]
    refine ⟨fun h1 => ?_, fun h1 => ?_⟩
    · have : plcB p = false := decide_eq_false fun h2 => by have := h2.1 _ (getD_mem (l := p) (x := i) (by omega)); omega
      refine ⟨_, _, [], ⟨rfl, rfl⟩, ?_⟩; simp [-List.reduceReplicate, LES, this]
    · refine ⟨i + 1, ⟨by omega, ?_⟩, by omega, [0], by simp [-List.reduceReplicate, LES]⟩
      intro u hu
      rw [takeP_snoc (by omega), List.mem_append, List.mem_singleton] at hu
      rcases hu with hu | rfl
      · exact hn u hu
      · omega
  · obtain rfl : i = 16 := by omega
    rw [List.take_of_length_le (by omega)] at hn
    simp only [↓VC, VP, TT, List.getElem?_toArray, Nat.reduceEqDiff, reduceCtorEq, Nat.reduceAdd, Nat.reduceSub, Nat.reduceLT, Nat.reduceMul, Nat.reducePow, Nat.reduceLeDiff, Int.reduceToNat, Int.reduceLE, Int.reduceLT, Int.reducePow, show ((16 : Int) < 16) = False from eq_false (by decide), decide_false, (eq_false (by omega) : (((16 : Nat) : Int) < 16) = False), decide_false]
    refine kCall_val (by have := c_impl_areDifferent p 16 (by omega) (by omega) (by omega); rw [hp] at this; exact this) (by rfl) [(0, 0)] (by simp [CALL]) (by simp [CALL, cellsAt, bs_length, hp, take_all]) (by simp [CALL]) (by simp [okL_bs]) ?_
    simp only [CALL, ↓VC, VP, TT, List.getElem?_toArray, Nat.reduceEqDiff, reduceCtorEq, Nat.reduceAdd, Nat.reduceSub, Nat.reduceLT, Nat.reduceMul, Nat.reducePow, Nat.reduceLeDiff, Int.reduceToNat, Int.reduceLE, Int.reduceLT, Int.reducePow]
    have : plcB p = decide p.Nodup := by
      unfold plcB
      rw [Bool.eq_iff_iff, decide_eq_true_eq, decide_eq_true_eq]
      exact ⟨fun h => h.2, fun h => ⟨hn, h⟩⟩
    refine ⟨_, _, [], ⟨rfl, rfl⟩, ?_⟩; simp [-List.reduceReplicate, LES, this]
theorem c_spec_l03Perm (p : List UInt8) (hp : p.length = 16) : LC Tryz.prog 110 [.a (bs p)] [] (fun v hp => v = .c (.bool (plcB p)) ∧ hp = []) := by
  refine LC_of (X := XX (fun _ => .nil) (fun _ => []) [42, 74, 94, 95, 96, 97, 111, 117, 118, 129, 130, 141] 0) envOK Tryz.func110 (by kernel_rfl) (by kernel_rfl) rfl (Nat.le_of_ble_eq_true (by kernel_rfl)) ?_
  simp only [kFun, Tryz.f110, List.length_nil, List.length_cons, Nat.sub_zero, Nat.reduceSub, Nat.reduceAdd, List.nil_append, List.cons_append, List.replicate_succ, List.replicate_zero]
  simp only [XX, ↓VC, VP, TT, List.getElem?_toArray, Nat.reduceEqDiff, reduceCtorEq, Nat.reduceAdd, Nat.reduceSub, Nat.reduceLT, Nat.reduceMul, Nat.reducePow, Nat.reduceLeDiff, Int.reduceToNat, Int.reduceLE, Int.reduceLT, Int.reducePow, hp]
  refine kLoop_of (fun x : Nat => ([.j, .p 0 0, .j, .p 1 0, .c (.int .i64 (x)), .j, .j, .j, .j, .j, .j, .j, .j, .j, .j, .j, .j, .j, .j, .j, .j, .j, .j, .j, .j], [⟨true, bs p⟩, ⟨true, blv (seenL 16 (p.take x))⟩])) (fun x => 16 - x) (fun x => x ≤ 16 ∧ (∀ u ∈ p.take x, u.toNat < 16) ∧ (p.take x).Nodup) 0 (by simp)
    ⟨[0, 1], by rw [List.take_zero, ← seenL_nil]; simp [-List.reduceReplicate, LES]⟩ ?_
  rintro x ⟨hx, hu, hn⟩
  rcases Nat.lt_or_ge x 16 with h | h
  · have hs := nodup_snoc (l := p) (x := x) (by omega)
    have hmem := getD_mem (l := p) (x := x) (by omega)
    simp only [↓VC, VP, TT, List.getElem?_toArray, Nat.reduceEqDiff, reduceCtorEq, Nat.reduceAdd, Nat.reduceSub, Nat.reduceLT, Nat.reduceMul, Nat.reducePow, Nat.reduceLeDiff, Int.reduceToNat, Int.reduceLE, Int.reduceLT, Int.reducePow, h, (eq_true (by omega) : ((x : Int) < 16) = True), (eq_true (by omega) : ((x : Int) < ((16 : Nat) : Int)) = True), wrap_i64 (n := (x : Int) + 1) (by omega) (by omega), decide_true, hp, h]
    refine kGd_split rfl (fun h1 => ?_) (fun h1 => ?_) <;> simp only [↓VC, VP, TT, List.getElem?_toArray, Nat.reduceEqDiff, reduceCtorEq, Nat.reduceAdd, Nat.reduceSub, Nat.reduceLT, Nat.reduceMul, Nat.reducePow, Nat.reduceLeDiff, Int.reduceToNat, Int.reduceLE, Int.reduceLT, Int.reducePow, h1, hp, h]
    · have : plcB p = false := decide_eq_false fun h2 => by have := h2.1 _ hmem; have := of_decide_eq_true h1; omega
      refine ⟨_, _, [], ⟨rfl, rfl⟩, ?_⟩; simp [-List.reduceReplicate, LES, this]
    · have hlt : (p.getD x 0).toNat < 16 := by have := of_decide_eq_false h1; omega
      simp only [seenL_len, seenL_get hlt, hlt, (eq_true (by omega) : (((p.getD x 0).toNat : Int) < ((16 : Nat) : Int)) = True), seenL_set (show x < p.length by omega), ↓VC, VP, TT, List.getElem?_toArray, Nat.reduceEqDiff, reduceCtorEq, Nat.reduceAdd, Nat.reduceSub, Nat.reduceLT, Nat.reduceMul, Nat.reducePow, Nat.reduceLeDiff, Int.reduceToNat, Int.reduceLE, Int.reduceLT, Int.reducePow]
      refine ⟨by omega, fun h2 => ?_, fun h2 => ⟨by omega, x + 1, ⟨by omega, ?_, hs.2 ⟨hn, h2⟩⟩, by omega, [0, 1], ?_⟩⟩
      · have : plcB p = false := decide_eq_false fun h3 => not_nodup_take (x := x + 1) (fun h4 => (hs.1 h4).2 h2) h3.2
        refine ⟨_, _, [], ⟨rfl, rfl⟩, ?_⟩; simp [-List.reduceReplicate, LES, this]
      · intro u hm
        rw [takeP_snoc (by omega), List.mem_append, List.mem_singleton] at hm
        rcases hm with hm | rfl
        · exact hu u hm
        · exact hlt
      · rw [wrap_i64 (by omega) (by omega)]
        simp [-List.reduceReplicate, LES]
  · obtain rfl : x = 16 := by omega
    rw [List.take_of_length_le (by omega)] at hu hn
    simp only [↓VC, VP, TT, List.getElem?_toArray, Nat.reduceEqDiff, reduceCtorEq, Nat.reduceAdd, Nat.reduceSub, Nat.reduceLT, Nat.reduceMul, Nat.reducePow, Nat.reduceLeDiff, Int.reduceToNat, Int.reduceLE, Int.reduceLT, Int.reducePow, show ((16 : Int) < 16) = False from eq_false (by decide), decide_false, (eq_false (by omega) : (((16 : Nat) : Int) < 16) = False), decide_false]
    have : plcB p = true := decide_eq_true ⟨hu, hn⟩
    refine ⟨_, _, [], ⟨rfl, rfl⟩, ?_⟩; simp [-List.reduceReplicate, LES, this]
end Go.Proofs.YtmhjalagcnhfiaaGreat

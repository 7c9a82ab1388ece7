import Derived.Test.YtahnjhppkgndiaaGreatEndsP
import Derived.Test.YtahnjhppkgndiaaGreatDrawR
/- A text damaged: how long it is, and how many numbers are drawn. -/
set_option linter.unusedSimpArgs false
set_option linter.unusedVariables false
namespace Go.Proofs.YtahnjhppkgndiaaGreat
open Go Go.Vc
set_option maxRecDepth 10000
set_option maxHeartbeats 4000000
theorem valQ_lt {f : Nat → Nat} {l : List UInt8} {q : Nat × Nat} {n : Nat} (h : 0 < n) : valQ f l q n < n := Nat.mod_lt _ h
def signL : List V := [.c (.string ⟨#[48]⟩), .c (.string ⟨#[49]⟩), .c (.string ⟨#[55]⟩), .c (.string ⟨#[57]⟩), .c (.string ⟨#[97]⟩), .c (.string ⟨#[102]⟩), .c (.string ⟨#[103]⟩), .c (.string ⟨#[65]⟩), .c (.string ⟨#[45]⟩), .c (.string ⟨#[47]⟩), .c (.string ⟨#[59]⟩), .c (.string ⟨#[58]⟩), .c (.string ⟨#[44]⟩), .c (.string ⟨#[32]⟩), .c (.string ⟨#[124]⟩), .c (.string ⟨#[10]⟩)]
theorem signS : splice (splice (splice (splice (splice (splice (splice (splice (splice (splice (splice (splice (splice (splice (splice (splice (List.replicate 16 [V.c (Value.string { data := #[] })]).flatten 0 [V.c (Value.string { data := #[48] })]) 1 [V.c (Value.string { data := #[49] })]) 2 [V.c (Value.string { data := #[55] })]) 3 [V.c (Value.string { data := #[57] })]) 4 [V.c (Value.string { data := #[97] })]) 5 [V.c (Value.string { data := #[102] })]) 6 [V.c (Value.string { data := #[103] })]) 7 [V.c (Value.string { data := #[65] })]) 8 [V.c (Value.string { data := #[45] })]) 9 [V.c (Value.string { data := #[47] })]) 10 [V.c (Value.string { data := #[59] })]) 11 [V.c (Value.string { data := #[58] })]) 12 [V.c (Value.string { data := #[44] })]) 13 [V.c (Value.string { data := #[32] })]) 14 [V.c (Value.string { data := #[124] })]) 15 [V.c (Value.string { data := #[10] })] = signL := rfl
theorem signL_get : ∀ k, k < 16 → ∃ s : ByteArray, s.size = 1 ∧ ∀ kk : V → Prop, vGet signL k kk = kk (.c (.string s)) := by
  intro k hk
  have h : ∃ s : ByteArray, s.size = 1 ∧ signL.getD k .j = .c (.string s) := by
    match k, hk with
    | 0, _ => exact ⟨_, rfl, rfl⟩
    | 1, _ => exact ⟨_, rfl, rfl⟩
    | 2, _ => exact ⟨_, rfl, rfl⟩
    | 3, _ => exact ⟨_, rfl, rfl⟩
    | 4, _ => exact ⟨_, rfl, rfl⟩
    | 5, _ => exact ⟨_, rfl, rfl⟩
    | 6, _ => exact ⟨_, rfl, rfl⟩
    | 7, _ => exact ⟨_, rfl, rfl⟩
    | 8, _ => exact ⟨_, rfl, rfl⟩
    | 9, _ => exact ⟨_, rfl, rfl⟩
    | 10, _ => exact ⟨_, rfl, rfl⟩
    | 11, _ => exact ⟨_, rfl, rfl⟩
    | 12, _ => exact ⟨_, rfl, rfl⟩
    | 13, _ => exact ⟨_, rfl, rfl⟩
    | 14, _ => exact ⟨_, rfl, rfl⟩
    | 15, _ => exact ⟨_, rfl, rfl⟩
    | k + 16, h => exact absurd h (by omega)
  obtain ⟨s, h1, h2⟩ := h
  refine ⟨s, h1, fun kk => ?_⟩
  unfold vGet
  rw [h2]
  apply propext
  exact ⟨fun x => x.2, fun x => ⟨by simpa [signL] using hk, x⟩⟩
section
variable {l : List UInt8} {c : Nat} {q : Nat × Nat} {f : Nat → Nat}
theorem e_damage (hf : ∀ x, f x = (6364136223846793005 * x + 1442695040888963407) % 18446744073709551616) (hc : l.length ≤ c) (hm : l.length ≤ 4096) (hq : okS l q) (t : ByteArray) (ht : t.size ≤ 1099511627776) : LC Tryz.prog 119 [.p 0 0, .c (.string t)] [⟨true, sv 1 l.length c q⟩, ⟨false, bs l⟩] (RetM (fun x : ByteArray × (Nat × Nat) => x.1.size ≤ t.size + 1 ∧ (t.size = 0 → x.2 = stepQ f l q ∧ x.1.size = 1) ∧ (t.size ≠ 0 → x.2 = stepQ f l (stepQ f l (stepQ f l q)))) fun x => (.c (.string x.1), [⟨true, sv 1 l.length c x.2⟩, ⟨false, bs l⟩], [])) := by
  refine LC_of (X := XX (fun | 8 => .one 0 (.one 1 (.one 2 (.one 3 (.one 4 (.one 5 (.one 6 (.one 7 (.one 8 (.one 9 (.one 10 .nil)))))))))) | 10 => .one 0 (.one 1 (.one 2 (.one 3 (.one 4 (.one 5 (.one 6 (.one 7 (.one 8 .nil)))))))) | 11 => .one 0 (.one 1 (.one 2 (.one 3 (.one 4 (.one 5 (.one 6 (.one 7 (.one 8 (.one 9 .nil))))))))) | _ => .nil) (fun _ => []) [15, 71, 72, 73, 79, 80, 87, 90, 91, 93, 99, 119, 137, 176, 177, 203, 204, 212, 219] 2) envOK Tryz.func119 (by kernel_rfl) (by kernel_rfl) rfl (Nat.le_of_ble_eq_true (by kernel_rfl)) ?_
  simp only [kFun, Tryz.f119, List.length_nil, List.length_cons, Nat.sub_zero, Nat.reduceSub, Nat.reduceAdd, List.nil_append, List.cons_append, List.replicate_succ, List.replicate_zero]
  simp only [XX, ↓VC, VP, TT, Nat.reduceEqDiff, reduceCtorEq, Nat.reduceAdd, Nat.reduceSub, Nat.reduceLT, Nat.reduceMul, Nat.reducePow, Nat.reduceLeDiff, Int.reduceToNat, Int.reduceLE, Int.reduceLT, Int.reducePow]
  have o1 := stepQ_ok (f := f) hf hq
  have o2 := stepQ_ok (f := f) hf o1
  have hk := valQ_lt (f := f) (l := l) (q := q) (n := 16) (by decide)
  obtain ⟨s, hs, hg⟩ := signL_get _ hk
  refine kCall_M (e_next hf hc hm hq 16 (by omega) (by omega)) (by rfl) [(0, 0), (1, 0)] (by simp [CALL, SCB, SD, nsv, SD, nsv]) (by simp [CALL, SCB, SD, nsv, SD, nsv]) (by simp) (by simp [CALL, SCB, SD, nsv, SD, nsv]) (by simp [okL_bs, okL_room, okL, okV, SD, nsv, SD, nsv]) (by intro x _; simp [keepR, bs_length, SD, nsv, SD, nsv]) (by simp [CALL, SCB, SD, nsv, SD, nsv]) fun x1 h1 => ?_
  simp (config := { maxSteps := 2000000 }) only [CALL, ↓VC, VP, TT, Nat.reduceEqDiff, reduceCtorEq, Nat.reduceAdd, Nat.reduceSub, Nat.reduceLT, Nat.reduceMul, Nat.reducePow, Nat.reduceLeDiff, Int.reduceToNat, Int.reduceLE, Int.reduceLT, Int.reducePow, GOB, GD, GD, signS, ↓hg, hs]
  refine ⟨by omega, fun h => ?_, fun h => ?_⟩
  · have h0 : t.size = 0 := by have := beq_iff_eq.1 h; omega
    exact ⟨_, _, [0, 1], ⟨(s, stepQ f l q), ⟨by simp only; omega, fun _ => ⟨rfl, hs⟩, fun h => absurd h0 h⟩, rfl, rfl⟩, by simp [-List.reduceReplicate, LES, sv_ren, sv_ok]⟩
  · have h0 : t.size ≠ 0 := by have := beq_eq_false_iff_ne.1 h; omega
    clear h
    have hk2 := valQ_lt (f := f) (l := l) (q := stepQ f l q) (n := t.size) (by omega)
    refine kCall_M (e_next hf hc hm o1 t.size (by omega) (by omega)) (by rfl) [(0, 0), (1, 0)] (by simp [CALL, SCB, SD, nsv, SD, nsv]) (by simp [CALL, SCB, SD, nsv, SD, nsv]) (by simp) (by simp [CALL, SCB, SD, nsv, SD, nsv]) (by simp [okL_bs, okL_room, okL, okV, SD, nsv, SD, nsv]) (by intro x _; simp [keepR, bs_length, SD, nsv, SD, nsv]) (by simp [CALL, SCB, SD, nsv, SD, nsv]) fun x2 h2 => ?_
    simp (config := { maxSteps := 2000000 }) only [CALL, ↓VC, VP, TT, Nat.reduceEqDiff, reduceCtorEq, Nat.reduceAdd, Nat.reduceSub, Nat.reduceLT, Nat.reduceMul, Nat.reducePow, Nat.reduceLeDiff, Int.reduceToNat, Int.reduceLE, Int.reduceLT, Int.reducePow, GOB, GD, GD]
    refine kCall_M (e_next hf hc hm o2 3 (by omega) (by omega)) (by rfl) [(0, 0), (1, 0)] (by simp [CALL, SCB, SD, nsv, SD, nsv]) (by simp [CALL, SCB, SD, nsv, SD, nsv]) (by simp) (by simp [CALL, SCB, SD, nsv, SD, nsv]) (by simp [okL_bs, okL_room, okL, okV, SD, nsv, SD, nsv]) (by intro x _; simp [keepR, bs_length, SD, nsv, SD, nsv]) (by simp [CALL, SCB, SD, nsv, SD, nsv]) fun x3 h3 => ?_
    simp (config := { maxSteps := 2000000 }) only [CALL, ↓VC, VP, TT, Nat.reduceEqDiff, reduceCtorEq, Nat.reduceAdd, Nat.reduceSub, Nat.reduceLT, Nat.reduceMul, Nat.reducePow, Nat.reduceLeDiff, Int.reduceToNat, Int.reduceLE, Int.reduceLT, Int.reducePow, GOB, GD, GD]
    generalize valQ f l (stepQ f l q) t.size = k at *
    generalize valQ f l (stepQ f l (stepQ f l q)) 3 = w at *
    rw [wrap_i64 (n := (k : Int) + 1) (by omega) (by omega)]
    have ek : ((k : Int) + 1).toNat = k + 1 := by omega
    have a1 : (t.extract 0 k).size = k := by rw [ByteArray.size_extract]; omega
    have a2 : (t.extract k t.size).size = t.size - k := by rw [ByteArray.size_extract]; omega
    have a3 : (t.extract (k + 1) t.size).size = t.size - (k + 1) := by rw [ByteArray.size_extract]; omega
    have E : ∀ u : ByteArray, u.size ≤ t.size + 1 → ∃ v' hp' σ, RetM (fun x : ByteArray × (Nat × Nat) => x.1.size ≤ t.size + 1 ∧ (t.size = 0 → x.2 = stepQ f l q ∧ x.1.size = 1) ∧ (t.size ≠ 0 → x.2 = stepQ f l (stepQ f l (stepQ f l q)))) (fun x => (.c (.string x.1), [⟨true, sv 1 l.length c x.2⟩, ⟨false, bs l⟩], [])) v' hp' ∧ LeS 2 σ [V.c (Value.string u)] [⟨true, sv 1 l.length c (stepQ f l (stepQ f l (stepQ f l q)))⟩, ⟨false, bs l⟩, ⟨true, signL⟩] [v'] hp' := fun u hu =>
      ⟨_, _, [0, 1], ⟨(u, stepQ f l (stepQ f l (stepQ f l q))), ⟨hu, fun h => absurd h h0, fun _ => rfl⟩, rfl, rfl⟩, by simp [-List.reduceReplicate, LES, sv_ren, sv_ok]⟩
    rw [ek]
    refine ⟨fun _ => ⟨by omega, by omega, by omega, by omega, ?_, E _ ?_⟩, fun _ => ⟨fun _ => ⟨by omega, by omega, by omega, by omega, E _ ?_⟩, fun _ => ⟨by omega, by omega, by omega, ?_, E _ ?_⟩⟩⟩
    all_goals simp only [ByteArray.size_append, a1, a2, a3, hs]
    all_goals omega
theorem d_ParseDigestE (hf : ∀ x, f x = (6364136223846793005 * x + 1442695040888963407) % 18446744073709551616) (hc : l.length ≤ c) (hm : l.length ≤ 4096) : LC Tryz.prog 50 [.s 0 0 l.length c] [⟨false, bs l⟩] (Ret [⟨false, bs l⟩] (fun t : ByteArray => t.size ≤ 274877911200) fun t => (.c (.string t), [])) := by
  refine LC_of (X := XX (fun _ => .nil) (fun _ => []) [15, 71, 72, 73, 79, 80, 87, 90, 91, 93, 99, 119, 137, 176, 177, 203, 204, 212, 219] 1) envOK Tryz.func50 (by kernel_rfl) (by kernel_rfl) rfl (Nat.le_of_ble_eq_true (by kernel_rfl)) ?_
  simp only [kFun, Tryz.f50, List.length_nil, List.length_cons, Nat.sub_zero, Nat.reduceSub, Nat.reduceAdd, List.nil_append, List.cons_append, List.replicate_succ, List.replicate_zero]
  simp only [XX, ↓VC, VP, TT, Nat.reduceEqDiff, reduceCtorEq, Nat.reduceAdd, Nat.reduceSub, Nat.reduceLT, Nat.reduceMul, Nat.reducePow, Nat.reduceLeDiff, Int.reduceToNat, Int.reduceLE, Int.reduceLT, Int.reducePow]
  refine kCall_Ret (d_from hc hm) (by rfl) [(0, 0)] (by simp [CALL, SCB, SD, nsv, SD, nsv]) (by simp [CALL, SCB, SD, nsv, SD, nsv]) (by simp [CALL, SCB, SD, nsv, SD, nsv]) (by simp [okL_bs, okL_room, okL, okV, SD, nsv, SD, nsv]) (by simp [CALL, SCB, SD, nsv, SD, nsv]) fun q hq => ?_
  simp (config := { maxSteps := 2000000 }) only [CALL, ↓VC, VP, TT, Nat.reduceEqDiff, reduceCtorEq, Nat.reduceAdd, Nat.reduceSub, Nat.reduceLT, Nat.reduceMul, Nat.reducePow, Nat.reduceLeDiff, Int.reduceToNat, Int.reduceLE, Int.reduceLT, Int.reducePow, GOB, GD, GD]
  refine kCall_M (d_digest hc hm hq) (by rfl) [(1, 0), (0, 0)] (by simp [CALL, SCB, SD, nsv, SD, nsv]) (by simp [CALL, SCB, SD, nsv, SD, nsv]) (by simp) (by simp [CALL, SCB, SD, nsv, SD, nsv]) (by simp [okL_bs, okL_room, okL, okV, SD, nsv, SD, nsv]) (by intro x _; simp [keepR, bs_length, SD, nsv, SD, nsv]) (by simp [CALL, SCB, SD, nsv, SD, nsv]) fun x1 h1 => ?_
  obtain ⟨q1, d⟩ := x1
  obtain ⟨hq1, hd⟩ := h1
  simp only at hq1 hd ⊢
  simp (config := { maxSteps := 2000000 }) only [CALL, ↓VC, VP, TT, Nat.reduceEqDiff, reduceCtorEq, Nat.reduceAdd, Nat.reduceSub, Nat.reduceLT, Nat.reduceMul, Nat.reducePow, Nat.reduceLeDiff, Int.reduceToNat, Int.reduceLE, Int.reduceLT, Int.reducePow, GOB, GD, GD, hd]
  refine kCall_Ret (c_spec_l08Bytes d hd) (by rfl) [] (by simp [CALL, SCB, SD, nsv, SD, nsv]) (by simp [CALL, SCB, SD, nsv, SD, nsv]) (by simp [CALL, SCB, SD, nsv, SD, nsv]) (by simp [okL_bs, okL_room, okL, okV, SD, nsv, SD, nsv]) (by simp [CALL, SCB, SD, nsv, SD, nsv]) fun r _ => ?_
  simp (config := { maxSteps := 2000000 }) only [CALL, ↓VC, VP, TT, Nat.reduceEqDiff, reduceCtorEq, Nat.reduceAdd, Nat.reduceSub, Nat.reduceLT, Nat.reduceMul, Nat.reducePow, Nat.reduceLeDiff, Int.reduceToNat, Int.reduceLE, Int.reduceLT, Int.reducePow, GOB, GD, GD, hd]
  have hT : List.take 32 (bs d ++ List.replicate r V.j) = bs d := take_room hd.symm
  have hX := c_spec_l01Hex d (32 + r) (by omega) (by omega)
  rw [hd] at hX
  refine kCall_val (hX) (by rfl) [(2, 0)] (by simp [CALL, SCB, SD, nsv, SD, nsv, hT]) (by simp [CALL, SCB, SD, nsv, SD, nsv, hT]) (by simp [CALL, SCB, SD, nsv, SD, nsv, hT]) (by simp [okL_bs, okL_room, okL, okV, SD, nsv, SD, nsv, hT]) ?_
  simp (config := { maxSteps := 2000000 }) only [CALL, ↓VC, VP, TT, Nat.reduceEqDiff, reduceCtorEq, Nat.reduceAdd, Nat.reduceSub, Nat.reduceLT, Nat.reduceMul, Nat.reducePow, Nat.reduceLeDiff, Int.reduceToNat, Int.reduceLE, Int.reduceLT, Int.reducePow, GOB, GD, GD]
  refine kLoop_of (fun s : ByteArray × (Nat × Nat) => ([.j, .j, .j, .p 1 0, .c (.string s.1), .j, .j, .j, .j, .j, .j, .j, .j, .j, .j, .j, .j, .j], [⟨false, bs l⟩, ⟨true, sv 0 l.length c s.2⟩])) (fun s => muP f l s.2) (fun s => InvP f l s.1.size s.2) (⟨(hexL d).toArray⟩, q1) (InvP_start hq1 (by show (hexL d).length ≤ 64; rw [hexL_length]; omega)) ⟨[0, 1], by simp [-List.reduceReplicate, LES, sv_ren, sv_ok]⟩ ?_
  rintro ⟨t, q⟩ hI
  simp only at hI
  have hq := hI.1
  have o1 := stepQ_ok (f := f) hf hq
  have ht := InvP_le hf hm hI
  simp only [↓VC, VP, TT, Nat.reduceEqDiff, reduceCtorEq, Nat.reduceAdd, Nat.reduceSub, Nat.reduceLT, Nat.reduceMul, Nat.reducePow, Nat.reduceLeDiff, Int.reduceToNat, Int.reduceLE, Int.reduceLT, Int.reducePow]
  refine kCall_M (e_next hf hc hm hq 3 (by omega) (by omega)) (by rfl) [(1, 0), (0, 0)] (by simp [CALL, SCB, SD, nsv, SD, nsv]) (by simp [CALL, SCB, SD, nsv, SD, nsv]) (by simp) (by simp [CALL, SCB, SD, nsv, SD, nsv]) (by simp [okL_bs, okL_room, okL, okV, SD, nsv, SD, nsv]) (by intro x _; simp [keepR, bs_length, SD, nsv, SD, nsv]) (by simp [CALL, SCB, SD, nsv, SD, nsv]) fun y1 g1 => ?_
  simp (config := { maxSteps := 2000000 }) only [CALL, ↓VC, VP, TT, Nat.reduceEqDiff, reduceCtorEq, Nat.reduceAdd, Nat.reduceSub, Nat.reduceLT, Nat.reduceMul, Nat.reducePow, Nat.reduceLeDiff, Int.reduceToNat, Int.reduceLE, Int.reduceLT, Int.reducePow, GOB, GD, GD]
  refine ⟨fun h => ?_, fun h => ?_⟩
  · have hv : valQ f l q 3 = 0 := by have := beq_iff_eq.1 h; omega
    refine kCall_M (e_damage hf hc hm o1 t (by omega)) (by rfl) [(1, 0), (0, 0)] (by simp [CALL, SCB, SD, nsv, SD, nsv]) (by simp [CALL, SCB, SD, nsv, SD, nsv]) (by simp) (by simp [CALL, SCB, SD, nsv, SD, nsv]) (by simp [okL_bs, okL_room, okL, okV, SD, nsv, SD, nsv]) (by intro x _; simp [keepR, bs_length, SD, nsv, SD, nsv]) (by simp [CALL, SCB, SD, nsv, SD, nsv]) fun y2 g2 => ?_
    obtain ⟨u, q2⟩ := y2
    obtain ⟨b1, b2, b3⟩ := g2
    simp only at b1 b2 b3 ⊢
    simp (config := { maxSteps := 2000000 }) only [CALL, ↓VC, VP, TT, Nat.reduceEqDiff, reduceCtorEq, Nat.reduceAdd, Nat.reduceSub, Nat.reduceLT, Nat.reduceMul, Nat.reducePow, Nat.reduceLeDiff, Int.reduceToNat, Int.reduceLE, Int.reduceLT, Int.reducePow, GOB, GD, GD]
    rcases Nat.eq_zero_or_pos t.size with h0 | h0
    · obtain ⟨b4, b5⟩ := b2 h0
      subst b4
      exact ⟨(u, stepQ f l (stepQ f l q)), by simp only; rw [b5]; exact InvP_two hf hm hq, muP_two hf hq hv, [0, 1], by simp [-List.reduceReplicate, LES, sv_ren, sv_ok]⟩
    · have b4 := b3 (by omega)
      subst b4
      exact ⟨(u, stepQ f l (stepQ f l (stepQ f l (stepQ f l q)))), InvP_four hf hm hI hv b1, muP_four hf hq hv, [0, 1], by simp [-List.reduceReplicate, LES, sv_ren, sv_ok]⟩
  · exact ⟨_, _, [0], ⟨t, ht, rfl, rfl⟩, by simp [-List.reduceReplicate, LES]⟩
theorem d_ParseDigest (hc : l.length ≤ c) (hm : l.length ≤ 4096) : LC Tryz.prog 50 [.s 0 0 l.length c] [⟨false, bs l⟩] (Ret [⟨false, bs l⟩] (fun t : ByteArray => t.size ≤ 274877911200) fun t => (.c (.string t), [])) :=
  d_ParseDigestE (f := fun x => (6364136223846793005 * x + 1442695040888963407) % 18446744073709551616) (fun _ => rfl) hc hm
end
end Go.Proofs.YtahnjhppkgndiaaGreat

import Derived.Test.YtapagcnipdpfiaaVcgX
import Derived.Test.YtapagcnipdpfiaaEnv
import Derived.OwnWalkIn
import Derived.TacticsInMore
/- slices.Backward over halves: what its function value does, called with a loop's body. -/
set_option linter.unusedSimpArgs false
set_option linter.unusedVariables false
namespace Go.Proofs.Ytapagcnipdpfiaa
open Go Go.Vc Go.RowKit
set_option maxRecDepth 10000
set_option maxHeartbeats 4000000
theorem backward_in (n : Nat) (s : Option Addr) (k c : Nat) (w : World) : CallsIn Fence.wide n Try.prog 57 #[.slice s k c] w fun e w' => e = .returned (.func (.func 106) #[] #[.pointer (some ⟨w.heap.size, 0, none⟩)]) ∧ w' = w.alloc (.cells #[.slice s k c] 38) := by
  refine callsIn_of_wp Try.func57 rfl trivial ?_ rfl
  simp only [Try.ntmps57, List.size_toArray, List.length_cons, List.length_nil, Nat.reduceAdd, Nat.reduceSub, Array.replicate_succ, Array.replicate_zero, List.push_toArray, List.append_toArray, List.nil_append, List.cons_append]
  gi_wp2
  go_ret
  exact ⟨rfl, rfl⟩
/-- The half at a place; eight zeros behind the end. -/
def keyA (D : List UInt8) (x : Nat) : List UInt8 := ((D.drop (8 * x)) ++ List.replicate 8 0).take 8
theorem keyA_len (D : List UInt8) (x : Nat) : (keyA D x).length = 8 := by simp [keyA]
theorem keyA_at {D : List UInt8} {x q : Nat} (hD : D.length = 8 * q) (h : x < q) : keyA D x = (D.drop (8 * x)).take 8 := by
  unfold keyA
  rw [List.take_append_of_le_length (by rw [List.length_drop]; omega)]
/-- What a round is handed: the place, the half. -/
def encK (D : List UInt8) (x : Nat) : Array Value := #[.int .i64 x, .agg ((keyA D x).map fun u => Value.int .u8 (u.toNat : Nat)).toArray]
/-- The places that have come when j rounds are over. -/
def revU (q j : Nat) : List Nat := (List.range j).map fun t => q - 1 - t
theorem revU_succ (q j : Nat) : revU q (j + 1) = revU q j ++ [q - 1 - j] := by simp [revU, List.range_succ]
theorem revU_len (q j : Nat) : (revU q j).length = j := by simp [revU]
/-- The iterator's memory: the halves; the captured slice. -/
def hpI (D : List UInt8) (q cp : Nat) : List Blk := [⟨false, bs D⟩, ⟨false, [.s 0 0 q cp]⟩]
theorem hpI_ro {D : List UInt8} {q cp : Nat} : ∀ b ∈ hpI D q cp, b.own = false := by simp [hpI]
/-- Its temporaries at the head of the loop. -/
def tmI (l q j : Nat) : List V := [.c (.func (.yield l) #[] #[]), .p 1 0, .j, .c (.int .i64 ((q : Int) - 1 - (j : Int)))] ++ List.replicate 15 .j
/-- Behind the loop's test. -/
def tmH (l q j : Nat) : List V := [.c (.func (.yield l) #[] #[]), .p 1 0, .j, .c (.int .i64 ((q : Int) - 1 - (j : Int))), .j, .j, .j, .j, .c (.bool (decide (j < q)))] ++ List.replicate 10 .j
/-- Ahead of the call of the body. -/
def tmY (l : Nat) (D : List UInt8) (q cp j : Nat) : List V := [.c (.func (.yield l) #[] #[]), .p 1 0, .j, .c (.int .i64 ((q : Int) - 1 - (j : Int))), .j, .j, .j, .j, .j, .j, .j, .c (.func (.yield l) #[] #[]), .c (.int .i64 ((q - 1 - j : Nat))), .j, .j, .j, .a (bs (keyA D (q - 1 - j))), .j, .j]
/-- Behind the call. -/
def tmZ (l q j : Nat) (b : Bool) : List V := [.c (.func (.yield l) #[] #[]), .p 1 0, .j, .c (.int .i64 ((q : Int) - 1 - (j : Int))), .j, .j, .j, .j, .j, .j, .j, .j, .j, .j, .j, .j, .j, .j, .c (.bool (b))]
noncomputable abbrev X0 (m : Nat) : Cx := XX (fun _ => .nil) (fun _ => []) [] m
theorem back1_in (n l q cp Bs : Nat) (D : List UInt8) (hD : D.length = 8 * q) (hc : q ≤ cp) (hm : q ≤ 1048576) (ρ0 : Vc.Loc) (Mk : Nat → Prop) (hM : ∀ h, h < 2 → ¬ Mk (ρ0 h).1) (J Jx : List Nat → World → Prop) (hJ : ∀ s A B, J s A → Keep none' A B → J s B) (hJx : ∀ s A B, Jx s A → Keep none' A B → Jx s B)
    (hY : ∀ pre x W, J pre W → pre.length < q → YieldAt Fence.wide (n - 1) Try.prog l (encK D x) W fun e W' => (e = .returned (.bool true) ∧ J (pre ++ [x]) W' ∧ Keep Mk W W') ∨ (e = .returned (.bool false) ∧ Jx (pre ++ [x]) W'))
    (W : World) (hA : At none' W 2 ρ0 [] ([.c (.func (.yield l) #[] #[]), .p 1 0] ++ List.replicate 17 (.c undef)) (hpI D q cp) ⟨#[.func (.yield l) #[] #[], .pointer (some ⟨Bs, 0, none⟩)] ++ Array.replicate 17 undef, []⟩ W) (h0 : J [] W) :
    CallsIn Fence.wide n Try.prog 106 #[.func (.yield l) #[] #[], .pointer (some ⟨Bs, 0, none⟩)] W fun e W' => (∃ v, e = .returned v) ∧ ((∃ xs, xs = revU q q ∧ J xs W') ∨ (∃ pre, True ∧ Jx pre W')) := by
  refine callsIn_of_wp Try.func106 rfl trivial ?_ rfl
  simp only [Try.ntmps106]
  refine wpIn_seq (vcAll_in (mu := []) envOK (.inl rfl) rfl (tm2 := tmI l q 0) (hp2 := hpI D q cp) (M := none') (w0 := W) (N0 := 2) (ρ0 := ρ0) (D0 := []) ?_ hA fun a1 w1 hA1 => ?_)
  · refine kL_mk (X := X0 2) ?_
    simp only [X0, XX, ↓VC, VP, TT, List.getElem?_toArray, Nat.reduceEqDiff, reduceCtorEq, Nat.reduceAdd, Nat.reduceSub, Nat.reduceLT, Nat.reduceMul, Nat.reducePow, Nat.reduceLeDiff, Int.reduceToNat, Int.reduceLE, Int.reduceLT, Int.reducePow, hpI, List.replicate_succ, List.replicate_zero, List.cons_append, List.nil_append]
    refine ⟨[0, 1], ?_⟩
    rw [wrap_i64 (by omega) (by omega)]
    simp [-List.reduceReplicate, LES, tmI, List.replicate_succ]
  show (Code.block 0 _).wpIn Fence.wide n Try.prog _ a1 w1
  have hJ1 := hJ _ _ _ h0 hA1.keep
  replace hA1 := hA1.move (M' := none') hpI_ro rfl (Keep.refl none' w1) (fun _ _ h => h)
  clear hA h0
  refine wpIn_block (wpIn_loop (fun a w => ∃ j, j ≤ q ∧ At none' w 2 ρ0 [] (tmI l q j) (hpI D q cp) a w ∧ J (revU q j) w) (fun a w => (intOf (a.eval (.tmp 3)) + 1).toNat) ⟨0, by omega, hA1, hJ1⟩ ?_)
  clear hA1 hJ1 a1 w1 W
  rintro a w ⟨j, hj, hA, hJj⟩
  have hkl := keyA_len D (q - 1 - j)
  refine wpIn_seq (wpIn_seq (vcAll_in (mu := []) envOK (.inl rfl) rfl (tm2 := tmH l q j) (hp2 := hpI D q cp) ?_ hA fun a2 w2 hA2 => ?_))
  · refine kL_mk (X := X0 2) ?_
    simp only [X0, XX, ↓VC, VP, TT, List.getElem?_toArray, Nat.reduceEqDiff, reduceCtorEq, Nat.reduceAdd, Nat.reduceSub, Nat.reduceLT, Nat.reduceMul, Nat.reducePow, Nat.reduceLeDiff, Int.reduceToNat, Int.reduceLE, Int.reduceLT, Int.reducePow, hpI, tmI, List.replicate_succ, List.replicate_zero, List.cons_append, List.nil_append]
    refine ⟨[0, 1], ?_⟩
    rw [show decide (0 ≤ (q : Int) - 1 - (j : Int)) = decide (j < q) by rw [decide_eq_decide]; omega]
    simp [-List.reduceReplicate, LES, tmH, List.replicate_succ]
  have hJ2 := hJ _ _ _ hJj hA2.keep
  replace hA2 := hA2.move (M' := none') hpI_ro rfl (Keep.refl none' w2) (fun _ _ h => h)
  clear hJj
  refine wpIn_cond (t := decide (j < q)) (hA2.eval (by rfl)) ?_
  rcases Nat.lt_or_ge j q with h | h
  · rw [if_pos (by simpa using h)]
    refine wpIn_skip (wpIn_seq (wpIn_block (wpIn_seq (wpIn_region_lit (vcSplit_in (mu := []) envOK (.inl rfl) 6 rfl (tm2 := tmY l D q cp j) (hp2 := hpI D q cp) ?_ hA2 fun a3 w3 hA3 => ?_)))))
    · refine kL_mk (X := X0 2) ?_
      have e1 : (q : Int) - 1 - (j : Int) = ((q - 1 - j : Nat) : Int) := by omega
      simp only [X0, XX, ↓VC, VP, TT, List.getElem?_toArray, Nat.reduceEqDiff, reduceCtorEq, Nat.reduceAdd, Nat.reduceSub, Nat.reduceLT, Nat.reduceMul, Nat.reducePow, Nat.reduceLeDiff, Int.reduceToNat, Int.reduceLE, Int.reduceLT, Int.reducePow, hpI, tmH, List.replicate_succ, List.replicate_zero, List.cons_append, List.nil_append, List.take_succ_cons, List.take_zero, e1]
      refine ⟨by omega, by omega, [0, 1], ?_⟩
      rw [Nat.mul_comm (q - 1 - j) 8, ← keyA_at hD (show q - 1 - j < q by omega)]
      simp [-List.reduceReplicate, LES, tmY, e1, List.replicate_succ]
    · have hJ3 := hJ _ _ _ hJ2 hA3.keep
      replace hA3 := hA3.move (M' := none') hpI_ro rfl (Keep.refl none' w3) (fun _ _ h => h)
      clear hJ2 hA2
      have hx11 : a3.eval (.tmp 11) = .func (.yield l) #[] #[] := hA3.eval (by rfl)
      have hx12 : a3.eval (.tmp 12) = .int .i64 ((q - 1 - j : Nat) : Int) := hA3.eval (by rfl)
      have hx16 : a3.eval (.tmp 16) = .agg (((keyA D (q - 1 - j)).map fun u => Value.int .u8 (u.toNat : Nat)).toArray) := hA3.eval_bs (by rfl)
      obtain ⟨fn, tmps, assign, body, hy, hR⟩ := hY (revU q j) (q - 1 - j) w3 hJ3 (by rw [revU_len]; exact h)
      simp only [List.drop_succ_cons, List.drop_zero]
      refine wpListIn_plain rfl fun K hK => ⟨fun _ _ => trivial, ?_⟩
      have hy2 : Sem.run Try.prog (Instr.yield l #[.int .i64 ((q - 1 - j : Nat) : Int), .agg (((keyA D (q - 1 - j)).map fun u => Value.int .u8 (u.toNat : Nat)).toArray)]) w3 = Result.ok (Next.round l fn tmps assign body) w3 := hy
      have hrun : ∀ (dst : Option Tmp) ty pos af gd ts, Sem.run Try.prog (Oper.semAt Fence.wide.round a3.eval ⟨dst, .call ⟨.value (.tmp 11), #[.tmp 12, .tmp 16], ts⟩, ty, pos, af, gd⟩) w3 = Result.ok (Next.round l fn tmps assign body) w3 := fun dst ty pos af gd ts => by
        simp [Oper.semAt, Fence.wide, execOp, resolve, Deferred.ofValue, invoke, hx11, hx12, hx16, hy2]
      rw [hrun, Oper.uponIn_round]
      refine ⟨fun h => by simp [Fence.wide] at h, hR.mono ?_⟩
      rintro e W3 (⟨rfl, hJ4, hk4⟩ | ⟨rfl, hx4⟩)
      · have hA4 := (hA3.move (M' := none') hpI_ro rfl hk4 hM).put (some 17) (.bool true)
        refine hK _ _ ?_
        refine vcList_in envOK (.inl rfl) (mu := []) (rest := []) (k := fun tm hp => ∃ σ, LeS 2 σ tm hp (tmZ l q j false) (hpI D q cp)) (fun tm' hp' a' w' hk hA5 => ?_) [_] (calm_all rfl) _ _ _ _ ?_ hA4
        · obtain ⟨σ, hle⟩ := hk
          replace hA5 := hA5.le hle
          refine wpListIn_nil (wpIn_cond (t := false) (hA5.eval (by rfl)) ?_)
          rw [if_neg (by simp)]
          have hJ5 := hJ _ _ _ hJ4 hA5.keep
          refine wpIn_skip (vcAll_in (mu := []) envOK (.inl rfl) rfl (tm2 := tmI l q (j + 1)) (hp2 := hpI D q cp) ?_ hA5 fun a6 w6 hA6 => ?_)
          · refine kL_mk (X := X0 2) ?_
            simp only [X0, XX, ↓VC, VP, TT, List.getElem?_toArray, Nat.reduceEqDiff, reduceCtorEq, Nat.reduceAdd, Nat.reduceSub, Nat.reduceLT, Nat.reduceMul, Nat.reducePow, Nat.reduceLeDiff, Int.reduceToNat, Int.reduceLE, Int.reduceLT, Int.reducePow, hpI, tmZ]
            refine ⟨[0, 1], ?_⟩
            rw [wrap_i64 (by omega) (by omega), show (q : Int) - 1 - (j : Int) - 1 = (q : Int) - 1 - ((j + 1 : Nat) : Int) by omega]
            simp [-List.reduceReplicate, LES, tmI, List.replicate_succ]
          · have hJ6 := hJ _ _ _ hJ4 hA6.keep
            refine ⟨⟨j + 1, by omega, hA6.move (M' := none') hpI_ro rfl (Keep.refl none' w6) (fun _ _ h => h), by rw [revU_succ]; exact hJ6⟩, ?_⟩
            have m1 : a6.eval (.tmp 3) = .int .i64 ((q : Int) - 1 - ((j + 1 : Nat) : Int)) := hA6.eval (by rfl)
            have m2 : a.eval (.tmp 3) = .int .i64 ((q : Int) - 1 - (j : Int)) := hA.eval (by rfl)
            rw [m1, m2]
            simp only [intOf]
            omega
        · refine kL_mk (X := X0 2) ?_
          simp only [X0, XX, ↓VC, VP, TT, List.getElem?_toArray, Nat.reduceEqDiff, reduceCtorEq, Nat.reduceAdd, Nat.reduceSub, Nat.reduceLT, Nat.reduceMul, Nat.reducePow, Nat.reduceLeDiff, Int.reduceToNat, Int.reduceLE, Int.reduceLT, Int.reducePow, hpI, tmY, List.replicate_succ, List.replicate_zero, List.cons_append, List.nil_append, putV, List.set_cons_succ, List.set_cons_zero]
          refine ⟨[0, 1], ?_⟩
          simp [-List.reduceReplicate, LES, tmZ]
      · have hA4 := (hA3.forget (W' := W3) (ρ1 := ρ0)).put (some 17) (.bool false)
        refine hK _ _ ?_
        refine vcList_in envOK (.inl rfl) (mu := []) (rest := []) (k := fun tm hp => ∃ σ, LeS 0 σ tm hp (List.replicate 18 .j ++ [.c (.bool (true))]) []) (fun tm' hp' a' w' hk hA5 => ?_) [_] (calm_all rfl) _ _ _ _ ?_ hA4
        · obtain ⟨σ, hle⟩ := hk
          replace hA5 := hA5.le hle
          refine wpListIn_nil (wpIn_cond (t := true) (hA5.eval (by rfl)) ?_)
          rw [if_pos rfl]
          refine wpIn_ret ?_
          simp only [Exit.then, Exit.inBlock]
          exact bodyPost_ret (results_none rfl _ _ _) hA5.defers ⟨⟨_, rfl⟩, .inr ⟨_, trivial, hJx _ _ _ hx4 hA5.keep⟩⟩
        · refine kL_mk (X := X0 0) ?_
          simp only [X0, XX, ↓VC, VP, TT, List.getElem?_toArray, Nat.reduceEqDiff, reduceCtorEq, Nat.reduceAdd, Nat.reduceSub, Nat.reduceLT, Nat.reduceMul, Nat.reducePow, Nat.reduceLeDiff, Int.reduceToNat, Int.reduceLE, Int.reduceLT, Int.reducePow, tmY, List.length_cons, List.length_nil, List.replicate_succ, List.replicate_zero, List.cons_append, List.nil_append, putV, List.set_cons_succ, List.set_cons_zero]
          refine ⟨[], ?_⟩
          simp [-List.reduceReplicate, LES]
  · obtain rfl : j = q := by omega
    rw [if_neg (by simp)]
    refine wpIn_exit ?_
    simp only [Exit.then, Exit.inBlock, if_true]
    exact bodyPost_end (results_none rfl _ _ _) hA2.defers ⟨⟨_, rfl⟩, .inl ⟨_, rfl, hJ2⟩⟩
end Go.Proofs.Ytapagcnipdpfiaa

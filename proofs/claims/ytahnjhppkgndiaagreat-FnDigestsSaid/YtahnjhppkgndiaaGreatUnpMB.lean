import Derived.Test.YtahnjhppkgndiaaGreatPadM
import Derived.Laws.Strings
/- What was padded comes back, both ways. -/
set_option linter.unusedSimpArgs false
set_option linter.unusedVariables false
namespace Go.Proofs.YtahnjhppkgndiaaGreat
open Go Go.Vc
/-- The last place of a byte among the first i. -/
def lastF (l : List UInt8) (b : UInt8) : Nat → Int
  | 0 => -1
  | i + 1 => if l.getD i 0 = b then (i : Nat) else lastF l b i
set_option maxRecDepth 10000
theorem c_bytealg_LastIndexByte (l : List UInt8) (c : Nat) (b : UInt8) (hc : l.length ≤ c) (hm : l.length ≤ 4194304) : LC Tryz.prog 161 [.s 0 0 l.length c, .c (.int .u8 (b.toNat : Int))] [⟨false, bs l⟩] (fun v hp => v = .c (.int .i64 (lastF l b l.length)) ∧ hp = [⟨false, bs l⟩]) := by
  refine LC_of (X := XX (fun _ => .nil) (fun _ => []) [15, 71, 72, 73, 79, 80, 87, 90, 91, 93, 99, 119, 137, 176, 177, 203, 204, 212, 219] 1) envOK Tryz.func161 (by kernel_rfl) (by kernel_rfl) rfl (Nat.le_of_ble_eq_true (by kernel_rfl)) ?_
  simp only [kFun, Tryz.f161, List.length_nil, List.length_cons, Nat.sub_zero, Nat.reduceSub, Nat.reduceAdd, List.nil_append, List.cons_append, List.replicate_succ, List.replicate_zero]
  simp only [XX, ↓VC, VP, TT, Nat.reduceEqDiff, reduceCtorEq, Nat.reduceAdd, Nat.reduceSub, Nat.reduceLT, Nat.reduceMul, Nat.reducePow, Nat.reduceLeDiff, Int.reduceToNat, Int.reduceLE, Int.reduceLT, Int.reducePow]
  rw [wrap_i64 (by omega) (by omega)]
  refine kLoop_of (fun j : Nat => ([.s 0 0 l.length c, .c (.int .u8 (b.toNat : Int)), .j, .j, .j, .c (.int .i64 ((j : Int) - 1)), .j, .j, .j, .j, .j, .j, .j, .j, .j, .j, .j, .j, .j, .j], [⟨false, bs l⟩])) (fun j => j) (fun j => j ≤ l.length ∧ lastF l b l.length = lastF l b j) l.length ⟨by omega, rfl⟩ ⟨[0], by simp [-List.reduceReplicate, LES]⟩ ?_
  rintro j ⟨hj, he⟩
  simp only [↓VC, VP, TT, Nat.reduceEqDiff, reduceCtorEq, Nat.reduceAdd, Nat.reduceSub, Nat.reduceLT, Nat.reduceMul, Nat.reducePow, Nat.reduceLeDiff, Int.reduceToNat, Int.reduceLE, Int.reduceLT, Int.reducePow]
  refine ⟨fun h => ?_, fun h => ⟨_, _, [0], ⟨rfl, rfl⟩, ?_⟩⟩
  · obtain ⟨i, rfl⟩ : ∃ i, j = i + 1 := ⟨j - 1, by omega⟩
    have e1 : ((i + 1 : Nat) : Int) - 1 = (i : Nat) := by omega
    rw [e1, Int.toNat_natCast]
    refine ⟨by omega, by omega, by omega, fun ht => ⟨_, _, [0], ⟨rfl, rfl⟩, ?_⟩, fun hf => ⟨i, ⟨by omega, ?_⟩, by omega, [0], ?_⟩⟩
    · rw [beq_iff_eq] at ht
      rw [he, lastF, if_pos (by simpa using ht)]
      simp [-List.reduceReplicate, LES]
    · rw [he, lastF, if_neg (by simpa using hf)]
    · rw [wrap_i64 (by omega) (by omega)]
      simp [-List.reduceReplicate, LES]
  · obtain rfl : j = 0 := by omega
    rw [he]; simp [-List.reduceReplicate, LES, lastF]
theorem c_bytes_LastIndexByte (l : List UInt8) (c : Nat) (b : UInt8) (hc : l.length ≤ c) (hm : l.length ≤ 4194304) : LC Tryz.prog 107 [.s 0 0 l.length c, .c (.int .u8 (b.toNat : Int))] [⟨false, bs l⟩] (fun v hp => v = .c (.int .i64 (lastF l b l.length)) ∧ hp = [⟨false, bs l⟩]) := by
  refine LC_of (X := XX (fun _ => .nil) (fun _ => []) [15, 71, 72, 73, 79, 80, 87, 90, 91, 93, 99, 119, 137, 176, 177, 203, 204, 212, 219] 1) envOK Tryz.func107 (by kernel_rfl) (by kernel_rfl) rfl (Nat.le_of_ble_eq_true (by kernel_rfl)) ?_
  simp only [kFun, Tryz.f107, List.length_nil, List.length_cons, Nat.sub_zero, Nat.reduceSub, Nat.reduceAdd, List.nil_append, List.cons_append, List.replicate_succ, List.replicate_zero]
  simp only [XX, ↓VC, VP, TT, Nat.reduceEqDiff, reduceCtorEq, Nat.reduceAdd, Nat.reduceSub, Nat.reduceLT, Nat.reduceMul, Nat.reducePow, Nat.reduceLeDiff, Int.reduceToNat, Int.reduceLE, Int.reduceLT, Int.reducePow]
  refine kCall_val (c_bytealg_LastIndexByte l c b hc hm) (by rfl) [(0, 0)] (by simp [CALL]) (by simp [CALL, cellsAt]) (by simp [CALL]) (by simp [okL_bs]) ?_
  simp only [CALL, ↓VC, VP, TT, Nat.reduceEqDiff, reduceCtorEq, Nat.reduceAdd, Nat.reduceSub, Nat.reduceLT, Nat.reduceMul, Nat.reducePow, Nat.reduceLeDiff, Int.reduceToNat, Int.reduceLE, Int.reduceLT, Int.reducePow]
  refine ⟨_, _, [0], ⟨rfl, rfl⟩, ?_⟩
  simp [-List.reduceReplicate, LES]
theorem c_bytes_Equal (a b : List UInt8) (ca cb : Nat) (hca : a.length ≤ ca) (hcb : b.length ≤ cb) : LC Tryz.prog 108 [.s 0 0 a.length ca, .s 1 0 b.length cb] [⟨false, bs a⟩, ⟨false, bs b⟩] (fun v hp => v = .c (.bool (a == b)) ∧ hp = [⟨false, bs a⟩, ⟨false, bs b⟩]) := by
  refine LC_of (X := XX (fun _ => .nil) (fun _ => []) [15, 71, 72, 73, 79, 80, 87, 90, 91, 93, 99, 119, 137, 176, 177, 203, 204, 212, 219] 2) envOK Tryz.func108 (by kernel_rfl) (by kernel_rfl) rfl (Nat.le_of_ble_eq_true (by kernel_rfl)) ?_
  simp only [kFun, Tryz.f108, List.length_nil, List.length_cons, Nat.sub_zero, Nat.reduceSub, Nat.reduceAdd, List.nil_append, List.cons_append, List.replicate_succ, List.replicate_zero]
  simp only [XX, ↓VC, VP, TT, Nat.reduceEqDiff, reduceCtorEq, Nat.reduceAdd, Nat.reduceSub, Nat.reduceLT, Nat.reduceMul, Nat.reducePow, Nat.reduceLeDiff, Int.reduceToNat, Int.reduceLE, Int.reduceLT, Int.reducePow]
  refine ⟨a, rfl, .inr rfl, b, rfl, .inr rfl, _, _, [0, 1], ⟨rfl, rfl⟩, ?_⟩
  rw [ByteArray.toList_mk, ByteArray.toList_mk]
  simp [-List.reduceReplicate, LES]
/-- Where the reference stops: the last place in the last block that is not 0. -/
structure StopAt (l : List UInt8) (p : Nat) : Prop where
  lt : p < l.length
  near : l.length ≤ p + 16
  zeros : ∀ k, p < k → k < l.length → l.getD k 0 = 0
theorem StopAt.next {l : List UInt8} {p : Nat} (h : StopAt l (p + 1)) (hn : l.length < p + 1 + 16) (h0 : l.getD (p + 1) 0 = 0) : StopAt l p :=
  ⟨by have := h.lt; omega, by omega, fun k hk hkl => by
    rcases Nat.eq_or_lt_of_le hk with e | e
    · rw [← e]; exact h0
    · exact h.zeros k e hkl⟩
theorem lastF_range (l : List UInt8) (b : UInt8) : ∀ i, -1 ≤ lastF l b i ∧ lastF l b i < i
  | 0 => by simp [lastF]
  | i + 1 => by
    have := lastF_range l b i
    unfold lastF
    split <;> omega
theorem lastF_neg {l : List UInt8} {b : UInt8} : ∀ {i : Nat}, lastF l b i < 0 → ∀ k, k < i → l.getD k 0 ≠ b
  | 0, _, k, hk => by omega
  | i + 1, h, k, hk => by
    unfold lastF at h
    split at h
    · omega
    · rename_i hne
      rcases Nat.eq_or_lt_of_le (Nat.le_of_lt_succ hk) with e | e
      · rw [e]; exact hne
      · exact lastF_neg h k e
theorem lastF_pos {l : List UInt8} {b : UInt8} : ∀ {i e : Nat}, lastF l b i = e → l.getD e 0 = b ∧ ∀ k, e < k → k < i → l.getD k 0 ≠ b
  | 0, e, h => by simp [lastF] at h
  | i + 1, e, h => by
    unfold lastF at h
    split at h
    · rename_i hb
      have : i = e := by omega
      subst this
      exact ⟨hb, fun k h1 h2 => by omega⟩
    · rename_i hne
      obtain ⟨h1, h2⟩ := lastF_pos h
      refine ⟨h1, fun k hk hki => ?_⟩
      rcases Nat.eq_or_lt_of_le (Nat.le_of_lt_succ hki) with e' | e'
      · rw [e']; exact hne
      · exact h2 k hk e'
end Go.Proofs.YtahnjhppkgndiaaGreat
/- What was padded as a message comes back, both ways: the plain facts and the helpers. -/
set_option linter.unusedSimpArgs false
set_option linter.unusedVariables false
namespace Go.Proofs.YtahnjhppkgndiaaGreat
open Go Go.Vc
theorem padM_get1 (t : List UInt8) : (padM t).getD t.length 0 = 128 := by simp [padM, padMA, List.getD]
theorem padM_get0 (t : List UInt8) {k : Nat} (h : t.length < k) (h2 : k < t.length + 1 + mz t) : (padM t).getD k 0 = 0 := by
  simp only [padM, List.getD]
  rw [List.getElem?_append_left (by rw [padMA_len]; omega), padMA, List.getElem?_append_right (by omega)]
  obtain ⟨m, rfl⟩ : ∃ m, k = t.length + 1 + m := ⟨k - t.length - 1, by omega⟩
  rw [show t.length + 1 + m - t.length = m + 1 by omega, List.getElem?_cons_succ, List.getElem?_replicate]
  split <;> rfl
theorem padM_take (t : List UInt8) : (padM t).take t.length = t := by simp [padM, padMA]
theorem padM_inj {t u : List UInt8} (h : padM t = padM u) : t = u := by
  have key : ∀ {t u : List UInt8}, padM t = padM u → ¬ t.length < u.length := fun {t u} h hlt => by
    have h1 := padM_get1 u
    have h2 : (padM t).length = (padM u).length := by rw [h]
    rw [padM_len, padM_len] at h2
    rw [← h, padM_get0 t hlt (by omega)] at h1
    cases h1
  have hl : t.length = u.length := by have := key h; have := key h.symm; omega
  rw [← padM_take t, h, hl, padM_take]
noncomputable def unpM (l : List UInt8) : Option (List UInt8) := open Classical in if h : ∃ t, padM t = l ∧ t.length ≤ 2000 then some h.choose else none
theorem unpM_some {l t : List UInt8} (h : padM t = l) (h2 : t.length ≤ 2000) : unpM l = some t := by
  have hex : ∃ t, padM t = l ∧ t.length ≤ 2000 := ⟨t, h, h2⟩
  unfold unpM
  rw [dif_pos hex]
  have := hex.choose_spec.1
  rw [padM_inj (this.trans h.symm)]
theorem unpM_none {l : List UInt8} (h : ∀ t, padM t = l → t.length ≤ 2000 → False) : unpM l = none := by
  unfold unpM
  rw [dif_neg]
  rintro ⟨t, h1, h2⟩; exact h t h1 h2
theorem unpM_len {l t : List UInt8} (h : unpM l = some t) : t.length ≤ 2000 := by
  unfold unpM at h
  split at h
  · rename_i hx; cases h; exact hx.choose_spec.2
  · cases h
theorem padM_len16 (t : List UInt8) : (padM t).length % 16 = 0 ∧ 16 ≤ (padM t).length := by
  rw [padM_len]; unfold mz; omega
theorem unpM_len16 {l : List UInt8} (h : l.length = 0 ∨ l.length % 16 ≠ 0) : unpM l = none := by
  refine unpM_none fun t ht _ => ?_
  have := padM_len16 t
  rw [ht] at this; omega
/-- The number in the first j of the last eight bytes. -/
def valA (l : List UInt8) : Nat → Nat
  | 0 => 0
  | j + 1 => valA l j * 256 + (l.getD (l.length - 8 + j) 0).toNat
theorem padM_tail (t : List UInt8) {j : Nat} (hj : j < 8) (hn : t.length < 4294967296) : ((padM t).getD ((padM t).length - 8 + j) 0).toNat = t.length / 256 ^ (7 - j) % 256 := by
  have h1 : (padM t).length - 8 + j = (padMA t (mz t)).length + j := by rw [padM_len, padMA_len]; omega
  rw [h1]
  simp only [padM, List.getD]
  rw [List.getElem?_append_right (by omega), Nat.add_sub_cancel_left]
  simp only [beA, List.getElem?_map, List.getElem?_range hj, Option.map_some, Option.getD_some]
  have e : (t.length : Int).fdiv (2 ^ (8 * (7 - j))) = ((t.length / 256 ^ (7 - j) : Nat) : Int) := by
    rw [Int.fdiv_eq_ediv_of_nonneg _ (Int.le_of_lt (Int.pow_pos (by omega))), Int.pow_mul]; norm_cast
  rw [e]
  have := toNat_ofInt ((t.length / 256 ^ (7 - j) : Nat) : Int)
  omega
theorem valA_padM (t : List UInt8) (hn : t.length < 4294967296) : ∀ j, j ≤ 8 → valA (padM t) j = t.length / 256 ^ (8 - j)
  | 0, _ => by
    rw [valA, Nat.div_eq_of_lt]
    exact Nat.lt_of_lt_of_le hn (by decide)
  | j + 1, h => by
    rw [valA, valA_padM t hn j (by omega), padM_tail t (by omega) hn, show 8 - j = (7 - j) + 1 by omega, Nat.pow_succ, ← Nat.div_div_eq_div_mul, show 8 - (j + 1) = 7 - j by omega]
    generalize t.length / 256 ^ (7 - j) = q
    omega
theorem unpM_big {l : List UInt8} {j : Nat} (hj : j ≤ 8) (h : l.length < valA l j) : unpM l = none := by
  refine unpM_none fun t ht ht2 => ?_
  have h1 := valA_padM t (by omega) j hj
  rw [ht] at h1
  have h2 : t.length / 256 ^ (8 - j) ≤ t.length := Nat.div_le_self _ _
  have h3 := padM_len t
  rw [ht] at h3
  omega
theorem unpM_val {l : List UInt8} (hn : valA l 8 ≤ l.length) : unpM l = if padM (l.take (valA l 8)) = l ∧ valA l 8 ≤ 2000 then some (l.take (valA l 8)) else none := by
  have hlen : (l.take (valA l 8)).length = valA l 8 := by rw [List.length_take]; omega
  split
  · rename_i hh
    exact unpM_some hh.1 (by omega)
  · rename_i hh
    refine unpM_none fun t ht ht2 => ?_
    have h1 := valA_padM t (by omega) 8 (by omega)
    rw [ht] at h1
    simp at h1
    have h3 : l.take (valA l 8) = t := by rw [h1, ← ht, padM_take]
    exact hh ⟨by rw [h3, ht], by omega⟩
theorem unpM_last_neg {l : List UInt8} (h : lastF l 128 (l.length - 8) < 0) : unpM l = none := by
  refine unpM_none fun t ht _ => ?_
  have hl := padM_len t
  rw [ht] at hl
  exact lastF_neg h t.length (by omega) (by rw [← ht]; exact padM_get1 t)
theorem unpM_last {l : List UInt8} {e : Nat} (h : lastF l 128 (l.length - 8) = e) : unpM l = if padM (l.take e) = l ∧ e ≤ 2000 then some (l.take e) else none := by
  have hr := (lastF_range l 128 (l.length - 8)).2
  have hlen : (l.take e).length = e := by rw [List.length_take]; omega
  split
  · rename_i hh
    exact unpM_some hh.1 (by omega)
  · rename_i hh
    refine unpM_none fun t ht ht2 => ?_
    obtain ⟨h1, h2⟩ := lastF_pos h
    have hl := padM_len t
    rw [ht] at hl
    have g1 : l.getD t.length 0 = 128 := by rw [← ht]; exact padM_get1 t
    have : t.length = e := by
      rcases Nat.lt_trichotomy t.length e with q | q | q
      · have : l.getD e 0 = 0 := by rw [← ht]; exact padM_get0 t q (by omega)
        rw [this] at h1; cases h1
      · exact q
      · exact absurd g1 (h2 _ q (by omega))
    have ht3 : l.take e = t := by rw [← this, ← ht, padM_take]
    exact hh ⟨by rw [ht3, ht], by omega⟩
theorem lastF_take {l : List UInt8} {b : UInt8} {m : Nat} : ∀ {i : Nat}, i ≤ m → lastF (l.take m) b i = lastF l b i
  | 0, _ => rfl
  | i + 1, h => by
    have e : (l.take m).getD i 0 = l.getD i 0 := by simp only [List.getD, List.getElem?_take, if_pos (show i < m by omega)]
    rw [lastF, lastF, lastF_take (by omega), e]
end Go.Proofs.YtahnjhppkgndiaaGreat
/- 'UnpadMessage', both ways: the same data, or none. -/
set_option linter.unusedSimpArgs false
set_option linter.unusedVariables false
namespace Go.Proofs.YtahnjhppkgndiaaGreat
open Go Go.Vc
noncomputable def unpadMR (l : List UInt8) : Except Int (List UInt8) := if l.length ≤ 2024 then (match unpM l with | some t => .ok t | none => .error 4) else .error 2
theorem unpadMR_2 {l : List UInt8} (h : ¬ l.length ≤ 2024) : unpadMR l = .error 2 := by unfold unpadMR; rw [if_neg h]
theorem unpadMR_4 {l : List UInt8} (h : l.length ≤ 2024) (h2 : unpM l = none) : unpadMR l = .error 4 := by unfold unpadMR; rw [if_pos h, h2]
theorem unpadMR_ok {l t : List UInt8} (h : l.length ≤ 2024) (h2 : unpM l = some t) : unpadMR l = .ok t := by unfold unpadMR; rw [if_pos h, h2]
set_option maxRecDepth 10000
theorem c_spec_l01Alike (a b : List UInt8) (ca cb : Nat) (hca : a.length ≤ ca) (hcb : b.length ≤ cb) (hm : a.length ≤ 4194304) : LC Tryz.prog 112 [.s 0 0 a.length ca, .s 1 0 b.length cb] [⟨false, bs a⟩, ⟨false, bs b⟩] (fun v hp => v = .c (.bool (a == b)) ∧ hp = [⟨false, bs a⟩, ⟨false, bs b⟩]) := by
  refine LC_of (X := XX (fun | 6 => .one 0 (.one 1 (.one 2 (.one 3 (.one 4 (.one 5 (.one 6 (.one 7 (.one 8 .nil)))))))) | _ => .nil) (fun _ => []) [15, 71, 72, 73, 79, 80, 87, 90, 91, 93, 99, 119, 137, 176, 177, 203, 204, 212, 219] 2) envOK Tryz.func112 (by kernel_rfl) (by kernel_rfl) rfl (Nat.le_of_ble_eq_true (by kernel_rfl)) ?_
  simp only [kFun, Tryz.f112, List.length_nil, List.length_cons, Nat.sub_zero, Nat.reduceSub, Nat.reduceAdd, List.nil_append, List.cons_append, List.replicate_succ, List.replicate_zero]
  simp only [XX, ↓VC, VP, TT, Nat.reduceEqDiff, reduceCtorEq, Nat.reduceAdd, Nat.reduceSub, Nat.reduceLT, Nat.reduceMul, Nat.reducePow, Nat.reduceLeDiff, Int.reduceToNat, Int.reduceLE, Int.reduceLT, Int.reducePow]
  refine ⟨fun h => ⟨_, _, [0, 1], ⟨rfl, rfl⟩, ?_⟩, fun h => ?_⟩
  · rw [bne_iff_ne] at h
    have : (a == b) = false := by rw [beq_eq_false_iff_ne]; intro e; exact h (by rw [e])
    rw [this]; simp [-List.reduceReplicate, LES]
  · have hab : b.length = a.length := by have := bne_eq_false_iff_eq.1 h; omega
    refine kLoop_of (fun i : Nat => ([.s 0 0 a.length ca, .s 1 0 b.length cb, .j, .j, .j, .c (.int .i64 (i : Nat)), .j, .j, .j, .j, .j, .j, .j, .j, .j, .j, .j, .j, .j, .j, .j, .j, .j, .j, .j, .j], [⟨false, bs a⟩, ⟨false, bs b⟩])) (fun i => a.length - i) (fun i => i ≤ a.length ∧ a.take i = b.take i) 0 (by simp) ⟨[0, 1], by simp [-List.reduceReplicate, LES]⟩ ?_
    rintro i ⟨hi, ht⟩
    simp only [↓VC, VP, TT, Nat.reduceEqDiff, reduceCtorEq, Nat.reduceAdd, Nat.reduceSub, Nat.reduceLT, Nat.reduceMul, Nat.reducePow, Nat.reduceLeDiff, Int.reduceToNat, Int.reduceLE, Int.reduceLT, Int.reducePow, hab]
    refine ⟨fun h => ⟨by omega, by omega, by omega, by omega, fun hne => ⟨_, _, [0, 1], ⟨rfl, rfl⟩, ?_⟩, fun he => ⟨i + 1, ⟨by omega, take_succ_eqB (by omega) (by omega) ht ?_⟩, by omega, [0, 1], ?_⟩⟩, fun h => ⟨_, _, [0, 1], ⟨rfl, rfl⟩, ?_⟩⟩
    · rw [bne_iff_ne] at hne
      have : (a == b) = false := by rw [beq_eq_false_iff_ne]; intro e; exact hne (by rw [e])
      rw [this]; simp [-List.reduceReplicate, LES]
    · exact UInt8.toNat_inj.1 (by have := bne_eq_false_iff_eq.1 he; omega)
    · rw [wrap_i64 (by omega) (by omega)]
      simp [-List.reduceReplicate, LES, hab]
    · obtain rfl : i = a.length := by omega
      rw [List.take_of_length_le (by omega), List.take_of_length_le (by omega)] at ht
      subst ht
      simp [-List.reduceReplicate, LES]
theorem c_spec_UnpadMessage (l : List UInt8) (c : Nat) (hc : l.length ≤ c) : LC Tryz.prog 43 [.s 0 0 l.length c] [⟨false, bs l⟩] (Ret [⟨false, bs l⟩] (fun _ : Nat => True) (outV (unpadMR l))) := by
  refine LC_of (X := XX (fun _ => .nil) (fun _ => []) [15, 71, 72, 73, 79, 80, 87, 90, 91, 93, 99, 119, 137, 176, 177, 203, 204, 212, 219] 1) envOK Tryz.func43 (by kernel_rfl) (by kernel_rfl) rfl (Nat.le_of_ble_eq_true (by kernel_rfl)) ?_
  simp only [kFun, Tryz.f43, List.length_nil, List.length_cons, Nat.sub_zero, Nat.reduceSub, Nat.reduceAdd, List.nil_append, List.cons_append, List.replicate_succ, List.replicate_zero]
  simp only [XX, ↓VC, VP, TT, Nat.reduceEqDiff, reduceCtorEq, Nat.reduceAdd, Nat.reduceSub, Nat.reduceLT, Nat.reduceMul, Nat.reducePow, Nat.reduceLeDiff, Int.reduceToNat, Int.reduceLE, Int.reduceLT, Int.reducePow]
  refine ⟨fun h => ⟨_, _, [0], ⟨0, trivial, rfl, rfl⟩, ?_⟩, fun h => ?_⟩
  · rw [unpadMR_2 (by omega)]
    simp [-List.reduceReplicate, LES, outV]
  · have e16 : (l.length : Int).tmod 16 = ((l.length % 16 : Nat) : Int) := by rw [Int.tmod_eq_emod_of_nonneg (by omega)]; omega
    rw [e16]
    refine ⟨by omega, ?_⟩
    refine kGd_split rfl (fun h1 => ?_) (fun h1 => ?_)
    · rw [bne_iff_ne] at h1
      simp only [↓VC, VP, TT, Nat.reduceEqDiff, reduceCtorEq, Nat.reduceAdd, Nat.reduceSub, Nat.reduceLT, Nat.reduceMul, Nat.reducePow, Nat.reduceLeDiff, Int.reduceToNat, Int.reduceLE, Int.reduceLT, Int.reducePow]
      refine ⟨_, _, [0], ⟨0, trivial, rfl, rfl⟩, ?_⟩
      rw [unpadMR_4 (by omega) (unpM_len16 (.inr (by omega)))]
      simp [-List.reduceReplicate, LES, outV]
    · have h16 := bne_eq_false_iff_eq.1 h1
      simp only [↓VC, VP, TT, Nat.reduceEqDiff, reduceCtorEq, Nat.reduceAdd, Nat.reduceSub, Nat.reduceLT, Nat.reduceMul, Nat.reducePow, Nat.reduceLeDiff, Int.reduceToNat, Int.reduceLE, Int.reduceLT, Int.reducePow]
      refine ⟨fun h2 => ⟨_, _, [0], ⟨0, trivial, rfl, rfl⟩, ?_⟩, fun h2 => ?_⟩
      · rw [beq_iff_eq] at h2
        rw [unpadMR_4 (by omega) (unpM_len16 (.inl (by omega)))]
        simp [-List.reduceReplicate, LES, outV]
      · rw [beq_eq_false_iff_ne] at h2
        have h3 : 16 ≤ l.length := by omega
        rw [wrap_i64 (by omega) (by omega)]
        refine kLoop_of (fun j : Nat => ([.s 0 0 l.length c, .j, .j, .j, .c (.int .i64 (valA l j : Nat)), .c (.int .i64 ((l.length - 8 + j : Nat) : Int)), .j, .j, .j, .j, .j, .j, .j, .j, .j, .j, .j, .j, .j, .j, .j, .j, .j, .j, .j, .j, .j, .j, .j, .j, .j, .j, .j, .j, .j, .j, .j, .j, .j, .j, .j, .j, .j, .j, .j, .j, .j, .j, .j, .j, .j, .j, .j, .j], [⟨false, bs l⟩])) (fun j => 8 - j) (fun j => j ≤ 8 ∧ valA l j ≤ l.length) 0 ⟨by omega, by simp [valA]⟩ ⟨[0], by simp [-List.reduceReplicate, LES, valA]; omega⟩ ?_
        rintro j ⟨hj, hv⟩
        simp only [↓VC, VP, TT, Nat.reduceEqDiff, reduceCtorEq, Nat.reduceAdd, Nat.reduceSub, Nat.reduceLT, Nat.reduceMul, Nat.reducePow, Nat.reduceLeDiff, Int.reduceToNat, Int.reduceLE, Int.reduceLT, Int.reducePow]
        have hu := (l.getD (l.length - 8 + j) 0).toNat_lt
        refine ⟨fun h4 => ⟨by omega, by omega, ?_⟩, fun h4 => ?_⟩
        · have en : IntKind.i64.wrap (IntKind.i64.wrap ((valA l j : Int) * 256) + IntKind.i64.wrap (((l.getD (l.length - 8 + j) 0).toNat : Nat) : Int)) = ((valA l (j + 1) : Nat) : Int) := by
            rw [wrap_i64 (n := (valA l j : Int) * 256) (by omega) (by omega), wrap_i64 (n := (((l.getD (l.length - 8 + j) 0).toNat : Nat) : Int)) (by omega) (by omega), wrap_i64 (by omega) (by omega), valA]; omega
          rw [en]
          refine ⟨fun h5 => ⟨_, _, [0], ⟨0, trivial, rfl, rfl⟩, ?_⟩, fun h5 => ⟨j + 1, ⟨by omega, by omega⟩, by omega, [0], ?_⟩⟩
          · rw [unpadMR_4 (by omega) (unpM_big (j := j + 1) (by omega) (by omega))]
            simp [-List.reduceReplicate, LES, outV]
          · rw [wrap_i64 (by omega) (by omega), show ((l.length - 8 + j : Nat) : Int) + 1 = ((l.length - 8 + (j + 1) : Nat) : Int) by omega]
            simp [-List.reduceReplicate, LES]
        · obtain rfl : j = 8 := by omega
          have hval := unpM_val hv
          generalize valA l 8 = n at hv hval ⊢
          have hlt : (l.take n).length = n := by rw [List.length_take]; omega
          refine kGd_split rfl (fun h5 => ?_) (fun h5 => ?_)
          · simp only [decide_eq_true_eq] at h5
            simp only [↓VC, VP, TT, Nat.reduceEqDiff, reduceCtorEq, Nat.reduceAdd, Nat.reduceSub, Nat.reduceLT, Nat.reduceMul, Nat.reducePow, Nat.reduceLeDiff, Int.reduceToNat, Int.reduceLE, Int.reduceLT, Int.reducePow]
            refine ⟨_, _, [0], ⟨0, trivial, rfl, rfl⟩, ?_⟩
            rw [unpadMR_4 (by omega) (by rw [hval, if_neg (by omega)])]
            simp [-List.reduceReplicate, LES, outV]
          · simp only [decide_eq_false_iff_not] at h5
            simp only [↓VC, VP, TT, Nat.reduceEqDiff, reduceCtorEq, Nat.reduceAdd, Nat.reduceSub, Nat.reduceLT, Nat.reduceMul, Nat.reducePow, Nat.reduceLeDiff, Int.reduceToNat, Int.reduceLE, Int.reduceLT, Int.reducePow, Nat.sub_zero]
            refine ⟨by omega, ?_⟩
            refine kCall_Ret (c_spec_l08Pad (l.take n) c (by omega) (by omega)) (by rfl) [(0, 0)] (by simp [CALL, hlt]) (by simp [CALL, cellsAt, bs_take, bs_length, hlt]) (by simp [CALL]) (by simp [okL_bs]) (by simp) fun r _ => ?_
            simp only [CALL, ↓VC, VP, TT, Nat.reduceEqDiff, reduceCtorEq, Nat.reduceAdd, Nat.reduceSub, Nat.reduceLT, Nat.reduceMul, Nat.reducePow, Nat.reduceLeDiff, Int.reduceToNat, Int.reduceLE, Int.reduceLT, Int.reducePow, instL_room]
            have hpl := padM_len (l.take n)
            have hmz := mz_lt (l.take n)
            refine kCall_val (c_spec_l01Alike (padM (l.take n)) l ((padM (l.take n)).length + r) c (by omega) hc (by omega)) (by rfl) [(1, 0), (0, 0)] (by simp [CALL]) (by simp [CALL, cellsAt, take_room]) (by simp [CALL]) (by simp [okL_bs]) ?_
            simp only [CALL, ↓VC, VP, TT, Nat.reduceEqDiff, reduceCtorEq, Nat.reduceAdd, Nat.reduceSub, Nat.reduceLT, Nat.reduceMul, Nat.reducePow, Nat.reduceLeDiff, Int.reduceToNat, Int.reduceLE, Int.reduceLT, Int.reducePow, Nat.sub_zero]
            refine ⟨fun h6 => ⟨_, _, [0], ⟨0, trivial, rfl, rfl⟩, ?_⟩, fun h6 => ⟨by omega, ?_⟩⟩
            · rw [unpadMR_4 (by omega) (by rw [hval, if_neg (fun hh => by rw [hh.1] at h6; simp at h6)])]
              simp [-List.reduceReplicate, LES, outV]
            · have hp : padM (l.take n) = l := by simpa using h6
              refine kCall_Ret (c_spec_l01Copy (l.take n) c (by omega) (by omega)) (by rfl) [(0, 0)] (by simp [CALL, hlt]) (by simp [CALL, cellsAt, bs_take, bs_length, hlt]) (by simp [CALL]) (by simp [okL_bs]) (by simp) fun r _ => ?_
              simp only [CALL, ↓VC, VP, TT, Nat.reduceEqDiff, reduceCtorEq, Nat.reduceAdd, Nat.reduceSub, Nat.reduceLT, Nat.reduceMul, Nat.reducePow, Nat.reduceLeDiff, Int.reduceToNat, Int.reduceLE, Int.reduceLT, Int.reducePow, instL_room]
              refine ⟨_, _, [0, 2], ⟨r, trivial, rfl, rfl⟩, ?_⟩
              rw [unpadMR_ok (by omega) (by rw [hval, if_pos ⟨hp, by omega⟩])]
              simp [-List.reduceReplicate, LES, outV, hlt]
theorem c_impl_UnpadMessage (l : List UInt8) (c : Nat) (hc : l.length ≤ c) : LC Tryz.prog 39 [.s 0 0 l.length c] [⟨false, bs l⟩] (Ret [⟨false, bs l⟩] (fun _ : Nat => True) (outV (unpadMR l))) := by
  refine LC_of (X := XX (fun _ => .nil) (fun _ => []) [15, 71, 72, 73, 79, 80, 87, 90, 91, 93, 99, 119, 137, 176, 177, 203, 204, 212, 219] 1) envOK Tryz.func39 (by kernel_rfl) (by kernel_rfl) rfl (Nat.le_of_ble_eq_true (by kernel_rfl)) ?_
  simp only [kFun, Tryz.f39, List.length_nil, List.length_cons, Nat.sub_zero, Nat.reduceSub, Nat.reduceAdd, List.nil_append, List.cons_append, List.replicate_succ, List.replicate_zero]
  simp only [XX, ↓VC, VP, TT, Nat.reduceEqDiff, reduceCtorEq, Nat.reduceAdd, Nat.reduceSub, Nat.reduceLT, Nat.reduceMul, Nat.reducePow, Nat.reduceLeDiff, Int.reduceToNat, Int.reduceLE, Int.reduceLT, Int.reducePow]
  refine ⟨fun h => ⟨_, _, [0], ⟨0, trivial, rfl, rfl⟩, ?_⟩, fun h => ?_⟩
  · rw [unpadMR_2 (by omega)]
    simp [-List.reduceReplicate, LES, outV]
  · have e8 : max 0 (IntKind.i64.wrap ((l.length : Int) - 8)) = ((l.length - 8 : Nat) : Int) := by rw [wrap_i64 (by omega) (by omega)]; omega
    rw [e8]
    have hlt : (l.take (l.length - 8)).length = l.length - 8 := by rw [List.length_take]; omega
    simp only [Int.toNat_natCast, Nat.sub_zero]
    refine ⟨by omega, by omega, ?_⟩
    refine kCall_val (c_bytes_LastIndexByte (l.take (l.length - 8)) c 128 (by omega) (by omega)) (by rfl) [(0, 0)] (by simp [CALL, hlt]) (by simp [CALL, cellsAt, bs_take, bs_length, hlt]) (by simp [CALL]) (by simp [okL_bs]) ?_
    simp only [CALL, ↓VC, VP, TT, Nat.reduceEqDiff, reduceCtorEq, Nat.reduceAdd, Nat.reduceSub, Nat.reduceLT, Nat.reduceMul, Nat.reducePow, Nat.reduceLeDiff, Int.reduceToNat, Int.reduceLE, Int.reduceLT, Int.reducePow]
    rw [hlt, lastF_take (Nat.le_refl _)]
    have hr := lastF_range l 128 (l.length - 8)
    refine kGd_split rfl (fun h1 => ?_) (fun h1 => ?_)
    · simp only [decide_eq_true_eq] at h1
      simp only [↓VC, VP, TT, Nat.reduceEqDiff, reduceCtorEq, Nat.reduceAdd, Nat.reduceSub, Nat.reduceLT, Nat.reduceMul, Nat.reducePow, Nat.reduceLeDiff, Int.reduceToNat, Int.reduceLE, Int.reduceLT, Int.reducePow]
      refine ⟨_, _, [0], ⟨0, trivial, rfl, rfl⟩, ?_⟩
      rw [unpadMR_4 (by omega) (unpM_last_neg h1)]
      simp [-List.reduceReplicate, LES, outV]
    · simp only [decide_eq_false_iff_not] at h1
      obtain ⟨n, hn⟩ : ∃ n : Nat, lastF l 128 (l.length - 8) = n := ⟨(lastF l 128 (l.length - 8)).toNat, by omega⟩
      have hval := unpM_last hn
      have hlt : (l.take n).length = n := by rw [List.length_take]; omega
      simp only [↓VC, VP, TT, Nat.reduceEqDiff, reduceCtorEq, Nat.reduceAdd, Nat.reduceSub, Nat.reduceLT, Nat.reduceMul, Nat.reducePow, Nat.reduceLeDiff, Int.reduceToNat, Int.reduceLE, Int.reduceLT, Int.reducePow, hn]
      refine kGd_split rfl (fun h5 => ?_) (fun h5 => ?_)
      · simp only [decide_eq_true_eq] at h5
        simp only [↓VC, VP, TT, Nat.reduceEqDiff, reduceCtorEq, Nat.reduceAdd, Nat.reduceSub, Nat.reduceLT, Nat.reduceMul, Nat.reducePow, Nat.reduceLeDiff, Int.reduceToNat, Int.reduceLE, Int.reduceLT, Int.reducePow]
        refine ⟨_, _, [0], ⟨0, trivial, rfl, rfl⟩, ?_⟩
        rw [unpadMR_4 (by omega) (by rw [hval, if_neg (by omega)])]
        simp [-List.reduceReplicate, LES, outV]
      · simp only [decide_eq_false_iff_not] at h5
        simp only [↓VC, VP, TT, Nat.reduceEqDiff, reduceCtorEq, Nat.reduceAdd, Nat.reduceSub, Nat.reduceLT, Nat.reduceMul, Nat.reducePow, Nat.reduceLeDiff, Int.reduceToNat, Int.reduceLE, Int.reduceLT, Int.reducePow, Nat.sub_zero]
        refine ⟨by omega, ?_⟩
        refine kCall_Ret (c_impl_padMessage (l.take n) c (by omega) (by omega)) (by rfl) [(0, 0)] (by simp [CALL, hlt]) (by simp [CALL, cellsAt, bs_take, bs_length, hlt]) (by simp [CALL]) (by simp [okL_bs]) (by simp) fun r _ => ?_
        simp only [CALL, ↓VC, VP, TT, Nat.reduceEqDiff, reduceCtorEq, Nat.reduceAdd, Nat.reduceSub, Nat.reduceLT, Nat.reduceMul, Nat.reducePow, Nat.reduceLeDiff, Int.reduceToNat, Int.reduceLE, Int.reduceLT, Int.reducePow, instL_room]
        refine kCall_val (c_bytes_Equal (padM (l.take n)) l ((padM (l.take n)).length + r) c (by omega) hc) (by rfl) [(1, 0), (0, 0)] (by simp [CALL]) (by simp [CALL, cellsAt, take_room]) (by simp [CALL]) (by simp [okL_bs]) ?_
        simp only [CALL, ↓VC, VP, TT, Nat.reduceEqDiff, reduceCtorEq, Nat.reduceAdd, Nat.reduceSub, Nat.reduceLT, Nat.reduceMul, Nat.reducePow, Nat.reduceLeDiff, Int.reduceToNat, Int.reduceLE, Int.reduceLT, Int.reducePow, Nat.sub_zero]
        refine ⟨fun h6 => ⟨_, _, [0], ⟨0, trivial, rfl, rfl⟩, ?_⟩, fun h6 => ⟨by omega, ?_⟩⟩
        · rw [unpadMR_4 (by omega) (by rw [hval, if_neg (fun hh => by rw [hh.1] at h6; simp at h6)])]
          simp [-List.reduceReplicate, LES, outV]
        · have hp : padM (l.take n) = l := by simpa using h6
          refine kCall_Ret (c_slices_Clone (l.take n) c (by omega) (by omega)) (by rfl) [(0, 0)] (by simp [CALL, hlt]) (by simp [CALL, cellsAt, bs_take, bs_length, hlt]) (by simp [CALL]) (by simp [okL_bs]) (by rintro (_ | r) <;> simp) fun o ho => ?_
          cases o with
          | none => exact absurd (ho rfl).2 (by omega)
          | some r =>
            simp only [CALL, ↓VC, VP, TT, Nat.reduceEqDiff, reduceCtorEq, Nat.reduceAdd, Nat.reduceSub, Nat.reduceLT, Nat.reduceMul, Nat.reducePow, Nat.reduceLeDiff, Int.reduceToNat, Int.reduceLE, Int.reduceLT, Int.reducePow, instL_room]
            refine ⟨_, _, [0, 2], ⟨r, trivial, rfl, rfl⟩, ?_⟩
            rw [unpadMR_ok (by omega) (by rw [hval, if_pos ⟨hp, by omega⟩])]
            simp [-List.reduceReplicate, LES, outV, hlt]
end Go.Proofs.YtahnjhppkgndiaaGreat

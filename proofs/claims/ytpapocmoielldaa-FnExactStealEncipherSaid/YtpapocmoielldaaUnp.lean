import Derived.Test.YtpapocmoielldaaPadB
import Derived.Laws.Strings
/- What was padded comes back, both ways. -/
set_option linter.unusedSimpArgs false
set_option linter.unusedVariables false
namespace Go.Proofs.Ytpapocmoielldaa
open Go Go.Vc
theorem padL_get1 (t : List UInt8) : (padL t).getD t.length 0 = 1 := by simp [padL, List.getD]
theorem padL_get0 (t : List UInt8) {k : Nat} (h : t.length < k) : (padL t).getD k 0 = 0 := by
  simp only [padL, List.getD]
  rw [List.getElem?_append_right (by omega)]
  obtain ⟨m, rfl⟩ : ∃ m, k = t.length + 1 + m := ⟨k - t.length - 1, by omega⟩
  rw [show t.length + 1 + m - t.length = m + 1 by omega, List.getElem?_cons_succ]
  rw [List.getElem?_replicate]
  split <;> rfl
theorem padL_take (t : List UInt8) : (padL t).take t.length = t := by simp [padL]
theorem padL_inj {t u : List UInt8} (h : padL t = padL u) : t = u := by
  have key : ∀ {t u : List UInt8}, padL t = padL u → ¬ t.length < u.length := fun {t u} h hlt => by
    have h1 := padL_get1 u
    rw [← h, padL_get0 t hlt] at h1
    cases h1
  have hl : t.length = u.length := by have := key h; have := key h.symm; omega
  rw [← padL_take t, h, hl, padL_take]
/-- The data behind a padding, where there are any. -/
noncomputable def unp (l : List UInt8) : Option (List UInt8) := open Classical in if h : ∃ t, padL t = l ∧ t.length ≤ 2000 then some h.choose else none
theorem unp_some {l t : List UInt8} (h : padL t = l) (h2 : t.length ≤ 2000) : unp l = some t := by
  have hex : ∃ t, padL t = l ∧ t.length ≤ 2000 := ⟨t, h, h2⟩
  unfold unp
  rw [dif_pos hex]
  have := hex.choose_spec.1
  rw [padL_inj (this.trans h.symm)]
theorem unp_none {l : List UInt8} (h : ∀ t, padL t = l → t.length ≤ 2000 → False) : unp l = none := by
  unfold unp
  rw [dif_neg]
  rintro ⟨t, h1, h2⟩; exact h t h1 h2
theorem unp_len {l t : List UInt8} (h : unp l = some t) : t.length ≤ 2000 := by
  unfold unp at h
  split at h
  · rename_i hx; cases h; exact hx.choose_spec.2
  · cases h
/-- The last place of a byte among the first i. -/
def lastF (l : List UInt8) (b : UInt8) : Nat → Int
  | 0 => -1
  | i + 1 => if l.getD i 0 = b then (i : Nat) else lastF l b i
set_option maxRecDepth 10000
theorem c_bytealg_LastIndexByte (l : List UInt8) (c : Nat) (b : UInt8) (hc : l.length ≤ c) (hm : l.length ≤ 4194304) : LC Try.prog 112 [.s 0 0 l.length c, .c (.int .u8 (b.toNat : Int))] [⟨false, bs l⟩] (fun v hp => v = .c (.int .i64 (lastF l b l.length)) ∧ hp = [⟨false, bs l⟩]) := by
  refine LC_of (X := XX (fun _ => .nil) (fun _ => []) [19, 36, 117] 1) envOK Try.func112 (by kernel_rfl) (by kernel_rfl) rfl (Nat.le_of_ble_eq_true (by kernel_rfl)) ?_
  simp only [kFun, Try.f112, List.length_nil, List.length_cons, Nat.sub_zero, Nat.reduceSub, Nat.reduceAdd, List.nil_append, List.cons_append, List.replicate_succ, List.replicate_zero]
  simp only [XX, ↓VC, VP, TT, List.getElem?_toArray, Nat.reduceEqDiff, reduceCtorEq, Nat.reduceAdd, Nat.reduceSub, Nat.reduceLT, Nat.reduceMul, Nat.reducePow, Nat.reduceLeDiff, Int.reduceToNat, Int.reduceLE, Int.reduceLT, Int.reducePow]
  rw [wrap_i64 (by omega) (by omega)]
  refine kLoop_of (fun j : Nat => ([.s 0 0 l.length c, .c (.int .u8 (b.toNat : Int)), .j, .j, .j, .c (.int .i64 ((j : Int) - 1)), .j, .j, .j, .j, .j, .j, .j, .j, .j, .j, .j, .j, .j, .j], [⟨false, bs l⟩])) (fun j => j) (fun j => j ≤ l.length ∧ lastF l b l.length = lastF l b j) l.length ⟨by omega, rfl⟩ ⟨[0], by simp [-List.reduceReplicate, LES]⟩ ?_
  rintro j ⟨hj, he⟩
  simp only [↓VC, VP, TT, List.getElem?_toArray, Nat.reduceEqDiff, reduceCtorEq, Nat.reduceAdd, Nat.reduceSub, Nat.reduceLT, Nat.reduceMul, Nat.reducePow, Nat.reduceLeDiff, Int.reduceToNat, Int.reduceLE, Int.reduceLT, Int.reducePow]
  refine ⟨fun h => ?_, fun h => ⟨_, _, [0], ⟨rfl, rfl⟩, ?_⟩⟩
  · obtain ⟨i, rfl⟩ : ∃ i, j = i + 1 := ⟨j - 1, by omega⟩
    have e1 : ((i + 1 : Nat) : Int) - 1 = (i : Nat) := by omega
    rw [e1, Int.toNat_natCast]
    refine ⟨by omega, by omega, by omega, fun ht => ⟨_, _, [0], ⟨rfl, rfl⟩, ?_⟩, fun hf => ⟨i, ⟨by omega, ?_⟩, by omega, [0], ?_⟩⟩
    · rw [beq_iff_eq] at ht
      rw [he, lastF, if_pos (by simpa using ht)]
      simp [-List.reduceReplicate, LES]
    · rw [he, lastF, if_neg (by simpa using hf)]
    · rw [wrap_i64 (by omega) (by omega)]
      simp [-List.reduceReplicate, LES]
  · obtain rfl : j = 0 := by omega
    rw [he]; simp [-List.reduceReplicate, LES, lastF]
theorem c_bytes_LastIndexByte (l : List UInt8) (c : Nat) (b : UInt8) (hc : l.length ≤ c) (hm : l.length ≤ 4194304) : LC Try.prog 88 [.s 0 0 l.length c, .c (.int .u8 (b.toNat : Int))] [⟨false, bs l⟩] (fun v hp => v = .c (.int .i64 (lastF l b l.length)) ∧ hp = [⟨false, bs l⟩]) := by
  refine LC_of (X := XX (fun _ => .nil) (fun _ => []) [19, 36, 117] 1) envOK Try.func88 (by kernel_rfl) (by kernel_rfl) rfl (Nat.le_of_ble_eq_true (by kernel_rfl)) ?_
  simp only [kFun, Try.f88, List.length_nil, List.length_cons, Nat.sub_zero, Nat.reduceSub, Nat.reduceAdd, List.nil_append, List.cons_append, List.replicate_succ, List.replicate_zero]
  simp only [XX, ↓VC, VP, TT, List.getElem?_toArray, Nat.reduceEqDiff, reduceCtorEq, Nat.reduceAdd, Nat.reduceSub, Nat.reduceLT, Nat.reduceMul, Nat.reducePow, Nat.reduceLeDiff, Int.reduceToNat, Int.reduceLE, Int.reduceLT, Int.reducePow]
  refine kCall_val (c_bytealg_LastIndexByte l c b hc hm) (by rfl) [(0, 0)] (by simp [CALL]) (by simp [CALL, cellsAt]) (by simp [CALL]) (by simp [okL_bs]) ?_
  simp only [CALL, ↓VC, VP, TT, List.getElem?_toArray, Nat.reduceEqDiff, reduceCtorEq, Nat.reduceAdd, Nat.reduceSub, Nat.reduceLT, Nat.reduceMul, Nat.reducePow, Nat.reduceLeDiff, Int.reduceToNat, Int.reduceLE, Int.reduceLT, Int.reducePow]
  refine ⟨_, _, [0], ⟨rfl, rfl⟩, ?_⟩
  simp [-List.reduceReplicate, LES]
theorem c_bytes_Equal (a b : List UInt8) (ca cb : Nat) (hca : a.length ≤ ca) (hcb : b.length ≤ cb) : LC Try.prog 89 [.s 0 0 a.length ca, .s 1 0 b.length cb] [⟨false, bs a⟩, ⟨false, bs b⟩] (fun v hp => v = .c (.bool (a == b)) ∧ hp = [⟨false, bs a⟩, ⟨false, bs b⟩]) := by
  refine LC_of (X := XX (fun _ => .nil) (fun _ => []) [19, 36, 117] 2) envOK Try.func89 (by kernel_rfl) (by kernel_rfl) rfl (Nat.le_of_ble_eq_true (by kernel_rfl)) ?_
  simp only [kFun, Try.f89, List.length_nil, List.length_cons, Nat.sub_zero, Nat.reduceSub, Nat.reduceAdd, List.nil_append, List.cons_append, List.replicate_succ, List.replicate_zero]
  simp only [XX, ↓VC, VP, TT, List.getElem?_toArray, Nat.reduceEqDiff, reduceCtorEq, Nat.reduceAdd, Nat.reduceSub, Nat.reduceLT, Nat.reduceMul, Nat.reducePow, Nat.reduceLeDiff, Int.reduceToNat, Int.reduceLE, Int.reduceLT, Int.reducePow]
  refine ⟨a, rfl, .inr rfl, b, rfl, .inr rfl, _, _, [0, 1], ⟨rfl, rfl⟩, ?_⟩
  rw [ByteArray.toList_mk, ByteArray.toList_mk]
  simp [-List.reduceReplicate, LES]
/-- Where the reference stops: the last place in the last block that is not 0. -/
structure StopAt (l : List UInt8) (p : Nat) : Prop where
  lt : p < l.length
  near : l.length ≤ p + 16
  zeros : ∀ k, p < k → k < l.length → l.getD k 0 = 0
theorem StopAt.next {l : List UInt8} {p : Nat} (h : StopAt l (p + 1)) (hn : l.length < p + 1 + 16) (h0 : l.getD (p + 1) 0 = 0) : StopAt l p :=
  ⟨by have := h.lt; omega, by omega, fun k hk hkl => by
    rcases Nat.eq_or_lt_of_le hk with e | e
    · rw [← e]; exact h0
    · exact h.zeros k e hkl⟩
theorem getD_ext {l m : List UInt8} (hl : l.length = m.length) (h : ∀ k, k < l.length → l.getD k 0 = m.getD k 0) : l = m := by
  apply List.ext_getElem hl
  intro k h1 h2
  have := h k h1
  simpa [List.getD, h1, h2] using this
theorem unp_stop_yes {l : List UInt8} {p : Nat} (h : StopAt l p) (hl : l.length % 16 = 0) (h1 : l.getD p 0 = 1) (h2 : p ≤ 2000) : unp l = some (l.take p) := by
  have hp := h.lt
  have hn := h.near
  have hlen : (l.take p).length = p := by rw [List.length_take]; omega
  refine unp_some ?_ (by omega)
  apply getD_ext (by rw [padL_len, hlen]; omega)
  intro k hk
  rw [padL_len, hlen] at hk
  rcases Nat.lt_trichotomy k p with e | e | e
  · simp only [padL, List.getD]
    rw [List.getElem?_append_left (by omega), List.getElem?_take, if_pos e]
  · subst e; rw [h1]; have := padL_get1 (l.take k); rwa [hlen] at this
  · rw [padL_get0 _ (by omega), h.zeros k e (by omega)]
theorem unp_stop_no {l : List UInt8} {p : Nat} (h : StopAt l p) (hs : l.length = p + 16 ∨ l.getD p 0 ≠ 0) (hno : ¬ (l.getD p 0 = 1 ∧ p ≤ 2000)) : unp l = none := by
  refine unp_none fun t ht ht2 => ?_
  have hp := h.lt
  have hn := h.near
  have hlen : l.length = t.length + 16 - t.length % 16 := by rw [← ht, padL_len]
  have g1 : l.getD t.length 0 = 1 := by rw [← ht]; exact padL_get1 t
  rcases Nat.lt_trichotomy t.length p with e | e | e
  · have g0 : l.getD p 0 = 0 := by rw [← ht]; exact padL_get0 t e
    rcases hs with hs | hs
    · omega
    · exact hs g0
  · subst e; exact hno ⟨g1, ht2⟩
  · have := h.zeros _ e (by omega)
    rw [this] at g1; cases g1
theorem unp_len16 {l : List UInt8} (h : l.length = 0 ∨ l.length % 16 ≠ 0) : unp l = none := by
  refine unp_none fun t ht _ => ?_
  have hlen : l.length = t.length + 16 - t.length % 16 := by rw [← ht, padL_len]
  omega
theorem lastF_range (l : List UInt8) (b : UInt8) : ∀ i, -1 ≤ lastF l b i ∧ lastF l b i < i
  | 0 => by simp [lastF]
  | i + 1 => by
    have := lastF_range l b i
    unfold lastF
    split <;> omega
theorem lastF_neg {l : List UInt8} {b : UInt8} : ∀ {i : Nat}, lastF l b i < 0 → ∀ k, k < i → l.getD k 0 ≠ b
  | 0, _, k, hk => by omega
  | i + 1, h, k, hk => by
    unfold lastF at h
    split at h
    · omega
    · rename_i hne
      rcases Nat.eq_or_lt_of_le (Nat.le_of_lt_succ hk) with e | e
      · rw [e]; exact hne
      · exact lastF_neg h k e
theorem lastF_pos {l : List UInt8} {b : UInt8} : ∀ {i e : Nat}, lastF l b i = e → l.getD e 0 = b ∧ ∀ k, e < k → k < i → l.getD k 0 ≠ b
  | 0, e, h => by simp [lastF] at h
  | i + 1, e, h => by
    unfold lastF at h
    split at h
    · rename_i hb
      have : i = e := by omega
      subst this
      exact ⟨hb, fun k h1 h2 => by omega⟩
    · rename_i hne
      obtain ⟨h1, h2⟩ := lastF_pos h
      refine ⟨h1, fun k hk hki => ?_⟩
      rcases Nat.eq_or_lt_of_le (Nat.le_of_lt_succ hki) with e' | e'
      · rw [e']; exact hne
      · exact h2 k hk e'
theorem unp_last_neg {l : List UInt8} (h : lastF l 1 l.length < 0) : unp l = none := by
  refine unp_none fun t ht _ => ?_
  have hlen : l.length = t.length + 16 - t.length % 16 := by rw [← ht, padL_len]
  exact lastF_neg h t.length (by omega) (by rw [← ht]; exact padL_get1 t)
theorem unp_last {l : List UInt8} {e : Nat} (h : lastF l 1 l.length = e) : unp l = if padL (l.take e) = l ∧ e ≤ 2000 then some (l.take e) else none := by
  have hr := (lastF_range l 1 l.length).2
  have hlen : (l.take e).length = e := by rw [List.length_take]; omega
  split
  · rename_i hh
    exact unp_some hh.1 (by omega)
  · rename_i hh
    refine unp_none fun t ht ht2 => ?_
    obtain ⟨h1, h2⟩ := lastF_pos h
    have hl : l.length = t.length + 16 - t.length % 16 := by rw [← ht, padL_len]
    have g1 : l.getD t.length 0 = 1 := by rw [← ht]; exact padL_get1 t
    have : t.length = e := by
      rcases Nat.lt_trichotomy t.length e with q | q | q
      · have : l.getD e 0 = 0 := by rw [← ht]; exact padL_get0 t q
        rw [this] at h1; cases h1
      · exact q
      · exact absurd g1 (h2 _ q (by omega))
    have ht3 : l.take e = t := by rw [← this, ← ht, padL_take]
    exact hh ⟨by rw [ht3, ht], by omega⟩
end Go.Proofs.Ytpapocmoielldaa

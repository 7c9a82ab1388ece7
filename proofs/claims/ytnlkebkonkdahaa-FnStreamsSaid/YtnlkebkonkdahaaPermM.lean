import Derived.Test.YtnlkebkonkdahaaListsM
/- Permutations told by what has been seen. No program in sight. -/
set_option linter.unusedSimpArgs false
set_option linter.unusedVariables false
namespace Go.Proofs.Ytnlkebkonkdahaa
open Go Go.Vc
/-- Which of k numbers have been met. -/
def seenL (k : Nat) (l : List UInt8) : List Bool := (List.range k).map fun y => l.any fun u => u.toNat == y
theorem seenL_len (k : Nat) (l : List UInt8) : (seenL k l).length = k := by simp [seenL]
theorem any_mem (l : List UInt8) (u : UInt8) : (l.any fun v => v.toNat == u.toNat) = decide (u ∈ l) := by
  rw [Bool.eq_iff_iff, List.any_eq_true, decide_eq_true_eq]
  constructor
  · rintro ⟨v, hv, e⟩
    have : v = u := UInt8.toNat_inj.1 (by simpa using e)
    exact this ▸ hv
  · intro h; exact ⟨u, h, by simp⟩
theorem seenL_get {k : Nat} {l : List UInt8} {u : UInt8} (h : u.toNat < k) : (seenL k l).getD u.toNat false = decide (u ∈ l) := by
  rw [← any_mem]
  simp [seenL, List.getD, h]
theorem seenL_nil (k : Nat) : List.replicate k false = seenL k [] := by simp [seenL, List.map_const']
theorem takeP_snoc {l : List UInt8} {x : Nat} (h : x < l.length) : l.take (x + 1) = l.take x ++ [l.getD x 0] := by
  rw [List.take_add_one, List.getElem?_eq_getElem h]
  simp [List.getD, h]
theorem seenL_set {k : Nat} {l : List UInt8} {x : Nat} (h : x < l.length) : (seenL k (l.take x)).set (l.getD x 0).toNat true = seenL k (l.take (x + 1)) := by
  rw [takeP_snoc h]
  generalize l.getD x 0 = u
  apply List.ext_getElem?
  intro j
  rw [List.getElem?_set]
  simp only [seenL_len]
  rcases Nat.lt_or_ge j k with hj | hj
  · simp only [seenL, List.getElem?_map, List.getElem?_range hj, Option.map_some, List.any_append, List.any_cons, List.any_nil, Bool.or_false]
    by_cases e : u.toNat = j
    · simp [e, hj]
    · simp [e]
  · rw [List.getElem?_eq_none (by rw [seenL_len]; exact hj), List.getElem?_eq_none (by rw [seenL_len]; exact hj)]
    split
    · rw [if_neg (by omega)]
    · rfl
theorem nodup_snoc {l : List UInt8} {x : Nat} (h : x < l.length) : (l.take (x + 1)).Nodup ↔ (l.take x).Nodup ∧ l.getD x 0 ∉ l.take x := by
  rw [takeP_snoc h, List.nodup_append]
  constructor
  · rintro ⟨h1, _, h3⟩
    exact ⟨h1, fun hm => h3 _ hm _ (by simp) rfl⟩
  · rintro ⟨h1, h2⟩
    exact ⟨h1, by simp, fun a ha b hb e => h2 (by rw [List.mem_singleton] at hb; rw [← hb, ← e]; exact ha)⟩
theorem not_nodup_take {l : List UInt8} {x : Nat} (h : ¬ (l.take x).Nodup) : ¬ l.Nodup := fun hn => h (hn.sublist (List.take_sublist _ _))
/-- A list without doubles that lies in another one is no longer. -/
theorem nodup_le : ∀ (l r : List UInt8), l.Nodup → (∀ u ∈ l, u ∈ r) → l.length ≤ r.length
  | [], _, _, _ => Nat.zero_le _
  | u :: l, r, hn, hs => by
    rw [List.nodup_cons] at hn
    have hu : u ∈ r := hs u (by simp)
    have h1 := nodup_le l (r.erase u) hn.2 fun v hv => (List.mem_erase_of_ne (show v ≠ u from fun e => hn.1 (e ▸ hv))).2 (hs v (by simp [hv]))
    have h2 := List.length_erase_of_mem hu
    have h3 := List.length_pos_of_mem hu
    simp only [List.length_cons]; omega
def allU8 : List UInt8 := (List.range 256).map UInt8.ofNat
theorem allU8_len : allU8.length = 256 := by simp [allU8]
theorem mem_allU8 (u : UInt8) : u ∈ allU8 := by
  unfold allU8
  rw [List.mem_map]
  exact ⟨u.toNat, by rw [List.mem_range]; exact u.toNat_lt, UInt8.ofNat_toNat⟩
theorem allU8_nodup : allU8.Nodup := by
  unfold allU8 List.Nodup
  rw [List.pairwise_map]
  refine List.Pairwise.imp_of_mem ?_ (List.nodup_range (n := 256))
  intro a b ha hb hne e
  rw [List.mem_range] at ha hb
  have := congrArg UInt8.toNat e
  rw [UInt8.toNat_ofNat_of_lt' ha, UInt8.toNat_ofNat_of_lt' hb] at this
  exact hne this
theorem dup_shorter : ∀ (l : List UInt8), ¬ l.Nodup → ∃ r : List UInt8, r.length + 1 = l.length ∧ ∀ u ∈ l, u ∈ r
  | [], h => absurd List.nodup_nil h
  | u :: l, h => by
    by_cases hm : u ∈ l
    · exact ⟨l, rfl, fun v hv => by rcases List.mem_cons.1 hv with rfl | hv; exact hm; exact hv⟩
    · obtain ⟨r, h1, h2⟩ := dup_shorter l (fun hn => h (List.nodup_cons.2 ⟨hm, hn⟩))
      exact ⟨u :: r, by simp [h1], fun v hv => by rcases List.mem_cons.1 hv with rfl | hv; simp; exact List.mem_cons_of_mem _ (h2 v hv)⟩
/-- 256 bytes: none twice, or each of them is there. -/
theorem perm_iff {l : List UInt8} (h : l.length = 256) : l.Nodup ↔ ∀ u : UInt8, u ∈ l := by
  constructor
  · intro hn u
    refine Classical.byContradiction fun hu => ?_
    have h1 := nodup_le l (allU8.erase u) hn fun v hv => (List.mem_erase_of_ne (show v ≠ u from fun e => hu (e ▸ hv))).2 (mem_allU8 v)
    rw [List.length_erase_of_mem (mem_allU8 u), allU8_len] at h1
    omega
  · intro ha
    refine Classical.byContradiction fun hn => ?_
    obtain ⟨r, h1, h2⟩ := dup_shorter l hn
    have h3 := nodup_le allU8 r allU8_nodup fun u _ => h2 u (ha u)
    rw [allU8_len] at h3
    omega
def permB (l : List UInt8) : Bool := decide l.Nodup
theorem seen_all {l : List UInt8} (h : l.length = 256) : (!(seenL 256 l).contains false) = permB l := by
  unfold permB
  rw [Bool.eq_iff_iff, decide_eq_true_eq, perm_iff h, Bool.not_eq_true', Bool.eq_false_iff]
  constructor
  · intro hc u
    refine Classical.byContradiction fun hu => hc ?_
    rw [List.contains_eq_mem, decide_eq_true_eq]
    unfold seenL
    rw [List.mem_map]
    exact ⟨u.toNat, by rw [List.mem_range]; exact u.toNat_lt, by rw [any_mem]; exact decide_eq_false hu⟩
  · intro ha hc
    rw [List.contains_eq_mem, decide_eq_true_eq] at hc
    unfold seenL at hc
    rw [List.mem_map] at hc
    obtain ⟨y, hy, e⟩ := hc
    rw [List.mem_range] at hy
    have h2 := any_mem l (UInt8.ofNat y)
    rw [UInt8.toNat_ofNat_of_lt' hy, e, decide_eq_true (ha _)] at h2
    cases h2
/-- 16 places: each is below 16, none comes twice. -/
def plcB (p : List UInt8) : Bool := decide ((∀ u ∈ p, u.toNat < 16) ∧ p.Nodup)
theorem plcB_pl16 {p : List UInt8} (hp : p.length = 16) (h : plcB p = true) : pl16 p := by
  unfold plcB at h
  rw [decide_eq_true_eq] at h
  intro i hi
  refine h.1 _ ?_
  rw [List.getD_eq_getElem?_getD, List.getElem?_eq_getElem (by omega)]
  exact List.getElem_mem _
theorem getD_mem {l : List UInt8} {x : Nat} (h : x < l.length) : l.getD x 0 ∈ l := by
  rw [List.getD_eq_getElem?_getD, List.getElem?_eq_getElem h]; exact List.getElem_mem _
end Go.Proofs.Ytnlkebkonkdahaa

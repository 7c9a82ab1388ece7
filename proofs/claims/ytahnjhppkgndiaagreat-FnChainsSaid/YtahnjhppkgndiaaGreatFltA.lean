import Derived.Test.YtahnjhppkgndiaaGreatCipA
import Derived.Test.YtahnjhppkgndiaaGreatListsM
import Derived.Test.YtahnjhppkgndiaaGreatModI
import Derived.Test.YtahnjhppkgndiaaGreatModL
import Derived.Test.YtahnjhppkgndiaaGreatModN
/- Modes there and back: chains, stolen ends, wide blocks, places of faults. No program in sight. -/
set_option linter.unusedSimpArgs false
set_option linter.unusedVariables false
namespace Go.Proofs.YtahnjhppkgndiaaGreat
open Go Go.Vc
set_option maxRecDepth 10000
set_option maxHeartbeats 4000000
theorem wide_back (c : Cip) (key : List UInt8) {l : List UInt8} (hl : 16 ≤ l.length) : c.wdec key (c.wenc key l) = l := by
  have h16 : (l.take 16).length = 16 := by rw [List.length_take]; omega
  unfold Cip.wdec Cip.wenc
  simp only
  generalize hr : cntL (c.enc key) (c.enc key (l.take 16)) (l.drop 16) = r1
  generalize hL : xorN 16 (l.take 16) (c.lst key r1) = L
  have hLl : L.length = 16 := by rw [← hL]; exact xorN_len _ _ _
  rw [List.take_left' hLl, List.drop_left' hLl, cntL_twice, ← hL, xorN_two h16, ← hr, cntL_twice, List.take_append_drop]
section
variable {enc dec : List UInt8 → List UInt8} {start P : List UInt8}
theorem chnL_at (he : ∀ x, (enc x).length = 16) {k : Nat} : ∀ {K : Nat}, k < K → ((chnL enc start P K).drop (16 * k)).take 16 = chnH enc start P (k + 1)
  | 0, h => by omega
  | K + 1, h => by
    have hl := chnL_len (start := start) (data := P) he K
    rw [chnL]
    rcases Nat.lt_or_ge k K with h' | h'
    · rw [List.drop_append_of_le_length (by omega), List.take_append_of_le_length (by rw [List.length_drop]; omega)]
      exact chnL_at he h'
    · obtain rfl : k = K := by omega
      rw [List.drop_left' hl]
      exact List.take_of_length_le (by rw [chnH, he]; omega)
theorem chain_back (he : ∀ x, (enc x).length = 16) (hd : ∀ s, s.length = 16 → dec (enc s) = s) {K : Nat} (hP : 16 * K ≤ P.length) : ∀ k, k ≤ K → unchL dec start (chnL enc start P K) k = P.take (16 * k)
  | 0, _ => by simp [unchL]
  | k + 1, hk => by
    rw [unchL, chain_back he hd hP k (by omega), chnL_at he (show k < K by omega), show 16 * (k + 1) = 16 * k + 16 by omega, List.take_add]
    congr 1
    have hp : (if k = 0 then start else ((chnL enc start P K).drop (16 * (k - 1))).take 16) = chnH enc start P k := by
      cases k with
      | zero => rfl
      | succ k => rw [if_neg (by omega), Nat.add_sub_cancel, chnL_at he (by omega)]
    rw [hp, chnH, hd _ (by simp)]
    refine ext_getD (n := 16) (by simp) (by rw [List.length_take, List.length_drop]; omega) fun i hi => ?_
    have h1 := map_getD (g := fun i => ((List.range 16).map fun i => ((P.drop (16 * k)).take 16).getD i 0 ^^^ (chnH enc start P k).getD i 0).getD i 0 ^^^ (chnH enc start P k).getD i 0) hi
    have h2 := map_getD (g := fun i => ((P.drop (16 * k)).take 16).getD i 0 ^^^ (chnH enc start P k).getD i 0) hi
    unfold tab at h1 h2
    rw [h1, h2, u8_xx]
end
theorem steal_back (c : Cip) (key start : List UInt8) {l : List UInt8} (hl : 17 ≤ l.length) : c.unsteal key start (c.steal key start l) = l ∧ (c.steal key start l).length = l.length := by
  obtain ⟨m, r, hlr, hr1, hr2⟩ : ∃ m r, l.length = 16 * (m + 1) + r ∧ 1 ≤ r ∧ r ≤ 16 := ⟨(l.length - 17) / 16, l.length - 16 * ((l.length - 17) / 16 + 1), by omega, by omega, by omega⟩
  have hK : (l.length + 15) / 16 = m + 2 := by omega
  have hen := fun (s : List UInt8) (hs : s.length = 16) => c.dec_enc key hs
  have hel : ∀ x, (c.enc key x).length = 16 := fun x => enc_len key x
  have hpl := partsL_len l (m + 2)
  have hCl := chnL_len (start := start) (data := partsL l (m + 2)) hel (m + 2)
  have hback := chain_back (start := start) (P := partsL l (m + 2)) hel hen (show 16 * (m + 2) ≤ _ by omega) (m + 2) (Nat.le_refl _)
  have hz := parts_zero hlr ⟨hr1, hr2⟩
  have hst : c.steal key start l = (swapL (chnL (c.enc key) start (partsL l (m + 2)) (m + 2)) m).take l.length := by unfold Cip.steal; rw [hK]; rfl
  have hm1 : chnH (c.enc key) start (partsL l (m + 2)) (m + 1) = ((chnL (c.enc key) start (partsL l (m + 2)) (m + 2)).drop (16 * m)).take 16 := (chnL_at hel (by omega)).symm
  have hm2 : chnH (c.enc key) start (partsL l (m + 2)) (m + 2) = ((chnL (c.enc key) start (partsL l (m + 2)) (m + 2)).drop (16 * (m + 1))).take 16 := (chnL_at hel (by omega)).symm
  have hm2d : c.dec key (chnH (c.enc key) start (partsL l (m + 2)) (m + 2)) = (List.range 16).map fun i => (((partsL l (m + 2)).drop (16 * (m + 1))).take 16).getD i 0 ^^^ (chnH (c.enc key) start (partsL l (m + 2)) (m + 1)).getD i 0 := by
    rw [chnH, hen _ (by simp)]
  rw [hm1, hm2] at hm2d
  generalize hC : chnL (c.enc key) start (partsL l (m + 2)) (m + 2) = C at *
  obtain ⟨X, B, A, rfl, hX, hB, hA⟩ := three hCl
  have e1 : List.drop (16 * m) (X ++ (B ++ A)) = B ++ A := List.drop_left' hX
  have e2 : List.drop (16 * (m + 1)) (X ++ (B ++ A)) = A := by rw [← List.append_assoc]; exact List.drop_left' (by rw [List.length_append]; omega)
  have e3 : List.take 16 (B ++ A) = B := List.take_left' hB
  have e4 : List.take 16 A = A := List.take_of_length_le (by omega)
  have e5 : List.take (16 * m) (X ++ (B ++ A)) = X := List.take_left' hX
  rw [e1, e2, e3, e4] at hm2d
  have hS : c.steal key start l = X ++ (A ++ B.take r) := by
    rw [hst]
    unfold swapL
    rw [e1, e2, e3, e4, e5, List.append_assoc, List.take_append, List.take_of_length_le (by omega), List.take_append, List.take_of_length_le (by omega), hlr, hX, hA]
    congr 3; omega
  have hSl : (c.steal key start l).length = l.length := by rw [hS]; simp only [List.length_append, List.length_take]; omega
  refine ⟨?_, hSl⟩
  obtain ⟨q1, q2, q3⟩ := parts_blk (hSl.trans hlr) ⟨hr1, hr2⟩
  have hPl := partsL_len (c.steal key start l) (m + 2)
  have s1 : (c.steal key start l).take (16 * m) = X := by rw [hS]; exact List.take_left' hX
  have s2 : ((c.steal key start l).drop (16 * m)).take 16 = A := by rw [hS, List.drop_left' hX]; exact List.take_left' hA
  have s3 : (c.steal key start l).drop (16 * (m + 1)) = B.take r := by rw [hS, ← List.append_assoc]; exact List.drop_left' (by rw [List.length_append]; omega)
  have hmix : c.mixL key (c.steal key start l) m = X ++ (B ++ A) := by
    unfold Cip.mixL
    simp only
    rw [spl_two hPl (befB_len _ _ _), q1, q2, q3, s1, s2, s3]
    congr 2
    refine ext_getD (n := 16) (befB_len _ _ _) hB fun j hj => ?_
    unfold befB
    rw [map_getD hj, hSl, hlr, Nat.add_sub_cancel_left]
    split
    · rename_i h
      rw [fillB_get hj, List.getD_eq_getElem?_getD, List.getElem?_take, if_pos h, ← List.getD_eq_getElem?_getD]
    · rename_i h
      rw [hm2d]
      have h2 := map_getD (g := fun i => (((partsL l (m + 2)).drop (16 * (m + 1))).take 16).getD i 0 ^^^ B.getD i 0) hj
      unfold tab at h2
      rw [h2, drop_take_getD hj, hz, List.getD_eq_getElem?_getD, List.getElem?_append_right (by omega), List.getElem?_replicate, if_pos (by omega)]
      exact UInt8.zero_xor
  unfold Cip.unsteal
  rw [hSl, hK, show m + 2 - 2 = m from rfl, hmix, hback, hz, List.take_take, show min l.length (16 * (m + 2)) = l.length by omega, List.take_left' rfl]
end Go.Proofs.YtahnjhppkgndiaaGreat
/- Where a fault shows. No program in sight. -/
set_option linter.unusedSimpArgs false
set_option linter.unusedVariables false
namespace Go.Proofs.YtahnjhppkgndiaaGreat
open Go Go.Vc
set_option maxRecDepth 10000
set_option maxHeartbeats 4000000
/-! ### Places of faults -/
theorem difL_mem {a b : List UInt8} {n : Nat} {x : Int} : x ∈ difL a b n ↔ ∃ k : Nat, x = k ∧ k < n ∧ a.getD k 0 ≠ b.getD k 0 := by
  unfold difL
  rw [List.mem_map]
  constructor
  · rintro ⟨k, hk, rfl⟩
    rw [List.mem_filter, List.mem_range, bne_iff_ne] at hk
    exact ⟨k, rfl, hk.1, hk.2⟩
  · rintro ⟨k, rfl, h1, h2⟩
    exact ⟨k, by rw [List.mem_filter, List.mem_range, bne_iff_ne]; exact ⟨h1, h2⟩, rfl⟩
/-- The last place: nothing differs behind it. -/
theorem difL_last {a b : List UInt8} {n k : Nat} (hk : k < n) (hd : a.getD k 0 ≠ b.getD k 0) (hs : ∀ j, k < j → j < n → a.getD j 0 = b.getD j 0) : ∃ L : List Int, difL a b n = L ++ [(k : Int)] := by
  have key : ∀ j, k + 1 + j ≤ n → difL a b (k + 1 + j) = difL a b (k + 1) := fun j => by
    induction j with
    | zero => intro _; rfl
    | succ j ih =>
      intro h
      rw [← ih (by omega), ← Nat.add_assoc, difL_no (hs _ (by omega) (by omega))]
  have := key (n - (k + 1)) (by omega)
  rw [show k + 1 + (n - (k + 1)) = n by omega] at this
  exact ⟨difL a b k, by rw [this, difL_yes hd]⟩
theorem unchL_get {dec : List UInt8 → List UInt8} {start data : List UInt8} : ∀ {K x : Nat}, x < 16 * K → (unchL dec start data K).getD x 0 = (dec ((data.drop (16 * (x / 16))).take 16)).getD (x % 16) 0 ^^^ (if x / 16 = 0 then start else (data.drop (16 * (x / 16 - 1))).take 16).getD (x % 16) 0
  | 0, x, h => by omega
  | K + 1, x, h => by
    have hl := unchL_len dec start data K
    rw [unchL, List.getD_eq_getElem?_getD]
    rcases Nat.lt_or_ge x (16 * K) with h1 | h1
    · rw [List.getElem?_append_left (by omega), ← List.getD_eq_getElem?_getD, unchL_get h1]
    · rw [List.getElem?_append_right (by omega), ← List.getD_eq_getElem?_getD, hl]
      have e1 : x / 16 = K := by omega
      have e2 : x % 16 = x - 16 * K := by omega
      rw [e1, e2]
      exact map_getD (g := fun i => (dec ((data.drop (16 * K)).take 16)).getD i 0 ^^^ (if K = 0 then start else (data.drop (16 * (K - 1))).take 16).getD i 0) (show x - 16 * K < 16 by omega)
theorem set_blk {l : List UInt8} {p k : Nat} {u : UInt8} (h : k ≠ p / 16) : ((l.set p u).drop (16 * k)).take 16 = (l.drop (16 * k)).take 16 := by
  apply List.ext_getElem?
  intro j
  simp only [List.getElem?_take, List.getElem?_drop, List.getElem?_set]
  split
  · rw [if_neg (by omega)]
  · rfl
theorem set_blk_at {l : List UInt8} {p : Nat} {u : UInt8} {j : Nat} (hp : p < l.length) (hj : j < 16) : (((l.set p u).drop (16 * (p / 16))).take 16).getD j 0 = if j = p % 16 then u else ((l.drop (16 * (p / 16))).take 16).getD j 0 := by
  rw [drop_take_getD hj, drop_take_getD hj, List.getD_eq_getElem?_getD, List.getElem?_set]
  by_cases e : j = p % 16
  · rw [if_pos e, if_pos (by omega), if_pos (by omega)]; rfl
  · rw [if_neg e, if_neg (by omega), ← List.getD_eq_getElem?_getD]
theorem xor1_ne (u : UInt8) : u ^^^ 1 ≠ u := by
  intro h
  have := congrArg (fun x => u ^^^ x) h
  simp only [← UInt8.xor_assoc, UInt8.xor_self, UInt8.zero_xor] at this
  cases this
theorem u8_cancelL {a b c : UInt8} (h : c ^^^ a = c ^^^ b) : a = b := by
  rw [UInt8.xor_comm c, UInt8.xor_comm c] at h; exact u8_cancel h
/-- Where a fault shows. -/
theorem flt_spec (c : Cip) (key start : List UInt8) {l : List UInt8} {p K : Nat} (hl : l.length = 16 * (K + 1)) (hp : p < l.length) :
    (∀ x ∈ c.flt key start l p K, ∃ k : Nat, x = k ∧ (k / 16 = p / 16 ∨ k = p + 16)) ∧ c.flt key start l p K ≠ [] ∧ (p + 16 < l.length → ∃ L : List Int, c.flt key start l p K = L ++ [((p + 16 : Nat) : Int)]) := by
  unfold Cip.flt
  have hq : p / 16 ≤ K := by omega
  have hu : l.getD p 0 ^^^ 1 ≠ l.getD p 0 := xor1_ne _
  have hgp : l.getD p 0 = ((l.drop (16 * (p / 16))).take 16).getD (p % 16) 0 := by rw [drop_take_getD (Nat.mod_lt _ (by omega)), Nat.div_add_mod]
  generalize l.getD p 0 ^^^ 1 = u at hu
  have hother : ∀ x, x < 16 * (K + 1) → x / 16 ≠ p / 16 → x ≠ p + 16 → (unchL (c.dec key) start l (K + 1)).getD x 0 = (unchL (c.dec key) start (l.set p u) (K + 1)).getD x 0 := fun x hx h1 h2 => by
    rw [unchL_get hx, unchL_get hx, set_blk h1]
    congr 1
    split
    · rfl
    · rename_i h0
      by_cases h3 : x / 16 - 1 = p / 16
      · rw [h3, set_blk_at hp (Nat.mod_lt _ (by omega)), if_neg (by omega)]
      · rw [set_blk h3]
  refine ⟨fun x hx => ?_, ?_, fun hb => ?_⟩
  · obtain ⟨k, rfl, hk, hd⟩ := difL_mem.1 hx
    refine ⟨k, rfl, ?_⟩
    refine Classical.byContradiction fun hno => hd (hother k hk (fun e => hno (.inl e)) (fun e => hno (.inr e)))
  · intro hnil
    have hsame : ∀ j, j < 16 → (c.dec key ((l.drop (16 * (p / 16))).take 16)).getD j 0 = (c.dec key (((l.set p u).drop (16 * (p / 16))).take 16)).getD j 0 := fun j hj => by
      refine Classical.byContradiction fun hne => ?_
      have : ((16 * (p / 16) + j : Nat) : Int) ∈ difL (unchL (c.dec key) start l (K + 1)) (unchL (c.dec key) start (l.set p u) (K + 1)) (16 * (K + 1)) := by
        refine difL_mem.2 ⟨_, rfl, by omega, fun e => hne ?_⟩
        rw [unchL_get (by omega), unchL_get (by omega), show (16 * (p / 16) + j) / 16 = p / 16 by omega, show (16 * (p / 16) + j) % 16 = j by omega] at e
        have hprev : (if p / 16 = 0 then start else (List.drop (16 * (p / 16 - 1)) (l.set p u)).take 16) = (if p / 16 = 0 then start else (List.drop (16 * (p / 16 - 1)) l).take 16) := by
          split
          · rfl
          · rw [set_blk (by omega)]
        rw [hprev] at e
        exact u8_cancel e
      rw [hnil] at this
      cases this
    have hb1 : ((l.drop (16 * (p / 16))).take 16).length = 16 := by rw [List.length_take, List.length_drop]; omega
    have hb2 : (((l.set p u).drop (16 * (p / 16))).take 16).length = 16 := by rw [List.length_take, List.length_drop, List.length_set]; omega
    have hdd := ext_getD (dec_len c key _) (dec_len c key _) hsame
    have hee := congrArg (c.enc key) hdd
    rw [c.enc_dec key hb1, c.enc_dec key hb2] at hee
    have := congrArg (fun t => t.getD (p % 16) 0) hee
    try simp only at this
    rw [set_blk_at hp (Nat.mod_lt _ (by omega)), if_pos rfl, ← hgp] at this
    exact hu this.symm
  · refine difL_last (by omega) (fun e => ?_) fun j h1 h2 => hother j h2 (by omega) (by omega)
    rw [unchL_get (by omega), unchL_get (by omega), show (p + 16) / 16 = p / 16 + 1 by omega, show (p + 16) % 16 = p % 16 by omega, set_blk (show p / 16 + 1 ≠ p / 16 by omega), if_neg (by omega), if_neg (by omega), Nat.add_sub_cancel] at e
    have e2 := u8_cancelL e
    rw [set_blk_at hp (Nat.mod_lt _ (by omega)), if_pos rfl, ← hgp] at e2
    exact hu e2.symm
end Go.Proofs.YtahnjhppkgndiaaGreat

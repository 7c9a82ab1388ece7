import Derived.Test.YtmhjalagcnhfiaaGreatCipA
import Derived.Test.YtmhjalagcnhfiaaGreatStrmM
import Derived.Test.YtmhjalagcnhfiaaGreatModI
import Derived.Test.YtmhjalagcnhfiaaGreatModL
/- Modes there and back: chains, stolen ends, wide blocks, places of faults. No program in sight. -/
set_option linter.unusedSimpArgs false
set_option linter.unusedVariables false
namespace Go.Proofs.YtmhjalagcnhfiaaGreat
open Go Go.Vc
set_option maxRecDepth 10000
set_option maxHeartbeats 4000000
theorem wide_back (c : Cip) (key : List UInt8) {l : List UInt8} (hl : 16 ≤ l.length) : c.wdec key (c.wenc key l) = l := by
  have h16 : (l.take 16).length = 16 := by rw [List.length_take]; omega
  unfold Cip.wdec Cip.wenc
  simp only
  generalize hr : cntL (c.enc key) (c.enc key (l.take 16)) (l.drop 16) = r1
  generalize hL : xorN 16 (l.take 16) (c.lst key r1) = L
  have hLl : L.length = 16 := by rw [← hL]; exact xorN_len _ _ _
  rw [List.take_left' hLl, List.drop_left' hLl, cntL_twice, ← hL, xorN_two h16, ← hr, cntL_twice, List.take_append_drop]
section
variable {enc dec : List UInt8 → List UInt8} {start P : List UInt8}
theorem chnL_at (he : ∀ x, (enc x).length = 16) {k : Nat} : ∀ {K : Nat}, k < K → ((chnL enc start P K).drop (16 * k)).take 16 = chnH enc start P (k + 1)
  | 0, h => by omega
  | K + 1, h => by
    have hl := chnL_len (start := start) (data := P) he K
    rw [chnL]
    rcases Nat.lt_or_ge k K with h' | h'
    · rw [List.drop_append_of_le_length (by omega), List.take_append_of_le_length (by rw [List.length_drop]; omega)]
      exact chnL_at he h'
    · obtain rfl : k = K := by omega
      rw [List.drop_left' hl]
      exact List.take_of_length_le (by rw [chnH, he]; omega)
theorem chain_back (he : ∀ x, (enc x).length = 16) (hd : ∀ s, s.length = 16 → dec (enc s) = s) {K : Nat} (hP : 16 * K ≤ P.length) : ∀ k, k ≤ K → unchL dec start (chnL enc start P K) k = P.take (16 * k)
  | 0, _ => by simp [unchL]
  | k + 1, hk => by
    rw [unchL, chain_back he hd hP k (by omega), chnL_at he (show k < K by omega), show 16 * (k + 1) = 16 * k + 16 by omega, List.take_add]
    congr 1
    have hp : (if k = 0 then start else ((chnL enc start P K).drop (16 * (k - 1))).take 16) = chnH enc start P k := by
      cases k with
      | zero => rfl
      | succ k => rw [if_neg (by omega), Nat.add_sub_cancel, chnL_at he (by omega)]
    rw [hp, chnH, hd _ (by simp)]
    refine ext_getD (n := 16) (by simp) (by rw [List.length_take, List.length_drop]; omega) fun i hi => ?_
    have h1 := map_getD (g := fun i => ((List.range 16).map fun i => ((P.drop (16 * k)).take 16).getD i 0 ^^^ (chnH enc start P k).getD i 0).getD i 0 ^^^ (chnH enc start P k).getD i 0) hi
    have h2 := map_getD (g := fun i => ((P.drop (16 * k)).take 16).getD i 0 ^^^ (chnH enc start P k).getD i 0) hi
    unfold tab at h1 h2
    rw [h1, h2, u8_xx]
end
theorem steal_back (c : Cip) (key start : List UInt8) {l : List UInt8} (hl : 17 ≤ l.length) : c.unsteal key start (c.steal key start l) = l ∧ (c.steal key start l).length = l.length := by
  obtain ⟨m, r, hlr, hr1, hr2⟩ : ∃ m r, l.length = 16 * (m + 1) + r ∧ 1 ≤ r ∧ r ≤ 16 := ⟨(l.length - 17) / 16, l.length - 16 * ((l.length - 17) / 16 + 1), by omega, by omega, by omega⟩
  have hK : (l.length + 15) / 16 = m + 2 := by omega
  have hen := fun (s : List UInt8) (hs : s.length = 16) => c.dec_enc key hs
  have hel : ∀ x, (c.enc key x).length = 16 := fun x => enc_len key x
  have hpl := partsL_len l (m + 2)
  have hCl := chnL_len (start := start) (data := partsL l (m + 2)) hel (m + 2)
  have hback := chain_back (start := start) (P := partsL l (m + 2)) hel hen (show 16 * (m + 2) ≤ _ by omega) (m + 2) (Nat.le_refl _)
  have hz := parts_zero hlr ⟨hr1, hr2⟩
  have hst : c.steal key start l = (swapL (chnL (c.enc key) start (partsL l (m + 2)) (m + 2)) m).take l.length := by unfold Cip.steal; rw [hK]; rfl
  have hm1 : chnH (c.enc key) start (partsL l (m + 2)) (m + 1) = ((chnL (c.enc key) start (partsL l (m + 2)) (m + 2)).drop (16 * m)).take 16 := (chnL_at hel (by omega)).symm
  have hm2 : chnH (c.enc key) start (partsL l (m + 2)) (m + 2) = ((chnL (c.enc key) start (partsL l (m + 2)) (m + 2)).drop (16 * (m + 1))).take 16 := (chnL_at hel (by omega)).symm
  have hm2d : c.dec key (chnH (c.enc key) start (partsL l (m + 2)) (m + 2)) = (List.range 16).map fun i => (((partsL l (m + 2)).drop (16 * (m + 1))).take 16).getD i 0 ^^^ (chnH (c.enc key) start (partsL l (m + 2)) (m + 1)).getD i 0 := by
    rw [chnH, hen _ (by simp)]
  rw [hm1, hm2] at hm2d
  generalize hC : chnL (c.enc key) start (partsL l (m + 2)) (m + 2) = C at *
  obtain ⟨X, B, A, rfl, hX, hB, hA⟩ := three hCl
  have e1 : List.drop (16 * m) (X ++ (B ++ A)) = B ++ A := List.drop_left' hX
  have e2 : List.drop (16 * (m + 1)) (X ++ (B ++ A)) = A := by rw [← List.append_assoc]; exact List.drop_left' (by rw [List.length_append]; omega)
  have e3 : List.take 16 (B ++ A) = B := List.take_left' hB
  have e4 : List.take 16 A = A := List.take_of_length_le (by omega)
  have e5 : List.take (16 * m) (X ++ (B ++ A)) = X := List.take_left' hX
  rw [e1, e2, e3, e4] at hm2d
  have hS : c.steal key start l = X ++ (A ++ B.take r) := by
    rw [hst]
    unfold swapL
    rw [e1, e2, e3, e4, e5, List.append_assoc, List.take_append, List.take_of_length_le (by omega), List.take_append, List.take_of_length_le (by omega), hlr, hX, hA]
    congr 3; omega
  have hSl : (c.steal key start l).length = l.length := by rw [hS]; simp only [List.length_append, List.length_take]; omega
  refine ⟨?_, hSl⟩
  obtain ⟨q1, q2, q3⟩ := parts_blk (hSl.trans hlr) ⟨hr1, hr2⟩
  have hPl := partsL_len (c.steal key start l) (m + 2)
  have s1 : (c.steal key start l).take (16 * m) = X := by rw [hS]; exact List.take_left' hX
  have s2 : ((c.steal key start l).drop (16 * m)).take 16 = A := by rw [hS, List.drop_left' hX]; exact List.take_left' hA
  have s3 : (c.steal key start l).drop (16 * (m + 1)) = B.take r := by rw [hS, ← List.append_assoc]; exact List.drop_left' (by rw [List.length_append]; omega)
  have hmix : c.mixL key (c.steal key start l) m = X ++ (B ++ A) := by
    unfold Cip.mixL
    simp only
    rw [spl_two hPl (befB_len _ _ _), q1, q2, q3, s1, s2, s3]
    congr 2
    refine ext_getD (n := 16) (befB_len _ _ _) hB fun j hj => ?_
    unfold befB
    rw [map_getD hj, hSl, hlr, Nat.add_sub_cancel_left]
    split
    · rename_i h
      rw [fillB_get hj, List.getD_eq_getElem?_getD, List.getElem?_take, if_pos h, ← List.getD_eq_getElem?_getD]
    · rename_i h
      rw [hm2d]
      have h2 := map_getD (g := fun i => (((partsL l (m + 2)).drop (16 * (m + 1))).take 16).getD i 0 ^^^ B.getD i 0) hj
      unfold tab at h2
      rw [h2, drop_take_getD hj, hz, List.getD_eq_getElem?_getD, List.getElem?_append_right (by omega), List.getElem?_replicate, if_pos (by omega)]
      exact UInt8.zero_xor
  unfold Cip.unsteal
  rw [hSl, hK, show m + 2 - 2 = m from rfl, hmix, hback, hz, List.take_take, show min l.length (16 * (m + 2)) = l.length by omega, List.take_left' rfl]
end Go.Proofs.YtmhjalagcnhfiaaGreat

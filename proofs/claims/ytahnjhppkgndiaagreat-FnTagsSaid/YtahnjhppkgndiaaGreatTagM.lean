import Derived.Test.YtahnjhppkgndiaaGreatSearch
import Derived.Test.YtahnjhppkgndiaaGreatStreamC
import Derived.Test.YtahnjhppkgndiaaGreatChnC
/- Tags, streams, searches: both sides at once, and what a code of zero tells. -/
set_option linter.unusedSimpArgs false
set_option linter.unusedVariables false
namespace Go.Proofs.YtahnjhppkgndiaaGreat
open Go Go.Vc
set_option maxRecDepth 10000
set_option maxHeartbeats 4000000
theorem schF_tells (c : Cip) (l : List UInt8) (zs : Int) : ∀ f k, (schF c l zs f k).2 = 0 → ∃ j : Nat, (schF c l zs f k).1 = j ∧ k ≤ j ∧ j < k + f ∧ ((zerosL (c.dig (l ++ [UInt8.ofInt (j : Int)])) : Nat) : Int) ≥ zs
  | 0, k, h => by simp [schF] at h
  | f + 1, k, h => by
    rw [schF] at h ⊢
    split
    · rename_i hz
      exact ⟨k, rfl, Nat.le_refl _, by omega, hz⟩
    · rename_i hz
      rw [if_neg hz] at h
      obtain ⟨j, e, h1, h2, h3⟩ := schF_tells c l zs f (k + 1) h
      exact ⟨j, e, by omega, by omega, h3⟩
theorem search_two (z n : Int) (box A pl l : List UInt8) (q : Nat) (hq : l.length ≤ q) (hb : box.length = 256) (hA : A.length = 16) (hp : pl.length = 16) (zs : Int) (hl : l.length ≤ 2097152) : ∃ a e : Int,
    LC Tryz.prog 24 [.a (cipC z box A pl n), .s 0 0 l.length q, .c (.int .i64 (zs))] [⟨false, bs l⟩] (fun v hp => v = .t [.c (.int .i64 (a)), .c (.int .i64 (e))] ∧ hp = [⟨false, bs l⟩]) ∧
    LC Tryz.prog 23 [.a (cipC z box A pl n), .s 0 0 l.length q, .c (.int .i64 (zs))] [⟨false, bs l⟩] (fun v hp => v = .t [.c (.int .i64 (a)), .c (.int .i64 (e))] ∧ hp = [⟨false, bs l⟩]) ∧
    (e ≠ 0 ∨ (e = 0 ∧ l.length ≤ 100 ∧ ∃ (c : Cip) (j : Nat), z = c.m ∧ box = c.box ∧ A = c.A ∧ pl = c.pl ∧ n = c.n ∧ a = j ∧ j ≤ 100 ∧ ((zerosL (c.dig (l ++ [UInt8.ofInt (j : Int)])) : Nat) : Int) ≥ zs)) := by
  cases hB : cipB z box A pl n with
  | false => exact ⟨0, 1, c_spec_SearchDigest_no z n box A pl l q hb hA hp zs hl hB, c_impl_SearchDigest_no z n box A pl l q hb hA hp zs hl hB, .inl (by decide)⟩
  | true =>
    obtain ⟨c, rfl, rfl, rfl, rfl, rfl⟩ := cip_of hb hA hp hB
    by_cases hr : l.length ≤ 100 ∧ 0 ≤ zs ∧ zs ≤ 8
    · refine ⟨_, _, c_spec_SearchDigest_k c l q hq zs hr.1 hr.2.1 hr.2.2, c_impl_SearchDigest_k c l q hq zs hr.1 hr.2.1 hr.2.2, ?_⟩
      by_cases h0 : (schF c l zs 101 0).2 = 0
      · obtain ⟨j, e, h1, h2, h3⟩ := schF_tells c l zs 101 0 h0
        exact .inr ⟨h0, hr.1, c, j, rfl, rfl, rfl, rfl, rfl, e, by omega, h3⟩
      · exact .inl h0
    · exact ⟨0, 2, c_spec_SearchDigest_range c l q zs hl hr, c_impl_SearchDigest_range c l q zs hl hr, .inl (by decide)⟩
theorem stream_two (z n : Int) (box A pl key nonce : List UInt8) (hb : box.length = 256) (hA : A.length = 16) (hp : pl.length = 16) (hk : key.length = 16) (hn : nonce.length = 16) (zs : Int) : ∃ (o : List UInt8) (e : Int), o.length ≤ 2000 ∧
    LC Tryz.prog 12 [.a (cipC z box A pl n), .a (bs key), .a (bs nonce), .c (.int .i64 (zs))] [] (Ret [] (fun _ : Nat => True) fun r => (.t [.s 0 0 o.length (o.length + r), .c (.int .i64 (e))], [⟨true, bs o ++ List.replicate r .j⟩])) ∧
    LC Tryz.prog 11 [.a (cipC z box A pl n), .a (bs key), .a (bs nonce), .c (.int .i64 (zs))] [] (Ret [] (fun _ : Nat => True) fun r => (.t [.s 0 0 o.length (o.length + r), .c (.int .i64 (e))], [⟨true, bs o ++ List.replicate r .j⟩])) ∧
    (e ≠ 0 ∨ (e = 0 ∧ zs = o.length ∧ ∀ k : Nat, k ≤ o.length → LC Tryz.prog 11 [.a (cipC z box A pl n), .a (bs key), .a (bs nonce), .c (.int .i64 (k))] [] (Ret [] (fun _ : Nat => True) fun r => (.t [.s 0 0 (o.take k).length ((o.take k).length + r), .c (.int .i64 (0))], [⟨true, bs (o.take k) ++ List.replicate r .j⟩])))) := by
  cases hB : cipB z box A pl n with
  | false => exact ⟨[], 1, by simp, LC_nil (c_spec_StreamOf_no z n box A pl key nonce hb hA hp hk hn zs hB) (none_uni 1), LC_nil (c_impl_StreamOf_no z n box A pl key nonce hb hA hp hk hn zs hB) (none_uni 1), .inl (by decide)⟩
  | true =>
    obtain ⟨c, rfl, rfl, rfl, rfl, rfl⟩ := cip_of hb hA hp hB
    by_cases hr : 0 ≤ zs ∧ zs ≤ 2000
    · obtain ⟨m, rfl⟩ : ∃ m : Nat, zs = m := ⟨zs.toNat, by omega⟩
      refine ⟨c.outS key nonce m, 0, by rw [outS_len]; omega, c_spec_StreamOf_k c key nonce hk hn m (by omega), c_impl_StreamOf_k c key nonce hk hn m (by omega), .inr ⟨rfl, by rw [outS_len], fun k hkm => ?_⟩⟩
      rw [outS_len] at hkm
      have e : (c.outS key nonce m).take k = c.outS key nonce k := by
        have h1 := strm_take (c := c) (key := key) (nonce := nonce) (n := k) (k := (k + 31) / 32) (by omega) (Nat.le_refl _)
        have h2 : ∀ a b, a ≤ b → c.strm key nonce a = (c.strm key nonce b).take (32 * a) := fun a b hab => by
          induction b with
          | zero => obtain rfl : a = 0 := by omega
                    rw [List.take_of_length_le (by rw [strm_len]; omega)]
          | succ b ih =>
            rcases Nat.lt_or_ge a (b + 1) with h | h
            · rw [Cip.strm, List.take_append_of_le_length (by rw [strm_len]; omega)]
              exact ih (by omega)
            · obtain rfl : a = b + 1 := by omega
              rw [List.take_of_length_le (by rw [strm_len]; omega)]
        rw [← h1]
        unfold Cip.outS
        rw [List.take_take, Nat.min_eq_left hkm, h2 ((k + 31) / 32) ((m + 31) / 32) (by omega), List.take_take, Nat.min_eq_left (by omega)]
      rw [e]
      have hl : (c.outS key nonce k).length = k := outS_len k
      have key1 := c_impl_StreamOf_k c key nonce hk hn k (by omega)
      exact key1
    · exact ⟨[], 2, by simp, LC_nil (c_spec_StreamOf_range c key nonce hk hn zs hr) (none_uni 2), LC_nil (c_impl_StreamOf_range c key nonce hk hn zs hr) (none_uni 2), .inl (by decide)⟩
theorem fbF_tells (A B : List UInt8) : ∀ f i, i ≤ fbF A B f i ∧ fbF A B f i ≤ i + f ∧ (∀ j, i ≤ j → j < fbF A B f i → dgA A j = dgA B j) ∧ (fbF A B f i < i + f → dgA A (fbF A B f i) ≠ dgA B (fbF A B f i))
  | 0, i => ⟨Nat.le_refl _, Nat.le_refl _, fun j h1 h2 => by rw [fbF] at h2; omega, fun h => by rw [fbF] at h; omega⟩
  | f + 1, i => by
    rw [fbF]
    split
    · rename_i he
      obtain ⟨h1, h2, h3, h4⟩ := fbF_tells A B f (i + 1)
      refine ⟨by omega, by omega, fun j hj hj2 => ?_, fun h => h4 (by omega)⟩
      rcases Nat.lt_or_ge i j with h | h
      · exact h3 j h hj2
      · obtain rfl : j = i := by omega
        exact he
    · rename_i he
      exact ⟨Nat.le_refl _, by omega, fun j h1 h2 => by omega, fun _ => he⟩
/-- What both chains hand back: k tags T, the code e, room for r more. -/
def chS (n k : Nat) (T : List UInt8) (e : Int) (r : Nat) : V × List Blk := (.t [.s (n + 1) 0 k (k + r), .c (.int .i64 (e))], [⟨true, bs T ++ List.replicate (32 * r) .j⟩])
theorem none_uniT (n : Nat) (e : Int) : ∀ _ : Unit, True → ∃ r : Nat, True ∧ nilV ((fun _ : Unit => (V.t [.c (.slice none 0 0), .c (.int .i64 (e))], ([] : List Blk))) ()).1 (chS n 0 [] e r).1 ∧ ∃ ex, (chS n 0 [] e r).2 = ((fun _ : Unit => (V.t [.c (.slice none 0 0), .c (.int .i64 (e))], ([] : List Blk))) ()).2 ++ ex ∧ ∀ b ∈ ex, b.cells = [] :=
  fun _ _ => ⟨0, trivial, by simp [chS, nilV, nilVs], _, by simp [chS, bs_nil]; rfl, by simp⟩
theorem fbch (z n : Int) (box A pl key U : List UInt8) (hb : box.length = 256) (hA : A.length = 16) (hp : pl.length = 16) (hk : key.length = 16) (D : List (List UInt8 × Nat)) (c m ct : Nat) (hm : D.length ≤ 1048576) (hmm : m ≤ 1048576) (hL : ∀ p ∈ D, p.1.length ≤ p.2 ∧ p.1.length ≤ 1048576) (hU : U.length = 32 * m) (hct : m ≤ ct) : ∃ (v e : Int) (k : Nat) (T : List UInt8) (e2 : Int), T.length = 32 * k ∧ k ≤ 20 ∧
    LC Tryz.prog 18 [.a (cipC z box A pl n), .a (bs key), .s 0 0 D.length c, .s (D.length + 1) 0 m ct] (⟨false, ptrV 1 (bPs D)⟩ :: (partB false (bPs D) ++ [⟨false, bs U⟩])) (fun x hp => x = .t [.c (.int .i64 (v)), .c (.int .i64 (e))] ∧ hp = (⟨false, ptrV 1 (bPs D)⟩ :: (partB false (bPs D) ++ [⟨false, bs U⟩]))) ∧
    LC Tryz.prog 17 [.a (cipC z box A pl n), .a (bs key), .s 0 0 D.length c, .s (D.length + 1) 0 m ct] (⟨false, ptrV 1 (bPs D)⟩ :: (partB false (bPs D) ++ [⟨false, bs U⟩])) (fun x hp => x = .t [.c (.int .i64 (v)), .c (.int .i64 (e))] ∧ hp = (⟨false, ptrV 1 (bPs D)⟩ :: (partB false (bPs D) ++ [⟨false, bs U⟩]))) ∧
    LC Tryz.prog 20 [.a (cipC z box A pl n), .a (bs key), .s 0 0 D.length c] (⟨false, ptrV 1 (bPs D)⟩ :: partB false (bPs D)) (Ret (⟨false, ptrV 1 (bPs D)⟩ :: partB false (bPs D)) (fun _ : Nat => True) (chS D.length k T e2)) ∧
    LC Tryz.prog 19 [.a (cipC z box A pl n), .a (bs key), .s 0 0 D.length c] (⟨false, ptrV 1 (bPs D)⟩ :: partB false (bPs D)) (Ret (⟨false, ptrV 1 (bPs D)⟩ :: partB false (bPs D)) (fun _ : Nat => True) (chS D.length k T e2)) ∧
    (e ≠ 0 ∨ (e = 0 ∧ k = m ∧ ∃ w : Nat, v = w ∧ w ≤ m ∧ (∀ i, i < w → dgA T i = dgA U i) ∧ (w < m → dgA T w ≠ dgA U w))) := by
  by_cases hB : cipB z box A pl n = true ∧ D.length ≤ 20 ∧ bigB D = false
  · obtain ⟨h1, h2, h3⟩ := hB
    have hL' : ∀ p ∈ D, p.1.length ≤ p.2 ∧ p.1.length ≤ 2000 := fun p hp => ⟨(hL p hp).1, bigB_all h3 p hp⟩
    by_cases hE : D.length = m
    · subst hE
      obtain ⟨c', rfl, rfl, rfl, rfl, rfl⟩ := cip_of hb hA hp h1
      obtain ⟨f1, f2, f3, f4⟩ := fbF_tells (tgL c' key D D.length) U D.length 0
      exact ⟨_, _, D.length, tgL c' key D D.length, 0, tgL_len _, h2, k_spec_FirstBroken c' key U hk D c ct h2 hL' hU hct, k_impl_FirstBroken c' key U hk D c ct h2 hL' hU hct, k_spec_ChainOfTags c' key hk D c h2 hL', k_impl_ChainOfTags c' key hk D c h2 hL',
        .inr ⟨rfl, rfl, _, rfl, by omega, fun i hi => f3 i (Nat.zero_le _) hi, fun h => f4 (by omega)⟩⟩
    · have s1 := c_spec_FirstBroken_no z n box A pl key U hb hA hp hk D c m ct hm hmm (fun p hp => (hL p hp).2) (fun h => hE h.2)
      have s2 := c_impl_FirstBroken_no z n box A pl key U hb hA hp hk D c m ct hm hmm hL (fun h => hE h.2)
      have ne : (if lstE z box A pl n D = 0 then 2 else lstE z box A pl n D) ≠ 0 := by split <;> omega
      obtain ⟨c', rfl, rfl, rfl, rfl, rfl⟩ := cip_of hb hA hp h1
      exact ⟨_, _, D.length, tgL c' key D D.length, 0, tgL_len _, h2, s1, s2, k_spec_ChainOfTags c' key hk D c h2 hL', k_impl_ChainOfTags c' key hk D c h2 hL', .inl ne⟩
  · have hE' := lstE_no (z := z) (n := n) (box := box) (A := A) (pl := pl) (D := D) hB
    have ne : (if lstE z box A pl n D = 0 then 2 else lstE z box A pl n D) ≠ 0 := by rw [if_neg hE']; exact hE'
    exact ⟨_, _, 0, [], lstE z box A pl n D, rfl, by omega, c_spec_FirstBroken_no z n box A pl key U hb hA hp hk D c m ct hm hmm (fun p hp => (hL p hp).2) (fun h => hE' h.1), c_impl_FirstBroken_no z n box A pl key U hb hA hp hk D c m ct hm hmm hL (fun h => hE' h.1),
      LC_nil (c_spec_ChainOfTags_no z n box A pl key hb hA hp hk D c hm (fun p hp => (hL p hp).2) hE') (none_uniT _ _), LC_nil (c_impl_ChainOfTags_no z n box A pl key hb hA hp hk D c hm hE') (none_uniT _ _), .inl ne⟩
end Go.Proofs.YtahnjhppkgndiaaGreat

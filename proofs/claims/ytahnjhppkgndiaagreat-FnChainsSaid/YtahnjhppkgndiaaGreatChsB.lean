import Derived.Test.YtahnjhppkgndiaaGreatFltA
import Derived.Test.YtahnjhppkgndiaaGreatModG
import Derived.Test.YtahnjhppkgndiaaGreatModH
import Derived.Test.YtahnjhppkgndiaaGreatModN
import Derived.Test.YtahnjhppkgndiaaGreatConcatB
/- FnChains: the program and the reference told once, with what is known of the answers. -/
set_option linter.unusedSimpArgs false
set_option linter.unusedVariables false
namespace Go.Proofs.YtahnjhppkgndiaaGreat
open Go Go.Vc
set_option maxRecDepth 10000
set_option maxHeartbeats 40000000
/-- What is handed back: data and a code. -/
def outU (o : List UInt8) (e : Int) : Nat → V × List Blk := fun r => (.t [.s 1 0 o.length (o.length + r), .c (.int .i64 (e))], [⟨true, bs o ++ List.replicate r .j⟩])
theorem outV_ok {t : List UInt8} : outV (.ok t) = outU t 0 := rfl
theorem outV_err (e : Int) : ∀ _ : Nat, True → ∃ r : Nat, True ∧ nilV (outV (.error e) 0).1 (outU [] e r).1 ∧ ∃ ex, (outU [] e r).2 = (outV (.error e) 0).2 ++ ex ∧ ∀ b ∈ ex, b.cells = [] :=
  fun _ _ => ⟨0, trivial, by simp [outU, outV, nilV, nilVs], _, by simp [outU, outV, bs_nil]; rfl, by simp⟩
theorem two_Pad (l : List UInt8) (q : Nat) (hq : l.length ≤ q) : ∃ (o : List UInt8) (e : Int),
    LC Tryz.prog 55 [.s 0 0 l.length q] [⟨false, bs l⟩] (Ret [⟨false, bs l⟩] (fun _ : Nat => True) (outU o e)) ∧
    LC Tryz.prog 54 [.s 0 0 l.length q] [⟨false, bs l⟩] (Ret [⟨false, bs l⟩] (fun _ : Nat => True) (outU o e)) ∧
    ((e ≠ 0 ∧ o = []) ∨ (e = 0 ∧ l.length ≤ 2000 ∧ o = padL l)) := by
  have hs := c_spec_PadBlocks l q hq
  have hi := c_impl_PadBlocks l q hq
  unfold padR at hs hi
  by_cases h : l.length ≤ 2000
  · rw [if_pos h] at hs hi
    exact ⟨padL l, 0, hs, hi, .inr ⟨rfl, h, rfl⟩⟩
  · rw [if_neg h] at hs hi
    exact ⟨[], 2, LC_nil hs (outV_err 2), LC_nil hi (outV_err 2), .inl ⟨by decide, rfl⟩⟩
theorem two_Unpad (l : List UInt8) (q : Nat) (hq : l.length ≤ q) : ∃ (o : List UInt8) (e : Int), o.length ≤ 2000 ∧
    LC Tryz.prog 59 [.s 0 0 l.length q] [⟨false, bs l⟩] (Ret [⟨false, bs l⟩] (fun _ : Nat => True) (outU o e)) ∧
    LC Tryz.prog 57 [.s 0 0 l.length q] [⟨false, bs l⟩] (Ret [⟨false, bs l⟩] (fun _ : Nat => True) (outU o e)) ∧
    (∀ t : List UInt8, l = padL t → t.length ≤ 2000 → e = 0 ∧ o = t) := by
  have hs := c_spec_UnpadBlocks l q hq
  have hi := c_impl_UnpadBlocks l q hq
  unfold unpadR at hs hi
  by_cases h : l.length ≤ 2016
  · rw [if_pos h] at hs hi
    cases hu : unp l with
    | some t =>
      rw [hu] at hs hi
      refine ⟨t, 0, unp_len hu, hs, hi, fun t' e1 e2 => ⟨rfl, ?_⟩⟩
      rw [unp_some e1.symm e2] at hu
      cases hu; rfl
    | none =>
      rw [hu] at hs hi
      refine ⟨[], 5, by simp, LC_nil hs (outV_err 5), LC_nil hi (outV_err 5), fun t' e1 e2 => ?_⟩
      rw [unp_some e1.symm e2] at hu
      cases hu
  · rw [if_neg h] at hs hi
    refine ⟨[], 2, by simp, LC_nil hs (outV_err 2), LC_nil hi (outV_err 2), fun t' e1 e2 => ?_⟩
    rw [e1, padL_len] at h
    omega
section
variable {z n : Int} {box A pl key start l : List UInt8} {q : Nat}
theorem two_ChE (hb : box.length = 256) (hA : A.length = 16) (hp : pl.length = 16) (hkey : key.length = 16) (hstart : start.length = 16) (hq : l.length ≤ q) : ∃ (o : List UInt8) (e : Int), o.length ≤ 2016 ∧
    LC Tryz.prog 62 [.a (cipC z box A pl n), .a (bs key), .a (bs start), .s 0 0 l.length q] [⟨false, bs l⟩] (Ret [⟨false, bs l⟩] (fun _ : Nat => True) fun r => (.t [.s 1 0 o.length (o.length + r), .c (.int .i64 (e))], [⟨true, bs o ++ List.replicate r .j⟩])) ∧
    LC Tryz.prog 61 [.a (cipC z box A pl n), .a (bs key), .a (bs start), .s 0 0 l.length q] [⟨false, bs l⟩] (Ret [⟨false, bs l⟩] (fun _ : Nat => True) fun r => (.t [.s 1 0 o.length (o.length + r), .c (.int .i64 (e))], [⟨true, bs o ++ List.replicate r .j⟩])) ∧
    ((e ≠ 0 ∧ o = []) ∨ (e = 0 ∧ 16 ≤ o.length ∧ l.length ≤ 2000 ∧ ∃ c : Cip, z = c.m ∧ box = c.box ∧ A = c.A ∧ pl = c.pl ∧ n = c.n ∧ o = chnL (c.enc key) start (padL l) ((padL l).length / 16))) := by
  rcases modE_cases (z := z) (n := n) hb hA hp l 0 2000 with hE | ⟨h, c, rfl, rfl, rfl, rfl, rfl⟩
  · exact ⟨[], modE z box A pl n l.length 0 2000, by simp, LC_nil (c_spec_ChainEncipher_bad z n box A pl key start l q hb hA hp hkey hstart hE) (none_uni1 _), LC_nil (c_impl_ChainEncipher_bad z n box A pl key start l q hb hA hp hkey hstart hE) (none_uni1 _), .inl ⟨hE, rfl⟩⟩
  · have hl := chnL_len (start := start) (data := padL l) (fun x => enc_len (c := c) key x) ((padL l).length / 16)
    have hpl := padL_len l
    exact ⟨chnL (c.enc key) start (padL l) ((padL l).length / 16), 0, by rw [hl]; omega, c_spec_ChainEncipher_k c key start l q hkey hstart hq h, c_impl_ChainEncipher_k c key start l q hkey hstart hq h, .inr ⟨rfl, by rw [hl]; omega, h.2, c, rfl, rfl, rfl, rfl, rfl, rfl⟩⟩
/-- What was chained comes back. -/
theorem chD_back (c : Cip) (hkey : key.length = 16) (hstart : start.length = 16) (hl : l.length ≤ 2000) {o : List UInt8} (ho : o = chnL (c.enc key) start (padL l) ((padL l).length / 16)) (hq : o.length ≤ q) :
    LC Tryz.prog 63 [.a (cipC c.m c.box c.A c.pl c.n), .a (bs key), .a (bs start), .s 0 0 o.length q] [⟨false, bs o⟩] (Ret [⟨false, bs o⟩] (fun _ : Nat => True) fun r => (.t [.s 1 0 l.length (l.length + r), .c (.int .i64 (0))], [⟨true, bs l ++ List.replicate r .j⟩])) := by
  have hol : o.length = 16 * ((padL l).length / 16) := by rw [ho]; exact chnL_len (fun x => enc_len key x) _
  have hpl := padL_len l
  have hp16 : (padL l).length = 16 * ((padL l).length / 16) := by omega
  have hi := c_impl_ChainDecipher_k c key start o q ((padL l).length / 16) hkey hstart hq ⟨by omega, by omega⟩ hol
  have hb := chain_back (start := start) (P := padL l) (fun x => enc_len (c := c) key x) (fun s hs => c.dec_enc key hs) (show 16 * ((padL l).length / 16) ≤ (padL l).length by omega) ((padL l).length / 16) (Nat.le_refl _)
  rw [← ho, ← hp16, List.take_length] at hb
  rw [hb, unp_some rfl hl] at hi
  exact hi
theorem two_Flt (p : Int) (hb : box.length = 256) (hA : A.length = 16) (hp : pl.length = 16) (hkey : key.length = 16) (hstart : start.length = 16) (hq : l.length ≤ q) : ∃ (o : List Int) (e : Int), o.length ≤ 4096 ∧
    LC Tryz.prog 68 [.a (cipC z box A pl n), .a (bs key), .a (bs start), .s 0 0 l.length q, .c (.int .i64 (p))] [⟨false, bs l⟩] (Ret [⟨false, bs l⟩] (fun _ : Nat => True) fun r => (.t [.s 1 0 o.length (o.length + r), .c (.int .i64 (e))], [⟨true, nsv o ++ List.replicate r .j⟩])) ∧
    LC Tryz.prog 67 [.a (cipC z box A pl n), .a (bs key), .a (bs start), .s 0 0 l.length q, .c (.int .i64 (p))] [⟨false, bs l⟩] (Ret [⟨false, bs l⟩] (fun _ : Nat => True) fun r => (.t [.s 1 0 o.length (o.length + r), .c (.int .i64 (e))], [⟨true, nsv o ++ List.replicate r .j⟩])) ∧
    ((e ≠ 0 ∧ o = []) ∨ (e = 0 ∧ o ≠ [] ∧ ∃ i : Nat, p = i ∧ i < l.length ∧ l.length ≤ 2016 ∧ (∀ x ∈ o, ∃ k : Nat, x = k ∧ (k / 16 = i / 16 ∨ k = i + 16)) ∧ (i + 16 < l.length → ∃ L : List Int, o = L ++ [((i + 16 : Nat) : Int)]))) := by
  rcases modE_cases (z := z) (n := n) hb hA hp l 0 2016 with hE | ⟨h, c, rfl, rfl, rfl, rfl, rfl⟩
  · exact ⟨[], modE z box A pl n l.length 0 2016, by simp, LC_nil (c_spec_FaultPlaces_bad z n box A pl key start l q p hb hA hp hkey hstart hE) (none_uniQ _), LC_nil (c_impl_FaultPlaces_bad z n box A pl key start l q p hb hA hp hkey hstart hE) (none_uniQ _), .inl ⟨hE, rfl⟩⟩
  by_cases hz : l.length = 0
  · exact ⟨[], 5, by simp, LC_nil (c_spec_FaultPlaces_nil c key start l q p hkey hstart hq h hz) (none_uniQ _), LC_nil (c_impl_FaultPlaces_nil c key start l q p hkey hstart hq h hz) (none_uniQ _), .inl ⟨by decide, rfl⟩⟩
  by_cases h16 : l.length % 16 ≠ 0
  · exact ⟨[], 5, by simp, LC_nil (c_spec_FaultPlaces_len c key start l q p hkey hstart hq h h16) (none_uniQ _), LC_nil (c_impl_FaultPlaces_len c key start l q p hkey hstart hq h h16) (none_uniQ _), .inl ⟨by decide, rfl⟩⟩
  obtain ⟨K, hK⟩ : ∃ K, l.length = 16 * (K + 1) := ⟨l.length / 16 - 1, by omega⟩
  by_cases hr : 0 ≤ p ∧ p ≤ (l.length : Int) - 1
  · obtain ⟨i, rfl⟩ : ∃ i : Nat, p = i := ⟨p.toNat, by omega⟩
    obtain ⟨f1, f2, f3⟩ := flt_spec c key start hK (show i < l.length by omega)
    exact ⟨c.flt key start l i K, 0, by unfold Cip.flt; have := difL_len (unchL (c.dec key) start l (K + 1)) (unchL (c.dec key) start (l.set i (l.getD i 0 ^^^ 1)) (K + 1)) (16 * (K + 1)); omega, c_spec_FaultPlaces_k c key start l q i K hkey hstart hq h hK (by omega), c_impl_FaultPlaces_k c key start l q i K hkey hstart hq h hK (by omega), .inr ⟨rfl, f2, i, rfl, by omega, h.2, f1, f3⟩⟩
  · exact ⟨[], 2, by simp, LC_nil (c_spec_FaultPlaces_rng c key start l q p hkey hstart hq h K hK hr) (none_uniQ _), LC_nil (c_impl_FaultPlaces_rng c key start l q p hkey hstart hq h K hK hr) (none_uniQ _), .inl ⟨by decide, rfl⟩⟩
end
end Go.Proofs.YtahnjhppkgndiaaGreat

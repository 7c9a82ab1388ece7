import Derived.Test.YtmhjalagcnhfiaaGreatModM
/- Counting twice, feedback back, the first block of both: in plain lists. No program in sight. -/
set_option linter.unusedSimpArgs false
set_option linter.unusedVariables false
namespace Go.Proofs.YtmhjalagcnhfiaaGreat
open Go Go.Vc
set_option maxHeartbeats 4000000
theorem u8_xx (a m : UInt8) : a ^^^ m ^^^ m = a := by rw [UInt8.xor_assoc, UInt8.xor_self, UInt8.xor_zero]
theorem cntL_get {enc : List UInt8 → List UInt8} {start l : List UInt8} {i : Nat} (h : i < l.length) : (cntL enc start l).getD i 0 = l.getD i 0 ^^^ (enc (cntB start (i / 16))).getD (i % 16) 0 := map_getD (g := fun i => l.getD i 0 ^^^ (enc (cntB start (i / 16))).getD (i % 16) 0) h
theorem fedL_get {enc : List UInt8 → List UInt8} {b : Bool} {start l : List UInt8} {i : Nat} (h : i < l.length) : (fedL enc b start l).getD i 0 = l.getD i 0 ^^^ (enc (fedH enc b start l (i / 16))).getD (i % 16) 0 := map_getD (g := fun i => l.getD i 0 ^^^ (enc (fedH enc b start l (i / 16))).getD (i % 16) 0) h
theorem cntL_twice (enc : List UInt8 → List UInt8) (start l : List UInt8) : cntL enc start (cntL enc start l) = l := by
  refine ext_getD (n := l.length) (by rw [cntL_len, cntL_len]) rfl fun i hi => ?_
  rw [cntL_get (by rw [cntL_len]; exact hi), cntL_get hi, u8_xx]
theorem drop_take_getD {l : List UInt8} {k n i : Nat} (h : i < n) : ((l.drop k).take n).getD i 0 = l.getD (k + i) 0 := by
  rw [List.getD_eq_getElem?_getD, List.getElem?_take, if_pos h, List.getElem?_drop, ← List.getD_eq_getElem?_getD]
theorem fedH_there {enc : List UInt8 → List UInt8} {start l : List UInt8} : ∀ k, 16 * k ≤ l.length → fedH enc true start (fedL enc false start l) k = fedH enc false start l k
  | 0, _ => rfl
  | k + 1, hk => by
    rw [fedH, fedH, if_pos rfl, if_neg (by decide)]
    refine ext_getD (n := 16) (by rw [List.length_take, List.length_drop, fedL_len]; omega) (by simp) fun i hi => ?_
    rw [drop_take_getD hi, fedL_get (by omega), show (16 * k + i) / 16 = k by omega, show (16 * k + i) % 16 = i by omega]
    exact (map_getD (g := fun i => l.getD (16 * k + i) 0 ^^^ (enc (fedH enc false start l k)).getD i 0) hi).symm
theorem fedL_back (enc : List UInt8 → List UInt8) (start l : List UInt8) : fedL enc true start (fedL enc false start l) = l := by
  refine ext_getD (n := l.length) (by rw [fedL_len, fedL_len]) rfl fun i hi => ?_
  rw [fedL_get (by rw [fedL_len]; exact hi), fedL_get hi, fedH_there _ (by omega), u8_xx]
theorem fed_cnt_first (enc : List UInt8 → List UInt8) (start l : List UInt8) {n : Nat} (hn : n ≤ 16) (hl : n ≤ l.length) : (fedL enc false start l).take n = (cntL enc start l).take n := by
  refine ext_getD (n := n) (by rw [List.length_take, fedL_len]; omega) (by rw [List.length_take, cntL_len]; omega) fun i hi => ?_
  have h0 := fun X : List UInt8 => (drop_take_getD (l := X) (k := 0) hi)
  simp only [List.drop_zero, Nat.zero_add] at h0
  rw [h0, h0, fedL_get (by omega), cntL_get (by omega), show i / 16 = 0 by omega]
  rfl
end Go.Proofs.YtmhjalagcnhfiaaGreat

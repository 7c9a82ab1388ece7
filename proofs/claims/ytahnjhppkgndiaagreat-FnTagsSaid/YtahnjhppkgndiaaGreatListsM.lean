import Derived.Test.YtahnjhppkgndiaaGreatTk
import Derived.Test.YtahnjhppkgndiaaGreatEnv
/- Lists of bytes that are filled place by place. No program in sight. -/
set_option linter.unusedSimpArgs false
set_option linter.unusedVariables false
namespace Go.Proofs.YtahnjhppkgndiaaGreat
open Go Go.Vc
/-- The n bytes that g tells. -/
def tab (n : Nat) (g : Nat → UInt8) : List UInt8 := (List.range n).map g
/-- n bytes: the first i of them are g's, the others f0's. -/
def fl (n : Nat) (f0 g : Nat → UInt8) (i : Nat) : List UInt8 := (List.range n).map fun x => if x < i then g x else f0 x
theorem fl_len (n : Nat) (f0 g : Nat → UInt8) (i : Nat) : (fl n f0 g i).length = n := by simp [fl]
theorem fl_get {n : Nat} {f0 g : Nat → UInt8} {i j : Nat} (h : j < n) : (fl n f0 g i).getD j 0 = if j < i then g j else f0 j := by
  simp [fl, List.getD, h]
theorem fl_at {n : Nat} {f0 g : Nat → UInt8} {i : Nat} (h : i < n) : (fl n f0 g i).getD i 0 = f0 i := by rw [fl_get h]; simp
theorem fl_set {n : Nat} {f0 g : Nat → UInt8} {i : Nat} {v : UInt8} (h : i < n) (hv : v = g i) : (fl n f0 g i).set i v = fl n f0 g (i + 1) := by
  subst hv
  apply List.ext_getElem?
  intro j
  rw [List.getElem?_set]
  simp only [fl, List.length_map, List.length_range, List.getElem?_map]
  by_cases hj : i = j
  · subst hj; simp [h]
  · rw [if_neg hj]
    rcases Nat.lt_or_ge j n with hjn | hjn
    · simp only [List.getElem?_range hjn, Option.map_some, Option.some.injEq]
      by_cases h1 : j < i
      · rw [if_pos h1, if_pos (by omega)]
      · rw [if_neg h1, if_neg (by omega)]
    · rw [List.getElem?_eq_none (by simpa using hjn)]; rfl
theorem fl_done (n : Nat) (f0 g : Nat → UInt8) : fl n f0 g n = tab n g := by
  unfold fl tab; exact List.map_congr_left fun x hx => by rw [List.mem_range] at hx; rw [if_pos hx]
theorem range_getD {l : List UInt8} {n : Nat} (h : l.length = n) : tab n (fun i => l.getD i 0) = l := by
  subst h; unfold tab
  apply List.ext_getElem?
  intro j
  rcases Nat.lt_or_ge j l.length with hj | hj
  · simp [hj]
  · rw [List.getElem?_eq_none (by simpa using hj), List.getElem?_eq_none hj]
theorem fl_start {l : List UInt8} {n : Nat} (h : l.length = n) (g : Nat → UInt8) : l = fl n (fun i => l.getD i 0) g 0 := by
  unfold fl; simp only [Nat.not_lt_zero, if_false]; exact (by have := range_getD h; unfold tab at this; exact this.symm)
theorem fl_zero (n : Nat) (g : Nat → UInt8) : List.replicate n 0 = fl n (fun _ => 0) g 0 := by
  unfold fl; simp [List.map_const']
theorem map_getD {n i : Nat} {g : Nat → UInt8} (h : i < n) : (tab n g).getD i 0 = g i := by simp [tab, List.getD, h]
theorem tab_len (n : Nat) (g : Nat → UInt8) : (tab n g).length = n := by simp [tab]
theorem tab_congr {n : Nat} {f g : Nat → UInt8} (h : ∀ i, i < n → f i = g i) : tab n f = tab n g := List.map_congr_left fun i hi => h i (by simpa using hi)
theorem getD_lt {l : List UInt8} {i : Nat} (h : i < l.length) : l[i]? = some (l.getD i 0) := by simp [List.getD, h]
/-- Two lists of n bytes with the same bytes. -/
theorem ext_getD {l m : List UInt8} {n : Nat} (hl : l.length = n) (hm : m.length = n) (h : ∀ i, i < n → l.getD i 0 = m.getD i 0) : l = m := by
  rw [← range_getD hl, ← range_getD hm]
  exact tab_congr h
def xorN (n : Nat) (a b : List UInt8) : List UInt8 := tab n fun i => a.getD i 0 ^^^ b.getD i 0
theorem xorN_len (n : Nat) (a b : List UInt8) : (xorN n a b).length = n := tab_len _ _
/-- The permutation that leads back, filled place by place. -/
def invL (n : Nat) (b : List UInt8) : Nat → List UInt8
  | 0 => List.replicate n 0
  | i + 1 => (invL n b i).set (b.getD i 0).toNat (UInt8.ofInt (i : Int))
theorem invL_len (n : Nat) (b : List UInt8) : ∀ i, (invL n b i).length = n
  | 0 => by simp [invL]
  | i + 1 => by rw [invL, List.length_set, invL_len n b i]
def moveL (p s : List UInt8) : List UInt8 := tab 16 fun i => s.getD (p.getD i 0).toNat 0
theorem moveL_len (p s : List UInt8) : (moveL p s).length = 16 := tab_len _ _
def boxL (n : Nat) (b s : List UInt8) : List UInt8 := tab n fun i => b.getD (s.getD i 0).toNat 0
theorem boxL_len (n : Nat) (b s : List UInt8) : (boxL n b s).length = n := tab_len _ _
/-- All places are below 16. -/
def pl16 (p : List UInt8) : Prop := ∀ i, i < 16 → (p.getD i 0).toNat < 16
end Go.Proofs.YtahnjhppkgndiaaGreat
/- Ciphers and networks in plain lists: keys of rounds, boxes, mixing, the house's cipher. No program in sight. -/
set_option linter.unusedSimpArgs false
set_option linter.unusedVariables false
namespace Go.Proofs.YtahnjhppkgndiaaGreat
open Go Go.Vc
/-! ### Keys of rounds -/
def ownK (r : Int) (s : List UInt8) (i : Nat) : UInt8 := if i = 0 then s.getD 15 0 ^^^ UInt8.ofInt r else s.getD (i - 1) 0
def nkP (box k : List UInt8) (r : Int) : Nat → List UInt8
  | 0 => k
  | i + 1 => (nkP box k r i).set i ((nkP box k r i).getD i 0 ^^^ box.getD (ownK r (nkP box k r i) i).toNat 0)
theorem nkP_len {k : List UInt8} (hk : k.length = 16) (box : List UInt8) (r : Int) : ∀ i, (nkP box k r i).length = 16
  | 0 => hk
  | i + 1 => by rw [nkP, List.length_set, nkP_len hk box r i]
def nextK (box k : List UInt8) (r : Int) : List UInt8 := nkP box k r 16
theorem nextK_len {k : List UInt8} (hk : k.length = 16) (box : List UInt8) (r : Int) : (nextK box k r).length = 16 := nkP_len hk box r 16
/-- The key of round r. -/
def keyN (box key : List UInt8) : Nat → List UInt8
  | 0 => key
  | r + 1 => nextK box (keyN box key r) ((r : Int) + 1)
theorem keyN_len {key : List UInt8} (hk : key.length = 16) (box : List UInt8) : ∀ r, (keyN box key r).length = 16
  | 0 => hk
  | r + 1 => nextK_len (keyN_len hk box r) box _
/-- The keys of n rounds, one after the other. -/
def keysL (box key : List UInt8) : Nat → List UInt8
  | 0 => []
  | n + 1 => keysL box key n ++ keyN box key n
theorem keysL_len {key : List UInt8} (hk : key.length = 16) (box : List UInt8) : ∀ n, (keysL box key n).length = 16 * n
  | 0 => rfl
  | n + 1 => by rw [keysL, List.length_append, keysL_len hk box n, keyN_len hk box n]; omega
theorem keysL_at {key : List UInt8} (hk : key.length = 16) (box : List UInt8) {r : Nat} : ∀ {n : Nat}, r < n → ((keysL box key n).drop (16 * r)).take 16 = keyN box key r
  | 0, h => by omega
  | n + 1, h => by
    have hl := keysL_len hk box n
    have hk' := keyN_len hk box n
    rw [keysL]
    rcases Nat.lt_or_ge r n with h' | h'
    · rw [List.drop_append_of_le_length (by omega), List.take_append_of_le_length (by rw [List.length_drop]; omega)]
      exact keysL_at hk box h'
    · obtain rfl : r = n := by omega
      rw [show 16 * r = (keysL box key r).length by omega, List.drop_left, ← hk', List.take_length]
/-! ### Mixing -/
/-- One byte of a mixed column. -/
def mixB (m : Nat) (A s : List UInt8) (x : Nat) : Nat → UInt8
  | 0 => 0
  | j + 1 => mixB m A s x j ^^^ tmul m (A.getD (x % 4 * 4 + j) 0) (s.getD (4 * (x / 4) + j) 0)
def mixL (n : Nat) (m : Nat) (A s : List UInt8) : List UInt8 := tab n fun x => mixB m A s x 4
theorem mixL_len (n m : Nat) (A s : List UInt8) : (mixL n m A s).length = n := tab_len _ _
/-- The products of a matrix's elements with all bytes. -/
def tabB (m : Nat) (A : List UInt8) (x : Nat) : UInt8 := tmul m (A.getD (x / 256) 0) (UInt8.ofInt ((x % 256 : Nat) : Int))
def tabL (m : Nat) (A : List UInt8) : List UInt8 := tab 4096 (tabB m A)
theorem tabL_len (m : Nat) (A : List UInt8) : (tabL m A).length = 4096 := tab_len _ _
theorem tabL_get {m : Nat} {A : List UInt8} {k : Nat} (hk : k < 16) (u : UInt8) : (tabL m A).getD (k * 256 + u.toNat) 0 = tmul m (A.getD k 0) u := by
  have hu := u.toNat_lt
  unfold tabL
  rw [map_getD (by omega)]
  unfold tabB
  rw [show (k * 256 + u.toNat) / 256 = k by omega, show (k * 256 + u.toNat) % 256 = u.toNat by omega, ofInt_toNat]
theorem mixB_four (m : Nat) (A s : List UInt8) (x : Nat) : mixB m A s x 4 =
    tmul m (A.getD (x % 4 * 4) 0) (s.getD (4 * (x / 4)) 0) ^^^ tmul m (A.getD (x % 4 * 4 + 1) 0) (s.getD (4 * (x / 4) + 1) 0) ^^^
      tmul m (A.getD (x % 4 * 4 + 2) 0) (s.getD (4 * (x / 4) + 2) 0) ^^^ tmul m (A.getD (x % 4 * 4 + 3) 0) (s.getD (4 * (x / 4) + 3) 0) := by
  simp only [mixB, Nat.add_zero]
  rw [UInt8.zero_xor]
/-! ### Rounds -/
def encS (m : Nat) (box A pl key s : List UInt8) (n : Nat) : Nat → List UInt8
  | 0 => xorN 16 s (keyN box key 0)
  | r + 1 =>
    let t := moveL pl (boxL 16 box (encS m box A pl key s n r))
    xorN 16 (if r + 1 < n then mixL 16 m A t else t) (keyN box key (r + 1))
theorem encS_len (m : Nat) (box A pl key s : List UInt8) (n : Nat) : ∀ r, (encS m box A pl key s n r).length = 16
  | 0 => xorN_len _ _ _
  | r + 1 => xorN_len _ _ _
def encL (m : Nat) (box A pl key s : List UInt8) (n : Nat) : List UInt8 := encS m box A pl key s n n
theorem encL_len (m : Nat) (box A pl key s : List UInt8) (n : Nat) : (encL m box A pl key s n).length = 16 := encS_len _ _ _ _ _ _ _ _
/-! ### The house's cipher -/
def rotN (x k : Nat) : Nat := x * 2 ^ k % 256 + x / 2 ^ (8 - k)
theorem rotN_lt {x k : Nat} (hx : x < 256) (hk : k < 8) : rotN x k < 256 := by
  have : ∀ k, k < 8 → ∀ x, x < 256 → rotN x k < 256 := by decide +kernel
  exact this k hk x hx
def rot8 (u : UInt8) (k : Nat) : UInt8 := UInt8.ofNat (rotN u.toNat k)
theorem rot8_nat (u : UInt8) {k : Nat} (hk : k < 8) : (rot8 u k).toNat = rotN u.toNat k := by
  have := rotN_lt u.toNat_lt hk
  unfold rot8; rw [UInt8.toNat_ofNat']; omega
theorem rot8_zero (u : UInt8) : rot8 u 0 = u := by
  apply UInt8.toNat_inj.1
  rw [rot8_nat u (by omega)]
  have := u.toNat_lt
  unfold rotN; simp; omega
def powB : List UInt8 := tab 256 fun x => pw254 285 (UInt8.ofInt (x : Int))
def rotB : List UInt8 := tab 256 fun x => ((90 ^^^ rot8 (UInt8.ofInt (x : Int)) 0) ^^^ rot8 (UInt8.ofInt (x : Int)) 1) ^^^ rot8 (UInt8.ofInt (x : Int)) 4
def houseB : List UInt8 := tab 256 fun x => let b := pw254 285 (UInt8.ofInt (x : Int)); ((b ^^^ rot8 b 1) ^^^ rot8 b 4) ^^^ 90
theorem houseB_len : houseB.length = 256 := tab_len _ _
def thenL (b c : List UInt8) : List UInt8 := tab 256 fun x => c.getD (b.getD x 0).toNat 0
theorem house_then : thenL powB rotB = houseB := by
  unfold thenL houseB
  refine tab_congr fun x hx => ?_
  simp only [powB]
  rw [map_getD hx]
  simp only [rotB]
  rw [map_getD (pw254 285 (UInt8.ofInt (x : Int))).toNat_lt, ofInt_toNat, rot8_zero]
  generalize pw254 285 (UInt8.ofInt (x : Int)) = b
  rw [UInt8.xor_comm 90 b, UInt8.xor_assoc b 90, UInt8.xor_comm 90, ← UInt8.xor_assoc b, UInt8.xor_assoc _ 90, UInt8.xor_comm 90, ← UInt8.xor_assoc]
def houseA : List UInt8 := tab 16 fun x => pw254 285 (UInt8.ofInt (((x / 4) ^^^ (4 + x % 4) : Nat) : Int))
theorem houseA_len : houseA.length = 16 := tab_len _ _
def houseP : List UInt8 := tab 16 fun i => UInt8.ofInt (((13 * i + 4) % 16 : Nat) : Int)
theorem houseP_len : houseP.length = 16 := tab_len _ _
/-! ### The unit matrix -/
def unP : Nat → List UInt8
  | 0 => List.replicate 16 0
  | i + 1 => (unP i).set (i * 4 + i) 1
theorem unP_len : ∀ i, (unP i).length = 16
  | 0 => by simp [unP]
  | i + 1 => by rw [unP, List.length_set, unP_len i]
end Go.Proofs.YtahnjhppkgndiaaGreat
/- Blocks and halves combined byte by byte; boxes and places that lead back; places that move. -/
set_option linter.unusedSimpArgs false
set_option linter.unusedVariables false
namespace Go.Proofs.YtahnjhppkgndiaaGreat
open Go Go.Vc
set_option maxRecDepth 10000
theorem c_spec_l01Xor (a b : List UInt8) (ha : a.length = 16) (hb : b.length = 16) : LC Tryz.prog 163 [.a (bs a), .a (bs b)] [] (fun v hp => v = .a (bs (xorN 16 a b)) ∧ hp = []) := by
  refine LC_of (X := XX (fun | 4 => .one 0 (.one 1 (.one 2 (.one 3 (.one 4 (.one 5 (.one 6 (.one 7 (.one 8 (.one 9 .nil))))))))) | _ => .nil) (fun _ => []) [15, 71, 72, 73, 79, 80, 87, 90, 91, 93, 99, 119, 137, 176, 177, 203, 204, 212, 219] 0) envOK Tryz.func163 (by kernel_rfl) (by kernel_rfl) rfl (Nat.le_of_ble_eq_true (by kernel_rfl)) ?_
  simp only [kFun, Tryz.f163, List.length_nil, List.length_cons, Nat.sub_zero, Nat.reduceSub, Nat.reduceAdd, List.nil_append, List.cons_append, List.replicate_succ, List.replicate_zero]
  simp only [XX, ↓VC, VP, TT, Nat.reduceEqDiff, reduceCtorEq, Nat.reduceAdd, Nat.reduceSub, Nat.reduceLT, Nat.reduceMul, Nat.reducePow, Nat.reduceLeDiff, Int.reduceToNat, Int.reduceLE, Int.reduceLT, Int.reducePow, ha, hb]
  refine kLoop_of (fun i : Nat => ([.j, .j, .p 0 0, .p 1 0, .p 2 0, .c (.int .i64 (i)), .j, .j, .j, .j, .j, .j, .j, .j, .j, .j, .j, .j, .j, .j], [⟨true, bs (fl 16 (fun i => a.getD i 0) (fun i => a.getD i 0 ^^^ b.getD i 0) i)⟩, ⟨true, bs b⟩, ⟨true, bs (List.replicate 16 0)⟩])) (fun i => 16 - i) (fun i => i ≤ 16) 0 (by omega)
    ⟨[0, 1, 2], by rw [← fl_start ha]; simp [-List.reduceReplicate, LES]⟩ ?_
  intro i hi
  rcases Nat.lt_or_ge i 16 with h | h
  · simp only [↓VC, VP, TT, Nat.reduceEqDiff, reduceCtorEq, Nat.reduceAdd, Nat.reduceSub, Nat.reduceLT, Nat.reduceMul, Nat.reducePow, Nat.reduceLeDiff, Int.reduceToNat, Int.reduceLE, Int.reduceLT, Int.reducePow, hb, fl_len, fl_at, fl_set, h, (eq_true (by omega) : ((i : Int) < 16) = True), (eq_true (by omega) : ((i : Int) < ((16 : Nat) : Int)) = True), wrap_i64 (n := (i : Int) + 1) (by omega) (by omega), decide_true]
    exact ⟨i + 1, by omega, by omega, [0, 1, 2], by simp [-List.reduceReplicate, LES]⟩
  · obtain rfl : i = 16 := by omega
    simp only [↓VC, VP, TT, Nat.reduceEqDiff, reduceCtorEq, Nat.reduceAdd, Nat.reduceSub, Nat.reduceLT, Nat.reduceMul, Nat.reducePow, Nat.reduceLeDiff, Int.reduceToNat, Int.reduceLE, Int.reduceLT, Int.reducePow, hb, fl_len, (eq_false (by omega) : (((16 : Nat) : Int) < 16) = False), decide_false]
    rw [fl_done]; refine ⟨_, _, [], ⟨rfl, rfl⟩, ?_⟩; simp [-List.reduceReplicate, LES, xorN]
theorem c_impl_XorBlocks (a b : List UInt8) (ha : a.length = 16) (hb : b.length = 16) : LC Tryz.prog 159 [.a (bs a), .a (bs b)] [] (fun v hp => v = .a (bs (xorN 16 a b)) ∧ hp = []) := by
  refine LC_of (X := XX (fun | 4 => .one 0 (.one 1 (.one 2 (.one 3 (.one 4 (.one 5 (.one 6 (.one 7 (.one 8 .nil)))))))) | _ => .nil) (fun _ => []) [15, 71, 72, 73, 79, 80, 87, 90, 91, 93, 99, 119, 137, 176, 177, 203, 204, 212, 219] 0) envOK Tryz.func159 (by kernel_rfl) (by kernel_rfl) rfl (Nat.le_of_ble_eq_true (by kernel_rfl)) ?_
  simp only [kFun, Tryz.f159, List.length_nil, List.length_cons, Nat.sub_zero, Nat.reduceSub, Nat.reduceAdd, List.nil_append, List.cons_append, List.replicate_succ, List.replicate_zero]
  simp only [XX, ↓VC, VP, TT, Nat.reduceEqDiff, reduceCtorEq, Nat.reduceAdd, Nat.reduceSub, Nat.reduceLT, Nat.reduceMul, Nat.reducePow, Nat.reduceLeDiff, Int.reduceToNat, Int.reduceLE, Int.reduceLT, Int.reducePow, ha, hb]
  refine kLoop_of (fun i : Nat => ([.j, .j, .p 0 0, .p 1 0, .p 2 0, .j, .c (.int .i64 (i)), .j, .j, .j, .j, .j, .j, .j, .j, .j, .j, .j, .j], [⟨true, bs (fl 16 (fun i => a.getD i 0) (fun i => a.getD i 0 ^^^ b.getD i 0) i)⟩, ⟨true, bs b⟩, ⟨true, bs (List.replicate 16 0)⟩])) (fun i => 16 - i) (fun i => i ≤ 16) 0 (by omega)
    ⟨[0, 1, 2], by rw [← fl_start ha]; simp [-List.reduceReplicate, LES]⟩ ?_
  intro i hi
  rcases Nat.lt_or_ge i 16 with h | h
  · simp only [↓VC, VP, TT, Nat.reduceEqDiff, reduceCtorEq, Nat.reduceAdd, Nat.reduceSub, Nat.reduceLT, Nat.reduceMul, Nat.reducePow, Nat.reduceLeDiff, Int.reduceToNat, Int.reduceLE, Int.reduceLT, Int.reducePow, hb, fl_len, fl_at, fl_set, h, (eq_true (by omega) : ((i : Int) < 16) = True), (eq_true (by omega) : ((i : Int) < ((16 : Nat) : Int)) = True), wrap_i64 (n := (i : Int) + 1) (by omega) (by omega), decide_true]
    exact ⟨i + 1, by omega, by omega, [0, 1, 2], by simp [-List.reduceReplicate, LES]⟩
  · obtain rfl : i = 16 := by omega
    simp only [↓VC, VP, TT, Nat.reduceEqDiff, reduceCtorEq, Nat.reduceAdd, Nat.reduceSub, Nat.reduceLT, Nat.reduceMul, Nat.reducePow, Nat.reduceLeDiff, Int.reduceToNat, Int.reduceLE, Int.reduceLT, Int.reducePow, hb, fl_len, (eq_false (by omega) : (((16 : Nat) : Int) < 16) = False), decide_false]
    rw [fl_done]; refine ⟨_, _, [], ⟨rfl, rfl⟩, ?_⟩; simp [-List.reduceReplicate, LES, xorN]
theorem c_impl_Box_inverse (b : List UInt8) (hb : b.length = 256) : LC Tryz.prog 141 [.a (bs b)] [] (fun v hp => v = .a (bs (invL 256 b 256)) ∧ hp = []) := by
  refine LC_of (X := XX (fun _ => .nil) (fun _ => []) [15, 71, 72, 73, 79, 80, 87, 90, 91, 93, 99, 119, 137, 176, 177, 203, 204, 212, 219] 0) envOK Tryz.func141 (by kernel_rfl) (by kernel_rfl) rfl (Nat.le_of_ble_eq_true (by kernel_rfl)) ?_
  simp only [kFun, Tryz.f141, List.length_nil, List.length_cons, Nat.sub_zero, Nat.reduceSub, Nat.reduceAdd, List.nil_append, List.cons_append, List.replicate_succ, List.replicate_zero]
  simp only [XX, ↓VC, VP, TT, Nat.reduceEqDiff, reduceCtorEq, Nat.reduceAdd, Nat.reduceSub, Nat.reduceLT, Nat.reduceMul, Nat.reducePow, Nat.reduceLeDiff, Int.reduceToNat, Int.reduceLE, Int.reduceLT, Int.reducePow, hb]
  refine kLoop_of (fun i : Nat => ([.j, .p 0 0, .p 1 0, .p 2 0, .j, .j, .j, .a (bs b), .c (.int .i64 (i)), .j, .j, .j, .j, .j, .j, .j, .j, .j], [⟨true, bs b⟩, ⟨true, bs (List.replicate 256 0)⟩, ⟨true, bs (invL 256 b i)⟩])) (fun i => 256 - i) (fun i => i ≤ 256) 0 (by omega)
    ⟨[0, 1, 2], by simp [-List.reduceReplicate, LES, invL]⟩ ?_
  intro i hi
  rcases Nat.lt_or_ge i 256 with h | h
  · have hu := u8_lt (b.getD i 0)
    simp only [↓VC, VP, TT, Nat.reduceEqDiff, reduceCtorEq, Nat.reduceAdd, Nat.reduceSub, Nat.reduceLT, Nat.reduceMul, Nat.reducePow, Nat.reduceLeDiff, Int.reduceToNat, Int.reduceLE, Int.reduceLT, Int.reducePow, hb, invL_len, h, (eq_true (by omega) : ((i : Int) < 256) = True), (eq_true (by omega) : ((i : Int) < ((256 : Nat) : Int)) = True), wrap_i64 (n := (i : Int) + 1) (by omega) (by omega), decide_true, u8n_lt, hu, (eq_true (by omega) : (((b.getD i 0).toNat : Int) < ((256 : Nat) : Int)) = True)]
    exact ⟨i + 1, by omega, by omega, [0, 1, 2], by simp [-List.reduceReplicate, LES, invL]⟩
  · obtain rfl : i = 256 := by omega
    simp only [↓VC, VP, TT, Nat.reduceEqDiff, reduceCtorEq, Nat.reduceAdd, Nat.reduceSub, Nat.reduceLT, Nat.reduceMul, Nat.reducePow, Nat.reduceLeDiff, Int.reduceToNat, Int.reduceLE, Int.reduceLT, Int.reducePow, hb, invL_len, (eq_false (by omega) : (((256 : Nat) : Int) < 256) = False), decide_false]
    refine ⟨_, _, [], ⟨rfl, rfl⟩, ?_⟩; simp [-List.reduceReplicate, LES]
theorem c_impl_Places_inverse (b : List UInt8) (hb : b.length = 16) (hp16 : pl16 b) : LC Tryz.prog 142 [.a (bs b)] [] (fun v hp => v = .a (bs (invL 16 b 16)) ∧ hp = []) := by
  refine LC_of (X := XX (fun _ => .nil) (fun _ => []) [15, 71, 72, 73, 79, 80, 87, 90, 91, 93, 99, 119, 137, 176, 177, 203, 204, 212, 219] 0) envOK Tryz.func142 (by kernel_rfl) (by kernel_rfl) rfl (Nat.le_of_ble_eq_true (by kernel_rfl)) ?_
  simp only [kFun, Tryz.f142, List.length_nil, List.length_cons, Nat.sub_zero, Nat.reduceSub, Nat.reduceAdd, List.nil_append, List.cons_append, List.replicate_succ, List.replicate_zero]
  simp only [XX, ↓VC, VP, TT, Nat.reduceEqDiff, reduceCtorEq, Nat.reduceAdd, Nat.reduceSub, Nat.reduceLT, Nat.reduceMul, Nat.reducePow, Nat.reduceLeDiff, Int.reduceToNat, Int.reduceLE, Int.reduceLT, Int.reducePow, hb]
  refine kLoop_of (fun i : Nat => ([.j, .p 0 0, .p 1 0, .p 2 0, .j, .j, .j, .a (bs b), .c (.int .i64 (i)), .j, .j, .j, .j, .j, .j, .j, .j, .j], [⟨true, bs b⟩, ⟨true, bs (List.replicate 16 0)⟩, ⟨true, bs (invL 16 b i)⟩])) (fun i => 16 - i) (fun i => i ≤ 16) 0 (by omega)
    ⟨[0, 1, 2], by simp [-List.reduceReplicate, LES, invL]⟩ ?_
  intro i hi
  rcases Nat.lt_or_ge i 16 with h | h
  · have hu := u8_lt (b.getD i 0)
    have hq := hp16 i h
    simp only [↓VC, VP, TT, Nat.reduceEqDiff, reduceCtorEq, Nat.reduceAdd, Nat.reduceSub, Nat.reduceLT, Nat.reduceMul, Nat.reducePow, Nat.reduceLeDiff, Int.reduceToNat, Int.reduceLE, Int.reduceLT, Int.reducePow, hb, invL_len, h, (eq_true (by omega) : ((i : Int) < 16) = True), (eq_true (by omega) : ((i : Int) < ((16 : Nat) : Int)) = True), wrap_i64 (n := (i : Int) + 1) (by omega) (by omega), decide_true, hq, (eq_true (by omega) : (((b.getD i 0).toNat : Int) < 16) = True), (eq_true (by omega) : (((b.getD i 0).toNat : Int) < ((16 : Nat) : Int)) = True), hu, (eq_true (by omega) : (((b.getD i 0).toNat : Int) < ((256 : Nat) : Int)) = True)]
    exact ⟨i + 1, by omega, by omega, [0, 1, 2], by simp [-List.reduceReplicate, LES, invL]⟩
  · obtain rfl : i = 16 := by omega
    simp only [↓VC, VP, TT, Nat.reduceEqDiff, reduceCtorEq, Nat.reduceAdd, Nat.reduceSub, Nat.reduceLT, Nat.reduceMul, Nat.reducePow, Nat.reduceLeDiff, Int.reduceToNat, Int.reduceLE, Int.reduceLT, Int.reducePow, hb, invL_len, (eq_false (by omega) : (((16 : Nat) : Int) < 16) = False), decide_false]
    refine ⟨_, _, [], ⟨rfl, rfl⟩, ?_⟩; simp [-List.reduceReplicate, LES]
end Go.Proofs.YtahnjhppkgndiaaGreat
/- Permutations told by what has been seen. No program in sight. -/
set_option linter.unusedSimpArgs false
set_option linter.unusedVariables false
namespace Go.Proofs.YtahnjhppkgndiaaGreat
open Go Go.Vc
/-- Which of k numbers have been met. -/
def seenL (k : Nat) (l : List UInt8) : List Bool := (List.range k).map fun y => l.any fun u => u.toNat == y
theorem seenL_len (k : Nat) (l : List UInt8) : (seenL k l).length = k := by simp [seenL]
theorem any_mem (l : List UInt8) (u : UInt8) : (l.any fun v => v.toNat == u.toNat) = decide (u ∈ l) := by
  rw [Bool.eq_iff_iff, List.any_eq_true, decide_eq_true_eq]
  constructor
  · rintro ⟨v, hv, e⟩
    have : v = u := UInt8.toNat_inj.1 (by simpa using e)
    exact this ▸ hv
  · intro h; exact ⟨u, h, by simp⟩
theorem seenL_get {k : Nat} {l : List UInt8} {u : UInt8} (h : u.toNat < k) : (seenL k l).getD u.toNat false = decide (u ∈ l) := by
  rw [← any_mem]
  simp [seenL, List.getD, h]
theorem seenL_nil (k : Nat) : List.replicate k false = seenL k [] := by simp [seenL, List.map_const']
theorem takeP_snoc {l : List UInt8} {x : Nat} (h : x < l.length) : l.take (x + 1) = l.take x ++ [l.getD x 0] := by
  rw [List.take_add_one, List.getElem?_eq_getElem h]
  simp [List.getD, h]
theorem seenL_set {k : Nat} {l : List UInt8} {x : Nat} (h : x < l.length) : (seenL k (l.take x)).set (l.getD x 0).toNat true = seenL k (l.take (x + 1)) := by
  rw [takeP_snoc h]
  generalize l.getD x 0 = u
  apply List.ext_getElem?
  intro j
  rw [List.getElem?_set]
  simp only [seenL_len]
  rcases Nat.lt_or_ge j k with hj | hj
  · simp only [seenL, List.getElem?_map, List.getElem?_range hj, Option.map_some, List.any_append, List.any_cons, List.any_nil, Bool.or_false]
    by_cases e : u.toNat = j
    · simp [e, hj]
    · simp [e]
  · rw [List.getElem?_eq_none (by rw [seenL_len]; exact hj), List.getElem?_eq_none (by rw [seenL_len]; exact hj)]
    split
    · rw [if_neg (by omega)]
    · rfl
theorem nodup_snoc {l : List UInt8} {x : Nat} (h : x < l.length) : (l.take (x + 1)).Nodup ↔ (l.take x).Nodup ∧ l.getD x 0 ∉ l.take x := by
  rw [takeP_snoc h, List.nodup_append]
  constructor
  · rintro ⟨h1, _, h3⟩
    exact ⟨h1, fun hm => h3 _ hm _ (by simp) rfl⟩
  · rintro ⟨h1, h2⟩
    exact ⟨h1, by simp, fun a ha b hb e => h2 (by rw [List.mem_singleton] at hb; rw [← hb, ← e]; exact ha)⟩
theorem not_nodup_take {l : List UInt8} {x : Nat} (h : ¬ (l.take x).Nodup) : ¬ l.Nodup := fun hn => h (hn.sublist (List.take_sublist _ _))
/-- A list without doubles that lies in another one is no longer. -/
theorem nodup_le : ∀ (l r : List UInt8), l.Nodup → (∀ u ∈ l, u ∈ r) → l.length ≤ r.length
  | [], _, _, _ => Nat.zero_le _
  | u :: l, r, hn, hs => by
    rw [List.nodup_cons] at hn
    have hu : u ∈ r := hs u (by simp)
    have h1 := nodup_le l (r.erase u) hn.2 fun v hv => (List.mem_erase_of_ne (show v ≠ u from fun e => hn.1 (e ▸ hv))).2 (hs v (by simp [hv]))
    have h2 := List.length_erase_of_mem hu
    have h3 := List.length_pos_of_mem hu
    simp only [List.length_cons]; omega
def allU8 : List UInt8 := (List.range 256).map UInt8.ofNat
theorem allU8_len : allU8.length = 256 := by simp [allU8]
theorem mem_allU8 (u : UInt8) : u ∈ allU8 := by
  unfold allU8
  rw [List.mem_map]
  exact ⟨u.toNat, by rw [List.mem_range]; exact u.toNat_lt, UInt8.ofNat_toNat⟩
theorem allU8_nodup : allU8.Nodup := by
  unfold allU8 List.Nodup
  rw [List.pairwise_map]
  refine List.Pairwise.imp_of_mem ?_ (List.nodup_range (n := 256))
  intro a b ha hb hne e
  rw [List.mem_range] at ha hb
  have := congrArg UInt8.toNat e
  rw [UInt8.toNat_ofNat_of_lt' ha, UInt8.toNat_ofNat_of_lt' hb] at this
  exact hne this
theorem dup_shorter : ∀ (l : List UInt8), ¬ l.Nodup → ∃ r : List UInt8, r.length + 1 = l.length ∧ ∀ u ∈ l, u ∈ r
  | [], h => absurd List.nodup_nil h
  | u :: l, h => by
    by_cases hm : u ∈ l
    · exact ⟨l, rfl, fun v hv => by rcases List.mem_cons.1 hv with rfl | hv; exact hm; exact hv⟩
    · obtain ⟨r, h1, h2⟩ := dup_shorter l (fun hn => h (List.nodup_cons.2 ⟨hm, hn⟩))
      exact ⟨u :: r, by simp [h1], fun v hv => by rcases List.mem_cons.1 hv with rfl | hv; simp; exact List.mem_cons_of_mem _ (h2 v hv)⟩
/-- 256 bytes: none twice, or each of them is there. -/
theorem perm_iff {l : List UInt8} (h : l.length = 256) : l.Nodup ↔ ∀ u : UInt8, u ∈ l := by
  constructor
  · intro hn u
    refine Classical.byContradiction fun hu => ?_
    have h1 := nodup_le l (allU8.erase u) hn fun v hv => (List.mem_erase_of_ne (show v ≠ u from fun e => hu (e ▸ hv))).2 (mem_allU8 v)
    rw [List.length_erase_of_mem (mem_allU8 u), allU8_len] at h1
    omega
  · intro ha
    refine Classical.byContradiction fun hn => ?_
    obtain ⟨r, h1, h2⟩ := dup_shorter l hn
    have h3 := nodup_le allU8 r allU8_nodup fun u _ => h2 u (ha u)
    rw [allU8_len] at h3
    omega
def permB (l : List UInt8) : Bool := decide l.Nodup
theorem seen_all {l : List UInt8} (h : l.length = 256) : (!(seenL 256 l).contains false) = permB l := by
  unfold permB
  rw [Bool.eq_iff_iff, decide_eq_true_eq, perm_iff h, Bool.not_eq_true', Bool.eq_false_iff]
  constructor
  · intro hc u
    refine Classical.byContradiction fun hu => hc ?_
    rw [List.contains_eq_mem, decide_eq_true_eq]
    unfold seenL
    rw [List.mem_map]
    exact ⟨u.toNat, by rw [List.mem_range]; exact u.toNat_lt, by rw [any_mem]; exact decide_eq_false hu⟩
  · intro ha hc
    rw [List.contains_eq_mem, decide_eq_true_eq] at hc
    unfold seenL at hc
    rw [List.mem_map] at hc
    obtain ⟨y, hy, e⟩ := hc
    rw [List.mem_range] at hy
    have h2 := any_mem l (UInt8.ofNat y)
    rw [UInt8.toNat_ofNat_of_lt' hy, e, decide_eq_true (ha _)] at h2
    cases h2
/-- 16 places: each is below 16, none comes twice. -/
def plcB (p : List UInt8) : Bool := decide ((∀ u ∈ p, u.toNat < 16) ∧ p.Nodup)
theorem plcB_pl16 {p : List UInt8} (hp : p.length = 16) (h : plcB p = true) : pl16 p := by
  unfold plcB at h
  rw [decide_eq_true_eq] at h
  intro i hi
  refine h.1 _ ?_
  rw [List.getD_eq_getElem?_getD, List.getElem?_eq_getElem (by omega)]
  exact List.getElem_mem _
theorem getD_mem {l : List UInt8} {x : Nat} (h : x < l.length) : l.getD x 0 ∈ l := by
  rw [List.getD_eq_getElem?_getD, List.getElem?_eq_getElem h]; exact List.getElem_mem _
end Go.Proofs.YtahnjhppkgndiaaGreat
/- A matrix over a field reduced to the unit matrix: the steps. No program in sight. -/
set_option linter.unusedSimpArgs false
set_option linter.unusedVariables false
namespace Go.Proofs.YtahnjhppkgndiaaGreat
open Go Go.Vc
def rowG (a : List UInt8) (i : Nat) : List UInt8 := (a.drop (i * 4)).take 4
theorem rowG_len {a : List UInt8} {i : Nat} (ha : a.length = 16) (hi : i < 4) : (rowG a i).length = 4 := by
  unfold rowG; rw [List.length_take, List.length_drop]; omega
def swapR (a : List UInt8) (i k : Nat) : List UInt8 := splB (splB a (i * 4) (rowG a k)) (k * 4) (rowG a i)
theorem swapR_len {a : List UInt8} {i k : Nat} (ha : a.length = 16) (hi : i < 4) (hk : k < 4) : (swapR a i k).length = 16 := by
  unfold swapR
  rw [splB_length, splB_length]
  · exact ha
  · rw [rowG_len ha hk]; omega
  · rw [splB_length (by rw [rowG_len ha hk]; omega), rowG_len ha hi]; omega
/-- The first row from i on with something in column k; n rows are left. -/
def fiF (a : List UInt8) (k : Nat) : Nat → Nat → Nat
  | 0, i => i
  | n + 1, i => if a.getD (i * 4 + k) 0 = 0 then fiF a k n (i + 1) else i
def fi (a : List UInt8) (k : Nat) : Nat := fiF a k (4 - k) k
def scP (m : Nat) (inv : UInt8) (k : Nat) (a : List UInt8) : Nat → List UInt8
  | 0 => a
  | j + 1 => (scP m inv k a j).set (k * 4 + j) (tmul m ((scP m inv k a j).getD (k * 4 + j) 0) inv)
theorem scP_len (m : Nat) (inv : UInt8) (k : Nat) {a : List UInt8} (ha : a.length = 16) : ∀ j, (scP m inv k a j).length = 16
  | 0 => ha
  | j + 1 => by rw [scP, List.length_set, scP_len m inv k ha j]
def elP (m : Nat) (f : UInt8) (k r : Nat) (a : List UInt8) : Nat → List UInt8
  | 0 => a
  | j + 1 => (elP m f k r a j).set (r * 4 + j) ((elP m f k r a j).getD (r * 4 + j) 0 ^^^ tmul m f ((elP m f k r a j).getD (k * 4 + j) 0))
theorem elP_len (m : Nat) (f : UInt8) (k r : Nat) {a : List UInt8} (ha : a.length = 16) : ∀ j, (elP m f k r a j).length = 16
  | 0 => ha
  | j + 1 => by rw [elP, List.length_set, elP_len m f k r ha j]
theorem set_same_u8 {l : List UInt8} {i : Nat} : l.set i (l.getD i 0) = l := by
  apply List.ext_getElem?
  intro j
  rw [List.getElem?_set]
  split
  · rename_i e; subst e
    split
    · rename_i h; exact (getD_lt h).symm
    · rename_i h; exact (List.getElem?_eq_none (by omega)).symm
  · rfl
theorem elP_zero (m k r : Nat) (a : List UInt8) : ∀ j, elP m 0 k r a j = a
  | 0 => rfl
  | j + 1 => by rw [elP, elP_zero m k r a j, tmul_zero, UInt8.xor_zero, set_same_u8]
def elA (m k : Nat) (a b : List UInt8) : Nat → List UInt8 × List UInt8
  | 0 => (a, b)
  | r + 1 => let s := elA m k a b r
    if r = k then s else (elP m (s.1.getD (r * 4 + k) 0) k r s.1 4, elP m (s.1.getD (r * 4 + k) 0) k r s.2 4)
theorem elA_len (m k : Nat) {a b : List UInt8} (ha : a.length = 16) (hb : b.length = 16) : ∀ r, (elA m k a b r).1.length = 16 ∧ (elA m k a b r).2.length = 16
  | 0 => ⟨ha, hb⟩
  | r + 1 => by
    obtain ⟨h1, h2⟩ := elA_len m k ha hb r
    simp only [elA]
    split
    · exact ⟨h1, h2⟩
    · exact ⟨elP_len _ _ _ _ h1 _, elP_len _ _ _ _ h2 _⟩
/-- One column: the matrix, what makes it the unit matrix, the determinant so far. -/
def redS (m k : Nat) (s : List UInt8 × List UInt8 × UInt8) : List UInt8 × List UInt8 × UInt8 :=
  let a := swapR s.1 (fi s.1 k) k
  let b := swapR s.2.1 (fi s.1 k) k
  let inv := pw254 m (a.getD (k * 4 + k) 0)
  let e := elA m k (scP m inv k a 4) (scP m inv k b 4) 4
  (e.1, e.2, tmul m s.2.2 (a.getD (k * 4 + k) 0))
def redP (m : Nat) (A : List UInt8) (U : List UInt8) : Nat → Option (List UInt8 × List UInt8 × UInt8)
  | 0 => some (A, U, 1)
  | k + 1 => match redP m A U k with
    | none => none
    | some s => if fi s.1 k = 4 then none else some (redS m k s)
theorem fiF_le (a : List UInt8) (k : Nat) : ∀ n i, i ≤ fiF a k n i ∧ fiF a k n i ≤ i + n
  | 0, i => by simp [fiF]
  | n + 1, i => by
    rw [fiF]; split
    · have := fiF_le a k n (i + 1); omega
    · omega
theorem redP_none {m : Nat} {A U : List UInt8} {k : Nat} (h : redP m A U k = none) : ∀ j, redP m A U (k + j) = none
  | 0 => h
  | j + 1 => by rw [← Nat.add_assoc, redP, redP_none h j]
theorem redP_len {m : Nat} {A U : List UInt8} (hA : A.length = 16) (hU : U.length = 16) : ∀ {k : Nat} {s : List UInt8 × List UInt8 × UInt8}, k ≤ 4 → redP m A U k = some s → s.1.length = 16 ∧ s.2.1.length = 16
  | 0, s, _, h => by simp [redP] at h; subst h; exact ⟨hA, hU⟩
  | k + 1, s, hk, h => by
    rw [redP] at h
    cases hr : redP m A U k with
    | none => rw [hr] at h; cases h
    | some t =>
      rw [hr] at h
      simp only at h
      obtain ⟨h1, h2⟩ := redP_len hA hU (by omega) hr
      split at h
      · cases h
      · rename_i hf
        cases h
        have hle := fiF_le t.1 k (4 - k) k
        unfold fi at hf
        have hf4 : fi t.1 k < 4 := by unfold fi; omega
        unfold redS
        exact elA_len m k (scP_len _ _ _ (swapR_len h1 hf4 (by omega)) _) (scP_len _ _ _ (swapR_len h2 hf4 (by omega)) _) 4
/-- The determinant, and the inverse. -/
def invM (m : Nat) (A U : List UInt8) : UInt8 × List UInt8 := match redP m A U 4 with
  | none => (0, List.replicate 16 0)
  | some s => (s.2.2, s.2.1)
theorem invM_len (m : Nat) {A U : List UInt8} (hA : A.length = 16) (hU : U.length = 16) : (invM m A U).2.length = 16 := by
  unfold invM
  split
  · simp
  · rename_i s h; exact (redP_len hA hU (Nat.le_refl 4) h).2
end Go.Proofs.YtahnjhppkgndiaaGreat
/- Digests in plain lists. No program in sight. -/
set_option linter.unusedSimpArgs false
set_option linter.unusedVariables false
namespace Go.Proofs.YtahnjhppkgndiaaGreat
open Go Go.Vc
def loL (st : List UInt8) : List UInt8 := tab 16 fun i => st.getD i 0
def hiL (st : List UInt8) : List UInt8 := tab 16 fun i => st.getD (16 + i) 0
theorem loL_len (st : List UInt8) : (loL st).length = 16 := tab_len _ _
theorem hiL_len (st : List UInt8) : (hiL st).length = 16 := tab_len _ _
theorem tab_drop {l : List UInt8} {n o : Nat} (h : o + n ≤ l.length) : (l.drop o).take n = tab n fun i => l.getD (o + i) 0 := by
  refine ext_getD (n := n) (by simp; omega) (tab_len _ _) fun i hi => ?_
  rw [map_getD hi]
  simp [List.getD, List.getElem?_take, hi]
theorem lo_take {st : List UInt8} (h : st.length = 32) : st.take 16 = loL st := by
  have := tab_drop (l := st) (n := 16) (o := 0) (by omega)
  simpa [loL] using this
theorem hi_take {st : List UInt8} (h : st.length = 32) : (st.drop 16).take 16 = hiL st := tab_drop (by omega)
def absL (m : Nat) (box A pl : List UInt8) (n : Nat) (st msg : List UInt8) : List UInt8 :=
  xorN 16 (encL m box A pl (hiL st) (xorN 16 (loL st) msg) n) (xorN 16 (loL st) msg) ++
    xorN 16 (encL m box A pl (xorN 16 (encL m box A pl (hiL st) (xorN 16 (loL st) msg) n) (xorN 16 (loL st) msg)) (xorN 16 (hiL st) msg) n) (xorN 16 (hiL st) msg)
theorem absL_len (m : Nat) (box A pl : List UInt8) (n : Nat) (st msg : List UInt8) : (absL m box A pl n st msg).length = 32 := by
  unfold absL; rw [List.length_append, xorN_len, xorN_len]
/-- The state after k blocks. -/
def digP (f : List UInt8 → List UInt8 → List UInt8) (s l : List UInt8) : Nat → List UInt8
  | 0 => s
  | k + 1 => f (digP f s l k) ((l.drop (16 * k)).take 16)
def digL (m : Nat) (box A pl : List UInt8) (n : Nat) (s l : List UInt8) : List UInt8 := digP (absL m box A pl n) s l (l.length / 16)
theorem digP_len {m : Nat} {box A pl : List UInt8} {n : Nat} {s l : List UInt8} (hs : s.length = 32) : ∀ k, (digP (absL m box A pl n) s l k).length = 32
  | 0 => hs
  | k + 1 => absL_len _ _ _ _ _ _ _
theorem digL_len {m : Nat} {box A pl : List UInt8} {n : Nat} {s l : List UInt8} (hs : s.length = 32) : (digL m box A pl n s l).length = 32 := digP_len hs _
theorem take_more {l : List UInt8} {q : Nat} : l.take (16 * q) ++ (l.drop (16 * q)).take 16 = l.take (16 * (q + 1)) := by
  rw [show 16 * (q + 1) = 16 * q + 16 by omega, List.take_add]
end Go.Proofs.YtahnjhppkgndiaaGreat

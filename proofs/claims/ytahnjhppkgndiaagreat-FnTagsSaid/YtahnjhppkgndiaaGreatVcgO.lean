import Derived.Test.YtahnjhppkgndiaaGreatVcgJ
/- The prover's side of the verification conditions: loops, calls, bytes, numbers. -/
set_option linter.unusedSimpArgs false
set_option linter.unusedVariables false
namespace Go.Vc
open Go

/-! ### Numbers -/
theorem wrap_i64 {n : Int} (h : -9223372036854775808 ≤ n) (h' : n ≤ 9223372036854775807) : IntKind.i64.wrap n = n := by
  simp only [IntKind.wrap, IntKind.bits, IntKind.signed, Bool.true_and]
  split <;> simp_all <;> omega
theorem wrap_u64 {n : Int} (h : 0 ≤ n) (h' : n ≤ 18446744073709551615) : IntKind.u64.wrap n = n := by
  simp only [IntKind.wrap, IntKind.bits, IntKind.signed, Bool.false_and]
  simp; omega
theorem wrap_u8 (n : Int) : IntKind.u8.wrap n = ((UInt8.ofInt n).toNat : Int) := by
  simp only [IntKind.wrap, IntKind.bits, IntKind.signed, Bool.false_and]
  simp [UInt8.ofInt, UInt8.toNat_ofNat']
  omega
theorem u8_lt (u : UInt8) : (u.toNat : Int) < 256 := by have := u.toNat_lt; omega
theorem u8_nonneg (u : UInt8) : 0 ≤ (u.toNat : Int) := by omega
theorem ofInt_toNat (u : UInt8) : UInt8.ofInt (u.toNat : Int) = u := by
  apply UInt8.toNat.inj
  have := u.toNat_lt
  simp [UInt8.ofInt, UInt8.toNat_ofNat']
  omega
theorem u8_eq {a b : UInt8} : ((a.toNat : Int) == (b.toNat : Int)) = (a == b) := by
  rw [Bool.eq_iff_iff]; simp [← UInt8.toNat_inj]; omega
theorem bitI_u8 (op : BinOp) (a b : UInt8) : bitI op .u8 (a.toNat : Int) (b.toNat : Int) =
    (match op with | .and => ((a &&& b).toNat : Int) | .or => ((a ||| b).toNat : Int) | .xor => ((a ^^^ b).toNat : Int) | _ => ((a &&& ~~~b).toNat : Int)) := by
  have key : ∀ v : BitVec 8, IntKind.u8.wrap (v.toNat : Int) = (v.toNat : Int) := fun v => by
    rw [wrap_u8]; have := v.isLt; simp [UInt8.ofInt, UInt8.toNat_ofNat']; omega
  have ea : BitVec.ofInt IntKind.u8.bits (a.toNat : Int) = a.toBitVec := by
    apply BitVec.eq_of_toNat_eq; have := a.toNat_lt; simp [IntKind.bits]
  have eb : BitVec.ofInt IntKind.u8.bits (b.toNat : Int) = b.toBitVec := by
    apply BitVec.eq_of_toNat_eq; have := b.toNat_lt; simp [IntKind.bits]
  unfold bitI
  rw [ea, eb]
  cases op <;> exact key _

/-! ### Bytes in cells -/
def bv (u : UInt8) : V := .c (.int .u8 (u.toNat : Int))
def bs (l : List UInt8) : List V := l.map bv
theorem bs_length (l : List UInt8) : (bs l).length = l.length := by simp [bs]
theorem bs_getD {l : List UInt8} {i : Nat} (h : i < l.length) : (bs l).getD i .j = .c (.int .u8 ((l.getD i 0).toNat : Int)) := by
  simp [bs, List.getD, h, bv]
theorem bs_take (l : List UInt8) (n : Nat) : (bs l).take n = bs (l.take n) := by simp [bs, List.map_take]
theorem bs_drop (l : List UInt8) (n : Nat) : (bs l).drop n = bs (l.drop n) := by simp [bs, List.map_drop]
theorem bs_append (l m : List UInt8) : bs l ++ bs m = bs (l ++ m) := by simp [bs]
theorem bs_nil : bs [] = [] := rfl
theorem bs_inj {l m : List UInt8} : bs l = bs m ↔ l = m := by
  constructor
  · intro h
    unfold bs at h
    refine (List.map_inj_right ?_).1 h
    intro a b hab
    simp only [bv, V.c.injEq, Value.int.injEq, true_and] at hab
    exact UInt8.toNat_inj.1 (by omega)
  · intro h; rw [h]
theorem bs_replicate (n : Nat) (u : UInt8) : bs (List.replicate n u) = List.replicate n (.c (.int .u8 (u.toNat : Int))) := by simp [bs, bv]
theorem zeros_bs (n : Nat) : List.replicate n (V.c (.int .u8 0)) = bs (List.replicate n 0) := by rw [bs_replicate]; rfl
theorem intCells_bs (l : List UInt8) : intCells .u8 (bs l) := by
  intro c hc
  obtain ⟨u, _, rfl⟩ := List.mem_map.1 hc
  exact ⟨_, rfl⟩
theorem okL_bs (N : Nat) (l : List UInt8) : okL N (bs l) := okL_iff.2 fun v hv => by
  obtain ⟨u, _, rfl⟩ := List.mem_map.1 hv
  trivial
theorem instL_bs (sub : List (Nat × Nat)) (N : Nat) : ∀ (l : List UInt8), V.instL sub N (bs l) = bs l
  | [] => rfl
  | u :: l => by
    have := instL_bs sub N l
    simp only [bs, List.map_cons, V.instL] at this ⊢
    rw [this]; rfl
theorem renL_bs (σ : List Nat) : ∀ (l : List UInt8), V.renL σ (bs l) = bs l
  | [] => rfl
  | u :: l => by
    have := renL_bs σ l
    simp only [bs, List.map_cons, V.renL] at this ⊢
    rw [this]; rfl
theorem splice_bs {l : List UInt8} {i : Nat} (h : i < l.length) (u : UInt8) : splice (bs l) i [.c (.int .u8 (u.toNat : Int))] = bs (l.set i u) := by
  unfold splice
  rw [bs_take, List.length_singleton, bs_drop, show [V.c (.int .u8 (u.toNat : Int))] = bs [u] from rfl, bs_append, bs_append, bs_inj, List.set_eq_take_append_cons_drop, if_pos h]
  simp
/-- The whole block is written over. -/
theorem splice_all {cs vs : List V} (h : vs.length = cs.length) : splice cs 0 vs = vs := by
  unfold splice
  rw [List.drop_eq_nil_of_le (by omega)]
  simp
theorem take_all {cs : List V} {n : Nat} (h : n = cs.length) : cs.take n = cs := by subst h; simp

/-! ### Cells read and written, by rule -/
theorem vGet_bs {l : List UInt8} {i : Nat} {k : V → Prop} : vGet (bs l) i k = (i < l.length ∧ k (.c (.int .u8 ((l.getD i 0).toNat : Int)))) := by
  unfold vGet
  rw [bs_length]
  apply propext
  constructor
  · rintro ⟨h1, h2⟩; exact ⟨h1, by rwa [bs_getD h1] at h2⟩
  · rintro ⟨h1, h2⟩; exact ⟨h1, by rwa [bs_getD h1]⟩
theorem vGet_zero {c : V} {cs : List V} {k : V → Prop} : vGet (c :: cs) 0 k = k c := by simp [vGet]
theorem vGet_succ {c : V} {cs : List V} {i : Nat} {k : V → Prop} : vGet (c :: cs) (i + 1) k = vGet cs i k := by simp [vGet]
theorem vGet_rep {c : V} {n i : Nat} {k : V → Prop} : vGet (List.replicate n c) i k = (i < n ∧ k c) := by
  unfold vGet
  apply propext
  rw [List.length_replicate]
  constructor
  · rintro ⟨h1, h2⟩; exact ⟨h1, by simpa [List.getD, h1] using h2⟩
  · rintro ⟨h1, h2⟩; exact ⟨h1, by simpa [List.getD, h1] using h2⟩
theorem vSub_bs {l : List UInt8} {o n : Nat} {k : V → Prop} : vSub (bs l) o n k = (o + n ≤ l.length ∧ k (.a (bs ((l.drop o).take n)))) := by
  unfold vSub; rw [bs_length, bs_drop, bs_take]
theorem vSub_all {cs : List V} {n : Nat} (h : n = cs.length) {k : V → Prop} : vSub cs 0 n k = k (.a cs) := by
  subst h; simp [vSub]
def inU8 (n : Int) : Prop := 0 ≤ n ∧ n < 256
theorem inU8_toNat (u : UInt8) : inU8 (u.toNat : Int) = True := eq_true ⟨u8_nonneg u, u8_lt u⟩
theorem inU8_wrap (n : Int) : inU8 (IntKind.u8.wrap n) = True := by rw [wrap_u8, inU8_toNat]
theorem inU8_bitI (op : BinOp) (a b : Int) : inU8 (bitI op .u8 a b) = True := by
  unfold bitI; cases op <;> exact inU8_wrap _
theorem ofInt_u8wrap (n : Int) : UInt8.ofInt (IntKind.u8.wrap n) = UInt8.ofInt n := by rw [wrap_u8, ofInt_toNat]
theorem toNat_ofInt (n : Int) : ((UInt8.ofInt n).toNat : Int) = n % 256 := by
  simp [UInt8.ofInt, UInt8.toNat_ofNat']; omega
theorem ofInt_eq {a b : Int} (h : a % 256 = b % 256) : UInt8.ofInt a = UInt8.ofInt b := by
  apply UInt8.toNat_inj.1
  have := toNat_ofInt a; have := toNat_ofInt b; omega
theorem ofInt_i64wrap (n : Int) : UInt8.ofInt (IntKind.i64.wrap n) = UInt8.ofInt n := by
  apply ofInt_eq
  simp only [IntKind.wrap, IntKind.bits, IntKind.signed, Bool.true_and]
  split <;> omega
theorem ofInt_u64wrap (n : Int) : UInt8.ofInt (IntKind.u64.wrap n) = UInt8.ofInt n := by
  apply ofInt_eq
  simp only [IntKind.wrap, IntKind.bits, IntKind.signed, Bool.false_and]
  simp
theorem bitI_xor8 (a b : UInt8) : bitI .xor .u8 (a.toNat : Int) (b.toNat : Int) = ((a ^^^ b).toNat : Int) := bitI_u8 .xor a b
theorem bitI_and8 (a b : UInt8) : bitI .and .u8 (a.toNat : Int) (b.toNat : Int) = ((a &&& b).toNat : Int) := bitI_u8 .and a b
theorem bitI_or8 (a b : UInt8) : bitI .or .u8 (a.toNat : Int) (b.toNat : Int) = ((a ||| b).toNat : Int) := bitI_u8 .or a b
theorem vPut_bs {l : List UInt8} {o : Nat} {n : Int} {k : List V → Prop} (hn : inU8 n) : vPut (bs l) o [.c (.int .u8 n)] k = (o < l.length ∧ k (bs (l.set o (UInt8.ofInt n)))) := by
  have e : n = ((UInt8.ofInt n).toNat : Int) := by rw [toNat_ofInt]; unfold inU8 at hn; omega
  generalize UInt8.ofInt n = u at e
  subst e
  unfold vPut
  rw [bs_length, List.length_singleton]
  apply propext
  constructor
  · rintro ⟨h1, h2⟩; exact ⟨by omega, by rwa [splice_bs (by omega)] at h2⟩
  · rintro ⟨h1, h2⟩; exact ⟨by omega, by rwa [splice_bs h1]⟩
theorem vPut_all {cs vs : List V} (h : vs.length = cs.length) {k : List V → Prop} : vPut cs 0 vs k = k vs := by
  unfold vPut; rw [splice_all h]; simp [h]
theorem vPut_succ {c : V} {cs vs : List V} {o : Nat} {k : List V → Prop} : vPut (c :: cs) (o + 1) vs k = vPut cs o vs fun cs' => k (c :: cs') := by
  unfold vPut splice
  apply propext
  simp only [List.length_cons, List.take_succ_cons, List.cons_append, show o + 1 + vs.length = (o + vs.length) + 1 by omega, List.drop_succ_cons]
  constructor
  · rintro ⟨h1, h2⟩; exact ⟨by omega, h2⟩
  · rintro ⟨h1, h2⟩; exact ⟨by omega, h2⟩
theorem vPut_zero {c v : V} {cs : List V} {k : List V → Prop} : vPut (c :: cs) 0 [v] k = k (v :: cs) := by
  simp [vPut, splice]

theorem rep1 {x : V} : (List.replicate 1 [x]).flatten = [x] := rfl
theorem rep2 {x : V} : (List.replicate 2 [x]).flatten = [x, x] := rfl
theorem rep3 {x : V} : (List.replicate 3 [x]).flatten = [x, x, x] := rfl
theorem rep4 {x : V} : (List.replicate 4 [x]).flatten = [x, x, x, x] := rfl
theorem rep0 {x : List V} : (List.replicate 0 x).flatten = [] := rfl
theorem splice_zero {a v : V} {l : List V} : splice (a :: l) 0 [v] = v :: l := by simp [splice]
theorem splice_succ {a : V} {l vs : List V} {n : Nat} : splice (a :: l) (n + 1) vs = a :: splice l n vs := by
  simp [splice, show n + 1 + vs.length = (n + vs.length) + 1 by omega]
/-- Bytes with unknown room behind them. -/
theorem take_room {l : List UInt8} {n : Nat} {X : List V} (h : n = l.length) : List.take n (bs l ++ X) = bs l := by
  subst h; rw [← bs_length l, List.take_left]
theorem bits_u8 : IntKind.u8.bits = 8 := rfl
theorem bits_i64 : IntKind.i64.bits = 64 := rfl
theorem bits_u64 : IntKind.u64.bits = 64 := rfl
theorem bits_u32 : IntKind.u32.bits = 32 := rfl
/-- The zero cells of bytes that are made. -/
theorem flat_zeros {n : Nat} : (List.replicate n [V.c (.int .u8 0)]).flatten = bs (List.replicate n 0) := by
  rw [← zeros_bs]
  induction n with
  | zero => rfl
  | succ n ih => simp [List.replicate_succ, ih]

theorem renL_app (σ : List Nat) : ∀ (l m : List V), V.renL σ (l ++ m) = V.renL σ l ++ V.renL σ m
  | [], m => rfl
  | v :: l, m => by simp only [List.cons_append, V.renL, renL_app σ l m]
theorem renL_room (σ : List Nat) (L : List UInt8) (r : Nat) : V.renL σ (bs L ++ List.replicate r .j) = bs L ++ List.replicate r .j := by
  rw [renL_app, renL_bs]
  congr 1
  induction r with
  | zero => rfl
  | succ r ih => simp only [List.replicate_succ, V.renL, V.ren, ih]
theorem instL_app (sub : List (Nat × Nat)) (N : Nat) : ∀ (l m : List V), V.instL sub N (l ++ m) = V.instL sub N l ++ V.instL sub N m
  | [], m => rfl
  | v :: l, m => by simp only [List.cons_append, V.instL, instL_app sub N l m]
theorem instL_room (sub : List (Nat × Nat)) (N : Nat) (L : List UInt8) (r : Nat) : V.instL sub N (bs L ++ List.replicate r .j) = bs L ++ List.replicate r .j := by
  rw [instL_app, instL_bs]
  congr 1
  induction r with
  | zero => rfl
  | succ r ih => simp only [List.replicate_succ, V.instL, V.inst, ih]
theorem okL_room (N : Nat) (L : List UInt8) (r : Nat) : okL N (bs L ++ List.replicate r .j) := okL_iff.2 fun v hv => by
  rcases List.mem_append.1 hv with h | h
  · exact okL_iff.1 (okL_bs N L) v h
  · rw [List.mem_replicate] at h; rw [h.2]; trivial

/-! ### Parts of blocks: structs, arrays of arrays -/
section
variable {l r cs vs : List V} {c : V} {i o n : Nat} {k : V → Prop} {kl : List V → Prop}
theorem vGet_appR (h : l.length ≤ i) : vGet (l ++ r) i k = vGet r (i - l.length) k := by
  unfold vGet
  rw [List.getD_eq_getElem?_getD, List.getElem?_append_right h, ← List.getD_eq_getElem?_getD, List.length_append]
  apply propext; constructor
  · rintro ⟨h1, h2⟩; exact ⟨by omega, h2⟩
  · rintro ⟨h1, h2⟩; exact ⟨by omega, h2⟩
theorem vGet_appL (h : i < l.length) : vGet (l ++ r) i k = vGet l i k := by
  unfold vGet
  rw [List.getD_eq_getElem?_getD, List.getElem?_append_left h, ← List.getD_eq_getElem?_getD, List.length_append]
  apply propext; constructor
  · rintro ⟨_, h2⟩; exact ⟨h, h2⟩
  · rintro ⟨h1, h2⟩; exact ⟨by omega, h2⟩
theorem vGet_oneAdd : vGet (c :: cs) (1 + i) k = vGet cs i k := by rw [Nat.add_comm, vGet_succ]
theorem vSub_succ : vSub (c :: cs) (o + 1) n k = vSub cs o n k := by
  unfold vSub; simp only [List.length_cons, List.drop_succ_cons]
  apply propext; constructor
  · rintro ⟨h1, h2⟩; exact ⟨by omega, h2⟩
  · rintro ⟨h1, h2⟩; exact ⟨by omega, h2⟩
theorem vSub_oneAdd : vSub (c :: cs) (1 + o) n k = vSub cs o n k := by rw [Nat.add_comm, vSub_succ]
theorem vSub_appR (h : l.length ≤ o) : vSub (l ++ r) o n k = vSub r (o - l.length) n k := by
  unfold vSub
  rw [List.drop_append, List.drop_eq_nil_of_le h, List.nil_append, List.length_append]
  apply propext; constructor
  · rintro ⟨h1, h2⟩; exact ⟨by omega, h2⟩
  · rintro ⟨h1, h2⟩; exact ⟨by omega, h2⟩
theorem vSub_app0 (h : n = l.length) : vSub (l ++ r) 0 n k = k (.a l) := by
  subst h; unfold vSub; simp
theorem vSub_appL (h : o + n ≤ l.length) : vSub (l ++ r) o n k = vSub l o n k := by
  unfold vSub
  rw [List.drop_append_of_le_length (by omega), List.take_append_of_le_length (by simp; omega), List.length_append]
  apply propext; constructor
  · rintro ⟨_, h2⟩; exact ⟨h, h2⟩
  · rintro ⟨h1, h2⟩; exact ⟨by omega, h2⟩
theorem splice_appR (h : l.length ≤ o) : splice (l ++ r) o vs = l ++ splice r (o - l.length) vs := by
  unfold splice
  rw [List.take_append, List.take_of_length_le h, List.drop_append, List.drop_eq_nil_of_le (by omega), List.nil_append, List.append_assoc, List.append_assoc, List.append_assoc, show o + vs.length - l.length = o - l.length + vs.length by omega]
theorem splice_app0 (h : vs.length = l.length) : splice (l ++ r) 0 vs = vs ++ r := by
  unfold splice; rw [show 0 + vs.length = l.length by omega]; simp
theorem splice_appL (h : o + vs.length ≤ l.length) : splice (l ++ r) o vs = splice l o vs ++ r := by
  unfold splice
  rw [List.take_append_of_le_length (by omega), List.drop_append_of_le_length h]; simp
theorem vPut_appR (h : l.length ≤ o) : vPut (l ++ r) o vs kl = vPut r (o - l.length) vs fun r' => kl (l ++ r') := by
  unfold vPut; rw [splice_appR h, List.length_append]
  apply propext; constructor
  · rintro ⟨h1, h2⟩; exact ⟨by omega, h2⟩
  · rintro ⟨h1, h2⟩; exact ⟨by omega, h2⟩
theorem vPut_app0 (h : vs.length = l.length) : vPut (l ++ r) 0 vs kl = kl (vs ++ r) := by
  unfold vPut; rw [splice_app0 h, List.length_append]; simp; omega
theorem vPut_appL (h : o + vs.length ≤ l.length) : vPut (l ++ r) o vs kl = vPut l o vs fun l' => kl (l' ++ r) := by
  unfold vPut; rw [splice_appL h, List.length_append]
  apply propext; constructor
  · rintro ⟨_, h2⟩; exact ⟨h, h2⟩
  · rintro ⟨h1, h2⟩; exact ⟨by omega, h2⟩
theorem vPut_oneAdd : vPut (c :: cs) (1 + o) vs kl = vPut cs o vs fun cs' => kl (c :: cs') := by rw [Nat.add_comm, vPut_succ]
end
theorem u8n_lt (u : UInt8) : (u.toNat < 256) = True := eq_true u.toNat_lt
/-- Bytes written over bytes. -/
def splB (l : List UInt8) (o : Nat) (v : List UInt8) : List UInt8 := l.take o ++ v ++ l.drop (o + v.length)
theorem splB_length {l v : List UInt8} {o : Nat} (h : o + v.length ≤ l.length) : (splB l o v).length = l.length := by
  unfold splB; simp; omega
theorem splice_bss {l v : List UInt8} {o : Nat} : splice (bs l) o (bs v) = bs (splB l o v) := by
  unfold splice splB; rw [bs_take, bs_length, bs_drop, bs_append, bs_append]
theorem vPut_bss {l v : List UInt8} {o : Nat} {k : List V → Prop} : vPut (bs l) o (bs v) k = (o + v.length ≤ l.length ∧ k (bs (splB l o v))) := by
  unfold vPut; rw [splice_bss, bs_length, bs_length]

/-! ### Bools and numbers in cells -/
def blv (l : List Bool) : List V := l.map fun b => .c (.bool b)
def nsv (l : List Int) : List V := l.map fun n => .c (.int .i64 n)
theorem blv_length (l : List Bool) : (blv l).length = l.length := by simp [blv]
theorem nsv_length (l : List Int) : (nsv l).length = l.length := by simp [nsv]
theorem zeros_blv (n : Nat) : List.replicate n (V.c (.bool false)) = blv (List.replicate n false) := by simp [blv]
theorem vGet_blv {l : List Bool} {i : Nat} {k : V → Prop} : vGet (blv l) i k = (i < l.length ∧ k (.c (.bool (l.getD i false)))) := by
  unfold vGet; rw [blv_length]
  apply propext; constructor
  · rintro ⟨h1, h2⟩; exact ⟨h1, by simpa [blv, List.getD, h1] using h2⟩
  · rintro ⟨h1, h2⟩; exact ⟨h1, by simpa [blv, List.getD, h1] using h2⟩
theorem vGet_nsv {l : List Int} {i : Nat} {k : V → Prop} : vGet (nsv l) i k = (i < l.length ∧ k (.c (.int .i64 (l.getD i 0)))) := by
  unfold vGet; rw [nsv_length]
  apply propext; constructor
  · rintro ⟨h1, h2⟩; exact ⟨h1, by simpa [nsv, List.getD, h1] using h2⟩
  · rintro ⟨h1, h2⟩; exact ⟨h1, by simpa [nsv, List.getD, h1] using h2⟩
theorem vPut_blv {l : List Bool} {o : Nat} {b : Bool} {k : List V → Prop} : vPut (blv l) o [.c (.bool b)] k = (o < l.length ∧ k (blv (l.set o b))) := by
  unfold vPut
  rw [blv_length, List.length_singleton]
  have e : o < l.length → splice (blv l) o [.c (.bool b)] = blv (l.set o b) := fun h => by
    unfold splice blv
    rw [← List.map_take, List.length_singleton, ← List.map_drop, List.set_eq_take_append_cons_drop, if_pos h]
    simp
  apply propext; constructor
  · rintro ⟨h1, h2⟩; exact ⟨by omega, by rwa [e (by omega)] at h2⟩
  · rintro ⟨h1, h2⟩; exact ⟨by omega, by rwa [e h1]⟩
theorem instL_blv (sub : List (Nat × Nat)) (N : Nat) : ∀ (l : List Bool), V.instL sub N (blv l) = blv l
  | [] => rfl
  | u :: l => by
    have := instL_blv sub N l
    simp only [blv, List.map_cons, V.instL] at this ⊢
    rw [this]; rfl
theorem renL_blv (σ : List Nat) : ∀ (l : List Bool), V.renL σ (blv l) = blv l
  | [] => rfl
  | u :: l => by
    have := renL_blv σ l
    simp only [blv, List.map_cons, V.renL] at this ⊢
    rw [this]; rfl
theorem okL_blv (N : Nat) (l : List Bool) : okL N (blv l) := okL_iff.2 fun v hv => by
  obtain ⟨u, _, rfl⟩ := List.mem_map.1 hv
  trivial
theorem instL_nsv (sub : List (Nat × Nat)) (N : Nat) : ∀ (l : List Int), V.instL sub N (nsv l) = nsv l
  | [] => rfl
  | u :: l => by
    have := instL_nsv sub N l
    simp only [nsv, List.map_cons, V.instL] at this ⊢
    rw [this]; rfl
theorem renL_nsv (σ : List Nat) : ∀ (l : List Int), V.renL σ (nsv l) = nsv l
  | [] => rfl
  | u :: l => by
    have := renL_nsv σ l
    simp only [nsv, List.map_cons, V.renL] at this ⊢
    rw [this]; rfl
theorem okL_nsv (N : Nat) (l : List Int) : okL N (nsv l) := okL_iff.2 fun v hv => by
  obtain ⟨u, _, rfl⟩ := List.mem_map.1 hv
  trivial
theorem okL_app (N : Nat) (l m : List V) : okL N (l ++ m) = (okL N l ∧ okL N m) := by
  apply propext
  simp only [okL_iff, List.mem_append]
  exact ⟨fun h => ⟨fun v hv => h v (.inl hv), fun v hv => h v (.inr hv)⟩, fun h v hv => hv.elim (h.1 v) (h.2 v)⟩

theorem renL_rep (σ : List Nat) (r : Nat) : V.renL σ (List.replicate r .j) = List.replicate r .j := by
  induction r with
  | zero => rfl
  | succ r ih => simp only [List.replicate_succ, V.renL, V.ren, ih]
theorem instL_rep (sub : List (Nat × Nat)) (N r : Nat) : V.instL sub N (List.replicate r .j) = List.replicate r .j := by
  induction r with
  | zero => rfl
  | succ r ih => simp only [List.replicate_succ, V.instL, V.inst, ih]
theorem okL_rep (N r : Nat) : okL N (List.replicate r .j) := okL_junk r

/-! ### Loops -/
section
variable {X : Cx} {tm : List V} {hp : List Blk} {q : K} {body : Code}

/-- A loop: a family of states, a measure. -/
theorem kLoop_of {α : Type} (S : α → List V × List Blk) (μ : α → Nat) (G : α → Prop) (a0 : α) (hG : G a0) (h0 : ∃ σ, LeS X.m σ tm hp (S a0).1 (S a0).2)
    (hr : ∀ a, G a → kC X body (S a).1 (S a).2 (.rnd (fun tm1 hp1 => ∃ a', G a' ∧ μ a' < μ a ∧ ∃ σ, LeS X.m σ tm1 hp1 (S a').1 (S a').2) q)) : kLoop X body tm hp q := by
  obtain ⟨σ, h0⟩ := h0
  refine ⟨fun n tm' hp' => ∃ a, G a ∧ n = μ a ∧ tm' = (S a).1 ∧ hp' = (S a).2, ⟨_, _, _, σ, ⟨a0, hG, rfl, rfl, rfl⟩, h0⟩, ?_⟩
  rintro n tm' hp' ⟨a, hGa, rfl, rfl, rfl⟩
  have := hr a hGa
  unfold kC at this
  have hm : den X (.rnd (fun tm1 hp1 => ∃ a', G a' ∧ μ a' < μ a ∧ ∃ σ, LeS X.m σ tm1 hp1 (S a').1 (S a').2) q) =
      vThen (fun tm1 hp1 => ∃ n', n' < μ a ∧ ∃ tm2 hp2 σ, (∃ b, G b ∧ n' = μ b ∧ tm2 = (S b).1 ∧ hp2 = (S b).2) ∧ LeS X.m σ tm1 hp1 tm2 hp2) (den X q) := by
    rw [den]
    congr 1
    funext tm1 hp1
    apply propext
    constructor
    · rintro ⟨a', h1, h2, σ, h3⟩; exact ⟨_, h2, _, _, σ, ⟨a', h1, rfl, rfl, rfl⟩, h3⟩
    · rintro ⟨n', h1, tm2, hp2, σ, ⟨b, h2, rfl, rfl, rfl⟩, h3⟩; exact ⟨b, h2, h1, σ, h3⟩
  rw [hm] at this
  exact this
end

/-! ### Calls -/
section
variable {X : Cx} {f : FuncId} {args : List V} {d : Option Tmp} {ops : List Oper} {r : R} {tm : List V} {hp : List Blk} {q : K}

/-- A contract's end: one of the results that S tells of, the blocks that came in as they were, new ones behind them. -/
def Ret {α : Type} (ha : List Blk) (G : α → Prop) (S : α → V × List Blk) : V → List Blk → Prop := fun v hp => ∃ x, G x ∧ v = (S x).1 ∧ hp = ha ++ (S x).2

theorem kCall_Ret {α : Type} {args0 : List V} {ha : List Blk} {G : α → Prop} {S : α → V × List Blk} (h : LC X.P f args0 ha (Ret ha G S)) (hmu : X.mu.contains f = false) (sub : List (Nat × Nat))
    (h1 : leArgs args (V.instL sub hp.length args0)) (h2 : segOK hp sub sub ha) (h3 : okL ha.length args0) (h4 : ∀ b ∈ ha, okL ha.length b.cells) (h5 : ∀ x, ∀ b ∈ (S x).2, b.own = true ∨ b.cells = [])
    (hk : ∀ x, G x → kR X ops r (putV tm d ((S x).1.inst sub hp.length)) (hp ++ (S x).2.map fun b => ⟨b.own, V.instL sub hp.length b.cells⟩) q) : kCall X f args d ops r tm hp q := by
  unfold kCall
  rw [if_neg (by rw [hmu]; simp)]
  refine .inl ⟨args0, ha, _, sub, h, h1, h2, h3, h4, ?_⟩
  rintro v hp' ⟨x, hx, rfl, rfl⟩
  exact ⟨_, rfl, h5 x, hk x hx⟩
/-- A function without a body. -/
theorem kCall_ext {z : Value} (hmu : X.mu.contains f = false) (h : ∀ (M : Nat → Prop) (w0 w : World) (ρ : Loc) (xs : List Value), Hd M w0 ρ hp w → relL ρ args xs → (callFunc f xs.toArray).run X.P w = .ok (.value z) w)
    (hk : kR X ops r (putV tm d (.c z)) hp q) : kCall X f args d ops r tm hp q := by
  unfold kCall
  rw [if_neg (by rw [hmu]; simp)]
  exact .inr ⟨z, hk, h⟩

/-- A value comes back; no memory that outlives the call. -/
theorem kCall_val {args0 : List V} {ha : List Blk} {v0 : V} (h : LC X.P f args0 ha (fun v hp => v = v0 ∧ hp = ha)) (hmu : X.mu.contains f = false) (sub : List (Nat × Nat))
    (h1 : leArgs args (V.instL sub hp.length args0)) (h2 : segOK hp sub sub ha) (h3 : okL ha.length args0) (h4 : ∀ b ∈ ha, okL ha.length b.cells)
    (hk : kR X ops r (putV tm d (v0.inst sub hp.length)) hp q) : kCall X f args d ops r tm hp q := by
  unfold kCall
  rw [if_neg (by rw [hmu]; simp)]
  refine .inl ⟨args0, ha, _, sub, h, h1, h2, h3, h4, ?_⟩
  rintro v hp' ⟨rfl, rfl⟩
  exact ⟨[], by simp, by simp, by simpa using hk⟩

/-- A contract's end where the blocks that came in are written: the result, those blocks as they are now, new ones. -/
def RetM {α : Type} (G : α → Prop) (S : α → V × List Blk × List Blk) : V → List Blk → Prop := fun v hp => ∃ x, G x ∧ v = (S x).1 ∧ hp = (S x).2.1 ++ (S x).2.2

/-- A call that writes into the memory of its arguments. -/
theorem kCall_M {α : Type} {args0 : List V} {ha : List Blk} {G : α → Prop} {S : α → V × List Blk × List Blk} (h : LC X.P f args0 ha (RetM G S)) (hmu : X.mu.contains f = true) (sub : List (Nat × Nat))
    (h1 : leArgs args (V.instL sub hp.length args0)) (h2 : segM hp sub sub ha) (hnd : (sub.map (·.1)).Nodup) (h3 : okL ha.length args0) (h4 : ∀ b ∈ ha, okL ha.length b.cells)
    (h5 : ∀ x, G x → keepR ha (S x).2.1) (h6 : ∀ x, ∀ b ∈ (S x).2.2, b.own = true ∨ b.cells = [])
    (hk : ∀ x, G x → kR X ops r (putV tm d ((S x).1.inst sub hp.length)) (putSegs sub hp.length hp sub ha (S x).2.1 ++ (S x).2.2.map fun b => ⟨b.own, V.instL sub hp.length b.cells⟩) q) : kCall X f args d ops r tm hp q := by
  unfold kCall
  rw [if_pos hmu]
  refine ⟨args0, ha, _, sub, h, h1, h2, hnd, h3, h4, ?_⟩
  rintro v hp' ⟨x, hx, rfl, rfl⟩
  exact ⟨_, _, rfl, h5 x hx, h6 x, hk x hx⟩
end

/-! ### Nil as an empty slice -/
mutual
def nilV : V → V → Prop
  | .t vs, .t us => nilVs vs us
  | v, u => v = u ∨ ((v = .c (.slice none 0 0) ∨ ∃ h o, v = .s h o 0 0) ∧ ∃ g q, u = .s g q 0 0)
def nilVs : List V → List V → Prop
  | [], [] => True
  | v :: vs, u :: us => nilV v u ∧ nilVs vs us
  | _, _ => False
end
theorem nilV_one {v u : V} (h : v = u ∨ ((v = .c (.slice none 0 0) ∨ ∃ h o, v = .s h o 0 0) ∧ ∃ g q, u = .s g q 0 0)) {ρ : Loc} {N N' : Nat} (hN : N ≤ N') : (∀ x, rel ρ v x → rel ρ u x) ∧ (okV N v → okV N' u) := by
  rcases h with rfl | ⟨rfl | ⟨h, o, rfl⟩, g, q, rfl⟩
  · exact ⟨fun _ h => h, okV_mono hN⟩
  · refine ⟨fun x hx => ?_, fun _ => ?_⟩
    · unfold rel at hx ⊢; subst hx; exact ⟨Nat.le_refl _, none, rfl, fun h => absurd h (by omega)⟩
    · unfold okV; intro h; exact absurd h (by omega)
  · refine ⟨fun x hx => ?_, fun _ => ?_⟩
    · unfold rel at hx ⊢; obtain ⟨_, a, rfl, _⟩ := hx; exact ⟨Nat.le_refl _, a, rfl, fun h => absurd h (by omega)⟩
    · unfold okV; intro h; exact absurd h (by omega)
mutual
theorem nilV_rel {ρ : Loc} {N N' : Nat} (hN : N ≤ N') : ∀ (v u : V), nilV v u → (∀ x, rel ρ v x → rel ρ u x) ∧ (okV N v → okV N' u)
  | .t vs, .t us, h => by
    rw [nilV] at h
    obtain ⟨h1, h2⟩ := nilVs_rel (ρ := ρ) hN vs us h
    refine ⟨fun x hx => ?_, fun hk => ?_⟩
    · unfold rel at hx ⊢
      obtain ⟨l, e, hr⟩ := hx
      exact ⟨l, e, h1 l hr⟩
    · unfold okV at hk ⊢; exact h2 hk
  | .t _, .c _, h => by simp [nilV] at h
  | .t _, .p _ _, h => by simp [nilV] at h
  | .t _, .s _ _ _ _, h => by simp [nilV] at h
  | .t _, .a _, h => by simp [nilV] at h
  | .t _, .j, h => by simp [nilV] at h
  | .c _, u, h => nilV_one (by simpa [nilV] using h) hN
  | .p _ _, u, h => nilV_one (by simpa [nilV] using h) hN
  | .s _ _ _ _, u, h => nilV_one (by simpa [nilV] using h) hN
  | .a _, u, h => nilV_one (by simpa [nilV] using h) hN
  | .j, u, h => nilV_one (by simpa [nilV] using h) hN
theorem nilVs_rel {ρ : Loc} {N N' : Nat} (hN : N ≤ N') : ∀ (vs us : List V), nilVs vs us → (∀ xs, relL ρ vs xs → relL ρ us xs) ∧ (okL N vs → okL N' us)
  | [], [], _ => ⟨fun _ h => h, fun _ => trivial⟩
  | v :: vs, u :: us, h => by
    rw [nilVs] at h
    obtain ⟨a1, a2⟩ := nilV_rel (ρ := ρ) hN v u h.1
    obtain ⟨b1, b2⟩ := nilVs_rel (ρ := ρ) hN vs us h.2
    refine ⟨fun xs hx => ?_, fun hk => ?_⟩
    · unfold relL at hx ⊢
      obtain ⟨x, ys, e, h1, h2⟩ := hx
      exact ⟨x, ys, e, a1 x h1, b1 ys h2⟩
    · unfold okL at hk ⊢; exact ⟨a2 hk.1, b2 hk.2⟩
  | [], _ :: _, h => by simp [nilVs] at h
  | _ :: _, [], h => by simp [nilVs] at h
end
theorem Hd.empties {M : Nat → Prop} {w0 w : World} {ρ : Loc} {hp ex : List Blk} (h : Hd M w0 ρ hp w) (he : ∀ b ∈ ex, b.cells = []) : Hd M w0 ρ (hp ++ ex) w where
  keep := h.keep
  ok b hb := by
    rcases List.mem_append.1 hb with hb | hb
    · exact okL_mono (by simp) (h.ok b hb)
    · rw [he b hb]; simp [okL]
  cell g b hg j v hv := by
    rcases append_cases hg with ⟨_, hg⟩ | ⟨_, hg⟩
    · exact h.cell g b hg j v hv
    · rw [he b (List.mem_of_getElem? hg)] at hv; simp at hv
  own g b hg ho hne := by
    rcases append_cases hg with ⟨_, hg⟩ | ⟨_, hg⟩
    · exact h.own g b hg ho hne
    · exact absurd (he b (List.mem_of_getElem? hg)) hne
  sep g b g' b' hg hg' hgg ho hne hne' := by
    rcases append_cases hg with ⟨_, hg⟩ | ⟨_, hg⟩
    · rcases append_cases hg' with ⟨_, hg'⟩ | ⟨_, hg'⟩
      · exact h.sep g b g' b' hg hg' hgg ho hne hne'
      · exact absurd (he b' (List.mem_of_getElem? hg')) hne'
    · exact absurd (he b (List.mem_of_getElem? hg)) hne
/-- A contract told with empty slices in the place of nil. -/
theorem LC_nil {P : Program} {f : FuncId} {args : List V} {ha : List Blk} {α β : Type} {G : α → Prop} {S : α → V × List Blk} {G' : β → Prop} {S' : β → V × List Blk} (h : LC P f args ha (Ret ha G S))
    (hc : ∀ x, G x → ∃ y, G' y ∧ nilV (S x).1 (S' y).1 ∧ ∃ ex, (S' y).2 = (S x).2 ++ ex ∧ ∀ b ∈ ex, b.cells = []) : LC P f args ha (Ret ha G' S') := by
  refine ⟨h.1, fun w ρ xs hd hr hk => (h.2 w ρ xs hd hr hk).mono fun e w' hR => ?_⟩
  obtain ⟨v, hp', ρ', x, rfl, ⟨a, hGa, rfl, rfl⟩, hd', hlen, hsame, hrel, hok⟩ := hR
  obtain ⟨y, hGy, hn, ex, he, hz⟩ := hc a hGa
  have hN : (ha ++ (S a).2).length ≤ (ha ++ (S' y).2).length := by rw [he]; simp
  obtain ⟨n1, n2⟩ := nilV_rel (ρ := ρ') hN _ _ hn
  refine ⟨_, _, ρ', x, rfl, ⟨y, hGy, rfl, rfl⟩, ?_, by simp, hsame, n1 x hrel, n2 hok⟩
  rw [he, ← List.append_assoc]
  exact hd'.empties hz
end Go.Vc

import Derived.Test.YtapagcnipdpfiaaDigS
import Derived.Test.YtapagcnipdpfiaaPerm
/- Digests compared: the program's bytes.Compare and the reference's loop. -/
set_option linter.unusedSimpArgs false
set_option linter.unusedVariables false
namespace Go.Proofs.Ytapagcnipdpfiaa
open Go Go.Vc
set_option maxRecDepth 10000
set_option maxHeartbeats 4000000
/-- The first place at which two digests are not the same. -/
def dif (a b : List UInt8) : Option Nat := (List.range 32).find? fun i => a.getD i 0 != b.getD i 0
def lesD (a b : List UInt8) : Bool := match dif a b with
  | some i => decide (a.getD i 0 < b.getD i 0)
  | none => false
def cmpD (a b : List UInt8) : Int := match dif a b with
  | some i => if a.getD i 0 < b.getD i 0 then -1 else 1
  | none => 0
theorem dif_symm (a b : List UInt8) : dif a b = dif b a := by
  unfold dif
  congr 1
  funext i
  rw [Bool.eq_iff_iff, bne_iff_ne, bne_iff_ne]
  exact ⟨fun h e => h e.symm, fun h e => h e.symm⟩
theorem dif_some {a b : List UInt8} {i : Nat} (h : dif a b = some i) : i < 32 ∧ a.getD i 0 ≠ b.getD i 0 ∧ ∀ j, j < i → a.getD j 0 = b.getD j 0 := by
  unfold dif at h
  rw [List.find?_range_eq_some] at h
  obtain ⟨h1, h2, h3⟩ := h
  refine ⟨by simpa using h2, by simpa using h1, fun j hj => ?_⟩
  have := h3 j hj
  simpa using this
theorem dif_at {a b : List UInt8} {i : Nat} (hi : i < 32) (hn : a.getD i 0 ≠ b.getD i 0) (he : ∀ j, j < i → a.getD j 0 = b.getD j 0) : dif a b = some i := by
  unfold dif
  rw [List.find?_range_eq_some]
  refine ⟨by simpa using hn, by simpa using hi, fun j hj => ?_⟩
  have := he j hj
  simpa using this
theorem dif_none {a b : List UInt8} (ha : a.length = 32) (hb : b.length = 32) : dif a b = none ↔ a = b := by
  unfold dif
  rw [List.find?_range_eq_none]
  constructor
  · intro h
    apply List.ext_getElem (by omega)
    intro i h1 h2
    have := h i (by omega)
    simpa [List.getD_eq_getElem?_getD, h1, h2] using this
  · rintro rfl i _; simp
theorem cmp_neg (a b : List UInt8) : (cmpD a b < 0) = (lesD a b = true) := by
  unfold cmpD lesD
  cases dif a b with
  | none => simp
  | some i =>
    show ((if a.getD i 0 < b.getD i 0 then -1 else 1 : Int) < 0) = (decide (a.getD i 0 < b.getD i 0) = true)
    split
    · rename_i h; rw [decide_eq_true h]; simp
    · rename_i h; rw [decide_eq_false h]; simp
theorem cmp_pos (a b : List UInt8) : (cmpD a b > 0) = (lesD b a = true) := by
  unfold cmpD lesD
  rw [dif_symm b a]
  cases h : dif a b with
  | none => simp
  | some i =>
    obtain ⟨_, h2, _⟩ := dif_some h
    simp only [decide_eq_true_eq]
    split
    · rename_i h3
      simp only [eq_iff_iff]
      constructor
      · intro h; omega
      · intro h4
        have h5 := UInt8.lt_asymm h3 h4
        exact h5.elim
    · rename_i h3
      simp only [eq_iff_iff]
      constructor
      · intro _
        rcases UInt8.lt_or_lt_of_ne h2 with h4 | h4
        · exact absurd h4 h3
        · exact h4
      · intro _; omega
theorem cmp_zero {a b : List UInt8} (ha : a.length = 32) (hb : b.length = 32) : (cmpD a b = 0) = (a = b) := by
  rw [← dif_none ha hb]
  unfold cmpD
  cases dif a b with
  | none => simp
  | some i => simp only [eq_iff_iff]; split <;> simp
theorem arr_get (a : List UInt8) (i : Nat) : (⟨a.toArray⟩ : ByteArray)[i]! = a.getD i 0 := by
  rcases Nat.lt_or_ge i a.length with h | h
  · rw [getElem!_pos (⟨a.toArray⟩ : ByteArray) i (by simpa [ByteArray.size] using h)]
    show a.toArray[i] = _
    simp [h, List.getD_eq_getElem?_getD]
  · rw [getElem!_neg (⟨a.toArray⟩ : ByteArray) i (by simpa [ByteArray.size] using h)]
    simp only [List.getD_eq_getElem?_getD, List.getElem?_eq_none h, Option.getD_none]
    rfl
theorem ext_cmp {a b : List UInt8} (ha : a.length = 32) (hb : b.length = 32) : Extern.BytealgCompare.cmp ⟨a.toArray⟩ ⟨b.toArray⟩ = cmpD a b := by
  have s1 : (⟨a.toArray⟩ : ByteArray).size = 32 := by simpa [ByteArray.size] using ha
  have s2 : (⟨b.toArray⟩ : ByteArray).size = 32 := by simpa [ByteArray.size] using hb
  unfold Extern.BytealgCompare.cmp cmpD dif
  simp only [s1, s2, arr_get, Nat.min_self, Nat.lt_irrefl, gt_iff_lt, if_false]
  rfl
theorem ext_Compare (a b : List UInt8) (ha : a.length = 32) (hb : b.length = 32) (M : Nat → Prop) (w0 w : World) (ρ : Vc.Loc) (xs : List Value) (hd : Hd M w0 ρ [⟨false, bs a⟩, ⟨false, bs b⟩] w) (hr : relL ρ [.s 0 0 32 32, .s 1 0 32 32] xs) :
    (callFunc 142 xs.toArray).run Try.prog w = .ok (.value (.int .i64 (cmpD a b))) w := by
  simp only [relL] at hr
  obtain ⟨x1, _, rfl, r1, x2, _, rfl, r2, rfl⟩ := hr
  unfold rel at r1 r2
  obtain ⟨_, p, rfl, hp⟩ := r1
  obtain ⟨_, q, rfl, hq⟩ := r2
  have hp := hp (by omega)
  have hq := hq (by omega)
  subst hp hq
  rw [run_callFunc_extern Try.func142 (by kernel_rfl) (by kernel_rfl) (by kernel_rfl) (e := Extern.BytealgCompare.compare) (by kernel_rfl)]
  have hcell : ∀ (h : Nat) (l : List UInt8), l.length = 32 → ([⟨false, bs a⟩, ⟨false, bs b⟩] : List Blk)[h]? = some ⟨false, bs l⟩ → (Extern.Bytes.bytesOf (.slice (some ⟨(ρ h).1, (ρ h).2 + 0, none⟩) 32 32)).run Try.prog w = .ok ⟨l.toArray⟩ w := by
    intro h l hl hh
    have key := Lib.run_loadBytesX (P := Try.prog) w (l.map fun u : UInt8 => (u.toNat : Int)) ⟨(ρ h).1, (ρ h).2 + 0, none⟩ .empty (fun j x hj => by
      rw [List.getElem?_map, Option.map_eq_some_iff] at hj
      obtain ⟨u, hu, rfl⟩ := hj
      have hb : (bs l)[j]? = some (bv u) := by simp [bs, hu]
      obtain ⟨x, hx, _, h2⟩ := hd.cell h _ hh j _ hb
      unfold bv rel at h2
      have e : (⟨(ρ h).1, (ρ h).2 + 0, none⟩ : Addr).add j = ⟨(ρ h).1, (ρ h).2 + j, none⟩ := by unfold Addr.add; split <;> simp_all
      rw [e, hx, h2])
    rw [List.length_map, hl] at key
    have e1 : Lib.bytesOf (l.map fun u : UInt8 => (u.toNat : Int)) = l := by
      unfold Lib.bytesOf
      rw [List.map_map]
      have : ((fun n : Int => UInt8.ofNat n.toNat) ∘ fun u : UInt8 => (u.toNat : Int)) = id := by funext u; simp
      rw [this, List.map_id]
    rw [e1] at key
    have he : (⟨ByteArray.empty.data ++ l.toArray⟩ : ByteArray) = ⟨l.toArray⟩ := by
      apply ByteArray.ext
      show (#[] : Array UInt8) ++ l.toArray = l.toArray
      simp
    rw [he] at key
    simp only [Extern.Bytes.bytesOf]
    exact key
  have k1 := hcell 0 a ha rfl
  have k2 := hcell 1 b hb rfl
  have e : ∀ A B : Value, Extern.BytealgCompare.compare [A, B].toArray = (do pure (goInt (Extern.BytealgCompare.cmp (← Extern.Bytes.bytesOf A) (← Extern.Bytes.bytesOf B)))) := fun _ _ => rfl
  rw [e]
  simp only [Sem.run_bind, k1, k2, Result.andThen, Sem.run_pure, ext_cmp ha hb]
  rfl
theorem c_bytes_Compare (a b : List UInt8) (ha : a.length = 32) (hb : b.length = 32) : LC Try.prog 117 [.s 0 0 32 32, .s 1 0 32 32] [⟨false, bs a⟩, ⟨false, bs b⟩] (fun v hp => v = .c (.int .i64 (cmpD a b)) ∧ hp = [⟨false, bs a⟩, ⟨false, bs b⟩]) := by
  refine LC_of (X := XX (fun _ => .nil) (fun _ => []) [25, 33, 34, 61, 62, 82, 87, 112, 119, 141] 2) envOK Try.func117 (by kernel_rfl) (by kernel_rfl) rfl (Nat.le_of_ble_eq_true (by kernel_rfl)) ?_
  simp only [kFun, Try.f117, List.length_nil, List.length_cons, Nat.sub_zero, Nat.reduceSub, Nat.reduceAdd, List.nil_append, List.cons_append, List.replicate_succ, List.replicate_zero]
  simp only [XX, ↓VC, VP, TT, List.getElem?_toArray, Nat.reduceEqDiff, reduceCtorEq, Nat.reduceAdd, Nat.reduceSub, Nat.reduceLT, Nat.reduceMul, Nat.reducePow, Nat.reduceLeDiff, Int.reduceToNat, Int.reduceLE, Int.reduceLT, Int.reducePow]
  refine kCall_ext (z := .int .i64 (cmpD a b)) (by rfl) (ext_Compare a b ha hb) ?_
  simp only [↓VC, VP, TT, List.getElem?_toArray, Nat.reduceEqDiff, reduceCtorEq, Nat.reduceAdd, Nat.reduceSub, Nat.reduceLT, Nat.reduceMul, Nat.reducePow, Nat.reduceLeDiff, Int.reduceToNat, Int.reduceLE, Int.reduceLT, Int.reducePow]
  refine ⟨_, _, [0, 1], ⟨rfl, rfl⟩, ?_⟩
  simp [-List.reduceReplicate, LES]
theorem c_Digest_compare (a b : List UInt8) (ha : a.length = 32) (hb : b.length = 32) : LC Try.prog 78 [.a (bs a), .a (bs b)] [] (fun v hp => v = .c (.int .i64 (cmpD a b)) ∧ hp = []) := by
  refine LC_of (X := XX (fun | 1 => .one 0 (.one 1 (.one 2 (.one 3 .nil))) | _ => .nil) (fun _ => []) [25, 33, 34, 61, 62, 82, 87, 112, 119, 141] 0) envOK Try.func78 (by kernel_rfl) (by kernel_rfl) rfl (Nat.le_of_ble_eq_true (by kernel_rfl)) ?_
  simp only [kFun, Try.f78, List.length_nil, List.length_cons, Nat.sub_zero, Nat.reduceSub, Nat.reduceAdd, List.nil_append, List.cons_append, List.replicate_succ, List.replicate_zero]
  simp only [XX, ↓VC, VP, TT, List.getElem?_toArray, Nat.reduceEqDiff, reduceCtorEq, Nat.reduceAdd, Nat.reduceSub, Nat.reduceLT, Nat.reduceMul, Nat.reducePow, Nat.reduceLeDiff, Int.reduceToNat, Int.reduceLE, Int.reduceLT, Int.reducePow, ha, hb]
  refine kCall_val (c_bytes_Compare a b ha hb) (by rfl) [(0, 0), (1, 0)] (by simp [CALL]) (by simp [CALL, cellsAt, ha, hb, take_all]) (by simp [CALL]) (by simp [okL_bs]) ?_
  simp only [CALL, ↓VC, VP, TT, List.getElem?_toArray, Nat.reduceEqDiff, reduceCtorEq, Nat.reduceAdd, Nat.reduceSub, Nat.reduceLT, Nat.reduceMul, Nat.reducePow, Nat.reduceLeDiff, Int.reduceToNat, Int.reduceLE, Int.reduceLT, Int.reducePow]
  refine ⟨_, _, [], ⟨rfl, rfl⟩, ?_⟩; simp [-List.reduceReplicate, LES]
theorem c_spec_l09Less (a b : List UInt8) (ha : a.length = 32) (hb : b.length = 32) : LC Try.prog 116 [.a (bs a), .a (bs b)] [] (fun v hp => v = .c (.bool (lesD a b)) ∧ hp = []) := by
  refine LC_of (X := XX (fun | 4 => .one 0 (.one 1 (.one 2 (.one 3 (.one 4 (.one 5 (.one 6 .nil)))))) | 5 => .one 0 (.one 1 (.one 2 (.one 3 (.one 4 (.one 5 (.one 6 (.one 7 .nil))))))) | _ => .nil) (fun _ => []) [25, 33, 34, 61, 62, 82, 87, 112, 119, 141] 0) envOK Try.func116 (by kernel_rfl) (by kernel_rfl) rfl (Nat.le_of_ble_eq_true (by kernel_rfl)) ?_
  simp only [kFun, Try.f116, List.length_nil, List.length_cons, Nat.sub_zero, Nat.reduceSub, Nat.reduceAdd, List.nil_append, List.cons_append, List.replicate_succ, List.replicate_zero]
  simp only [XX, ↓VC, VP, TT, List.getElem?_toArray, Nat.reduceEqDiff, reduceCtorEq, Nat.reduceAdd, Nat.reduceSub, Nat.reduceLT, Nat.reduceMul, Nat.reducePow, Nat.reduceLeDiff, Int.reduceToNat, Int.reduceLE, Int.reduceLT, Int.reducePow, ha, hb]
  refine kLoop_of (fun i : Nat => ([.j, .j, .p 0 0, .p 1 0, .j, .c (.int .i64 (i)), .j, .j, .j, .j, .j, .j, .j, .j, .j, .j, .j, .j, .j, .j, .j, .j, .j, .j], [⟨true, bs a⟩, ⟨true, bs b⟩])) (fun i => 32 - i) (fun i => i ≤ 32 ∧ ∀ j, j < i → a.getD j 0 = b.getD j 0) 0 ⟨by omega, by intro j hj; omega⟩ ⟨[0, 1], by simp [-List.reduceReplicate, LES]⟩ ?_
  rintro i ⟨hi, he⟩
  rcases Nat.lt_or_ge i 32 with h | h
  · simp only [↓VC, VP, TT, List.getElem?_toArray, Nat.reduceEqDiff, reduceCtorEq, Nat.reduceAdd, Nat.reduceSub, Nat.reduceLT, Nat.reduceMul, Nat.reducePow, Nat.reduceLeDiff, Int.reduceToNat, Int.reduceLE, Int.reduceLT, Int.reducePow, ha, hb, (eq_true (by omega) : ((i : Int) < 32) = True), decide_true]
    repeat (refine ⟨by first | omega | (simp; done) | decide, ?_⟩)
    refine ⟨fun h1 => ?_, fun h1 => ?_⟩
    · have hne : a.getD i 0 ≠ b.getD i 0 := fun e => by rw [e] at h1; simp at h1
      repeat (refine ⟨by first | omega | (simp; done) | decide, ?_⟩)
      have e : lesD a b = decide (((a.getD i 0).toNat : Int) < ((b.getD i 0).toNat : Int)) := by
        unfold lesD; rw [dif_at h hne he]
        simp only [UInt8.lt_iff_toNat_lt, Int.ofNat_lt]
      rw [e]
      refine ⟨_, _, [], ⟨rfl, rfl⟩, ?_⟩; simp [-List.reduceReplicate, LES]
    · have heq : a.getD i 0 = b.getD i 0 := UInt8.toNat_inj.1 (by have := bne_eq_false_iff_eq.1 h1; omega)
      refine ⟨i + 1, ⟨by omega, fun j hj => ?_⟩, by omega, [0, 1], ?_⟩
      · rcases Nat.lt_or_ge j i with h2 | h2
        · exact he j h2
        · rw [show j = i by omega]; exact heq
      rw [wrap_i64 (by omega) (by omega)]
      simp [-List.reduceReplicate, LES]
  · obtain rfl : i = 32 := by omega
    simp only [↓VC, VP, TT, List.getElem?_toArray, Nat.reduceEqDiff, reduceCtorEq, Nat.reduceAdd, Nat.reduceSub, Nat.reduceLT, Nat.reduceMul, Nat.reducePow, Nat.reduceLeDiff, Int.reduceToNat, Int.reduceLE, Int.reduceLT, Int.reducePow, (eq_false (by omega) : (((32 : Nat) : Int) < 32) = False), decide_false]
    have e : lesD a b = false := by
      have : dif a b = none := (dif_none ha hb).2 (by
        apply List.ext_getElem (by omega)
        intro j h1 h2
        have := he j (by omega)
        simpa [List.getD_eq_getElem?_getD, h1, h2] using this)
      unfold lesD; rw [this]
    rw [e]
    refine ⟨_, _, [], ⟨rfl, rfl⟩, ?_⟩; simp [-List.reduceReplicate, LES]
/-- Do digests strictly ascend? -/
def ascD (n : Nat) (D : List UInt8) : Bool := (List.range (n - 1)).all fun i => lesD (dgA D i) (dgA D (i + 1))
theorem asc_no {n i : Nat} {D : List UInt8} (hi : i + 1 < n) (h : lesD (dgA D i) (dgA D (i + 1)) = false) : ascD n D = false := by
  unfold ascD
  rw [List.all_eq_false]
  exact ⟨i, by rw [List.mem_range]; omega, by rw [h]; exact Bool.false_ne_true⟩
theorem c_spec_l09Ascending (n c : Nat) (D : List UInt8) (hD : D.length = 32 * n) (hc : n ≤ c) (hm : n ≤ 1048576) : LC Try.prog 73 [.s 0 0 n c] [⟨false, bs D⟩] (fun v hp => v = .c (.bool (ascD n D)) ∧ hp = [⟨false, bs D⟩]) := by
  refine LC_of (X := XX (fun | 4 => .one 0 (.one 1 (.one 2 (.one 3 (.one 4 (.one 5 (.one 6 (.one 7 (.one 8 (.one 9 (.one 10 .nil)))))))))) | _ => .nil) (fun _ => []) [25, 33, 34, 61, 62, 82, 87, 112, 119, 141] 1) envOK Try.func73 (by kernel_rfl) (by kernel_rfl) rfl (Nat.le_of_ble_eq_true (by kernel_rfl)) ?_
  simp only [kFun, Try.f73, List.length_nil, List.length_cons, Nat.sub_zero, Nat.reduceSub, Nat.reduceAdd, List.nil_append, List.cons_append, List.replicate_succ, List.replicate_zero]
  simp only [XX, ↓VC, VP, TT, List.getElem?_toArray, Nat.reduceEqDiff, reduceCtorEq, Nat.reduceAdd, Nat.reduceSub, Nat.reduceLT, Nat.reduceMul, Nat.reducePow, Nat.reduceLeDiff, Int.reduceToNat, Int.reduceLE, Int.reduceLT, Int.reducePow]
  refine kLoop_of (fun i : Nat => ([.s 0 0 n c, .j, .j, .c (.int .i64 ((i + 1 : Nat))), .j, .j, .j, .j, .j, .j, .j, .j, .j, .j, .j, .j, .j, .j, .j, .j, .j], [⟨false, bs D⟩])) (fun i => n - i) (fun i => (i = 0 ∨ i + 1 ≤ n) ∧ ∀ j, j < i → lesD (dgA D j) (dgA D (j + 1)) = true) 0 ⟨.inl rfl, by intro j hj; omega⟩ ⟨[0], by simp [-List.reduceReplicate, LES]⟩ ?_
  rintro i ⟨hi, he⟩
  rcases Nat.lt_or_ge (i + 1) n with h | h
  · have e0 : IntKind.i64.wrap (((i + 1 : Nat) : Int) - 1) = (i : Int) := by rw [wrap_i64 (by omega) (by omega)]; omega
    simp only [↓VC, VP, TT, List.getElem?_toArray, Nat.reduceEqDiff, reduceCtorEq, Nat.reduceAdd, Nat.reduceSub, Nat.reduceLT, Nat.reduceMul, Nat.reducePow, Nat.reduceLeDiff, Int.reduceToNat, Int.reduceLE, Int.reduceLT, Int.reducePow, hD, (eq_true (by omega) : (((i + 1 : Nat) : Int) < (n : Int)) = True), decide_true, e0]
    repeat (refine ⟨by first | omega | (simp; done) | decide, ?_⟩)
    simp only [dgA_eq]
    refine kCall_val (c_spec_l09Less (dgA D i) (dgA D (i + 1)) (dgA_len hD (by omega)) (dgA_len hD h)) (by rfl) [] (by simp [CALL, cellsAt, tk, take_room, bs_length, bs_nil]) (by simp [CALL, cellsAt, tk, take_room, bs_length, bs_nil]) (by simp [CALL, cellsAt, tk, take_room, bs_length, bs_nil]) (by simp [okL_bs, okL_room, okL, okV]) ?_
    simp (config := { maxSteps := 2000000 }) only [CALL, ↓VC, VP, TT, List.getElem?_toArray, Nat.reduceEqDiff, reduceCtorEq, Nat.reduceAdd, Nat.reduceSub, Nat.reduceLT, Nat.reduceMul, Nat.reducePow, Nat.reduceLeDiff, Int.reduceToNat, Int.reduceLE, Int.reduceLT, Int.reducePow, instL_room, Bool.not_true, Bool.not_false]
    refine ⟨fun h1 => ?_, fun h1 => ?_⟩
    · simp only [Bool.not_eq_true'] at h1
      rw [asc_no h h1]
      refine ⟨_, _, [0], ⟨rfl, rfl⟩, ?_⟩
      simp [-List.reduceReplicate, LES]
    · simp only [Bool.not_eq_false'] at h1
      refine ⟨i + 1, ⟨.inr (by omega), fun j hj => ?_⟩, by omega, [0], ?_⟩
      · rcases Nat.lt_or_ge j i with h2 | h2
        · exact he j h2
        · rw [show j = i by omega]; exact h1
      rw [wrap_i64 (by omega) (by omega)]
      simp [-List.reduceReplicate, LES]
  · simp only [↓VC, VP, TT, List.getElem?_toArray, Nat.reduceEqDiff, reduceCtorEq, Nat.reduceAdd, Nat.reduceSub, Nat.reduceLT, Nat.reduceMul, Nat.reducePow, Nat.reduceLeDiff, Int.reduceToNat, Int.reduceLE, Int.reduceLT, Int.reducePow, (eq_false (by omega) : (((i + 1 : Nat) : Int) < (n : Int)) = False), decide_false]
    have e : ascD n D = true := by
      unfold ascD
      rw [List.all_eq_true]
      intro j hj
      rw [List.mem_range] at hj
      exact he j (by omega)
    rw [e]
    refine ⟨_, _, [0], ⟨rfl, rfl⟩, ?_⟩
    simp [-List.reduceReplicate, LES]
theorem c_impl_ascends (n c : Nat) (D : List UInt8) (hD : D.length = 32 * n) (hc : n ≤ c) (hm : n ≤ 1048576) : LC Try.prog 76 [.s 0 0 n c] [⟨false, bs D⟩] (fun v hp => v = .c (.bool (ascD n D)) ∧ hp = [⟨false, bs D⟩]) := by
  refine LC_of (X := XX (fun | 4 => .one 0 (.one 1 (.one 2 (.one 3 (.one 4 (.one 5 (.one 6 (.one 7 (.one 8 (.one 9 (.one 10 .nil)))))))))) | _ => .nil) (fun _ => []) [25, 33, 34, 61, 62, 82, 87, 112, 119, 141] 1) envOK Try.func76 (by kernel_rfl) (by kernel_rfl) rfl (Nat.le_of_ble_eq_true (by kernel_rfl)) ?_
  simp only [kFun, Try.f76, List.length_nil, List.length_cons, Nat.sub_zero, Nat.reduceSub, Nat.reduceAdd, List.nil_append, List.cons_append, List.replicate_succ, List.replicate_zero]
  simp only [XX, ↓VC, VP, TT, List.getElem?_toArray, Nat.reduceEqDiff, reduceCtorEq, Nat.reduceAdd, Nat.reduceSub, Nat.reduceLT, Nat.reduceMul, Nat.reducePow, Nat.reduceLeDiff, Int.reduceToNat, Int.reduceLE, Int.reduceLT, Int.reducePow]
  refine kLoop_of (fun i : Nat => ([.s 0 0 n c, .j, .j, .c (.int .i64 ((i + 1 : Nat))), .j, .j, .j, .j, .j, .j, .j, .j, .j, .j, .j, .j, .j, .j, .j, .j, .j], [⟨false, bs D⟩])) (fun i => n - i) (fun i => (i = 0 ∨ i + 1 ≤ n) ∧ ∀ j, j < i → lesD (dgA D j) (dgA D (j + 1)) = true) 0 ⟨.inl rfl, by intro j hj; omega⟩ ⟨[0], by simp [-List.reduceReplicate, LES]⟩ ?_
  rintro i ⟨hi, he⟩
  rcases Nat.lt_or_ge (i + 1) n with h | h
  · have e0 : IntKind.i64.wrap (((i + 1 : Nat) : Int) - 1) = (i : Int) := by rw [wrap_i64 (by omega) (by omega)]; omega
    simp only [↓VC, VP, TT, List.getElem?_toArray, Nat.reduceEqDiff, reduceCtorEq, Nat.reduceAdd, Nat.reduceSub, Nat.reduceLT, Nat.reduceMul, Nat.reducePow, Nat.reduceLeDiff, Int.reduceToNat, Int.reduceLE, Int.reduceLT, Int.reducePow, hD, (eq_true (by omega) : (((i + 1 : Nat) : Int) < (n : Int)) = True), decide_true, e0]
    repeat (refine ⟨by first | omega | (simp; done) | decide, ?_⟩)
    simp only [dgA_eq]
    refine kCall_val (c_Digest_compare (dgA D i) (dgA D (i + 1)) (dgA_len hD (by omega)) (dgA_len hD h)) (by rfl) [] (by simp [CALL, cellsAt, tk, take_room, bs_length, bs_nil]) (by simp [CALL, cellsAt, tk, take_room, bs_length, bs_nil]) (by simp [CALL, cellsAt, tk, take_room, bs_length, bs_nil]) (by simp [okL_bs, okL_room, okL, okV]) ?_
    simp (config := { maxSteps := 2000000 }) only [CALL, ↓VC, VP, TT, List.getElem?_toArray, Nat.reduceEqDiff, reduceCtorEq, Nat.reduceAdd, Nat.reduceSub, Nat.reduceLT, Nat.reduceMul, Nat.reducePow, Nat.reduceLeDiff, Int.reduceToNat, Int.reduceLE, Int.reduceLT, Int.reducePow, instL_room, Bool.not_true, Bool.not_false]
    have hcn := cmp_neg (dgA D i) (dgA D (i + 1))
    refine ⟨fun h1 => ?_, fun h1 => ?_⟩
    · have h2 : lesD (dgA D i) (dgA D (i + 1)) = false := by
        rw [← Bool.not_eq_true, ← hcn]; omega
      rw [asc_no h h2]
      refine ⟨_, _, [0], ⟨rfl, rfl⟩, ?_⟩
      simp [-List.reduceReplicate, LES]
    · have h2 : lesD (dgA D i) (dgA D (i + 1)) = true := by rw [← hcn]; omega
      refine ⟨i + 1, ⟨.inr (by omega), fun j hj => ?_⟩, by omega, [0], ?_⟩
      · rcases Nat.lt_or_ge j i with h3 | h3
        · exact he j h3
        · rw [show j = i by omega]; exact h2
      rw [wrap_i64 (by omega) (by omega)]
      simp [-List.reduceReplicate, LES]
  · simp only [↓VC, VP, TT, List.getElem?_toArray, Nat.reduceEqDiff, reduceCtorEq, Nat.reduceAdd, Nat.reduceSub, Nat.reduceLT, Nat.reduceMul, Nat.reducePow, Nat.reduceLeDiff, Int.reduceToNat, Int.reduceLE, Int.reduceLT, Int.reducePow, (eq_false (by omega) : (((i + 1 : Nat) : Int) < (n : Int)) = False), decide_false]
    have e : ascD n D = true := by
      unfold ascD
      rw [List.all_eq_true]
      intro j hj
      rw [List.mem_range] at hj
      exact he j (by omega)
    rw [e]
    refine ⟨_, _, [0], ⟨rfl, rfl⟩, ?_⟩
    simp [-List.reduceReplicate, LES]
end Go.Proofs.Ytapagcnipdpfiaa
/- Places in an ascending list: the reference counts, the program searches. -/
set_option linter.unusedSimpArgs false
set_option linter.unusedVariables false
namespace Go.Proofs.Ytapagcnipdpfiaa
open Go Go.Vc
set_option maxRecDepth 10000
set_option maxHeartbeats 4000000
/-- How many of the first i are less. -/
def plN (D x : List UInt8) : Nat → Nat
  | 0 => 0
  | i + 1 => plN D x i + if lesD (dgA D i) x = true then 1 else 0
theorem plN_le (D x : List UInt8) : ∀ i, plN D x i ≤ i
  | 0 => Nat.le_refl _
  | i + 1 => by have := plN_le D x i; rw [plN]; split <;> omega
theorem c_spec_l09Place (n c : Nat) (D x : List UInt8) (hD : D.length = 32 * n) (hx : x.length = 32) (hc : n ≤ c) (hm : n ≤ 1048576) : LC Try.prog 74 [.s 0 0 n c, .a (bs x)] [⟨false, bs D⟩] (fun v hp => v = .c (.int .i64 ((plN D x n : Nat))) ∧ hp = [⟨false, bs D⟩]) := by
  refine LC_of (X := XX (fun | 5 => .one 0 (.one 1 (.one 2 (.one 3 (.one 4 (.one 5 .nil))))) | _ => .nil) (fun _ => []) [25, 33, 34, 61, 62, 82, 87, 112, 119, 141] 1) envOK Try.func74 (by kernel_rfl) (by kernel_rfl) rfl (Nat.le_of_ble_eq_true (by kernel_rfl)) ?_
  simp only [kFun, Try.f74, List.length_nil, List.length_cons, Nat.sub_zero, Nat.reduceSub, Nat.reduceAdd, List.nil_append, List.cons_append, List.replicate_succ, List.replicate_zero]
  simp only [XX, ↓VC, VP, TT, List.getElem?_toArray, Nat.reduceEqDiff, reduceCtorEq, Nat.reduceAdd, Nat.reduceSub, Nat.reduceLT, Nat.reduceMul, Nat.reducePow, Nat.reduceLeDiff, Int.reduceToNat, Int.reduceLE, Int.reduceLT, Int.reducePow, hx]
  refine kLoop_of (fun i : Nat => ([.s 0 0 n c, .j, .j, .p 1 0, .j, .c (.int .i64 ((plN D x i : Nat))), .c (.int .i64 (i)), .j, .j, .j, .j, .j, .j, .j, .j, .j, .j, .j, .j, .j, .j, .j], [⟨false, bs D⟩, ⟨true, bs x⟩])) (fun i => n - i) (fun i => i ≤ n) 0 (by omega) ⟨[0, 1], by simp [-List.reduceReplicate, LES, plN]⟩ ?_
  intro i hi
  have hpl := plN_le D x i
  rcases Nat.lt_or_ge i n with h | h
  · simp only [↓VC, VP, TT, List.getElem?_toArray, Nat.reduceEqDiff, reduceCtorEq, Nat.reduceAdd, Nat.reduceSub, Nat.reduceLT, Nat.reduceMul, Nat.reducePow, Nat.reduceLeDiff, Int.reduceToNat, Int.reduceLE, Int.reduceLT, Int.reducePow, hD, hx, (eq_true (by omega) : ((i : Int) < (n : Int)) = True), decide_true]
    repeat (refine ⟨by first | omega | (simp; done) | decide, ?_⟩)
    simp only [dgA_eq]
    refine kCall_val (c_spec_l09Less (dgA D i) x (dgA_len hD h) hx) (by rfl) [] (by simp [CALL, cellsAt, tk, take_room, bs_length, bs_nil]) (by simp [CALL, cellsAt, tk, take_room, bs_length, bs_nil]) (by simp [CALL, cellsAt, tk, take_room, bs_length, bs_nil]) (by simp [okL_bs, okL_room, okL, okV]) ?_
    simp (config := { maxSteps := 2000000 }) only [CALL, ↓VC, VP, TT, List.getElem?_toArray, Nat.reduceEqDiff, reduceCtorEq, Nat.reduceAdd, Nat.reduceSub, Nat.reduceLT, Nat.reduceMul, Nat.reducePow, Nat.reduceLeDiff, Int.reduceToNat, Int.reduceLE, Int.reduceLT, Int.reducePow, instL_room, Bool.not_true, Bool.not_false]
    have w1 : IntKind.i64.wrap (((plN D x i : Nat) : Int) + 1) = ((plN D x i + 1 : Nat) : Int) := by rw [wrap_i64 (by omega) (by omega)]; omega
    refine ⟨fun h1 => ⟨i + 1, by omega, by omega, [0, 1], ?_⟩, fun h1 => ⟨i + 1, by omega, by omega, [0, 1], ?_⟩⟩
    · rw [wrap_i64 (n := (i : Int) + 1) (by omega) (by omega), w1, plN, if_pos h1]
      simp [-List.reduceReplicate, LES]
    · rw [wrap_i64 (n := (i : Int) + 1) (by omega) (by omega), plN, if_neg (by rw [h1]; decide)]
      simp [-List.reduceReplicate, LES]
  · obtain rfl : i = n := by omega
    simp only [↓VC, VP, TT, List.getElem?_toArray, Nat.reduceEqDiff, reduceCtorEq, Nat.reduceAdd, Nat.reduceSub, Nat.reduceLT, Nat.reduceMul, Nat.reducePow, Nat.reduceLeDiff, Int.reduceToNat, Int.reduceLE, Int.reduceLT, Int.reducePow, (eq_false (by omega) : ((i : Int) < (i : Int)) = False), decide_false]
    refine ⟨_, _, [0], ⟨rfl, rfl⟩, ?_⟩
    simp [-List.reduceReplicate, LES]
/-! ### In an ascending list the less ones come first -/
theorem les_trans {a b c : List UInt8} (h1 : lesD a b = true) (h2 : lesD b c = true) : lesD a c = true := by
  unfold lesD at h1 h2 ⊢
  cases e1 : dif a b with
  | none => rw [e1] at h1; cases h1
  | some i =>
    cases e2 : dif b c with
    | none => rw [e2] at h2; cases h2
    | some j =>
      rw [e1] at h1; rw [e2] at h2
      simp only [decide_eq_true_eq] at h1 h2
      obtain ⟨hi, _, hbi⟩ := dif_some e1
      obtain ⟨hj, _, hbj⟩ := dif_some e2
      rcases Nat.lt_trichotomy i j with h | h | h
      · have e := hbj i h
        rw [dif_at hi (by rw [← e]; intro e'; rw [e'] at h1; exact absurd h1 (by simp)) (fun k hk => (hbi k hk).trans (hbj k (by omega)))]
        simp only [decide_eq_true_eq]; rw [← e]; exact h1
      · subst h
        have h3 := UInt8.lt_trans h1 h2
        rw [dif_at hi (by intro e'; rw [e'] at h3; exact absurd h3 (by simp)) (fun k hk => (hbi k hk).trans (hbj k hk))]
        simp only [decide_eq_true_eq]; exact h3
      · have e := hbi j h
        rw [dif_at hj (by rw [e]; intro e'; rw [e'] at h2; exact absurd h2 (by simp)) (fun k hk => (hbi k (by omega)).trans (hbj k hk))]
        simp only [decide_eq_true_eq]; rw [e]; exact h2
theorem asc_step {n : Nat} {D : List UInt8} (h : ascD n D = true) {i : Nat} (hi : i + 1 < n) : lesD (dgA D i) (dgA D (i + 1)) = true := by
  cases e : lesD (dgA D i) (dgA D (i + 1)) with
  | true => rfl
  | false => rw [asc_no hi e] at h; cases h
theorem asc_lt {n : Nat} {D : List UInt8} (h : ascD n D = true) {i : Nat} : ∀ {j : Nat}, i < j → j < n → lesD (dgA D i) (dgA D j) = true
  | 0, h1, _ => absurd h1 (Nat.not_lt_zero _)
  | j + 1, h1, h2 => by
    rcases Nat.lt_or_ge i j with h3 | h3
    · exact les_trans (asc_lt h h3 (by omega)) (asc_step h h2)
    · rw [show i = j by omega]; exact asc_step h h2
theorem asc_less {n : Nat} {D x : List UInt8} (h : ascD n D = true) {i j : Nat} (hij : i ≤ j) (hj : j < n) (hl : lesD (dgA D j) x = true) : lesD (dgA D i) x = true := by
  rcases Nat.lt_or_ge i j with h3 | h3
  · exact les_trans (asc_lt h h3 hj) hl
  · rw [show i = j by omega]; exact hl
theorem asc_more {n : Nat} {D x : List UInt8} (h : ascD n D = true) {i j : Nat} (hij : i ≤ j) (hj : j < n) (hl : lesD (dgA D i) x = false) : lesD (dgA D j) x = false := by
  cases e : lesD (dgA D j) x with
  | false => rfl
  | true => rw [asc_less h hij hj e] at hl; cases hl
theorem plN_at {n lo : Nat} {D x : List UInt8} (h : lo ≤ n) (h1 : ∀ i, i < lo → lesD (dgA D i) x = true) (h2 : ∀ i, lo ≤ i → i < n → lesD (dgA D i) x = false) : plN D x n = lo := by
  have a : ∀ m, m ≤ n → plN D x m = min m lo := by
    intro m
    induction m with
    | zero => intro _; simp [plN]
    | succ m ih =>
      intro hm
      rw [plN, ih (by omega)]
      rcases Nat.lt_or_ge m lo with h3 | h3
      · rw [if_pos (h1 m h3)]; omega
      · rw [if_neg (by rw [h2 m h3 (by omega)]; decide)]; omega
  rw [a n (Nat.le_refl _)]; omega
/-- Whether x is at its place. -/
def fdB (n : Nat) (D x : List UInt8) : Bool := decide (plN D x n < n) && (dgA D (plN D x n) == x)
theorem c_search (n c : Nat) (D x : List UInt8) (hD : D.length = 32 * n) (hx : x.length = 32) (hc : n ≤ c) (hm : n ≤ 1048576) (hA : ascD n D = true) : LC Try.prog 77 [.s 0 0 n c, .a (bs x), .c (.func (.func 78) #[] #[])] [⟨false, bs D⟩] (fun v hp => v = .t [.c (.int .i64 ((plN D x n : Nat))), .c (.bool (fdB n D x))] ∧ hp = [⟨false, bs D⟩]) := by
  refine LC_of (X := XX (fun | 5 => .one 0 (.one 1 (.one 2 (.one 3 (.one 4 (.one 5 (.one 6 (.one 7 .nil))))))) | 8 => .one 0 (.one 1 (.one 2 (.one 3 (.one 4 (.one 5 (.one 6 (.one 7 (.one 8 (.one 9 (.one 10 (.one 11 (.one 12 (.one 13 (.one 14 (.one 15 .nil))))))))))))))) | _ => .nil) (fun _ => []) [25, 33, 34, 61, 62, 82, 87, 112, 119, 141] 1) envOK Try.func77 (by kernel_rfl) (by kernel_rfl) rfl (Nat.le_of_ble_eq_true (by kernel_rfl)) ?_
  simp only [kFun, Try.f77, List.length_nil, List.length_cons, Nat.sub_zero, Nat.reduceSub, Nat.reduceAdd, List.nil_append, List.cons_append, List.replicate_succ, List.replicate_zero]
  simp only [XX, ↓VC, VP, TT, List.getElem?_toArray, Nat.reduceEqDiff, reduceCtorEq, Nat.reduceAdd, Nat.reduceSub, Nat.reduceLT, Nat.reduceMul, Nat.reducePow, Nat.reduceLeDiff, Int.reduceToNat, Int.reduceLE, Int.reduceLT, Int.reducePow, hx]
  refine kLoop_of (fun s : Nat × Nat => ([.s 0 0 n c, .j, .c (.func (.func 78) #[] #[]), .j, .p 1 0, .j, .j, .j, .c (.int .i64 (n)), .c (.int .i64 (s.1)), .c (.int .i64 (s.2)), .j, .j, .j, .j, .j, .j, .j, .j, .j, .j, .j, .j, .j, .j, .j, .j, .j, .j, .j, .j, .j, .j, .j, .j, .j, .j, .j, .j, .j, .j, .j, .j, .j, .j, .j, .j, .j, .j], [⟨false, bs D⟩, ⟨true, bs x⟩])) (fun s => s.2 - s.1) (fun s => s.1 ≤ s.2 ∧ s.2 ≤ n ∧ (∀ i, i < s.1 → lesD (dgA D i) x = true) ∧ ∀ i, s.2 ≤ i → i < n → lesD (dgA D i) x = false) (0, n) ⟨by omega, by omega, by intro i h; omega, by intro i h1 h2; omega⟩ ⟨[0, 1], by simp [-List.reduceReplicate, LES]⟩ ?_
  rintro ⟨lo, hi⟩ ⟨h1, h2, h3, h4⟩
  simp only at h1 h2 h3 h4
  rcases Nat.lt_or_ge lo hi with h | h
  · have hmid : IntKind.i64.wrap ((IntKind.u64.wrap (IntKind.i64.wrap ((lo : Int) + (hi : Int)))).fdiv (2 ^ min 1 64)) = (((lo + hi) / 2 : Nat) : Int) := by
      rw [wrap_i64 (n := (lo : Int) + (hi : Int)) (by omega) (by omega), wrap_u64 (by omega) (by omega)]
      have e : ((lo : Int) + (hi : Int)).fdiv (2 ^ min 1 64) = (((lo + hi) / 2 : Nat) : Int) := by
        rw [show ((2 : Int) ^ min 1 64) = 2 from rfl, Int.fdiv_eq_ediv_of_nonneg _ (by omega)]
        omega
      rw [e, wrap_i64 (by omega) (by omega)]
    have hm1 : lo ≤ (lo + hi) / 2 := by omega
    have hm2 : (lo + hi) / 2 < hi := by omega
    simp only [↓VC, VP, TT, List.getElem?_toArray, Nat.reduceEqDiff, reduceCtorEq, Nat.reduceAdd, Nat.reduceSub, Nat.reduceLT, Nat.reduceMul, Nat.reducePow, Nat.reduceLeDiff, Int.reduceToNat, Int.reduceLE, Int.reduceLT, Int.reducePow, hD, hx, (eq_true (by omega) : ((lo : Int) < (hi : Int)) = True), decide_true, hmid]
    generalize (lo + hi) / 2 = k at *
    refine ⟨by omega, by omega, kCallV_of (by rfl) ?_⟩
    simp only [dgA_eq]
    refine kCall_val (c_Digest_compare (dgA D k) x (dgA_len hD (by omega)) hx) (by rfl) [] (by simp [CALL, cellsAt, tk, take_room, bs_length, bs_nil]) (by simp [CALL, cellsAt, tk, take_room, bs_length, bs_nil]) (by simp [CALL, cellsAt, tk, take_room, bs_length, bs_nil]) (by simp [okL_bs, okL_room, okL, okV]) ?_
    simp (config := { maxSteps := 2000000 }) only [CALL, ↓VC, VP, TT, List.getElem?_toArray, Nat.reduceEqDiff, reduceCtorEq, Nat.reduceAdd, Nat.reduceSub, Nat.reduceLT, Nat.reduceMul, Nat.reducePow, Nat.reduceLeDiff, Int.reduceToNat, Int.reduceLE, Int.reduceLT, Int.reducePow, instL_room, Bool.not_true, Bool.not_false]
    have hcn := cmp_neg (dgA D k) x
    refine ⟨fun e1 => ⟨(k + 1, hi), ⟨by simp only; omega, by simp only; omega, fun i hi2 => asc_less hA (j := k) (by simp only at hi2; omega) (by omega) (by rw [← hcn]; omega), h4⟩, by simp only; omega, [0, 1], ?_⟩, fun e1 => ⟨(lo, k), ⟨by simp only; omega, by simp only; omega, h3, fun i hi2 hi3 => asc_more hA (i := k) (by simp only at hi2; omega) hi3 (by rw [← Bool.not_eq_true, ← hcn]; omega)⟩, by simp only; omega, [0, 1], ?_⟩⟩
    · rw [wrap_i64 (by omega) (by omega)]
      simp [-List.reduceReplicate, LES]
    · simp [-List.reduceReplicate, LES]
  · obtain rfl : lo = hi := by omega
    simp only [↓VC, VP, TT, List.getElem?_toArray, Nat.reduceEqDiff, reduceCtorEq, Nat.reduceAdd, Nat.reduceSub, Nat.reduceLT, Nat.reduceMul, Nat.reducePow, Nat.reduceLeDiff, Int.reduceToNat, Int.reduceLE, Int.reduceLT, Int.reducePow, hD, hx, (eq_false (by omega) : ((lo : Int) < (lo : Int)) = False), decide_false]
    have hp := plN_at (D := D) (x := x) h2 h3 h4
    refine kGd_split rfl (fun h5 => ?_) (fun h5 => ?_)
    · rw [decide_eq_true_eq] at h5
      simp only [↓VC, VP, TT, List.getElem?_toArray, Nat.reduceEqDiff, reduceCtorEq, Nat.reduceAdd, Nat.reduceSub, Nat.reduceLT, Nat.reduceMul, Nat.reducePow, Nat.reduceLeDiff, Int.reduceToNat, Int.reduceLE, Int.reduceLT, Int.reducePow, hD, hx, dgA_eq]
      refine ⟨by omega, by omega, kCallV_of (by rfl) ?_⟩
      refine kCall_val (c_Digest_compare (dgA D lo) x (dgA_len hD (by omega)) hx) (by rfl) [] (by simp [CALL, cellsAt, tk, take_room, bs_length, bs_nil]) (by simp [CALL, cellsAt, tk, take_room, bs_length, bs_nil]) (by simp [CALL, cellsAt, tk, take_room, bs_length, bs_nil]) (by simp [okL_bs, okL_room, okL, okV]) ?_
      simp (config := { maxSteps := 2000000 }) only [CALL, ↓VC, VP, TT, List.getElem?_toArray, Nat.reduceEqDiff, reduceCtorEq, Nat.reduceAdd, Nat.reduceSub, Nat.reduceLT, Nat.reduceMul, Nat.reducePow, Nat.reduceLeDiff, Int.reduceToNat, Int.reduceLE, Int.reduceLT, Int.reducePow, instL_room, Bool.not_true, Bool.not_false]
      have e : fdB n D x = (cmpD (dgA D lo) x == 0) := by
        unfold fdB
        rw [hp, decide_eq_true (show lo < n by omega), Bool.true_and, Bool.eq_iff_iff, beq_iff_eq, beq_iff_eq, cmp_zero (dgA_len hD (by omega)) hx]
      rw [hp, e]
      refine ⟨_, _, [0], ⟨rfl, rfl⟩, ?_⟩
      simp [-List.reduceReplicate, LES]
    · rw [decide_eq_false_iff_not] at h5
      simp only [↓VC, VP, TT, List.getElem?_toArray, Nat.reduceEqDiff, reduceCtorEq, Nat.reduceAdd, Nat.reduceSub, Nat.reduceLT, Nat.reduceMul, Nat.reducePow, Nat.reduceLeDiff, Int.reduceToNat, Int.reduceLE, Int.reduceLT, Int.reducePow]
      refine ⟨_, _, [0], ⟨rfl, rfl⟩, ?_⟩
      have e : fdB n D x = false := by unfold fdB; rw [hp, decide_eq_false (by omega), Bool.false_and]
      rw [hp, e]
      simp [-List.reduceReplicate, LES]
end Go.Proofs.Ytapagcnipdpfiaa

import Derived.Test.YtledcckafhpgaaaVcgO
import Derived.WalkKit
import Derived.ProofKit
import Derived.OpenShut
import Derived.ShutString
import Derived.ChangeOld
import Derived.Below
import Derived.Test.YtledcckafhpgaaaVcgQ
/- From a function's contract to a row of the joined form. -/
set_option linter.unusedSimpArgs false
set_option linter.unusedVariables false
namespace Go.Vc
open Go Go.RowKit Go.ChangeShapes Go.WideShapes Go.ChangeAt

/-- A law that returns true over memory that it only reads. -/
theorem LC_row {P : Program} {f : FuncId} {args0 : List V} {ha : List Blk} (h : LC P f args0 ha (fun v _ => v = .c (.bool true))) (hro : ∀ b ∈ ha, b.own = false) (hok : okL ha.length args0) (hokb : ∀ b ∈ ha, okL ha.length b.cells)
    {w : World} {ρ : Loc} {xs : List Value} (hcell : ∀ h b, ha[h]? = some b → ∀ j v, b.cells[j]? = some v → ∃ x, w.cell? ⟨(ρ h).1, (ρ h).2 + j, none⟩ = some x ∧ x.oneCell' = true ∧ rel ρ v x) (hrel : relL ρ args0 xs) :
    Calls P f xs.toArray w fun e w' => e = .returned (.bool true) ∧ Below w.heap.size w w' := by
  have hno : ∀ {h : Nat} {b : Blk}, ha[h]? = some b → b.own = true → False := fun hb ho => by
    rw [hro _ (List.mem_of_getElem? hb)] at ho; cases ho
  have hm : ∀ k, ¬ modOf ha ρ k := fun k hk => by
    obtain ⟨h, b, hb, ho, _⟩ := hk
    exact hno hb ho
  refine (h.2 w ρ xs ⟨Keep.refl _ _, hokb, hcell, fun h b hb ho _ => (hno hb ho).elim, fun h b h' b' hb _ _ ho _ _ => (hno hb ho).elim⟩ hrel hok).mono fun e w' hR => ?_
  obtain ⟨v, hp', ρ', x, rfl, rfl, hd, _, _, hv, _⟩ := hR
  unfold rel at hv
  subst hv
  exact ⟨rfl, (hd.keep.mono fun k hk => (hm k hk).elim : Keep none' w w').below⟩

/-! ### Opening arguments -/
section
variable {H : Type} {enc : TypeId × Value → H} {P : Program} {w : World} {base : Nat} {spare : Nat → Bool} {held : Bool}

def u8v (u : UInt8) : Value := .int .u8 (u.toNat : Int)

theorem u8_of_wf {n : Int} (h : (Lit.int .u8 n).wf = true) : ∃ u : UInt8, n = (u.toNat : Int) := by
  simp only [Lit.wf, Bool.and_eq_true, decide_eq_true_eq] at h
  simp [IntKind.min, IntKind.max, IntKind.signed, IntKind.bits] at h
  exact ⟨UInt8.ofInt n, by rw [toNat_ofInt]; omega⟩

theorem u8s_of_wf : ∀ {zs : List Int}, (∀ n ∈ zs, (Lit.int .u8 n).wf = true) → ∃ l : List UInt8, l.length = zs.length ∧ zs = l.map fun u => (u.toNat : Int)
  | [], _ => ⟨[], rfl, rfl⟩
  | z :: zs, h => by
    obtain ⟨u, hu⟩ := u8_of_wf (h z (by simp))
    obtain ⟨l, h1, h2⟩ := u8s_of_wf (zs := zs) (fun n hn => h n (by simp [hn]))
    exact ⟨u :: l, by simp [h1], by simp [hu, ← h2]⟩

theorem rel_bs {ρ : Loc} : ∀ (l : List UInt8), relL ρ (bs l) (l.map u8v)
  | [] => by simp [bs, relL]
  | u :: l => by
    have := rel_bs (ρ := ρ) l
    simp only [bs, List.map_cons, relL] at this ⊢
    exact ⟨_, _, rfl, by unfold bv rel; rfl, this⟩

theorem bytes_of_each : ∀ (L : List Value), (∀ i, i < L.length → ∃ u : UInt8, L[i]? = some (u8v u)) → ∃ l : List UInt8, L = l.map u8v
  | [], _ => ⟨[], rfl⟩
  | x :: L, h => by
    obtain ⟨u, hu⟩ := h 0 (by simp)
    obtain ⟨l, hl⟩ := bytes_of_each L (fun i hi => by simpa using h (i + 1) (by simpa using hi))
    simp at hu
    exact ⟨u :: l, by simp [hu, hl]⟩

/-- An array of bytes. -/
theorem open_bytesA {n : Nat} {t e : TypeId} {r : Reach} {b0 : Nat} {v : Value} {d : DataW H} {ps : List MemPlace} (ht : P.underlying t = some (.array n e)) (he : P.underlying e = some (.int .u8)) (hce : P.cellsOf e = 1) (hct : P.cellsOf t = n)
    (hv : Value.okWide P w r b0 t v) (h : DataW.Trod enc P w base spare held t v d ps) : ∃ l : List UInt8, l.length = n ∧ v = .agg (l.map u8v).toArray := by
  unfold Value.okWide at hv
  rw [ht] at hv
  obtain ⟨cs, rfl, hsz, _⟩ := hv
  obtain ⟨fuel, hf⟩ := h
  obtain ⟨xs, m, _, _, hlen, hxl, hx⟩ := DataW.trod_array ht hf
  have hcl : (Value.agg cs).cells.toList.length = n := by rw [← hct]; simpa using hlen
  have hcs : (Value.agg cs).cells = cs := rfl
  rw [hcs] at hcl hx
  have each : ∀ i, i < n → ∃ u : UInt8, cs.toList[i]? = some (u8v u) := fun i hi => by
    have h1 := hx i hi
    rw [hce] at h1
    have h2 : xs[i]? = some xs[i] := List.getElem?_eq_getElem (by omega)
    rw [h2] at h1
    obtain ⟨z, e1, e2, e3⟩ := DataW.trod_int he h1
    obtain ⟨u, rfl⟩ := u8_of_wf e3
    refine ⟨u, ?_⟩
    have h3 : ((cs.toList.drop (i * 1)).take 1)[0]? = some (u8v u) := by rw [e1]; rfl
    simpa using h3
  obtain ⟨l, hl⟩ := bytes_of_each cs.toList (fun i hi => each i (by omega))
  refine ⟨l, by rw [← hcl, hl]; simp, ?_⟩
  rw [← hl]
/-- What a slice of bytes that came in leads to. -/
def IsBytes (w : World) (v : Value) (ρ0 : Nat × Nat) (n c : Nat) (l : List UInt8) : Prop :=
  l.length = n ∧ n ≤ c ∧ c ≤ maxLen ∧ rel (fun _ => ρ0) (.s 0 0 n c) v ∧ ∀ i, i < l.length → w.cell? ⟨ρ0.1, ρ0.2 + i, none⟩ = some (u8v (l.getD i 0))

theorem open_bytesS {t e : TypeId} {r : Reach} {b0 : Nat} {v : Value} {d : DataW H} {ps : List MemPlace} (ht : P.underlying t = some (.slice e)) (he : P.underlying e = some (.int .u8)) (hce : P.cellsOf e = 1)
    (hv : Value.okWide P w r b0 t v) (h : DataW.Trod enc P w base (fun _ => true) held t v d ps) : ∃ ρ0 n c l, IsBytes w v ρ0 n c l := by
  obtain ⟨a, len, cap, rfl⟩ := okWide_slice ht hv
  obtain ⟨fuel, hf⟩ := h
  rcases open_ints ht he hce hf with ⟨hcs, _⟩ | ⟨x, l, c, zs, hcs, _, hl, hm, hz, _, hcell, hwz⟩
  · simp [Value.cells] at hcs
    obtain ⟨rfl, rfl, rfl⟩ := hcs
    refine ⟨(0, 0), 0, 0, [], rfl, Nat.le_refl _, Nat.zero_le _, ?_, fun i hi => by simp at hi⟩
    unfold rel
    exact ⟨Nat.le_refl _, none, rfl, fun h => absurd h (by omega)⟩
  · simp [Value.cells] at hcs
    obtain ⟨rfl, rfl, rfl⟩ := hcs
    simp only [if_true] at hz
    obtain ⟨us, h1, rfl⟩ := u8s_of_wf hwz
    rw [List.length_map] at hz hcell
    have hz' : us.length = cap := hz
    have spot : 0 < cap → x = ⟨x.block, x.off, none⟩ := fun hc => by
      have := hcell 0 (by omega)
      simp only [Addr.add, if_true] at this
      unfold World.cell? at this
      split at this
      · cases hs : x.spot with
        | none => obtain ⟨b, o, sp⟩ := x; simp only at hs; subst hs; rfl
        | some s => simp [hs] at this
      · cases this
    refine ⟨(x.block, x.off), len, cap, us.take len, by simp; omega, hl, hm, ?_, fun i hi => ?_⟩
    · unfold rel
      exact ⟨hl, some x, rfl, fun hc => by rw [spot hc]; rfl⟩
    · have hi' : i < len ∧ i < us.length := by rw [List.length_take] at hi; omega
      have h2 := hcell i hi'.2
      have h3 : x.add i = ⟨x.block, x.off + i, none⟩ := by
        rw [spot (by omega)]
        unfold Addr.add
        split
        · rename_i h0; subst h0; rfl
        · rfl
      rw [h3] at h2
      rw [h2]
      simp [List.getD, hi'.1, hi'.2, u8v]
theorem cell_bs {ρ : Loc} {b o : Nat} {l : List UInt8} (hI : ∀ i, i < l.length → w.cell? ⟨b, o + i, none⟩ = some (u8v (l.getD i 0))) (j : Nat) (v : V) (hv : (bs l)[j]? = some v) :
    ∃ x, w.cell? ⟨b, o + j, none⟩ = some x ∧ x.oneCell' = true ∧ rel ρ v x := by
  have hj : j < l.length := by have := (List.getElem?_eq_some_iff.1 hv).1; rwa [bs_length] at this
  refine ⟨_, hI j hj, rfl, ?_⟩
  have e : v = bv (l.getD j 0) := by
    simp only [bs, List.getElem?_map, List.getElem?_eq_getElem hj, Option.map_some, Option.some.injEq] at hv
    rw [← hv]; simp [List.getD, hj]
  rw [e]
  unfold bv rel
  rfl
end
end Go.Vc
/- Slices of arrays of bytes, as they come in. -/
set_option linter.unusedSimpArgs false
set_option linter.unusedVariables false
namespace Go.Vc
open Go Go.RowKit Go.ChangeShapes Go.WideShapes Go.ChangeAt
section
variable {H : Type} {enc : TypeId × Value → H} {P : Program} {w : World} {base : Nat} {spare : Nat → Bool} {held : Bool}
/-- What a slice of arrays of bytes that came in leads to. -/
def IsRows (k : Nat) (w : World) (v : Value) (ρ0 : Nat × Nat) (n c : Nat) (l : List UInt8) : Prop :=
  l.length = k * n ∧ n ≤ c ∧ c ≤ maxLen ∧ rel (fun _ => ρ0) (.s 0 0 n c) v ∧ ∀ i, i < l.length → w.cell? ⟨ρ0.1, ρ0.2 + i, none⟩ = some (u8v (l.getD i 0))
theorem array_cells {n : Nat} {t e : TypeId} {fuel : Nat} {cs : List Value} {x : DataW H × List MemPlace} (ht : P.underlying t = some (.array n e)) (he : P.underlying e = some (.int .u8)) (hce : P.cellsOf e = 1)
    (h : DataW.trod enc P w base spare held fuel t cs = some x) (i : Nat) (hi : i < n) : ∃ u : UInt8, cs[i]? = some (u8v u) := by
  obtain ⟨xs, m, _, _, hlen, hxl, hx⟩ := DataW.trod_array ht h
  have h1 := hx i hi
  rw [hce] at h1
  have h2 : xs[i]? = some xs[i] := List.getElem?_eq_getElem (by omega)
  rw [h2] at h1
  obtain ⟨z, e1, e2, e3⟩ := DataW.trod_int he h1
  obtain ⟨u, rfl⟩ := u8_of_wf e3
  refine ⟨u, ?_⟩
  have h3 : ((cs.drop (i * 1)).take 1)[0]? = some (u8v u) := by rw [e1]; rfl
  simpa using h3
theorem open_arraysS {t e b : TypeId} {k : Nat} {r : Reach} {b0 : Nat} {v : Value} {d : DataW H} {ps : List MemPlace} (ht : P.underlying t = some (.slice e)) (he : P.underlying e = some (.array k b)) (hb : P.underlying b = some (.int .u8)) (hce : P.cellsOf e = k) (hcb : P.cellsOf b = 1) (hk : 0 < k)
    (hv : Value.okWide P w r b0 t v) (h : DataW.Trod enc P w base (fun _ => true) held t v d ps) : ∃ ρ0 n c l, IsRows k w v ρ0 n c l := by
  obtain ⟨a, len, cap, rfl⟩ := okWide_slice ht hv
  obtain ⟨fuel, hf⟩ := h
  rcases DataW.trod_slice ht hf with ⟨hcs, _⟩ | ⟨x, l, c, elems, rest, n, _, hcs, _, _, hl, hm, hlen, hel, hsp, _⟩
  · simp [Value.cells] at hcs
    obtain ⟨rfl, rfl, rfl⟩ := hcs
    refine ⟨(0, 0), 0, 0, [], rfl, Nat.le_refl _, Nat.zero_le _, ?_, fun i hi => by simp at hi⟩
    unfold rel
    exact ⟨Nat.le_refl _, none, rfl, fun h => absurd h (by omega)⟩
  · simp [Value.cells] at hcs
    obtain ⟨rfl, rfl, rfl⟩ := hcs
    obtain ⟨hrl, hr⟩ := hsp rfl
    have each : ∀ i, i < cap → ∃ y, (w.cells? base (x.add (i * P.cellsOf e)) (P.cellsOf e)).bind (DataW.trod enc P w base (fun _ => true) held n e) = some y := by
      intro i hi
      by_cases h1 : i < len
      · rw [hel i h1]
        exact ⟨_, List.getElem?_eq_getElem (by omega)⟩
      · have := hr (i - len) (by omega)
        rw [show len + (i - len) = i by omega] at this
        rw [this]
        exact ⟨_, List.getElem?_eq_getElem (by omega)⟩
    have cell : ∀ i, i < k * cap → ∃ u : UInt8, w.cell? (x.add i) = some (u8v u) := by
      intro i hi
      obtain ⟨y, hy⟩ := each (i / k) (Nat.div_lt_of_lt_mul hi)
      rw [hce, Option.bind_eq_some_iff] at hy
      obtain ⟨cs, h1, h2⟩ := hy
      obtain ⟨_, _, h3⟩ := World.cells?_some h1
      obtain ⟨u, hu⟩ := array_cells he hb hcb h2 (i % k) (Nat.mod_lt _ hk)
      refine ⟨u, ?_⟩
      have h4 := h3 (i % k) (Nat.mod_lt _ hk)
      rw [Addr.add_add, Nat.mul_comm, Nat.div_add_mod] at h4
      rw [h4, hu]
    have spot : 0 < cap → x = ⟨x.block, x.off, none⟩ := fun hc => by
      obtain ⟨u, this⟩ := cell 0 (Nat.mul_pos hk hc)
      simp only [Addr.add, if_true] at this
      unfold World.cell? at this
      split at this
      · cases hs : x.spot with
        | none => obtain ⟨b, o, sp⟩ := x; simp only at hs; subst hs; rfl
        | some s => simp [hs] at this
      · cases this
    have hle : k * len ≤ k * cap := Nat.mul_le_mul_left k hl
    let f : Nat → UInt8 := fun i => if h : i < k * cap then Classical.choose (cell i h) else 0
    refine ⟨(x.block, x.off), len, cap, (List.range (k * len)).map f, by simp, hl, hm, ?_, fun i hi => ?_⟩
    · unfold rel
      exact ⟨hl, some x, rfl, fun hc => by rw [spot hc]; rfl⟩
    · have hi' : i < k * len := by simpa using hi
      have hi2 : i < k * cap := by omega
      have hc : 0 < cap := by
        rcases Nat.eq_zero_or_pos cap with h0 | h0
        · rw [h0, Nat.mul_zero] at hi2; omega
        · exact h0
      have h2 : w.cell? (x.add i) = some (u8v (f i)) := by simp only [f, hi2, dif_pos]; exact Classical.choose_spec (cell i hi2)
      have h3 : x.add i = ⟨x.block, x.off + i, none⟩ := by
        rw [spot hc]
        unfold Addr.add
        split
        · rename_i h0; subst h0; rfl
        · rfl
      rw [h3] at h2
      have h4 : ((List.range (k * len)).map f).getD i 0 = f i := by simp [List.getD, hi']
      rw [h4, ← h2]
/-! ### Structs of numbers and arrays of bytes -/
theorem struct_part {t : TypeId} {fs : Array Field} {fuel : Nat} {cs : List Value} {x : DataW H × List MemPlace} (ht : P.underlying t = some (.struct fs)) (h : DataW.trod enc P w base spare held fuel t cs = some x) {i : Nat} {f : Field} (hf : fs[i]? = some f) :
    cs.length = P.cellsOf t ∧ ∃ n y, DataW.trod enc P w base spare held n f.type ((cs.drop f.offset).take (P.cellsOf f.type)) = some y := by
  obtain ⟨xs, n, _, _, hl, hlen, hx⟩ := DataW.trod_struct ht h
  have hi : i < fs.size := (Array.getElem?_eq_some_iff.1 hf).1
  exact ⟨hl, n, _, (hx i f hf).trans (List.getElem?_eq_getElem (by omega))⟩
theorem int_part {t : TypeId} {k : IntKind} {fuel : Nat} {cs : List Value} {x : DataW H × List MemPlace} (ht : P.underlying t = some (.int k)) (h : DataW.trod enc P w base spare held fuel t cs = some x) :
    ∃ z, cs = [.int k z] ∧ (Lit.int k z).wf = true := by
  obtain ⟨z, e1, _, e3⟩ := DataW.trod_int ht h
  exact ⟨z, e1, e3⟩
theorem bytes_part {n : Nat} {t e : TypeId} {fuel : Nat} {cs : List Value} {x : DataW H × List MemPlace} (ht : P.underlying t = some (.array n e)) (he : P.underlying e = some (.int .u8)) (hce : P.cellsOf e = 1) (hct : P.cellsOf t = n)
    (h : DataW.trod enc P w base spare held fuel t cs = some x) : ∃ l : List UInt8, l.length = n ∧ cs = l.map u8v := by
  obtain ⟨xs, m, _, _, hlen, _, _⟩ := DataW.trod_array ht h
  obtain ⟨l, hl⟩ := bytes_of_each cs (fun i hi => array_cells ht he hce h i (by omega))
  refine ⟨l, ?_, hl⟩
  have := congrArg List.length hl
  rw [List.length_map] at this
  omega
theorem rows_part {m n : Nat} {t r e : TypeId} {fuel : Nat} {cs : List Value} {x : DataW H × List MemPlace} (ht : P.underlying t = some (.array m r)) (hr : P.underlying r = some (.array n e)) (he : P.underlying e = some (.int .u8)) (hce : P.cellsOf e = 1) (hcr : P.cellsOf r = n) (hct : P.cellsOf t = m * n) (hn : 0 < n)
    (h : DataW.trod enc P w base spare held fuel t cs = some x) : ∃ l : List UInt8, l.length = m * n ∧ cs = l.map u8v := by
  obtain ⟨xs, k, _, _, hlen, hxl, hx⟩ := DataW.trod_array ht h
  obtain ⟨l, hl⟩ := bytes_of_each cs (fun i hi => by
    have hi' : i < m * n := by omega
    have hm : i / n < m := Nat.div_lt_of_lt_mul (by rw [Nat.mul_comm]; exact hi')
    have h1 := hx (i / n) hm
    rw [hcr, List.getElem?_eq_getElem (show i / n < xs.length by omega)] at h1
    obtain ⟨u, hu⟩ := array_cells hr he hce h1 (i % n) (Nat.mod_lt _ hn)
    refine ⟨u, ?_⟩
    rw [List.getElem?_take, if_pos (Nat.mod_lt _ hn), List.getElem?_drop, Nat.mul_comm, Nat.div_add_mod] at hu
    exact hu)
  refine ⟨l, ?_, hl⟩
  have := congrArg List.length hl
  rw [List.length_map] at this
  omega
theorem cut_list {α : Type} (l : List α) (a b : Nat) : l.drop a = (l.drop a).take b ++ l.drop (a + b) := by
  rw [← List.drop_drop, List.take_append_drop]
/-- A cipher as it comes in: number, 256 bytes, four rows of four, 16 bytes, number. -/
theorem open_cip {t tb tm tr tp ti u8 : TypeId} {fs : Array Field} {r : Reach} {b0 : Nat} {v : Value} {d : DataW H} {ps : List MemPlace} (ht : P.underlying t = some (.struct fs))
    (f0 : fs[0]?.map (fun f => (f.type, f.offset)) = some (ti, 0)) (f1 : fs[1]?.map (fun f => (f.type, f.offset)) = some (tb, 1)) (f2 : fs[2]?.map (fun f => (f.type, f.offset)) = some (tm, 257)) (f3 : fs[3]?.map (fun f => (f.type, f.offset)) = some (tp, 273)) (f4 : fs[4]?.map (fun f => (f.type, f.offset)) = some (ti, 289))
    (hti : P.underlying ti = some (.int .i64)) (htb : P.underlying tb = some (.array 256 u8)) (htm : P.underlying tm = some (.array 4 tr)) (htr : P.underlying tr = some (.array 4 u8)) (htp : P.underlying tp = some (.array 16 u8)) (hu8 : P.underlying u8 = some (.int .u8))
    (ct : P.cellsOf t = 290) (ci : P.cellsOf ti = 1) (cb : P.cellsOf tb = 256) (cm : P.cellsOf tm = 16) (cr : P.cellsOf tr = 4) (cp : P.cellsOf tp = 16) (cu : P.cellsOf u8 = 1)
    (hv : Value.okWide P w r b0 t v) (h : DataW.Trod enc P w base spare held t v d ps) :
    ∃ (z : Int) (box mix pl : List UInt8) (n : Int), (Lit.int .i64 z).wf = true ∧ box.length = 256 ∧ mix.length = 16 ∧ pl.length = 16 ∧ (Lit.int .i64 n).wf = true ∧
      v = .agg (.int .i64 z :: (box.map u8v ++ (mix.map u8v ++ (pl.map u8v ++ [.int .i64 n])))).toArray := by
  obtain ⟨cs, rfl, hsz⟩ := okWide_struct ht hv
  obtain ⟨fuel, hf⟩ := h
  have part : ∀ {i : Nat} {tt : TypeId} {off : Nat}, fs[i]?.map (fun f => (f.type, f.offset)) = some (tt, off) → ∃ n y, DataW.trod enc P w base spare held n tt ((cs.toList.drop off).take (P.cellsOf tt)) = some y := by
    intro i tt off hi
    rw [Option.map_eq_some_iff] at hi
    obtain ⟨f, hf1, hf2⟩ := hi
    cases hf2
    exact (struct_part ht hf hf1).2
  obtain ⟨_, _, p0⟩ := part f0
  obtain ⟨_, _, p1⟩ := part f1
  obtain ⟨_, _, p2⟩ := part f2
  obtain ⟨_, _, p3⟩ := part f3
  obtain ⟨_, _, p4⟩ := part f4
  obtain ⟨z, e0, w0⟩ := int_part hti p0
  obtain ⟨box, l1, e1⟩ := bytes_part htb hu8 cu cb p1
  obtain ⟨mix, l2, e2⟩ := rows_part htm htr hu8 cu cr (by rw [cm]) (by omega) p2
  obtain ⟨pl, l3, e3⟩ := bytes_part htp hu8 cu cp p3
  obtain ⟨n, e4, w4⟩ := int_part hti p4
  rw [ci] at e0 e4; rw [cb] at e1; rw [cm] at e2; rw [cp] at e3
  refine ⟨z, box, mix, pl, n, w0, l1, l2, l3, w4, ?_⟩
  have hl : cs.toList.length = 290 := by rw [← ct]; simpa using hsz
  have key : cs.toList = .int .i64 z :: (box.map u8v ++ (mix.map u8v ++ (pl.map u8v ++ [.int .i64 n]))) := by
    have h0 := cut_list cs.toList 0 1
    have h1 := cut_list cs.toList 1 256
    have h2 := cut_list cs.toList 257 16
    have h3 := cut_list cs.toList 273 16
    have h4 : cs.toList.drop 289 = (cs.toList.drop 289).take 1 := by rw [List.take_of_length_le]; rw [List.length_drop]; omega
    rw [List.drop_zero] at h0 e0
    rw [e0] at h0; rw [e1] at h1; rw [e2] at h2; rw [e3] at h3; rw [e4] at h4
    rw [h0, h1, h2, h3, h4]; rfl
  rw [← key]
/-- A network as it comes in: number, 256 bytes, four rows of four, two numbers. -/
theorem open_net {t tb tm tr ti u8 : TypeId} {fs : Array Field} {r : Reach} {b0 : Nat} {v : Value} {d : DataW H} {ps : List MemPlace} (ht : P.underlying t = some (.struct fs))
    (f0 : fs[0]?.map (fun f => (f.type, f.offset)) = some (ti, 0)) (f1 : fs[1]?.map (fun f => (f.type, f.offset)) = some (tb, 1)) (f2 : fs[2]?.map (fun f => (f.type, f.offset)) = some (tm, 257)) (f3 : fs[3]?.map (fun f => (f.type, f.offset)) = some (ti, 273)) (f4 : fs[4]?.map (fun f => (f.type, f.offset)) = some (ti, 274))
    (hti : P.underlying ti = some (.int .i64)) (htb : P.underlying tb = some (.array 256 u8)) (htm : P.underlying tm = some (.array 4 tr)) (htr : P.underlying tr = some (.array 4 u8)) (hu8 : P.underlying u8 = some (.int .u8))
    (ct : P.cellsOf t = 275) (ci : P.cellsOf ti = 1) (cb : P.cellsOf tb = 256) (cm : P.cellsOf tm = 16) (cr : P.cellsOf tr = 4) (cu : P.cellsOf u8 = 1)
    (hv : Value.okWide P w r b0 t v) (h : DataW.Trod enc P w base spare held t v d ps) :
    ∃ (z : Int) (box mix : List UInt8) (k n : Int), (Lit.int .i64 z).wf = true ∧ box.length = 256 ∧ mix.length = 16 ∧ (Lit.int .i64 k).wf = true ∧ (Lit.int .i64 n).wf = true ∧
      v = .agg (.int .i64 z :: (box.map u8v ++ (mix.map u8v ++ [.int .i64 k, .int .i64 n]))).toArray := by
  obtain ⟨cs, rfl, hsz⟩ := okWide_struct ht hv
  obtain ⟨fuel, hf⟩ := h
  have part : ∀ {i : Nat} {tt : TypeId} {off : Nat}, fs[i]?.map (fun f => (f.type, f.offset)) = some (tt, off) → ∃ n y, DataW.trod enc P w base spare held n tt ((cs.toList.drop off).take (P.cellsOf tt)) = some y := by
    intro i tt off hi
    rw [Option.map_eq_some_iff] at hi
    obtain ⟨f, hf1, hf2⟩ := hi
    cases hf2
    exact (struct_part ht hf hf1).2
  obtain ⟨_, _, p0⟩ := part f0
  obtain ⟨_, _, p1⟩ := part f1
  obtain ⟨_, _, p2⟩ := part f2
  obtain ⟨_, _, p3⟩ := part f3
  obtain ⟨_, _, p4⟩ := part f4
  obtain ⟨z, e0, w0⟩ := int_part hti p0
  obtain ⟨box, l1, e1⟩ := bytes_part htb hu8 cu cb p1
  obtain ⟨mix, l2, e2⟩ := rows_part htm htr hu8 cu cr (by rw [cm]) (by omega) p2
  obtain ⟨k, e3, w3⟩ := int_part hti p3
  obtain ⟨n, e4, w4⟩ := int_part hti p4
  rw [ci] at e0 e3 e4; rw [cb] at e1; rw [cm] at e2
  refine ⟨z, box, mix, k, n, w0, l1, l2, w3, w4, ?_⟩
  have hl : cs.toList.length = 275 := by rw [← ct]; simpa using hsz
  have key : cs.toList = .int .i64 z :: (box.map u8v ++ (mix.map u8v ++ [.int .i64 k, .int .i64 n])) := by
    have h0 := cut_list cs.toList 0 1
    have h1 := cut_list cs.toList 1 256
    have h2 := cut_list cs.toList 257 16
    have h3 := cut_list cs.toList 273 1
    have h4 : cs.toList.drop 274 = (cs.toList.drop 274).take 1 := by rw [List.take_of_length_le]; rw [List.length_drop]; omega
    rw [List.drop_zero] at h0 e0
    rw [e0] at h0; rw [e1] at h1; rw [e2] at h2; rw [e3] at h3; rw [e4] at h4
    rw [h0, h1, h2, h3, h4]; rfl
  rw [← key]
/-- The cells of such structs. -/
theorem rel_cip {ρ : Loc} (z n : Int) (box mix pl : List UInt8) : rel ρ (.a (.c (.int .i64 z) :: (bs box ++ (bs mix ++ (bs pl ++ [.c (.int .i64 n)]))))) (.agg (.int .i64 z :: (box.map u8v ++ (mix.map u8v ++ (pl.map u8v ++ [.int .i64 n])))).toArray) := by
  unfold rel
  refine ⟨_, rfl, ?_, ?_⟩
  · unfold relL
    refine ⟨_, _, rfl, by unfold rel; rfl, relL_append (rel_bs _) (relL_append (rel_bs _) (relL_append (rel_bs _) ?_))⟩
    unfold relL
    exact ⟨_, _, rfl, by unfold rel; rfl, by simp [relL]⟩
  · simp only [List.mem_cons, List.mem_append, List.mem_map, List.not_mem_nil, or_false]
    rintro x (rfl | ⟨_, _, rfl⟩ | ⟨_, _, rfl⟩ | ⟨_, _, rfl⟩ | rfl) <;> rfl
theorem rel_net {ρ : Loc} (z k n : Int) (box mix : List UInt8) : rel ρ (.a (.c (.int .i64 z) :: (bs box ++ (bs mix ++ [.c (.int .i64 k), .c (.int .i64 n)])))) (.agg (.int .i64 z :: (box.map u8v ++ (mix.map u8v ++ [.int .i64 k, .int .i64 n]))).toArray) := by
  unfold rel
  refine ⟨_, rfl, ?_, ?_⟩
  · unfold relL
    refine ⟨_, _, rfl, by unfold rel; rfl, relL_append (rel_bs _) (relL_append (rel_bs _) ?_)⟩
    unfold relL
    refine ⟨_, _, rfl, by unfold rel; rfl, ?_⟩
    unfold relL
    exact ⟨_, _, rfl, by unfold rel; rfl, by simp [relL]⟩
  · simp only [List.mem_cons, List.mem_append, List.mem_map, List.not_mem_nil, or_false]
    rintro x (rfl | ⟨_, _, rfl⟩ | ⟨_, _, rfl⟩ | rfl | rfl) <;> rfl
end
end Go.Vc
/- Memory with a list of parts whose number is not known: slices of slices. -/
set_option linter.unusedSimpArgs false
set_option linter.unusedVariables false
namespace Go.Vc
open Go
/-! ### Handles that stay -/
mutual
/-- All handles are below N. -/
def stV (N : Nat) : V → Prop
  | .c _ => True
  | .p h _ => h < N
  | .s h _ _ _ => h < N
  | .a cs => stL N cs
  | .t vs => stL N vs
  | .j => True
def stL (N : Nat) : List V → Prop
  | [] => True
  | v :: vs => stV N v ∧ stL N vs
end
theorem stL_iff {N : Nat} : ∀ {l : List V}, stL N l ↔ ∀ v ∈ l, stV N v
  | [] => by simp [stL]
  | v :: vs => by simp [stL, stL_iff (l := vs)]
theorem stL_app {N : Nat} {l m : List V} : stL N (l ++ m) ↔ stL N l ∧ stL N m := by
  simp only [stL_iff, List.mem_append]
  constructor
  · intro h; exact ⟨fun v hv => h v (.inl hv), fun v hv => h v (.inr hv)⟩
  · rintro ⟨h1, h2⟩ v (hv | hv)
    · exact h1 v hv
    · exact h2 v hv
theorem stL_bs (N : Nat) (l : List UInt8) : stL N (bs l) := stL_iff.2 fun v hv => by
  simp only [bs, List.mem_map] at hv
  obtain ⟨u, _, rfl⟩ := hv
  trivial
theorem stL_nsv (N : Nat) (l : List Int) : stL N (nsv l) := stL_iff.2 fun v hv => by
  simp only [nsv, List.mem_map] at hv
  obtain ⟨u, _, rfl⟩ := hv
  trivial
theorem stL_rep (N r : Nat) : stL N (List.replicate r V.j) := stL_iff.2 fun v hv => by
  rw [List.mem_replicate] at hv; rw [hv.2]; trivial
theorem stL_room (N : Nat) (l : List UInt8) (r : Nat) : stL N (bs l ++ List.replicate r V.j) := stL_app.2 ⟨stL_bs N l, stL_rep N r⟩
mutual
theorem stV_ok {N : Nat} : ∀ {v : V}, stV N v → okV N v
  | .c _, _ => trivial
  | .p _ _, h => h
  | .s _ _ _ _, h => fun _ => h
  | .a cs, h => stL_ok (l := cs) h
  | .t vs, h => stL_ok (l := vs) h
  | .j, _ => trivial
theorem stL_ok {N : Nat} : ∀ {l : List V}, stL N l → okL N l
  | [], _ => trivial
  | v :: vs, h => ⟨stV_ok h.1, stL_ok h.2⟩
end
theorem range_getD_lt {N h : Nat} (hh : h < N) (τ : List Nat) : (List.range N ++ τ).getD h 0 = h := by
  rw [List.getD_eq_getElem?_getD, List.getElem?_append_left (by simpa using hh), List.getElem?_range hh]; rfl
theorem range_getD_ge {N k : Nat} (τ : List Nat) : (List.range N ++ τ).getD (N + k) 0 = τ.getD k 0 := by
  rw [List.getD_eq_getElem?_getD, List.getD_eq_getElem?_getD, List.getElem?_append_right (by simp)]; simp
mutual
theorem stV_ren {N : Nat} (τ : List Nat) : ∀ {v : V}, stV N v → v.ren (List.range N ++ τ) = v
  | .c _, _ => rfl
  | .p h o, hh => by rw [V.ren, range_getD_lt hh]
  | .s h o n m, hh => by rw [V.ren, range_getD_lt hh]
  | .a cs, hh => by rw [V.ren, stL_ren τ (l := cs) hh]
  | .t vs, hh => by rw [V.ren, stL_ren τ (l := vs) hh]
  | .j, _ => rfl
theorem stL_ren {N : Nat} (τ : List Nat) : ∀ {l : List V}, stL N l → V.renL (List.range N ++ τ) l = l
  | [], _ => rfl
  | v :: vs, hh => by rw [V.renL, stV_ren τ (v := v) hh.1, stL_ren τ (l := vs) hh.2]
end
/-- The first a blocks stay where they are, the others are told one by one. -/
theorem leHp_pre {σ : List Nat} : ∀ {A : List Blk} {gs : List Nat} {hp B : List Blk} {τ : List Nat}, gs.length = A.length → (∀ i b, A[i]? = some b → hp[gs.getD i 0]? = some b ∧ V.renL σ b.cells = b.cells) → leHp σ hp τ B → leHp σ hp (gs ++ τ) (A ++ B)
  | [], [], _, _, _, _, _, h => h
  | b :: A, g :: gs, hp, B, τ, hl, hA, h => by
    rw [List.cons_append, List.cons_append, leHp]
    refine ⟨.inr ?_, leHp_pre (by simpa using hl) (fun i c hc => by simpa using hA (i + 1) c (by simpa using hc)) h⟩
    have := hA 0 b rfl
    simp only [List.getD_cons_zero] at this
    rw [this.1]
    exact ⟨this.2.symm, id⟩
theorem LeS_pre {m a : Nat} {τ : List Nat} {tm tm' : List V} {A X B hp : List Blk} (ha : A.length = a) (hm : m ≤ a) (hp0 : hp = A ++ X) (hnd : τ.Nodup) (hge : ∀ g ∈ τ, a ≤ g) (hlen : τ.length = B.length) (ht : leTm (List.range a ++ τ) tm tm') (hA : ∀ b ∈ A, stL a b.cells) (hB : leHp (List.range a ++ τ) hp τ B)
    (hok : okL (a + τ.length) tm') (hokB : ∀ b ∈ B, okL (a + τ.length) b.cells) : LeS m (List.range a ++ τ) tm hp tm' (A ++ B) := by
  have hl : (A ++ B).length = a + τ.length := by rw [List.length_append, ha, hlen]
  refine ⟨?_, ?_, ht, ?_, by rw [hl]; exact hok, ?_⟩
  · rw [List.take_append_of_le_length (by simpa using hm), List.take_range, Nat.min_eq_left hm]
  · rw [List.nodup_append]
    refine ⟨List.nodup_range, hnd, fun x hx y hy => ?_⟩
    rw [List.mem_range] at hx
    have := hge y hy
    omega
  · refine leHp_pre (by rw [List.length_range, ha]) (fun i b hb => ?_) hB
    have hi : i < A.length := (List.getElem?_eq_some_iff.1 hb).1
    refine ⟨?_, stL_ren τ (hA b (List.mem_of_getElem? hb))⟩
    have : (List.range a).getD i 0 = i := by rw [List.getD_eq_getElem?_getD, List.getElem?_range (by omega)]; rfl
    rw [this, hp0, List.getElem?_append_left hi, hb]
  · rw [hl]
    intro b hb
    rcases List.mem_append.1 hb with hb | hb
    · exact okL_mono (by omega) (stL_ok (hA b hb))
    · exact hokB b hb
/-- The slots of the new state: unknown, or as they are. -/
def leT : List V → List V → Prop
  | [], [] => True
  | v :: vs, u :: us => (u = .j ∨ v = u) ∧ leT vs us
  | _, _ => False
theorem leT_leTm {N : Nat} {τ : List Nat} : ∀ {tm tm' : List V}, leT tm tm' → stL N tm' → leTm (List.range N ++ τ) tm tm'
  | [], [], _, _ => trivial
  | v :: vs, u :: us, h, hs => by
    rw [leT] at h
    refine ⟨?_, leT_leTm h.2 hs.2⟩
    rcases h.1 with rfl | rfl
    · trivial
    · have := stV_ren τ hs.1
      cases v <;> first | trivial | exact this.symm
/-- All blocks stay; what was made meanwhile is forgotten. -/
theorem LeS_id {m N : Nat} {tm tm' : List V} {hp' ex hp : List Blk} (hN : hp'.length = N) (hm : m ≤ N) (he : hp = hp' ++ ex) (ht : leT tm tm') (hs : stL N tm') (hb : ∀ b ∈ hp', stL N b.cells) : LeS m (List.range N) tm hp tm' hp' := by
  have := LeS_pre (τ := []) (B := []) (tm := tm) (tm' := tm') hN hm he List.nodup_nil (by simp) rfl (leT_leTm (τ := []) ht hs) hb trivial (by simpa using stL_ok hs) (by simp)
  simpa using this
/-! ### Parts -/
/-- A part: its cells, the length and the room of the slice that leads to it. -/
structure Prt where
  cells : List V
  n : Nat
  c : Nat
instance : Inhabited Prt := ⟨⟨[], 0, 0⟩⟩
/-- A part of bytes. -/
def bP (p : List UInt8 × Nat) : Prt := ⟨bs p.1, p.1.length, p.2⟩
/-- Parts of bytes. -/
def bPs (D : List (List UInt8 × Nat)) : List Prt := D.map bP
theorem bPs_length (D : List (List UInt8 × Nat)) : (bPs D).length = D.length := by simp [bPs]
theorem bPs_get {D : List (List UInt8 × Nat)} {i : Nat} {p : List UInt8 × Nat} (h : D[i]? = some p) : (bPs D)[i]? = some (bP p) := by simp [bPs, List.getElem?_map, h]
theorem bPs_st {N : Nat} {D : List (List UInt8 × Nat)} : ∀ p ∈ bPs D, stL N p.cells := by
  intro p hp
  simp only [bPs, List.mem_map] at hp
  obtain ⟨q, _, rfl⟩ := hp
  exact stL_bs _ _
/-- The slices that lead to parts, whose handles begin at h. -/
def ptrV : Nat → List Prt → List V
  | _, [] => []
  | h, p :: L => .s h 0 p.n p.c :: ptrV (h + 1) L
def partB (own : Bool) (L : List Prt) : List Blk := L.map fun p => ⟨own, p.cells⟩
theorem ptrV_length : ∀ (h : Nat) (L : List Prt), (ptrV h L).length = L.length
  | _, [] => rfl
  | h, p :: L => by rw [ptrV, List.length_cons, List.length_cons, ptrV_length (h + 1) L]
theorem partB_length (own : Bool) (L : List Prt) : (partB own L).length = L.length := by simp [partB]
theorem ptrV_get : ∀ (h : Nat) {L : List Prt} {i : Nat} {p : Prt}, L[i]? = some p → (ptrV h L)[i]? = some (.s (h + i) 0 p.n p.c)
  | h, q :: L, 0, p, hp => by
    simp only [List.getElem?_cons_zero, Option.some.injEq] at hp
    subst hp; rfl
  | h, q :: L, i + 1, p, hp => by
    rw [ptrV, List.getElem?_cons_succ, ptrV_get (h + 1) (by simpa using hp), Nat.add_assoc, Nat.add_comm 1 i]
theorem partB_get {own : Bool} {L : List Prt} {R : List Blk} {i : Nat} {p : Prt} (h : L[i]? = some p) : (partB own L ++ R)[i]? = some ⟨own, p.cells⟩ := by
  have hi := (List.getElem?_eq_some_iff.1 h).1
  rw [List.getElem?_append_left (by rw [partB_length]; exact hi)]
  simp only [partB, List.getElem?_map, h, Option.map_some]
theorem partB_get0 {own : Bool} {L : List Prt} {i : Nat} {p : Prt} (h : L[i]? = some p) : (partB own L)[i]? = some ⟨own, p.cells⟩ := by
  have := partB_get (own := own) (R := []) h
  rwa [List.append_nil] at this
theorem partB_skip {own : Bool} {L : List Prt} {R : List Blk} {n : Nat} (h : L.length = n) (k : Nat) : (partB own L ++ R)[n + k]? = R[k]? := by
  rw [List.getElem?_append_right (by rw [partB_length]; omega), partB_length, h, Nat.add_sub_cancel_left]
theorem partB_skip0 {own : Bool} {L : List Prt} {R : List Blk} {n : Nat} (h : L.length = n) : (partB own L ++ R)[n]? = R[0]? := partB_skip h 0
theorem partB_set {own : Bool} {L : List Prt} {R : List Blk} {n : Nat} (h : L.length = n) (k : Nat) (b : Blk) : (partB own L ++ R).set (n + k) b = partB own L ++ R.set k b := by
  rw [List.set_append_right _ _ (by rw [partB_length]; omega), partB_length, h, Nat.add_sub_cancel_left]
theorem partB_set0 {own : Bool} {L : List Prt} {R : List Blk} {n : Nat} (h : L.length = n) (b : Blk) : (partB own L ++ R).set n b = partB own L ++ R.set 0 b := partB_set h 0 b
theorem stL_ptrV {N : Nat} : ∀ {h : Nat} {L : List Prt}, h + L.length ≤ N → stL N (ptrV h L)
  | _, [], _ => trivial
  | h, p :: L, hh => by
    rw [List.length_cons] at hh
    exact ⟨show h < N by omega, stL_ptrV (by omega)⟩
theorem stB_part {N : Nat} {own : Bool} {L : List Prt} (hL : ∀ p ∈ L, stL N p.cells) : ∀ b ∈ partB own L, stL N b.cells := by
  intro b hb
  simp only [partB, List.mem_map] at hb
  obtain ⟨p, hp, rfl⟩ := hb
  exact hL p hp
theorem stB_nest {N h : Nat} {own own' : Bool} {L : List Prt} (hh : h + L.length ≤ N) (hL : ∀ p ∈ L, stL N p.cells) : ∀ b ∈ (⟨own, ptrV h L⟩ : Blk) :: partB own' L, stL N b.cells := by
  intro b hb
  rcases List.mem_cons.1 hb with rfl | hb
  · exact stL_ptrV hh
  · exact stB_part hL b hb
theorem stB_cons {N : Nat} {b : Blk} {B : List Blk} (hb : stL N b.cells) (hB : ∀ b ∈ B, stL N b.cells) : ∀ x ∈ b :: B, stL N x.cells := by
  intro x hx
  rcases List.mem_cons.1 hx with rfl | hx
  · exact hb
  · exact hB x hx
theorem stB_nil {N : Nat} : ∀ x ∈ ([] : List Blk), stL N x.cells := by simp
theorem stL_repc (N r : Nat) (x : Value) : stL N (List.replicate r (V.c x)) := stL_iff.2 fun v hv => by
  rw [List.mem_replicate] at hv; rw [hv.2]; trivial
theorem stB_app {N : Nat} {A B : List Blk} (hA : ∀ b ∈ A, stL N b.cells) (hB : ∀ b ∈ B, stL N b.cells) : ∀ b ∈ A ++ B, stL N b.cells := by
  intro b hb
  rcases List.mem_append.1 hb with hb | hb
  · exact hA b hb
  · exact hB b hb
theorem ptrV_app : ∀ (h : Nat) (L M : List Prt), ptrV h (L ++ M) = ptrV h L ++ ptrV (h + L.length) M
  | h, [], M => rfl
  | h, p :: L, M => by rw [List.cons_append, ptrV, ptrV_app (h + 1) L M, ptrV, List.cons_append, List.length_cons, Nat.add_assoc, Nat.add_comm 1 L.length]
theorem take_part {L : List Prt} {i : Nat} {p : Prt} (h : L[i]? = some p) : L.take (i + 1) = L.take i ++ [p] := by
  rw [List.take_add_one, h]; rfl
theorem ptrV_succ {h : Nat} {L : List Prt} {i : Nat} {p : Prt} (hp : L[i]? = some p) : ptrV h (L.take (i + 1)) = ptrV h (L.take i) ++ [.s (h + i) 0 p.n p.c] := by
  have hi := (List.getElem?_eq_some_iff.1 hp).1
  rw [take_part hp, ptrV_app, List.length_take, Nat.min_eq_left (by omega)]; rfl
theorem partB_succ {own : Bool} {L : List Prt} {i : Nat} {p : Prt} (hp : L[i]? = some p) : partB own (L.take (i + 1)) = partB own (L.take i) ++ [⟨own, p.cells⟩] := by
  rw [take_part hp]; simp [partB]
theorem vGet_ptrV {h : Nat} {L : List Prt} {i : Nat} {p : Prt} {R : List V} {k : V → Prop} (hp : L[i]? = some p) : vGet (ptrV h L ++ R) i k = k (.s (h + i) 0 p.n p.c) := by
  have hi := (List.getElem?_eq_some_iff.1 hp).1
  have hl : i < (ptrV h L).length := by rw [ptrV_length]; exact hi
  unfold vGet
  rw [List.getD_eq_getElem?_getD, List.getElem?_append_left hl, ptrV_get h hp, Option.getD_some]
  apply propext
  exact ⟨fun x => x.2, fun x => ⟨by rw [List.length_append]; omega, x⟩⟩
theorem vGet_ptrV0 {h : Nat} {L : List Prt} {i : Nat} {p : Prt} {k : V → Prop} (hp : L[i]? = some p) : vGet (ptrV h L) i k = k (.s (h + i) 0 p.n p.c) := by
  have := vGet_ptrV (h := h) (R := []) (k := k) hp
  rwa [List.append_nil] at this
/-! ### Calls over parts -/
/-- The segments b, b + 1, .. (n of them). -/
def rng (b : Nat) : Nat → List (Nat × Nat)
  | 0 => []
  | n + 1 => rng b n ++ [(b + n, 0)]
theorem rng_length (b : Nat) : ∀ n, (rng b n).length = n
  | 0 => rfl
  | n + 1 => by rw [rng, List.length_append, rng_length b n]; rfl
theorem rng_get (b : Nat) : ∀ {n i : Nat}, i < n → (rng b n)[i]? = some (b + i, 0)
  | n + 1, i, h => by
    rw [rng]
    rcases Nat.lt_or_ge i n with h1 | h1
    · rw [List.getElem?_append_left (by rw [rng_length]; exact h1), rng_get b h1]
    · obtain rfl : i = n := by omega
      rw [List.getElem?_append_right (by rw [rng_length]; omega), rng_length, Nat.sub_self]; rfl
theorem instL_ptrV {sub : List (Nat × Nat)} {N : Nat} : ∀ {h b : Nat} {L : List Prt}, (∀ i, i < L.length → sub[h + i]? = some (b + i, 0)) → V.instL sub N (ptrV h L) = ptrV b L
  | _, _, [], _ => rfl
  | h, b, p :: L, hs => by
    have h0 := hs 0 (by simp)
    simp only [Nat.add_zero] at h0
    rw [ptrV, V.instL, V.inst, h0, ptrV, instL_ptrV (h := h + 1) (b := b + 1) fun i hi => by
      have := hs (i + 1) (by simpa using hi)
      rwa [Nat.add_assoc h 1 i, Nat.add_comm 1 i, Nat.add_assoc b 1 i, Nat.add_comm 1 i]]
theorem instL_ptrN {sub : List (Nat × Nat)} {N : Nat} : ∀ {h b : Nat} {L : List Prt}, sub.length + b = h → V.instL sub N (ptrV h L) = ptrV (N + b) L
  | _, _, [], _ => rfl
  | h, b, p :: L, hs => by
    have h0 : sub[h]? = none := List.getElem?_eq_none (by omega)
    rw [ptrV, V.instL, V.inst, h0, ptrV, instL_ptrN (h := h + 1) (b := b + 1) (by omega)]
    simp only [show h - sub.length = b by omega]
    rfl
theorem segOK_app {hp : List Blk} {sub : List (Nat × Nat)} : ∀ {r1 r2 : List (Nat × Nat)} {a1 a2 : List Blk}, segOK hp sub r1 a1 → segOK hp sub r2 a2 → segOK hp sub (r1 ++ r2) (a1 ++ a2)
  | [], _, [], _, _, h => h
  | (g, q) :: r1, r2, b :: a1, a2, h1, h2 => ⟨h1.1, segOK_app h1.2 h2⟩
theorem segOK_rng {hp : List Blk} {sub : List (Nat × Nat)} {b : Nat} : ∀ {n : Nat} {L : List Prt}, L.length = n → (∀ i p, L[i]? = some p → b + i < hp.length ∧ (cellsAt hp (b + i)).take p.cells.length = V.instL sub hp.length p.cells) → segOK hp sub (rng b n) (partB false L)
  | 0, [], _, _ => trivial
  | n + 1, L, hl, hL => by
    have hne : n < L.length := by omega
    have e : L = L.take n ++ [L[n]] := by rw [List.take_append_getElem]; rw [List.take_of_length_le (by omega)]
    have hn := hL n L[n] (List.getElem?_eq_getElem hne)
    rw [e, rng]
    unfold partB
    rw [List.map_append]
    refine segOK_app (segOK_rng (L := L.take n) (by rw [List.length_take]; omega) fun i p hp => ?_) ⟨⟨rfl, hn.1, by rw [List.drop_zero]; exact hn.2⟩, trivial⟩
    have hi := (List.getElem?_eq_some_iff.1 hp).1
    rw [List.length_take] at hi
    refine hL i p ?_
    rw [List.getElem?_take, if_pos (by omega)] at hp
    exact hp
/-- Pointers at g, parts from b on, and more (τ, T). -/
theorem seg_nestX {hp : List Blk} {g b n : Nat} {P : List Prt} {τ : List (Nat × Nat)} {T : List Blk} (hn : P.length = n) (hg : g < hp.length) (h0 : (cellsAt hp g).take n = ptrV b P) (hparts : ∀ i p, P[i]? = some p → b + i < hp.length ∧ (cellsAt hp (b + i)).take p.cells.length = p.cells)
    (hid : ∀ sub N, ∀ p ∈ P, V.instL sub N p.cells = p.cells) (hT : segOK hp ((g, 0) :: (rng b n ++ τ)) τ T) : segOK hp ((g, 0) :: (rng b n ++ τ)) ((g, 0) :: (rng b n ++ τ)) (⟨false, ptrV 1 P⟩ :: (partB false P ++ T)) := by
  refine ⟨⟨rfl, hg, ?_⟩, segOK_app (segOK_rng hn fun i p hp => ?_) hT⟩
  · rw [List.drop_zero, ptrV_length, hn, h0, instL_ptrV]
    intro i hi
    rw [Nat.add_comm, List.getElem?_cons_succ, List.getElem?_append_left (by rw [rng_length]; omega), rng_get b (by omega)]
  · rw [hid _ _ _ (List.mem_of_getElem? hp)]
    exact hparts i p hp
theorem seg_nest {hp : List Blk} {g b n : Nat} {P : List Prt} (hn : P.length = n) (hg : g < hp.length) (h0 : (cellsAt hp g).take n = ptrV b P) (hparts : ∀ i p, P[i]? = some p → b + i < hp.length ∧ (cellsAt hp (b + i)).take p.cells.length = p.cells)
    (hid : ∀ sub N, ∀ p ∈ P, V.instL sub N p.cells = p.cells) : segOK hp ((g, 0) :: rng b n) ((g, 0) :: rng b n) (⟨false, ptrV 1 P⟩ :: partB false P) := by
  have := seg_nestX (τ := []) (T := []) hn hg h0 hparts hid trivial
  simpa using this
theorem bPs_id {D : List (List UInt8 × Nat)} : ∀ sub N, ∀ p ∈ bPs D, V.instL sub N p.cells = p.cells := by
  intro sub N p hp
  simp only [bPs, List.mem_map] at hp
  obtain ⟨q, _, rfl⟩ := hp
  exact instL_bs _ _ _
theorem okB_nest {own : Bool} {D : List (List UInt8 × Nat)} {N : Nat} (hN : D.length + 1 ≤ N) : ∀ b ∈ (⟨false, ptrV 1 (bPs D)⟩ : Blk) :: partB own (bPs D), okL N b.cells := fun b hb => stL_ok (stB_nest (by rw [bPs_length]; omega) bPs_st b hb)
/-- A block in the midst. -/
theorem at_app {A B : List Blk} {x : Blk} {h : Nat} (hA : A.length = h) : (A ++ x :: B)[h]? = some x := by
  subst hA; rw [List.getElem?_append_right (Nat.le_refl _), Nat.sub_self]; rfl
theorem at_part {A B : List Blk} {own : Bool} {L : List Prt} {i b : Nat} {p : Prt} (hA : A.length = b) (hL : L[i]? = some p) : (A ++ (partB own L ++ B))[b + i]? = some ⟨own, p.cells⟩ := by
  subst hA; rw [List.getElem?_append_right (by omega), Nat.add_sub_cancel_left]; exact partB_get hL
theorem range_getD_eq {N : Nat} (τ : List Nat) : (List.range N ++ τ).getD N 0 = τ.getD 0 0 := range_getD_ge (k := 0) τ
/-- As LeS_pre, the blocks told as they come. -/
theorem LeS_nx {m a : Nat} {τ : List Nat} {tm tm' : List V} {b0 : Blk} {P X B hp : List Blk} (A : List Blk) (ha : P.length + A.length + 1 = a) (hm : m ≤ a) (hp0 : hp = b0 :: (P ++ (A ++ X))) (hnd : τ.Nodup) (hge : ∀ g ∈ τ, a ≤ g) (hlen : τ.length = B.length) (ht : leTm (List.range a ++ τ) tm tm') (hA : ∀ b ∈ b0 :: (P ++ A), stL a b.cells) (hB : leHp (List.range a ++ τ) hp τ B)
    (hok : okL (a + τ.length) tm') (hokB : ∀ b ∈ B, okL (a + τ.length) b.cells) : LeS m (List.range a ++ τ) tm hp tm' (b0 :: (P ++ (A ++ B))) := by
  have := LeS_pre (A := b0 :: (P ++ A)) (B := B) (X := X) (m := m) (τ := τ) (tm := tm) (tm' := tm') (hp := hp) (by simp; omega) hm (by simp [hp0]) hnd hge hlen ht hA hB hok hokB
  simpa using this
end Go.Vc
/- Calls over a memory of which only some blocks are told: what laws over slices of slices need. -/
set_option linter.unusedSimpArgs false
set_option linter.unusedVariables false
namespace Go.Vc
open Go
/-- More blocks behind. -/
def Ext (hp hp2 : List Blk) : Prop := ∃ R, hp2 = hp ++ R
theorem Ext.refl (hp : List Blk) : Ext hp hp := ⟨[], by simp⟩
theorem Ext.trans {a b c : List Blk} (h : Ext a b) (h2 : Ext b c) : Ext a c := by
  obtain ⟨R, rfl⟩ := h; obtain ⟨T, rfl⟩ := h2; exact ⟨R ++ T, by simp⟩
theorem Ext.get {hp hp2 : List Blk} {h : Nat} {x : Blk} (e : Ext hp hp2) (hx : hp[h]? = some x) : hp2[h]? = some x := by
  obtain ⟨R, rfl⟩ := e
  rw [List.getElem?_append_left (List.getElem?_eq_some_iff.1 hx).1]; exact hx
/-- A block that begins with these cells. -/
def bAt (hp : List Blk) (h : Nat) (cs : List V) : Prop := ∃ own X, hp[h]? = some ⟨own, cs ++ X⟩
theorem bAt_of {hp : List Blk} {h : Nat} {own : Bool} {cs : List V} (e : hp[h]? = some ⟨own, cs⟩) : bAt hp h cs := ⟨own, [], by rw [e, List.append_nil]⟩
theorem bAt_room {hp : List Blk} {h : Nat} {own : Bool} {cs X : List V} (e : hp[h]? = some ⟨own, cs ++ X⟩) : bAt hp h cs := ⟨own, X, e⟩
theorem bAt.mono {hp hp2 : List Blk} {h : Nat} {cs : List V} (e : Ext hp hp2) : bAt hp h cs → bAt hp2 h cs
  | ⟨own, X, hx⟩ => ⟨own, X, e.get hx⟩
theorem bAt.lt {hp : List Blk} {h : Nat} {cs : List V} : bAt hp h cs → h < hp.length
  | ⟨_, _, hx⟩ => (List.getElem?_eq_some_iff.1 hx).1
theorem bAt.cells {hp : List Blk} {h : Nat} {cs : List V} : bAt hp h cs → (cellsAt hp h).take cs.length = cs
  | ⟨_, X, hx⟩ => by unfold cellsAt; rw [hx]; exact List.take_left' rfl
/-- Pointers at g, their parts from b on. -/
def nAt (hp : List Blk) (g b : Nat) (P : List Prt) : Prop := bAt hp g (ptrV b P) ∧ ∀ i p, P[i]? = some p → bAt hp (b + i) p.cells
theorem nAt.mono {hp hp2 : List Blk} {g b : Nat} {P : List Prt} (e : Ext hp hp2) (h : nAt hp g b P) : nAt hp2 g b P := ⟨h.1.mono e, fun i p hp => (h.2 i p hp).mono e⟩
theorem seg_nAt {hp : List Blk} {g b n : Nat} {P : List Prt} {τ : List (Nat × Nat)} {T : List Blk} (h : nAt hp g b P) (hn : P.length = n) (hid : ∀ sub N, ∀ p ∈ P, V.instL sub N p.cells = p.cells) (hT : segOK hp ((g, 0) :: (rng b n ++ τ)) τ T) :
    segOK hp ((g, 0) :: (rng b n ++ τ)) ((g, 0) :: (rng b n ++ τ)) (⟨false, ptrV 1 P⟩ :: (partB false P ++ T)) :=
  seg_nestX hn h.1.lt (by have := h.1.cells; rw [ptrV_length, hn] at this; exact this) (fun i p hp => ⟨(h.2 i p hp).lt, (h.2 i p hp).cells⟩) hid hT
theorem seg_nAt0 {hp : List Blk} {g b n : Nat} {P : List Prt} (h : nAt hp g b P) (hn : P.length = n) (hid : ∀ sub N, ∀ p ∈ P, V.instL sub N p.cells = p.cells) : segOK hp ((g, 0) :: rng b n) ((g, 0) :: rng b n) (⟨false, ptrV 1 P⟩ :: partB false P) := by
  have := seg_nAt (τ := []) (T := []) h hn hid trivial
  simpa using this
theorem seg_bAt {hp : List Blk} {sub : List (Nat × Nat)} {h : Nat} {cs : List V} {r : List (Nat × Nat)} {ha : List Blk} (hb : bAt hp h cs) (hid : V.instL sub hp.length cs = cs) (hr : segOK hp sub r ha) : segOK hp sub ((h, 0) :: r) (⟨false, cs⟩ :: ha) :=
  ⟨⟨rfl, hb.lt, by rw [List.drop_zero, hid]; exact hb.cells⟩, hr⟩
section
variable {X : Cx} {f : FuncId} {args : List V} {d : Option Tmp} {ops : List Oper} {r : R} {tm : List V} {hp : List Blk} {q : K}
/-- As kCall_Ret, the memory behind the call being a new name. -/
theorem kA_ret {α : Type} {args0 : List V} {ha : List Blk} {G : α → Prop} {S : α → V × List Blk} (h : LC X.P f args0 ha (Ret ha G S)) (hmu : X.mu.contains f = false) (sub : List (Nat × Nat))
    (h1 : leArgs args (V.instL sub hp.length args0)) (h2 : segOK hp sub sub ha) (h3 : okL ha.length args0) (h4 : ∀ b ∈ ha, okL ha.length b.cells) (h5 : ∀ x, ∀ b ∈ (S x).2, b.own = true ∨ b.cells = [])
    (hk : ∀ x N hp2, G x → N = hp.length → hp2 = hp ++ ((S x).2.map fun b => ⟨b.own, V.instL sub N b.cells⟩) → kR X ops r (putV tm d ((S x).1.inst sub N)) hp2 q) : kCall X f args d ops r tm hp q :=
  kCall_Ret h hmu sub h1 h2 h3 h4 h5 fun x hx => hk x _ _ hx rfl rfl
end
theorem new_at {hp hp2 : List Blk} {N : Nat} {b : Blk} {R : List Blk} (hN : N = hp.length) (e : hp2 = hp ++ (b :: R)) : hp2[N]? = some b := by rw [e]; exact at_app hN.symm
theorem new_ext {hp hp2 : List Blk} {R : List Blk} (e : hp2 = hp ++ R) : Ext hp hp2 := ⟨R, e⟩
theorem new_nAt {hp hp2 : List Blk} {N : Nat} {own own' : Bool} {Q : List Prt} {R : List Blk} (hN : N = hp.length) (e : hp2 = hp ++ (⟨own, ptrV (N + 1) Q⟩ :: (partB own' Q ++ R))) : nAt hp2 N (N + 1) Q := by
  refine ⟨bAt_of (new_at hN e), fun i p hq => ?_⟩
  have e' : hp2 = (hp ++ [⟨own, ptrV (N + 1) Q⟩]) ++ (partB own' Q ++ R) := by rw [e]; simp
  rw [e']
  exact bAt_of (at_part (by simp [hN]) hq)
/-- A copy's blocks as they come out of its contract. -/
theorem inst_nest {sub : List (Nat × Nat)} {N n : Nat} {own own' : Bool} {Q : List Prt} (hs : sub.length = n + 1) (hid : ∀ p ∈ Q, V.instL sub N p.cells = p.cells) : (((⟨own, ptrV (n + 2) Q⟩ : Blk) :: partB own' Q).map fun b => (⟨b.own, V.instL sub N b.cells⟩ : Blk)) = ⟨own, ptrV (N + 1) Q⟩ :: partB own' Q := by
  rw [List.map_cons, instL_ptrN (b := 1) (by omega)]
  congr 1
  unfold partB
  rw [List.map_map]
  refine List.map_congr_left fun p hp => ?_
  show (⟨own', V.instL sub N p.cells⟩ : Blk) = ⟨own', p.cells⟩
  rw [hid p hp]
theorem rng_end (b n : Nat) : (rng b n)[n]? = none := List.getElem?_eq_none (by rw [rng_length]; exact Nat.le_refl _)
theorem rng_at (b n : Nat) (x : Nat × Nat) (τ : List (Nat × Nat)) : (rng b n ++ x :: τ)[n]? = some x := by
  rw [List.getElem?_append_right (by rw [rng_length]; exact Nat.le_refl _), rng_length, Nat.sub_self]; rfl
theorem okB_nestT {D : List (List UInt8 × Nat)} {N : Nat} {T : List UInt8} (hN : D.length + 1 ≤ N) : ∀ b ∈ (⟨false, ptrV 1 (bPs D)⟩ : Blk) :: (partB false (bPs D) ++ [⟨false, bs T⟩]), okL N b.cells := fun b hb =>
  stL_ok (stB_cons (stL_ptrV (by rw [bPs_length]; omega)) (stB_app (stB_part bPs_st) (stB_cons (stL_bs _ _) stB_nil)) b hb)
theorem own_nest {h : Nat} {Q : List Prt} : ∀ b ∈ (⟨true, ptrV h Q⟩ : Blk) :: partB true Q, b.own = true ∨ b.cells = [] := by
  intro b hb
  rcases List.mem_cons.1 hb with rfl | hb
  · exact .inl rfl
  · simp only [partB, List.mem_map] at hb
    obtain ⟨p, _, rfl⟩ := hb
    exact .inl rfl
/-- The end of a law: the blocks that came in are as they were. -/
theorem LeS_ext {ha hp : List Blk} {tm tm' : List V} {m N : Nat} (e : Ext ha hp) (hN : ha.length = N) (hm : m ≤ N) (ht : leT tm tm') (hs : stL N tm') (hb : ∀ b ∈ ha, stL N b.cells) : LeS m (List.range N) tm hp tm' ha := by
  obtain ⟨R, rfl⟩ := e
  exact LeS_id hN hm rfl ht hs hb
/-- Two nests of the same parts. -/
theorem seg_two {hp : List Blk} {g1 b1 g2 b2 n : Nat} {P : List Prt} (h1 : nAt hp g1 b1 P) (h2 : nAt hp g2 b2 P) (hn : P.length = n) (hid : ∀ sub N, ∀ p ∈ P, V.instL sub N p.cells = p.cells) :
    segOK hp ((g1, 0) :: (g2, 0) :: (rng b1 n ++ rng b2 n)) ((g1, 0) :: (g2, 0) :: (rng b1 n ++ rng b2 n)) (⟨false, ptrV 2 P⟩ :: ⟨false, ptrV (n + 2) P⟩ :: (partB false P ++ partB false P)) := by
  have c1 := h1.1.cells
  have c2 := h2.1.cells
  rw [ptrV_length] at c1 c2
  refine ⟨⟨rfl, h1.1.lt, ?_⟩, ⟨rfl, h2.1.lt, ?_⟩, segOK_app (segOK_rng hn fun i p hp => ?_) (segOK_rng hn fun i p hp => ?_)⟩
  · rw [List.drop_zero, ptrV_length, c1, instL_ptrV]
    intro i hi
    rw [Nat.add_comm, List.getElem?_cons_succ, List.getElem?_cons_succ, List.getElem?_append_left (by rw [rng_length]; omega), rng_get b1 (by omega)]
  · rw [List.drop_zero, ptrV_length, c2, instL_ptrV]
    intro i hi
    rw [show n + 2 + i = (n + i) + 1 + 1 by omega, List.getElem?_cons_succ, List.getElem?_cons_succ, List.getElem?_append_right (by rw [rng_length]; omega), rng_length, Nat.add_sub_cancel_left, rng_get b2 (by omega)]
  · rw [hid _ _ _ (List.mem_of_getElem? hp)]
    exact ⟨(h1.2 i p hp).lt, (h1.2 i p hp).cells⟩
  · rw [hid _ _ _ (List.mem_of_getElem? hp)]
    exact ⟨(h2.2 i p hp).lt, (h2.2 i p hp).cells⟩
theorem okB_two {D : List (List UInt8 × Nat)} {N : Nat} (hN : D.length + D.length + 2 ≤ N) : ∀ b ∈ (⟨false, ptrV 2 (bPs D)⟩ : Blk) :: ⟨false, ptrV (D.length + 2) (bPs D)⟩ :: (partB false (bPs D) ++ partB false (bPs D)), okL N b.cells := fun b hb =>
  stL_ok (stB_cons (stL_ptrV (by rw [bPs_length]; omega)) (stB_cons (stL_ptrV (by rw [bPs_length]; omega)) (stB_app (stB_part bPs_st) (stB_part bPs_st))) b hb)
/-! ### Calls that write -/
/-- All blocks but those of W are as they were. -/
def Upd (W : Nat → Prop) (hp hp2 : List Blk) : Prop := hp.length ≤ hp2.length ∧ ∀ h x, ¬ W h → hp[h]? = some x → hp2[h]? = some x
theorem Ext.upd {hp hp2 : List Blk} (e : Ext hp hp2) : Upd (fun _ => False) hp hp2 := ⟨by obtain ⟨R, rfl⟩ := e; simp, fun _ _ _ hx => e.get hx⟩
theorem Upd.get {W : Nat → Prop} {hp hp2 : List Blk} {h : Nat} {x : Blk} (e : Upd W hp hp2) (hw : ¬ W h) (hx : hp[h]? = some x) : hp2[h]? = some x := e.2 h x hw hx
theorem bAt.upd {W : Nat → Prop} {hp hp2 : List Blk} {h : Nat} {cs : List V} (e : Upd W hp hp2) (hw : ¬ W h) : bAt hp h cs → bAt hp2 h cs
  | ⟨own, X, hx⟩ => ⟨own, X, e.get hw hx⟩
theorem nAt.upd {W : Nat → Prop} {hp hp2 : List Blk} {g b : Nat} {P : List Prt} (e : Upd W hp hp2) (h : nAt hp g b P) (hw : ¬ W g) (hw2 : ∀ i, i < P.length → ¬ W (b + i)) : nAt hp2 g b P :=
  ⟨h.1.upd e hw, fun i p hp => (h.2 i p hp).upd e (hw2 i (List.getElem?_eq_some_iff.1 hp).1)⟩
theorem Ext.uext {W : Nat → Prop} {ha hp hp2 : List Blk} (x : Ext ha hp) (e : Upd W hp hp2) (hw : ∀ h, h < ha.length → ¬ W h) : Ext ha hp2 := by
  obtain ⟨R, rfl⟩ := x
  refine ⟨hp2.drop ha.length, ?_⟩
  have hl := e.1
  rw [List.length_append] at hl
  have ht : hp2.take ha.length = ha := by
    apply List.ext_getElem?
    intro i
    rcases Nat.lt_or_ge i ha.length with hi | hi
    · rw [List.getElem?_take, if_pos hi, List.getElem?_eq_getElem hi]
      exact e.get (hw i hi) (by rw [List.getElem?_append_left hi, List.getElem?_eq_getElem hi])
    · rw [List.getElem?_eq_none (by rw [List.length_take]; omega), List.getElem?_eq_none hi]
  rw [← ht, List.length_take, Nat.min_eq_left (by omega), List.take_append_drop]
theorem putSegs_app {sub : List (Nat × Nat)} {N : Nat} : ∀ {r1 r2 : List (Nat × Nat)} {hp a1 a1' a2 a2' : List Blk}, r1.length = a1.length → a1'.length = a1.length → putSegs sub N hp (r1 ++ r2) (a1 ++ a2) (a1' ++ a2') = putSegs sub N (putSegs sub N hp r1 a1 a1') r2 a2 a2'
  | [], _, _, [], [], _, _, _, _ => by simp [putSegs]
  | (g, q) :: r1, r2, hp, b :: a1, b' :: a1', a2, a2', h1, h2 => by
    rw [List.cons_append, List.cons_append, List.cons_append, putSegs, putSegs]
    exact putSegs_app (by simpa using h1) (by simpa using h2)
  | [], _, _, _ :: _, _, _, _, h, _ => by simp at h
  | [], _, _, [], _ :: _, _, _, _, h => by simp at h
  | _ :: _, _, _, [], _, _, _, h, _ => by simp at h
  | _ :: _, _, _, _ :: _, [], _, _, _, h => by simp at h
theorem putSegs_rng {sub : List (Nat × Nat)} {N b : Nat} : ∀ {n : Nat} {hp : List Blk} {P Q : List Prt}, P.length = n → Q.length = n →
    (putSegs sub N hp (rng b n) (partB true P) (partB true Q)).length = hp.length ∧ ∀ h, (putSegs sub N hp (rng b n) (partB true P) (partB true Q))[h]? = if b ≤ h ∧ h < b + n ∧ h < hp.length then (Q[h - b]?).map fun q => (⟨true, V.instL sub N q.cells⟩ : Blk) else hp[h]?
  | 0, hp, [], [], _, _ => by
    refine ⟨rfl, fun h => ?_⟩
    rw [if_neg (by omega)]; rfl
  | n + 1, hp, P, Q, h1, h2 => by
    have e1 : P = P.take n ++ [P[n]] := by rw [List.take_append_getElem]; rw [List.take_of_length_le (by omega)]
    have e2 : Q = Q.take n ++ [Q[n]] := by rw [List.take_append_getElem]; rw [List.take_of_length_le (by omega)]
    have l1 : (P.take n).length = n := by rw [List.length_take]; omega
    have l2 : (Q.take n).length = n := by rw [List.length_take]; omega
    obtain ⟨i1, i2⟩ := putSegs_rng (sub := sub) (N := N) (b := b) (hp := hp) l1 l2
    have e3 : putSegs sub N hp (rng b (n + 1)) (partB true P) (partB true Q) = (putSegs sub N hp (rng b n) (partB true (P.take n)) (partB true (Q.take n))).set (b + n) ⟨true, V.instL sub N Q[n].cells⟩ := by
      conv => lhs; rw [e1, e2, rng]
      unfold partB
      rw [List.map_append, List.map_append, putSegs_app (by rw [rng_length, List.length_map, l1]) (by rw [List.length_map, List.length_map, l1, l2])]
      simp only [List.map_cons, List.map_nil, putSegs, if_true]
    refine ⟨by rw [e3, List.length_set, i1], fun h => ?_⟩
    rw [e3, List.getElem?_set, i1, i2]
    by_cases hh : b + n = h
    · subst hh
      rw [if_pos rfl]
      by_cases hl : b + n < hp.length
      · rw [if_pos hl, if_pos (by omega), Nat.add_sub_cancel_left, List.getElem?_eq_getElem (by omega)]; rfl
      · rw [if_neg hl, if_neg (by omega), List.getElem?_eq_none (by omega)]
    · rw [if_neg hh]
      by_cases h3 : b ≤ h ∧ h < b + n ∧ h < hp.length
      · rw [if_pos h3, if_pos (by omega), List.getElem?_take, if_pos (by omega)]
      · rw [if_neg h3, if_neg (by omega)]
/-- A call that writes the parts of a nest. -/
theorem put_nest {hp : List Blk} {g b n N : Nat} {P Q : List Prt} {own : Bool} {S : List (Nat × Nat)} (hg : nAt hp g b P) (hn : P.length = n) (hq : Q.length = n) (hid : ∀ q ∈ Q, V.instL S N q.cells = q.cells) :
    Upd (fun h => b ≤ h ∧ h < b + n) hp (putSegs S N hp ((g, 0) :: rng b n) (⟨false, ptrV 1 P⟩ :: partB true P) (⟨own, ptrV 1 Q⟩ :: partB true Q)) ∧
    ∀ i q, Q[i]? = some q → (putSegs S N hp ((g, 0) :: rng b n) (⟨false, ptrV 1 P⟩ :: partB true P) (⟨own, ptrV 1 Q⟩ :: partB true Q))[b + i]? = some ⟨true, q.cells⟩ := by
  obtain ⟨h1, h2⟩ := putSegs_rng (sub := S) (N := N) (b := b) (hp := hp) hn hq
  have e : putSegs S N hp ((g, 0) :: rng b n) (⟨false, ptrV 1 P⟩ :: partB true P) (⟨own, ptrV 1 Q⟩ :: partB true Q) = putSegs S N hp (rng b n) (partB true P) (partB true Q) := by
    rw [putSegs]; rfl
  rw [e]
  refine ⟨⟨by omega, fun h x hw hx => ?_⟩, fun i q hqi => ?_⟩
  · rw [h2, if_neg (by omega)]; exact hx
  · have hi := (List.getElem?_eq_some_iff.1 hqi).1
    have hlt : b + i < hp.length := (hg.2 i P[i] (List.getElem?_eq_getElem (by omega))).lt
    rw [h2, if_pos (by omega), Nat.add_sub_cancel_left, hqi, Option.map_some, hid q (List.mem_of_getElem? hqi)]
/-- A block in the memory, whole and own. -/
theorem set_upd {hp : List Blk} {h : Nat} {x b : Blk} (_ : hp[h]? = some x) : Upd (fun k => k = h) hp (hp.set h b) := ⟨by simp, fun k y hk hy => by rw [List.getElem?_set, if_neg (fun e => hk e.symm)]; exact hy⟩
theorem set_at {hp : List Blk} {h : Nat} {x b : Blk} (hx : hp[h]? = some x) : (hp.set h b)[h]? = some b := by
  rw [List.getElem?_set, if_pos rfl, if_pos (List.getElem?_eq_some_iff.1 hx).1]
section
variable {X : Cx} {f : FuncId} {args : List V} {d : Option Tmp} {ops : List Oper} {r : R} {tm : List V} {hp : List Blk} {q : K}
/-- As kCall_M, for a call that makes nothing new. -/
theorem kA_M {α : Type} {args0 : List V} {ha : List Blk} {G : α → Prop} {S : α → V × List Blk × List Blk} (h : LC X.P f args0 ha (RetM G S)) (hmu : X.mu.contains f = true) (sub : List (Nat × Nat))
    (h1 : leArgs args (V.instL sub hp.length args0)) (h2 : segM hp sub sub ha) (hnd : (sub.map (·.1)).Nodup) (h3 : okL ha.length args0) (h4 : ∀ b ∈ ha, okL ha.length b.cells)
    (h5 : ∀ x, G x → keepR ha (S x).2.1) (h6 : ∀ x, (S x).2.2 = [])
    (hk : ∀ x N hp2, G x → N = hp.length → hp2 = putSegs sub N hp sub ha (S x).2.1 → kR X ops r (putV tm d ((S x).1.inst sub N)) hp2 q) : kCall X f args d ops r tm hp q :=
  kCall_M h hmu sub h1 h2 hnd h3 h4 h5 (fun x b hb => by rw [h6 x] at hb; cases hb) fun x hx => by
    have := hk x _ _ hx rfl rfl
    rw [h6 x, List.map_nil, List.append_nil]; exact this
end
theorem segM_app {hp : List Blk} {sub : List (Nat × Nat)} : ∀ {r1 r2 : List (Nat × Nat)} {a1 a2 : List Blk}, segM hp sub r1 a1 → segM hp sub r2 a2 → segM hp sub (r1 ++ r2) (a1 ++ a2)
  | [], _, [], _, _, h => h
  | (g, q) :: r1, r2, b :: a1, a2, h1, h2 => ⟨h1.1, segM_app h1.2 h2⟩
theorem segM_rng {hp : List Blk} {sub : List (Nat × Nat)} {b : Nat} : ∀ {n : Nat} {L : List Prt}, L.length = n → (∀ i p, L[i]? = some p → hp[b + i]? = some ⟨true, V.instL sub hp.length p.cells⟩) → segM hp sub (rng b n) (partB true L)
  | 0, [], _, _ => trivial
  | n + 1, L, hl, hL => by
    have hne : n < L.length := by omega
    have e : L = L.take n ++ [L[n]] := by rw [List.take_append_getElem]; rw [List.take_of_length_le (by omega)]
    have hn := hL n L[n] (List.getElem?_eq_getElem hne)
    rw [e, rng]
    unfold partB
    rw [List.map_append]
    refine segM_app (segM_rng (L := L.take n) (by rw [List.length_take]; omega) fun i p hp => ?_) ⟨.inr ⟨rfl, rfl, hn⟩, trivial⟩
    have hi := (List.getElem?_eq_some_iff.1 hp).1
    rw [List.length_take] at hi
    refine hL i p ?_
    rw [List.getElem?_take, if_pos (by omega)] at hp
    exact hp
/-- Pointers and their parts, which are own. -/
theorem segM_nest {hp : List Blk} {g b n : Nat} {P : List Prt} (h : nAt hp g b P) (ho : ∀ i p, P[i]? = some p → hp[b + i]? = some ⟨true, p.cells⟩) (hn : P.length = n) (hid : ∀ sub N, ∀ p ∈ P, V.instL sub N p.cells = p.cells) :
    segM hp ((g, 0) :: rng b n) ((g, 0) :: rng b n) (⟨false, ptrV 1 P⟩ :: partB true P) := by
  have c1 := h.1.cells
  rw [ptrV_length] at c1
  refine ⟨.inl ⟨rfl, h.1.lt, ?_⟩, segM_rng hn fun i p hp => ?_⟩
  · rw [List.drop_zero, ptrV_length, c1, instL_ptrV]
    intro i hi
    rw [Nat.add_comm, List.getElem?_cons_succ, rng_get b (by omega)]
  · rw [hid _ _ _ (List.mem_of_getElem? hp)]; exact ho i p hp
theorem rng_nodup {b : Nat} : ∀ n, ((rng b n).map (·.1)).Nodup ∧ ∀ x ∈ (rng b n).map (·.1), b ≤ x ∧ x < b + n
  | 0 => by simp [rng]
  | n + 1 => by
    obtain ⟨h1, h2⟩ := rng_nodup (b := b) n
    rw [rng, List.map_append]
    refine ⟨List.nodup_append.2 ⟨h1, by simp, fun x hx y hy => ?_⟩, fun x hx => ?_⟩
    · simp only [List.map_cons, List.map_nil, List.mem_singleton] at hy
      have := h2 x hx
      omega
    · rcases List.mem_append.1 hx with hx | hx
      · have := h2 x hx; omega
      · simp only [List.map_cons, List.map_nil, List.mem_singleton] at hx; omega
theorem nest_nodup {g b n : Nat} (h : g < b ∨ b + n ≤ g) : ((((g, 0) : Nat × Nat) :: rng b n).map (·.1)).Nodup := by
  obtain ⟨h1, h2⟩ := rng_nodup (b := b) n
  rw [List.map_cons, List.nodup_cons]
  exact ⟨fun hm => by have := h2 g hm; omega, h1⟩
theorem keepR_part : ∀ {P Q : List Prt}, P.length = Q.length → (∀ (i : Nat) (p q : Prt), P[i]? = some p → Q[i]? = some q → q.cells.length = p.cells.length) → keepR (partB true P) (partB true Q)
  | [], [], _, _ => trivial
  | p :: P, q :: Q, hl, h => ⟨by simp only [partB, if_true]; exact h 0 p q rfl rfl, keepR_part (by simpa using hl) fun i a b ha hb => h (i + 1) a b (by simpa using ha) (by simpa using hb)⟩
  | [], _ :: _, h, _ => by simp at h
  | _ :: _, [], h, _ => by simp at h
/-- Parts that turn keep their pointers. -/
theorem ptrV_same : ∀ {h : Nat} {P Q : List Prt}, P.length = Q.length → (∀ (i : Nat) (p q : Prt), P[i]? = some p → Q[i]? = some q → q.n = p.n ∧ q.c = p.c) → ptrV h P = ptrV h Q
  | _, [], [], _, _ => rfl
  | h, p :: P, q :: Q, hl, hh => by
    have := hh 0 p q rfl rfl
    rw [ptrV, ptrV, this.1, this.2, ptrV_same (h := h + 1) (by simpa using hl) fun i a b ha hb => hh (i + 1) a b (by simpa using ha) (by simpa using hb)]
  | _, [], _ :: _, h, _ => by simp at h
  | _, _ :: _, [], h, _ => by simp at h
end Go.Vc
/- Slices of slices, as they come in. -/
set_option linter.unusedSimpArgs false
set_option linter.unusedVariables false
namespace Go.Vc
open Go Go.RowKit Go.ChangeShapes Go.WideShapes Go.ChangeAt
section
variable {H : Type} {enc : TypeId × Value → H} {P : Program} {w : World} {base : Nat} {spare : Nat → Bool} {held : Bool}
theorem pick_fun {α : Type} [Inhabited α] {n : Nat} {G : Nat → α → Prop} (h : ∀ i, i < n → ∃ y, G i y) : ∃ f : Nat → α, ∀ i, i < n → G i (f i) := by
  have : ∀ i, ∃ y, i < n → G i y := fun i => by
    by_cases hi : i < n
    · obtain ⟨y, hy⟩ := h i hi; exact ⟨y, fun _ => hy⟩
    · exact ⟨default, fun h => absurd h hi⟩
  exact ⟨fun i => Classical.choose (this i), fun i hi => Classical.choose_spec (this i) hi⟩
/-- A slice whose elements have k cells each. -/
theorem open_sl {t e : TypeId} {k fuel : Nat} {cs : List Value} {x : DataW H × List MemPlace} (ht : P.underlying t = some (.slice e)) (hce : P.cellsOf e = k) (hk : 0 < k) (h : DataW.trod enc P w base (fun _ => true) held fuel t cs = some x) :
    ∃ v ρ0 n c, cs = [v] ∧ v.oneCell' = true ∧ n ≤ c ∧ c ≤ maxLen ∧ (∀ (ρ : Loc) (g : Nat), ρ g = ρ0 → rel ρ (.s g 0 n c) v) ∧
      ∀ i, i < n → ∃ es f y, es.length = k ∧ DataW.trod enc P w base (fun _ => true) held f e es = some y ∧ ∀ j, j < k → w.cell? ⟨ρ0.1, ρ0.2 + (i * k + j), none⟩ = es[j]? := by
  rcases DataW.trod_slice ht h with ⟨hcs, _⟩ | ⟨x, len, cap, elems, rest, n, _, hcs, _, _, hl, hm, hlen, hel, hsp, _⟩
  · refine ⟨_, (0, 0), 0, 0, hcs, rfl, Nat.le_refl _, Nat.zero_le _, fun ρ g hg => ?_, fun i hi => absurd hi (by omega)⟩
    unfold rel
    exact ⟨Nat.le_refl _, none, rfl, fun h => absurd h (by omega)⟩
  · obtain ⟨hrl, hr⟩ := hsp rfl
    have each : ∀ i, i < cap → ∃ es y, es.length = k ∧ DataW.trod enc P w base (fun _ => true) held n e es = some y ∧ ∀ j, j < k → w.cell? (x.add (i * k + j)) = es[j]? := by
      intro i hi
      have : ∃ y, (w.cells? base (x.add (i * P.cellsOf e)) (P.cellsOf e)).bind (DataW.trod enc P w base (fun _ => true) held n e) = some y := by
        by_cases h1 : i < len
        · rw [hel i h1]
          exact ⟨_, List.getElem?_eq_getElem (by omega)⟩
        · have := hr (i - len) (by omega)
          rw [show len + (i - len) = i by omega] at this
          rw [this]
          exact ⟨_, List.getElem?_eq_getElem (by omega)⟩
      obtain ⟨y, hy⟩ := this
      rw [hce, Option.bind_eq_some_iff] at hy
      obtain ⟨es, h1, h2⟩ := hy
      obtain ⟨_, h4, h3⟩ := World.cells?_some h1
      refine ⟨es, y, h4, h2, fun j hj => ?_⟩
      rw [← h3 j hj, Addr.add_add]
    have spot : 0 < cap → x = ⟨x.block, x.off, none⟩ := fun hc => by
      obtain ⟨es, y, h1, _, h2⟩ := each 0 hc
      have := h2 0 hk
      rw [List.getElem?_eq_getElem (by omega)] at this
      simp only [Nat.zero_mul, Nat.add_zero, Addr.add, if_true] at this
      unfold World.cell? at this
      split at this
      · cases hs : x.spot with
        | none => obtain ⟨b, o, sp⟩ := x; simp only at hs; subst hs; rfl
        | some s => simp [hs] at this
      · cases this
    refine ⟨_, (x.block, x.off), len, cap, hcs, rfl, hl, hm, fun ρ g hg => ?_, fun i hi => ?_⟩
    · unfold rel
      refine ⟨hl, some x, rfl, fun hc => ?_⟩
      rw [hg, spot hc]; rfl
    · obtain ⟨es, y, h1, h2, h3⟩ := each i (by omega)
      refine ⟨es, n, y, h1, h2, fun j hj => ?_⟩
      rw [← h3 j hj]
      have e3 : x.add (i * k + j) = ⟨x.block, x.off + (i * k + j), none⟩ := by
        rw [spot (by omega)]
        unfold Addr.add
        split
        · rename_i h0; rw [h0]; rfl
        · rfl
      rw [e3]
/-- Bytes that lie at a place. -/
def BytesAt (w : World) (ρ0 : Nat × Nat) (l : List UInt8) : Prop := ∀ i, i < l.length → w.cell? ⟨ρ0.1, ρ0.2 + i, none⟩ = some (u8v (l.getD i 0))
/-- Numbers that lie at a place. -/
def NumsAt (w : World) (ρ0 : Nat × Nat) (q : List Int) : Prop := ∀ i, i < q.length → w.cell? ⟨ρ0.1, ρ0.2 + i, none⟩ = some (.int .i64 (q.getD i 0))
theorem sl_bytes {t e : TypeId} {fuel : Nat} {cs : List Value} {x : DataW H × List MemPlace} (ht : P.underlying t = some (.slice e)) (he : P.underlying e = some (.int .u8)) (hce : P.cellsOf e = 1) (h : DataW.trod enc P w base (fun _ => true) held fuel t cs = some x) :
    ∃ v ρ0 c l, cs = [v] ∧ v.oneCell' = true ∧ l.length ≤ c ∧ c ≤ maxLen ∧ (∀ (ρ : Loc) (g : Nat), ρ g = ρ0 → rel ρ (.s g 0 l.length c) v) ∧ BytesAt w ρ0 l := by
  obtain ⟨v, ρ0, n, c, hcs, h1, h2, h3, h4, h5⟩ := open_sl ht hce (by omega) h
  have : ∀ i, i < n → ∃ u : UInt8, w.cell? ⟨ρ0.1, ρ0.2 + i, none⟩ = some (u8v u) := fun i hi => by
    obtain ⟨es, f, y, e1, e2, e3⟩ := h5 i hi
    obtain ⟨z, rfl, _, e4⟩ := DataW.trod_int he e2
    obtain ⟨u, rfl⟩ := u8_of_wf e4
    refine ⟨u, ?_⟩
    have := e3 0 (by omega)
    simpa [u8v] using this
  obtain ⟨f, hf⟩ := pick_fun this
  refine ⟨v, ρ0, c, (List.range n).map f, hcs, h1, by simpa using h2, h3, by simpa using h4, fun i hi => ?_⟩
  have hi' : i < n := by simpa using hi
  rw [hf i hi']
  simp [List.getD, hi']
theorem sl_nums {t e : TypeId} {fuel : Nat} {cs : List Value} {x : DataW H × List MemPlace} (ht : P.underlying t = some (.slice e)) (he : P.underlying e = some (.int .i64)) (hce : P.cellsOf e = 1) (h : DataW.trod enc P w base (fun _ => true) held fuel t cs = some x) :
    ∃ v ρ0 c q, cs = [v] ∧ v.oneCell' = true ∧ q.length ≤ c ∧ c ≤ maxLen ∧ (∀ z ∈ q, (Lit.int .i64 z).wf = true) ∧ (∀ (ρ : Loc) (g : Nat), ρ g = ρ0 → rel ρ (.s g 0 q.length c) v) ∧ NumsAt w ρ0 q := by
  obtain ⟨v, ρ0, n, c, hcs, h1, h2, h3, h4, h5⟩ := open_sl ht hce (by omega) h
  have : ∀ i, i < n → ∃ u : Int, (Lit.int .i64 u).wf = true ∧ w.cell? ⟨ρ0.1, ρ0.2 + i, none⟩ = some (.int .i64 u) := fun i hi => by
    obtain ⟨es, f, y, e1, e2, e3⟩ := h5 i hi
    obtain ⟨z, rfl, _, e4⟩ := DataW.trod_int he e2
    refine ⟨z, e4, ?_⟩
    have := e3 0 (by omega)
    simpa using this
  obtain ⟨f, hf⟩ := pick_fun this
  refine ⟨v, ρ0, c, (List.range n).map f, hcs, h1, by simpa using h2, h3, fun z hz => ?_, by simpa using h4, fun i hi => ?_⟩
  · simp only [List.mem_map, List.mem_range] at hz
    obtain ⟨i, hi, rfl⟩ := hz
    exact (hf i hi).1
  have hi' : i < n := by simpa using hi
  rw [(hf i hi').2]
  simp [List.getD, hi']
theorem sl_arrays {t e b : TypeId} {k fuel : Nat} {cs : List Value} {x : DataW H × List MemPlace} (ht : P.underlying t = some (.slice e)) (he : P.underlying e = some (.array k b)) (hb : P.underlying b = some (.int .u8)) (hce : P.cellsOf e = k) (hcb : P.cellsOf b = 1) (hk : 0 < k) (h : DataW.trod enc P w base (fun _ => true) held fuel t cs = some x) :
    ∃ v ρ0 n c l, cs = [v] ∧ v.oneCell' = true ∧ l.length = k * n ∧ n ≤ c ∧ c ≤ maxLen ∧ (∀ (ρ : Loc) (g : Nat), ρ g = ρ0 → rel ρ (.s g 0 n c) v) ∧ BytesAt w ρ0 l := by
  obtain ⟨v, ρ0, n, c, hcs, h1, h2, h3, h4, h5⟩ := open_sl ht hce hk h
  have : ∀ i, i < k * n → ∃ u : UInt8, w.cell? ⟨ρ0.1, ρ0.2 + i, none⟩ = some (u8v u) := fun i hi => by
    obtain ⟨es, f, y, e1, e2, e3⟩ := h5 (i / k) (Nat.div_lt_of_lt_mul hi)
    obtain ⟨u, hu⟩ := array_cells he hb hcb e2 (i % k) (Nat.mod_lt _ hk)
    refine ⟨u, ?_⟩
    have := e3 (i % k) (Nat.mod_lt _ hk)
    rw [Nat.mul_comm, Nat.div_add_mod] at this
    rw [this, hu]
  obtain ⟨f, hf⟩ := pick_fun this
  refine ⟨v, ρ0, n, c, (List.range (k * n)).map f, hcs, h1, by simp, h2, h3, h4, fun i hi => ?_⟩
  have hi' : i < k * n := by simpa using hi
  rw [hf i hi']
  simp [List.getD, hi']
/-- Cells that lie at a place. -/
def CellsAt (w : World) (ρ0 : Nat × Nat) (cs : List V) : Prop := ∀ j v, cs[j]? = some v → ∃ x, w.cell? ⟨ρ0.1, ρ0.2 + j, none⟩ = some x ∧ x.oneCell' = true ∧ ∀ ρ : Loc, rel ρ v x
theorem cells_bytes {ρ0 : Nat × Nat} {l : List UInt8} (hI : BytesAt w ρ0 l) : CellsAt w ρ0 (bs l) := fun j v hv => by
  have hj : j < l.length := by have := (List.getElem?_eq_some_iff.1 hv).1; rwa [bs_length] at this
  refine ⟨_, hI j hj, rfl, fun ρ => ?_⟩
  have e : v = bv (l.getD j 0) := by
    simp only [bs, List.getElem?_map, List.getElem?_eq_getElem hj, Option.map_some, Option.some.injEq] at hv
    rw [← hv]; simp [List.getD, hj]
  rw [e]
  unfold bv rel
  rfl
theorem cells_nums {ρ0 : Nat × Nat} {q : List Int} (hI : NumsAt w ρ0 q) : CellsAt w ρ0 (nsv q) := fun j v hv => by
  unfold nsv at hv
  rw [List.getElem?_map, Option.map_eq_some_iff] at hv
  obtain ⟨z, hz, rfl⟩ := hv
  have hj := (List.getElem?_eq_some_iff.1 hz).1
  refine ⟨_, hI j hj, rfl, fun ρ => ?_⟩
  simp only [List.getD, hz, Option.getD_some]
  unfold rel
  rfl
/-- Slices that lie at a place, each with its cells. -/
def PartsAt (w : World) (ρ0 : Nat × Nat) (P : List Prt) (loc : Nat → Nat × Nat) : Prop :=
  ∀ i p, P[i]? = some p → (∃ v, w.cell? ⟨ρ0.1, ρ0.2 + i, none⟩ = some v ∧ v.oneCell' = true ∧ ∀ (ρ : Loc) (g : Nat), ρ g = loc i → rel ρ (.s g 0 p.n p.c) v) ∧ CellsAt w (loc i) p.cells
/-- Parts of digests: bytes, the slice's length being a thirty-second of theirs. -/
def dP (p : List UInt8 × Nat) : Prt := ⟨bs p.1, p.1.length / 32, p.2⟩
def dPs (D : List (List UInt8 × Nat)) : List Prt := D.map dP
theorem parts_of {α : Type} [Inhabited α] {n : Nat} {ρ0 : Nat × Nat} {f : α → Prt} {C : α → Prop} (h : ∀ i, i < n → ∃ (y : α) (l : Nat × Nat), C y ∧ (∃ v, w.cell? ⟨ρ0.1, ρ0.2 + i, none⟩ = some v ∧ v.oneCell' = true ∧ ∀ (ρ : Loc) (g : Nat), ρ g = l → rel ρ (.s g 0 (f y).n (f y).c) v) ∧ CellsAt w l (f y).cells) :
    ∃ (D : List α) (loc : Nat → Nat × Nat), D.length = n ∧ (∀ p ∈ D, C p) ∧ PartsAt w ρ0 (D.map f) loc := by
  obtain ⟨g, hg⟩ := pick_fun h
  have : ∀ i, ∃ l : Nat × Nat, i < n → C (g i) ∧ (∃ v, w.cell? ⟨ρ0.1, ρ0.2 + i, none⟩ = some v ∧ v.oneCell' = true ∧ ∀ (ρ : Loc) (k : Nat), ρ k = l → rel ρ (.s k 0 (f (g i)).n (f (g i)).c) v) ∧ CellsAt w l (f (g i)).cells := fun i => by
    by_cases hi : i < n
    · obtain ⟨l, hl⟩ := hg i hi; exact ⟨l, fun _ => hl⟩
    · exact ⟨(0, 0), fun h => absurd h hi⟩
  refine ⟨(List.range n).map g, fun i => Classical.choose (this i), by simp, fun p hp => ?_, fun i p hp => ?_⟩
  · simp only [List.mem_map, List.mem_range] at hp
    obtain ⟨i, hi, rfl⟩ := hp
    exact (Classical.choose_spec (this i) hi).1
  · rw [List.map_map, List.getElem?_map, Option.map_eq_some_iff] at hp
    obtain ⟨j, hj, rfl⟩ := hp
    have hi : i < n := by have := (List.getElem?_eq_some_iff.1 hj).1; simpa using this
    rw [List.getElem?_range hi, Option.some.injEq] at hj
    subst hj
    exact (Classical.choose_spec (this i) hi).2
theorem sl_slices {t s e : TypeId} {fuel : Nat} {cs : List Value} {x : DataW H × List MemPlace} (ht : P.underlying t = some (.slice s)) (hs : P.underlying s = some (.slice e)) (hcs : P.cellsOf s = 1) (he : P.underlying e = some (.int .u8)) (hce : P.cellsOf e = 1) (h : DataW.trod enc P w base (fun _ => true) held fuel t cs = some x) :
    ∃ v ρ0 c D loc, cs = [v] ∧ v.oneCell' = true ∧ D.length ≤ c ∧ c ≤ maxLen ∧ (∀ p ∈ D, p.1.length ≤ p.2 ∧ p.2 ≤ maxLen) ∧ (∀ (ρ : Loc) (g : Nat), ρ g = ρ0 → rel ρ (.s g 0 D.length c) v) ∧ PartsAt w ρ0 (bPs D) loc := by
  obtain ⟨v, ρ0, n, c, e0, h1, h2, h3, h4, h5⟩ := open_sl ht hcs (by omega) h
  obtain ⟨D, loc, d1, d2, d3⟩ := parts_of (w := w) (n := n) (ρ0 := ρ0) (f := bP) (C := fun p : List UInt8 × Nat => p.1.length ≤ p.2 ∧ p.2 ≤ maxLen) fun i hi => by
    obtain ⟨es, f, y, e1, e2, e3⟩ := h5 i hi
    obtain ⟨v', ρ1, c1, l1, rfl, a1, a2, a3, a4, a5⟩ := sl_bytes hs he hce e2
    refine ⟨(l1, c1), ρ1, ⟨a2, a3⟩, ⟨v', ?_, a1, a4⟩, cells_bytes a5⟩
    have := e3 0 (by omega)
    simpa using this
  subst d1
  exact ⟨v, ρ0, c, D, loc, e0, h1, h2, h3, d2, h4, d3⟩
theorem sl_dslices {t s e b : TypeId} {fuel : Nat} {cs : List Value} {x : DataW H × List MemPlace} (ht : P.underlying t = some (.slice s)) (hs : P.underlying s = some (.slice e)) (hcs : P.cellsOf s = 1) (he : P.underlying e = some (.array 32 b)) (hb : P.underlying b = some (.int .u8)) (hce : P.cellsOf e = 32) (hcb : P.cellsOf b = 1) (h : DataW.trod enc P w base (fun _ => true) held fuel t cs = some x) :
    ∃ v ρ0 c D loc, cs = [v] ∧ v.oneCell' = true ∧ D.length ≤ c ∧ c ≤ maxLen ∧ (∀ p ∈ D, p.1.length = 32 * (p.1.length / 32) ∧ p.1.length / 32 ≤ p.2 ∧ p.2 ≤ maxLen) ∧ (∀ (ρ : Loc) (g : Nat), ρ g = ρ0 → rel ρ (.s g 0 D.length c) v) ∧ PartsAt w ρ0 (dPs D) loc := by
  obtain ⟨v, ρ0, n, c, e0, h1, h2, h3, h4, h5⟩ := open_sl ht hcs (by omega) h
  obtain ⟨D, loc, d1, d2, d3⟩ := parts_of (w := w) (n := n) (ρ0 := ρ0) (f := dP) (C := fun p : List UInt8 × Nat => p.1.length = 32 * (p.1.length / 32) ∧ p.1.length / 32 ≤ p.2 ∧ p.2 ≤ maxLen) fun i hi => by
    obtain ⟨es, f, y, e1, e2, e3⟩ := h5 i hi
    obtain ⟨v', ρ1, n1, c1, l1, rfl, a1, a2, a3, a4, a5, a6⟩ := sl_arrays hs he hb hce hcb (by omega) e2
    have hn : l1.length / 32 = n1 := by omega
    refine ⟨(l1, c1), ρ1, ⟨by simp only; omega, by simp only; omega, a4⟩, ⟨v', ?_, a1, fun ρ g hg => ?_⟩, cells_bytes a6⟩
    · have := e3 0 (by omega)
      simpa using this
    · simp only [dP, hn]; exact a5 ρ g hg
  subst d1
  exact ⟨v, ρ0, c, D, loc, e0, h1, h2, h3, d2, h4, d3⟩
theorem cell_at {ρ : Loc} {g : Nat} {ρ0 : Nat × Nat} {cs : List V} (hI : CellsAt w ρ0 cs) (hg : ρ g = ρ0) (j : Nat) (v : V) (hv : cs[j]? = some v) :
    ∃ x, w.cell? ⟨(ρ g).1, (ρ g).2 + j, none⟩ = some x ∧ x.oneCell' = true ∧ rel ρ v x := by
  rw [hg]
  obtain ⟨x, h1, h2, h3⟩ := hI j v hv
  exact ⟨x, h1, h2, h3 ρ⟩
/-- The cells of pointers whose parts' handles begin at b. -/
theorem cell_ptrs {ρ : Loc} {g b : Nat} {ρ0 : Nat × Nat} {L : List Prt} {loc : Nat → Nat × Nat} (hP : PartsAt w ρ0 L loc) (hg : ρ g = ρ0) (hb : ∀ i, i < L.length → ρ (b + i) = loc i) (j : Nat) (v : V) (hv : (ptrV b L)[j]? = some v) :
    ∃ x, w.cell? ⟨(ρ g).1, (ρ g).2 + j, none⟩ = some x ∧ x.oneCell' = true ∧ rel ρ v x := by
  have hj : j < L.length := by have := (List.getElem?_eq_some_iff.1 hv).1; rwa [ptrV_length] at this
  have hp : L[j]? = some L[j] := List.getElem?_eq_getElem hj
  rw [ptrV_get b hp, Option.some.injEq] at hv
  subst hv
  obtain ⟨⟨x, h1, h2, h3⟩, _⟩ := hP j _ hp
  rw [hg]
  exact ⟨x, h1, h2, h3 ρ (b + j) (hb j hj)⟩
theorem cell_parts {ρ : Loc} {b : Nat} {ρ0 : Nat × Nat} {L : List Prt} {loc : Nat → Nat × Nat} (hP : PartsAt w ρ0 L loc) (hb : ∀ i, i < L.length → ρ (b + i) = loc i) (i : Nat) (bk : Blk) (hbk : (partB false L)[i]? = some bk) (j : Nat) (v : V) (hv : bk.cells[j]? = some v) :
    ∃ x, w.cell? ⟨(ρ (b + i)).1, (ρ (b + i)).2 + j, none⟩ = some x ∧ x.oneCell' = true ∧ rel ρ v x := by
  have hi : i < L.length := by have := (List.getElem?_eq_some_iff.1 hbk).1; rwa [partB_length] at this
  have hp : L[i]? = some L[i] := List.getElem?_eq_getElem hi
  rw [partB_get0 hp, Option.some.injEq] at hbk
  subst hbk
  exact cell_at (hP i _ hp).2 (hb i hi) j v hv
theorem ro_part {L : List Prt} : ∀ b ∈ partB false L, b.own = false := fun b hb => by
  simp only [partB, List.mem_map] at hb
  obtain ⟨p, _, rfl⟩ := hb
  rfl
theorem dPs_st {N : Nat} {D : List (List UInt8 × Nat)} : ∀ p ∈ dPs D, stL N p.cells := by
  intro p hp
  simp only [dPs, List.mem_map] at hp
  obtain ⟨q, _, rfl⟩ := hp
  exact stL_bs _ _
theorem dPs_length (D : List (List UInt8 × Nat)) : (dPs D).length = D.length := by simp [dPs]
theorem dPs_get {D : List (List UInt8 × Nat)} {i : Nat} {p : List UInt8 × Nat} (h : D[i]? = some p) : (dPs D)[i]? = some (dP p) := by simp [dPs, List.getElem?_map, h]
theorem dPs_id {D : List (List UInt8 × Nat)} : ∀ sub N, ∀ p ∈ dPs D, V.instL sub N p.cells = p.cells := by
  intro sub N p hp
  simp only [dPs, List.mem_map] at hp
  obtain ⟨q, _, rfl⟩ := hp
  exact instL_bs _ _ _
/-- A slice of slices of bytes. -/
theorem open_slicesS {t s e : TypeId} {r : Reach} {b0 : Nat} {v : Value} {d : DataW H} {ps : List MemPlace} (ht : P.underlying t = some (.slice s)) (hs : P.underlying s = some (.slice e)) (hcs : P.cellsOf s = 1) (he : P.underlying e = some (.int .u8)) (hce : P.cellsOf e = 1)
    (hv : Value.okWide P w r b0 t v) (h : DataW.Trod enc P w base (fun _ => true) held t v d ps) :
    ∃ ρ0 c D loc, D.length ≤ c ∧ c ≤ maxLen ∧ (∀ p ∈ D, p.1.length ≤ p.2 ∧ p.2 ≤ maxLen) ∧ (∀ (ρ : Loc) (g : Nat), ρ g = ρ0 → rel ρ (.s g 0 D.length c) v) ∧ PartsAt w ρ0 (bPs D) loc := by
  obtain ⟨a, len, cap, rfl⟩ := okWide_slice ht hv
  obtain ⟨fuel, hf⟩ := h
  obtain ⟨v, ρ0, c, D, loc, e0, h1, h2, h3, h4, h5, h6⟩ := sl_slices ht hs hcs he hce hf
  simp [Value.cells] at e0
  subst e0
  exact ⟨ρ0, c, D, loc, h2, h3, h4, h5, h6⟩
/-- A struct of digests, slices of bytes, numbers. -/
theorem open_blobs {t tk ta tb td ts tc ti u8 : TypeId} {fs : Array Field} {r : Reach} {b0 : Nat} {v : Value} {d : DataW H} {ps : List MemPlace} (ht : P.underlying t = some (.struct fs))
    (f0 : fs[0]?.map (fun f => (f.type, f.offset)) = some (tk, 0)) (f1 : fs[1]?.map (fun f => (f.type, f.offset)) = some (td, 1)) (f2 : fs[2]?.map (fun f => (f.type, f.offset)) = some (tc, 2))
    (htk : P.underlying tk = some (.slice ta)) (hta : P.underlying ta = some (.array 32 tb)) (htb : P.underlying tb = some (.int .u8)) (htd : P.underlying td = some (.slice ts)) (hts : P.underlying ts = some (.slice u8)) (htc : P.underlying tc = some (.slice ti)) (hti : P.underlying ti = some (.int .i64)) (hu8 : P.underlying u8 = some (.int .u8))
    (ct : P.cellsOf t = 3) (ck : P.cellsOf tk = 1) (ca : P.cellsOf ta = 32) (cb : P.cellsOf tb = 1) (cd : P.cellsOf td = 1) (cs' : P.cellsOf ts = 1) (cc : P.cellsOf tc = 1) (ci : P.cellsOf ti = 1) (cu : P.cellsOf u8 = 1)
    (hv : Value.okWide P w r b0 t v) (h : DataW.Trod enc P w base (fun _ => true) held t v d ps) :
    ∃ v0 v1 v2 ρ0 ρ1 ρ2 n c0 K c1 D loc c2 Q, v = .agg #[v0, v1, v2] ∧ v0.oneCell' = true ∧ v1.oneCell' = true ∧ v2.oneCell' = true ∧ K.length = 32 * n ∧ n ≤ c0 ∧ c0 ≤ maxLen ∧ D.length ≤ c1 ∧ c1 ≤ maxLen ∧ (∀ p ∈ D, p.1.length ≤ p.2 ∧ p.2 ≤ maxLen) ∧ Q.length ≤ c2 ∧ c2 ≤ maxLen ∧ (∀ z ∈ Q, (Lit.int .i64 z).wf = true) ∧
      (∀ (ρ : Loc) (g : Nat), ρ g = ρ0 → rel ρ (.s g 0 n c0) v0) ∧ (∀ (ρ : Loc) (g : Nat), ρ g = ρ1 → rel ρ (.s g 0 D.length c1) v1) ∧ (∀ (ρ : Loc) (g : Nat), ρ g = ρ2 → rel ρ (.s g 0 Q.length c2) v2) ∧
      CellsAt w ρ0 (bs K) ∧ PartsAt w ρ1 (bPs D) loc ∧ CellsAt w ρ2 (nsv Q) := by
  obtain ⟨cs, rfl, hsz⟩ := okWide_struct ht hv
  obtain ⟨fuel, hf⟩ := h
  have part : ∀ {i : Nat} {tt : TypeId} {off : Nat}, fs[i]?.map (fun f => (f.type, f.offset)) = some (tt, off) → ∃ n y, DataW.trod enc P w base (fun _ => true) held n tt ((cs.toList.drop off).take (P.cellsOf tt)) = some y := by
    intro i tt off hi
    rw [Option.map_eq_some_iff] at hi
    obtain ⟨f, hf1, hf2⟩ := hi
    cases hf2
    exact (struct_part ht hf hf1).2
  obtain ⟨_, _, p0⟩ := part f0
  obtain ⟨_, _, p1⟩ := part f1
  obtain ⟨_, _, p2⟩ := part f2
  obtain ⟨v0, ρ0, n, c0, K, e0, a1, a2, a3, a4, a5, a6⟩ := sl_arrays htk hta htb ca cb (by omega) p0
  obtain ⟨v1, ρ1, c1, D, loc, e1, b1, b2, b3, b4, b5, b6⟩ := sl_slices htd hts cs' hu8 cu p1
  obtain ⟨v2, ρ2, c2, Q, e2, d1, d2, d3, d4, d5, d6⟩ := sl_nums htc hti ci p2
  refine ⟨v0, v1, v2, ρ0, ρ1, ρ2, n, c0, K, c1, D, loc, c2, Q, ?_, a1, b1, d1, a2, a3, a4, b2, b3, b4, d2, d3, d4, a5, b5, d5, cells_bytes a6, b6, cells_nums d6⟩
  rw [ck] at e0; rw [cd] at e1; rw [cc] at e2
  have hl : cs.toList.length = 3 := by rw [← ct]; simpa using hsz
  have h0 := cut_list cs.toList 0 1
  have h1 := cut_list cs.toList 1 1
  have h2 := cut_list cs.toList 2 1
  have key : cs.toList = [v0, v1, v2] := by
    have h3 : cs.toList.drop 3 = [] := List.drop_of_length_le (by omega)
    rw [List.drop_zero] at h0 e0
    simp only [Nat.zero_add, Nat.reduceAdd] at h0 h1 h2
    rw [h0, e0, h1, e1, h2, e2, h3]; rfl
  rw [← key]
/-- A struct of a number, digests, slices of digests. -/
theorem open_absence {t ti tk ta tb td ts : TypeId} {fs : Array Field} {r : Reach} {b0 : Nat} {v : Value} {d : DataW H} {ps : List MemPlace} (ht : P.underlying t = some (.struct fs))
    (f0 : fs[0]?.map (fun f => (f.type, f.offset)) = some (ti, 0)) (f1 : fs[1]?.map (fun f => (f.type, f.offset)) = some (tk, 1)) (f2 : fs[2]?.map (fun f => (f.type, f.offset)) = some (td, 2))
    (hti : P.underlying ti = some (.int .i64)) (htk : P.underlying tk = some (.slice ta)) (hta : P.underlying ta = some (.array 32 tb)) (htb : P.underlying tb = some (.int .u8)) (htd : P.underlying td = some (.slice ts)) (hts : P.underlying ts = some (.slice ta))
    (ct : P.cellsOf t = 3) (ci : P.cellsOf ti = 1) (ck : P.cellsOf tk = 1) (ca : P.cellsOf ta = 32) (cb : P.cellsOf tb = 1) (cd : P.cellsOf td = 1) (cs' : P.cellsOf ts = 1)
    (hv : Value.okWide P w r b0 t v) (h : DataW.Trod enc P w base (fun _ => true) held t v d ps) :
    ∃ z v1 v2 ρ1 ρ2 n c1 K c2 D loc, (Lit.int .i64 z).wf = true ∧ v = .agg #[.int .i64 z, v1, v2] ∧ v1.oneCell' = true ∧ v2.oneCell' = true ∧ K.length = 32 * n ∧ n ≤ c1 ∧ c1 ≤ maxLen ∧ D.length ≤ c2 ∧ c2 ≤ maxLen ∧ (∀ p ∈ D, p.1.length = 32 * (p.1.length / 32) ∧ p.1.length / 32 ≤ p.2 ∧ p.2 ≤ maxLen) ∧
      (∀ (ρ : Loc) (g : Nat), ρ g = ρ1 → rel ρ (.s g 0 n c1) v1) ∧ (∀ (ρ : Loc) (g : Nat), ρ g = ρ2 → rel ρ (.s g 0 D.length c2) v2) ∧ CellsAt w ρ1 (bs K) ∧ PartsAt w ρ2 (dPs D) loc := by
  obtain ⟨cs, rfl, hsz⟩ := okWide_struct ht hv
  obtain ⟨fuel, hf⟩ := h
  have part : ∀ {i : Nat} {tt : TypeId} {off : Nat}, fs[i]?.map (fun f => (f.type, f.offset)) = some (tt, off) → ∃ n y, DataW.trod enc P w base (fun _ => true) held n tt ((cs.toList.drop off).take (P.cellsOf tt)) = some y := by
    intro i tt off hi
    rw [Option.map_eq_some_iff] at hi
    obtain ⟨f, hf1, hf2⟩ := hi
    cases hf2
    exact (struct_part ht hf hf1).2
  obtain ⟨_, _, p0⟩ := part f0
  obtain ⟨_, _, p1⟩ := part f1
  obtain ⟨_, _, p2⟩ := part f2
  obtain ⟨z, e0, w0⟩ := int_part hti p0
  obtain ⟨v1, ρ1, n, c1, K, e1, a1, a2, a3, a4, a5, a6⟩ := sl_arrays htk hta htb ca cb (by omega) p1
  obtain ⟨v2, ρ2, c2, D, loc, e2, b1, b2, b3, b4, b5, b6⟩ := sl_dslices htd hts cs' hta htb ca cb p2
  refine ⟨z, v1, v2, ρ1, ρ2, n, c1, K, c2, D, loc, w0, ?_, a1, b1, a2, a3, a4, b2, b3, b4, a5, b5, cells_bytes a6, b6⟩
  rw [ci] at e0; rw [ck] at e1; rw [cd] at e2
  have hl : cs.toList.length = 3 := by rw [← ct]; simpa using hsz
  have h0 := cut_list cs.toList 0 1
  have h1 := cut_list cs.toList 1 1
  have h2 := cut_list cs.toList 2 1
  have key : cs.toList = [.int .i64 z, v1, v2] := by
    have h3 : cs.toList.drop 3 = [] := List.drop_of_length_le (by omega)
    rw [List.drop_zero] at h0 e0
    simp only [Nat.zero_add, Nat.reduceAdd] at h0 h1 h2
    rw [h0, e0, h1, e1, h2, e2, h3]; rfl
  rw [← key]
end
end Go.Vc
/- Calls over a memory of which only some blocks are told: more. -/
set_option linter.unusedSimpArgs false
set_option linter.unusedVariables false
namespace Go.Vc
open Go
theorem Ext.le {hp hp2 : List Blk} (e : Ext hp hp2) : hp.length ≤ hp2.length := by obtain ⟨R, rfl⟩ := e; simp
theorem at_lt {hp : List Blk} {h : Nat} {x : Blk} (e : hp[h]? = some x) : h < hp.length := (List.getElem?_eq_some_iff.1 e).1
/-- The parts of a copy, whole. -/
theorem new_own {hp hp2 : List Blk} {N : Nat} {own own' : Bool} {Q : List Prt} (hN : N = hp.length) (e : hp2 = hp ++ (⟨own, ptrV (N + 1) Q⟩ :: partB own' Q)) : ∀ i p, Q[i]? = some p → hp2[N + 1 + i]? = some ⟨own', p.cells⟩ := fun i p hq => by
  have e' : hp2 = (hp ++ [⟨own, ptrV (N + 1) Q⟩]) ++ (partB own' Q ++ []) := by rw [e]; simp
  rw [e']
  exact at_part (by simp [hN]) hq
/-! ### Calls that are handed the whole memory -/
/-- The memory as one that may not be written. -/
def frz (hp : List Blk) : List Blk := hp.map fun b => ⟨false, b.cells⟩
theorem frz_length (hp : List Blk) : (frz hp).length = hp.length := by simp [frz]
theorem frz_get {hp : List Blk} {h : Nat} {b : Blk} (e : hp[h]? = some b) : (frz hp)[h]? = some ⟨false, b.cells⟩ := by simp [frz, e]
theorem bAt.frz {hp : List Blk} {h : Nat} {cs : List V} : bAt hp h cs → bAt (frz hp) h cs
  | ⟨_, X, e⟩ => ⟨false, X, frz_get e⟩
theorem nAt.frz {hp : List Blk} {g b : Nat} {P : List Prt} (h : nAt hp g b P) : nAt (frz hp) g b P := ⟨h.1.frz, fun i p hp => (h.2 i p hp).frz⟩
theorem frz_ok {hp : List Blk} (h : ∀ b ∈ hp, okL hp.length b.cells) : ∀ b ∈ frz hp, okL (frz hp).length b.cells := by
  intro b hb
  simp only [frz, List.mem_map] at hb
  obtain ⟨c, hc, rfl⟩ := hb
  rw [frz_length]; exact h c hc
mutual
theorem inst_id {N : Nat} : ∀ v : V, v.inst (rng 0 N) N = v
  | .c _ => rfl
  | .p h o => by
    rcases Nat.lt_or_ge h N with hh | hh
    · rw [V.inst, rng_get 0 hh]; simp
    · rw [V.inst, List.getElem?_eq_none (by rw [rng_length]; exact hh), rng_length]; simp only [V.p.injEq, and_true]; omega
  | .s h o n m => by
    rcases Nat.lt_or_ge h N with hh | hh
    · rw [V.inst, rng_get 0 hh]; simp
    · rw [V.inst, List.getElem?_eq_none (by rw [rng_length]; exact hh), rng_length]; simp only [V.s.injEq, and_true]; omega
  | .a cs => by rw [V.inst, instL_id cs]
  | .t vs => by rw [V.inst, instL_id vs]
  | .j => rfl
theorem instL_id {N : Nat} : ∀ l : List V, V.instL (rng 0 N) N l = l
  | [] => rfl
  | v :: vs => by rw [V.instL, inst_id v, instL_id vs]
end
theorem inst_blk {N : Nat} (bs : List Blk) : (bs.map fun b => (⟨b.own, V.instL (rng 0 N) N b.cells⟩ : Blk)) = bs := by
  simp only [instL_id]
  exact List.map_id' bs
theorem leArgs_refl : ∀ l : List V, leArgs l l
  | [] => trivial
  | _ :: l => ⟨.inl rfl, leArgs_refl l⟩
theorem segOK_rngB {hp : List Blk} {sub : List (Nat × Nat)} {b : Nat} : ∀ {n : Nat} {L : List Blk}, L.length = n → (∀ i x, L[i]? = some x → x.own = false ∧ b + i < hp.length ∧ (cellsAt hp (b + i)).take x.cells.length = V.instL sub hp.length x.cells) → segOK hp sub (rng b n) L
  | 0, [], _, _ => trivial
  | n + 1, L, hl, hL => by
    have hne : n < L.length := by omega
    have e : L = L.take n ++ [L[n]] := by rw [List.take_append_getElem]; rw [List.take_of_length_le (by omega)]
    have hn := hL n L[n] (List.getElem?_eq_getElem hne)
    rw [e, rng]
    refine segOK_app (segOK_rngB (L := L.take n) (by rw [List.length_take]; omega) fun i p hp => ?_) ⟨⟨hn.1, hn.2.1, by rw [List.drop_zero]; exact hn.2.2⟩, trivial⟩
    have hi := (List.getElem?_eq_some_iff.1 hp).1
    rw [List.length_take] at hi
    refine hL i p ?_
    rw [List.getElem?_take, if_pos (by omega)] at hp
    exact hp
theorem seg_whole (hp : List Blk) : segOK hp (rng 0 hp.length) (rng 0 hp.length) (frz hp) := by
  refine segOK_rngB (frz_length hp) fun i x hx => ?_
  simp only [frz, List.getElem?_map, Option.map_eq_some_iff] at hx
  obtain ⟨b, hb, rfl⟩ := hx
  refine ⟨rfl, by rw [Nat.zero_add]; exact at_lt hb, ?_⟩
  rw [instL_id, Nat.zero_add]
  unfold cellsAt
  rw [hb]
  exact List.take_length
section
variable {X : Cx} {f : FuncId} {args : List V} {d : Option Tmp} {ops : List Oper} {r : R} {tm : List V} {hp : List Blk} {q : K}
theorem kW_ret {α : Type} {G : α → Prop} {S : α → V × List Blk} (h : LC X.P f args (frz hp) (Ret (frz hp) G S)) (hmu : X.mu.contains f = false) (h3 : okL hp.length args) (h4 : ∀ b ∈ hp, okL hp.length b.cells) (h5 : ∀ x, ∀ b ∈ (S x).2, b.own = true ∨ b.cells = [])
    (hk : ∀ x hp2, G x → hp2 = hp ++ (S x).2 → kR X ops r (putV tm d (S x).1) hp2 q) : kCall X f args d ops r tm hp q :=
  kCall_Ret h hmu (rng 0 hp.length) (by rw [instL_id]; exact leArgs_refl _) (seg_whole hp) (by rw [frz_length]; exact h3) (frz_ok h4) h5 fun x hx => by
    rw [inst_id, inst_blk]; exact hk x _ hx rfl
theorem kW_val {v0 : V} (h : LC X.P f args (frz hp) (fun v hp' => v = v0 ∧ hp' = frz hp)) (hmu : X.mu.contains f = false) (h3 : okL hp.length args) (h4 : ∀ b ∈ hp, okL hp.length b.cells)
    (hk : kR X ops r (putV tm d v0) hp q) : kCall X f args d ops r tm hp q :=
  kCall_val h hmu (rng 0 hp.length) (by rw [instL_id]; exact leArgs_refl _) (seg_whole hp) (by rw [frz_length]; exact h3) (frz_ok h4) (by rw [inst_id]; exact hk)
end
mutual
theorem stV_mono {N M : Nat} (h : N ≤ M) : ∀ {v : V}, stV N v → stV M v
  | .c _, _ => trivial
  | .p _ _, hv => Nat.lt_of_lt_of_le hv h
  | .s _ _ _ _, hv => Nat.lt_of_lt_of_le hv h
  | .a _, hv => stL_mono (l := _) h hv
  | .t _, hv => stL_mono (l := _) h hv
  | .j, _ => trivial
theorem stL_mono {N M : Nat} (h : N ≤ M) : ∀ {l : List V}, stL N l → stL M l
  | [], _ => trivial
  | _ :: _, hv => ⟨stV_mono h hv.1, stL_mono h hv.2⟩
end
/-- All handles are right. -/
def stM (hp : List Blk) : Prop := ∀ b ∈ hp, stL hp.length b.cells
theorem stM.ok {hp : List Blk} (h : stM hp) : ∀ b ∈ hp, okL hp.length b.cells := fun b hb => stL_ok (h b hb)
theorem stM.app {hp R : List Blk} (h : stM hp) (hR : ∀ b ∈ R, stL (hp.length + R.length) b.cells) : stM (hp ++ R) := by
  intro b hb
  rw [List.length_append]
  rcases List.mem_append.1 hb with hb | hb
  · exact stL_mono (by omega) (h b hb)
  · exact hR b hb
theorem stM.frz {hp : List Blk} (h : stM hp) : stM (frz hp) := by
  intro b hb
  simp only [Vc.frz, List.mem_map] at hb
  obtain ⟨c, hc, rfl⟩ := hb
  rw [frz_length]; exact h c hc
/-- The end of a contract over any memory. -/
theorem LeS_mem {ha hp : List Blk} {tm tm' : List V} {N : Nat} (hN : ha.length = N) (e : Ext ha hp) (ht : leT tm tm') (hs : stL N tm') (hb : stM ha) : LeS N (List.range N) tm hp tm' ha := by
  subst hN
  exact LeS_ext e rfl (Nat.le_refl _) ht hs hb
/-- A struct of cells, numbers' cells and a nest, handed over. -/
theorem seg_blob {hp : List Blk} {g0 g1 g2 b n : Nat} {P : List Prt} {A C : List V} (hA : bAt hp g0 A) (h : nAt hp g1 b P) (hC : bAt hp g2 C) (hn : P.length = n) (hid : ∀ sub N, ∀ p ∈ P, V.instL sub N p.cells = p.cells) (iA : ∀ sub N, V.instL sub N A = A) (iC : ∀ sub N, V.instL sub N C = C) :
    segOK hp ((g0, 0) :: (g1, 0) :: (g2, 0) :: rng b n) ((g0, 0) :: (g1, 0) :: (g2, 0) :: rng b n) (⟨false, A⟩ :: ⟨false, ptrV 3 P⟩ :: ⟨false, C⟩ :: partB false P) := by
  have c1 := h.1.cells
  rw [ptrV_length] at c1
  refine ⟨⟨rfl, hA.lt, by rw [List.drop_zero, iA]; exact hA.cells⟩, ⟨rfl, h.1.lt, ?_⟩, ⟨rfl, hC.lt, by rw [List.drop_zero, iC]; exact hC.cells⟩, segOK_rng hn fun i p hp => ?_⟩
  · rw [List.drop_zero, ptrV_length, c1, instL_ptrV]
    intro i hi
    rw [Nat.add_comm, List.getElem?_cons_succ, List.getElem?_cons_succ, List.getElem?_cons_succ, rng_get b (by omega)]
  · rw [hid _ _ _ (List.mem_of_getElem? hp)]
    exact ⟨(h.2 i p hp).lt, (h.2 i p hp).cells⟩
section
variable {X : Cx} {f : FuncId} {args : List V} {d : Option Tmp} {ops : List Oper} {r : R} {tm : List V} {hp : List Blk} {q : K}
/-- A value comes back, of which G holds. -/
theorem kW_ex {α : Type} {G : α → Prop} {v : α → V} (h : LC X.P f args (frz hp) (Ret (frz hp) G fun x => (v x, []))) (hmu : X.mu.contains f = false) (h3 : okL hp.length args) (h4 : ∀ b ∈ hp, okL hp.length b.cells)
    (hk : ∀ x, G x → kR X ops r (putV tm d (v x)) hp q) : kCall X f args d ops r tm hp q :=
  kW_ret h hmu h3 h4 (fun _ b hb => by cases hb) fun x hp2 hx e => by
    rw [List.append_nil] at e
    subst e; exact hk x hx
/-- As kA_ret, for a contract whose value is plain. -/
theorem kA_ex {α : Type} {args0 : List V} {ha : List Blk} {G : α → Prop} {v : α → V} (h : LC X.P f args0 ha (Ret ha G fun x => (v x, []))) (hmu : X.mu.contains f = false) (sub : List (Nat × Nat))
    (h1 : leArgs args (V.instL sub hp.length args0)) (h2 : segOK hp sub sub ha) (h3 : okL ha.length args0) (h4 : ∀ b ∈ ha, okL ha.length b.cells)
    (hk : ∀ x, G x → kR X ops r (putV tm d ((v x).inst sub hp.length)) hp q) : kCall X f args d ops r tm hp q :=
  kCall_Ret h hmu sub h1 h2 h3 h4 (fun _ b hb => by cases hb) fun x hx => by
    have := hk x hx
    simpa using this
end
theorem leHp_app {σ : List Nat} {hp : List Blk} : ∀ {gs gs' : List Nat} {A B : List Blk}, leHp σ hp gs A → leHp σ hp gs' B → leHp σ hp (gs ++ gs') (A ++ B)
  | [], _, [], _, _, h => h
  | g :: gs, gs', b :: A, B, h1, h2 => ⟨h1.1, leHp_app h1.2 h2⟩
theorem leHp_parts {σ : List Nat} {hp : List Blk} : ∀ {b : Nat} {P : List Prt}, (∀ i p, P[i]? = some p → hp[b + i]? = some ⟨true, p.cells⟩) → (∀ p ∈ P, V.renL σ p.cells = p.cells) → leHp σ hp (List.range' b P.length) (partB true P)
  | _, [], _, _ => trivial
  | b, p :: P, h, hid => by
    rw [List.length_cons, List.range'_succ]
    refine ⟨.inr ?_, leHp_parts (b := b + 1) (fun i q hq => ?_) fun q hq => hid q (List.mem_cons_of_mem _ hq)⟩
    · have := h 0 p rfl
      rw [Nat.add_zero] at this
      rw [this]
      exact ⟨(hid p List.mem_cons_self).symm, fun _ => rfl⟩
    · have := h (i + 1) q (by simpa using hq)
      rwa [Nat.add_assoc, Nat.add_comm 1 i]
theorem renL_ptrV {σ : List Nat} : ∀ {h b : Nat} {L : List Prt}, (∀ i, i < L.length → σ.getD (h + i) 0 = b + i) → V.renL σ (ptrV h L) = ptrV b L
  | _, _, [], _ => rfl
  | h, b, p :: L, hs => by
    have h0 := hs 0 (by simp)
    simp only [Nat.add_zero] at h0
    rw [ptrV, V.renL, V.ren, h0, ptrV, renL_ptrV (h := h + 1) (b := b + 1) fun i hi => by
      have := hs (i + 1) (by simpa using hi)
      rwa [Nat.add_assoc h 1 i, Nat.add_comm 1 i, Nat.add_assoc b 1 i, Nat.add_comm 1 i]]
theorem bPs_ren {σ : List Nat} {D : List (List UInt8 × Nat)} : ∀ p ∈ bPs D, V.renL σ p.cells = p.cells := by
  intro p hp
  simp only [bPs, List.mem_map] at hp
  obtain ⟨q, _, rfl⟩ := hp
  exact renL_bs _ _
theorem getD_range' {b n i : Nat} (h : i < n) : (List.range' b n).getD i 0 = b + i := by
  rw [List.getD_eq_getElem?_getD, List.getElem?_range' h]; simp
/-- What came in stays; new: some blocks B, whose handles τ are, and the parts of a nest. -/
theorem LeS_new {m N b n : Nat} {tm tm' : List V} {hp H : List Blk} {τ : List Nat} {B : List Blk} {P : List Prt} (hH : H.length = N) (x : Ext H hp) (hst : stM H) (hm : m ≤ N) (hτ : τ.length = B.length) (hnd : τ.Nodup) (hge : ∀ g ∈ τ, N ≤ g ∧ (g < b ∨ b + n ≤ g)) (hb : N ≤ b) (hn : P.length = n)
    (hparts : ∀ i p, P[i]? = some p → hp[b + i]? = some ⟨true, p.cells⟩) (hid : ∀ (σ : List Nat), ∀ p ∈ P, V.renL σ p.cells = p.cells) (hok2 : ∀ M, ∀ p ∈ P, okL M p.cells)
    (ht : leTm (List.range N ++ (τ ++ List.range' b n)) tm tm') (hB : leHp (List.range N ++ (τ ++ List.range' b n)) hp τ B) (hok : okL (N + (τ.length + n)) tm') (hokB : ∀ c ∈ B, okL (N + (τ.length + n)) c.cells) :
    LeS m (List.range N ++ (τ ++ List.range' b n)) tm hp tm' (H ++ (B ++ partB true P)) := by
  obtain ⟨R, eR⟩ := x
  subst hn
  have hlen : (τ ++ List.range' b P.length).length = τ.length + P.length := by simp
  refine LeS_pre (X := R) hH hm eR (List.nodup_append.2 ⟨hnd, List.nodup_range', fun y hy z hz => ?_⟩) (fun g hg => ?_) (by simp [partB_length, hτ]) ht (fun c hc => by have := hst c hc; rwa [hH] at this) (leHp_app hB (leHp_parts hparts fun p hp => hid _ p hp)) (by rw [hlen]; exact hok) (fun c hc => ?_)
  · have h1 := (hge y hy).2
    rw [List.mem_range'_1] at hz
    omega
  · rcases List.mem_append.1 hg with hg | hg
    · exact (hge g hg).1
    · rw [List.mem_range'_1] at hg; omega
  · rw [hlen]
    rcases List.mem_append.1 hc with hc | hc
    · exact hokB c hc
    · simp only [partB, List.mem_map] at hc
      obtain ⟨p, hp, rfl⟩ := hc
      exact hok2 _ p hp
theorem leHp_partsG {σ : List Nat} {hp : List Blk} : ∀ {γ : List Nat} {P : List Prt}, γ.length = P.length → (∀ i p, P[i]? = some p → hp[γ.getD i 0]? = some ⟨true, p.cells⟩) → (∀ p ∈ P, V.renL σ p.cells = p.cells) → leHp σ hp γ (partB true P)
  | [], [], _, _, _ => trivial
  | g :: γ, p :: P, hl, h, hid => by
    refine ⟨.inr ?_, leHp_partsG (by simpa using hl) (fun i q hq => by simpa using h (i + 1) q (by simpa using hq)) fun q hq => hid q (List.mem_cons_of_mem _ hq)⟩
    have := h 0 p rfl
    simp only [List.getD_cons_zero] at this
    rw [this]
    exact ⟨(hid p List.mem_cons_self).symm, fun _ => rfl⟩
  | [], _ :: _, h, _, _ => by simp at h
  | _ :: _, [], h, _, _ => by simp at h
/-- As LeS_new, the parts' handles being any list. -/
theorem LeS_gen {m N : Nat} {tm tm' : List V} {hp H : List Blk} {τ γ : List Nat} {B : List Blk} {P : List Prt} (hH : H.length = N) (x : Ext H hp) (hst : stM H) (hm : m ≤ N) (hτ : τ.length = B.length) (hγ : γ.length = P.length) (hnd : (τ ++ γ).Nodup) (hge : ∀ g ∈ τ ++ γ, N ≤ g)
    (hparts : ∀ i p, P[i]? = some p → hp[γ.getD i 0]? = some ⟨true, p.cells⟩) (hid : ∀ (σ : List Nat), ∀ p ∈ P, V.renL σ p.cells = p.cells) (hok2 : ∀ M, ∀ p ∈ P, okL M p.cells)
    (ht : leTm (List.range N ++ (τ ++ γ)) tm tm') (hB : leHp (List.range N ++ (τ ++ γ)) hp τ B) (hok : okL (N + (τ.length + P.length)) tm') (hokB : ∀ c ∈ B, okL (N + (τ.length + P.length)) c.cells) :
    LeS m (List.range N ++ (τ ++ γ)) tm hp tm' (H ++ (B ++ partB true P)) := by
  obtain ⟨R, eR⟩ := x
  have hlen : (τ ++ γ).length = τ.length + P.length := by rw [List.length_append, hγ]
  refine LeS_pre (X := R) hH hm eR hnd hge (by rw [List.length_append, List.length_append, partB_length, hτ, hγ]) ht (fun c hc => by have := hst c hc; rwa [hH] at this) (leHp_app hB (leHp_partsG hγ hparts fun p hp => hid _ p hp)) (by rw [hlen]; exact hok) (fun c hc => ?_)
  rw [hlen]
  rcases List.mem_append.1 hc with hc | hc
  · exact hokB c hc
  · simp only [partB, List.mem_map] at hc
    obtain ⟨p, hp, rfl⟩ := hc
    exact hok2 _ p hp
end Go.Vc

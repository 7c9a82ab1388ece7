import Derived.Test.YtpapocmoielldaaVcgO
import Derived.WalkKit
import Derived.ProofKit
import Derived.OpenShut
import Derived.ShutString
import Derived.ChangeOld
import Derived.Below
/- From a function's contract to a row of the joined form. -/
set_option linter.unusedSimpArgs false
set_option linter.unusedVariables false
namespace Go.Vc
open Go Go.RowKit Go.ChangeShapes Go.WideShapes Go.ChangeAt

/-- A law that returns true over memory that it only reads. -/
theorem LC_row {P : Program} {f : FuncId} {args0 : List V} {ha : List Blk} (h : LC P f args0 ha (fun v _ => v = .c (.bool true))) (hro : ∀ b ∈ ha, b.own = false) (hok : okL ha.length args0) (hokb : ∀ b ∈ ha, okL ha.length b.cells)
    {w : World} {ρ : Loc} {xs : List Value} (hcell : ∀ h b, ha[h]? = some b → ∀ j v, b.cells[j]? = some v → ∃ x, w.cell? ⟨(ρ h).1, (ρ h).2 + j, none⟩ = some x ∧ x.oneCell' = true ∧ rel ρ v x) (hrel : relL ρ args0 xs) :
    Calls P f xs.toArray w fun e w' => e = .returned (.bool true) ∧ Below w.heap.size w w' := by
  have hno : ∀ {h : Nat} {b : Blk}, ha[h]? = some b → b.own = true → False := fun hb ho => by
    rw [hro _ (List.mem_of_getElem? hb)] at ho; cases ho
  have hm : ∀ k, ¬ modOf ha ρ k := fun k hk => by
    obtain ⟨h, b, hb, ho, _⟩ := hk
    exact hno hb ho
  refine (h.2 w ρ xs ⟨Keep.refl _ _, hokb, hcell, fun h b hb ho _ => (hno hb ho).elim, fun h b h' b' hb _ _ ho _ _ => (hno hb ho).elim⟩ hrel hok).mono fun e w' hR => ?_
  obtain ⟨v, hp', ρ', x, rfl, rfl, hd, _, _, hv, _⟩ := hR
  unfold rel at hv
  subst hv
  exact ⟨rfl, (hd.keep.mono fun k hk => (hm k hk).elim : Keep none' w w').below⟩

/-! ### Opening arguments -/
section
variable {H : Type} {enc : TypeId × Value → H} {P : Program} {w : World} {base : Nat} {spare : Nat → Bool} {held : Bool}

def u8v (u : UInt8) : Value := .int .u8 (u.toNat : Int)

theorem u8_of_wf {n : Int} (h : (Lit.int .u8 n).wf = true) : ∃ u : UInt8, n = (u.toNat : Int) := by
  simp only [Lit.wf, Bool.and_eq_true, decide_eq_true_eq] at h
  simp [IntKind.min, IntKind.max, IntKind.signed, IntKind.bits] at h
  exact ⟨UInt8.ofInt n, by rw [toNat_ofInt]; omega⟩

theorem u8s_of_wf : ∀ {zs : List Int}, (∀ n ∈ zs, (Lit.int .u8 n).wf = true) → ∃ l : List UInt8, l.length = zs.length ∧ zs = l.map fun u => (u.toNat : Int)
  | [], _ => ⟨[], rfl, rfl⟩
  | z :: zs, h => by
    obtain ⟨u, hu⟩ := u8_of_wf (h z (by simp))
    obtain ⟨l, h1, h2⟩ := u8s_of_wf (zs := zs) (fun n hn => h n (by simp [hn]))
    exact ⟨u :: l, by simp [h1], by simp [hu, ← h2]⟩

theorem rel_bs {ρ : Loc} : ∀ (l : List UInt8), relL ρ (bs l) (l.map u8v)
  | [] => by simp [bs, relL]
  | u :: l => by
    have := rel_bs (ρ := ρ) l
    simp only [bs, List.map_cons, relL] at this ⊢
    exact ⟨_, _, rfl, by unfold bv rel; rfl, this⟩

theorem bytes_of_each : ∀ (L : List Value), (∀ i, i < L.length → ∃ u : UInt8, L[i]? = some (u8v u)) → ∃ l : List UInt8, L = l.map u8v
  | [], _ => ⟨[], rfl⟩
  | x :: L, h => by
    obtain ⟨u, hu⟩ := h 0 (by simp)
    obtain ⟨l, hl⟩ := bytes_of_each L (fun i hi => by simpa using h (i + 1) (by simpa using hi))
    simp at hu
    exact ⟨u :: l, by simp [hu, hl]⟩

/-- An array of bytes. -/
theorem open_bytesA {n : Nat} {t e : TypeId} {r : Reach} {b0 : Nat} {v : Value} {d : DataW H} {ps : List MemPlace} (ht : P.underlying t = some (.array n e)) (he : P.underlying e = some (.int .u8)) (hce : P.cellsOf e = 1) (hct : P.cellsOf t = n)
    (hv : Value.okWide P w r b0 t v) (h : DataW.Trod enc P w base spare held t v d ps) : ∃ l : List UInt8, l.length = n ∧ v = .agg (l.map u8v).toArray := by
  unfold Value.okWide at hv
  rw [ht] at hv
  obtain ⟨cs, rfl, hsz, _⟩ := hv
  obtain ⟨fuel, hf⟩ := h
  obtain ⟨xs, m, _, _, hlen, hxl, hx⟩ := DataW.trod_array ht hf
  have hcl : (Value.agg cs).cells.toList.length = n := by rw [← hct]; simpa using hlen
  have hcs : (Value.agg cs).cells = cs := rfl
  rw [hcs] at hcl hx
  have each : ∀ i, i < n → ∃ u : UInt8, cs.toList[i]? = some (u8v u) := fun i hi => by
    have h1 := hx i hi
    rw [hce] at h1
    have h2 : xs[i]? = some xs[i] := List.getElem?_eq_getElem (by omega)
    rw [h2] at h1
    obtain ⟨z, e1, e2, e3⟩ := DataW.trod_int he h1
    obtain ⟨u, rfl⟩ := u8_of_wf e3
    refine ⟨u, ?_⟩
    have h3 : ((cs.toList.drop (i * 1)).take 1)[0]? = some (u8v u) := by rw [e1]; rfl
    simpa using h3
  obtain ⟨l, hl⟩ := bytes_of_each cs.toList (fun i hi => each i (by omega))
  refine ⟨l, by rw [← hcl, hl]; simp, ?_⟩
  rw [← hl]
/-- What a slice of bytes that came in leads to. -/
def IsBytes (w : World) (v : Value) (ρ0 : Nat × Nat) (n c : Nat) (l : List UInt8) : Prop :=
  l.length = n ∧ n ≤ c ∧ c ≤ maxLen ∧ rel (fun _ => ρ0) (.s 0 0 n c) v ∧ ∀ i, i < l.length → w.cell? ⟨ρ0.1, ρ0.2 + i, none⟩ = some (u8v (l.getD i 0))

theorem open_bytesS {t e : TypeId} {r : Reach} {b0 : Nat} {v : Value} {d : DataW H} {ps : List MemPlace} (ht : P.underlying t = some (.slice e)) (he : P.underlying e = some (.int .u8)) (hce : P.cellsOf e = 1)
    (hv : Value.okWide P w r b0 t v) (h : DataW.Trod enc P w base (fun _ => true) held t v d ps) : ∃ ρ0 n c l, IsBytes w v ρ0 n c l := by
  obtain ⟨a, len, cap, rfl⟩ := okWide_slice ht hv
  obtain ⟨fuel, hf⟩ := h
  rcases open_ints ht he hce hf with ⟨hcs, _⟩ | ⟨x, l, c, zs, hcs, _, hl, hm, hz, _, hcell, hwz⟩
  · simp [Value.cells] at hcs
    obtain ⟨rfl, rfl, rfl⟩ := hcs
    refine ⟨(0, 0), 0, 0, [], rfl, Nat.le_refl _, Nat.zero_le _, ?_, fun i hi => by simp at hi⟩
    unfold rel
    exact ⟨Nat.le_refl _, none, rfl, fun h => absurd h (by omega)⟩
  · simp [Value.cells] at hcs
    obtain ⟨rfl, rfl, rfl⟩ := hcs
    simp only [if_true] at hz
    obtain ⟨us, h1, rfl⟩ := u8s_of_wf hwz
    rw [List.length_map] at hz hcell
    have hz' : us.length = cap := hz
    have spot : 0 < cap → x = ⟨x.block, x.off, none⟩ := fun hc => by
      have := hcell 0 (by omega)
      simp only [Addr.add, if_true] at this
      unfold World.cell? at this
      split at this
      · cases hs : x.spot with
        | none => obtain ⟨b, o, sp⟩ := x; simp only at hs; subst hs; rfl
        | some s => simp [hs] at this
      · cases this
    refine ⟨(x.block, x.off), len, cap, us.take len, by simp; omega, hl, hm, ?_, fun i hi => ?_⟩
    · unfold rel
      exact ⟨hl, some x, rfl, fun hc => by rw [spot hc]; rfl⟩
    · have hi' : i < len ∧ i < us.length := by rw [List.length_take] at hi; omega
      have h2 := hcell i hi'.2
      have h3 : x.add i = ⟨x.block, x.off + i, none⟩ := by
        rw [spot (by omega)]
        unfold Addr.add
        split
        · rename_i h0; subst h0; rfl
        · rfl
      rw [h3] at h2
      rw [h2]
      simp [List.getD, hi'.1, hi'.2, u8v]
theorem cell_bs {ρ : Loc} {b o : Nat} {l : List UInt8} (hI : ∀ i, i < l.length → w.cell? ⟨b, o + i, none⟩ = some (u8v (l.getD i 0))) (j : Nat) (v : V) (hv : (bs l)[j]? = some v) :
    ∃ x, w.cell? ⟨b, o + j, none⟩ = some x ∧ x.oneCell' = true ∧ rel ρ v x := by
  have hj : j < l.length := by have := (List.getElem?_eq_some_iff.1 hv).1; rwa [bs_length] at this
  refine ⟨_, hI j hj, rfl, ?_⟩
  have e : v = bv (l.getD j 0) := by
    simp only [bs, List.getElem?_map, List.getElem?_eq_getElem hj, Option.map_some, Option.some.injEq] at hv
    rw [← hv]; simp [List.getD, hj]
  rw [e]
  unfold bv rel
  rfl
end
end Go.Vc
/- Slices of arrays of bytes, as they come in. -/
set_option linter.unusedSimpArgs false
set_option linter.unusedVariables false
namespace Go.Vc
open Go Go.RowKit Go.ChangeShapes Go.WideShapes Go.ChangeAt
section
variable {H : Type} {enc : TypeId × Value → H} {P : Program} {w : World} {base : Nat} {spare : Nat → Bool} {held : Bool}
/-- What a slice of arrays of bytes that came in leads to. -/
def IsRows (k : Nat) (w : World) (v : Value) (ρ0 : Nat × Nat) (n c : Nat) (l : List UInt8) : Prop :=
  l.length = k * n ∧ n ≤ c ∧ c ≤ maxLen ∧ rel (fun _ => ρ0) (.s 0 0 n c) v ∧ ∀ i, i < l.length → w.cell? ⟨ρ0.1, ρ0.2 + i, none⟩ = some (u8v (l.getD i 0))
theorem array_cells {n : Nat} {t e : TypeId} {fuel : Nat} {cs : List Value} {x : DataW H × List MemPlace} (ht : P.underlying t = some (.array n e)) (he : P.underlying e = some (.int .u8)) (hce : P.cellsOf e = 1)
    (h : DataW.trod enc P w base spare held fuel t cs = some x) (i : Nat) (hi : i < n) : ∃ u : UInt8, cs[i]? = some (u8v u) := by
  obtain ⟨xs, m, _, _, hlen, hxl, hx⟩ := DataW.trod_array ht h
  have h1 := hx i hi
  rw [hce] at h1
  have h2 : xs[i]? = some xs[i] := List.getElem?_eq_getElem (by omega)
  rw [h2] at h1
  obtain ⟨z, e1, e2, e3⟩ := DataW.trod_int he h1
  obtain ⟨u, rfl⟩ := u8_of_wf e3
  refine ⟨u, ?_⟩
  have h3 : ((cs.drop (i * 1)).take 1)[0]? = some (u8v u) := by rw [e1]; rfl
  simpa using h3
theorem open_arraysS {t e b : TypeId} {k : Nat} {r : Reach} {b0 : Nat} {v : Value} {d : DataW H} {ps : List MemPlace} (ht : P.underlying t = some (.slice e)) (he : P.underlying e = some (.array k b)) (hb : P.underlying b = some (.int .u8)) (hce : P.cellsOf e = k) (hcb : P.cellsOf b = 1) (hk : 0 < k)
    (hv : Value.okWide P w r b0 t v) (h : DataW.Trod enc P w base (fun _ => true) held t v d ps) : ∃ ρ0 n c l, IsRows k w v ρ0 n c l := by
  obtain ⟨a, len, cap, rfl⟩ := okWide_slice ht hv
  obtain ⟨fuel, hf⟩ := h
  rcases DataW.trod_slice ht hf with ⟨hcs, _⟩ | ⟨x, l, c, elems, rest, n, _, hcs, _, _, hl, hm, hlen, hel, hsp, _⟩
  · simp [Value.cells] at hcs
    obtain ⟨rfl, rfl, rfl⟩ := hcs
    refine ⟨(0, 0), 0, 0, [], rfl, Nat.le_refl _, Nat.zero_le _, ?_, fun i hi => by simp at hi⟩
    unfold rel
    exact ⟨Nat.le_refl _, none, rfl, fun h => absurd h (by omega)⟩
  · simp [Value.cells] at hcs
    obtain ⟨rfl, rfl, rfl⟩ := hcs
    obtain ⟨hrl, hr⟩ := hsp rfl
    have each : ∀ i, i < cap → ∃ y, (w.cells? base (x.add (i * P.cellsOf e)) (P.cellsOf e)).bind (DataW.trod enc P w base (fun _ => true) held n e) = some y := by
      intro i hi
      by_cases h1 : i < len
      · rw [hel i h1]
        exact ⟨_, List.getElem?_eq_getElem (by omega)⟩
      · have := hr (i - len) (by omega)
        rw [show len + (i - len) = i by omega] at this
        rw [this]
        exact ⟨_, List.getElem?_eq_getElem (by omega)⟩
    have cell : ∀ i, i < k * cap → ∃ u : UInt8, w.cell? (x.add i) = some (u8v u) := by
      intro i hi
      obtain ⟨y, hy⟩ := each (i / k) (Nat.div_lt_of_lt_mul hi)
      rw [hce, Option.bind_eq_some_iff] at hy
      obtain ⟨cs, h1, h2⟩ := hy
      obtain ⟨_, _, h3⟩ := World.cells?_some h1
      obtain ⟨u, hu⟩ := array_cells he hb hcb h2 (i % k) (Nat.mod_lt _ hk)
      refine ⟨u, ?_⟩
      have h4 := h3 (i % k) (Nat.mod_lt _ hk)
      rw [Addr.add_add, Nat.mul_comm, Nat.div_add_mod] at h4
      rw [h4, hu]
    have spot : 0 < cap → x = ⟨x.block, x.off, none⟩ := fun hc => by
      obtain ⟨u, this⟩ := cell 0 (Nat.mul_pos hk hc)
      simp only [Addr.add, if_true] at this
      unfold World.cell? at this
      split at this
      · cases hs : x.spot with
        | none => obtain ⟨b, o, sp⟩ := x; simp only at hs; subst hs; rfl
        | some s => simp [hs] at this
      · cases this
    have hle : k * len ≤ k * cap := Nat.mul_le_mul_left k hl
    let f : Nat → UInt8 := fun i => if h : i < k * cap then Classical.choose (cell i h) else 0
    refine ⟨(x.block, x.off), len, cap, (List.range (k * len)).map f, by simp, hl, hm, ?_, fun i hi => ?_⟩
    · unfold rel
      exact ⟨hl, some x, rfl, fun hc => by rw [spot hc]; rfl⟩
    · have hi' : i < k * len := by simpa using hi
      have hi2 : i < k * cap := by omega
      have hc : 0 < cap := by
        rcases Nat.eq_zero_or_pos cap with h0 | h0
        · rw [h0, Nat.mul_zero] at hi2; omega
        · exact h0
      have h2 : w.cell? (x.add i) = some (u8v (f i)) := by simp only [f, hi2, dif_pos]; exact Classical.choose_spec (cell i hi2)
      have h3 : x.add i = ⟨x.block, x.off + i, none⟩ := by
        rw [spot hc]
        unfold Addr.add
        split
        · rename_i h0; subst h0; rfl
        · rfl
      rw [h3] at h2
      have h4 : ((List.range (k * len)).map f).getD i 0 = f i := by simp [List.getD, hi']
      rw [h4, ← h2]
/-! ### Structs of numbers and arrays of bytes -/
theorem struct_part {t : TypeId} {fs : Array Field} {fuel : Nat} {cs : List Value} {x : DataW H × List MemPlace} (ht : P.underlying t = some (.struct fs)) (h : DataW.trod enc P w base spare held fuel t cs = some x) {i : Nat} {f : Field} (hf : fs[i]? = some f) :
    cs.length = P.cellsOf t ∧ ∃ n y, DataW.trod enc P w base spare held n f.type ((cs.drop f.offset).take (P.cellsOf f.type)) = some y := by
  obtain ⟨xs, n, _, _, hl, hlen, hx⟩ := DataW.trod_struct ht h
  have hi : i < fs.size := (Array.getElem?_eq_some_iff.1 hf).1
  exact ⟨hl, n, _, (hx i f hf).trans (List.getElem?_eq_getElem (by omega))⟩
theorem int_part {t : TypeId} {k : IntKind} {fuel : Nat} {cs : List Value} {x : DataW H × List MemPlace} (ht : P.underlying t = some (.int k)) (h : DataW.trod enc P w base spare held fuel t cs = some x) :
    ∃ z, cs = [.int k z] ∧ (Lit.int k z).wf = true := by
  obtain ⟨z, e1, _, e3⟩ := DataW.trod_int ht h
  exact ⟨z, e1, e3⟩
theorem bytes_part {n : Nat} {t e : TypeId} {fuel : Nat} {cs : List Value} {x : DataW H × List MemPlace} (ht : P.underlying t = some (.array n e)) (he : P.underlying e = some (.int .u8)) (hce : P.cellsOf e = 1) (hct : P.cellsOf t = n)
    (h : DataW.trod enc P w base spare held fuel t cs = some x) : ∃ l : List UInt8, l.length = n ∧ cs = l.map u8v := by
  obtain ⟨xs, m, _, _, hlen, _, _⟩ := DataW.trod_array ht h
  obtain ⟨l, hl⟩ := bytes_of_each cs (fun i hi => array_cells ht he hce h i (by omega))
  refine ⟨l, ?_, hl⟩
  have := congrArg List.length hl
  rw [List.length_map] at this
  omega
theorem rows_part {m n : Nat} {t r e : TypeId} {fuel : Nat} {cs : List Value} {x : DataW H × List MemPlace} (ht : P.underlying t = some (.array m r)) (hr : P.underlying r = some (.array n e)) (he : P.underlying e = some (.int .u8)) (hce : P.cellsOf e = 1) (hcr : P.cellsOf r = n) (hct : P.cellsOf t = m * n) (hn : 0 < n)
    (h : DataW.trod enc P w base spare held fuel t cs = some x) : ∃ l : List UInt8, l.length = m * n ∧ cs = l.map u8v := by
  obtain ⟨xs, k, _, _, hlen, hxl, hx⟩ := DataW.trod_array ht h
  obtain ⟨l, hl⟩ := bytes_of_each cs (fun i hi => by
    have hi' : i < m * n := by omega
    have hm : i / n < m := Nat.div_lt_of_lt_mul (by rw [Nat.mul_comm]; exact hi')
    have h1 := hx (i / n) hm
    rw [hcr, List.getElem?_eq_getElem (show i / n < xs.length by omega)] at h1
    obtain ⟨u, hu⟩ := array_cells hr he hce h1 (i % n) (Nat.mod_lt _ hn)
    refine ⟨u, ?_⟩
    rw [List.getElem?_take, if_pos (Nat.mod_lt _ hn), List.getElem?_drop, Nat.mul_comm, Nat.div_add_mod] at hu
    exact hu)
  refine ⟨l, ?_, hl⟩
  have := congrArg List.length hl
  rw [List.length_map] at this
  omega
theorem cut_list {α : Type} (l : List α) (a b : Nat) : l.drop a = (l.drop a).take b ++ l.drop (a + b) := by
  rw [← List.drop_drop, List.take_append_drop]
/-- A cipher as it comes in: number, 256 bytes, four rows of four, 16 bytes, number. -/
theorem open_cip {t tb tm tr tp ti u8 : TypeId} {fs : Array Field} {r : Reach} {b0 : Nat} {v : Value} {d : DataW H} {ps : List MemPlace} (ht : P.underlying t = some (.struct fs))
    (f0 : fs[0]?.map (fun f => (f.type, f.offset)) = some (ti, 0)) (f1 : fs[1]?.map (fun f => (f.type, f.offset)) = some (tb, 1)) (f2 : fs[2]?.map (fun f => (f.type, f.offset)) = some (tm, 257)) (f3 : fs[3]?.map (fun f => (f.type, f.offset)) = some (tp, 273)) (f4 : fs[4]?.map (fun f => (f.type, f.offset)) = some (ti, 289))
    (hti : P.underlying ti = some (.int .i64)) (htb : P.underlying tb = some (.array 256 u8)) (htm : P.underlying tm = some (.array 4 tr)) (htr : P.underlying tr = some (.array 4 u8)) (htp : P.underlying tp = some (.array 16 u8)) (hu8 : P.underlying u8 = some (.int .u8))
    (ct : P.cellsOf t = 290) (ci : P.cellsOf ti = 1) (cb : P.cellsOf tb = 256) (cm : P.cellsOf tm = 16) (cr : P.cellsOf tr = 4) (cp : P.cellsOf tp = 16) (cu : P.cellsOf u8 = 1)
    (hv : Value.okWide P w r b0 t v) (h : DataW.Trod enc P w base spare held t v d ps) :
    ∃ (z : Int) (box mix pl : List UInt8) (n : Int), (Lit.int .i64 z).wf = true ∧ box.length = 256 ∧ mix.length = 16 ∧ pl.length = 16 ∧ (Lit.int .i64 n).wf = true ∧
      v = .agg (.int .i64 z :: (box.map u8v ++ (mix.map u8v ++ (pl.map u8v ++ [.int .i64 n])))).toArray := by
  obtain ⟨cs, rfl, hsz⟩ := okWide_struct ht hv
  obtain ⟨fuel, hf⟩ := h
  have part : ∀ {i : Nat} {tt : TypeId} {off : Nat}, fs[i]?.map (fun f => (f.type, f.offset)) = some (tt, off) → ∃ n y, DataW.trod enc P w base spare held n tt ((cs.toList.drop off).take (P.cellsOf tt)) = some y := by
    intro i tt off hi
    rw [Option.map_eq_some_iff] at hi
    obtain ⟨f, hf1, hf2⟩ := hi
    cases hf2
    exact (struct_part ht hf hf1).2
  obtain ⟨_, _, p0⟩ := part f0
  obtain ⟨_, _, p1⟩ := part f1
  obtain ⟨_, _, p2⟩ := part f2
  obtain ⟨_, _, p3⟩ := part f3
  obtain ⟨_, _, p4⟩ := part f4
  obtain ⟨z, e0, w0⟩ := int_part hti p0
  obtain ⟨box, l1, e1⟩ := bytes_part htb hu8 cu cb p1
  obtain ⟨mix, l2, e2⟩ := rows_part htm htr hu8 cu cr (by rw [cm]) (by omega) p2
  obtain ⟨pl, l3, e3⟩ := bytes_part htp hu8 cu cp p3
  obtain ⟨n, e4, w4⟩ := int_part hti p4
  rw [ci] at e0 e4; rw [cb] at e1; rw [cm] at e2; rw [cp] at e3
  refine ⟨z, box, mix, pl, n, w0, l1, l2, l3, w4, ?_⟩
  have hl : cs.toList.length = 290 := by rw [← ct]; simpa using hsz
  have key : cs.toList = .int .i64 z :: (box.map u8v ++ (mix.map u8v ++ (pl.map u8v ++ [.int .i64 n]))) := by
    have h0 := cut_list cs.toList 0 1
    have h1 := cut_list cs.toList 1 256
    have h2 := cut_list cs.toList 257 16
    have h3 := cut_list cs.toList 273 16
    have h4 : cs.toList.drop 289 = (cs.toList.drop 289).take 1 := by rw [List.take_of_length_le]; rw [List.length_drop]; omega
    rw [List.drop_zero] at h0 e0
    rw [e0] at h0; rw [e1] at h1; rw [e2] at h2; rw [e3] at h3; rw [e4] at h4
    rw [h0, h1, h2, h3, h4]; rfl
  rw [← key]
/-- A network as it comes in: number, 256 bytes, four rows of four, two numbers. -/
theorem open_net {t tb tm tr ti u8 : TypeId} {fs : Array Field} {r : Reach} {b0 : Nat} {v : Value} {d : DataW H} {ps : List MemPlace} (ht : P.underlying t = some (.struct fs))
    (f0 : fs[0]?.map (fun f => (f.type, f.offset)) = some (ti, 0)) (f1 : fs[1]?.map (fun f => (f.type, f.offset)) = some (tb, 1)) (f2 : fs[2]?.map (fun f => (f.type, f.offset)) = some (tm, 257)) (f3 : fs[3]?.map (fun f => (f.type, f.offset)) = some (ti, 273)) (f4 : fs[4]?.map (fun f => (f.type, f.offset)) = some (ti, 274))
    (hti : P.underlying ti = some (.int .i64)) (htb : P.underlying tb = some (.array 256 u8)) (htm : P.underlying tm = some (.array 4 tr)) (htr : P.underlying tr = some (.array 4 u8)) (hu8 : P.underlying u8 = some (.int .u8))
    (ct : P.cellsOf t = 275) (ci : P.cellsOf ti = 1) (cb : P.cellsOf tb = 256) (cm : P.cellsOf tm = 16) (cr : P.cellsOf tr = 4) (cu : P.cellsOf u8 = 1)
    (hv : Value.okWide P w r b0 t v) (h : DataW.Trod enc P w base spare held t v d ps) :
    ∃ (z : Int) (box mix : List UInt8) (k n : Int), (Lit.int .i64 z).wf = true ∧ box.length = 256 ∧ mix.length = 16 ∧ (Lit.int .i64 k).wf = true ∧ (Lit.int .i64 n).wf = true ∧
      v = .agg (.int .i64 z :: (box.map u8v ++ (mix.map u8v ++ [.int .i64 k, .int .i64 n]))).toArray := by
  obtain ⟨cs, rfl, hsz⟩ := okWide_struct ht hv
  obtain ⟨fuel, hf⟩ := h
  have part : ∀ {i : Nat} {tt : TypeId} {off : Nat}, fs[i]?.map (fun f => (f.type, f.offset)) = some (tt, off) → ∃ n y, DataW.trod enc P w base spare held n tt ((cs.toList.drop off).take (P.cellsOf tt)) = some y := by
    intro i tt off hi
    rw [Option.map_eq_some_iff] at hi
    obtain ⟨f, hf1, hf2⟩ := hi
    cases hf2
    exact (struct_part ht hf hf1).2
  obtain ⟨_, _, p0⟩ := part f0
  obtain ⟨_, _, p1⟩ := part f1
  obtain ⟨_, _, p2⟩ := part f2
  obtain ⟨_, _, p3⟩ := part f3
  obtain ⟨_, _, p4⟩ := part f4
  obtain ⟨z, e0, w0⟩ := int_part hti p0
  obtain ⟨box, l1, e1⟩ := bytes_part htb hu8 cu cb p1
  obtain ⟨mix, l2, e2⟩ := rows_part htm htr hu8 cu cr (by rw [cm]) (by omega) p2
  obtain ⟨k, e3, w3⟩ := int_part hti p3
  obtain ⟨n, e4, w4⟩ := int_part hti p4
  rw [ci] at e0 e3 e4; rw [cb] at e1; rw [cm] at e2
  refine ⟨z, box, mix, k, n, w0, l1, l2, w3, w4, ?_⟩
  have hl : cs.toList.length = 275 := by rw [← ct]; simpa using hsz
  have key : cs.toList = .int .i64 z :: (box.map u8v ++ (mix.map u8v ++ [.int .i64 k, .int .i64 n])) := by
    have h0 := cut_list cs.toList 0 1
    have h1 := cut_list cs.toList 1 256
    have h2 := cut_list cs.toList 257 16
    have h3 := cut_list cs.toList 273 1
    have h4 : cs.toList.drop 274 = (cs.toList.drop 274).take 1 := by rw [List.take_of_length_le]; rw [List.length_drop]; omega
    rw [List.drop_zero] at h0 e0
    rw [e0] at h0; rw [e1] at h1; rw [e2] at h2; rw [e3] at h3; rw [e4] at h4
    rw [h0, h1, h2, h3, h4]; rfl
  rw [← key]
/-- The cells of such structs. -/
theorem rel_cip {ρ : Loc} (z n : Int) (box mix pl : List UInt8) : rel ρ (.a (.c (.int .i64 z) :: (bs box ++ (bs mix ++ (bs pl ++ [.c (.int .i64 n)]))))) (.agg (.int .i64 z :: (box.map u8v ++ (mix.map u8v ++ (pl.map u8v ++ [.int .i64 n])))).toArray) := by
  unfold rel
  refine ⟨_, rfl, ?_, ?_⟩
  · unfold relL
    refine ⟨_, _, rfl, by unfold rel; rfl, relL_append (rel_bs _) (relL_append (rel_bs _) (relL_append (rel_bs _) ?_))⟩
    unfold relL
    exact ⟨_, _, rfl, by unfold rel; rfl, by simp [relL]⟩
  · simp only [List.mem_cons, List.mem_append, List.mem_map, List.not_mem_nil, or_false]
    rintro x (rfl | ⟨_, _, rfl⟩ | ⟨_, _, rfl⟩ | ⟨_, _, rfl⟩ | rfl) <;> rfl
theorem rel_net {ρ : Loc} (z k n : Int) (box mix : List UInt8) : rel ρ (.a (.c (.int .i64 z) :: (bs box ++ (bs mix ++ [.c (.int .i64 k), .c (.int .i64 n)])))) (.agg (.int .i64 z :: (box.map u8v ++ (mix.map u8v ++ [.int .i64 k, .int .i64 n]))).toArray) := by
  unfold rel
  refine ⟨_, rfl, ?_, ?_⟩
  · unfold relL
    refine ⟨_, _, rfl, by unfold rel; rfl, relL_append (rel_bs _) (relL_append (rel_bs _) ?_)⟩
    unfold relL
    refine ⟨_, _, rfl, by unfold rel; rfl, ?_⟩
    unfold relL
    exact ⟨_, _, rfl, by unfold rel; rfl, by simp [relL]⟩
  · simp only [List.mem_cons, List.mem_append, List.mem_map, List.not_mem_nil, or_false]
    rintro x (rfl | ⟨_, _, rfl⟩ | ⟨_, _, rfl⟩ | rfl | rfl) <;> rfl
end
end Go.Vc

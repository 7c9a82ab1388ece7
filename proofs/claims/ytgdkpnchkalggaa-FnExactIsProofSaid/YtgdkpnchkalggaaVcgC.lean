/- The verification conditions of the operations that leave the world as it is: each is sound. -/
import Derived.Test.YtgdkpnchkalggaaVcgB
set_option linter.unusedSimpArgs false
set_option linter.unusedVariables false
namespace Go.Vc
open Go

structure EnvOK (P : Program) (E : Env) : Prop where
  und : ∀ {t d}, E t = some d → P.underlying t = some d.und
  info : ∀ {t d}, E t = some d → ∃ i z, P.info? t = some i ∧ i.size = d.size ∧ i.bytes = d.bytes ∧ i.zero = some z ∧ z.cells.toList.map V.c = d.zero ∧
    (∀ c ∈ z.cells.toList, c.oneCell' = true) ∧ d.zero.length = d.size
  eqg : ∀ {t d}, E t = some d → P.eqGuardType P.depth t = d.eqg
  mixed : P.follows .mixedOrders = true

section
variable {P : Program} {E : Env} {t : TypeId} {d : TD} {M : Nat → Prop} {w0 w : World} {ρ : Loc} {hp : List Blk}

theorem EnvOK.run_und (hE : EnvOK P E) (h : E t = some d) (w : World) : (underlying t).run P w = .ok d.und w := run_underlying (hE.und h) w
theorem EnvOK.run_size (hE : EnvOK P E) (h : E t = some d) (w : World) : (sizeOf t).run P w = .ok d.size w := by
  obtain ⟨i, z, hi, hs, _⟩ := hE.info h
  simp [sizeOf, typeInfo, hi, hs]
theorem EnvOK.run_isAgg (hE : EnvOK P E) (h : E t = some d) (w : World) : (isAgg t).run P w = .ok (isAggD d.und) w := by
  unfold isAgg
  rw [Sem.run_bind, hE.run_und h w]
  cases hd : d.und <;> simp [isAggD]
theorem EnvOK.zero (hE : EnvOK P E) (h : E t = some d) : ∃ z : Value, (∀ w, (zeroValue t).run P w = .ok z w) ∧ z.cells.toList.map V.c = d.zero ∧ (∀ c ∈ z.cells.toList, c.oneCell' = true) ∧ d.zero.length = d.size ∧ z.cells.size = d.size := by
  obtain ⟨i, z, hi, hs, _, hz, h1, h2, h3⟩ := hE.info h
  refine ⟨z, fun w => by simp [zeroValue, typeInfo, hi, hz], h1, h2, h3, ?_⟩
  rw [← h3, ← h1]; simp

theorem relL_of_c : ∀ (l : List Value), relL ρ (l.map V.c) l
  | [] => by simp [relL]
  | a :: l => by
    simp only [List.map_cons]
    unfold relL
    exact ⟨_, _, rfl, rfl, relL_of_c l⟩

theorem okL_of_c : ∀ {N : Nat} (l : List Value), okL N (l.map V.c)
  | _, [] => by simp [okL]
  | _, _ :: l => by simp only [List.map_cons, okL]; exact ⟨trivial, okL_of_c l⟩

theorem okL_get {N : Nat} {l : List V} (h : okL N l) {i : Nat} {v : V} (hv : l[i]? = some v) : okV N v := okL_iff.1 h v (List.mem_of_getElem? hv)
theorem okL_take {N : Nat} {l : List V} (h : okL N l) (n : Nat) : okL N (l.take n) := okL_iff.2 fun v hv => okL_iff.1 h v (List.mem_of_mem_take hv)
theorem okL_drop {N : Nat} {l : List V} (h : okL N l) (n : Nat) : okL N (l.drop n) := okL_iff.2 fun v hv => okL_iff.1 h v (List.mem_of_mem_drop hv)
theorem okL_append {N : Nat} {l l' : List V} (h : okL N l) (h' : okL N l') : okL N (l ++ l') := okL_iff.2 fun v hv => (List.mem_append.1 hv).elim (okL_iff.1 h v) (okL_iff.1 h' v)
theorem okL_set {N : Nat} {l : List V} (h : okL N l) {v : V} (hv : okV N v) (n : Nat) : okL N (l.set n v) := okL_iff.2 fun u hu => (List.mem_or_eq_of_mem_set hu).elim (okL_iff.1 h u) (fun e => e ▸ hv)

theorem ev_ok {N : Nat} {tm : List V} (h : okL N tm) (x : Operand) : okV N (ev tm x) := by
  cases x with
  | tmp t =>
    simp only [ev, List.getD_eq_getElem?_getD]
    cases ht : tm[t]? with
    | none => simp [okV]
    | some v => simpa using okL_get h ht
  | const v => simp [ev, okV]
  | global g => simp [ev, okV]
  | func f => simp [ev, okV]

theorem ev_rel {tm : List V} {a : Act} (h : relL ρ tm a.tmps.toList) (x : Operand) : rel ρ (ev tm x) (a.eval x) := by
  cases x with
  | tmp t =>
    simp only [ev, Act.eval, List.getD_eq_getElem?_getD]
    have hl := relL_length h
    cases ht : tm[t]? with
    | none =>
      have : tm.length ≤ t := by simpa using ht
      have h2 : a.tmps[t]? = none := by simp at hl ⊢; omega
      simp [rel, Array.getD_eq_getD_getElem?, h2]
    | some v =>
      obtain ⟨y, hy, hr⟩ := relL_get h ht
      have hy' : a.tmps[t]? = some y := by simpa using hy
      simpa [Array.getD_eq_getD_getElem?, hy'] using hr
  | const v => simp [ev, Act.eval, rel]
  | global g => simp [ev, Act.eval, rel]
  | func f => simp [ev, Act.eval, rel]

theorem evs_rel {tm : List V} {a : Act} (h : relL ρ tm a.tmps.toList) : ∀ (l : List Operand), relL ρ (l.map (ev tm)) (l.map a.eval)
  | [] => by simp [relL]
  | x :: l => by simp only [List.map_cons]; unfold relL; exact ⟨_, _, rfl, ev_rel h x, evs_rel h l⟩
theorem evs_ok {N : Nat} {tm : List V} (h : okL N tm) : ∀ (l : List Operand), okL N (l.map (ev tm))
  | [] => by simp [okL]
  | x :: l => by simp only [List.map_cons, okL]; exact ⟨ev_ok h x, evs_ok h l⟩

/-- A cell of a block, in a world that keeps all blocks. -/
theorem Hd.cell' (h : Hd M w0 ρ hp w) {w' : World} (k : Keep none' w w') {g : Nat} {b : Blk} (hg : hp[g]? = some b) {j : Nat} {v : V} (hv : b.cells[j]? = some v) :
    ∃ x, w.cell? ⟨(ρ g).1, (ρ g).2 + j, none⟩ = some x ∧ w'.cell? ⟨(ρ g).1, (ρ g).2 + j, none⟩ = some x ∧ x.oneCell' = true ∧ rel ρ v x := by
  obtain ⟨x, hx, h1, h2⟩ := h.cell g b hg j v hv
  exact ⟨x, hx, (k.cell (World.block_lt_of_cell? _ _ hx) (fun hf => hf)).trans hx, h1, h2⟩

theorem addr_add (b o n : Nat) : (⟨b, o, none⟩ : Addr).add n = ⟨b, o + n, none⟩ := by
  unfold Addr.add; split <;> simp_all

theorem range_map_get {α : Type} {f : Nat → α} {n j : Nat} {u : α} (h : ((List.range n).map f)[j]? = some u) : j < n ∧ u = f j := by
  rw [List.getElem?_map] at h
  by_cases hj : j < n
  · rw [List.getElem?_range hj] at h; simp at h; exact ⟨hj, h.symm⟩
  · rw [List.getElem?_eq_none (by simp; omega)] at h; simp at h

/-- Reading a run of cells. -/
theorem Hd.loadCells (h : Hd M w0 ρ hp w) {g : Nat} {b : Blk} (hg : hp[g]? = some b) (o n : Nat) (hn : o + n ≤ b.cells.length) :
    ∃ xs : List Value, relL ρ ((b.cells.drop o).take n) xs ∧ (∀ x ∈ xs, x.oneCell' = true) ∧ xs.length = n ∧
      (∀ j u, xs[j]? = some u → w.cell? ⟨(ρ g).1, (ρ g).2 + o + j, none⟩ = some u) ∧
      ∀ w', Keep none' w w' → (Go.loadCells ⟨(ρ g).1, (ρ g).2 + o, none⟩ n).run P w' = .ok xs.toArray w' := by
  have key : ∀ j, j < n → ∃ x, w.cell? ⟨(ρ g).1, (ρ g).2 + (o + j), none⟩ = some x ∧ x.oneCell' = true ∧ ∀ v, b.cells[o + j]? = some v → rel ρ v x := by
    intro j hj
    have hlt : o + j < b.cells.length := by omega
    obtain ⟨x, hx, h1, h2⟩ := h.cell g b hg (o + j) _ (List.getElem?_eq_getElem hlt)
    exact ⟨x, hx, h1, fun v hv => by rw [List.getElem?_eq_getElem hlt] at hv; cases hv; exact h2⟩
  let f : Nat → Value := fun j => (w.cell? ⟨(ρ g).1, (ρ g).2 + (o + j), none⟩).getD undef
  have hf : ∀ j, j < n → w.cell? ⟨(ρ g).1, (ρ g).2 + (o + j), none⟩ = some (f j) := fun j hj => by
    obtain ⟨x, hx, _⟩ := key j hj
    simp only [f, hx, Option.getD_some]
  refine ⟨(List.range n).map f, ?_, ?_, by simp, ?_, ?_⟩
  · refine relL_of_get (by simp; omega) fun j v x hv hx => ?_
    obtain ⟨hj, rfl⟩ := range_map_get hx
    rw [List.getElem?_take, if_pos hj, List.getElem?_drop] at hv
    obtain ⟨y, hy, _, h2⟩ := key j hj
    have := hf j hj
    rw [hy] at this; cases this
    exact h2 v hv
  · intro x hx
    simp at hx
    obtain ⟨j, hj, rfl⟩ := hx
    obtain ⟨y, hy, h1, _⟩ := key j hj
    have := hf j hj
    rw [hy] at this; cases this
    exact h1
  · intro j u hu
    obtain ⟨hj, rfl⟩ := range_map_get hu
    rw [Nat.add_assoc]; exact hf j hj
  · intro w' k
    refine run_loadCells w' _ n f fun j hj => ?_
    rw [addr_add, Nat.add_assoc]
    exact (k.cell (World.block_lt_of_cell? _ _ (hf j hj)) (fun hf => hf)).trans (hf j hj)

theorem getD_some {l : List V} {o : Nat} (h : o < l.length) : l[o]? = some (l.getD o .j) := by
  rw [List.getD_eq_getElem?_getD, List.getElem?_eq_getElem h]; simp

theorem vLoad_sound (hE : EnvOK P E) (hd : Hd M w0 ρ hp w) {x : V} {v : Value} (hx : rel ρ x v) {k : V → Prop} (h : vLoad E t x hp k) :
    ∃ u y, k u ∧ rel ρ u y ∧ okV hp.length u ∧ ∀ w', Keep none' w w' → (Instr.loadAt t v).run P w' = .ok y w' := by
  unfold vLoad vSub vGet at h
  cases hE0 : E t with
  | none => simp [hE0] at h
  | some dd =>
    cases x <;> simp only [hE0] at h
    case p h0 o =>
    unfold rel at hx
    subst hx
    cases hb : hp[h0]? with
    | none => simp [hb] at h
    | some b =>
      simp only [hb] at h
      by_cases ha : isAggD dd.und = true
      · rw [if_pos ha] at h
        obtain ⟨hl, hk⟩ := h
        obtain ⟨xs, h1, h2, h3, _, h5⟩ := hd.loadCells (P := P) hb o dd.size hl
        refine ⟨_, .agg xs.toArray, hk, ?_, ?_, fun w' k' => ?_⟩
        · unfold rel; exact ⟨xs, rfl, h1, h2⟩
        · unfold okV; exact okL_take (okL_drop (hd.ok b (List.mem_of_getElem? hb)) _) _
        · simp [Instr.loadAt, Instr.sureAddr, loadVar, hE.run_isAgg hE0, ha, hE.run_size hE0, h5 w' k']
      · rw [if_neg ha] at h
        obtain ⟨hl, hk⟩ := h
        have hg := getD_some hl
        obtain ⟨y, hy, h1, h2⟩ := hd.cell h0 b hb o _ hg
        refine ⟨_, y, hk, h2, okL_get (hd.ok b (List.mem_of_getElem? hb)) hg, fun w' k' => ?_⟩
        have hy' := (k'.cell (World.block_lt_of_cell? _ _ hy) (fun hf => hf)).trans hy
        simp [Instr.loadAt, Instr.sureAddr, loadVar, hE.run_isAgg hE0, ha, hy']
    all_goals exact h.elim

theorem vNil_sound {N : Nat} {x : V} {v : Value} (hx : rel ρ x v) (hk : okV N x) {k : V → Prop} (h : vNil x k) {o : Oper} {ρ' : Operand → Value} {z : Operand} (ho : o.op = .nilCheck z) (hz : ρ' z = v) :
    ∃ u y, k u ∧ rel ρ u y ∧ okV N u ∧ ∀ w', (execOp ρ' o).run P w' = .ok (.value y) w' := by
  unfold vNil at h
  split at h
  · unfold rel at hx; subst hx
    exact ⟨_, _, h, rfl, hk, fun w' => by simp [execOp, ho, hz]⟩
  · unfold rel at hx; subst hx
    exact ⟨_, _, h, rfl, hk, fun w' => by simp [execOp, ho, hz]⟩
  · unfold rel at hx; subst hx
    exact ⟨_, _, h, rfl, hk, fun w' => by simp [execOp, ho, hz]⟩
  · exact h.elim

theorem vInt_sound {op : BinOp} {ka kb : IntKind} {a b : Int} {k : V → Prop} (h : vInt op ka a kb b k) :
    ∃ y, k (.c y) ∧ ∀ w, (binOp op t (.int ka a) (.int kb b)).run P w = .ok y w := by
  cases op <;> simp only [vInt] at h
  case add => obtain ⟨rfl, h⟩ := h; exact ⟨_, h, fun w => by simp [binOp, Op.intArith]⟩
  case sub => obtain ⟨rfl, h⟩ := h; exact ⟨_, h, fun w => by simp [binOp, Op.intArith]⟩
  case mul => obtain ⟨rfl, h⟩ := h; exact ⟨_, h, fun w => by simp [binOp, Op.intArith]⟩
  case quo => obtain ⟨rfl, h0, h⟩ := h; exact ⟨_, h, fun w => by simp [binOp, Op.intDiv, h0]⟩
  case rem => obtain ⟨rfl, h0, h⟩ := h; exact ⟨_, h, fun w => by simp [binOp, Op.intDiv, h0]⟩
  case and => obtain ⟨rfl, h⟩ := h; exact ⟨_, h, fun w => by simp [binOp, Op.intBits, bitI]⟩
  case or => obtain ⟨rfl, h⟩ := h; exact ⟨_, h, fun w => by simp [binOp, Op.intBits, bitI]⟩
  case xor => obtain ⟨rfl, h⟩ := h; exact ⟨_, h, fun w => by simp [binOp, Op.intBits, bitI]⟩
  case andNot => obtain ⟨rfl, h⟩ := h; exact ⟨_, h, fun w => by simp [binOp, Op.intBits, bitI]⟩
  case shl => obtain ⟨h0, h⟩ := h; exact ⟨_, h, fun w => by simp [binOp, Op.shift, show ¬ b < 0 by omega]⟩
  case shr => obtain ⟨h0, h⟩ := h; exact ⟨_, h, fun w => by simp [binOp, Op.shift, show ¬ b < 0 by omega]⟩
  case eql => obtain ⟨rfl, h⟩ := h; exact ⟨_, h, fun w => by simp [binOp, Op.intCmp]⟩
  case neq => obtain ⟨rfl, h⟩ := h; exact ⟨_, h, fun w => by simp [binOp, Op.intCmp]⟩
  case lss => obtain ⟨rfl, h⟩ := h; exact ⟨_, h, fun w => by simp [binOp, Op.intCmp]⟩
  case leq => obtain ⟨rfl, h⟩ := h; exact ⟨_, h, fun w => by simp [binOp, Op.intCmp]⟩
  case gtr => obtain ⟨rfl, h⟩ := h; exact ⟨_, h, fun w => by simp [binOp, Op.intCmp]⟩
  case geq => obtain ⟨rfl, h⟩ := h; exact ⟨_, h, fun w => by simp [binOp, Op.intCmp]⟩

/-! Equality of arrays of integers. -/
theorem relL_intCells {ki : IntKind} : ∀ {cs : List V} {l : List Value}, intCells ki cs → relL ρ cs l → ∃ ns : List Int, l = ns.map (Value.int ki) ∧ cs = ns.map fun n => V.c (.int ki n)
  | [], l, _, h => by unfold relL at h; subst h; exact ⟨[], rfl, rfl⟩
  | c :: cs, l, hi, h => by
    unfold relL at h
    obtain ⟨x, xs, rfl, h2, h3⟩ := h
    obtain ⟨n, rfl⟩ := hi c (by simp)
    obtain ⟨ns, rfl, rfl⟩ := relL_intCells (fun c hc => hi c (by simp [hc])) h3
    unfold rel at h2
    subst h2
    exact ⟨n :: ns, rfl, rfl⟩

theorem run_part_int (hE : EnvOK P E) {e : TypeId} {de : TD} (he : E e = some de) {ki : IntKind} (hi : de.und = .int ki) (l : List Value) (off : Nat) (v : Value) (hv : l[off]? = some v) (w : World) :
    (part e l.toArray off).run P w = .ok v w := by
  unfold part
  simp [hE.run_isAgg he, hi, isAggD, hv]

theorem run_forIn_eq {ms ns : List Int} {n : Nat} (hm : ms.length = n) (hn : ns.length = n) {w : World} {f : Nat → Option Bool × Unit → Sem (ForInStep (Option Bool × Unit))}
    (hf : ∀ i, i < n → ∀ s, (f i s).run P w = .ok (if ms[i]? = ns[i]? then ForInStep.yield (none, ()) else ForInStep.done (some false, ())) w) :
    ∀ (m i : Nat), i + m = n → (forIn (List.range' i m) ((none, ()) : Option Bool × Unit) f).run P w = .ok (if ms.drop i = ns.drop i then (none, ()) else (some false, ())) w
  | 0, i, hi => by
    have h1 : ms.drop i = [] := List.drop_eq_nil_of_le (by omega)
    have h2 : ns.drop i = [] := List.drop_eq_nil_of_le (by omega)
    simp [h1, h2]
  | m + 1, i, hi => by
    have hmi : i < ms.length := by omega
    have hni : i < ns.length := by omega
    rw [List.range'_succ, List.forIn_cons, Sem.run_bind, hf i (by omega), Result.andThen_ok]
    rw [List.drop_eq_getElem_cons hmi, List.drop_eq_getElem_cons hni, List.getElem?_eq_getElem hmi, List.getElem?_eq_getElem hni]
    by_cases hq : ms[i] = ns[i]
    · rw [if_pos (by rw [hq])]
      simp only [run_forIn_eq hm hn hf m (i + 1) (by omega), hq, List.cons.injEq, true_and]
    · rw [if_neg (by simpa using hq)]
      simp only [Result.andThen_ok, List.cons.injEq, hq, false_and, if_false, Sem.run_pure]

theorem run_equal_ints (hE : EnvOK P E) {e : TypeId} {de : TD} (he : E e = some de) {ki : IntKind} (hi : de.und = .int ki) (h1 : de.size = 1) {n : Nat} (ht : P.underlying t = some (.array n e))
    (ms ns : List Int) (hm : ms.length = n) (hn : ns.length = n) (w : World) :
    (Op.equal t (.agg (ms.map (Value.int ki)).toArray) (.agg (ns.map (Value.int ki)).toArray)).run P w = .ok (decide (ms = ns)) w := by
  unfold Op.equal Op.maxDepth
  rw [show (10000 : Nat) = 9999 + 1 from rfl]
  generalize hD : (9999 : Nat) = D
  simp only [Op.equalIn, Sem.run_bind, run_underlying ht, Result.andThen_ok, hE.run_size he, h1, Nat.mul_one]
  obtain ⟨D', rfl⟩ : ∃ D', D = D' + 1 := ⟨9998, by omega⟩
  have hu := hE.und he
  rw [hi] at hu
  simp only [Std.Legacy.Range.forIn_eq_forIn_range', Std.Legacy.Range.size, Nat.sub_zero, Nat.add_sub_cancel, Nat.div_one]
  rw [run_forIn_eq hm hn (w := w) (fun i hi' s => ?_) n 0 (by omega)]
  · simp only [Result.andThen_ok, List.drop_zero]
    by_cases hq : ms = ns <;> simp [hq]
  · have hmi : i < ms.length := by omega
    have hni : i < ns.length := by omega
    have p1 := run_part_int hE he hi (ms.map (Value.int ki)) i (.int ki ms[i]) (by simp [hmi]) w
    have p2 := run_part_int hE he hi (ns.map (Value.int ki)) i (.int ki ns[i]) (by simp [hni]) w
    have p3 := run_equalIn_int (P := P) w D' e ki ki ms[i] ns[i] hu
    simp only [Sem.run_bind, p1, p2, p3, Result.andThen_ok, List.getElem?_eq_getElem hmi, List.getElem?_eq_getElem hni, Option.some.injEq]
    by_cases hq : ms[i] = ns[i] <;> simp [hq]

theorem map_c_inj {ki : IntKind} : ∀ {ms ns : List Int}, (ms.map fun n => V.c (.int ki n)) = (ns.map fun n => V.c (.int ki n)) ↔ ms = ns
  | [], [] => by simp
  | [], _ :: _ => by simp
  | _ :: _, [] => by simp
  | a :: ms, b :: ns => by simp [map_c_inj (ms := ms) (ns := ns)]

theorem run_equal_slice {e : TypeId} (hu : P.underlying t = some (.slice e)) (a : Option Addr) (n c : Nat) (w : World) : (Op.equal t (.slice a n c) (.slice none 0 0)).run P w = .ok a.isNone w := by
  unfold Op.equal Op.maxDepth
  rw [show (10000 : Nat) = 9999 + 1 from rfl]
  generalize (9999 : Nat) = D
  simp only [Op.equalIn, Sem.run_bind, run_underlying hu, Result.andThen_ok]
  cases a <;> simp

theorem vBin_sound (hE : EnvOK P E) {op : BinOp} {x y : V} {u v : Value} (hx : rel ρ x u) (hy : rel ρ y v) {k : V → Prop} (h : vBin E op t x y k) (ox oy : Operand) :
    ∃ z, k (.c z) ∧ ∀ w, (do eqGuard op t ox oy u v; binOp op t u v : Sem Value).run P w = .ok z w := by
  unfold vBin at h
  split at h
  · unfold rel at hx hy; subst hx; subst hy
    obtain ⟨z, hk, hr⟩ := vInt_sound (P := P) (t := t) h
    have hg : ∀ (w : World) (ka kb : IntKind) (a b : Int), (eqGuard op t ox oy (.int ka a) (.int kb b)).run P w = .ok () w := by intro w ka kb a b; cases op <;> simp [eqGuard]
    exact ⟨z, hk, fun w => by rw [Sem.run_bind, hg, Result.andThen_ok, hr w]⟩
  · unfold rel at hx hy; subst hx; subst hy
    obtain ⟨hb, h⟩ := h
    cases hE0 : E t with
    | none => simp [hE0] at hb
    | some d =>
      simp only [hE0] at hb
      have hu := hE.und hE0
      rw [hb] at hu
      cases op <;> simp only at h
      case eql => exact ⟨_, h, fun w => by simp [eqGuard, run_eql_bool w t _ _ hu]⟩
      case neq => exact ⟨_, h, fun w => by simp [eqGuard, run_neq_bool w t _ _ hu]⟩
  · unfold rel at hx hy; subst hx; subst hy
    cases op <;> simp only at h
    case eql => exact ⟨_, h, fun w => by simp [eqGuard, binOp, Op.stringOp]⟩
    case neq => exact ⟨_, h, fun w => by simp [eqGuard, binOp, Op.stringOp]⟩
  · unfold rel at hx hy; subst hy
    obtain ⟨_, a, rfl, ha⟩ := hx
    obtain ⟨hb, h⟩ := h
    cases hE0 : E t with
    | none => simp [hE0] at hb
    | some d =>
      cases hdu : d.und <;> simp only [hE0, hdu] at hb
      have hu := hE.und hE0
      rw [hdu] at hu
      cases op <;> simp only at h
      case eql => exact ⟨_, h a.isNone (fun hc => by rw [ha hc]; rfl), fun w => by simp [eqGuard, binOp, run_equal_slice hu]⟩
      case neq => exact ⟨_, h a.isNone (fun hc => by rw [ha hc]; rfl), fun w => by simp [eqGuard, binOp, run_equal_slice hu]⟩
  · unfold rel at hx hy; subst hx; subst hy
    obtain ⟨hb, h⟩ := h
    cases hE0 : E t with
    | none => simp [hE0] at hb
    | some d =>
      cases hdu : d.und <;> simp only [hE0, hdu] at hb
      have hu := hE.und hE0
      rw [hdu] at hu
      cases op <;> simp only at h
      case eql => exact ⟨_, h, fun w => by simp [eqGuard, binOp, run_equal_slice hu]⟩
      case neq => exact ⟨_, h, fun w => by simp [eqGuard, binOp, run_equal_slice hu]⟩
  · unfold rel at hx hy
    obtain ⟨l, rfl, hl, _⟩ := hx
    obtain ⟨m, rfl, hm, _⟩ := hy
    cases hE0 : E t with
    | none => simp [hE0] at h
    | some d =>
      simp only [hE0] at h
      cases hdu : d.und <;> simp only [hdu] at h
      case array n e =>
      cases hEe : E e with
      | none => simp [hEe] at h
      | some de =>
        simp only [hEe] at h
        cases hde : de.und <;> simp only [hde] at h
        case int ki =>
        obtain ⟨hg, h1, hcl, hdl, hci, hdi, h⟩ := h
        obtain ⟨ms, rfl, rfl⟩ := relL_intCells hci hl
        obtain ⟨ns, rfl, rfl⟩ := relL_intCells hdi hm
        have hu := hE.und hE0
        rw [hdu] at hu
        have heq := fun w => run_equal_ints hE hEe hde h1 hu ms ns (by simpa using hcl) (by simpa using hdl) w
        have hgd : P.eqGuardType P.depth t = false := by rw [hE.eqg hE0]; exact hg
        cases op <;> simp only at h
        case eql =>
          refine ⟨_, h (decide (ms = ns)) (by rw [map_c_inj]; simp), fun w => ?_⟩
          rw [Sem.run_bind, run_eqGuard_agg w _ t ox oy _ _ hgd, Result.andThen_ok]
          simp only [binOp, Sem.run_bind, heq w, Result.andThen_ok, Sem.run_pure]
        case neq =>
          refine ⟨_, h (decide (ms = ns)) (by rw [map_c_inj]; simp), fun w => ?_⟩
          rw [Sem.run_bind, run_eqGuard_agg w _ t ox oy _ _ hgd, Result.andThen_ok]
          simp only [binOp, Sem.run_bind, heq w, Result.andThen_ok, Sem.run_pure]
  · exact h.elim

theorem vUn_sound {op : UnOp} {x : V} {u : Value} (hx : rel ρ x u) {k : V → Prop} (h : vUn op x k) : ∃ z, k (.c z) ∧ ∀ w, (Op.unary op u).run P w = .ok z w := by
  unfold vUn at h
  split at h
  · unfold rel at hx; subst hx; exact ⟨_, h, fun w => by simp [Op.unary]⟩
  · unfold rel at hx; subst hx; exact ⟨_, h, fun w => by simp [Op.unary, Op.intArith]⟩
  · unfold rel at hx; subst hx; exact ⟨_, h, fun w => by simp [Op.unary, Op.intBits, bitI]⟩
  · exact h.elim

theorem asI_rel {x : V} {u : Value} (hx : rel ρ x u) {kk : IntKind} {n : Int} (h : asI x = some (kk, n)) : u = .int kk n := by
  unfold asI at h
  split at h
  · unfold rel at hx; subst hx; cases h; rfl
  · cases h

theorem asS_rel {x : V} {u : Value} (hx : rel ρ x u) {h o n c : Nat} (hs : asS x = some (h, o, n, c)) :
    n ≤ c ∧ ∃ a, u = .slice a n c ∧ (0 < c → a = some ⟨(ρ h).1, (ρ h).2 + o, none⟩) := by
  unfold asS at hs
  split at hs
  · cases hs; unfold rel at hx; exact hx
  · cases hs; unfold rel at hx; subst hx; exact ⟨Nat.le_refl _, none, rfl, fun h => absurd h (by omega)⟩
  · cases hs

theorem asS_ok {N : Nat} {x : V} (hx : okV N x) {h o n c : Nat} (hs : asS x = some (h, o, n, c)) : 0 < c → h < N := by
  unfold asS at hs
  split at hs
  · cases hs; unfold okV at hx; exact hx
  · cases hs; intro h; omega
  · cases hs

end
end Go.Vc

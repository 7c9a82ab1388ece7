import Derived.Test.YtjakgjelnbpmnaaVcgO
import Derived.RangeFuncNested
import Derived.RangeFuncLeaves
import Derived.RangeFuncCalls
import Derived.TacticsIn
/- Operations and regions within a round of a range over a function. -/
set_option linter.unusedSimpArgs false
set_option linter.unusedVariables false
namespace Go.Vc
open Go Go.RowKit
/-- Operations that may stand in a round: no deferred call. -/
def roundOp : Op → Bool
  | .defer _ => false
  | _ => true
theorem semAt_round {o : Oper} (h : roundOp o.op = true) (l : Nat) (ρ : Operand → Value) : o.semAt (some l) ρ = execOp ρ o :=
  Oper.semAt_some l ρ o fun c hc => by rw [hc] at h; cases h
/-- What an operation does in a round is what it does elsewhere: calls of functions with bodies, values. -/
theorem wpIn_round {P : Program} {o : Oper} {a : Act} {w : World} {next : Act → World → Prop} {Q : Exit → Act → World → Prop} (n l : Nat) (ho : roundOp o.op = true)
    (hrow : ∀ row args w', (execOp a.eval o).run P w ≠ .ok (.row row args) w') (h : o.wp P a w next Q) : o.wpIn (Fence.wide.inRound l) n P a w next Q := by
  refine ⟨fun _ _ => trivial, ?_⟩
  rw [Fence.inRound_round, semAt_round ho]
  unfold Oper.wp at h
  cases hr : (execOp a.eval o).run P w with
  | ok x w' =>
    rw [hr] at h
    cases x with
    | value v => exact h
    | skip => exact h
    | «defer» d => exact h
    | enter f args => exact ⟨fun hd => by simp [Fence.wide] at hd, CallsIn.inRound l (callsIn_wide.2 h)⟩
    | row row args => exact absurd hr (hrow row args w')
    | _ => exact h.elim
  | halt x w' =>
    rw [hr] at h
    cases x with
    | panic v => exact h
    | _ => exact h.elim
end Go.Vc
namespace Go.Vc
open Go Go.RowKit
/-- Fences that let everything by: without a round, within one. -/
def Wide (F : Fence) : Prop := F = Fence.wide ∨ ∃ l, F = Fence.wide.inRound l
theorem wpIn_wideF {P : Program} {F : Fence} (hF : Wide F) {o : Oper} {a : Act} {w : World} {next : Act → World → Prop} {Q : Exit → Act → World → Prop} (n : Nat) (ho : roundOp o.op = true)
    (h : o.wp P a w next Q) : o.wpIn F n P a w next Q := by
  have hfn : ∀ f, F.fn f := fun f => by rcases hF with rfl | ⟨l, rfl⟩ <;> trivial
  have hd : F.depth.isSome = true → 1 ≤ n := fun h => by rcases hF with rfl | ⟨l, rfl⟩ <;> simp [Fence.wide] at h
  have hsem : o.semAt F.round a.eval = execOp a.eval o := by
    rcases hF with rfl | ⟨l, rfl⟩
    · unfold Oper.semAt
      cases o.op <;> rfl
    · exact semAt_round ho l _
  refine ⟨fun f _ => hfn f, ?_⟩
  rw [hsem]
  unfold Oper.wp at h
  cases hr : (execOp a.eval o).run P w with
  | ok x w' =>
    rw [hr] at h
    cases x with
    | value v => exact h
    | skip => exact h
    | «defer» d => exact h
    | enter f args => 
      refine ⟨hd, ?_⟩
      rcases hF with rfl | ⟨l, rfl⟩
      · exact callsIn_wide.2 h
      · exact CallsIn.inRound l (callsIn_wide.2 h)
    | row row args =>
      refine ⟨hd, fun c cs _ => ?_⟩
      obtain ⟨v, w'', hv, hs⟩ := h c cs
      refine ⟨v, w'', hv, ?_⟩
      rcases hF with rfl | ⟨l, rfl⟩
      · exact stepsIn_wide.2 hs
      · exact stepsIn_wide.2 hs
    | _ => exact h.elim
  | halt x w' =>
    rw [hr] at h
    cases x with
    | panic v => exact h
    | _ => exact h.elim
section
variable {P : Program} {E : Env} {mu : List FuncId} {M : Nat → Prop} {w0 : World}
/-- What is known at a place: the memory, the temporaries, the first N0 handles' places, the deferred calls. -/
structure At (M : Nat → Prop) (w0 : World) (N0 : Nat) (ρ0 : Vc.Loc) (D0 : List Deferred) (tm : List V) (hp : List Blk) (a : Act) (w : World) : Prop where
  ex : ∃ ρ, Hd M w0 ρ hp w ∧ relL ρ tm a.tmps.toList ∧ ∀ h, h < N0 → ρ h = ρ0 h
  ok : okL hp.length tm
  defers : a.defers = D0
  len : N0 ≤ hp.length
theorem vcList_in (hE : EnvOK P E) {F : Fence} (hF : Wide F) {n N0 : Nat} {ρ0 : Vc.Loc} {D0 : List Deferred} {opsL rest : List Oper} {Q : Exit → Act → World → Prop} {k : List V → List Blk → Prop}
    (hK : ∀ tm' hp' a' w', k tm' hp' → At M w0 N0 ρ0 D0 tm' hp' a' w' → wpListIn F n P opsL.toArray Q rest a' w') :
    ∀ (l : List Oper) (_ : ∀ o ∈ l, o.guard = none ∧ roundOp o.op = true) (tm : List V) (hp : List Blk) (a : Act) (w : World), vcList E P mu opsL l tm hp k → At M w0 N0 ρ0 D0 tm hp a w → wpListIn F n P opsL.toArray Q (l ++ rest) a w
  | [], _, tm, hp, a, w, h, hI => by
    unfold vcList at h
    exact hK _ _ _ _ h hI
  | o :: l, hl, tm, hp, a, w, h, hI => by
    obtain ⟨hg, hr⟩ := hl o (List.mem_cons_self ..)
    unfold vcList at h
    obtain ⟨ρ, hd, ht, hb⟩ := hI.ex
    have h1 : vcOne E P mu o tm hp fun tm' hp' => vcList E P mu opsL l tm' hp' k := by
      unfold vcG at h
      rw [hg] at h
      exact h
    rw [List.cons_append]
    refine wpListIn_plain hg fun K hKK => wpIn_wideF hF n hr ?_
    refine vcOne_wpS hE hd ht hI.ok h1 fun v hp' ρ' w' y hk hst _ => hKK _ _ ?_
    exact vcList_in hE hF hK l (fun o' ho' => hl o' (List.mem_cons_of_mem _ ho')) _ _ _ _ hk
      ⟨⟨ρ', hst.hd, put_rel (relL_congr (N := hp.length) hst.same hI.ok ht) hst.val o.dst, fun h hh => (hst.same h (by have := hI.len; omega)).trans (hb h hh)⟩,
        put_ok (okL_mono hst.len hI.ok) hst.ok o.dst, by rw [put_defers]; exact hI.defers, Nat.le_trans hI.len hst.len⟩
theorem At.le {N0 : Nat} {ρ0 : Vc.Loc} {D0 : List Deferred} {tm tm' : List V} {hp hp' : List Blk} {σ : List Nat} {a : Act} {w : World} (hI : At M w0 N0 ρ0 D0 tm hp a w) (h : LeS N0 σ tm hp tm' hp') : At M w0 N0 ρ0 D0 tm' hp' a w := by
  obtain ⟨ρ, hd, ht, hb⟩ := hI.ex
  exact ⟨⟨_, LeS_hd h hd, LeS_tm h ht, fun i hi => by simp only [LeS_base h hi]; exact hb i hi⟩, LeS_ok h, hI.defers, LeS_len h⟩
end
end Go.Vc
namespace Go.Vc
open Go Go.RowKit
section
variable {P : Program} {E : Env} {mu : List FuncId} {M : Nat → Prop} {w0 : World}
def calmOps (l : List Oper) : Bool := l.all fun o => o.guard.isNone && roundOp o.op
theorem calm_all {l : List Oper} (h : calmOps l = true) : ∀ o ∈ l, o.guard = none ∧ roundOp o.op = true := fun o ho => by
  have := List.all_eq_true.1 h o ho
  simpa using this
/-- The first i operations of a region, and on. -/
theorem vcSplit_in (hE : EnvOK P E) {F : Fence} (hF : Wide F) (i : Nat) {n N0 : Nat} {ρ0 : Vc.Loc} {D0 : List Deferred} {opsL : List Oper} (hl : calmOps (opsL.take i) = true) {Q : Exit → Act → World → Prop} {tm tm2 : List V} {hp hp2 : List Blk} {a : Act} {w : World}
    (h : vcList E P mu opsL (opsL.take i) tm hp fun tm' hp' => ∃ σ, LeS N0 σ tm' hp' tm2 hp2) (hI : At M w0 N0 ρ0 D0 tm hp a w)
    (hK : ∀ a' w', At M w0 N0 ρ0 D0 tm2 hp2 a' w' → wpListIn F n P opsL.toArray Q (opsL.drop i) a' w') : wpListIn F n P opsL.toArray Q opsL a w := by
  have := vcList_in hE hF (n := n) (Q := Q) (rest := opsL.drop i) (opsL := opsL) (fun tm' hp' a' w' hk hA => by obtain ⟨σ, hle⟩ := hk; exact hK a' w' (hA.le hle)) (opsL.take i) (calm_all hl) tm hp a w h hI
  rwa [List.take_append_drop] at this
theorem vcAll_in (hE : EnvOK P E) {F : Fence} (hF : Wide F) {n N0 id : Nat} {ρ0 : Vc.Loc} {D0 : List Deferred} {opsL : List Oper} (hl : calmOps opsL = true) {Q : Exit → Act → World → Prop} {tm tm2 : List V} {hp hp2 : List Blk} {a : Act} {w : World}
    (h : vcList E P mu opsL opsL tm hp fun tm' hp' => ∃ σ, LeS N0 σ tm' hp' tm2 hp2) (hI : At M w0 N0 ρ0 D0 tm hp a w)
    (hK : ∀ a' w', At M w0 N0 ρ0 D0 tm2 hp2 a' w' → Q .normal a' w') : (Code.region id opsL.toArray false).wpIn F n P Q a w := by
  refine wpIn_region_lit ?_
  have := vcList_in hE hF (n := n) (Q := Q) (rest := []) (opsL := opsL) (fun tm' hp' a' w' hk hA => by obtain ⟨σ, hle⟩ := hk; exact hK a' w' (hA.le hle)) opsL (calm_all hl) tm hp a w h hI
  rwa [List.append_nil] at this
theorem kL_mk {X : Cx} {ops l : List Oper} {tm : List V} {hp : List Blk} {k : List V → List Blk → Prop} (h : kL X ops l tm hp (.rnd k (.fin [] fun _ _ => False))) : vcList X.E X.P X.mu ops l tm hp k := by
  unfold kL at h
  have e : den X (.rnd k (.fin [] fun _ _ => False)) .normal = k := by funext a b; rw [den_rnd]
  rwa [e] at h
/-- Blocks that may not be written are as they were wherever the others alone have turned. -/
theorem At.move {N0 : Nat} {ρ0 : Vc.Loc} {D0 : List Deferred} {tm : List V} {hp : List Blk} {a : Act} {w W' : World} {Mk M' : Nat → Prop} (hI : At M w0 N0 ρ0 D0 tm hp a w) (hro : ∀ b ∈ hp, b.own = false) (hN : hp.length = N0) (hk : Keep Mk w W') (hM : ∀ h, h < N0 → ¬ Mk (ρ0 h).1) : At M' W' N0 ρ0 D0 tm hp a W' := by
  obtain ⟨ρ, hd, ht, hb⟩ := hI.ex
  refine ⟨⟨ρ, ⟨Keep.refl _ _, hd.ok, fun h b hh j v hv => ?_, fun h b hh ho => ?_, fun h b h' b' hh _ _ ho => ?_⟩, ht, hb⟩, hI.ok, hI.defers, hI.len⟩
  · obtain ⟨x, hx, h1, h2⟩ := hd.cell h b hh j v hv
    have hlt : h < N0 := by rw [← hN]; exact (List.getElem?_eq_some_iff.1 hh).1
    exact ⟨x, (hk.cell (World.block_lt_of_cell? _ _ hx) (by show ¬ Mk (ρ h).1; rw [hb h hlt]; exact hM h hlt)).trans hx, h1, h2⟩
  · rw [hro b (List.mem_of_getElem? hh)] at ho; cases ho
  · rw [hro b (List.mem_of_getElem? hh)] at ho; cases ho
/-- What an operand is. -/
theorem At.eval {N0 : Nat} {ρ0 : Vc.Loc} {D0 : List Deferred} {tm : List V} {hp : List Blk} {a : Act} {w : World} (hI : At M w0 N0 ρ0 D0 tm hp a w) {o : Operand} {x : Value} (h : ev tm o = .c x) : a.eval o = x := by
  obtain ⟨ρ, _, ht, _⟩ := hI.ex
  have := ev_rel ht o
  rw [h] at this
  unfold rel at this
  exact this
theorem Keep.grown {W W' : World} (h : Keep none' W W') : W.grownBy W' none := ⟨h.os, h.tape, h.output, h.size, fun k hk _ => h.block k hk (fun h => h)⟩
end
end Go.Vc
namespace Go.Vc
open Go Go.RowKit
section
variable {P : Program} {M : Nat → Prop} {w0 : World}
theorem At.keep {N0 : Nat} {ρ0 : Vc.Loc} {D0 : List Deferred} {tm : List V} {hp : List Blk} {a : Act} {w : World} (hI : At M w0 N0 ρ0 D0 tm hp a w) : Keep M w0 w := by
  obtain ⟨ρ, hd, _⟩ := hI.ex
  exact hd.keep
theorem At.eval_bs {N0 : Nat} {ρ0 : Vc.Loc} {D0 : List Deferred} {tm : List V} {hp : List Blk} {a : Act} {w : World} (hI : At M w0 N0 ρ0 D0 tm hp a w) {o : Operand} {k : List UInt8} (h : ev tm o = .a (bs k)) : a.eval o = .agg ((k.map fun u => Value.int .u8 (u.toNat : Nat)).toArray) := by
  obtain ⟨ρ, _, ht, _⟩ := hI.ex
  have := ev_rel ht o
  rw [h] at this
  unfold rel at this
  obtain ⟨l, e, hl, _⟩ := this
  rw [e]
  have h2 : l = k.map fun u => Value.int .u8 (u.toNat : Nat) := relL_of_map_c (f := fun u : UInt8 => Value.int .u8 (u.toNat : Nat)) hl
  rw [h2]
/-- Nothing is known any more. -/
theorem At.forget {N0 : Nat} {ρ0 ρ1 : Vc.Loc} {D0 : List Deferred} {tm : List V} {hp : List Blk} {a : Act} {w W' : World} (hI : At M w0 N0 ρ0 D0 tm hp a w) : At none' W' 0 ρ1 D0 (List.replicate tm.length .j) [] a W' := by
  obtain ⟨ρ, hd, ht, hb⟩ := hI.ex
  have hj : ∀ (tm : List V) (l : List Value), relL ρ tm l → relL ρ1 (List.replicate tm.length .j) l := by
    intro tm
    induction tm with
    | nil => intro l h; unfold relL at h; subst h; simp [relL]
    | cons v vs ih =>
      intro l h
      unfold relL at h
      obtain ⟨x, xs, rfl, _, h2⟩ := h
      rw [List.length_cons, List.replicate_succ]
      unfold relL
      exact ⟨x, xs, rfl, by unfold rel; trivial, ih xs h2⟩
  refine ⟨⟨ρ1, ⟨Keep.refl _ _, by simp, by simp, by simp, by simp⟩, hj _ _ ht, fun _ h => absurd h (Nat.not_lt_zero _)⟩, ?_, hI.defers, by simp⟩
  exact okL_iff.2 fun v hv => by rw [List.mem_replicate] at hv; rw [hv.2]; trivial
/-- A plain value into a temporary. -/
theorem At.put {N0 : Nat} {ρ0 : Vc.Loc} {D0 : List Deferred} {tm : List V} {hp : List Blk} {a : Act} {w : World} (hI : At M w0 N0 ρ0 D0 tm hp a w) (d : Option Tmp) (y : Value) : At M w0 N0 ρ0 D0 (putV tm d (.c y)) hp (a.put d y) w := by
  obtain ⟨ρ, hd, ht, hb⟩ := hI.ex
  exact ⟨⟨ρ, hd, put_rel ht (v := .c y) (by unfold rel; rfl) d, hb⟩, put_ok hI.ok (v := .c y) (by simp [okV]) d, by rw [put_defers]; exact hI.defers, hI.len⟩
end
end Go.Vc
namespace Go.Vc
open Go Go.RowKit
section
variable {P : Program} {M M2 : Nat → Prop} {w0 : World}
/-- A change of a block that holds no cells and is not one of the first ones. -/
theorem Hd.turned {ρ : Vc.Loc} {hp : List Blk} {A B : World} {row : Option Nat} (h : Hd M w0 ρ hp A) (hg : A.grownBy B row) (hr : ∀ r, row = some r → w0.heap.size ≤ r ∧ ∃ o : Obj, A.heap[r]? = some o ∧ o.isCells = false) : Hd M w0 ρ hp B := by
  have hrow : ∀ r, row = some r → ∃ o : Obj, A.heap[r]? = some o ∧ o.isCells = false := fun r e => (hr r e).2
  refine ⟨⟨hg.os.trans h.keep.os, hg.tape.trans h.keep.tape, hg.output.trans h.keep.output, Nat.le_trans h.keep.size hg.size, fun k hk hm => ?_⟩, h.ok, fun g b hb j v hv => ?_, fun g b hb ho hne => ?_, h.sep⟩
  · refine (hg.block k (Nat.lt_of_lt_of_le hk h.keep.size) fun e => ?_).trans (h.keep.block k hk hm)
    have := (hr k e.symm).1
    omega
  · obtain ⟨x, hx, h1, h2⟩ := h.cell g b hb j v hv
    exact ⟨x, cell_kept hx hg hrow, h1, h2⟩
  · obtain ⟨h1, h2⟩ := h.own g b hb ho hne
    refine ⟨h1, fun j hj => ?_⟩
    obtain ⟨x, hx, _⟩ := h.cell g b hb j b.cells[j] (List.getElem?_eq_getElem hj)
    exact (frozen_kept hx hg hrow).trans (h2 j hj)
/-- Told anew from this world on: the blocks that may be written are named. -/
theorem Hd.anew {ρ : Vc.Loc} {hp : List Blk} {w : World} (h : Hd M w0 ρ hp w) (hm : ∀ g b, hp[g]? = some b → b.own = true → b.cells ≠ [] → M2 (ρ g).1) : Hd M2 w ρ hp w :=
  ⟨Keep.refl _ _, h.ok, h.cell, fun g b hb ho hne => ⟨.inr (hm g b hb ho hne), (h.own g b hb ho hne).2⟩, h.sep⟩
/-- Some blocks may be written no more. -/
def frzX (F : List Bool) (hp : List Blk) : List Blk := (hp.zip F).map fun q => ⟨q.1.own && q.2, q.1.cells⟩
theorem frzX_get {F : List Bool} {hp : List Blk} (hF : F.length = hp.length) {g : Nat} {b : Blk} (h : (frzX F hp)[g]? = some b) : ∃ b0, hp[g]? = some b0 ∧ b.cells = b0.cells ∧ (b.own = true → b0.own = true ∧ F[g]? = some true) := by
  simp only [frzX, List.getElem?_map, Option.map_eq_some_iff] at h
  obtain ⟨q, hq, rfl⟩ := h
  rw [List.getElem?_zip_eq_some] at hq
  refine ⟨q.1, hq.1, rfl, fun ho => ?_⟩
  simp only [Bool.and_eq_true] at ho
  exact ⟨ho.1, by rw [hq.2, ho.2]⟩
theorem Hd.frzX {ρ : Vc.Loc} {hp : List Blk} {w : World} (h : Hd M w0 ρ hp w) (F : List Bool) (hF : F.length = hp.length) : Hd M w0 ρ (frzX F hp) w := by
  have hl : (Go.Vc.frzX F hp).length = hp.length := by simp [Go.Vc.frzX, hF]
  refine ⟨h.keep, fun b hb => ?_, fun g b hb j v hv => ?_, fun g b hb ho hne => ?_, fun g b g' b' hb hb' hgg ho hne hne' => ?_⟩
  · obtain ⟨g, hg⟩ := List.mem_iff_getElem?.1 hb
    obtain ⟨b0, h0, e, _⟩ := frzX_get hF hg
    rw [hl, e]; exact h.ok b0 (List.mem_of_getElem? h0)
  · obtain ⟨b0, h0, e, _⟩ := frzX_get hF hb
    rw [e] at hv
    exact h.cell g b0 h0 j v hv
  · obtain ⟨b0, h0, e, ho0⟩ := frzX_get hF hb
    rw [e] at hne
    obtain ⟨h1, h2⟩ := h.own g b0 h0 (ho0 ho).1 hne
    exact ⟨h1, fun j hj => h2 j (by rw [← e]; exact hj)⟩
  · obtain ⟨b0, h0, e, ho0⟩ := frzX_get hF hb
    obtain ⟨b1, h1, e1, _⟩ := frzX_get hF hb'
    exact h.sep g b0 g' b1 h0 h1 hgg (ho0 ho).1 (by rw [← e]; exact hne) (by rw [← e1]; exact hne')
/-- The first blocks alone, at places that agree. -/
theorem Hd.first {ρ ρ' : Vc.Loc} {A R : List Blk} {w : World} (h : Hd M w0 ρ (A ++ R) w) (hok : ∀ b ∈ A, okL A.length b.cells) (hρ : ∀ g, g < A.length → ρ' g = ρ g) : Hd M w0 ρ' A w := by
  have up : ∀ g b, A[g]? = some b → (A ++ R)[g]? = some b := fun g b hb => by rw [List.getElem?_append_left (List.getElem?_eq_some_iff.1 hb).1]; exact hb
  have lt : ∀ g b, A[g]? = some b → g < A.length := fun g b hb => (List.getElem?_eq_some_iff.1 hb).1
  refine ⟨h.keep, hok, fun g b hb j v hv => ?_, fun g b hb ho hne => ?_, fun g b g' b' hb hb' hgg ho hne hne' => ?_⟩
  · rw [hρ g (lt g b hb)]
    obtain ⟨x, hx, h1, h2⟩ := h.cell g b (up g b hb) j v hv
    exact ⟨x, hx, h1, rel_congr (fun i hi => hρ i hi) (okL_iff.1 (hok b (List.mem_of_getElem? hb)) v (List.mem_of_getElem? hv)) h2⟩
  · rw [hρ g (lt g b hb)]; exact h.own g b (up g b hb) ho hne
  · rw [hρ g (lt g b hb), hρ g' (lt g' b' hb')]; exact h.sep g b g' b' (up g b hb) (up g' b' hb') hgg ho hne hne'
/-- One block more that is read alone. -/
theorem Hd.more {ρ : Vc.Loc} {hp : List Blk} {w : World} (h : Hd M w0 ρ hp w) {cs : List V} (hok : okL hp.length cs) (l : Nat × Nat) (hc : ∀ j v, cs[j]? = some v → ∃ x, w.cell? ⟨l.1, l.2 + j, none⟩ = some x ∧ x.oneCell' = true ∧ rel ρ v x) (hs : ∀ g b, hp[g]? = some b → b.own = true → b.cells ≠ [] → (ρ g).1 ≠ l.1) :
    Hd M w0 (ρ.upd hp.length l) (hp ++ [⟨false, cs⟩]) w := by
  have lt_of : ∀ g b, hp[g]? = some b → g < hp.length := fun g b hg => (List.getElem?_eq_some_iff.1 hg).1
  refine ⟨h.keep, fun b hb => ?_, fun g b hg j v hv => ?_, fun g b hg ho hne => ?_, fun g b g' b' hg hg' hgg ho hne hne' => ?_⟩
  · rcases List.mem_append.1 hb with hb | hb
    · exact okL_mono (by simp) (h.ok b hb)
    · simp at hb; subst hb; exact okL_mono (by simp) hok
  · rcases getElem?_snoc hg with hg | ⟨rfl, rfl⟩
    · rw [Loc.upd_lt ρ _ g (lt_of g b hg)]
      obtain ⟨x, hx, h1, h2⟩ := h.cell g b hg j v hv
      exact ⟨x, hx, h1, rel_congr (Loc.upd_lt ρ _) (okL_iff.1 (h.ok b (List.mem_of_getElem? hg)) v (List.mem_of_getElem? hv)) h2⟩
    · rw [Loc.upd_same]
      obtain ⟨x, hx, h1, h2⟩ := hc j v hv
      exact ⟨x, hx, h1, rel_congr (Loc.upd_lt ρ _) (okL_iff.1 hok v (List.mem_of_getElem? hv)) h2⟩
  · rcases getElem?_snoc hg with hg | ⟨rfl, rfl⟩
    · rw [Loc.upd_lt ρ _ g (lt_of g b hg)]; exact h.own g b hg ho hne
    · cases ho
  · rcases getElem?_snoc hg with hg | ⟨rfl, rfl⟩ <;> rcases getElem?_snoc hg' with hg' | ⟨rfl, rfl⟩
    · rw [Loc.upd_lt ρ _ g (lt_of g b hg), Loc.upd_lt ρ _ g' (lt_of g' b' hg')]; exact h.sep g b g' b' hg hg' hgg ho hne hne'
    · rw [Loc.upd_lt ρ _ g (lt_of g b hg), Loc.upd_same]; exact hs g b hg ho hne
    · cases ho
    · cases ho
/-- The same from an earlier world on. -/
theorem Hd.base {ρ : Vc.Loc} {hp : List Blk} {w w' : World} (h : Hd M2 w ρ hp w') (k : Keep M w0 w) (hM : ∀ b, b < w0.heap.size → M2 b → M b) (ho : ∀ g b, hp[g]? = some b → b.own = true → b.cells ≠ [] → w0.heap.size ≤ (ρ g).1 ∨ M (ρ g).1) : Hd M w0 ρ hp w' :=
  ⟨⟨h.keep.os.trans k.os, h.keep.tape.trans k.tape, h.keep.output.trans k.output, Nat.le_trans k.size h.keep.size, fun i hi hm => (h.keep.block i (Nat.lt_of_lt_of_le hi k.size) fun h2 => hm (hM i hi h2)).trans (k.block i hi hm)⟩,
    h.ok, h.cell, fun g b hb hw hne => ⟨ho g b hb hw hne, (h.own g b hb hw hne).2⟩, h.sep⟩
theorem At.eval_s {N0 : Nat} {ρ0 : Vc.Loc} {D0 : List Deferred} {tm : List V} {hp : List Blk} {a : Act} {w : World} (hI : At M w0 N0 ρ0 D0 tm hp a w) {o : Operand} {h k n c : Nat} (he : ev tm o = .s h k n c) : ∃ s, a.eval o = .slice s n c := by
  obtain ⟨ρ, _, ht, _⟩ := hI.ex
  have := ev_rel ht o
  rw [he] at this
  unfold rel at this
  obtain ⟨_, s, e, _⟩ := this
  exact ⟨s, e⟩
end
end Go.Vc

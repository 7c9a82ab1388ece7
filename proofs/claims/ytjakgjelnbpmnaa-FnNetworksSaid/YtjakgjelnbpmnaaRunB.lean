import Derived.Test.YtjakgjelnbpmnaaFieldM
import Derived.Test.YtjakgjelnbpmnaaNetK
import Derived.Test.YtjakgjelnbpmnaaNetQ
/- RunBack: the program: a range over slices.Backward. -/
set_option linter.unusedSimpArgs false
set_option linter.unusedVariables false
namespace Go.Proofs.Ytjakgjelnbpmnaa
open Go Go.Vc Go.RowKit
set_option maxRecDepth 10000
set_option maxHeartbeats 4000000
/-- The iterator's contract. -/
theorem back_stops (n q cp Bs : Nat) (D : List UInt8) (hD : D.length = 8 * q) (hc : q ≤ cp) (hm : q ≤ 1048576) (ρ0 : Vc.Loc) (Mk : Nat → Prop) (hM : ∀ h, h < 2 → ¬ Mk (ρ0 h).1) (w1 : World) (hd : Hd none' w1 ρ0 (hpI D q cp) w1) (hB : ρ0 1 = (Bs, 0)) :
    SeqStopsK Fence.wide n Try.prog 66 #[.pointer (some ⟨Bs, 0, none⟩)] (encK D) (Keep Mk) (fun xs => xs = revU q q) (fun _ => True) q w1 := by
  intro l J Jx W hW hJ hJx hY h0
  have hk : Keep none' w1 W := Keep.of_below hW
  have hd2 : Hd none' W ρ0 (hpI D q cp) W := (hd.keep_none hk).anew (fun g b hb ho _ => by rw [hpI_ro b (List.mem_of_getElem? hb)] at ho; cases ho)
  refine back1_in n l q cp Bs D hD hc hm ρ0 Mk hM J Jx (fun s A B hs hk => hJ s A B none hs hk.grown (fun r e => by cases e)) (fun s A B hs hk => hJx s A B none hs hk.grown (fun r e => by cases e)) hY W ?_ h0
  refine ⟨⟨ρ0, hd2, ?_, fun _ _ => rfl⟩, ?_, rfl, Nat.le_refl _⟩
  · simp [relL, rel, List.replicate_succ, hB, Array.replicate_succ]
  · simp [okL, okV, List.replicate_succ, hpI]
/-- The rounds taken back, over the places that have come. -/
def folB (c : Net) (D b : List UInt8) (pre : List Nat) : List UInt8 := pre.foldl (fun v x => c.rbk (keyA D x) v) b
theorem folB_snoc (c : Net) (D b : List UInt8) (pre : List Nat) (x : Nat) : folB c D b (pre ++ [x]) = c.rbk (keyA D x) (folB c D b pre) := by simp [folB]
theorem folB_len (c : Net) (D : List UInt8) : ∀ (pre : List Nat) (b : List UInt8), b.length = 16 → (folB c D b pre).length = 16
  | [], _, h => h
  | x :: pre, b, h => folB_len c D pre _ (rbk_len _ _ h)
theorem folB_all (c : Net) (D b : List UInt8) (q : Nat) (hD : D.length = 8 * q) : ∀ j, j ≤ q → folB c D b (revU q j) = c.bak D b q j
  | 0, _ => rfl
  | j + 1, h => by
    rw [revU_succ, folB_snoc, folB_all c D b q hD j (by omega), Net.bak, keyA_at hD (by omega)]
    rfl
/-- The memory in the loop. -/
def hpRL (c : Net) (D : List UInt8) (q cp : Nat) (v : List UInt8) : List Blk :=
  [⟨false, bs D⟩, ⟨false, c.cells⟩, ⟨true, bs v⟩, ⟨true, bs (List.replicate 16 0)⟩, ⟨false, c.eng 5 6⟩, ⟨false, bs c.t1⟩, ⟨false, bs c.t2⟩, ⟨false, [.p 4 0]⟩, ⟨false, [.s 0 0 q cp]⟩]
/-- Ahead of the loop. -/
def hpRP (c : Net) (D b : List UInt8) : List Blk :=
  [⟨false, bs D⟩, ⟨true, c.cells⟩, ⟨true, bs b⟩, ⟨true, bs (List.replicate 16 0)⟩, ⟨true, c.eng 5 6⟩, ⟨true, bs c.t1⟩, ⟨true, bs c.t2⟩, ⟨true, [.p 4 0]⟩]
theorem hpRL_own {c : Net} {D v : List UInt8} {q cp g : Nat} {bb : Blk} (hg : (hpRL c D q cp v)[g]? = some bb) (ho : bb.own = true) : g = 2 ∨ g = 3 := by
  rcases g with _ | _ | _ | _ | _ | _ | _ | _ | _ | g
  all_goals first
    | (left; rfl)
    | (right; rfl)
    | (exfalso; simp [hpRL] at hg; done)
    | (exfalso; simp [hpRL] at hg; subst hg; cases ho)
/-- At the loop. -/
def tmR7 (q cp Bs : Nat) : List V := [.j, .s 0 0 q cp, .j, .j, .j, .p 2 0, .p 3 0, .j, .j, .p 7 0] ++ List.replicate 11 .j ++ [.s 0 0 q cp, .c (.func (.func 66) #[] #[.pointer (some ⟨Bs, 0, none⟩)])] ++ List.replicate 7 .j
/-- At the end. -/
def hpRE (c : Net) (D : List UInt8) (q cp : Nat) (v : List UInt8) : List Blk :=
  [⟨false, bs D⟩, ⟨false, c.cells⟩, ⟨true, bs v⟩, ⟨true, bs v⟩, ⟨false, c.eng 5 6⟩, ⟨false, bs c.t1⟩, ⟨false, bs c.t2⟩, ⟨false, [.p 4 0]⟩, ⟨false, [.s 0 0 q cp]⟩]
theorem hpRE_own {c : Net} {D v : List UInt8} {q cp g : Nat} {bb : Blk} (hg : (hpRE c D q cp v)[g]? = some bb) (ho : bb.own = true) : g = 2 ∨ g = 3 := by
  rcases g with _ | _ | _ | _ | _ | _ | _ | _ | _ | g
  all_goals first
    | (left; rfl)
    | (right; rfl)
    | (exfalso; simp [hpRE] at hg; done)
    | (exfalso; simp [hpRE] at hg; subst hg; cases ho)
/-- The same, read alone. -/
def hpRR (c : Net) (D : List UInt8) (q cp : Nat) (v : List UInt8) : List Blk :=
  [⟨false, bs D⟩, ⟨false, c.cells⟩, ⟨false, bs v⟩, ⟨false, bs (List.replicate 16 0)⟩, ⟨false, c.eng 5 6⟩, ⟨false, bs c.t1⟩, ⟨false, bs c.t2⟩, ⟨false, [.p 4 0]⟩, ⟨false, [.s 0 0 q cp]⟩]
theorem hpRR_ro {c : Net} {D v : List UInt8} {q cp : Nat} : ∀ b ∈ hpRR c D q cp v, b.own = false := by simp [hpRR]
/-- In a round: behind the assignment. -/
def tmRA : List V := [.j, .j, .j, .j, .j, .p 2 0, .j, .j, .j, .p 7 0, .j, .p 9 0] ++ List.replicate 18 .j
def tmRB (q cp : Nat) : List V := [.j, .s 0 0 q cp, .j, .j, .j, .p 2 0, .p 3 0, .j, .j, .p 7 0] ++ List.replicate 20 .j
theorem k_impl_back (c : Net) (q cp : Nat) (D b : List UInt8) (hD : D.length = 8 * q) (hc : q ≤ cp) (hm : q ≤ 1048576) (hb : b.length = 16) (hq : q = c.n) : LC Try.prog 8 [.a c.cells, .s 0 0 q cp, .a (bs b)] [⟨false, bs D⟩] (fun v hp => v = .t [.a (bs (c.bak D b q q)), .c (.int .i64 (0))] ∧ hp = [⟨false, bs D⟩]) := by
  have key1 := c_impl_checkKeys c.m c.k c.n c.box c.A c.hb c.hA q cp D hD hc hm
  rw [show codeN c.m c.box c.A c.k c.n q = 0 by unfold codeN; rw [if_pos c.is, if_pos (by omega)], show netC c.m c.box c.A c.k c.n = c.cells from rfl] at key1
  have hx : List.take (8 * q) (bs D) = bs D := List.take_of_length_le (by rw [bs_length]; omega)
  have hq1 := c.hn1
  refine ⟨⟨Try.f8, Try.func8, rfl, by kernel_rfl⟩, fun w ρ xs hd hr hk => ?_⟩
  have hxl : xs.length = 3 := by have h := relL_length hr; simp at h; omega
  refine (callsIn_wide (n := 3)).1 (callsIn_of_wp_marks Try.func8 rfl trivial ?_ rfl)
  have hA : At (modOf [⟨false, bs D⟩] ρ) w 1 ρ [] ([.a c.cells, .s 0 0 q cp, .a (bs b)] ++ List.replicate 27 (.c undef)) [⟨false, bs D⟩] ⟨xs.toArray ++ Array.replicate (Try.f8.ntmps - xs.toArray.size) undef, []⟩ w := by
    refine ⟨⟨ρ, hd, ?_, fun _ _ => rfl⟩, okL_append hk (okL_iff.2 fun v hv => by rw [List.mem_replicate] at hv; rw [hv.2]; trivial), rfl, Nat.le_refl _⟩
    simp only [Array.toList_append, List.toList_toArray, Array.toList_replicate, List.size_toArray, hxl]
    refine relL_append hr ?_
    have := relL_map_c (ρ := ρ) (fun _ : Nat => undef) (List.range 27)
    simpa [List.map_const'] using this
  refine wpIn_seq (vcAll_in (mu := []) envOK (.inl rfl) rfl (tm2 := [.j, .s 0 0 q cp, .j, .p 1 0, .j, .p 2 0, .p 3 0] ++ List.replicate 23 .j) (hp2 := [⟨false, bs D⟩, ⟨true, c.cells⟩, ⟨true, bs b⟩, ⟨true, bs (List.replicate 16 0)⟩]) ?_ hA fun a1 w1 hA1 => ?_)
  · refine kL_mk (X := X0 1) ?_
    simp only [X0, XX, ↓VC, VP, TT, Nat.reduceEqDiff, reduceCtorEq, Nat.reduceAdd, Nat.reduceSub, Nat.reduceLT, Nat.reduceMul, Nat.reducePow, Nat.reduceLeDiff, Int.reduceToNat, Int.reduceLE, Int.reduceLT, Int.reducePow, List.replicate_succ, List.replicate_zero, List.cons_append, List.nil_append, n_len, ↓n_all, hb]
    refine ⟨[0, 1, 2, 3], ?_⟩
    simp [-List.reduceReplicate, LES, n_ren, n_ok, List.replicate_succ]
  clear hA
  refine wpIn_seq (wpIn_seq (vcAll_in (mu := []) envOK (.inl rfl) rfl (tm2 := [.j, .s 0 0 q cp, .j, .p 1 0, .j, .p 2 0, .p 3 0, .j, .c (.int .i64 (0))] ++ List.replicate 21 .j) (hp2 := [⟨false, bs D⟩, ⟨true, c.cells⟩, ⟨true, bs b⟩, ⟨true, bs (List.replicate 16 0)⟩]) ?_ hA1 fun a2 w2 hA2 => ?_))
  · refine kL_mk (X := X0 1) ?_
    simp only [X0, XX, ↓VC, VP, TT, Nat.reduceEqDiff, reduceCtorEq, Nat.reduceAdd, Nat.reduceSub, Nat.reduceLT, Nat.reduceMul, Nat.reducePow, Nat.reduceLeDiff, Int.reduceToNat, Int.reduceLE, Int.reduceLT, Int.reducePow, List.replicate_succ, List.replicate_zero, List.cons_append, List.nil_append, n_len, ↓n_all, hb]
    refine kCall_val (key1) (by rfl) [(0, 0)] (by simp [CALL, SCB, n_inst, n_ok, ne_inst, ne_take, ne_ok, Net.bl, instL_net, okL_net]) (by simp [CALL, SCB, n_inst, n_ok, ne_inst, ne_take, ne_ok, Net.bl, instL_net, okL_net]) (by simp [CALL, SCB, n_inst, n_ok, ne_inst, ne_take, ne_ok, Net.bl, instL_net, okL_net]) (by simp [okL_bs, okL_room, okL, okV, n_inst, n_ok, ne_inst, ne_take, ne_ok, Net.bl, instL_net, okL_net]) ?_
    simp (config := { maxSteps := 2000000 }) only [CALL, ↓VC, VP, TT, Nat.reduceEqDiff, reduceCtorEq, Nat.reduceAdd, Nat.reduceSub, Nat.reduceLT, Nat.reduceMul, Nat.reducePow, Nat.reduceLeDiff, Int.reduceToNat, Int.reduceLE, Int.reduceLT, Int.reducePow, GOB, n_inst, n_len, ↓n_all, ↓n_rd, ne_len, ne_inst0, Net.bl, instL_net, bne_self_eq_false, hb]
    refine ⟨[0, 1, 2, 3], ?_⟩
    simp [-List.reduceReplicate, LES, n_ren, n_ok, List.replicate_succ]
  clear hA1
  refine wpIn_seq (vcAll_in (mu := []) envOK (.inl rfl) rfl (tm2 := [.j, .s 0 0 q cp, .j, .p 1 0, .j, .p 2 0, .p 3 0, .j, .j, .j, .j, .j, .j, .j, .j, .j, .c (.bool (false))] ++ List.replicate 13 .j) (hp2 := [⟨false, bs D⟩, ⟨true, c.cells⟩, ⟨true, bs b⟩, ⟨true, bs (List.replicate 16 0)⟩]) ?_ hA2 fun a3 w3 hA3 => ?_)
  · refine kL_mk (X := X0 1) ?_
    simp only [X0, XX, ↓VC, VP, TT, Nat.reduceEqDiff, reduceCtorEq, Nat.reduceAdd, Nat.reduceSub, Nat.reduceLT, Nat.reduceMul, Nat.reducePow, Nat.reduceLeDiff, Int.reduceToNat, Int.reduceLE, Int.reduceLT, Int.reducePow, List.replicate_succ, List.replicate_zero, List.cons_append, List.nil_append, bne_self_eq_false]
    refine ⟨[0, 1, 2, 3], ?_⟩
    simp [-List.reduceReplicate, LES, n_ren, n_ok, List.replicate_succ]
  clear hA2
  refine wpIn_cond (t := false) (hA3.eval (by rfl)) ?_
  rw [if_neg (by simp)]
  refine wpIn_skip (wpIn_seq (vcAll_in (mu := []) envOK (.inl rfl) rfl (tm2 := tmRB q cp) (hp2 := hpRP c D b) ?_ hA3 fun a4 w4 hA4 => ?_))
  · refine kL_mk (X := X0 1) ?_
    simp only [X0, XX, ↓VC, VP, TT, Nat.reduceEqDiff, reduceCtorEq, Nat.reduceAdd, Nat.reduceSub, Nat.reduceLT, Nat.reduceMul, Nat.reducePow, Nat.reduceLeDiff, Int.reduceToNat, Int.reduceLE, Int.reduceLT, Int.reducePow, List.replicate_succ, List.replicate_zero, List.cons_append, List.nil_append, n_len, ↓n_all, hb]
    refine kCall_Ret (k_newNet c) (by rfl) [] (by simp [CALL, SCB, n_inst, n_ok, ne_inst, ne_take, ne_ok, Net.bl, instL_net, okL_net]) (by simp [CALL, SCB, n_inst, n_ok, ne_inst, ne_take, ne_ok, Net.bl, instL_net, okL_net]) (by simp [CALL, SCB, n_inst, n_ok, ne_inst, ne_take, ne_ok, Net.bl, instL_net, okL_net]) (by simp [okL_bs, okL_room, okL, okV, n_inst, n_ok, ne_inst, ne_take, ne_ok, Net.bl, instL_net, okL_net]) (by simp [CALL, SCB, n_inst, n_ok, ne_inst, ne_take, ne_ok, Net.bl, instL_net, okL_net]) fun _ _ => ?_
    simp (config := { maxSteps := 2000000 }) only [CALL, ↓VC, VP, TT, Nat.reduceEqDiff, reduceCtorEq, Nat.reduceAdd, Nat.reduceSub, Nat.reduceLT, Nat.reduceMul, Nat.reducePow, Nat.reduceLeDiff, Int.reduceToNat, Int.reduceLE, Int.reduceLT, Int.reducePow, GOB, n_inst, n_len, ↓n_all, ↓n_rd, ne_len, ne_inst0, Net.bl, instL_net, hb]
    refine ⟨[0, 1, 2, 3, 4, 5, 6, 7], ?_⟩
    simp [-List.reduceReplicate, LES, n_ren, n_ok, ne_ren, ne_ok, hpRP, tmRB, List.replicate_succ]
  clear hA3
  refine wpIn_seq (wpIn_seq (wpIn_region_lit (vcSplit_in (mu := []) envOK (.inl rfl) 1 rfl (tm2 := (tmRB q cp).set 21 (.s 0 0 q cp)) (hp2 := hpRP c D b) ?_ hA4 fun a6 w6 hA6 => ?_)))
  · refine kL_mk (X := X0 1) ?_
    simp only [X0, XX, ↓VC, VP, TT, Nat.reduceEqDiff, reduceCtorEq, Nat.reduceAdd, Nat.reduceSub, Nat.reduceLT, Nat.reduceMul, Nat.reducePow, Nat.reduceLeDiff, Int.reduceToNat, Int.reduceLE, Int.reduceLT, Int.reducePow, tmRB, List.replicate_succ, List.replicate_zero, List.cons_append, List.nil_append, List.take_succ_cons, List.take_zero]
    refine ⟨[0, 1, 2, 3, 4, 5, 6, 7], ?_⟩
    simp [-List.reduceReplicate, LES, n_ren, n_ok, ne_ren, ne_ok, hpRP, List.replicate_succ]
  clear hA4
  obtain ⟨sa, hsl⟩ := hA6.eval_s (o := .tmp 21) (by rfl)
  have hB57 : hasBody Try.prog 35 := ⟨_, Try.func35, rfl, by kernel_rfl⟩
  have hB106 : hasBody Try.prog 66 := ⟨_, Try.func66, rfl, by kernel_rfl⟩
  simp only [List.drop_succ_cons, List.drop_zero]
  refine wpListIn_plain rfl fun K hK => ⟨fun _ _ => trivial, ?_⟩
  have hrun : ∀ (dst : Option Tmp) ty pos af gd ts, Sem.run Try.prog (Oper.semAt Fence.wide.round a6.eval ⟨dst, .call ⟨.value (.func 35), #[.tmp 21], ts⟩, ty, pos, af, gd⟩) w6 = Result.ok (Next.enter 35 #[.slice sa q cp]) w6 := fun dst ty pos af gd ts => by
    simp [Oper.semAt, Fence.wide, execOp, resolve, Deferred.ofValue, Act.eval, invoke, callFunc_run hB57]
    simpa [Act.eval] using hsl
  rw [hrun, Oper.uponIn_enter]
  refine ⟨fun h => by simp [Fence.wide] at h, (backward_in _ sa q cp w6).mono ?_⟩
  rintro e W ⟨rfl, rfl⟩
  refine hK _ _ (wpListIn_nil ?_)
  clear hK K hrun
  show (Code.block 0 _).wpIn _ _ _ _ _ _
  obtain ⟨ρ6, hd6, ht6, hb6⟩ := hA6.ex
  have hok6 := hA6.ok
  have hdf6 := hA6.defers
  have hr6 : rel ρ6 (.s 0 0 q cp) (.slice sa q cp) := by have := ev_rel ht6 (.tmp 21); rw [hsl] at this; exact this
  have hd7 := hd6.push (cs := [.s 0 0 q cp]) (xs := [.slice sa q cp]) (by unfold relL; exact ⟨_, _, rfl, hr6, by simp [relL]⟩) (by simp [okL, okV, hpRP]) (by simp [Value.oneCell']) 31 true
  have ht7 := put_rel (a := a6) (relL_congr (ρ' := ρ6.upd 8 (w6.heap.size, 0)) (N := 8) (fun h hh => Loc.upd_lt ρ6 _ h hh) hok6 ht6) (v := .c (.func (.func 66) #[] #[.pointer (some ⟨w6.heap.size, 0, none⟩)])) (by unfold rel; rfl) (some 22)
  have hok7 := okL_mono (show 8 ≤ 9 by omega) (put_ok hok6 (v := .c (.func (.func 66) #[] #[.pointer (some ⟨w6.heap.size, 0, none⟩)])) (by simp [okV]) (some 22))
  have hB8 : (ρ6.upd 8 (w6.heap.size, 0)) 8 = (w6.heap.size, 0) := Loc.upd_same ..
  have hdf7 : (a6.put (some 22) (.func (.func 66) #[] #[.pointer (some ⟨w6.heap.size, 0, none⟩)])).defers = [] := by rw [put_defers, hdf6]
  have hg7 : (a6.put (some 22) (.func (.func 66) #[] #[.pointer (some ⟨w6.heap.size, 0, none⟩)])).eval (.tmp 22) = .func (.func 66) #[] #[.pointer (some ⟨w6.heap.size, 0, none⟩)] := by
    have := ev_rel ht7 (.tmp 22)
    unfold rel at this
    exact this
  change Hd _ _ (ρ6.upd 8 (w6.heap.size, 0)) _ _ at hd7
  have hb7 : ∀ h, h < 1 → (ρ6.upd 8 (w6.heap.size, 0)) h = ρ h := fun h hh => by rw [Loc.upd_lt ρ6 _ h (by omega)]; exact hb6 h hh
  clear hA6 hd6 ht6 hb6 hok6 hr6 hdf6 hsl
  change Hd _ _ _ _ (w6.alloc (.cells #[.slice sa q cp] 31)) at hd7
  generalize (w6.alloc (.cells #[.slice sa q cp] 31)) = w7 at hd7 ⊢
  generalize (a6.put (some 22) (.func (.func 66) #[] #[.pointer (some ⟨w6.heap.size, 0, none⟩)])) = a7 at ht7 hdf7 hg7 ⊢
  generalize ρ6.upd 8 (w6.heap.size, 0) = ρ7 at hd7 ht7 hB8 hb7
  generalize w6.heap.size = Bs at hB8 hg7 ht7 hok7
  change relL _ (tmR7 q cp Bs) _ at ht7
  change okL 9 (tmR7 q cp Bs) at hok7
  have hbne : ∀ {l : List UInt8} {k : Nat}, l.length = k + 1 → bs l ≠ [] := fun h e => by have := congrArg List.length e; rw [bs_length, h] at this; simp at this
  have hDne : bs D ≠ [] := hbne (k := 8 * q - 1) (by omega)
  have hb16 := hbne (k := 15) hb
  have hz16 : bs (List.replicate 16 0) ≠ [] := hbne (k := 15) (by simp)
  have l2 := hd7.lt (g := 2) (b := ⟨true, bs b⟩) rfl hb16
  have l3 := hd7.lt (g := 3) (b := ⟨true, bs (List.replicate 16 0)⟩) rfl hz16
  have s20 := hd7.sep 2 ⟨true, bs b⟩ 0 ⟨false, bs D⟩ rfl rfl (by omega) rfl hb16 hDne
  have s30 := hd7.sep 3 ⟨true, bs (List.replicate 16 0)⟩ 0 ⟨false, bs D⟩ rfl rfl (by omega) rfl hz16 hDne
  have s28 := hd7.sep 2 ⟨true, bs b⟩ 8 ⟨true, [.s 0 0 q cp]⟩ rfl rfl (by omega) rfl hb16 (by simp)
  have s38 := hd7.sep 3 ⟨true, bs (List.replicate 16 0)⟩ 8 ⟨true, [.s 0 0 q cp]⟩ rfl rfl (by omega) rfl hz16 (by simp)
  have o2 := (hd7.own 2 ⟨true, bs b⟩ rfl rfl hb16).1
  have o3 := (hd7.own 3 ⟨true, bs (List.replicate 16 0)⟩ rfl rfl hz16).1
  have l0 := hd7.lt (g := 0) (b := ⟨false, bs D⟩) rfl hDne
  have l8 := hd7.lt (g := 8) (b := ⟨true, [.s 0 0 q cp]⟩) rfl (by simp)
  obtain ⟨Mb, hMb⟩ : ∃ Mb : Nat → Prop, Mb = fun k => k = (ρ7 2).1 ∨ k = (ρ7 3).1 := ⟨_, rfl⟩
  have m2 : Mb (ρ7 2).1 := by rw [hMb]; exact .inl rfl
  have m3 : Mb (ρ7 3).1 := by rw [hMb]; exact .inr rfl
  have mlt : ∀ k, Mb k → k < w7.heap.size := fun k h => by rw [hMb] at h; rcases h with rfl | rfl <;> assumption
  have hown : ∀ v g bb, (hpRL c D q cp v)[g]? = some bb → bb.own = true → bb.cells ≠ [] → Mb (ρ7 g).1 := fun v g bb hg ho _ => by rcases hpRL_own hg ho with rfl | rfl <;> assumption
  have h0 : Hd Mb w7 ρ7 (hpRL c D q cp b) w7 := (hd7.frzX [false, false, true, true, false, false, false, false, false] rfl).anew (hown b)
  have hri : Hd none' w7 (fun h => if h = 0 then ρ7 0 else ρ7 8) (hpI D q cp) w7 := by
    refine ⟨Keep.refl _ _, by simp [hpI, okL, okV, okL_bs], fun g bb hg j v hv => ?_, fun g bb hg ho => ?_, fun g bb g' bb' hg _ _ ho => ?_⟩
    · rcases g with _ | _ | g
      · simp only [hpI, List.getElem?_cons_zero, Option.some.injEq] at hg
        subst hg
        obtain ⟨y, hy, h1, h2⟩ := h0.cell 0 ⟨false, bs D⟩ rfl j v hv
        exact ⟨y, hy, h1, rel_congr (N := 0) (fun _ h => absurd h (Nat.not_lt_zero _)) (okL_iff.1 (okL_bs 0 D) v (List.mem_of_getElem? hv)) h2⟩
      · simp only [hpI, List.getElem?_cons_succ, List.getElem?_cons_zero, Option.some.injEq] at hg
        subst hg
        obtain ⟨y, hy, h1, h2⟩ := h0.cell 8 ⟨false, [.s 0 0 q cp]⟩ rfl j v hv
        refine ⟨y, hy, h1, rel_congr (N := 1) (ρ := ρ7) (fun i h => by rw [show i = 0 by omega]; rfl) ?_ h2⟩
        exact okL_iff.1 (show okL 1 [V.s 0 0 q cp] by simp [okL, okV]) v (List.mem_of_getElem? hv)
      · simp [hpI] at hg
    · rw [hpI_ro bb (List.mem_of_getElem? hg)] at ho; cases ho
    · rw [hpI_ro bb (List.mem_of_getElem? hg)] at ho; cases ho
  have hMI : ∀ h, h < 2 → ¬ (Mb ((fun h => if h = 0 then ρ7 0 else ρ7 8) h).1 ∨ w7.heap.size ≤ ((fun h => if h = 0 then ρ7 0 else ρ7 8) h).1) := fun h hh => by
    rw [hMb]
    rcases h with _ | _ | h
    · simp only [if_true]
      omega
    · simp only [Nat.zero_add, Nat.one_ne_zero, if_false]
      omega
    · omega
  have hvl := fun pre => folB_len c D pre b hb
  refine wpIn_block (wpIn_rangeFunc_ownH rfl (by omega) (gf := 66) (lb := #[.pointer (some ⟨Bs, 0, none⟩)]) hg7 trivial (fun args w => callFunc_run hB106 args w)
    (back_stops 2 q cp Bs D hD hc hm (fun h => if h = 0 then ρ7 0 else ρ7 8) (fun k => Mb k ∨ w7.heap.size ≤ k) hMI w7 hri (by simpa using hB8))
    (fun h k => Keep.trans h k) ?kb (Below.refl _ _) (fun _ => rfl)
    (fun pre W => Hd Mb w7 ρ7 (hpRL c D q cp (folB c D b pre)) W) (fun _ _ _ => False)
    (fun _ A B row hs hg hr => hs.turned hg hr) (fun _ _ _ _ _ h _ _ => h) h0
    (fun x a' W => ∃ l : Nat × Nat, w7.heap.size ≤ l.1 ∧ (∀ j v, (bs (keyA D x))[j]? = some v → ∃ y, W.cell? ⟨l.1, l.2 + j, none⟩ = some y ∧ y.oneCell' = true ∧ rel ρ7 v y) ∧ relL (ρ7.upd 9 l) tmRA a'.tmps.toList ∧ a'.defers = [])
    (fun x a' _ A B row hs hg hr => by
      obtain ⟨l, h1, h2, h3, h4⟩ := hs
      refine ⟨l, h1, fun j v hv => ?_, h3, h4⟩
      obtain ⟨y, hy, ho, hr'⟩ := h2 j v hv
      exact ⟨y, cell_kept hy hg (fun r e => (hr r e).2), ho, hr'⟩) ?assign ?body ?done ?stop)
  case kb =>
    intro W l o o' hl hW _ _
    have hg := grownBy_putObj' W l o'
    exact ⟨hg.os, hg.tape, hg.output, hg.size, fun k hk hm => hg.block k hk (fun e => by cases e; exact hm (.inr hl))⟩
  case assign =>
    intro l pre x W K hi hK
    generalize folB c D b pre = v at hi hK
    have hkl := keyA_len D x
    have hdr : Hd none' W ρ7 (hpRR c D q cp v) W := (hi.frzX (List.replicate 9 false) rfl).anew (fun g bb hg ho _ => by rw [hpRR_ro bb (List.mem_of_getElem? hg)] at ho; cases ho)
    have hS : At none' W 9 ρ7 [] (((tmR7 q cp Bs).set 23 (.c (.int .i64 (x : Nat)))).set 24 (.a (bs (keyA D x)))) (hpRR c D q cp v) ⟨(a7.tmps.setIfInBounds 23 (.int .i64 (x : Nat))).setIfInBounds 24 (.agg ((keyA D x).map fun u => Value.int .u8 (u.toNat : Nat)).toArray), []⟩ W := by
      refine ⟨⟨ρ7, hdr, ?_, fun _ _ => rfl⟩, okL_set (okL_set (okL_mono (by simp [hpRR]) hok7) (by simp [okV]) _) (by unfold okV; exact okL_bs _ _) _, rfl, by simp [hpRR]⟩
      rw [Array.toList_setIfInBounds, Array.toList_setIfInBounds]
      refine relL_set (relL_set ht7 (by unfold rel; rfl) 23) ?_ 24
      unfold rel
      exact ⟨_, rfl, relL_map_c (fun u : UInt8 => Value.int .u8 (u.toNat : Nat)) _, by simp [Value.oneCell']⟩
    have hact : ((#[23, 24] : Array Tmp).zip (encK D x)).foldl (fun (t : Array Value) (x : Tmp × Value) => match x with | (p, v) => t.setIfInBounds p v) a7.tmps = (a7.tmps.setIfInBounds 23 (.int .i64 (x : Nat))).setIfInBounds 24 (.agg ((keyA D x).map fun u => Value.int .u8 (u.toNat : Nat)).toArray) := by
      simp [encK]
    rw [hact]
    refine vcAll_in (mu := []) envOK (.inr ⟨l, rfl⟩) rfl (tm2 := tmRA) (hp2 := hpRR c D q cp v ++ [⟨true, bs (keyA D x)⟩]) ?_ hS fun a' W' hA' => ?_
    · refine kL_mk (X := X0 9) ?_
      simp only [X0, XX, ↓VC, VP, TT, Nat.reduceEqDiff, reduceCtorEq, Nat.reduceAdd, Nat.reduceSub, Nat.reduceLT, Nat.reduceMul, Nat.reducePow, Nat.reduceLeDiff, Int.reduceToNat, Int.reduceLE, Int.reduceLT, Int.reducePow, tmR7, hpRR, List.replicate_succ, List.replicate_zero, List.cons_append, List.nil_append, List.set_cons_succ, List.set_cons_zero, hkl, bs_length]
      refine ⟨[0, 1, 2, 3, 4, 5, 6, 7, 8, 9], ?_⟩
      simp [-List.reduceReplicate, LES, n_ren, n_ok, ne_ren, ne_ok, tmRA, List.replicate_succ]
    · obtain ⟨ρ', hd', ht', hb'⟩ := hA'.ex
      have hkp := hd'.keep
      have hkn : bs (keyA D x) ≠ [] := hbne (k := 7) hkl
      have ho9 := (hd'.own 9 ⟨true, bs (keyA D x)⟩ rfl rfl hkn).1
      refine hK a' W' ⟨hkp.size, fun k o _ hk1 _ => (hkp.block k (Array.getElem?_eq_some_iff.1 hk1).1 (fun h => h)).trans hk1⟩ (hkp.mono (fun _ h => h.elim)) (hi.keep_none hkp) ⟨ρ' 9, ?_, fun j v hv => ?_, ?_, hA'.defers⟩
      · rcases ho9 with h | h
        · exact Nat.le_trans hi.keep.size h
        · exact h.elim
      · obtain ⟨y, hy, h1, h2⟩ := hd'.cell 9 ⟨true, bs (keyA D x)⟩ rfl j v hv
        exact ⟨y, hy, h1, rel_congr (N := 0) (fun _ h => absurd h (Nat.not_lt_zero _)) (okL_iff.1 (okL_bs 0 _) v (List.mem_of_getElem? hv)) h2⟩
      · refine relL_congr (N := 10) (fun h hh => ?_) hA'.ok ht'
        rcases Nat.lt_or_ge h 9 with h9 | h9
        · rw [Loc.upd_lt ρ7 _ h h9, hb' h h9]
        · rw [show h = 9 by omega, Loc.upd_same]
  case body =>
    rintro l pre x a' W hl - hi ⟨lk, h1, h2, h3, h4⟩ hlen
    have hvl := hvl pre
    have hsn := folB_snoc c D b pre x
    generalize folB c D b pre = v at hi hvl hsn
    have hkl := keyA_len D x
    have hokL : ∀ u, ∀ bb ∈ hpRL c D q cp u, okL (hpRL c D q cp u).length bb.cells := fun u => by simp [hpRL, okL, okV, okL_bs, n_ok, ne_ok]
    have hdB := (hi.anew (M2 := Mb) (hown v)).more (cs := bs (keyA D x)) (okL_bs _ _) lk h2 (fun g bb hg ho _ => by
      rcases hpRL_own hg ho with rfl | rfl
      · omega
      · omega)
    have hA8 : At Mb W 10 (ρ7.upd 9 lk) [] tmRA (hpRL c D q cp v ++ [⟨false, bs (keyA D x)⟩]) a' W := ⟨⟨_, hdB, h3, fun _ _ => rfl⟩, by simp [tmRA, okL, okV, hpRL, List.replicate_succ], h4, by simp [hpRL]⟩
    refine wpIn_block (vcAll_in (mu := []) envOK (.inr ⟨l, rfl⟩) rfl (tm2 := List.replicate 30 .j) (hp2 := hpRL c D q cp (c.rbk (keyA D x) v) ++ [⟨false, bs (keyA D x)⟩]) ?_ hA8 fun a2 W2 hA2 => ?_)
    · refine kL_mk (X := X0 10) ?_
      simp only [X0, XX, ↓VC, VP, TT, Nat.reduceEqDiff, reduceCtorEq, Nat.reduceAdd, Nat.reduceSub, Nat.reduceLT, Nat.reduceMul, Nat.reducePow, Nat.reduceLeDiff, Int.reduceToNat, Int.reduceLE, Int.reduceLT, Int.reducePow, tmRA, hpRL, List.replicate_succ, List.replicate_zero, List.cons_append, List.nil_append, hkl, hvl, bs_length]
      refine kCall_val (k_impl_rbk c (keyA D x) v hkl hvl) (by rfl) [(4, 0), (5, 0), (6, 0)] (by simp [CALL, SCB, n_inst, n_ok, ne_inst, ne_take, ne_ok, Net.bl, instL_net, okL_net]) (by simp [CALL, SCB, n_inst, n_ok, ne_inst, ne_take, ne_ok, Net.bl, instL_net, okL_net]) (by simp [CALL, SCB, n_inst, n_ok, ne_inst, ne_take, ne_ok, Net.bl, instL_net, okL_net]) (by simp [okL_bs, okL_room, okL, okV, n_inst, n_ok, ne_inst, ne_take, ne_ok, Net.bl, instL_net, okL_net]) ?_
      simp (config := { maxSteps := 2000000 }) only [CALL, ↓VC, VP, TT, Nat.reduceEqDiff, reduceCtorEq, Nat.reduceAdd, Nat.reduceSub, Nat.reduceLT, Nat.reduceMul, Nat.reducePow, Nat.reduceLeDiff, Int.reduceToNat, Int.reduceLE, Int.reduceLT, Int.reducePow, GOB, n_inst, n_len, ↓n_all, ↓n_rd, ne_len, ne_inst0, Net.bl, instL_net, rbk_len _ _ hvl, hvl]
      refine ⟨[0, 1, 2, 3, 4, 5, 6, 7, 8, 9], ?_⟩
      simp [-List.reduceReplicate, LES, n_ren, n_ok, ne_ren, ne_ok]
    · obtain ⟨ρ', hd', _, hb'⟩ := hA2.ex
      have hkp := hd'.keep
      refine ⟨⟨hkp.size, fun k o hk1 hk2 _ => (hkp.block k (Array.getElem?_eq_some_iff.1 hk2).1 (fun h => by have := mlt k h; omega)).trans hk2⟩, hkp.mono (fun _ h => .inl h), ?_⟩
      show Hd Mb w7 ρ7 (hpRL c D q cp (folB c D b (pre ++ [x]))) W2
      rw [hsn]
      exact (hd'.first (ρ' := ρ7) (hokL _) (fun g hg => by rw [hb' g (by simp [hpRL] at hg; omega), Loc.upd_lt ρ7 _ g (by simpa [hpRL] using hg)])).base hi.keep (fun _ _ h => h) (fun g bb hg ho hne => .inr (hown _ g bb hg ho hne))
  case done =>
    rintro D' ys W hD' rfl hi hK9
    rw [folB_all c D b q hD q (Nat.le_refl _)] at hi
    have hbl : (c.bak D b q q).length = 16 := bak_len hb q
    generalize c.bak D b q q = v at hi hbl ⊢
    have hA8 : At Mb W 9 ρ7 [{ target := .collected D', args := #[] }] (tmR7 q cp Bs) (hpRL c D q cp v) { a7 with defers := { target := .collected D', args := #[] } :: a7.defers } W := ⟨⟨ρ7, hi.anew (hown v), ht7, fun _ _ => rfl⟩, hok7, by rw [hdf7], by simp [hpRL]⟩
    show (Code.seq _ _).wpIn _ _ _ _ _ _
    refine wpIn_seq (vcAll_in (mu := []) envOK (.inl rfl) rfl (tm2 := List.replicate 6 .j ++ [.p 3 0, .c (.int .i64 (0))] ++ List.replicate 22 .j) (hp2 := hpRE c D q cp v) ?_ hA8 fun a9 W9 hA9 => ?_)
    · refine kL_mk (X := X0 9) ?_
      simp only [X0, XX, ↓VC, VP, TT, Nat.reduceEqDiff, reduceCtorEq, Nat.reduceAdd, Nat.reduceSub, Nat.reduceLT, Nat.reduceMul, Nat.reducePow, Nat.reduceLeDiff, Int.reduceToNat, Int.reduceLE, Int.reduceLT, Int.reducePow, tmR7, hpRL, List.replicate_succ, List.replicate_zero, List.cons_append, List.nil_append, hbl, bs_length]
      refine ⟨[0, 1, 2, 3, 4, 5, 6, 7, 8], ?_⟩
      simp [-List.reduceReplicate, LES, n_ren, n_ok, ne_ren, ne_ok, hpRE, List.replicate_succ]
    · refine wpIn_ret ?_
      obtain ⟨ρ', hd', ht', hb'⟩ := hA9.ex
      have hkp := hd'.keep
      have hK10 : W9.heap[D']? = some (.deferred (some [])) := (hkp.block D' (Array.getElem?_eq_some_iff.1 hK9).1 (fun h => by have := mlt D' h; omega)).trans hK9
      show LeavesInM _ _ _ _ _ _ a9.defers .returning W9
      rw [hA9.defers]
      refine ⟨by simp, .inl ⟨_, _, rfl, run_takeDeferred hK10, ?_⟩⟩
      have hRO : ∀ g bb, (hpRE c D q cp v)[g]? = some bb → bb.own = true → bb.cells ≠ [] → w7.heap.size ≤ (ρ' g).1 ∨ Mb (ρ' g).1 := fun g bb hg ho _ => by
        rcases hpRE_own hg ho with rfl | rfl
        · rw [hb' 2 (by omega)]; exact .inr m2
        · rw [hb' 3 (by omega)]; exact .inr m3
      have hE8 := (hd'.base hi.keep (fun _ _ h => h) hRO).turned (grownBy_putObj' W9 D' (.deferred none)) (fun r e => by cases e; exact ⟨hD', _, hK10, rfl⟩)
      obtain ⟨u, y, rfl, hy, hyo, hrun⟩ := vRes_sound (X := X0 0) (fn := Try.f8) (k := fun u => u = .t [.a (bs v), .c (.int .i64 (0))]) envOK hE8 ht' hA9.ok (by
        show vRes _ [ResultVar.cell 6 33, ResultVar.tmp 7] _ _ _
        simp only [X0, XX, ↓VC, VP, TT, Nat.reduceEqDiff, reduceCtorEq, Nat.reduceAdd, Nat.reduceSub, Nat.reduceLT, Nat.reduceMul, Nat.reducePow, Nat.reduceLeDiff, Int.reduceToNat, Int.reduceLE, Int.reduceLT, Int.reducePow, hpRE, List.replicate_succ, List.replicate_zero, List.cons_append, List.nil_append, hbl, bs_length])
      refine ⟨y, hrun, _, _, ρ', y, rfl, ⟨rfl, rfl⟩, ?_, Nat.le_refl _, fun h hh => ?_, hy, ?_⟩
      · refine (hE8.first (A := [⟨false, bs D⟩]) (ρ' := ρ') (by simp [okL_bs]) (fun _ _ => rfl)).base hd7.keep (fun k hk1 hk2 => ?_) (fun g bb hg ho _ => ?_)
        · rw [hMb] at hk2
          rcases hk2 with rfl | rfl
          · rcases o2 with h | h
            · omega
            · exact h
          · rcases o3 with h | h
            · omega
            · exact h
        · rcases g with _ | g
          · simp at hg; subst hg; cases ho
          · simp at hg
      · simp only [List.length_cons, List.length_nil, Nat.zero_add] at hh
        rw [hb' h (by omega), hb7 h (by omega)]
      · simp [okV, okL, okL_bs]
  case stop => exact fun _ _ _ _ _ _ h _ => h.elim
end Go.Proofs.Ytjakgjelnbpmnaa

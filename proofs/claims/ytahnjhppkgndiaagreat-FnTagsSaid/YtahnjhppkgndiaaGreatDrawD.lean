import Derived.Test.YtahnjhppkgndiaaGreatDrawC
import Derived.Test.YtahnjhppkgndiaaGreatCiphIs
/- Draws of ciphers. -/
set_option linter.unusedSimpArgs false
set_option linter.unusedVariables false
namespace Go.Proofs.YtahnjhppkgndiaaGreat
open Go Go.Vc
set_option maxRecDepth 10000
set_option maxHeartbeats 40000000
section
variable {f r : Int} {box A pl : List UInt8} {k : V → Prop} {kl : List V → Prop}
theorem cip_put_f {x : Int} : vPut (cipC f box A pl r) 0 [.c (.int .i64 x)] kl = kl (cipC x box A pl r) := by unfold cipC; rw [vPut_zero]
theorem cip_put_n {x : Int} (hb : box.length = 256) (hA : A.length = 16) (hp : pl.length = 16) : vPut (cipC f box A pl r) 289 [.c (.int .i64 x)] kl = kl (cipC f box A pl x) := by
  unfold vPut
  rw [cip_spl1 hb hA hp, cipC_len hb hA hp]
  exact propext ⟨fun x => x.2, fun x => ⟨by simp, x⟩⟩
theorem cip_put_all {f' r' : Int} {box' A' pl' : List UInt8} (hb : box.length = 256) (hA : A.length = 16) (hp : pl.length = 16) (hb' : box'.length = 256) (hA' : A'.length = 16) (hp' : pl'.length = 16) : vPut (cipC f box A pl r) 0 (cipC f' box' A' pl' r') kl = kl (cipC f' box' A' pl' r') := vPut_all (by rw [cipC_len hb hA hp, cipC_len hb' hA' hp'])
theorem cip_at_box {x : Nat} (hb : box.length = 256) (hx : x < 256) : vGet (cipC f box A pl r) (1 + x) k = k (.c (.int .u8 ((box.getD x 0).toNat : Int))) := by
  unfold cipC
  rw [vGet_oneAdd, vGet_appL (by rw [bs_length, hb]; exact hx), vGet_bs]
  exact propext ⟨fun y => y.2, fun y => ⟨by omega, y⟩⟩
theorem cip_at_pl {x : Nat} (hb : box.length = 256) (hA : A.length = 16) (hp : pl.length = 16) (hx : x < 16) : vGet (cipC f box A pl r) (273 + x) k = k (.c (.int .u8 ((pl.getD x 0).toNat : Int))) := by
  unfold cipC
  rw [show 273 + x = 1 + (272 + x) by omega, vGet_oneAdd, vGet_appR (by rw [bs_length, hb]; omega), bs_length, hb, show 272 + x - 256 = 16 + x by omega, vGet_appR (by rw [bs_length, hA]; omega), bs_length, hA, Nat.add_sub_cancel_left, vGet_appL (by rw [bs_length, hp]; exact hx), vGet_bs]
  exact propext ⟨fun y => y.2, fun y => ⟨by omega, y⟩⟩
theorem cip_sub_mix {o n : Nat} (hb : box.length = 256) (hA : A.length = 16) (h : o + n ≤ 16) : vSub (cipC f box A pl r) (257 + o) n k = k (.a (bs ((A.drop o).take n))) := by
  unfold cipC
  rw [show 257 + o = 1 + (256 + o) by omega, vSub_oneAdd, vSub_appR (by rw [bs_length, hb]; omega), bs_length, hb, Nat.add_sub_cancel_left, vSub_appL (by rw [bs_length, hA]; exact h), vSub_bs]
  exact propext ⟨fun y => y.2, fun y => ⟨by omega, y⟩⟩
theorem cip_put_mixS {o : Nat} {w : List UInt8} (hb : box.length = 256) (hA : A.length = 16) (h : o + w.length ≤ 16) : vPut (cipC f box A pl r) (257 + o) (bs w) kl = kl (cipC f box (splB A o w) pl r) := by
  unfold cipC
  rw [show 257 + o = 1 + (256 + o) by omega, vPut_oneAdd, vPut_appR (by rw [bs_length, hb]; omega), bs_length, hb, Nat.add_sub_cancel_left, vPut_appL (by rw [bs_length, bs_length, hA]; exact h), vPut_bss]
  exact propext ⟨fun y => y.2, fun y => ⟨by omega, y⟩⟩
end
theorem cip_put_mixA {f r : Int} {box A pl w : List UInt8} {kl : List V → Prop} (hb : box.length = 256) (hA : A.length = 16) (hw : w.length = 16) : vPut (cipC f box A pl r) 257 (bs w) kl = kl (cipC f box w pl r) := by
  rw [show 257 = 257 + 0 from rfl, cip_put_mixS hb hA (by omega)]
  have hd : List.drop 16 A = [] := List.drop_eq_nil_of_le (by omega)
  unfold splB
  simp [hw, hA, hd]
theorem ml1 (a0 a1 a2 a3 : V) : (splice (bs (List.replicate 16 0)) 0 [a0, a1, a2, a3]).length = 16 := rfl
theorem ml2 (a0 a1 a2 a3 b0 b1 b2 b3 : V) : (splice (splice (bs (List.replicate 16 0)) 0 [a0, a1, a2, a3]) 4 [b0, b1, b2, b3]).length = 16 := rfl
theorem ml3 (a0 a1 a2 a3 b0 b1 b2 b3 c0 c1 c2 c3 : V) : (splice (splice (splice (bs (List.replicate 16 0)) 0 [a0, a1, a2, a3]) 4 [b0, b1, b2, b3]) 8 [c0, c1, c2, c3]).length = 16 := rfl
theorem mixV (a0 a1 a2 a3 b0 b1 b2 b3 c0 c1 c2 c3 d0 d1 d2 d3 : V) : splice (splice (splice (splice (bs (List.replicate 16 0)) 0 [a0, a1, a2, a3]) 4 [b0, b1, b2, b3]) 8 [c0, c1, c2, c3]) 12 [d0, d1, d2, d3] = [a0, a1, a2, a3, b0, b1, b2, b3, c0, c1, c2, c3, d0, d1, d2, d3] := rfl
theorem mixW (u : UInt8) : [V.c (.int .u8 1), .c (.int .u8 0), .c (.int .u8 0), .c (.int .u8 0), .c (.int .u8 0), .c (.int .u8 1), .c (.int .u8 0), .c (.int .u8 0), .c (.int .u8 0), .c (.int .u8 0), .c (.int .u8 1), .c (.int .u8 0), .c (.int .u8 (u.toNat : Int)), .c (.int .u8 0), .c (.int .u8 0), .c (.int .u8 1)] = bs [1, 0, 0, 0, 0, 1, 0, 0, 0, 0, 1, 0, u, 0, 0, 1] := rfl
theorem sp0 (a b c d x : V) : splice [a, b, c, d] 0 [x] = [x, b, c, d] := rfl
theorem sp1 (a b c d x : V) : splice [a, b, c, d] 1 [x] = [a, x, c, d] := rfl
theorem sp2 (a b c d x : V) : splice [a, b, c, d] 2 [x] = [a, b, x, d] := rfl
theorem sp3 (a b c d x : V) : splice [a, b, c, d] 3 [x] = [a, b, c, x] := rfl
theorem bP : [V.c (.int .u8 16), .c (.int .u8 1), .c (.int .u8 255)] = bs [16, 1, 255] := rfl
theorem take3 : List.take 3 (bs [16, 1, 255]) = bs [16, 1, 255] := rfl
theorem b4 : bs (List.replicate 4 0) = [.c (.int .u8 0), .c (.int .u8 0), .c (.int .u8 0), .c (.int .u8 0)] := rfl
/-- A cipher as it is drawn: perhaps none. -/
structure DC where
  z : Int
  box : List UInt8
  A : List UInt8
  pl : List UInt8
  n : Int
structure DC.ok (d : DC) : Prop where
  b : d.box.length = 256
  A : d.A.length = 16
  p : d.pl.length = 16
def DC.cells (d : DC) : List V := cipC d.z d.box d.A d.pl d.n
theorem z256 : (List.replicate 256 (0 : UInt8)).length = 256 := List.length_replicate
theorem z16 : (List.replicate 16 (0 : UInt8)).length = 16 := List.length_replicate
theorem svz_inst {g n c : Nat} {q : Nat × Nat} {R : List (Nat × Nat)} (N : Nat) : V.instL ((g, 0) :: R) N (sv 0 n c q) = sv g n c q := by simp [sv, V.instL, V.inst]
/-- Simplifying facts, bundled. -/
theorem SD : type_of% (
  And.intro @svz_inst <|
  And.intro @instL_cip <|
  And.intro @okL_cip <|
  And.intro @sv_inst <|
  And.intro @sv_ok <|
  And.intro @sv_len <|
  And.intro @sv_take <|
  And.intro @nsv_length <|
  And.intro @instL_nsv <|
  And.intro @okL_nsv <|
  And.intro @instL_room <|
  @okL_room) :=
  And.intro @svz_inst <|
  And.intro @instL_cip <|
  And.intro @okL_cip <|
  And.intro @sv_inst <|
  And.intro @sv_ok <|
  And.intro @sv_len <|
  And.intro @sv_take <|
  And.intro @nsv_length <|
  And.intro @instL_nsv <|
  And.intro @okL_nsv <|
  And.intro @instL_room <|
  @okL_room
/-- Simplifying facts, bundled. -/
theorem GD : type_of% (
  And.intro @svz_inst <|
  And.intro @instL_cip <|
  And.intro @cip_build <|
  And.intro @sv_inst <|
  And.intro @sv_len <|
  And.intro @instL_nsv <|
  And.intro @nsv_length <|
  @instL_room) :=
  And.intro @svz_inst <|
  And.intro @instL_cip <|
  And.intro @cip_build <|
  And.intro @sv_inst <|
  And.intro @sv_len <|
  And.intro @instL_nsv <|
  And.intro @nsv_length <|
  @instL_room
section
variable {l : List UInt8} {c : Nat} {q : Nat × Nat}
theorem d_pick8 (hc : l.length ≤ c) (hm : l.length ≤ 4096) (hq : okS l q) (L : List UInt8) (cl : Nat) (hL : 1 ≤ L.length) (hL2 : L.length ≤ 1048576) : LC Tryz.prog 177 [.p 0 0, .s 2 0 L.length cl] [⟨true, sv 1 l.length c q⟩, ⟨false, bs l⟩, ⟨false, bs L⟩] (RetM (fun x : (Nat × Nat) × UInt8 => okS l x.1) fun x => (.c (.int .u8 ((x.2).toNat : Int)), [⟨true, sv 1 l.length c x.1⟩, ⟨false, bs l⟩, ⟨false, bs L⟩], [])) := by
  refine LC_of (X := XX (fun _ => .nil) (fun _ => []) [15, 71, 72, 73, 79, 80, 87, 90, 91, 93, 99, 119, 137, 176, 177, 203, 204, 212, 219] 3) envOK Tryz.func177 (by kernel_rfl) (by kernel_rfl) rfl (Nat.le_of_ble_eq_true (by kernel_rfl)) ?_
  simp only [kFun, Tryz.f177, List.length_nil, List.length_cons, Nat.sub_zero, Nat.reduceSub, Nat.reduceAdd, List.nil_append, List.cons_append, List.replicate_succ, List.replicate_zero]
  simp only [XX, ↓VC, VP, TT, Nat.reduceEqDiff, reduceCtorEq, Nat.reduceAdd, Nat.reduceSub, Nat.reduceLT, Nat.reduceMul, Nat.reducePow, Nat.reduceLeDiff, Int.reduceToNat, Int.reduceLE, Int.reduceLT, Int.reducePow]
  refine kCall_M (d_next hc hm hq (L.length : Int)) (by rfl) [(0, 0), (1, 0)] (by simp [CALL, SCB, SD, nsv]) (by simp [CALL, SCB, SD, nsv]) (by simp) (by simp [CALL, SCB, SD, nsv]) (by simp [okL_bs, okL_room, okL, okV, SD, nsv]) (by intro x _; simp [keepR, bs_length, SD, nsv]) (by simp [CALL, SCB, SD, nsv]) fun x hx => ?_
  simp (config := { maxSteps := 2000000 }) only [CALL, ↓VC, VP, TT, Nat.reduceEqDiff, reduceCtorEq, Nat.reduceAdd, Nat.reduceSub, Nat.reduceLT, Nat.reduceMul, Nat.reducePow, Nat.reduceLeDiff, Int.reduceToNat, Int.reduceLE, Int.reduceLT, Int.reducePow, GOB, GD, cipC_len z256 z16 z16]
  obtain ⟨h1, h2, h3, h4⟩ := hx
  have h3 := h3 (by omega)
  have hj : x.2.toNat < L.length := by omega
  refine ⟨h2, h3, hj, ?_⟩
  refine ⟨_, _, [0, 1, 2], ⟨(x.1, L.getD x.2.toNat 0), h1, rfl, rfl⟩, ?_⟩
  simp [-List.reduceReplicate, LES, sv_ren, sv_ok]
/-- A field's number is in range. -/
def fieldR (z : Int) : Prop := 256 ≤ z ∧ z < 512
theorem LC_monoM {P : Program} {f : FuncId} {args : List V} {ha : List Blk} {p p' : V → List Blk → Prop} (h : LC P f args ha p) (hm : ∀ v hp, p v hp → p' v hp) : LC P f args ha p' := by
  refine ⟨h.1, fun w ρ xs hd hr hk => (h.2 w ρ xs hd hr hk).mono fun e w' hR => ?_⟩
  obtain ⟨v, hp', ρ', x, he, hv, hrest⟩ := hR
  exact ⟨v, hp', ρ', x, he, hm _ _ hv, hrest⟩
theorem d_cipherF (hc : l.length ≤ c) (hm : l.length ≤ 4096) (hq : okS l q) : LC Tryz.prog 176 [.p 0 0] [⟨true, sv 1 l.length c q⟩, ⟨false, bs l⟩] (RetM (fun x : (Nat × Nat) × DC => okS l x.1 ∧ x.2.ok ∧ fieldR x.2.z) fun x => (.a x.2.cells, [⟨true, sv 1 l.length c x.1⟩, ⟨false, bs l⟩], [])) := by
  refine LC_of (X := XX (fun | 9 => .one 0 (.one 2 (.one 4 (.one 7 (.one 1 (.one 8 (.one 3 (.one 5 (.one 6 (.one 9 (.one 10 .nil)))))))))) | _ => .nil) (fun _ => []) [15, 71, 72, 73, 79, 80, 87, 90, 91, 93, 99, 119, 137, 176, 177, 203, 204, 212, 219] 2) envOK Tryz.func176 (by kernel_rfl) (by kernel_rfl) rfl (Nat.le_of_ble_eq_true (by kernel_rfl)) ?_
  simp only [kFun, Tryz.f176, List.length_nil, List.length_cons, Nat.sub_zero, Nat.reduceSub, Nat.reduceAdd, List.nil_append, List.cons_append, List.replicate_succ, List.replicate_zero]
  simp only [XX, ↓VC, VP, TT, Nat.reduceEqDiff, reduceCtorEq, Nat.reduceAdd, Nat.reduceSub, Nat.reduceLT, Nat.reduceMul, Nat.reducePow, Nat.reduceLeDiff, Int.reduceToNat, Int.reduceLE, Int.reduceLT, Int.reducePow, cip_build, cipC_len z256 z16 z16]
  refine kCall_M (d_next hc hm hq 20) (by rfl) [(0, 0), (1, 0)] (by simp [CALL, SCB, SD, nsv]) (by simp [CALL, SCB, SD, nsv]) (by simp) (by simp [CALL, SCB, SD, nsv]) (by simp [okL_bs, okL_room, okL, okV, SD, nsv]) (by intro x _; simp [keepR, bs_length, SD, nsv]) (by simp [CALL, SCB, SD, nsv]) fun x1 h1 => ?_
  simp (config := { maxSteps := 2000000 }) only [CALL, ↓VC, VP, TT, Nat.reduceEqDiff, reduceCtorEq, Nat.reduceAdd, Nat.reduceSub, Nat.reduceLT, Nat.reduceMul, Nat.reducePow, Nat.reduceLeDiff, Int.reduceToNat, Int.reduceLE, Int.reduceLT, Int.reducePow, GOB, GD, cipC_len z256 z16 z16]
  refine kCall_M (d_pick hc hm h1.1 [0, 1, 2, 3, 5, 9, x1.2] 7 (by simp) (by simp)) (by rfl) [(0, 0), (1, 0), (3, 0)] (by simp [CALL, SCB, SD, nsv, splice]) (by simp [CALL, SCB, SD, nsv, splice]) (by simp) (by simp [CALL, SCB, SD, nsv, splice]) (by simp [okL_bs, okL_room, okL, okV, SD, nsv, splice]) (by intro x _; simp [keepR, bs_length, SD, nsv, splice]) (by simp [CALL, SCB, SD, nsv, splice]) fun x2 h2 => ?_
  simp (config := { maxSteps := 2000000 }) only [CALL, ↓VC, VP, TT, Nat.reduceEqDiff, reduceCtorEq, Nat.reduceAdd, Nat.reduceSub, Nat.reduceLT, Nat.reduceMul, Nat.reducePow, Nat.reduceLeDiff, Int.reduceToNat, Int.reduceLE, Int.reduceLT, Int.reducePow, GOB, GD, cipC_len z256 z16 z16]
  have hl := cipC_len (f := 285) (r := IntKind.i64.wrap (1 + x2.2)) houseB_len houseA_len houseP_len
  refine kCall_val (c_spec_l04House (IntKind.i64.wrap (1 + x2.2))) (by rfl) [] (by simp [CALL, SCB, SD, nsv, houseC]) (by simp [CALL, SCB, SD, nsv, houseC]) (by simp [CALL, SCB, SD, nsv, houseC]) (by simp [okL_bs, okL_room, okL, okV, SD, nsv, houseC]) ?_
  simp (config := { maxSteps := 2000000 }) only [CALL, ↓VC, VP, TT, Nat.reduceEqDiff, reduceCtorEq, Nat.reduceAdd, Nat.reduceSub, Nat.reduceLT, Nat.reduceMul, Nat.reducePow, Nat.reduceLeDiff, Int.reduceToNat, Int.reduceLE, Int.reduceLT, Int.reducePow, GOB, GD, cipC_len z256 z16 z16, houseC, hl, ↓cip_put_all z256 z16 z16 houseB_len houseA_len houseP_len, ↓cip_all houseB_len houseA_len houseP_len]
  have hq2 := h2.1
  generalize x2.1 = q2 at *
  generalize IntKind.i64.wrap (1 + x2.2) = n at *
  refine kCall_M (d_next hc hm hq2 2) (by rfl) [(0, 0), (1, 0)] (by simp [CALL, SCB, SD, nsv]) (by simp [CALL, SCB, SD, nsv]) (by simp) (by simp [CALL, SCB, SD, nsv]) (by simp [okL_bs, okL_room, okL, okV, SD, nsv]) (by intro x _; simp [keepR, bs_length, SD, nsv]) (by simp [CALL, SCB, SD, nsv]) fun x3 h3 => ?_
  simp (config := { maxSteps := 2000000 }) only [CALL, ↓VC, VP, TT, Nat.reduceEqDiff, reduceCtorEq, Nat.reduceAdd, Nat.reduceSub, Nat.reduceLT, Nat.reduceMul, Nat.reducePow, Nat.reduceLeDiff, Int.reduceToNat, Int.reduceLE, Int.reduceLT, Int.reducePow, GOB, GD, cipC_len z256 z16 z16, hl, ↓cip_put_all z256 z16 z16 houseB_len houseA_len houseP_len, ↓cip_all houseB_len houseA_len houseP_len]
  refine ⟨fun _ => ?_, fun _ => ?_⟩
  · exact ⟨_, _, [0, 1], ⟨(x3.1, ⟨285, houseB, houseA, houseP, n⟩), ⟨h3.1, ⟨houseB_len, houseA_len, houseP_len⟩, ⟨by simp only; omega, by simp only; omega⟩⟩, rfl, rfl⟩, by simp [-List.reduceReplicate, LES, sv_ren, sv_ok, DC.cells, renL_cip, okL_cip]⟩
  · refine kCall_M (d_field hc hm h3.1) (by rfl) [(0, 0), (1, 0)] (by simp [CALL, SCB, SD, nsv]) (by simp [CALL, SCB, SD, nsv]) (by simp) (by simp [CALL, SCB, SD, nsv]) (by simp [okL_bs, okL_room, okL, okV, SD, nsv]) (by intro x _; simp [keepR, bs_length, SD, nsv]) (by simp [CALL, SCB, SD, nsv]) fun x4 h4 => ?_
    simp (config := { maxSteps := 2000000 }) only [CALL, ↓VC, VP, TT, Nat.reduceEqDiff, reduceCtorEq, Nat.reduceAdd, Nat.reduceSub, Nat.reduceLT, Nat.reduceMul, Nat.reducePow, Nat.reduceLeDiff, Int.reduceToNat, Int.reduceLE, Int.reduceLT, Int.reducePow, GOB, GD, cipC_len z256 z16 z16, hl, ↓cip_put_f]
    obtain ⟨q4, m⟩ := x4
    obtain ⟨hq4, hf⟩ := h4
    simp only at hq4 hf ⊢
    have hmb := field_bd hf
    refine kCall_M (d_box hc hm hq4) (by rfl) [(0, 0), (1, 0)] (by simp [CALL, SCB, SD, nsv]) (by simp [CALL, SCB, SD, nsv]) (by simp) (by simp [CALL, SCB, SD, nsv]) (by simp [okL_bs, okL_room, okL, okV, SD, nsv]) (by intro x _; simp [keepR, bs_length, SD, nsv]) (by simp [CALL, SCB, SD, nsv]) fun x5 h5 => ?_
    obtain ⟨q5, b⟩ := x5
    obtain ⟨hq5, hb⟩ := h5
    simp only at hq5 hb ⊢
    have hl2 : ∀ z A r, A.length = 16 → (cipC z b A houseP r).length = 290 := fun z A r hA => cipC_len hb hA houseP_len
    simp (config := { maxSteps := 2000000 }) only [CALL, ↓VC, VP, TT, Nat.reduceEqDiff, reduceCtorEq, Nat.reduceAdd, Nat.reduceSub, Nat.reduceLT, Nat.reduceMul, Nat.reducePow, Nat.reduceLeDiff, Int.reduceToNat, Int.reduceLE, Int.reduceLT, Int.reducePow, GOB, GD, cipC_len z256 z16 z16, hb, ↓cip_put_box houseB_len hb, hl, hl2 _ _ _ houseA_len]
    refine kCall_M (d_next hc hm hq5 4) (by rfl) [(0, 0), (1, 0)] (by simp [CALL, SCB, SD, nsv]) (by simp [CALL, SCB, SD, nsv]) (by simp) (by simp [CALL, SCB, SD, nsv]) (by simp [okL_bs, okL_room, okL, okV, SD, nsv]) (by intro x _; simp [keepR, bs_length, SD, nsv]) (by simp [CALL, SCB, SD, nsv]) fun x6 h6 => ?_
    simp (config := { maxSteps := 2000000 }) only [CALL, ↓VC, VP, TT, Nat.reduceEqDiff, reduceCtorEq, Nat.reduceAdd, Nat.reduceSub, Nat.reduceLT, Nat.reduceMul, Nat.reducePow, Nat.reduceLeDiff, Int.reduceToNat, Int.reduceLE, Int.reduceLT, Int.reducePow, GOB, GD, cipC_len z256 z16 z16]
    obtain ⟨q6, k6⟩ := x6
    obtain ⟨hq6, h6, h6b, _⟩ := h6
    simp only at hq6 h6 h6b ⊢
    have h6b := h6b (by omega)
    obtain ⟨k6, rfl⟩ : ∃ j : Nat, k6 = j := ⟨k6.toNat, by omega⟩
    refine kLoop_of (fun s : Nat × (Nat × Nat) × List UInt8 => ([.p 0 0, .j, .p 2 0, .p 3 0, .c (.int .i64 (s.1)), .j, .j, .j, .j, .j, .j, .j, .j, .j, .j, .j, .j, .j, .j, .j, .j, .j, .j, .j, .j, .j, .j, .j, .j, .j, .j, .j, .j, .j, .j, .j, .j, .j, .j, .j, .j, .j, .j, .j, .j, .j, .j, .j, .j, .j, .j, .j, .j, .j, .j, .j, .j, .j, .j, .j, .j, .j, .j, .j, .j, .j, .j, .j, .j, .j, .j, .j, .j, .j, .j, .j, .j, .j, .j, .j, .j, .j], [⟨true, sv 1 l.length c s.2.1⟩, ⟨false, bs l⟩, ⟨true, cipC 0 (List.replicate 256 0) (List.replicate 16 0) (List.replicate 16 0) 0⟩, ⟨true, cipC m b s.2.2 houseP n⟩])) (fun s => s.1) (fun s => s.1 ≤ 4 ∧ okS l s.2.1 ∧ s.2.2.length = 16) (k6, q6, houseA) ⟨by simp only; omega, hq6, houseA_len⟩ ⟨[0, 1, 2, 4], by simp [-List.reduceReplicate, LES, sv_ren, sv_ok, renL_cip, okL_cip]⟩ ?_
    clear hq6 h6b h6
    rintro ⟨k6, q6, A⟩ ⟨hk6, hq6, hA⟩
    simp only at hk6 hq6 hA
    rcases Nat.eq_zero_or_pos k6 with h0 | h0
    · subst h0
      simp only [↓VC, VP, TT, Nat.reduceEqDiff, reduceCtorEq, Nat.reduceAdd, Nat.reduceSub, Nat.reduceLT, Nat.reduceMul, Nat.reducePow, Nat.reduceLeDiff, Int.reduceToNat, Int.reduceLE, Int.reduceLT, Int.reducePow, (eq_false (by omega) : (((0 : Nat) : Int) > 0) = False), decide_false, ↓cip_field, ↓cip_mix hb hA]
      have hI := backL_len m hA
      refine kCall_val (c_spec_l03Inverse m A (by omega) (by omega) hA) (by rfl) [] (by simp [CALL, SCB, SD, nsv]) (by simp [CALL, SCB, SD, nsv]) (by simp [CALL, SCB, SD, nsv]) (by simp [okL_bs, okL_room, okL, okV, SD, nsv]) ?_
      simp (config := { maxSteps := 2000000 }) only [CALL, ↓VC, VP, TT, Nat.reduceEqDiff, reduceCtorEq, Nat.reduceAdd, Nat.reduceSub, Nat.reduceLT, Nat.reduceMul, Nat.reducePow, Nat.reduceLeDiff, Int.reduceToNat, Int.reduceLE, Int.reduceLT, Int.reducePow, GOB, GD, cipC_len z256 z16 z16, hI]
      refine ⟨fun _ => ?_, fun _ => ?_⟩
      · simp only [b4, sp0, sp1, sp2, sp3, List.length_cons, List.length_nil, Nat.reduceAdd, Nat.reduceLeDiff, if_true]
        refine kCall_M (d_next hc hm hq6 256) (by rfl) [(0, 0), (1, 0)] (by simp [CALL, SCB, SD, nsv]) (by simp [CALL, SCB, SD, nsv]) (by simp) (by simp [CALL, SCB, SD, nsv]) (by simp [okL_bs, okL_room, okL, okV, SD, nsv]) (by intro x _; simp [keepR, bs_length, SD, nsv]) (by simp [CALL, SCB, SD, nsv]) fun x7 h7 => ?_
        simp (config := { maxSteps := 2000000 }) only [CALL, ↓VC, VP, TT, Nat.reduceEqDiff, reduceCtorEq, Nat.reduceAdd, Nat.reduceSub, Nat.reduceLT, Nat.reduceMul, Nat.reducePow, Nat.reduceLeDiff, Int.reduceToNat, Int.reduceLE, Int.reduceLT, Int.reducePow, GOB, GD, cipC_len z256 z16 z16, wrap_u8, b4, sp0, sp1, sp2, sp3, List.length_cons, List.length_nil, if_true, ml1, ml2, ml3, mixV, mixW]
        have hq7 := h7.1
        generalize hW : ([1, 0, 0, 0, 0, 1, 0, 0, 0, 0, 1, 0, UInt8.ofInt x7.2, 0, 0, 1] : List UInt8) = W
        have hWl : W.length = 16 := by rw [← hW]; rfl
        simp only [↓cip_put_mixA hb hA hWl, bs_length, hWl, true_and]
        refine kCall_M (d_next hc hm hq7 16) (by rfl) [(0, 0), (1, 0)] (by simp [CALL, SCB, SD, nsv]) (by simp [CALL, SCB, SD, nsv]) (by simp) (by simp [CALL, SCB, SD, nsv]) (by simp [okL_bs, okL_room, okL, okV, SD, nsv]) (by intro x _; simp [keepR, bs_length, SD, nsv]) (by simp [CALL, SCB, SD, nsv]) fun x8 h8 => ?_
        simp (config := { maxSteps := 2000000 }) only [CALL, ↓VC, VP, TT, Nat.reduceEqDiff, reduceCtorEq, Nat.reduceAdd, Nat.reduceSub, Nat.reduceLT, Nat.reduceMul, Nat.reducePow, Nat.reduceLeDiff, Int.reduceToNat, Int.reduceLE, Int.reduceLT, Int.reducePow, GOB, GD, cipC_len z256 z16 z16]
        obtain ⟨q8, z8⟩ := x8
        obtain ⟨hq8, h8a, h8b, _⟩ := h8
        simp only at hq8 h8a h8b ⊢
        have h8b := h8b (by omega)
        obtain ⟨i, rfl⟩ : ∃ j : Nat, z8 = j := ⟨z8.toNat, by omega⟩
        have hi : i < 16 := by omega
        refine kCall_M (d_next hc hm hq8 16) (by rfl) [(0, 0), (1, 0)] (by simp [CALL, SCB, SD, nsv]) (by simp [CALL, SCB, SD, nsv]) (by simp) (by simp [CALL, SCB, SD, nsv]) (by simp [okL_bs, okL_room, okL, okV, SD, nsv]) (by intro x _; simp [keepR, bs_length, SD, nsv]) (by simp [CALL, SCB, SD, nsv]) fun x9 h9 => ?_
        obtain ⟨q9, z9⟩ := x9
        obtain ⟨hq9, h9a, h9b, _⟩ := h9
        simp only at hq9 h9a h9b ⊢
        have h9b := h9b (by omega)
        obtain ⟨j, rfl⟩ : ∃ j : Nat, z9 = j := ⟨z9.toNat, by omega⟩
        have hj : j < 16 := by omega
        have hp1 : ∀ u, (houseP.set i u).length = 16 := fun u => by rw [List.length_set, houseP_len]
        have hp2 : ∀ u v, ((houseP.set i u).set j v).length = 16 := fun u v => by rw [List.length_set, hp1]
        simp (config := { maxSteps := 2000000 }) only [CALL, ↓VC, VP, TT, Nat.reduceEqDiff, reduceCtorEq, Nat.reduceAdd, Nat.reduceSub, Nat.reduceLT, Nat.reduceMul, Nat.reducePow, Nat.reduceLeDiff, Int.reduceToNat, Int.reduceLE, Int.reduceLT, Int.reducePow, GOB, GD, cipC_len z256 z16 z16, Int.toNat_natCast, hi, hj, ofInt_toNat, cipC_len hb hWl houseP_len, cipC_len hb hWl (hp1 _), cipC_len hb hWl (hp2 _ _), ↓cip_at_pl hb hWl houseP_len hi, ↓cip_at_pl hb hWl houseP_len hj, ↓cip_put_pl hb hWl houseP_len hi (of_eq_true (inU8_toNat _)), ↓cip_put_pl hb hWl (hp1 _) hj (of_eq_true (inU8_toNat _)), ↓cip_put_all z256 z16 z16 hb hWl (hp2 _ _), ↓cip_all hb hWl (hp2 _ _)]
        repeat (refine ⟨by first | omega | (simp; done) | decide, ?_⟩)
        exact ⟨_, _, [0, 1], ⟨(q9, ⟨m, b, W, (houseP.set i (houseP.getD j 0)).set j (houseP.getD i 0), n⟩), ⟨hq9, ⟨hb, hWl, hp2 _ _⟩, ⟨by simp only; omega, by simp only; omega⟩⟩, rfl, rfl⟩, by simp [-List.reduceReplicate, LES, sv_ren, sv_ok, DC.cells, renL_cip, okL_cip]⟩
      · skip
        refine kCall_M (d_next hc hm hq6 16) (by rfl) [(0, 0), (1, 0)] (by simp [CALL, SCB, SD, nsv]) (by simp [CALL, SCB, SD, nsv]) (by simp) (by simp [CALL, SCB, SD, nsv]) (by simp [okL_bs, okL_room, okL, okV, SD, nsv]) (by intro x _; simp [keepR, bs_length, SD, nsv]) (by simp [CALL, SCB, SD, nsv]) fun x8 h8 => ?_
        simp (config := { maxSteps := 2000000 }) only [CALL, ↓VC, VP, TT, Nat.reduceEqDiff, reduceCtorEq, Nat.reduceAdd, Nat.reduceSub, Nat.reduceLT, Nat.reduceMul, Nat.reducePow, Nat.reduceLeDiff, Int.reduceToNat, Int.reduceLE, Int.reduceLT, Int.reducePow, GOB, GD, cipC_len z256 z16 z16]
        obtain ⟨q8, z8⟩ := x8
        obtain ⟨hq8, h8a, h8b, _⟩ := h8
        simp only at hq8 h8a h8b ⊢
        have h8b := h8b (by omega)
        obtain ⟨i, rfl⟩ : ∃ j : Nat, z8 = j := ⟨z8.toNat, by omega⟩
        have hi : i < 16 := by omega
        refine kCall_M (d_next hc hm hq8 16) (by rfl) [(0, 0), (1, 0)] (by simp [CALL, SCB, SD, nsv]) (by simp [CALL, SCB, SD, nsv]) (by simp) (by simp [CALL, SCB, SD, nsv]) (by simp [okL_bs, okL_room, okL, okV, SD, nsv]) (by intro x _; simp [keepR, bs_length, SD, nsv]) (by simp [CALL, SCB, SD, nsv]) fun x9 h9 => ?_
        obtain ⟨q9, z9⟩ := x9
        obtain ⟨hq9, h9a, h9b, _⟩ := h9
        simp only at hq9 h9a h9b ⊢
        have h9b := h9b (by omega)
        obtain ⟨j, rfl⟩ : ∃ j : Nat, z9 = j := ⟨z9.toNat, by omega⟩
        have hj : j < 16 := by omega
        have hp1 : ∀ u, (houseP.set i u).length = 16 := fun u => by rw [List.length_set, houseP_len]
        have hp2 : ∀ u v, ((houseP.set i u).set j v).length = 16 := fun u v => by rw [List.length_set, hp1]
        simp (config := { maxSteps := 2000000 }) only [CALL, ↓VC, VP, TT, Nat.reduceEqDiff, reduceCtorEq, Nat.reduceAdd, Nat.reduceSub, Nat.reduceLT, Nat.reduceMul, Nat.reducePow, Nat.reduceLeDiff, Int.reduceToNat, Int.reduceLE, Int.reduceLT, Int.reducePow, GOB, GD, cipC_len z256 z16 z16, Int.toNat_natCast, hi, hj, ofInt_toNat, cipC_len hb hA houseP_len, cipC_len hb hA (hp1 _), cipC_len hb hA (hp2 _ _), ↓cip_at_pl hb hA houseP_len hi, ↓cip_at_pl hb hA houseP_len hj, ↓cip_put_pl hb hA houseP_len hi (of_eq_true (inU8_toNat _)), ↓cip_put_pl hb hA (hp1 _) hj (of_eq_true (inU8_toNat _)), ↓cip_put_all z256 z16 z16 hb hA (hp2 _ _), ↓cip_all hb hA (hp2 _ _)]
        repeat (refine ⟨by first | omega | (simp; done) | decide, ?_⟩)
        exact ⟨_, _, [0, 1], ⟨(q9, ⟨m, b, A, (houseP.set i (houseP.getD j 0)).set j (houseP.getD i 0), n⟩), ⟨hq9, ⟨hb, hA, hp2 _ _⟩, ⟨by simp only; omega, by simp only; omega⟩⟩, rfl, rfl⟩, by simp [-List.reduceReplicate, LES, sv_ren, sv_ok, DC.cells, renL_cip, okL_cip]⟩
    · simp only [↓VC, VP, TT, Nat.reduceEqDiff, reduceCtorEq, Nat.reduceAdd, Nat.reduceSub, Nat.reduceLT, Nat.reduceMul, Nat.reducePow, Nat.reduceLeDiff, Int.reduceToNat, Int.reduceLE, Int.reduceLT, Int.reducePow, (eq_true (by omega) : ((k6 : Int) > 0) = True), decide_true]
      refine kCall_M (d_next hc hm hq6 4) (by rfl) [(0, 0), (1, 0)] (by simp [CALL, SCB, SD, nsv]) (by simp [CALL, SCB, SD, nsv]) (by simp) (by simp [CALL, SCB, SD, nsv]) (by simp [okL_bs, okL_room, okL, okV, SD, nsv]) (by intro x _; simp [keepR, bs_length, SD, nsv]) (by simp [CALL, SCB, SD, nsv]) fun x7 h7 => ?_
      simp (config := { maxSteps := 2000000 }) only [CALL, ↓VC, VP, TT, Nat.reduceEqDiff, reduceCtorEq, Nat.reduceAdd, Nat.reduceSub, Nat.reduceLT, Nat.reduceMul, Nat.reducePow, Nat.reduceLeDiff, Int.reduceToNat, Int.reduceLE, Int.reduceLT, Int.reducePow, GOB, GD, cipC_len z256 z16 z16]
      obtain ⟨q7, z7⟩ := x7
      obtain ⟨hq7, h7a, h7b, _⟩ := h7
      simp only at hq7 h7a h7b ⊢
      have h7b := h7b (by omega)
      obtain ⟨i, rfl⟩ : ∃ j : Nat, z7 = j := ⟨z7.toNat, by omega⟩
      have hi : i < 4 := by omega
      try simp only [Int.toNat_natCast, hi]
      try refine ⟨by omega, by omega, ?_⟩
      refine kCall_M (d_next hc hm hq7 4) (by rfl) [(0, 0), (1, 0)] (by simp [CALL, SCB, SD, nsv]) (by simp [CALL, SCB, SD, nsv]) (by simp) (by simp [CALL, SCB, SD, nsv]) (by simp [okL_bs, okL_room, okL, okV, SD, nsv]) (by intro x _; simp [keepR, bs_length, SD, nsv]) (by simp [CALL, SCB, SD, nsv]) fun x8 h8 => ?_
      simp (config := { maxSteps := 2000000 }) only [CALL, ↓VC, VP, TT, Nat.reduceEqDiff, reduceCtorEq, Nat.reduceAdd, Nat.reduceSub, Nat.reduceLT, Nat.reduceMul, Nat.reducePow, Nat.reduceLeDiff, Int.reduceToNat, Int.reduceLE, Int.reduceLT, Int.reducePow, GOB, GD, cipC_len z256 z16 z16]
      obtain ⟨q8, z8⟩ := x8
      obtain ⟨hq8, h8a, h8b, _⟩ := h8
      simp only at hq8 h8a h8b ⊢
      have h8b := h8b (by omega)
      obtain ⟨j, rfl⟩ : ∃ j : Nat, z8 = j := ⟨z8.toNat, by omega⟩
      have hj : j < 4 := by omega
      refine kCall_M (d_next hc hm hq8 256) (by rfl) [(0, 0), (1, 0)] (by simp [CALL, SCB, SD, nsv]) (by simp [CALL, SCB, SD, nsv]) (by simp) (by simp [CALL, SCB, SD, nsv]) (by simp [okL_bs, okL_room, okL, okV, SD, nsv]) (by intro x _; simp [keepR, bs_length, SD, nsv]) (by simp [CALL, SCB, SD, nsv]) fun x9 h9 => ?_
      simp (config := { maxSteps := 2000000 }) only [CALL, ↓VC, VP, TT, Nat.reduceEqDiff, reduceCtorEq, Nat.reduceAdd, Nat.reduceSub, Nat.reduceLT, Nat.reduceMul, Nat.reducePow, Nat.reduceLeDiff, Int.reduceToNat, Int.reduceLE, Int.reduceLT, Int.reducePow, GOB, GD, cipC_len z256 z16 z16, wrap_u8, Int.toNat_natCast, ↓cip_put_mix2 hb hA hi hj (of_eq_true (inU8_toNat _))]
      repeat (refine ⟨by first | omega | (simp; done) | decide, ?_⟩)
      refine ⟨(k6 - 1, x9.1, A.set (4 * i + j) (UInt8.ofInt x9.2)), ⟨by simp only; omega, h9.1, by simp only [List.length_set]; exact hA⟩, by simp only; omega, [0, 1, 2, 3], ?_⟩
      rw [wrap_i64 (by omega) (by omega), show (k6 : Int) - 1 = ((k6 - 1 : Nat) : Int) by omega]
      simp [-List.reduceReplicate, LES, sv_ren, sv_ok, renL_cip, okL_cip]
theorem d_cipher (hc : l.length ≤ c) (hm : l.length ≤ 4096) (hq : okS l q) : LC Tryz.prog 176 [.p 0 0] [⟨true, sv 1 l.length c q⟩, ⟨false, bs l⟩] (RetM (fun x : (Nat × Nat) × DC => okS l x.1 ∧ x.2.ok) fun x => (.a x.2.cells, [⟨true, sv 1 l.length c x.1⟩, ⟨false, bs l⟩], [])) := by
  refine LC_monoM (d_cipherF hc hm hq) fun v hp h => ?_
  obtain ⟨x, hx, h⟩ := h
  exact ⟨x, ⟨hx.1, hx.2.1⟩, h⟩
theorem d_cipherS (hc : l.length ≤ c) (hm : l.length ≤ 4096) (hq : okS l q) : LC Tryz.prog 137 [.p 0 0] [⟨true, sv 1 l.length c q⟩, ⟨false, bs l⟩] (RetM (fun x : (Nat × Nat) × DC => okS l x.1 ∧ x.2.ok) fun x => (.a x.2.cells, [⟨true, sv 1 l.length c x.1⟩, ⟨false, bs l⟩], [])) := by
  refine LC_of (X := XX (fun _ => .nil) (fun _ => []) [15, 71, 72, 73, 79, 80, 87, 90, 91, 93, 99, 119, 137, 176, 177, 203, 204, 212, 219] 2) envOK Tryz.func137 (by kernel_rfl) (by kernel_rfl) rfl (Nat.le_of_ble_eq_true (by kernel_rfl)) ?_
  simp only [kFun, Tryz.f137, List.length_nil, List.length_cons, Nat.sub_zero, Nat.reduceSub, Nat.reduceAdd, List.nil_append, List.cons_append, List.replicate_succ, List.replicate_zero]
  simp only [XX, ↓VC, VP, TT, Nat.reduceEqDiff, reduceCtorEq, Nat.reduceAdd, Nat.reduceSub, Nat.reduceLT, Nat.reduceMul, Nat.reducePow, Nat.reduceLeDiff, Int.reduceToNat, Int.reduceLE, Int.reduceLT, Int.reducePow, cip_build, cipC_len z256 z16 z16]
  refine kCall_M (d_cipher hc hm hq) (by rfl) [(0, 0), (1, 0)] (by simp [CALL, SCB, SD, nsv]) (by simp [CALL, SCB, SD, nsv]) (by simp) (by simp [CALL, SCB, SD, nsv]) (by simp [okL_bs, okL_room, okL, okV, SD, nsv]) (by intro x _; simp [keepR, bs_length, SD, nsv]) (by simp [CALL, SCB, SD, nsv]) fun x1 h1 => ?_
  obtain ⟨q1, ⟨z, b, A, pl, n⟩⟩ := x1
  obtain ⟨hq1, ⟨hb, hA, hp⟩⟩ := h1
  simp only [DC.cells] at hq1 hb hA hp ⊢
  simp (config := { maxSteps := 2000000 }) only [CALL, ↓VC, VP, TT, Nat.reduceEqDiff, reduceCtorEq, Nat.reduceAdd, Nat.reduceSub, Nat.reduceLT, Nat.reduceMul, Nat.reducePow, Nat.reduceLeDiff, Int.reduceToNat, Int.reduceLE, Int.reduceLT, Int.reducePow, GOB, GD, cipC_len z256 z16 z16, cipC_len hb hA hp]
  have hr : ((A.drop 4).take 4).length = 4 := by simp [hA]
  have hA2 : (splB A 0 ((A.drop 4).take 4)).length = 16 := by rw [splB_length (by omega), hA]
  have hb2 : ∀ u, (b.set 0 u).length = 256 := fun u => by rw [List.length_set, hb]
  have hp2 : ∀ u, (pl.set 0 u).length = 16 := fun u => by rw [List.length_set, hp]
  have hp3 : ∀ u v, ((pl.set 0 u).set 1 v).length = 16 := fun u v => by rw [List.length_set, hp2]
  have e1 : ∀ k : V → Prop, vGet (cipC z b A pl n) 2 k = k (.c (.int .u8 ((b.getD 1 0).toNat : Int))) := fun k => cip_at_box (x := 1) hb (by omega)
  have e2 : ∀ (u : UInt8) (kl : List V → Prop), vPut (cipC z b A pl n) 1 [.c (.int .u8 (u.toNat : Int))] kl = kl (cipC z (b.set 0 u) A pl n) := fun u kl => by
    have := cip_put_box1 (f := z) (r := n) (A := A) (pl := pl) (kl := kl) (x := 0) hb (by omega) (of_eq_true (inU8_toNat u))
    rw [ofInt_toNat] at this; exact this
  have e3 : ∀ k : V → Prop, vSub (cipC z b A pl n) 261 4 k = k (.a (bs ((A.drop 4).take 4))) := fun k => cip_sub_mix (o := 4) hb hA (by omega)
  have e4 : ∀ kl : List V → Prop, vPut (cipC z b A pl n) 257 (bs ((A.drop 4).take 4)) kl = kl (cipC z b (splB A 0 ((A.drop 4).take 4)) pl n) := fun kl => cip_put_mixS (o := 0) hb hA (by omega)
  have e5 : ∀ (u : UInt8) (kl : List V → Prop), vPut (cipC z b A pl n) 273 [.c (.int .u8 (u.toNat : Int))] kl = kl (cipC z b A (pl.set 0 u) n) := fun u kl => by
    have := cip_put_pl (f := z) (r := n) (kl := kl) (x := 0) hb hA hp (by omega) (of_eq_true (inU8_toNat u))
    rw [ofInt_toNat] at this; exact this
  have e6 : ∀ (u : UInt8) (k : V → Prop), vGet (cipC z b A (pl.set 0 u) n) 273 k = k (.c (.int .u8 (((pl.set 0 u).getD 0 0).toNat : Int))) := fun u k => cip_at_pl (x := 0) hb hA (hp2 u) (by omega)
  have e7 : ∀ (u v : UInt8) (kl : List V → Prop), vPut (cipC z b A (pl.set 0 u) n) 274 [.c (.int .u8 (v.toNat : Int))] kl = kl (cipC z b A ((pl.set 0 u).set 1 v) n) := fun u v kl => by
    have := cip_put_pl (f := z) (r := n) (kl := kl) (x := 1) hb hA (hp2 u) (by omega) (of_eq_true (inU8_toNat v))
    rw [ofInt_toNat] at this; exact this
  refine kCall_M (d_next hc hm hq1 24) (by rfl) [(0, 0), (1, 0)] (by simp [CALL, SCB, SD, nsv]) (by simp [CALL, SCB, SD, nsv]) (by simp) (by simp [CALL, SCB, SD, nsv]) (by simp [okL_bs, okL_room, okL, okV, SD, nsv]) (by intro x _; simp [keepR, bs_length, SD, nsv]) (by simp [CALL, SCB, SD, nsv]) fun x2 h2 => ?_
  simp (config := { maxSteps := 2000000 }) only [CALL, ↓VC, VP, TT, Nat.reduceEqDiff, reduceCtorEq, Nat.reduceAdd, Nat.reduceSub, Nat.reduceLT, Nat.reduceMul, Nat.reducePow, Nat.reduceLeDiff, Int.reduceToNat, Int.reduceLE, Int.reduceLT, Int.reducePow, GOB, GD, cipC_len z256 z16 z16, cipC_len hb hA hp, cipC_len (hb2 _) hA hp, cipC_len hb hA2 hp, ↓e1, ↓e2, ↓e3, ↓e4, bs_length, hr, ↓cip_put_all z256 z16 z16 hb hA hp, ↓cip_put_all z256 z16 z16 (hb2 _) hA hp, ↓cip_put_all z256 z16 z16 hb hA2 hp, ↓cip_all hb hA hp, ↓cip_all (hb2 _) hA hp, ↓cip_all hb hA2 hp]
  have hq2 := h2.1
  refine ⟨fun _ => ?_, fun _ => ⟨fun _ => ?_, fun _ => ⟨fun _ => ?_, fun _ => ⟨fun _ => ?_, fun _ => ⟨fun _ => ?_, fun _ => ?_⟩⟩⟩⟩⟩
  · refine kCall_M (d_pick hc hm hq2 [256, 511, 0, 512] 4 (by simp) (by simp)) (by rfl) [(0, 0), (1, 0), (4, 0)] (by simp [CALL, SCB, SD, nsv, splice]) (by simp [CALL, SCB, SD, nsv, splice]) (by simp) (by simp [CALL, SCB, SD, nsv, splice]) (by simp [okL_bs, okL_room, okL, okV, SD, nsv, splice]) (by intro x _; simp [keepR, bs_length, SD, nsv, splice]) (by simp [CALL, SCB, SD, nsv, splice]) fun x3 h3 => ?_
    simp (config := { maxSteps := 2000000 }) only [CALL, ↓VC, VP, TT, Nat.reduceEqDiff, reduceCtorEq, Nat.reduceAdd, Nat.reduceSub, Nat.reduceLT, Nat.reduceMul, Nat.reducePow, Nat.reduceLeDiff, Int.reduceToNat, Int.reduceLE, Int.reduceLT, Int.reducePow, GOB, GD, cipC_len z256 z16 z16, cipC_len hb hA hp, ↓cip_put_f, ↓cip_put_all z256 z16 z16 hb hA hp, ↓cip_all hb hA hp]
    exact ⟨_, _, [0, 1], ⟨(x3.1, ⟨x3.2, b, A, pl, n⟩), ⟨h3.1, ⟨hb, hA, hp⟩⟩, rfl, rfl⟩, by simp [-List.reduceReplicate, LES, sv_ren, sv_ok, DC.cells, renL_cip, okL_cip]⟩
  · repeat (refine ⟨by first | omega | (simp; done) | decide, ?_⟩)
    exact ⟨_, _, [0, 1], ⟨(x2.1, ⟨z, b.set 0 (b.getD 1 0), A, pl, n⟩), ⟨hq2, ⟨hb2 _, hA, hp⟩⟩, rfl, rfl⟩, by simp [-List.reduceReplicate, LES, sv_ren, sv_ok, DC.cells, renL_cip, okL_cip]⟩
  · repeat (refine ⟨by first | omega | (simp; done) | decide, ?_⟩)
    exact ⟨_, _, [0, 1], ⟨(x2.1, ⟨z, b, splB A 0 ((A.drop 4).take 4), pl, n⟩), ⟨hq2, ⟨hb, hA2, hp⟩⟩, rfl, rfl⟩, by simp [-List.reduceReplicate, LES, sv_ren, sv_ok, DC.cells, renL_cip, okL_cip]⟩
  · refine kCall_M (d_pick8 hc hm hq2 [16, 1, 255] 3 (by simp) (by simp)) (by rfl) [(0, 0), (1, 0), (4, 0)] (by simp [CALL, SCB, SD, nsv, splice, bP, take3]) (by simp [CALL, SCB, SD, nsv, splice, bP, take3]) (by simp) (by simp [CALL, SCB, SD, nsv, splice, bP, take3]) (by simp [okL_bs, okL_room, okL, okV, SD, nsv, splice, bP, take3]) (by intro x _; simp [keepR, bs_length, SD, nsv, splice, bP, take3]) (by simp [CALL, SCB, SD, nsv, splice, bP, take3]) fun x3 h3 => ?_
    simp (config := { maxSteps := 2000000 }) only [CALL, ↓VC, VP, TT, Nat.reduceEqDiff, reduceCtorEq, Nat.reduceAdd, Nat.reduceSub, Nat.reduceLT, Nat.reduceMul, Nat.reducePow, Nat.reduceLeDiff, Int.reduceToNat, Int.reduceLE, Int.reduceLT, Int.reducePow, GOB, GD, cipC_len z256 z16 z16, cipC_len hb hA hp, cipC_len hb hA (hp3 _ _), ↓e5, ↓e6, ↓e7, ↓cip_put_all z256 z16 z16 hb hA (hp3 _ _), ↓cip_all hb hA (hp3 _ _)]
    repeat (refine ⟨by first | omega | (simp; done) | decide, ?_⟩)
    exact ⟨_, _, [0, 1], ⟨(x3.1, ⟨z, b, A, (pl.set 0 x3.2).set 1 ((pl.set 0 x3.2).getD 0 0), n⟩), ⟨h3, ⟨hb, hA, hp3 _ _⟩⟩, rfl, rfl⟩, by simp [-List.reduceReplicate, LES, sv_ren, sv_ok, DC.cells, renL_cip, okL_cip]⟩
  · refine kCall_M (d_pick hc hm hq2 [0, 21, -1] 3 (by simp) (by simp)) (by rfl) [(0, 0), (1, 0), (4, 0)] (by simp [CALL, SCB, SD, nsv, splice]) (by simp [CALL, SCB, SD, nsv, splice]) (by simp) (by simp [CALL, SCB, SD, nsv, splice]) (by simp [okL_bs, okL_room, okL, okV, SD, nsv, splice]) (by intro x _; simp [keepR, bs_length, SD, nsv, splice]) (by simp [CALL, SCB, SD, nsv, splice]) fun x3 h3 => ?_
    simp (config := { maxSteps := 2000000 }) only [CALL, ↓VC, VP, TT, Nat.reduceEqDiff, reduceCtorEq, Nat.reduceAdd, Nat.reduceSub, Nat.reduceLT, Nat.reduceMul, Nat.reducePow, Nat.reduceLeDiff, Int.reduceToNat, Int.reduceLE, Int.reduceLT, Int.reducePow, GOB, GD, cipC_len z256 z16 z16, cipC_len hb hA hp, ↓cip_put_n hb hA hp, ↓cip_put_all z256 z16 z16 hb hA hp, ↓cip_all hb hA hp]
    exact ⟨_, _, [0, 1], ⟨(x3.1, ⟨z, b, A, pl, x3.2⟩), ⟨h3.1, ⟨hb, hA, hp⟩⟩, rfl, rfl⟩, by simp [-List.reduceReplicate, LES, sv_ren, sv_ok, DC.cells, renL_cip, okL_cip]⟩
  · exact ⟨_, _, [0, 1], ⟨(x2.1, ⟨z, b, A, pl, n⟩), ⟨hq2, ⟨hb, hA, hp⟩⟩, rfl, rfl⟩, by simp [-List.reduceReplicate, LES, sv_ren, sv_ok, DC.cells, renL_cip, okL_cip]⟩
end
end Go.Proofs.YtahnjhppkgndiaaGreat

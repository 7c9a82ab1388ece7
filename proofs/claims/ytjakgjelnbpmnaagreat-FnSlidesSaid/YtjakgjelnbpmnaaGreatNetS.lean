import Derived.Test.YtjakgjelnbpmnaaGreatNetQ
import Derived.Test.YtjakgjelnbpmnaaGreatNetF
/- Networks: keys turned, halves exchanged, complements, slid blocks. -/
set_option linter.unusedSimpArgs false
set_option linter.unusedVariables false
namespace Go.Proofs.YtjakgjelnbpmnaaGreat
open Go Go.Vc
set_option maxRecDepth 10000
set_option maxHeartbeats 4000000
theorem c_impl_ExchangeHalves (b : List UInt8) (hb : b.length = 16) : LC Tryz.prog 28 [.a (bs b)] [] (fun v hp => v = .a (bs (exch b)) ∧ hp = []) := by
  have hd : (b.drop 8).length = 8 := by rw [List.length_drop]; omega
  have ht : (b.take 8).length = 8 := by rw [List.length_take]; omega
  have he : (b.drop 8 ++ b.take 8).length = 16 := exch_len hb
  refine LC_of (X := XX (fun _ => .nil) (fun _ => []) [33, 34, 35, 36, 39, 45, 53, 54, 65, 75, 90, 91, 92, 104] 0) envOK Tryz.func28 (by kernel_rfl) (by kernel_rfl) rfl (Nat.le_of_ble_eq_true (by kernel_rfl)) ?_
  simp only [kFun, Tryz.f28, List.length_nil, List.length_cons, Nat.sub_zero, Nat.reduceSub, Nat.reduceAdd, List.nil_append, List.cons_append, List.replicate_succ, List.replicate_zero]
  simp only [XX, ↓VC, VP, TT, Nat.reduceEqDiff, reduceCtorEq, Nat.reduceAdd, Nat.reduceSub, Nat.reduceLT, Nat.reduceMul, Nat.reducePow, Nat.reduceLeDiff, Int.reduceToNat, Int.reduceLE, Int.reduceLT, Int.reducePow, hb]
  refine kCall_val (c_impl_halves b hb) (by rfl) [] (by simp [CALL, SCB, n_inst, n_ok, ne_inst, ne_take, ne_ok, Net.bl, instL_net, okL_net]) (by simp [CALL, SCB, n_inst, n_ok, ne_inst, ne_take, ne_ok, Net.bl, instL_net, okL_net]) (by simp [CALL, SCB, n_inst, n_ok, ne_inst, ne_take, ne_ok, Net.bl, instL_net, okL_net]) (by simp [okL_bs, okL_room, okL, okV, n_inst, n_ok, ne_inst, ne_take, ne_ok, Net.bl, instL_net, okL_net]) ?_
  simp (config := { maxSteps := 2000000 }) only [CALL, ↓VC, VP, TT, Nat.reduceEqDiff, reduceCtorEq, Nat.reduceAdd, Nat.reduceSub, Nat.reduceLT, Nat.reduceMul, Nat.reducePow, Nat.reduceLeDiff, Int.reduceToNat, Int.reduceLE, Int.reduceLT, Int.reducePow, GOB, n_inst, n_len, ↓n_all, ↓n_rd, ne_len, ne_inst0, Net.bl, instL_net, hd, ht]
  refine kCall_val (c_impl_joined (b.drop 8) (b.take 8) hd ht) (by rfl) [] (by simp [CALL, SCB, n_inst, n_ok, ne_inst, ne_take, ne_ok, Net.bl, instL_net, okL_net]) (by simp [CALL, SCB, n_inst, n_ok, ne_inst, ne_take, ne_ok, Net.bl, instL_net, okL_net]) (by simp [CALL, SCB, n_inst, n_ok, ne_inst, ne_take, ne_ok, Net.bl, instL_net, okL_net]) (by simp [okL_bs, okL_room, okL, okV, n_inst, n_ok, ne_inst, ne_take, ne_ok, Net.bl, instL_net, okL_net]) ?_
  simp (config := { maxSteps := 2000000 }) only [CALL, ↓VC, VP, TT, Nat.reduceEqDiff, reduceCtorEq, Nat.reduceAdd, Nat.reduceSub, Nat.reduceLT, Nat.reduceMul, Nat.reducePow, Nat.reduceLeDiff, Int.reduceToNat, Int.reduceLE, Int.reduceLT, Int.reducePow, GOB, n_inst, n_len, ↓n_all, ↓n_rd, ne_len, ne_inst0, Net.bl, instL_net, he]
  refine ⟨_, _, [], ⟨rfl, rfl⟩, ?_⟩
  simp [-List.reduceReplicate, LES, exch] <;> rfl
theorem xor255 (u : UInt8) : bitI .xor .u8 255 (u.toNat : Int) = ((u ^^^ 255).toNat : Int) := by
  have := bitI_u8 .xor (255 : UInt8) u
  rw [show ((255 : UInt8).toNat : Int) = 255 from rfl] at this
  rw [this, UInt8.xor_comm]
theorem xor255' (u : UInt8) : bitI .xor .u8 (u.toNat : Int) 255 = ((u ^^^ 255).toNat : Int) := by
  have := bitI_u8 .xor u (255 : UInt8)
  rw [show ((255 : UInt8).toNat : Int) = 255 from rfl] at this
  rw [this]
/-- The first i of n bytes combined with 255. -/
def cmpI (n : Nat) (b : List UInt8) (i : Nat) : List UInt8 := tab n fun x => if x < i then b.getD x 0 ^^^ 255 else b.getD x 0
theorem cmpI_len (n : Nat) (b : List UInt8) (i : Nat) : (cmpI n b i).length = n := tab_len _ _
theorem cmpI_zero {n : Nat} {b : List UInt8} (hb : b.length = n) : cmpI n b 0 = b := ext_getD (cmpI_len _ _ _) hb fun x hx => by unfold cmpI; rw [map_getD hx, if_neg (by omega)]
theorem cmpI_done (n : Nat) (b : List UInt8) : cmpI n b n = cmpN n b := by unfold cmpI cmpN; exact tab_congr fun x hx => by rw [if_pos hx]
theorem cmpI_at {n : Nat} {b : List UInt8} {i : Nat} (h : i < n) : (cmpI n b i).getD i 0 = b.getD i 0 := by unfold cmpI; rw [map_getD h, if_neg (by omega)]
theorem cmpI_step {n : Nat} {b : List UInt8} {i : Nat} (h : i < n) : (cmpI n b i).set i (b.getD i 0 ^^^ 255) = cmpI n b (i + 1) := by
  refine ext_getD (n := n) (by rw [List.length_set, cmpI_len]) (cmpI_len _ _ _) fun x hx => ?_
  unfold cmpI
  rw [map_getD hx, List.getD_eq_getElem?_getD, List.getElem?_set]
  by_cases e : i = x
  · subst e
    rw [if_pos rfl, if_pos (by rw [tab_len]; exact h), if_pos (by omega)]
    rfl
  · rw [if_neg e, ← List.getD_eq_getElem?_getD, map_getD hx]
    by_cases g : x < i
    · rw [if_pos g, if_pos (by omega)]
    · rw [if_neg g, if_neg (by omega)]
theorem c_impl_ComplementOf (b : List UInt8) (hb : b.length = 16) : LC Tryz.prog 30 [.a (bs b)] [] (fun v hp => v = .a (bs (cmpN 16 b)) ∧ hp = []) := by
  refine LC_of (X := XX (fun _ => .nil) (fun _ => []) [33, 34, 35, 36, 39, 45, 53, 54, 65, 75, 90, 91, 92, 104] 0) envOK Tryz.func30 (by kernel_rfl) (by kernel_rfl) rfl (Nat.le_of_ble_eq_true (by kernel_rfl)) ?_
  simp only [kFun, Tryz.f30, List.length_nil, List.length_cons, Nat.sub_zero, Nat.reduceSub, Nat.reduceAdd, List.nil_append, List.cons_append, List.replicate_succ, List.replicate_zero]
  simp only [XX, ↓VC, VP, TT, Nat.reduceEqDiff, reduceCtorEq, Nat.reduceAdd, Nat.reduceSub, Nat.reduceLT, Nat.reduceMul, Nat.reducePow, Nat.reduceLeDiff, Int.reduceToNat, Int.reduceLE, Int.reduceLT, Int.reducePow, hb]
  refine kLoop_of (fun i : Nat => ([.j, .p 0 0, .p 1 0, .j, .c (.int .i64 (i)), .j, .j, .j, .j, .j, .j, .j, .j, .j, .j], [⟨true, bs (cmpI 16 b i)⟩, ⟨true, bs (List.replicate 16 0)⟩])) (fun i => 16 - i) (fun i => i ≤ 16) 0 (by omega) ⟨[0, 1], by simp [-List.reduceReplicate, LES, cmpI_zero hb]⟩ ?_
  intro i hi
  rcases Nat.lt_or_ge i 16 with h | h
  · simp only [↓VC, VP, TT, Nat.reduceEqDiff, reduceCtorEq, Nat.reduceAdd, Nat.reduceSub, Nat.reduceLT, Nat.reduceMul, Nat.reducePow, Nat.reduceLeDiff, Int.reduceToNat, Int.reduceLE, Int.reduceLT, Int.reducePow, h, (eq_true (by omega) : ((i : Int) < 16) = True), (eq_true (by omega) : ((i : Int) < ((16 : Nat) : Int)) = True), wrap_i64 (n := (i : Int) + 1) (by omega) (by omega), decide_true, Int.toNat_natCast, cmpI_len, h, cmpI_at h, vUn, xor255, xor255', show (if IntKind.u8.signed = true then (-1 : Int) else IntKind.u8.max) = 255 from rfl, show IntKind.u8.max = 255 from rfl, show IntKind.u8.signed = false from rfl]
    refine ⟨i + 1, by omega, by omega, [0, 1], ?_⟩
    try rw [xor255]
    try rw [xor255']
    have e := cmpI_step (n := 16) (b := b) h
    rw [List.getD_eq_getElem?_getD] at e
    simp [-List.reduceReplicate, LES, ofInt_toNat, e]
  · obtain rfl : i = 16 := by omega
    have hp : ∀ kl : List V → Prop, vPut (bs (List.replicate 16 0)) 0 (bs (cmpI 16 b 16)) kl = kl (bs (cmpI 16 b 16)) := fun kl => vPut_all (by rw [bs_length, bs_length, cmpI_len, List.length_replicate])
    have hg : ∀ kk : V → Prop, vSub (bs (cmpI 16 b 16)) 0 16 kk = kk (.a (bs (cmpI 16 b 16))) := fun kk => vSub_all (by rw [bs_length, cmpI_len])
    have hg2 : ∀ kk : V → Prop, vGet (bs (cmpI 16 b 16)) 0 kk = kk (.c (.int .u8 (((cmpI 16 b 16).getD 0 0).toNat : Int))) := fun kk => by rw [vGet_bs]; exact propext ⟨fun x => x.2, fun x => ⟨by rw [cmpI_len]; omega, x⟩⟩
    simp only [↓VC, VP, TT, Nat.reduceEqDiff, reduceCtorEq, Nat.reduceAdd, Nat.reduceSub, Nat.reduceLT, Nat.reduceMul, Nat.reducePow, Nat.reduceLeDiff, Int.reduceToNat, Int.reduceLE, Int.reduceLT, Int.reducePow, show ((((16 : Nat) : Int)) < 16) = False from eq_false (by decide), decide_false, cmpI_len, ↓hp, ↓hg]
    refine ⟨_, _, [], ⟨rfl, rfl⟩, ?_⟩
    rw [cmpI_done]
    simp [-List.reduceReplicate, LES]
/-! Slices of halves. -/
section
variable {L : List UInt8} {q : Nat}
theorem hf_sub {X : List V} {i : Nat} (hL : L.length = 8 * q) (h : i < q) {k : V → Prop} : vSub (bs L ++ X) (i * 8) 8 k = k (.a (bs (hfA L i))) := by
  rw [vSub_appL (by rw [bs_length]; omega), vSub_bs, hfA_eq]
  exact propext ⟨fun x => x.2, fun x => ⟨by omega, x⟩⟩
theorem hf_put {X : List V} {i : Nat} {v : List UInt8} (hL : L.length = 8 * q) (hv : v.length = 8) (h : i < q) {k : List V → Prop} : vPut (bs L ++ X) (i * 8) (bs v) k = k (bs (splB L (i * 8) v) ++ X) := by
  have e : splice (bs L ++ X) (i * 8) (bs v) = bs (splB L (i * 8) v) ++ X := by
    rw [← splice_bss]
    unfold splice
    rw [List.take_append_of_le_length (by rw [bs_length]; omega), List.drop_append_of_le_length (by rw [bs_length, bs_length]; omega)]
    simp
  unfold vPut
  rw [e]
  exact propext ⟨fun x => x.2, fun x => ⟨by rw [List.length_append, bs_length, bs_length]; omega, x⟩⟩
theorem hf_spl {i x : Nat} {v : List UInt8} (hL : L.length = 8 * q) (hv : v.length = 8) (h : i < q) (hx : x < q) : hfA (splB L (i * 8) v) x = if x = i then v else hfA L x := by
  have hl : (splB L (i * 8) v).length = 8 * q := by rw [splB_length (by omega), hL]
  have hr : (if x = i then v else hfA L x).length = 8 := by split; exact hv; exact hfA_len hL hx
  refine ext_getD (n := 8) (hfA_len hl hx) hr fun j hj => ?_
  have g : ∀ M : List UInt8, (hfA M x).getD j 0 = M.getD (8 * x + j) 0 := fun M => by
    unfold hfA
    simp only [List.getD_eq_getElem?_getD, List.getElem?_take, if_pos hj, List.getElem?_drop]
  rw [g]
  unfold splB
  simp only [List.getD_eq_getElem?_getD]
  by_cases e : x = i
  · subst e
    rw [if_pos rfl, List.append_assoc, List.getElem?_append_right (by rw [List.length_take]; omega), List.length_take, List.getElem?_append_left (by omega), show 8 * x + j - min (x * 8) L.length = j by omega]
  · rw [if_neg e, ← List.getD_eq_getElem?_getD (l := hfA L x), g, List.getD_eq_getElem?_getD]
    by_cases e2 : x < i
    · rw [List.append_assoc, List.getElem?_append_left (by rw [List.length_take]; omega), List.getElem?_take, if_pos (by omega)]
    · rw [List.getElem?_append_right (by rw [List.length_append, List.length_take]; omega), List.getElem?_drop, List.length_append, List.length_take]
      congr 2
      omega
end
theorem c_CloneH (n c : Nat) (D : List UInt8) (hD : D.length = 8 * n) (hc : n ≤ c) (hm : n ≤ 1000) (h0 : 0 < n) : LC Tryz.prog 52 [.s 0 0 n c] [⟨false, bs D⟩] (Ret [⟨false, bs D⟩] (fun _ : Nat => True) fun r => (.s 1 0 n (n + r), [⟨true, bs D ++ List.replicate (8 * r) .j⟩])) := by
  have hT : List.take (n * 8) (bs D) = bs D := List.take_of_length_le (by rw [bs_length]; omega)
  refine LC_of (X := XX (fun _ => .nil) (fun _ => []) [33, 34, 35, 36, 39, 45, 53, 54, 65, 75, 90, 91, 92, 104] 1) envOK Tryz.func52 (by kernel_rfl) (by kernel_rfl) rfl (Nat.le_of_ble_eq_true (by kernel_rfl)) ?_
  simp only [kFun, Tryz.f52, List.length_nil, List.length_cons, Nat.sub_zero, Nat.reduceSub, Nat.reduceAdd, List.nil_append, List.cons_append, List.replicate_succ, List.replicate_zero]
  simp only [XX, ↓VC, VP, TT, Nat.reduceEqDiff, reduceCtorEq, Nat.reduceAdd, Nat.reduceSub, Nat.reduceLT, Nat.reduceMul, Nat.reducePow, Nat.reduceLeDiff, Int.reduceToNat, Int.reduceLE, Int.reduceLT, Int.reducePow]
  refine fun b hb => ⟨fun h => (by rw [hb (by omega)] at h; cases h), fun h => ⟨by omega, by omega, .inl trivial, .inr (by omega), fun r c' hc' h2 => ?_⟩⟩
  rw [hT]
  refine ⟨_, _, [0, 2], ⟨c' - n, trivial, rfl, rfl⟩, ?_⟩
  obtain rfl : r = 8 * (c' - n) := by omega
  simp [-List.reduceReplicate, LES, -List.reduceReplicate, show n + (c' - n) = c' by omega]
theorem c_ReverseH (q c r : Nat) (D : List UInt8) (hD : D.length = 8 * q) (hc : q ≤ c) (hm : q ≤ 1000) (h0 : 0 < q) : LC Tryz.prog 53 [.s 0 0 q c] [⟨true, bs D ++ List.replicate r .j⟩] (RetM (fun L : List UInt8 => L.length = 8 * q ∧ ∀ x, x < q → hfA L x = hfA D (q - 1 - x)) fun L => (.t [], [⟨true, bs L ++ List.replicate r .j⟩], [])) := by
  have w0 : IntKind.i64.wrap ((q : Int) - 1) = ((q - 1 : Nat) : Int) := by rw [wrap_i64 (by omega) (by omega)]; omega
  refine LC_of (X := XX (fun | 3 => .one 0 (.one 1 (.one 2 (.one 3 (.one 4 (.one 5 (.one 6 (.one 7 (.one 8 (.one 9 (.one 10 (.one 11 (.one 12 (.one 13 (.one 14 (.one 15 .nil))))))))))))))) | _ => .nil) (fun _ => []) [33, 34, 35, 36, 39, 45, 53, 54, 65, 75, 90, 91, 92, 104] 1) envOK Tryz.func53 (by kernel_rfl) (by kernel_rfl) rfl (Nat.le_of_ble_eq_true (by kernel_rfl)) ?_
  simp only [kFun, Tryz.f53, List.length_nil, List.length_cons, Nat.sub_zero, Nat.reduceSub, Nat.reduceAdd, List.nil_append, List.cons_append, List.replicate_succ, List.replicate_zero]
  simp only [XX, ↓VC, VP, TT, Nat.reduceEqDiff, reduceCtorEq, Nat.reduceAdd, Nat.reduceSub, Nat.reduceLT, Nat.reduceMul, Nat.reducePow, Nat.reduceLeDiff, Int.reduceToNat, Int.reduceLE, Int.reduceLT, Int.reducePow, w0]
  refine kLoop_of (fun s : Nat × List UInt8 => ([.s 0 0 q c, .j, .c (.int .i64 (s.1)), .c (.int .i64 ((q - 1 - s.1 : Nat))), .j, .j, .j, .j, .j, .j, .j, .j, .j, .j, .j, .j, .j, .j, .j, .j, .j, .j, .j, .j, .j, .j, .j, .j], [⟨true, bs s.2 ++ List.replicate r .j⟩])) (fun s => q - s.1) (fun s => s.2.length = 8 * q ∧ 2 * s.1 ≤ q ∧ ∀ x, x < q → hfA s.2 x = if x < s.1 ∨ q - 1 - s.1 < x then hfA D (q - 1 - x) else hfA D x) (0, D)
    ⟨hD, by simp, fun x hx => by rw [if_neg (by simp only; omega)]⟩ ⟨[0], by simp [-List.reduceReplicate, LES, renL_room, okL_room]⟩ ?_
  rintro ⟨i, L⟩ ⟨hL, hi, hx⟩
  simp only at hL hi hx
  by_cases h : i < q - 1 - i
  · have hi2 : i < q := by omega
    have hj2 : q - 1 - i < q := by omega
    have a1 := hfA_len hL hi2
    have a2 := hfA_len hL hj2
    have hS1 : (splB L (i * 8) (hfA L (q - 1 - i))).length = 8 * q := by rw [splB_length (by omega), hL]
    have hS2 : (splB (splB L (i * 8) (hfA L (q - 1 - i))) ((q - 1 - i) * 8) (hfA L i)).length = 8 * q := by rw [splB_length (by omega), hS1]
    have w1 : IntKind.i64.wrap ((i : Int) + 1) = ((i + 1 : Nat) : Int) := by rw [wrap_i64 (by omega) (by omega)]; omega
    have w2 : IntKind.i64.wrap (((q - 1 - i : Nat) : Int) - 1) = ((q - 1 - (i + 1) : Nat) : Int) := by rw [wrap_i64 (by omega) (by omega)]; omega
    simp only [↓VC, VP, TT, Nat.reduceEqDiff, reduceCtorEq, Nat.reduceAdd, Nat.reduceSub, Nat.reduceLT, Nat.reduceMul, Nat.reducePow, Nat.reduceLeDiff, Int.reduceToNat, Int.reduceLE, Int.reduceLT, Int.reducePow, (eq_true (by omega) : ((i : Int) < ((q - 1 - i : Nat) : Int)) = True), (eq_true (by omega) : ((i : Int) < (q : Int)) = True), (eq_true (by omega) : (((q - 1 - i : Nat) : Int) < (q : Int)) = True), decide_true, Int.toNat_natCast, ↓hf_sub hL hi2, ↓hf_sub hL hj2, a1, a2, ↓hf_put hL a2 hi2, ↓hf_put hS1 a1 hj2, w1, w2]
    refine ⟨(i + 1, splB (splB L (i * 8) (hfA L (q - 1 - i))) ((q - 1 - i) * 8) (hfA L i)), ⟨hS2, by simp only; omega, fun x hxq => ?_⟩, by simp only; omega, [0], by simp [-List.reduceReplicate, LES, renL_room, okL_room]⟩
    simp only
    have g1 : hfA L i = hfA D i := by rw [hx _ hi2, if_neg (by omega)]
    have g2 : hfA L (q - 1 - i) = hfA D (q - 1 - i) := by rw [hx _ hj2, if_neg (by omega)]
    rw [hf_spl hS1 a1 hj2 hxq, hf_spl hL a2 hi2 hxq, g1, g2, hx _ hxq]
    by_cases e1 : x = q - 1 - i
    · rw [if_pos e1, if_pos (by omega), show q - 1 - x = i by omega]
    · rw [if_neg e1]
      by_cases e2 : x = i
      · rw [if_pos e2, if_pos (by omega), e2]
      · rw [if_neg e2]
        by_cases e3 : x < i ∨ q - 1 - i < x
        · rw [if_pos e3, if_pos (by omega)]
        · rw [if_neg e3, if_neg (by omega)]
  · simp only [↓VC, VP, TT, Nat.reduceEqDiff, reduceCtorEq, Nat.reduceAdd, Nat.reduceSub, Nat.reduceLT, Nat.reduceMul, Nat.reducePow, Nat.reduceLeDiff, Int.reduceToNat, Int.reduceLE, Int.reduceLT, Int.reducePow, (eq_false (by omega) : ((i : Int) < ((q - 1 - i : Nat) : Int)) = False), decide_false]
    refine ⟨_, _, [0], ⟨L, ⟨hL, fun x hxq => ?_⟩, rfl, rfl⟩, by simp [-List.reduceReplicate, LES, renL_room, okL_room]⟩
    rw [hx x hxq]
    by_cases e3 : x < i ∨ q - 1 - i < x
    · rw [if_pos e3]
    · rw [if_neg e3, show q - 1 - x = x by omega]
theorem c_impl_ReverseKeys (n c : Nat) (D : List UInt8) (hD : D.length = 8 * n) (hc : n ≤ c) (hm : n ≤ 40) (h0 : 0 < n) : LC Tryz.prog 19 [.s 0 0 n c] [⟨false, bs D⟩] (Ret [⟨false, bs D⟩] (fun x : List UInt8 × Nat => x.1.length = 8 * n ∧ ∀ i, i < n → hfA x.1 i = hfA D (n - 1 - i)) fun x => (.t [.s 1 0 n (n + x.2), .c (.int .i64 (0))], [⟨true, bs x.1 ++ List.replicate (8 * x.2) .j⟩])) := by
  have f1 : decide ((n : Int) > 40) = false := decide_eq_false (by omega)
  refine LC_of (X := XX (fun _ => .nil) (fun _ => []) [33, 34, 35, 36, 39, 45, 53, 54, 65, 75, 90, 91, 92, 104] 1) envOK Tryz.func19 (by kernel_rfl) (by kernel_rfl) rfl (Nat.le_of_ble_eq_true (by kernel_rfl)) ?_
  simp only [kFun, Tryz.f19, List.length_nil, List.length_cons, Nat.sub_zero, Nat.reduceSub, Nat.reduceAdd, List.nil_append, List.cons_append, List.replicate_succ, List.replicate_zero]
  simp only [XX, ↓VC, VP, TT, Nat.reduceEqDiff, reduceCtorEq, Nat.reduceAdd, Nat.reduceSub, Nat.reduceLT, Nat.reduceMul, Nat.reducePow, Nat.reduceLeDiff, Int.reduceToNat, Int.reduceLE, Int.reduceLT, Int.reducePow, f1]
  try refine ⟨fun h => (by omega), fun _ => ?_⟩
  refine kCall_Ret (c_CloneH n c D hD hc (by omega) h0) (by rfl) [(0, 0)] (by simp [CALL, SCB, n_inst, n_ok, ne_inst, ne_take, ne_ok, Net.bl, instL_net, okL_net]) (by simp [CALL, SCB, n_inst, n_ok, ne_inst, ne_take, ne_ok, Net.bl, instL_net, okL_net]) (by simp [CALL, SCB, n_inst, n_ok, ne_inst, ne_take, ne_ok, Net.bl, instL_net, okL_net]) (by simp [okL_bs, okL_room, okL, okV, n_inst, n_ok, ne_inst, ne_take, ne_ok, Net.bl, instL_net, okL_net]) (by simp [CALL, SCB, n_inst, n_ok, ne_inst, ne_take, ne_ok, Net.bl, instL_net, okL_net]) fun r _ => ?_
  simp (config := { maxSteps := 2000000 }) only [CALL, ↓VC, VP, TT, Nat.reduceEqDiff, reduceCtorEq, Nat.reduceAdd, Nat.reduceSub, Nat.reduceLT, Nat.reduceMul, Nat.reducePow, Nat.reduceLeDiff, Int.reduceToNat, Int.reduceLE, Int.reduceLT, Int.reducePow, GOB, n_inst, n_len, ↓n_all, ↓n_rd, ne_len, ne_inst0, Net.bl, instL_net]
  refine kCall_M (c_ReverseH n (n + r) (8 * r) D hD (by omega) (by omega) h0) (by rfl) [(1, 0)] (by simp [CALL, SCB, n_inst, n_ok, ne_inst, ne_take, ne_ok, Net.bl, instL_net, okL_net, instL_room, okL_room]) (by simp [CALL, SCB, n_inst, n_ok, ne_inst, ne_take, ne_ok, Net.bl, instL_net, okL_net, instL_room, okL_room]) (by simp) (by simp [CALL, SCB, n_inst, n_ok, ne_inst, ne_take, ne_ok, Net.bl, instL_net, okL_net, instL_room, okL_room]) (by simp [okL_bs, okL_room, okL, okV, n_inst, n_ok, ne_inst, ne_take, ne_ok, Net.bl, instL_net, okL_net, instL_room, okL_room]) (by intro x hx; simp [keepR, bs_length]; omega) (by simp [CALL, SCB, n_inst, n_ok, ne_inst, ne_take, ne_ok, Net.bl, instL_net, okL_net, instL_room, okL_room]) fun L hL => ?_
  simp (config := { maxSteps := 2000000 }) only [CALL, ↓VC, VP, TT, Nat.reduceEqDiff, reduceCtorEq, Nat.reduceAdd, Nat.reduceSub, Nat.reduceLT, Nat.reduceMul, Nat.reducePow, Nat.reduceLeDiff, Int.reduceToNat, Int.reduceLE, Int.reduceLT, Int.reducePow, GOB, n_inst, n_len, ↓n_all, ↓n_rd, ne_len, ne_inst0, Net.bl, instL_net]
  exact ⟨_, _, [0, 1], ⟨(L, r), hL, rfl, rfl⟩, by simp [-List.reduceReplicate, LES, renL_room, okL_room]⟩
theorem k_impl_IsSlid (c : Net) (key a b : List UInt8) (hk : key.length = 8) (ha : a.length = 16) (hb : b.length = 16) : LC Tryz.prog 10 [.a c.cells, .a (bs key), .a (bs a), .a (bs b)] [] (fun v hp => v = .t [.c (.bool ((c.rnd key a == b))), .c (.int .i64 (0))] ∧ hp = []) := by
  have hr := rnd_len (c := c) key a ha
  refine LC_of (X := XX (fun | 3 => .one 0 (.one 2 (.one 3 (.one 5 (.one 1 (.one 4 (.one 6 (.one 7 (.one 8 .nil)))))))) | _ => .nil) (fun _ => []) [33, 34, 35, 36, 39, 45, 53, 54, 65, 75, 90, 91, 92, 104] 0) envOK Tryz.func10 (by kernel_rfl) (by kernel_rfl) rfl (Nat.le_of_ble_eq_true (by kernel_rfl)) ?_
  simp only [kFun, Tryz.f10, List.length_nil, List.length_cons, Nat.sub_zero, Nat.reduceSub, Nat.reduceAdd, List.nil_append, List.cons_append, List.replicate_succ, List.replicate_zero]
  simp only [XX, ↓VC, VP, TT, Nat.reduceEqDiff, reduceCtorEq, Nat.reduceAdd, Nat.reduceSub, Nat.reduceLT, Nat.reduceMul, Nat.reducePow, Nat.reduceLeDiff, Int.reduceToNat, Int.reduceLE, Int.reduceLT, Int.reducePow, n_len, ↓n_all, hk, ha, hb]
  refine kCall_val (k_impl_NIs c) (by rfl) [] (by simp [CALL, SCB, n_inst, n_ok, ne_inst, ne_take, ne_ok, Net.bl, instL_net, okL_net]) (by simp [CALL, SCB, n_inst, n_ok, ne_inst, ne_take, ne_ok, Net.bl, instL_net, okL_net]) (by simp [CALL, SCB, n_inst, n_ok, ne_inst, ne_take, ne_ok, Net.bl, instL_net, okL_net]) (by simp [okL_bs, okL_room, okL, okV, n_inst, n_ok, ne_inst, ne_take, ne_ok, Net.bl, instL_net, okL_net]) ?_
  simp (config := { maxSteps := 2000000 }) only [CALL, ↓VC, VP, TT, Nat.reduceEqDiff, reduceCtorEq, Nat.reduceAdd, Nat.reduceSub, Nat.reduceLT, Nat.reduceMul, Nat.reducePow, Nat.reduceLeDiff, Int.reduceToNat, Int.reduceLE, Int.reduceLT, Int.reducePow, GOB, n_inst, n_len, ↓n_all, ↓n_rd, ne_len, ne_inst0, Net.bl, instL_net, hk, ha, hb]
  refine kCall_Ret (k_newNet c) (by rfl) [] (by simp [CALL, SCB, n_inst, n_ok, ne_inst, ne_take, ne_ok, Net.bl, instL_net, okL_net]) (by simp [CALL, SCB, n_inst, n_ok, ne_inst, ne_take, ne_ok, Net.bl, instL_net, okL_net]) (by simp [CALL, SCB, n_inst, n_ok, ne_inst, ne_take, ne_ok, Net.bl, instL_net, okL_net]) (by simp [okL_bs, okL_room, okL, okV, n_inst, n_ok, ne_inst, ne_take, ne_ok, Net.bl, instL_net, okL_net]) (by simp [CALL, SCB, n_inst, n_ok, ne_inst, ne_take, ne_ok, Net.bl, instL_net, okL_net]) fun _ _ => ?_
  simp (config := { maxSteps := 2000000 }) only [CALL, ↓VC, VP, TT, Nat.reduceEqDiff, reduceCtorEq, Nat.reduceAdd, Nat.reduceSub, Nat.reduceLT, Nat.reduceMul, Nat.reducePow, Nat.reduceLeDiff, Int.reduceToNat, Int.reduceLE, Int.reduceLT, Int.reducePow, GOB, n_inst, n_len, ↓n_all, ↓n_rd, ne_len, ne_inst0, Net.bl, instL_net, hk, ha, hb]
  refine kCall_val (k_impl_rnd c key a hk ha) (by rfl) [(4, 0), (5, 0), (6, 0)] (by simp [CALL, SCB, n_inst, n_ok, ne_inst, ne_take, ne_ok, Net.bl, instL_net, okL_net]) (by simp [CALL, SCB, n_inst, n_ok, ne_inst, ne_take, ne_ok, Net.bl, instL_net, okL_net]) (by simp [CALL, SCB, n_inst, n_ok, ne_inst, ne_take, ne_ok, Net.bl, instL_net, okL_net]) (by simp [okL_bs, okL_room, okL, okV, n_inst, n_ok, ne_inst, ne_take, ne_ok, Net.bl, instL_net, okL_net]) ?_
  simp (config := { maxSteps := 2000000 }) only [CALL, ↓VC, VP, TT, Nat.reduceEqDiff, reduceCtorEq, Nat.reduceAdd, Nat.reduceSub, Nat.reduceLT, Nat.reduceMul, Nat.reducePow, Nat.reduceLeDiff, Int.reduceToNat, Int.reduceLE, Int.reduceLT, Int.reducePow, GOB, n_inst, n_len, ↓n_all, ↓n_rd, ne_len, ne_inst0, Net.bl, instL_net, hr, hb, ha, hk]
  try refine ⟨intCells_bs _, intCells_bs _, fun t ht => ?_⟩
  obtain rfl : t = (c.rnd key a == b) := by
    rw [Bool.eq_iff_iff, ht, beq_iff_eq]
    exact bs_inj
  refine ⟨_, _, [], ⟨rfl, rfl⟩, ?_⟩
  simp [-List.reduceReplicate, LES] <;> rfl
end Go.Proofs.YtjakgjelnbpmnaaGreat

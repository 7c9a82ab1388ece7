import Derived.Test.YtjakgjelnbpmnaaGreatNetF
import Derived.Test.YtjakgjelnbpmnaaGreatNetC
import Derived.Test.YtjakgjelnbpmnaaGreatBlob
import Derived.Test.YtjakgjelnbpmnaaGreatVcgW
/- SlidPlaces: both functions, over any memory. -/
set_option linter.unusedSimpArgs false
set_option linter.unusedVariables false
namespace Go.Proofs.YtjakgjelnbpmnaaGreat
open Go Go.Vc
set_option maxRecDepth 10000
set_option maxHeartbeats 4000000
/-- Parts of two numbers. -/
def iP (p : Nat × Nat) : Prt := ⟨nsv [(p.1 : Int), (p.2 : Int)], 2, 2⟩
def iPs (L : List (Nat × Nat)) : List Prt := L.map iP
theorem iPs_length (L : List (Nat × Nat)) : (iPs L).length = L.length := by simp [iPs]
theorem iPs_app (L M : List (Nat × Nat)) : iPs (L ++ M) = iPs L ++ iPs M := by simp [iPs]
theorem iPs_st {N : Nat} {L : List (Nat × Nat)} : ∀ p ∈ iPs L, stL N p.cells := by
  intro p hp
  simp only [iPs, List.mem_map] at hp
  obtain ⟨q, _, rfl⟩ := hp
  exact stL_nsv _ _
theorem iPs_ren {σ : List Nat} {L : List (Nat × Nat)} : ∀ p ∈ iPs L, V.renL σ p.cells = p.cells := by
  intro p hp
  simp only [iPs, List.mem_map] at hp
  obtain ⟨q, _, rfl⟩ := hp
  exact renL_nsv _ _
theorem iPs_id {L : List (Nat × Nat)} : ∀ sub N, ∀ p ∈ iPs L, V.instL sub N p.cells = p.cells := by
  intro sub N p hp
  simp only [iPs, List.mem_map] at hp
  obtain ⟨q, _, rfl⟩ := hp
  exact instL_nsv _ _ _
/-- The pairs of row i, up to j; all rows up to i. -/
def rowS (f : Nat → Nat → Bool) (i : Nat) : Nat → List (Nat × Nat)
  | 0 => []
  | j + 1 => rowS f i j ++ (if f i j then [(i, j)] else [])
def slS (f : Nat → Nat → Bool) (n : Nat) : Nat → List (Nat × Nat)
  | 0 => []
  | i + 1 => slS f n i ++ rowS f i n
theorem rowS_len (f : Nat → Nat → Bool) (i : Nat) : ∀ j, (rowS f i j).length ≤ j
  | 0 => by simp [rowS]
  | j + 1 => by rw [rowS, List.length_append]; have := rowS_len f i j; split <;> simp <;> omega
theorem slS_len (f : Nat → Nat → Bool) (n : Nat) : ∀ i, (slS f n i).length ≤ i * n
  | 0 => by simp [slS]
  | i + 1 => by rw [slS, List.length_append, Nat.succ_mul]; have := slS_len f n i; have := rowS_len f i n; omega
/-- The block at a place. -/
def bkA (L : List UInt8) (i : Nat) : List UInt8 := (L.drop (16 * i)).take 16
theorem bkA_len {L : List UInt8} {i n : Nat} (hL : L.length = 16 * n) (h : i < n) : (bkA L i).length = 16 := by
  unfold bkA; rw [List.length_take, List.length_drop]; omega
theorem vSub_bkR {L : List UInt8} {n i : Nat} {X : List V} {k : V → Prop} (hL : L.length = 16 * n) (h : i < n) : vSub (bs L ++ X) (i * 16) 16 k = k (.a (bs (bkA L i))) := by
  rw [vSub_appL (by rw [bs_length, hL]; omega), vSub_bs, Nat.mul_comm i 16]
  simp only [eq_iff_iff]
  exact ⟨fun h => h.2, fun h => ⟨by omega, h⟩⟩
theorem repl16 {a : UInt8} {n : Nat} : (List.replicate n a).length = n := List.length_replicate
theorem vSub_16 {r : List UInt8} (hr : r.length = 16) {k : V → Prop} : vSub (bs r) 0 16 k = k (.a (bs r)) := vSub_all (by rw [bs_length, hr])
theorem vSub_8 {r : List UInt8} (hr : r.length = 8) {k : V → Prop} : vSub (bs r) 0 8 k = k (.a (bs r)) := vSub_all (by rw [bs_length, hr])
/-- Which pairs are slid. -/
def slF (c : Net) (key L : List UInt8) (i j : Nat) : Bool := bkA L j == c.rnd key (bkA L i)
/-- What is handed back: the pairs, in new memory. -/
def newP (N : Nat) (P : List (Nat × Nat)) (r : Nat) : List Blk := ⟨true, ptrV (N + 1) (iPs P) ++ List.replicate r .j⟩ :: partB true (iPs P)
theorem newP_len {N r : Nat} {P : List (Nat × Nat)} : (newP N P r).length = 1 + P.length := by simp [newP, partB_length, iPs_length]; omega
theorem newP_st {N r : Nat} {P : List (Nat × Nat)} : ∀ x ∈ newP N P r, stL (N + (newP N P r).length) x.cells := by
  rw [newP_len]
  exact stB_cons (stL_app.2 ⟨stL_ptrV (by rw [iPs_length]; omega), stL_rep _ _⟩) (stB_part iPs_st)
theorem newP_own {N r : Nat} {P : List (Nat × Nat)} : ∀ x ∈ newP N P r, x.own = true ∨ x.cells = [] := by
  intro x hx
  simp only [newP, List.mem_cons, partB, List.mem_map] at hx
  rcases hx with rfl | ⟨p, _, rfl⟩ <;> exact .inl rfl
theorem newP_part {A : List Blk} {P : List (Nat × Nat)} {r i : Nat} {p : Prt} (h : (iPs P)[i]? = some p) : (A ++ newP A.length P r)[A.length + 1 + i]? = some ⟨true, p.cells⟩ := by
  have e : A ++ newP A.length P r = (A ++ [⟨true, ptrV (A.length + 1) (iPs P) ++ List.replicate r .j⟩]) ++ (partB true (iPs P) ++ []) := by simp [newP]
  rw [e]; exact at_part (by simp) h
theorem newP_out {A : List Blk} {P : List (Nat × Nat)} {r : Nat} : (A ++ newP A.length P r)[A.length]? = some ⟨true, ptrV (A.length + 1) (iPs P) ++ List.replicate r .j⟩ := at_app rfl
theorem newP_stM {A : List Blk} {P : List (Nat × Nat)} {r : Nat} (h : stM A) : stM (A ++ newP A.length P r) := h.app newP_st
theorem newP_all {A : List Blk} {P : List (Nat × Nat)} {r : Nat} (h : stM A) : ∀ b ∈ A ++ newP A.length P r, stL (A.length + (1 + P.length)) b.cells := by
  have := newP_stM (P := P) (r := r) h
  unfold Vc.stM at this
  rwa [List.length_append, newP_len] at this
/-- Pairs found anywhere, told as new ones. -/
theorem LeS_sl0 {m o b r : Nat} {A hp : List Blk} {P : List (Nat × Nat)} {tm tm' : List V} (hA : stM A) (x : Ext A hp) (hm : m ≤ A.length) (fO : hp[o]? = some (⟨true, ptrV b (iPs P) ++ List.replicate r .j⟩ : Blk)) (fQ : ∀ (k : Nat) (p : Prt), (iPs P)[k]? = some p → hp[b + k]? = some (⟨true, p.cells⟩ : Blk)) (ho : A.length ≤ o ∧ (o < b ∨ b + P.length ≤ o)) (hb : A.length ≤ b)
    (ht : leTm (List.range A.length ++ ([o] ++ List.range' b P.length)) tm tm') (hok : okL (A.length + (1 + P.length)) tm') : LeS m (List.range A.length ++ ([o] ++ List.range' b P.length)) tm hp tm' (A ++ newP A.length P r) := by
  have hn := iPs_length P
  have hr : V.renL (List.range A.length ++ ([o] ++ List.range' b P.length)) (ptrV (A.length + 1) (iPs P)) = ptrV b (iPs P) := renL_ptrV fun i hi => by
    rw [Nat.add_assoc, range_getD_ge, List.getD_eq_getElem?_getD, List.getElem?_append_right (by simp), ← List.getD_eq_getElem?_getD]
    have e : 1 + i - [o].length = i := by simp
    rw [e, getD_range' (by rw [hn] at hi; exact hi)]
  exact LeS_new (B := [⟨true, ptrV (A.length + 1) (iPs P) ++ List.replicate r .j⟩]) rfl x hA hm rfl (by simp) (by intro g hg; simp only [List.mem_cons, List.not_mem_nil, or_false] at hg; subst hg; exact ho) hb hn fQ (fun _ => iPs_ren) (fun _ p hp => stL_ok (iPs_st p hp)) ht (by simp only [leHp, fO, renL_app, hr, renL_rep]; simp) hok (by simp [okL_app, okL_rep]; exact stL_ok (stL_ptrV (by rw [hn]; omega)))
theorem LeS_sl1 {m o b r h1 : Nat} {A hp : List Blk} {P : List (Nat × Nat)} {tm tm' : List V} {nx : List UInt8} (hA : stM A) (x : Ext A hp) (hm : m ≤ A.length) (fN : hp[h1]? = some (⟨true, bs nx⟩ : Blk)) (fO : hp[o]? = some (⟨true, ptrV b (iPs P) ++ List.replicate r .j⟩ : Blk)) (fQ : ∀ (k : Nat) (p : Prt), (iPs P)[k]? = some p → hp[b + k]? = some (⟨true, p.cells⟩ : Blk)) (ho : A.length ≤ o ∧ (o < b ∨ b + P.length ≤ o)) (hh : A.length ≤ h1 ∧ (h1 < b ∨ b + P.length ≤ h1)) (hne : h1 ≠ o) (hb : A.length ≤ b)
    (ht : leTm (List.range A.length ++ ([h1, o] ++ List.range' b P.length)) tm tm') (hok : okL (A.length + (2 + P.length)) tm') : LeS m (List.range A.length ++ ([h1, o] ++ List.range' b P.length)) tm hp tm' ((A ++ [(⟨true, bs nx⟩ : Blk)]) ++ newP (A ++ [(⟨true, bs nx⟩ : Blk)]).length P r) := by
  have hn := iPs_length P
  have hr : V.renL (List.range A.length ++ ([h1, o] ++ List.range' b P.length)) (ptrV (A.length + 2) (iPs P)) = ptrV b (iPs P) := renL_ptrV fun i hi => by
    rw [Nat.add_assoc, range_getD_ge, List.getD_eq_getElem?_getD, List.getElem?_append_right (by simp), ← List.getD_eq_getElem?_getD]
    have e : 2 + i - [h1, o].length = i := by simp
    rw [e, getD_range' (by rw [hn] at hi; exact hi)]
  have e : (A ++ [(⟨true, bs nx⟩ : Blk)]) ++ newP (A ++ [(⟨true, bs nx⟩ : Blk)]).length P r = A ++ ([⟨true, bs nx⟩, ⟨true, ptrV (A.length + 2) (iPs P) ++ List.replicate r .j⟩] ++ partB true (iPs P)) := by simp [newP]
  rw [e]
  exact LeS_new (B := [⟨true, bs nx⟩, ⟨true, ptrV (A.length + 2) (iPs P) ++ List.replicate r .j⟩]) rfl x hA hm rfl (by simp; exact hne) (by intro g hg; simp only [List.mem_cons, List.not_mem_nil, or_false] at hg; rcases hg with rfl | rfl <;> assumption) hb hn fQ (fun _ => iPs_ren) (fun _ p hp => stL_ok (iPs_st p hp)) ht (by simp only [leHp, fN, fO, renL_app, hr, renL_rep, renL_bs]; simp) hok (by simp [okL_app, okL_rep, okL_bs]; exact stL_ok (stL_ptrV (by rw [hn]; omega)))
section
variable {H : List Blk} {n g cc : Nat} {L key : List UInt8}
theorem k_spec_Slid (c : Net) (hst : stM H) (hk : key.length = 8) (hL : L.length = 16 * n) (hn : n ≤ 60) (hcc : n ≤ cc) (f : bAt H g (bs L)) :
    LC Tryz.prog 7 [.a c.cells, .a (bs key), .s g 0 n cc] H (Ret H (fun _ : Nat => True) fun r => (.t [.s H.length 0 (slS (slF c key L) n n).length ((slS (slF c key L) n n).length + r), .c (.int .i64 (0))], newP H.length (slS (slF c key L) n n) r)) := by
  have lg := f.lt
  have hll : ∀ x, (H ++ [x]).length = H.length + 1 := fun x => by simp
  have hll2 : ∀ x y, ((H ++ [x]) ++ [y]).length = H.length + 1 + 1 := fun x y => by simp
  refine LC_of (X := XX (fun | 9 => .one 0 (.one 1 (.one 2 (.one 3 (.one 4 (.one 5 (.one 6 (.one 7 (.one 8 .nil)))))))) | 13 => .one 0 (.one 1 (.one 2 (.one 3 (.one 4 (.one 5 .nil))))) | _ => .nil) (fun | 9 => [(7, 10)] | _ => []) [33, 34, 35, 36, 39, 45, 53, 54, 65, 75, 90, 91, 92, 104] (H.length)) envOK Tryz.func7 (by kernel_rfl) (by kernel_rfl) (by simp [XX]) (Nat.le_of_ble_eq_true (by kernel_rfl)) ?_
  simp only [kFun, Tryz.f7, List.length_nil, List.length_cons, Nat.sub_zero, Nat.reduceSub, Nat.reduceAdd, List.nil_append, List.cons_append, List.replicate_succ, List.replicate_zero]
  simp only [XX, ↓VC, VP, TT, Nat.reduceEqDiff, reduceCtorEq, Nat.reduceAdd, Nat.reduceSub, Nat.reduceLT, Nat.reduceMul, Nat.reducePow, Nat.reduceLeDiff, Int.reduceToNat, Int.reduceLE, Int.reduceLT, Int.reducePow, n_len, ↓n_all, hk, hll, hll2, ↓app_last2, ↓app_last1]
  obtain ⟨hb, eb⟩ : ∃ hb, hb = H ++ [⟨true, c.cells⟩] ++ [⟨true, bs key⟩] := ⟨_, rfl⟩
  rw [← eb]
  have x1 : Ext H hb := ⟨_, by rw [eb, List.append_assoc]⟩
  have fC : hb[H.length]? = some ⟨true, c.cells⟩ := by rw [eb]; exact app_last2
  have fK : hb[H.length + 1]? = some ⟨true, bs key⟩ := by rw [eb]; exact app_last1
  have hstb : stM hb := by
    rw [eb]
    exact (hst.app (stB_cons (by simp [Net.cells, netC, stL, stV, stL_app, stL_bs]) stB_nil)).app (stB_cons (stL_bs _ _) stB_nil)
  have lb : hb.length = H.length + 2 := by simp [eb]
  obtain ⟨o1, X1, fL⟩ := f.mono x1
  clear eb
  refine kCall_val (k_spec_NIs c) (by rfl) [] (by simp [CALL, SCB, n_inst, n_ok]) (by simp [CALL, SCB, n_inst, n_ok]) (by simp [CALL, SCB, n_inst, n_ok]) (by simp [okL_bs, okL_room, okL, okV, n_inst, n_ok]) ?_
  simp (config := { maxSteps := 2000000 }) only [CALL, ↓VC, VP, TT, Nat.reduceEqDiff, reduceCtorEq, Nat.reduceAdd, Nat.reduceSub, Nat.reduceLT, Nat.reduceMul, Nat.reducePow, Nat.reduceLeDiff, Int.reduceToNat, Int.reduceLE, Int.reduceLT, Int.reducePow, GOB, n_inst, n_len, ↓n_all, fC, n_len, ↓n_all]
  simp only [↓VC, VP, TT, Nat.reduceEqDiff, reduceCtorEq, Nat.reduceAdd, Nat.reduceSub, Nat.reduceLT, Nat.reduceMul, Nat.reducePow, Nat.reduceLeDiff, Int.reduceToNat, Int.reduceLE, Int.reduceLT, Int.reducePow, (eq_false (by omega) : ((n : Int) > 60) = False), decide_false]
  generalize hF : slF c key L = F at *
  have hlb : ∀ P r, (hb ++ newP hb.length P r).length = hb.length + (1 + P.length) := fun P r => by rw [List.length_append, newP_len]
  refine kLoop_of (fun s : Nat × Nat => ([.j, .j, .s g 0 n cc, .p H.length 0, .p (H.length + 1) 0, .j, .j, .j, .s hb.length 0 (slS F n s.1).length ((slS F n s.1).length + s.2), .c (.int .i64 (s.1)), .j, .j, .j, .j, .j, .j, .j, .j, .j, .j, .j, .j, .j, .j, .j, .j, .j, .j, .j, .j, .j, .j, .j, .j, .j, .j, .j, .j, .j, .j, .j, .j, .j, .j, .j, .j, .j, .j, .j, .j, .j, .j, .j], hb ++ newP hb.length (slS F n s.1) s.2)) (fun s => n - s.1) (fun s => s.1 ≤ n) (0, 0) (by simp) ⟨List.range (hb.length + (1 + (slS F n 0).length)), LeS_id (ex := []) (hlb _ _) (show H.length ≤ _ by omega) (by simp [newP, slS, iPs, ptrV, partB]) (by simp [leT, slS]) (by simp [stL, stV]; omega) (newP_all hstb)⟩ ?_
  rintro ⟨i, r0⟩ hi
  simp only at hi
  have hPl := slS_len F n i
  rcases Nat.lt_or_ge i n with h | h
  · obtain ⟨hp, ep⟩ : ∃ hp, hp = hb ++ newP hb.length (slS F n i) r0 := ⟨_, rfl⟩
    have fO : hp[hb.length]? = some ⟨true, ptrV (hb.length + 1) (iPs (slS F n i)) ++ List.replicate r0 .j⟩ := by rw [ep]; exact newP_out
    have fQ : ∀ k p, (iPs (slS F n i))[k]? = some p → hp[hb.length + 1 + k]? = some ⟨true, p.cells⟩ := fun k p hk => by rw [ep]; exact newP_part hk
    have x2 : Ext hb hp := ⟨_, ep⟩
    have lp : hp.length = hb.length + (1 + (slS F n i).length) := by rw [ep]; exact hlb _ _
    have gC := x2.get fC; have gK := x2.get fK; have gL := x2.get fL
    rw [← ep]
    simp only [↓VC, VP, TT, Nat.reduceEqDiff, reduceCtorEq, Nat.reduceAdd, Nat.reduceSub, Nat.reduceLT, Nat.reduceMul, Nat.reducePow, Nat.reduceLeDiff, Int.reduceToNat, Int.reduceLE, Int.reduceLT, Int.reducePow, gC, gK, gL, n_len, ↓n_all, hk, ↓vSub_8 hk, ↓vSub_bkR hL h, (eq_true (by omega) : ((i : Int) < (n : Int)) = True), decide_true]
    repeat (refine ⟨by first | omega | (simp; done) | decide, ?_⟩)
    have hbl := bkA_len hL h
    have hrl := rnd_len (c := c) key (bkA L i) hbl
    refine kCall_val (k_spec_rnd c key (bkA L i) hk hbl) (by rfl) [] (by simp [CALL, SCB, n_inst, n_ok]) (by simp [CALL, SCB, n_inst, n_ok]) (by simp [CALL, SCB, n_inst, n_ok]) (by simp [okL_bs, okL_room, okL, okV, n_inst, n_ok]) ?_
    simp (config := { maxSteps := 2000000 }) only [CALL, ↓VC, VP, TT, Nat.reduceEqDiff, reduceCtorEq, Nat.reduceAdd, Nat.reduceSub, Nat.reduceLT, Nat.reduceMul, Nat.reducePow, Nat.reduceLeDiff, Int.reduceToNat, Int.reduceLE, Int.reduceLT, Int.reducePow, GOB, n_inst, n_len, ↓n_all, ↓app_last, set_last, hrl, repl16]
    have hFi : ∀ j, F i j = (bkA L j == c.rnd key (bkA L i)) := fun j => by rw [← hF]; rfl
    generalize c.rnd key (bkA L i) = nx at *
    have y0 : Ext hp (hp ++ [⟨true, bs nx⟩]) := ⟨_, rfl⟩
    have g0 : (hp ++ [⟨true, bs nx⟩])[hp.length]? = some ⟨true, bs nx⟩ := app_last
    obtain ⟨hb2, eb2⟩ : ∃ hb2, hb2 = hb ++ [⟨true, bs nx⟩] := ⟨_, rfl⟩
    have y2 : Ext hb hb2 := ⟨_, eb2⟩
    have lb2 : hb2.length = hb.length + 1 := by simp [eb2]
    have hstb2 : stM hb2 := by rw [eb2]; exact hstb.app (stB_cons (stL_bs _ _) stB_nil)
    have hlb2 : ∀ P r, (hb2 ++ newP hb2.length P r).length = hb2.length + (1 + P.length) := fun P r => by rw [List.length_append, newP_len]
    have fN2 : hb2[hb.length]? = some ⟨true, bs nx⟩ := by rw [eb2]; exact app_last
    refine kLoop_of (fun s : Nat × Nat => ([.j, .j, .s g 0 n cc, .p H.length 0, .p (H.length + 1) 0, .j, .j, .j, .s hb2.length 0 (slS F n i ++ rowS F i s.1).length ((slS F n i ++ rowS F i s.1).length + s.2), .c (.int .i64 (i)), .p hb.length 0, .c (.int .i64 (s.1)), .j, .j, .j, .j, .j, .j, .j, .j, .j, .j, .j, .j, .j, .j, .j, .j, .j, .j, .j, .j, .j, .j, .j, .j, .j, .j, .j, .j, .j, .j, .j, .j, .j, .j, .j, .j, .j, .j, .j, .j, .j], hb2 ++ newP hb2.length (slS F n i ++ rowS F i s.1) s.2)) (fun s => n - s.1) (fun s => s.1 ≤ n) (0, r0) (by simp) ⟨List.range hb.length ++ ([hp.length, hb.length] ++ List.range' (hb.length + 1) (slS F n i).length), ?_⟩ ?_
    · simp only [rowS, List.append_nil, eb2]
      exact LeS_sl1 (nx := nx) (r := r0) hstb (x2.trans y0) (show H.length ≤ hb.length by omega) g0 (y0.get fO) (fun k p hk => y0.get (fQ k p hk)) (by omega) (by omega) (by omega) (by omega)
        (by simp only [leTm, leV, V.ren, V.renL, range_getD_lt (show H.length < hb.length by omega), range_getD_lt (show H.length + 1 < hb.length by omega), range_getD_lt (show g < hb.length by omega), range_getD_ge, range_getD_eq, List.cons_append, List.nil_append, List.getD_cons_zero, List.getD_cons_succ]; simp) (by simp [okL, okV]; omega)
    rintro ⟨j, r1⟩ hj
    simp only at hj
    have hPl2 := rowS_len F i j
    have hPl3 : (slS F n i ++ rowS F i j).length ≤ 1000000 := by
      rw [List.length_append]
      have : i * n ≤ 60 * 60 := Nat.mul_le_mul (by omega) hn
      omega
    have eP1 : slS F n i ++ rowS F i (j + 1) = (slS F n i ++ rowS F i j) ++ (if F i j then [(i, j)] else []) := by rw [rowS, List.append_assoc]
    have eP2 : j = n → slS F n (i + 1) = slS F n i ++ rowS F i j := fun e => by rw [slS, e]
    generalize slS F n i ++ rowS F i j = P at *
    rcases Nat.lt_or_ge j n with h2 | h2
    · obtain ⟨hp2, ep2⟩ : ∃ hp2, hp2 = hb2 ++ newP hb2.length P r1 := ⟨_, rfl⟩
      have fO2 : hp2[hb2.length]? = some ⟨true, ptrV (hb2.length + 1) (iPs P) ++ List.replicate r1 .j⟩ := by rw [ep2]; exact newP_out
      have fQ2 : ∀ k p, (iPs P)[k]? = some p → hp2[hb2.length + 1 + k]? = some ⟨true, p.cells⟩ := fun k p hk => by rw [ep2]; exact newP_part hk
      have x3 : Ext hb2 hp2 := ⟨_, ep2⟩
      have lp2 : hp2.length = hb2.length + (1 + P.length) := by rw [ep2]; exact hlb2 _ _
      have gL2 := x3.get (y2.get fL); have gN2 := x3.get fN2
      have hbj := bkA_len hL h2
      rw [← ep2]
      have fA1 : ∀ x y : Blk, ((hp2 ++ [x]) ++ [y])[hb2.length]? = some ⟨true, ptrV (hb2.length + 1) (iPs P) ++ List.replicate r1 .j⟩ := fun x y => by rw [List.append_assoc, List.getElem?_append_left (by omega)]; exact fO2
      simp only [↓VC, VP, TT, Nat.reduceEqDiff, reduceCtorEq, Nat.reduceAdd, Nat.reduceSub, Nat.reduceLT, Nat.reduceMul, Nat.reducePow, Nat.reduceLeDiff, Int.reduceToNat, Int.reduceLE, Int.reduceLT, Int.reducePow, gL2, gN2, hrl, ↓vSub_16 hrl, ↓vSub_bkR hL h2, (eq_true (by omega) : ((j : Int) < (n : Int)) = True), decide_true, fA1, ↓app_last1, if_true]
      repeat (refine ⟨by first | omega | (simp; done) | decide, ?_⟩)
      refine ⟨intCells_bs _, intCells_bs _, fun b' hb' => ⟨fun h5 => ?_, fun h5 => ?_⟩⟩
      · have hFj : F i j = true := by rw [hFi, beq_iff_eq]; exact bs_inj.1 (hb'.1 h5)
        rw [hFj, if_pos rfl] at eP1
        refine ⟨by omega, by omega, by simp [ptrV_length, iPs_length], .inr (by simp [ptrV_length, iPs_length]), .inr trivial, fun r2 c2 e5 e6 => ?_⟩
        refine ⟨(j + 1, r2), by simp only; omega, by simp only; omega, List.range hb2.length ++ ([hp2.length + 1 + 1] ++ List.range' (hb2.length + 1) (P ++ [(i, j)]).length), ?_⟩
        simp only [eP1]
        have ec : c2 = (P ++ [(i, j)]).length + r2 := by simp; omega
        have hlen : (slS F n i).length + (rowS F i (j + 1)).length = (P ++ [(i, j)]).length := by rw [← List.length_append, eP1]
        rw [wrap_i64 (by omega) (by omega), ec, hlen]
        have fA2 := set_upd (b := ⟨false, []⟩) (fA1 ⟨true, [.c (.int .i64 (i)), .c (.int .i64 (j))]⟩ ⟨true, [V.s hp2.length 0 2 2]⟩)
        have xE := ((x3.trans ⟨[⟨true, [.c (.int .i64 (i)), .c (.int .i64 (j))]⟩, ⟨true, [V.s hp2.length 0 2 2]⟩], by rw [List.append_assoc]; rfl⟩ : Ext hb2 (hp2 ++ [⟨true, [.c (.int .i64 (i)), .c (.int .i64 (j))]⟩] ++ [⟨true, [V.s hp2.length 0 2 2]⟩]))).uext fA2 (by intro h hh; omega)
        have hcells : List.take P.length (ptrV (hb2.length + 1) (iPs P) ++ List.replicate r1 V.j) ++ [V.s hp2.length 0 2 2] ++ List.replicate r2 V.j = ptrV (hb2.length + 1) (iPs (P ++ [(i, j)])) ++ List.replicate r2 .j := by
          rw [List.take_left' (by rw [ptrV_length, iPs_length]), iPs_app, ptrV_app, iPs_length]
          have e : hb2.length + 1 + P.length = hp2.length := by omega
          rw [e]; rfl
        rw [hcells]
        have lM : (((hp2 ++ [(⟨true, [.c (.int .i64 (i)), .c (.int .i64 (j))]⟩ : Blk)] ++ [(⟨true, [V.s hp2.length 0 2 2]⟩ : Blk)])).set hb2.length (⟨false, []⟩ : Blk)).length = hp2.length + 1 + 1 := by simp
        refine LeS_sl0 (P := P ++ [(i, j)]) (r := r2) hstb2 (xE.trans ⟨_, rfl⟩) (show H.length ≤ hb2.length by omega) (at_app lM) (fun k p hk => ?_) (by rw [List.length_append, List.length_singleton]; omega) (by omega) ?_ (by simp [okL, okV]; omega)
        · rw [List.getElem?_append_left (by rw [lM]; have := (List.getElem?_eq_some_iff.1 hk).1; rw [iPs_length, List.length_append, List.length_singleton] at this; omega), List.getElem?_set, if_neg (by omega)]
          rcases Nat.lt_or_ge k P.length with h9 | h9
          · rw [iPs_app, List.getElem?_append_left (by rw [iPs_length]; exact h9)] at hk
            rw [List.append_assoc, List.getElem?_append_left (by omega)]
            exact fQ2 k p hk
          · have hkl : k = P.length := by have := (List.getElem?_eq_some_iff.1 hk).1; rw [iPs_length, List.length_append, List.length_singleton] at this; omega
            subst hkl
            rw [iPs_app, List.getElem?_append_right (by rw [iPs_length]; exact Nat.le_refl _), iPs_length, Nat.sub_self] at hk
            simp only [iPs, List.map_cons, List.map_nil, List.getElem?_cons_zero, Option.some.injEq] at hk
            subst hk
            rw [show hb2.length + 1 + P.length = hp2.length by omega]
            exact app_last2
        · simp only [leTm, leV, V.ren, V.renL, range_getD_lt (show H.length < hb2.length by omega), range_getD_lt (show H.length + 1 < hb2.length by omega), range_getD_lt (show hb.length < hb2.length by omega), range_getD_lt (show g < hb2.length by omega), range_getD_ge, range_getD_eq, List.cons_append, List.nil_append, List.getD_cons_zero, List.getD_cons_succ]
          simp
      · have hFj : F i j = false := by
          rw [hFi, beq_eq_false_iff_ne]; intro e
          rw [hb'.2 (by rw [e])] at h5; cases h5
        rw [hFj] at eP1
        simp only [Bool.false_eq_true, if_false, List.append_nil] at eP1
        refine ⟨(j + 1, r1), by simp only; omega, by simp only; omega, List.range (hb2.length + (1 + P.length)), ?_⟩
        simp only [eP1]
        rw [wrap_i64 (by omega) (by omega)]
        exact LeS_id (ex := []) (hlb2 _ _) (show H.length ≤ _ by omega) (by simp [ep2]) (by simp [leT]; have := congrArg List.length eP1; simpa using this.symm) (by simp [stL, stV]; omega) (newP_all hstb2)
    · obtain rfl : j = n := by omega
      simp only [↓VC, VP, TT, Nat.reduceEqDiff, reduceCtorEq, Nat.reduceAdd, Nat.reduceSub, Nat.reduceLT, Nat.reduceMul, Nat.reducePow, Nat.reduceLeDiff, Int.reduceToNat, Int.reduceLE, Int.reduceLT, Int.reducePow, (eq_false (by omega) : ((j : Int) < (j : Int)) = False), decide_false]
      refine ⟨(i + 1, r1), by simp only; omega, by simp only; omega, List.range hb.length ++ ([hb2.length] ++ List.range' (hb2.length + 1) P.length), ?_⟩
      simp only [eP2 rfl]
      rw [wrap_i64 (by omega) (by omega)]
      exact LeS_sl0 hstb (y2.trans ⟨_, rfl⟩) (show H.length ≤ hb.length by omega) newP_out (fun k p hk => newP_part hk) (by omega) (by omega) (by simp only [leTm, leV, V.ren, V.renL, range_getD_lt (show H.length < hb.length by omega), range_getD_lt (show H.length + 1 < hb.length by omega), range_getD_lt (show g < hb.length by omega), range_getD_ge, range_getD_eq, List.cons_append, List.nil_append, List.getD_cons_zero, List.getD_cons_succ]; simp) (by simp [okL, okV]; omega)
  · obtain rfl : i = n := by omega
    simp only [↓VC, VP, TT, Nat.reduceEqDiff, reduceCtorEq, Nat.reduceAdd, Nat.reduceSub, Nat.reduceLT, Nat.reduceMul, Nat.reducePow, Nat.reduceLeDiff, Int.reduceToNat, Int.reduceLE, Int.reduceLT, Int.reducePow, (eq_false (by omega) : ((i : Int) < (i : Int)) = False), decide_false]
    refine ⟨_, _, List.range H.length ++ ([hb.length] ++ List.range' (hb.length + 1) (slS F i i).length), ⟨r0, trivial, rfl, rfl⟩, ?_⟩
    exact LeS_sl0 hst (x1.trans ⟨_, rfl⟩) (Nat.le_refl _) newP_out (fun k p hk => newP_part hk) (by omega) (by omega) (by simp [leTm, leV, V.ren, V.renL, range_getD_ge, range_getD_eq]) (by simp [okL, okV]; omega)
end
end Go.Proofs.YtjakgjelnbpmnaaGreat

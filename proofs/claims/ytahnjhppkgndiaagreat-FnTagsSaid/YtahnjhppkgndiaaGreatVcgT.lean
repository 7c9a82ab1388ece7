import Derived.Test.YtahnjhppkgndiaaGreatVcgQ
/- Memory with a list of parts whose number is not known: slices of slices. -/
set_option linter.unusedSimpArgs false
set_option linter.unusedVariables false
namespace Go.Vc
open Go
/-! ### Handles that stay -/
mutual
/-- All handles are below N. -/
def stV (N : Nat) : V → Prop
  | .c _ => True
  | .p h _ => h < N
  | .s h _ _ _ => h < N
  | .a cs => stL N cs
  | .t vs => stL N vs
  | .j => True
def stL (N : Nat) : List V → Prop
  | [] => True
  | v :: vs => stV N v ∧ stL N vs
end
theorem stL_iff {N : Nat} : ∀ {l : List V}, stL N l ↔ ∀ v ∈ l, stV N v
  | [] => by simp [stL]
  | v :: vs => by simp [stL, stL_iff (l := vs)]
theorem stL_app {N : Nat} {l m : List V} : stL N (l ++ m) ↔ stL N l ∧ stL N m := by
  simp only [stL_iff, List.mem_append]
  constructor
  · intro h; exact ⟨fun v hv => h v (.inl hv), fun v hv => h v (.inr hv)⟩
  · rintro ⟨h1, h2⟩ v (hv | hv)
    · exact h1 v hv
    · exact h2 v hv
theorem stL_bs (N : Nat) (l : List UInt8) : stL N (bs l) := stL_iff.2 fun v hv => by
  simp only [bs, List.mem_map] at hv
  obtain ⟨u, _, rfl⟩ := hv
  trivial
theorem stL_rep (N r : Nat) : stL N (List.replicate r V.j) := stL_iff.2 fun v hv => by
  rw [List.mem_replicate] at hv; rw [hv.2]; trivial
theorem stL_room (N : Nat) (l : List UInt8) (r : Nat) : stL N (bs l ++ List.replicate r V.j) := stL_app.2 ⟨stL_bs N l, stL_rep N r⟩
mutual
theorem stV_ok {N : Nat} : ∀ {v : V}, stV N v → okV N v
  | .c _, _ => trivial
  | .p _ _, h => h
  | .s _ _ _ _, h => fun _ => h
  | .a cs, h => stL_ok (l := cs) h
  | .t vs, h => stL_ok (l := vs) h
  | .j, _ => trivial
theorem stL_ok {N : Nat} : ∀ {l : List V}, stL N l → okL N l
  | [], _ => trivial
  | v :: vs, h => ⟨stV_ok h.1, stL_ok h.2⟩
end
theorem range_getD_lt {N h : Nat} (hh : h < N) (τ : List Nat) : (List.range N ++ τ).getD h 0 = h := by
  rw [List.getD_eq_getElem?_getD, List.getElem?_append_left (by simpa using hh), List.getElem?_range hh]; rfl
theorem range_getD_ge {N k : Nat} (τ : List Nat) : (List.range N ++ τ).getD (N + k) 0 = τ.getD k 0 := by
  rw [List.getD_eq_getElem?_getD, List.getD_eq_getElem?_getD, List.getElem?_append_right (by simp)]; simp
mutual
theorem stV_ren {N : Nat} (τ : List Nat) : ∀ {v : V}, stV N v → v.ren (List.range N ++ τ) = v
  | .c _, _ => rfl
  | .p h o, hh => by rw [V.ren, range_getD_lt hh]
  | .s h o n m, hh => by rw [V.ren, range_getD_lt hh]
  | .a cs, hh => by rw [V.ren, stL_ren τ (l := cs) hh]
  | .t vs, hh => by rw [V.ren, stL_ren τ (l := vs) hh]
  | .j, _ => rfl
theorem stL_ren {N : Nat} (τ : List Nat) : ∀ {l : List V}, stL N l → V.renL (List.range N ++ τ) l = l
  | [], _ => rfl
  | v :: vs, hh => by rw [V.renL, stV_ren τ (v := v) hh.1, stL_ren τ (l := vs) hh.2]
end
/-- The first a blocks stay where they are, the others are told one by one. -/
theorem leHp_pre {σ : List Nat} : ∀ {A : List Blk} {gs : List Nat} {hp B : List Blk} {τ : List Nat}, gs.length = A.length → (∀ i b, A[i]? = some b → hp[gs.getD i 0]? = some b ∧ V.renL σ b.cells = b.cells) → leHp σ hp τ B → leHp σ hp (gs ++ τ) (A ++ B)
  | [], [], _, _, _, _, _, h => h
  | b :: A, g :: gs, hp, B, τ, hl, hA, h => by
    rw [List.cons_append, List.cons_append, leHp]
    refine ⟨.inr ?_, leHp_pre (by simpa using hl) (fun i c hc => by simpa using hA (i + 1) c (by simpa using hc)) h⟩
    have := hA 0 b rfl
    simp only [List.getD_cons_zero] at this
    rw [this.1]
    exact ⟨this.2.symm, id⟩
theorem LeS_pre {m a : Nat} {τ : List Nat} {tm tm' : List V} {A X B hp : List Blk} (ha : A.length = a) (hm : m ≤ a) (hp0 : hp = A ++ X) (hnd : τ.Nodup) (hge : ∀ g ∈ τ, a ≤ g) (hlen : τ.length = B.length) (ht : leTm (List.range a ++ τ) tm tm') (hA : ∀ b ∈ A, stL a b.cells) (hB : leHp (List.range a ++ τ) hp τ B)
    (hok : okL (a + τ.length) tm') (hokB : ∀ b ∈ B, okL (a + τ.length) b.cells) : LeS m (List.range a ++ τ) tm hp tm' (A ++ B) := by
  have hl : (A ++ B).length = a + τ.length := by rw [List.length_append, ha, hlen]
  refine ⟨?_, ?_, ht, ?_, by rw [hl]; exact hok, ?_⟩
  · rw [List.take_append_of_le_length (by simpa using hm), List.take_range, Nat.min_eq_left hm]
  · rw [List.nodup_append]
    refine ⟨List.nodup_range, hnd, fun x hx y hy => ?_⟩
    rw [List.mem_range] at hx
    have := hge y hy
    omega
  · refine leHp_pre (by rw [List.length_range, ha]) (fun i b hb => ?_) hB
    have hi : i < A.length := (List.getElem?_eq_some_iff.1 hb).1
    refine ⟨?_, stL_ren τ (hA b (List.mem_of_getElem? hb))⟩
    have : (List.range a).getD i 0 = i := by rw [List.getD_eq_getElem?_getD, List.getElem?_range (by omega)]; rfl
    rw [this, hp0, List.getElem?_append_left hi, hb]
  · rw [hl]
    intro b hb
    rcases List.mem_append.1 hb with hb | hb
    · exact okL_mono (by omega) (stL_ok (hA b hb))
    · exact hokB b hb
/-- The slots of the new state: unknown, or as they are. -/
def leT : List V → List V → Prop
  | [], [] => True
  | v :: vs, u :: us => (u = .j ∨ v = u) ∧ leT vs us
  | _, _ => False
theorem leT_leTm {N : Nat} {τ : List Nat} : ∀ {tm tm' : List V}, leT tm tm' → stL N tm' → leTm (List.range N ++ τ) tm tm'
  | [], [], _, _ => trivial
  | v :: vs, u :: us, h, hs => by
    rw [leT] at h
    refine ⟨?_, leT_leTm h.2 hs.2⟩
    rcases h.1 with rfl | rfl
    · trivial
    · have := stV_ren τ hs.1
      cases v <;> first | trivial | exact this.symm
/-- All blocks stay; what was made meanwhile is forgotten. -/
theorem LeS_id {m N : Nat} {tm tm' : List V} {hp' ex hp : List Blk} (hN : hp'.length = N) (hm : m ≤ N) (he : hp = hp' ++ ex) (ht : leT tm tm') (hs : stL N tm') (hb : ∀ b ∈ hp', stL N b.cells) : LeS m (List.range N) tm hp tm' hp' := by
  have := LeS_pre (τ := []) (B := []) (tm := tm) (tm' := tm') hN hm he List.nodup_nil (by simp) rfl (leT_leTm (τ := []) ht hs) hb trivial (by simpa using stL_ok hs) (by simp)
  simpa using this
/-! ### Parts -/
/-- A part: its cells, the length and the room of the slice that leads to it. -/
structure Prt where
  cells : List V
  n : Nat
  c : Nat
instance : Inhabited Prt := ⟨⟨[], 0, 0⟩⟩
/-- A part of bytes. -/
def bP (p : List UInt8 × Nat) : Prt := ⟨bs p.1, p.1.length, p.2⟩
/-- Parts of bytes. -/
def bPs (D : List (List UInt8 × Nat)) : List Prt := D.map bP
theorem bPs_length (D : List (List UInt8 × Nat)) : (bPs D).length = D.length := by simp [bPs]
theorem bPs_get {D : List (List UInt8 × Nat)} {i : Nat} {p : List UInt8 × Nat} (h : D[i]? = some p) : (bPs D)[i]? = some (bP p) := by simp [bPs, List.getElem?_map, h]
theorem bPs_st {N : Nat} {D : List (List UInt8 × Nat)} : ∀ p ∈ bPs D, stL N p.cells := by
  intro p hp
  simp only [bPs, List.mem_map] at hp
  obtain ⟨q, _, rfl⟩ := hp
  exact stL_bs _ _
/-- The slices that lead to parts, whose handles begin at h. -/
def ptrV : Nat → List Prt → List V
  | _, [] => []
  | h, p :: L => .s h 0 p.n p.c :: ptrV (h + 1) L
def partB (own : Bool) (L : List Prt) : List Blk := L.map fun p => ⟨own, p.cells⟩
theorem ptrV_length : ∀ (h : Nat) (L : List Prt), (ptrV h L).length = L.length
  | _, [] => rfl
  | h, p :: L => by rw [ptrV, List.length_cons, List.length_cons, ptrV_length (h + 1) L]
theorem partB_length (own : Bool) (L : List Prt) : (partB own L).length = L.length := by simp [partB]
theorem ptrV_get : ∀ (h : Nat) {L : List Prt} {i : Nat} {p : Prt}, L[i]? = some p → (ptrV h L)[i]? = some (.s (h + i) 0 p.n p.c)
  | h, q :: L, 0, p, hp => by
    simp only [List.getElem?_cons_zero, Option.some.injEq] at hp
    subst hp; rfl
  | h, q :: L, i + 1, p, hp => by
    rw [ptrV, List.getElem?_cons_succ, ptrV_get (h + 1) (by simpa using hp), Nat.add_assoc, Nat.add_comm 1 i]
theorem partB_get {own : Bool} {L : List Prt} {R : List Blk} {i : Nat} {p : Prt} (h : L[i]? = some p) : (partB own L ++ R)[i]? = some ⟨own, p.cells⟩ := by
  have hi := (List.getElem?_eq_some_iff.1 h).1
  rw [List.getElem?_append_left (by rw [partB_length]; exact hi)]
  simp only [partB, List.getElem?_map, h, Option.map_some]
theorem partB_get0 {own : Bool} {L : List Prt} {i : Nat} {p : Prt} (h : L[i]? = some p) : (partB own L)[i]? = some ⟨own, p.cells⟩ := by
  have := partB_get (own := own) (R := []) h
  rwa [List.append_nil] at this
theorem partB_skip {own : Bool} {L : List Prt} {R : List Blk} {n : Nat} (h : L.length = n) (k : Nat) : (partB own L ++ R)[n + k]? = R[k]? := by
  rw [List.getElem?_append_right (by rw [partB_length]; omega), partB_length, h, Nat.add_sub_cancel_left]
theorem partB_skip0 {own : Bool} {L : List Prt} {R : List Blk} {n : Nat} (h : L.length = n) : (partB own L ++ R)[n]? = R[0]? := partB_skip h 0
theorem partB_set {own : Bool} {L : List Prt} {R : List Blk} {n : Nat} (h : L.length = n) (k : Nat) (b : Blk) : (partB own L ++ R).set (n + k) b = partB own L ++ R.set k b := by
  rw [List.set_append_right _ _ (by rw [partB_length]; omega), partB_length, h, Nat.add_sub_cancel_left]
theorem partB_set0 {own : Bool} {L : List Prt} {R : List Blk} {n : Nat} (h : L.length = n) (b : Blk) : (partB own L ++ R).set n b = partB own L ++ R.set 0 b := partB_set h 0 b
theorem stL_ptrV {N : Nat} : ∀ {h : Nat} {L : List Prt}, h + L.length ≤ N → stL N (ptrV h L)
  | _, [], _ => trivial
  | h, p :: L, hh => by
    rw [List.length_cons] at hh
    exact ⟨show h < N by omega, stL_ptrV (by omega)⟩
theorem stB_part {N : Nat} {own : Bool} {L : List Prt} (hL : ∀ p ∈ L, stL N p.cells) : ∀ b ∈ partB own L, stL N b.cells := by
  intro b hb
  simp only [partB, List.mem_map] at hb
  obtain ⟨p, hp, rfl⟩ := hb
  exact hL p hp
theorem stB_nest {N h : Nat} {own own' : Bool} {L : List Prt} (hh : h + L.length ≤ N) (hL : ∀ p ∈ L, stL N p.cells) : ∀ b ∈ (⟨own, ptrV h L⟩ : Blk) :: partB own' L, stL N b.cells := by
  intro b hb
  rcases List.mem_cons.1 hb with rfl | hb
  · exact stL_ptrV hh
  · exact stB_part hL b hb
theorem stB_cons {N : Nat} {b : Blk} {B : List Blk} (hb : stL N b.cells) (hB : ∀ b ∈ B, stL N b.cells) : ∀ x ∈ b :: B, stL N x.cells := by
  intro x hx
  rcases List.mem_cons.1 hx with rfl | hx
  · exact hb
  · exact hB x hx
theorem stB_nil {N : Nat} : ∀ x ∈ ([] : List Blk), stL N x.cells := by simp
theorem stB_app {N : Nat} {A B : List Blk} (hA : ∀ b ∈ A, stL N b.cells) (hB : ∀ b ∈ B, stL N b.cells) : ∀ b ∈ A ++ B, stL N b.cells := by
  intro b hb
  rcases List.mem_append.1 hb with hb | hb
  · exact hA b hb
  · exact hB b hb
theorem ptrV_app : ∀ (h : Nat) (L M : List Prt), ptrV h (L ++ M) = ptrV h L ++ ptrV (h + L.length) M
  | h, [], M => rfl
  | h, p :: L, M => by rw [List.cons_append, ptrV, ptrV_app (h + 1) L M, ptrV, List.cons_append, List.length_cons, Nat.add_assoc, Nat.add_comm 1 L.length]
theorem vGet_ptrV {h : Nat} {L : List Prt} {i : Nat} {p : Prt} {R : List V} {k : V → Prop} (hp : L[i]? = some p) : vGet (ptrV h L ++ R) i k = k (.s (h + i) 0 p.n p.c) := by
  have hi := (List.getElem?_eq_some_iff.1 hp).1
  have hl : i < (ptrV h L).length := by rw [ptrV_length]; exact hi
  unfold vGet
  rw [List.getD_eq_getElem?_getD, List.getElem?_append_left hl, ptrV_get h hp, Option.getD_some]
  apply propext
  exact ⟨fun x => x.2, fun x => ⟨by rw [List.length_append]; omega, x⟩⟩
theorem vGet_ptrV0 {h : Nat} {L : List Prt} {i : Nat} {p : Prt} {k : V → Prop} (hp : L[i]? = some p) : vGet (ptrV h L) i k = k (.s (h + i) 0 p.n p.c) := by
  have := vGet_ptrV (h := h) (R := []) (k := k) hp
  rwa [List.append_nil] at this
/-! ### Calls over parts -/
/-- The segments b, b + 1, .. (n of them). -/
def rng (b : Nat) : Nat → List (Nat × Nat)
  | 0 => []
  | n + 1 => rng b n ++ [(b + n, 0)]
theorem rng_length (b : Nat) : ∀ n, (rng b n).length = n
  | 0 => rfl
  | n + 1 => by rw [rng, List.length_append, rng_length b n]; rfl
theorem rng_get (b : Nat) : ∀ {n i : Nat}, i < n → (rng b n)[i]? = some (b + i, 0)
  | n + 1, i, h => by
    rw [rng]
    rcases Nat.lt_or_ge i n with h1 | h1
    · rw [List.getElem?_append_left (by rw [rng_length]; exact h1), rng_get b h1]
    · obtain rfl : i = n := by omega
      rw [List.getElem?_append_right (by rw [rng_length]; omega), rng_length, Nat.sub_self]; rfl
theorem instL_ptrV {sub : List (Nat × Nat)} {N : Nat} : ∀ {h b : Nat} {L : List Prt}, (∀ i, i < L.length → sub[h + i]? = some (b + i, 0)) → V.instL sub N (ptrV h L) = ptrV b L
  | _, _, [], _ => rfl
  | h, b, p :: L, hs => by
    have h0 := hs 0 (by simp)
    simp only [Nat.add_zero] at h0
    rw [ptrV, V.instL, V.inst, h0, ptrV, instL_ptrV (h := h + 1) (b := b + 1) fun i hi => by
      have := hs (i + 1) (by simpa using hi)
      rwa [Nat.add_assoc h 1 i, Nat.add_comm 1 i, Nat.add_assoc b 1 i, Nat.add_comm 1 i]]
theorem instL_ptrN {sub : List (Nat × Nat)} {N : Nat} : ∀ {h b : Nat} {L : List Prt}, sub.length + b = h → V.instL sub N (ptrV h L) = ptrV (N + b) L
  | _, _, [], _ => rfl
  | h, b, p :: L, hs => by
    have h0 : sub[h]? = none := List.getElem?_eq_none (by omega)
    rw [ptrV, V.instL, V.inst, h0, ptrV, instL_ptrN (h := h + 1) (b := b + 1) (by omega)]
    simp only [show h - sub.length = b by omega]
    rfl
theorem segOK_app {hp : List Blk} {sub : List (Nat × Nat)} : ∀ {r1 r2 : List (Nat × Nat)} {a1 a2 : List Blk}, segOK hp sub r1 a1 → segOK hp sub r2 a2 → segOK hp sub (r1 ++ r2) (a1 ++ a2)
  | [], _, [], _, _, h => h
  | (g, q) :: r1, r2, b :: a1, a2, h1, h2 => ⟨h1.1, segOK_app h1.2 h2⟩
theorem segOK_rng {hp : List Blk} {sub : List (Nat × Nat)} {b : Nat} : ∀ {n : Nat} {L : List Prt}, L.length = n → (∀ i p, L[i]? = some p → b + i < hp.length ∧ (cellsAt hp (b + i)).take p.cells.length = V.instL sub hp.length p.cells) → segOK hp sub (rng b n) (partB false L)
  | 0, [], _, _ => trivial
  | n + 1, L, hl, hL => by
    have hne : n < L.length := by omega
    have e : L = L.take n ++ [L[n]] := by rw [List.take_append_getElem]; rw [List.take_of_length_le (by omega)]
    have hn := hL n L[n] (List.getElem?_eq_getElem hne)
    rw [e, rng]
    unfold partB
    rw [List.map_append]
    refine segOK_app (segOK_rng (L := L.take n) (by rw [List.length_take]; omega) fun i p hp => ?_) ⟨⟨rfl, hn.1, by rw [List.drop_zero]; exact hn.2⟩, trivial⟩
    have hi := (List.getElem?_eq_some_iff.1 hp).1
    rw [List.length_take] at hi
    refine hL i p ?_
    rw [List.getElem?_take, if_pos (by omega)] at hp
    exact hp
/-- Pointers at g, parts from b on, and more (τ, T). -/
theorem seg_nestX {hp : List Blk} {g b n : Nat} {P : List Prt} {τ : List (Nat × Nat)} {T : List Blk} (hn : P.length = n) (hg : g < hp.length) (h0 : (cellsAt hp g).take n = ptrV b P) (hparts : ∀ i p, P[i]? = some p → b + i < hp.length ∧ (cellsAt hp (b + i)).take p.cells.length = p.cells)
    (hid : ∀ sub N, ∀ p ∈ P, V.instL sub N p.cells = p.cells) (hT : segOK hp ((g, 0) :: (rng b n ++ τ)) τ T) : segOK hp ((g, 0) :: (rng b n ++ τ)) ((g, 0) :: (rng b n ++ τ)) (⟨false, ptrV 1 P⟩ :: (partB false P ++ T)) := by
  refine ⟨⟨rfl, hg, ?_⟩, segOK_app (segOK_rng hn fun i p hp => ?_) hT⟩
  · rw [List.drop_zero, ptrV_length, hn, h0, instL_ptrV]
    intro i hi
    rw [Nat.add_comm, List.getElem?_cons_succ, List.getElem?_append_left (by rw [rng_length]; omega), rng_get b (by omega)]
  · rw [hid _ _ _ (List.mem_of_getElem? hp)]
    exact hparts i p hp
theorem seg_nest {hp : List Blk} {g b n : Nat} {P : List Prt} (hn : P.length = n) (hg : g < hp.length) (h0 : (cellsAt hp g).take n = ptrV b P) (hparts : ∀ i p, P[i]? = some p → b + i < hp.length ∧ (cellsAt hp (b + i)).take p.cells.length = p.cells)
    (hid : ∀ sub N, ∀ p ∈ P, V.instL sub N p.cells = p.cells) : segOK hp ((g, 0) :: rng b n) ((g, 0) :: rng b n) (⟨false, ptrV 1 P⟩ :: partB false P) := by
  have := seg_nestX (τ := []) (T := []) hn hg h0 hparts hid trivial
  simpa using this
theorem bPs_id {D : List (List UInt8 × Nat)} : ∀ sub N, ∀ p ∈ bPs D, V.instL sub N p.cells = p.cells := by
  intro sub N p hp
  simp only [bPs, List.mem_map] at hp
  obtain ⟨q, _, rfl⟩ := hp
  exact instL_bs _ _ _
theorem okB_nest {own : Bool} {D : List (List UInt8 × Nat)} {N : Nat} (hN : D.length + 1 ≤ N) : ∀ b ∈ (⟨false, ptrV 1 (bPs D)⟩ : Blk) :: partB own (bPs D), okL N b.cells := fun b hb => stL_ok (stB_nest (by rw [bPs_length]; omega) bPs_st b hb)
/-- A block in the midst. -/
theorem at_app {A B : List Blk} {x : Blk} {h : Nat} (hA : A.length = h) : (A ++ x :: B)[h]? = some x := by
  subst hA; rw [List.getElem?_append_right (Nat.le_refl _), Nat.sub_self]; rfl
theorem range_getD_eq {N : Nat} (τ : List Nat) : (List.range N ++ τ).getD N 0 = τ.getD 0 0 := range_getD_ge (k := 0) τ
/-- As LeS_pre, the blocks told as they come. -/
theorem LeS_nx {m a : Nat} {τ : List Nat} {tm tm' : List V} {b0 : Blk} {P X B hp : List Blk} (A : List Blk) (ha : P.length + A.length + 1 = a) (hm : m ≤ a) (hp0 : hp = b0 :: (P ++ (A ++ X))) (hnd : τ.Nodup) (hge : ∀ g ∈ τ, a ≤ g) (hlen : τ.length = B.length) (ht : leTm (List.range a ++ τ) tm tm') (hA : ∀ b ∈ b0 :: (P ++ A), stL a b.cells) (hB : leHp (List.range a ++ τ) hp τ B)
    (hok : okL (a + τ.length) tm') (hokB : ∀ b ∈ B, okL (a + τ.length) b.cells) : LeS m (List.range a ++ τ) tm hp tm' (b0 :: (P ++ (A ++ B))) := by
  have := LeS_pre (A := b0 :: (P ++ A)) (B := B) (X := X) (m := m) (τ := τ) (tm := tm) (tm' := tm') (hp := hp) (by simp; omega) hm (by simp [hp0]) hnd hge hlen ht hA hB hok hokB
  simpa using this
end Go.Vc

import Derived.Test.YtahnjhppkgndiaaGreatVcgU
/- Calls over a memory of which only some blocks are told: more. -/
set_option linter.unusedSimpArgs false
set_option linter.unusedVariables false
namespace Go.Vc
open Go
theorem Ext.le {hp hp2 : List Blk} (e : Ext hp hp2) : hp.length ≤ hp2.length := by obtain ⟨R, rfl⟩ := e; simp
/-! ### Calls that are handed the whole memory -/
section
variable {X : Cx} {f : FuncId} {args : List V} {d : Option Tmp} {ops : List Oper} {r : R} {tm : List V} {hp : List Blk} {q : K}
end
/-- All handles are right. -/
def stM (hp : List Blk) : Prop := ∀ b ∈ hp, stL hp.length b.cells
theorem stM.ok {hp : List Blk} (h : stM hp) : ∀ b ∈ hp, okL hp.length b.cells := fun b hb => stL_ok (h b hb)
section
variable {X : Cx} {f : FuncId} {args : List V} {d : Option Tmp} {ops : List Oper} {r : R} {tm : List V} {hp : List Blk} {q : K}
end
theorem leHp_app {σ : List Nat} {hp : List Blk} : ∀ {gs gs' : List Nat} {A B : List Blk}, leHp σ hp gs A → leHp σ hp gs' B → leHp σ hp (gs ++ gs') (A ++ B)
  | [], _, [], _, _, h => h
  | g :: gs, gs', b :: A, B, h1, h2 => ⟨h1.1, leHp_app h1.2 h2⟩
theorem leHp_parts {σ : List Nat} {hp : List Blk} : ∀ {b : Nat} {P : List Prt}, (∀ i p, P[i]? = some p → hp[b + i]? = some ⟨true, p.cells⟩) → (∀ p ∈ P, V.renL σ p.cells = p.cells) → leHp σ hp (List.range' b P.length) (partB true P)
  | _, [], _, _ => trivial
  | b, p :: P, h, hid => by
    rw [List.length_cons, List.range'_succ]
    refine ⟨.inr ?_, leHp_parts (b := b + 1) (fun i q hq => ?_) fun q hq => hid q (List.mem_cons_of_mem _ hq)⟩
    · have := h 0 p rfl
      rw [Nat.add_zero] at this
      rw [this]
      exact ⟨(hid p List.mem_cons_self).symm, fun _ => rfl⟩
    · have := h (i + 1) q (by simpa using hq)
      rwa [Nat.add_assoc, Nat.add_comm 1 i]
theorem renL_ptrV {σ : List Nat} : ∀ {h b : Nat} {L : List Prt}, (∀ i, i < L.length → σ.getD (h + i) 0 = b + i) → V.renL σ (ptrV h L) = ptrV b L
  | _, _, [], _ => rfl
  | h, b, p :: L, hs => by
    have h0 := hs 0 (by simp)
    simp only [Nat.add_zero] at h0
    rw [ptrV, V.renL, V.ren, h0, ptrV, renL_ptrV (h := h + 1) (b := b + 1) fun i hi => by
      have := hs (i + 1) (by simpa using hi)
      rwa [Nat.add_assoc h 1 i, Nat.add_comm 1 i, Nat.add_assoc b 1 i, Nat.add_comm 1 i]]
theorem getD_range' {b n i : Nat} (h : i < n) : (List.range' b n).getD i 0 = b + i := by
  rw [List.getD_eq_getElem?_getD, List.getElem?_range' h]; simp
/-- What came in stays; new: some blocks B, whose handles τ are, and the parts of a nest. -/
theorem LeS_new {m N b n : Nat} {tm tm' : List V} {hp H : List Blk} {τ : List Nat} {B : List Blk} {P : List Prt} (hH : H.length = N) (x : Ext H hp) (hst : stM H) (hm : m ≤ N) (hτ : τ.length = B.length) (hnd : τ.Nodup) (hge : ∀ g ∈ τ, N ≤ g ∧ (g < b ∨ b + n ≤ g)) (hb : N ≤ b) (hn : P.length = n)
    (hparts : ∀ i p, P[i]? = some p → hp[b + i]? = some ⟨true, p.cells⟩) (hid : ∀ (σ : List Nat), ∀ p ∈ P, V.renL σ p.cells = p.cells) (hok2 : ∀ M, ∀ p ∈ P, okL M p.cells)
    (ht : leTm (List.range N ++ (τ ++ List.range' b n)) tm tm') (hB : leHp (List.range N ++ (τ ++ List.range' b n)) hp τ B) (hok : okL (N + (τ.length + n)) tm') (hokB : ∀ c ∈ B, okL (N + (τ.length + n)) c.cells) :
    LeS m (List.range N ++ (τ ++ List.range' b n)) tm hp tm' (H ++ (B ++ partB true P)) := by
  obtain ⟨R, eR⟩ := x
  subst hn
  have hlen : (τ ++ List.range' b P.length).length = τ.length + P.length := by simp
  refine LeS_pre (X := R) hH hm eR (List.nodup_append.2 ⟨hnd, List.nodup_range', fun y hy z hz => ?_⟩) (fun g hg => ?_) (by simp [partB_length, hτ]) ht (fun c hc => by have := hst c hc; rwa [hH] at this) (leHp_app hB (leHp_parts hparts fun p hp => hid _ p hp)) (by rw [hlen]; exact hok) (fun c hc => ?_)
  · have h1 := (hge y hy).2
    rw [List.mem_range'_1] at hz
    omega
  · rcases List.mem_append.1 hg with hg | hg
    · exact (hge g hg).1
    · rw [List.mem_range'_1] at hg; omega
  · rw [hlen]
    rcases List.mem_append.1 hc with hc | hc
    · exact hokB c hc
    · simp only [partB, List.mem_map] at hc
      obtain ⟨p, hp, rfl⟩ := hc
      exact hok2 _ p hp
theorem leHp_partsG {σ : List Nat} {hp : List Blk} : ∀ {γ : List Nat} {P : List Prt}, γ.length = P.length → (∀ i p, P[i]? = some p → hp[γ.getD i 0]? = some ⟨true, p.cells⟩) → (∀ p ∈ P, V.renL σ p.cells = p.cells) → leHp σ hp γ (partB true P)
  | [], [], _, _, _ => trivial
  | g :: γ, p :: P, hl, h, hid => by
    refine ⟨.inr ?_, leHp_partsG (by simpa using hl) (fun i q hq => by simpa using h (i + 1) q (by simpa using hq)) fun q hq => hid q (List.mem_cons_of_mem _ hq)⟩
    have := h 0 p rfl
    simp only [List.getD_cons_zero] at this
    rw [this]
    exact ⟨(hid p List.mem_cons_self).symm, fun _ => rfl⟩
  | [], _ :: _, h, _, _ => by simp at h
  | _ :: _, [], h, _, _ => by simp at h
/-- As LeS_new, the parts' handles being any list. -/
theorem LeS_gen {m N : Nat} {tm tm' : List V} {hp H : List Blk} {τ γ : List Nat} {B : List Blk} {P : List Prt} (hH : H.length = N) (x : Ext H hp) (hst : stM H) (hm : m ≤ N) (hτ : τ.length = B.length) (hγ : γ.length = P.length) (hnd : (τ ++ γ).Nodup) (hge : ∀ g ∈ τ ++ γ, N ≤ g)
    (hparts : ∀ i p, P[i]? = some p → hp[γ.getD i 0]? = some ⟨true, p.cells⟩) (hid : ∀ (σ : List Nat), ∀ p ∈ P, V.renL σ p.cells = p.cells) (hok2 : ∀ M, ∀ p ∈ P, okL M p.cells)
    (ht : leTm (List.range N ++ (τ ++ γ)) tm tm') (hB : leHp (List.range N ++ (τ ++ γ)) hp τ B) (hok : okL (N + (τ.length + P.length)) tm') (hokB : ∀ c ∈ B, okL (N + (τ.length + P.length)) c.cells) :
    LeS m (List.range N ++ (τ ++ γ)) tm hp tm' (H ++ (B ++ partB true P)) := by
  obtain ⟨R, eR⟩ := x
  have hlen : (τ ++ γ).length = τ.length + P.length := by rw [List.length_append, hγ]
  refine LeS_pre (X := R) hH hm eR hnd hge (by rw [List.length_append, List.length_append, partB_length, hτ, hγ]) ht (fun c hc => by have := hst c hc; rwa [hH] at this) (leHp_app hB (leHp_partsG hγ hparts fun p hp => hid _ p hp)) (by rw [hlen]; exact hok) (fun c hc => ?_)
  rw [hlen]
  rcases List.mem_append.1 hc with hc | hc
  · exact hokB c hc
  · simp only [partB, List.mem_map] at hc
    obtain ⟨p, hp, rfl⟩ := hc
    exact hok2 _ p hp
end Go.Vc

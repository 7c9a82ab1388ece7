/- The operations that leave the world as it is, all of them. -/
import Derived.Test.YtgdkpnchkalggaaVcgC
set_option linter.unusedSimpArgs false
set_option linter.unusedVariables false
namespace Go.Vc
open Go
section
variable {P : Program} {E : Env} {t : TypeId} {d : TD} {M : Nat → Prop} {w0 w : World} {ρ : Loc} {hp : List Blk}

theorem foldl_push (bs : List UInt8) : ∀ (acc : List UInt8), (bs.map fun u => ((u.toNat : Nat) : Int)).foldl (fun r n => r.push (UInt8.ofNat n.toNat)) (⟨acc.toArray⟩ : ByteArray) = ⟨(acc ++ bs).toArray⟩ := by
  induction bs with
  | nil => intro acc; simp
  | cons b bs ih =>
    intro acc
    simp only [List.map_cons, List.foldl_cons]
    have : (⟨acc.toArray⟩ : ByteArray).push (UInt8.ofNat ((b.toNat : Nat) : Int).toNat) = ⟨(acc ++ [b]).toArray⟩ := by
      simp [ByteArray.push]
    rw [this, ih]
    simp

theorem vConv_sound (hE : EnvOK P E) (hd : Hd M w0 ρ hp w) {src dst : TypeId} {x : V} {v : Value} (hx : rel ρ x v) {k : V → Prop} (h : vConv E src dst x hp k) :
    ∃ y, k (.c y) ∧ ∀ w', Keep none' w w' → (convert src dst v).run P w' = .ok y w' := by
  unfold vConv at h
  cases hs : E src with
  | none => simp [hs] at h
  | some ds =>
    cases hdst : E dst with
    | none => simp [hs, hdst] at h
    | some dd =>
      simp only [hs, hdst] at h
      split at h
      · unfold rel at hx; subst hx
        cases hdu : dd.und <;> simp only [hdu] at h
        case int kd => exact ⟨_, h, fun w' _ => by simp [convert, hE.run_und hs, hE.run_und hdst, hdu, Conv.intToInt]⟩
        all_goals exact h.elim
      · cases hdu : dd.und <;> simp only [hdu] at h
        case string =>
          cases hsu : ds.und <;> simp only [hsu] at h
          case slice e =>
            cases hEe : E e with
            | none => simp [hEe] at h
            | some de =>
              cases hsx : asS x with
              | none => simp [hEe, hsx] at h
              | some q =>
                obtain ⟨g, o, n, c⟩ := q
                simp only [hEe, hsx] at h
                obtain ⟨hde, bs, hl, hc, hk⟩ := h
                obtain ⟨hnc, a, rfl, ha⟩ := asS_rel hx hsx
                have hcv : ∀ w', (convert src dst (.slice a n c)).run P w' = (Conv.bytesToString (.slice a n c)).run P w' := fun w' =>
                  run_convert_bytes_string w' src dst e a n c (by rw [hE.und hs, hsu]) (by rw [hE.und hEe, hde]) (by rw [hE.und hdst, hdu])
                refine ⟨_, hk, fun w' hk' => ?_⟩
                rw [hcv w']
                rcases hc with h0 | ⟨hlen, hcells⟩
                · subst h0
                  have hb : bs = [] := List.eq_nil_of_length_eq_zero hl
                  subst hb
                  cases a with
                  | none => simp [Conv.bytesToString]; rfl
                  | some a =>
                    have := run_bytesToString (P := P) w' a 0 c [] (by simpa using run_loadCells_list (P := P) w' a [] (by simp))
                    rw [this]; simp; rfl
                · rcases Nat.eq_zero_or_pos n with h0 | h0
                  · subst h0
                    have hb : bs = [] := List.eq_nil_of_length_eq_zero hl
                    subst hb
                    cases a with
                    | none => simp [Conv.bytesToString]; rfl
                    | some a =>
                      have := run_bytesToString (P := P) w' a 0 c [] (by simpa using run_loadCells_list (P := P) w' a [] (by simp))
                      rw [this]; simp; rfl
                  · have ha' := ha (by omega)
                    subst ha'
                    unfold cellsAt at hlen hcells
                    cases hb : hp[g]? with
                    | none => simp [hb] at hlen; omega
                    | some b =>
                      simp only [hb] at hlen hcells
                      obtain ⟨xs, h1, h2, h3, _, h5⟩ := hd.loadCells (P := P) hb o n hlen
                      rw [hcells] at h1
                      have hxs : xs = bs.map fun u => Value.int .u8 u.toNat := relL_of_map_c h1
                      have h6 := h5 w' hk'
                      rw [hxs] at h6
                      have := run_bytesToString (P := P) w' ⟨(ρ g).1, (ρ g).2 + o, none⟩ n c (bs.map fun u => ((u.toNat : Nat) : Int)) (by simpa [List.map_map, Function.comp_def] using h6)
                      rw [this]
                      have hf := foldl_push bs []
                      simp only [List.nil_append] at hf
                      exact congrArg (fun b => Result.ok (Value.string b) w') hf
          all_goals exact h.elim
        all_goals exact h.elim

theorem vArrPtr_sound (hE : EnvOK P E) {N : Nat} {x : V} {v : Value} (hx : rel ρ x v) (hk : okV N x) {k : V → Prop} (h : vArrPtr E t x k) :
    ∃ u y, k u ∧ rel ρ u y ∧ okV N u ∧ ∀ w', (Instr.arrayAt t v).run P w' = .ok y w' := by
  unfold vArrPtr at h
  cases hE0 : E t with
  | none => simp [hE0] at h
  | some dd =>
    simp only [hE0] at h
    cases hdu : dd.und <;> simp only [hdu] at h
    case array n e =>
      cases x <;> simp only at h
      case s g o len c =>
        obtain ⟨h1, h2, h⟩ := h
        unfold rel at hx
        obtain ⟨_, a, rfl, ha⟩ := hx
        have ha' := ha h2
        subst ha'
        unfold okV at hk
        refine ⟨_, _, h, rfl, hk h2, fun w' => ?_⟩
        simp [Instr.arrayAt, hE.run_und hE0, hdu, show ¬ len < n by omega]
      all_goals exact h.elim
    all_goals exact h.elim

theorem vFieldAddr_sound (hE : EnvOK P E) {N : Nat} {x : V} {v : Value} (hx : rel ρ x v) (hk : okV N x) {f : Nat} {k : V → Prop} (h : vFieldAddr E t x f k) :
    ∃ u y, k u ∧ rel ρ u y ∧ okV N u ∧ ∀ w', (Instr.fieldAt t v f).run P w' = .ok y w' := by
  unfold vFieldAddr at h
  cases hE0 : E t with
  | none => simp [hE0] at h
  | some dd =>
    simp only [hE0] at h
    cases hdu : dd.und <;> simp only [hdu] at h
    case struct fs =>
      cases hf : fs[f]? with
      | none => simp [hf] at h
      | some fd =>
        cases x <;> simp only [hf] at h
        case p g o =>
          cases hEf : E fd.type with
          | none => simp [hEf] at h
          | some df =>
            simp only [hEf] at h
            obtain ⟨h0, h⟩ := h
            unfold rel at hx; subst hx
            refine ⟨_, _, h, rfl, hk, fun w' => ?_⟩
            simp [Instr.fieldAt, hE.run_und hE0, hdu, hf, Instr.sureAddr, fieldPlace, hE.run_size hEf, h0, addr_add, Nat.add_assoc]
        all_goals exact h.elim
    all_goals exact h.elim

theorem vPart_sound (hE : EnvOK P E) {N : Nat} {cs : List V} {l : List Value} (hl : relL ρ cs l) (h1 : ∀ x ∈ l, x.oneCell' = true) (hk : okL N cs) {off : Nat} {k : V → Prop} (h : vPart E t cs off k) :
    ∃ u y, k u ∧ rel ρ u y ∧ okV N u ∧ ∀ w', (part t l.toArray off).run P w' = .ok y w' := by
  unfold vPart vSub vGet at h
  cases hE0 : E t with
  | none => simp [hE0] at h
  | some dd =>
    simp only [hE0] at h
    have hll := relL_length hl
    by_cases ha : isAggD dd.und = true
    · rw [if_pos ha] at h
      obtain ⟨hlen, h⟩ := h
      refine ⟨_, .agg ((l.drop off).take dd.size).toArray, h, ?_, ?_, fun w' => ?_⟩
      · unfold rel; exact ⟨_, rfl, relL_take (relL_drop hl _) _, fun x hx => h1 x (List.mem_of_mem_drop (List.mem_of_mem_take hx))⟩
      · unfold okV; exact okL_take (okL_drop hk _) _
      · simp [part, hE.run_isAgg hE0, ha, hE.run_size hE0, List.extract_eq_take_drop]
    · rw [if_neg ha] at h
      obtain ⟨hs, hlt, h⟩ := h
      have hg := getD_some hlt
      obtain ⟨y, hy, hr⟩ := relL_get hl hg
      refine ⟨_, y, h, hr, okL_get hk hg, fun w' => ?_⟩
      simp [part, hE.run_isAgg hE0, ha, hy]

theorem vField_sound (hE : EnvOK P E) {N : Nat} {x : V} {v : Value} (hx : rel ρ x v) (hk : okV N x) {f : Nat} {k : V → Prop} (h : vField E t x f k) :
    ∃ u y, k u ∧ rel ρ u y ∧ okV N u ∧ ∀ w', (Instr.field t v f).run P w' = .ok y w' := by
  unfold vField at h
  cases hE0 : E t with
  | none => simp [hE0] at h
  | some dd =>
    simp only [hE0] at h
    cases hdu : dd.und <;> simp only [hdu] at h
    case struct fs =>
      cases hf : fs[f]? with
      | none => simp [hf] at h
      | some fd =>
        cases x <;> simp only [hf] at h
        case a cs =>
          unfold rel at hx
          obtain ⟨l, rfl, hl, h1⟩ := hx
          unfold okV at hk
          obtain ⟨u, y, h2, h3, h4, h5⟩ := vPart_sound hE hl h1 hk h
          exact ⟨u, y, h2, h3, h4, fun w' => by simp [Instr.field, hE.run_und hE0, hdu, hf, asAgg, h5 w']⟩
        all_goals exact h.elim
    all_goals exact h.elim

theorem vIndexAddr_sound (hE : EnvOK P E) {N : Nat} {x i : V} {v iv : Value} (hx : rel ρ x v) (hi : rel ρ i iv) (hk : okV N x) {k : V → Prop} (h : vIndexAddr E t x i k) :
    ∃ u y, k u ∧ rel ρ u y ∧ okV N u ∧ ∀ w', (Instr.indexAt t v iv).run P w' = .ok y w' := by
  unfold vIndexAddr at h
  cases hE0 : E t with
  | none => simp [hE0] at h
  | some dd =>
    cases hI : asI i with
    | none => simp [hE0, hI] at h
    | some q =>
      obtain ⟨kk, n⟩ := q
      have := asI_rel hi hI
      subst this
      simp only [hE0, hI] at h
      cases hdu : dd.und <;> simp only [hdu] at h
      case array len e =>
        cases hEe : E e with
        | none => simp [hEe] at h
        | some de =>
          cases x <;> simp only [hEe] at h
          case p g o =>
            obtain ⟨h1, h2, h⟩ := h
            unfold rel at hx; subst hx
            refine ⟨_, _, h, rfl, hk, fun w' => ?_⟩
            simp [Instr.indexAt, asIntOf, hE.run_und hE0, hdu, Instr.sureAddr, hE.run_size hEe, h1, h2, addr_add, Nat.add_assoc]
          all_goals exact h.elim
      case slice e =>
        cases hEe : E e with
        | none => simp [hEe] at h
        | some de =>
          cases x <;> simp only [hEe] at h
          case s g o len c =>
            obtain ⟨h1, h2, h⟩ := h
            unfold rel at hx
            obtain ⟨hlc, a, rfl, ha⟩ := hx
            have ha' := ha (by omega)
            subst ha'
            unfold okV at hk
            refine ⟨_, _, h, rfl, hk (by omega), fun w' => ?_⟩
            simp [Instr.indexAt, asIntOf, hE.run_und hE0, hdu, hE.run_size hEe, h1, h2, addr_add, Nat.add_assoc]
          all_goals exact h.elim
      all_goals exact h.elim

theorem vIndex_sound (hE : EnvOK P E) {N : Nat} {x i : V} {v iv : Value} (hx : rel ρ x v) (hi : rel ρ i iv) (hk : okV N x) {k : V → Prop} (h : vIndex E t x i k) :
    ∃ u y, k u ∧ rel ρ u y ∧ okV N u ∧ ∀ w', (Instr.index t v iv).run P w' = .ok y w' := by
  unfold vIndex at h
  cases hE0 : E t with
  | none => simp [hE0] at h
  | some dd =>
    cases hI : asI i with
    | none => simp [hE0, hI] at h
    | some q =>
      obtain ⟨kk, n⟩ := q
      have := asI_rel hi hI
      subst this
      simp only [hE0, hI] at h
      cases hdu : dd.und <;> simp only [hdu] at h
      case array len e =>
        cases hEe : E e with
        | none => simp [hEe] at h
        | some de =>
          cases x <;> simp only [hEe] at h
          case a cs =>
            obtain ⟨h1, h2, h⟩ := h
            unfold rel at hx
            obtain ⟨l, rfl, hl, hone⟩ := hx
            unfold okV at hk
            obtain ⟨u, y, h3, h4, h5, h6⟩ := vPart_sound hE hl hone hk h
            exact ⟨u, y, h3, h4, h5, fun w' => by simp [Instr.index, asIntOf, hE.run_und hE0, hdu, hE.run_size hEe, h1, h2, h6 w']⟩
          all_goals exact h.elim
      case string =>
        split at h
        · rename_i s
          obtain ⟨h1, h2, h⟩ := h
          unfold rel at hx; subst hx
          refine ⟨_, _, h, rfl, trivial, fun w' => ?_⟩
          have hlt : n.toNat < s.size := by omega
          have hlt' : n.toNat < s.data.toList.length := by simpa using hlt
          simp [Instr.index, asIntOf, hE.run_und hE0, hdu, h1, getElem?_pos s n.toNat hlt, List.getD_eq_getElem?_getD, List.getElem?_eq_getElem hlt']
          rfl
        · exact h.elim
      all_goals exact h.elim

theorem vExtract_sound {N : Nat} {x : V} {v : Value} (hx : rel ρ x v) (hk : okV N x) {i : Nat} {k : V → Prop} (h : vExtract x i k) :
    ∃ u y, k u ∧ rel ρ u y ∧ okV N u ∧ ∀ w', (Instr.extract v i).run P w' = .ok y w' := by
  unfold vExtract at h
  cases x <;> simp only at h
  case t vs =>
    cases hv : vs[i]? with
    | none => simp [hv] at h
    | some u =>
      simp only [hv] at h
      unfold rel at hx
      obtain ⟨l, rfl, hl⟩ := hx
      obtain ⟨y, hy, hr⟩ := relL_get hl hv
      unfold okV at hk
      exact ⟨u, y, h, hr, okL_get hk hv, fun w' => by simp [Instr.extract, hy]⟩

theorem vLen_sound (hE : EnvOK P E) {ts : List TypeId} {xs : List V} {vs : List Value} (hx : relL ρ xs vs) {k : V → Prop} (h : vLen E ts xs k) (ty : TypeId) :
    ∃ y, k (.c y) ∧ ∀ w', (Builtin.len_ ts.toArray ty vs.toArray).run P w' = .ok y w' := by
  unfold vLen at h
  cases ts <;> cases xs <;> simp only at h
  case cons.cons t ts x xs =>
    unfold relL at hx
    obtain ⟨v, vs, rfl, hv, _⟩ := hx
    cases hE0 : E t with
    | none => simp [hE0] at h
    | some dd =>
      simp only [hE0] at h
      cases hdu : dd.und <;> simp only [hdu] at h
      case array n e => exact ⟨_, h, fun w' => by simp [Builtin.len_, hE.run_und hE0, hdu, goInt]⟩
      case string =>
        split at h
        · unfold rel at hv; subst hv
          exact ⟨_, h, fun w' => by simp [Builtin.len_, hE.run_und hE0, hdu, goInt]⟩
        · exact h.elim
      case slice e =>
        cases hs : asS x with
        | none => simp [hs] at h
        | some q =>
          obtain ⟨g, o, n, c⟩ := q
          simp only [hs] at h
          obtain ⟨_, a, rfl, _⟩ := asS_rel hv hs
          exact ⟨_, h, fun w' => by simp [Builtin.len_, hE.run_und hE0, hdu, goInt]⟩
      all_goals exact h.elim

theorem vCap_sound (hE : EnvOK P E) {ts : List TypeId} {xs : List V} {vs : List Value} (hx : relL ρ xs vs) {k : V → Prop} (h : vCap E ts xs k) (ty : TypeId) :
    ∃ y, k (.c y) ∧ ∀ w', (Builtin.cap_ ts.toArray ty vs.toArray).run P w' = .ok y w' := by
  unfold vCap at h
  cases ts <;> cases xs <;> simp only at h
  case cons.cons t ts x xs =>
    unfold relL at hx
    obtain ⟨v, vs, rfl, hv, _⟩ := hx
    cases hE0 : E t with
    | none => simp [hE0] at h
    | some dd =>
      simp only [hE0] at h
      cases hdu : dd.und <;> simp only [hdu] at h
      case slice e =>
        cases hs : asS x with
        | none => simp [hs] at h
        | some q =>
          obtain ⟨g, o, n, c⟩ := q
          simp only [hs] at h
          obtain ⟨_, a, rfl, _⟩ := asS_rel hv hs
          exact ⟨_, h, fun w' => by simp [Builtin.cap_, hE.run_und hE0, hdu, goInt]⟩
      all_goals exact h.elim

theorem vMin_sound {mx : Bool} {xs : List V} {vs : List Value} (hx : relL ρ xs vs) {k : V → Prop} (h : vMin mx xs k) (ts : Array TypeId) (ty : TypeId) :
    ∃ y, k (.c y) ∧ ∀ w', (if mx then Builtin.max_ ts ty vs.toArray else Builtin.min_ ts ty vs.toArray).run P w' = .ok y w' := by
  unfold vMin at h
  split at h
  · rename_i x y
    unfold relL at hx
    obtain ⟨u, us, rfl, hu, hx⟩ := hx
    unfold relL at hx
    obtain ⟨v, vs, rfl, hv, hx⟩ := hx
    unfold relL at hx
    subst hx
    cases ha : asI x with
    | none => simp [ha] at h
    | some p =>
      cases hb : asI y with
      | none => simp [ha, hb] at h
      | some q =>
        obtain ⟨ka, a⟩ := p
        obtain ⟨kb, b⟩ := q
        simp only [ha, hb] at h
        obtain ⟨rfl, h⟩ := h
        have := asI_rel hu ha
        subst this
        have := asI_rel hv hb
        subst this
        refine ⟨_, h, fun w' => ?_⟩
        cases mx
        · simp only [Bool.false_eq_true, if_false, run_min_int2]
          congr 2
          by_cases hab : b < a
          · rw [if_pos hab]; omega
          · rw [if_neg hab]; omega
        · simp only [if_true, run_max_int2]
          congr 2
          by_cases hab : b > a
          · rw [if_pos hab]; omega
          · rw [if_neg hab]; omega
  · exact h.elim
end
end Go.Vc

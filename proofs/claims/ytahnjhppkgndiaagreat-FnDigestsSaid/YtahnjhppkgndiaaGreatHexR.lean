import Derived.Test.YtahnjhppkgndiaaGreatHexT
/- Hexadecimal texts read, both ways: the same bytes, or none. -/
set_option linter.unusedSimpArgs false
set_option linter.unusedVariables false
namespace Go.Proofs.YtahnjhppkgndiaaGreat
open Go Go.Vc
def digV (c : Nat) : Option Nat := if 48 ≤ c ∧ c ≤ 57 then some (c - 48) else if 97 ≤ c ∧ c ≤ 102 then some (c - 87) else none
def unhex : List UInt8 → Option (List UInt8)
  | [] => some []
  | [_] => none
  | a :: b :: t => match digV a.toNat, digV b.toNat, unhex t with
    | some x, some y, some o => some (UInt8.ofNat (16 * x + y) :: o)
    | _, _, _ => none
theorem size_mk (L : List UInt8) : (ByteArray.mk L.toArray).size = L.length := rfl
set_option maxRecDepth 10000
theorem digV_a {u : UInt8} (h : 48 ≤ u.toNat) (h' : u.toNat ≤ 57) : digV u.toNat = some (u.toNat - 48) := by unfold digV; rw [if_pos ⟨h, h'⟩]
theorem digV_b {u : UInt8} (h : 97 ≤ u.toNat) (h' : u.toNat ≤ 102) : digV u.toNat = some (u.toNat - 87) := by unfold digV; rw [if_neg (by omega), if_pos ⟨h, h'⟩]
theorem digV_c {u : UInt8} (h : ¬ (48 ≤ u.toNat ∧ u.toNat ≤ 57)) (h' : ¬ (97 ≤ u.toNat ∧ u.toNat ≤ 102)) : digV u.toNat = none := by unfold digV; rw [if_neg h, if_neg h']
theorem wrap_sub {n k : Nat} (h : k ≤ n) (h' : n < 256) : IntKind.u8.wrap ((n : Int) - (k : Nat)) = ((n - k : Nat) : Int) := by rw [wrap_u8, toNat_ofInt]; omega
theorem c_impl_hexDigit (u : UInt8) : LC Tryz.prog 167 [.c (.int .u8 (u.toNat : Int))] [] (fun v hp => v = (match digV u.toNat with | some d => .t [.c (.int .u8 (d : Nat)), .c (.bool true)] | none => .t [.c (.int .u8 0), .c (.bool false)]) ∧ hp = []) := by
  refine LC_of (X := XX (fun _ => .nil) (fun _ => []) [15, 71, 72, 73, 79, 80, 87, 90, 91, 93, 99, 119, 137, 176, 177, 203, 204, 212, 219] 0) envOK Tryz.func167 (by kernel_rfl) (by kernel_rfl) rfl (Nat.le_of_ble_eq_true (by kernel_rfl)) ?_
  simp only [kFun, Tryz.f167, List.length_nil, List.length_cons, Nat.sub_zero, Nat.reduceSub, Nat.reduceAdd, List.nil_append, List.cons_append, List.replicate_succ, List.replicate_zero]
  simp only [XX, ↓VC, VP, TT, Nat.reduceEqDiff, reduceCtorEq, Nat.reduceAdd, Nat.reduceSub, Nat.reduceLT, Nat.reduceMul, Nat.reducePow, Nat.reduceLeDiff, Int.reduceToNat, Int.reduceLE, Int.reduceLT, Int.reducePow]
  have hu := u.toNat_lt
  have third : ¬ (48 ≤ u.toNat ∧ u.toNat ≤ 57) → 97 ≤ u.toNat → u.toNat ≤ 102 → IntKind.u8.wrap (IntKind.u8.wrap ((u.toNat : Int) - 97) + 10) = ((u.toNat - 87 : Nat) : Int) := fun _ h h' => by
    rw [wrap_u8, toNat_ofInt, wrap_u8, toNat_ofInt]; omega
  refine kGd_split rfl (fun h1 => ?_) (fun h1 => ?_) <;> simp only [decide_eq_true_eq, decide_eq_false_iff_not] at h1 <;> simp only [↓VC, VP, TT, Nat.reduceEqDiff, reduceCtorEq, Nat.reduceAdd, Nat.reduceSub, Nat.reduceLT, Nat.reduceMul, Nat.reducePow, Nat.reduceLeDiff, Int.reduceToNat, Int.reduceLE, Int.reduceLT, Int.reducePow]
  · refine ⟨fun h2 => ⟨_, _, [], ⟨rfl, rfl⟩, ?_⟩, fun h2 => kGd_split rfl (fun h3 => ?_) (fun h3 => ?_)⟩
    · rw [digV_a (by omega) (by omega), show (48 : Int) = ((48 : Nat) : Int) from rfl, wrap_sub (by omega) hu]
      simp [-List.reduceReplicate, LES]
    · simp only [decide_eq_true_eq] at h3
      simp only [↓VC, VP, TT, Nat.reduceEqDiff, reduceCtorEq, Nat.reduceAdd, Nat.reduceSub, Nat.reduceLT, Nat.reduceMul, Nat.reducePow, Nat.reduceLeDiff, Int.reduceToNat, Int.reduceLE, Int.reduceLT, Int.reducePow]
      refine ⟨fun h4 => ⟨_, _, [], ⟨rfl, rfl⟩, ?_⟩, fun h4 => ⟨_, _, [], ⟨rfl, rfl⟩, ?_⟩⟩
      · rw [digV_b (by omega) (by omega), third (by omega) (by omega) (by omega)]
        simp [-List.reduceReplicate, LES]
      · rw [digV_c (by omega) (by omega)]
        simp [-List.reduceReplicate, LES]
    · simp only [decide_eq_false_iff_not] at h3
      simp only [↓VC, VP, TT, Nat.reduceEqDiff, reduceCtorEq, Nat.reduceAdd, Nat.reduceSub, Nat.reduceLT, Nat.reduceMul, Nat.reducePow, Nat.reduceLeDiff, Int.reduceToNat, Int.reduceLE, Int.reduceLT, Int.reducePow]
      refine ⟨_, _, [], ⟨rfl, rfl⟩, ?_⟩
      rw [digV_c (by omega) (by omega)]
      simp [-List.reduceReplicate, LES]
  · refine kGd_split rfl (fun h3 => ?_) (fun h3 => ?_)
    · simp only [decide_eq_true_eq] at h3
      omega
    · simp only [↓VC, VP, TT, Nat.reduceEqDiff, reduceCtorEq, Nat.reduceAdd, Nat.reduceSub, Nat.reduceLT, Nat.reduceMul, Nat.reducePow, Nat.reduceLeDiff, Int.reduceToNat, Int.reduceLE, Int.reduceLT, Int.reducePow]
      refine ⟨_, _, [], ⟨rfl, rfl⟩, ?_⟩
      rw [digV_c (by omega) (by omega)]
      simp [-List.reduceReplicate, LES]
theorem c_spec_l01Digit (u : UInt8) : LC Tryz.prog 198 [.c (.int .u8 (u.toNat : Int))] [] (fun v hp => v = (match digV u.toNat with | some d => .c (.int .i64 (d : Nat)) | none => .c (.int .i64 (-1))) ∧ hp = []) := by
  refine LC_of (X := XX (fun _ => .nil) (fun _ => []) [15, 71, 72, 73, 79, 80, 87, 90, 91, 93, 99, 119, 137, 176, 177, 203, 204, 212, 219] 0) envOK Tryz.func198 (by kernel_rfl) (by kernel_rfl) rfl (Nat.le_of_ble_eq_true (by kernel_rfl)) ?_
  simp only [kFun, Tryz.f198, List.length_nil, List.length_cons, Nat.sub_zero, Nat.reduceSub, Nat.reduceAdd, List.nil_append, List.cons_append, List.replicate_succ, List.replicate_zero]
  simp only [XX, ↓VC, VP, TT, Nat.reduceEqDiff, reduceCtorEq, Nat.reduceAdd, Nat.reduceSub, Nat.reduceLT, Nat.reduceMul, Nat.reducePow, Nat.reduceLeDiff, Int.reduceToNat, Int.reduceLE, Int.reduceLT, Int.reducePow]
  have hu := u.toNat_lt
  have first : 48 ≤ u.toNat → IntKind.i64.wrap (IntKind.u8.wrap ((u.toNat : Int) - 48)) = ((u.toNat - 48 : Nat) : Int) := fun h => by
    rw [wrap_u8, toNat_ofInt, wrap_i64 (by omega) (by omega)]; omega
  have third : ¬ (48 ≤ u.toNat ∧ u.toNat ≤ 57) → 97 ≤ u.toNat → u.toNat ≤ 102 → IntKind.i64.wrap (IntKind.i64.wrap (IntKind.u8.wrap ((u.toNat : Int) - 97)) + 10) = ((u.toNat - 87 : Nat) : Int) := fun _ h h' => by
    rw [wrap_u8, toNat_ofInt, wrap_i64 (n := ((u.toNat : Int) - 97) % 256) (by omega) (by omega), wrap_i64 (by omega) (by omega)]; omega
  refine kGd_split rfl (fun h1 => ?_) (fun h1 => ?_) <;> simp only [decide_eq_true_eq, decide_eq_false_iff_not] at h1 <;> simp only [↓VC, VP, TT, Nat.reduceEqDiff, reduceCtorEq, Nat.reduceAdd, Nat.reduceSub, Nat.reduceLT, Nat.reduceMul, Nat.reducePow, Nat.reduceLeDiff, Int.reduceToNat, Int.reduceLE, Int.reduceLT, Int.reducePow]
  · refine ⟨fun h2 => ⟨_, _, [], ⟨rfl, rfl⟩, ?_⟩, fun h2 => kGd_split rfl (fun h3 => ?_) (fun h3 => ?_)⟩
    · rw [digV_a (by omega) (by omega), first (by omega)]
      simp [-List.reduceReplicate, LES]
    · simp only [decide_eq_true_eq] at h3
      simp only [↓VC, VP, TT, Nat.reduceEqDiff, reduceCtorEq, Nat.reduceAdd, Nat.reduceSub, Nat.reduceLT, Nat.reduceMul, Nat.reducePow, Nat.reduceLeDiff, Int.reduceToNat, Int.reduceLE, Int.reduceLT, Int.reducePow]
      refine ⟨fun h4 => ⟨_, _, [], ⟨rfl, rfl⟩, ?_⟩, fun h4 => ⟨_, _, [], ⟨rfl, rfl⟩, ?_⟩⟩
      · rw [digV_b (by omega) (by omega), third (by omega) (by omega) (by omega)]
        simp [-List.reduceReplicate, LES]
      · rw [digV_c (by omega) (by omega)]
        simp [-List.reduceReplicate, LES]
    · simp only [decide_eq_false_iff_not] at h3
      simp only [↓VC, VP, TT, Nat.reduceEqDiff, reduceCtorEq, Nat.reduceAdd, Nat.reduceSub, Nat.reduceLT, Nat.reduceMul, Nat.reducePow, Nat.reduceLeDiff, Int.reduceToNat, Int.reduceLE, Int.reduceLT, Int.reducePow]
      refine ⟨_, _, [], ⟨rfl, rfl⟩, ?_⟩
      rw [digV_c (by omega) (by omega)]
      simp [-List.reduceReplicate, LES]
  · refine kGd_split rfl (fun h3 => ?_) (fun h3 => ?_)
    · simp only [decide_eq_true_eq] at h3
      omega
    · simp only [↓VC, VP, TT, Nat.reduceEqDiff, reduceCtorEq, Nat.reduceAdd, Nat.reduceSub, Nat.reduceLT, Nat.reduceMul, Nat.reducePow, Nat.reduceLeDiff, Int.reduceToNat, Int.reduceLE, Int.reduceLT, Int.reducePow]
      refine ⟨_, _, [], ⟨rfl, rfl⟩, ?_⟩
      rw [digV_c (by omega) (by omega)]
      simp [-List.reduceReplicate, LES]
/-- What reading hexadecimal text hands back. -/
def unhexV (o : Option (List UInt8)) (r : Nat) : V × List Blk := match o with
  | some out => (.t [.s 0 0 out.length (out.length + r), .c (.bool true)], [⟨true, bs out ++ List.replicate r .j⟩])
  | none => (.t [.c (.slice none 0 0), .c (.bool false)], [])
theorem unhex_odd : ∀ {l : List UInt8}, l.length % 2 = 1 → unhex l = none
  | [], h => by simp at h
  | [_], _ => rfl
  | a :: b :: t, h => by
    have := unhex_odd (l := t) (by simp at h; omega)
    simp only [unhex, this]
    cases digV a.toNat <;> cases digV b.toNat <;> rfl
theorem unhex_step {l : List UInt8} {i : Nat} (h : i + 1 < l.length) : unhex (l.drop i) = match digV (l.getD i 0).toNat, digV (l.getD (i + 1) 0).toNat, unhex (l.drop (i + 2)) with
    | some x, some y, some o => some (UInt8.ofNat (16 * x + y) :: o)
    | _, _, _ => none := by
  rw [List.drop_eq_getElem_cons (by omega), List.drop_eq_getElem_cons h, unhex]
  simp only [List.getD, List.getElem?_eq_getElem h, List.getElem?_eq_getElem (show i < l.length by omega), Option.getD_some]
theorem digV_lt : ∀ {n d : Nat}, digV n = some d → d < 16 := by
  intro n d h
  unfold digV at h
  split at h
  · cases h; omega
  · split at h
    · cases h; omega
    · cases h
theorem or_dig : ∀ x : Nat, x < 16 → ∀ y : Nat, y < 16 → bitI .or .u8 (IntKind.u8.wrap ((x : Int) * 2 ^ min 4 8)) (y : Int) = ((UInt8.ofNat (16 * x + y)).toNat : Int) := by decide +kernel
theorem add_dig : ∀ x : Nat, x < 16 → ∀ y : Nat, y < 16 → IntKind.u8.wrap (IntKind.i64.wrap (IntKind.i64.wrap (16 * (x : Int)) + (y : Int))) = ((UInt8.ofNat (16 * x + y)).toNat : Int) := by decide +kernel
/-- The state of a reading: what is decoded, what is left. -/
def Half (l A : List UInt8) (i : Nat) : Prop := i ≤ l.length ∧ l.length % 2 = 0 ∧ 2 * A.length = i ∧ unhex l = (unhex (l.drop i)).map (A ++ ·)
theorem Half.step {l A : List UInt8} {i x y : Nat} (h : Half l A i) (hi : i + 1 < l.length) (hx : digV (l.getD i 0).toNat = some x) (hy : digV (l.getD (i + 1) 0).toNat = some y) : Half l (A ++ [UInt8.ofNat (16 * x + y)]) (i + 2) := by
  obtain ⟨h1, h2, h3, h4⟩ := h
  refine ⟨by omega, h2, by simp; omega, ?_⟩
  rw [h4, unhex_step hi, hx, hy]
  cases unhex (l.drop (i + 2)) with
  | none => rfl
  | some o => simp
theorem Half.bad {l A : List UInt8} {i : Nat} (h : Half l A i) (hi : i + 1 < l.length) (hb : digV (l.getD i 0).toNat = none ∨ digV (l.getD (i + 1) 0).toNat = none) : unhex l = none := by
  obtain ⟨h1, h2, h3, h4⟩ := h
  rw [h4, unhex_step hi]
  rcases hb with hb | hb <;> rw [hb]
  · rfl
  · cases digV (l.getD i 0).toNat <;> rfl
theorem Half.done {l A : List UInt8} {i : Nat} (h : Half l A i) (hi : ¬ i + 1 < l.length) : unhex l = some A := by
  obtain ⟨h1, h2, h3, h4⟩ := h
  rw [h4, List.drop_eq_nil_of_le (by omega)]; simp [unhex]
theorem c_impl_fromHex (l : List UInt8) (hm : l.length ≤ 549755813888) : LC Tryz.prog 116 [.c (.string ⟨l.toArray⟩)] [] (Ret [] (fun _ : Nat => True) (unhexV (unhex l))) := by
  refine LC_of (X := XX (fun _ => .nil) (fun _ => []) [15, 71, 72, 73, 79, 80, 87, 90, 91, 93, 99, 119, 137, 176, 177, 203, 204, 212, 219] 0) envOK Tryz.func116 (by kernel_rfl) (by kernel_rfl) rfl (Nat.le_of_ble_eq_true (by kernel_rfl)) ?_
  simp only [kFun, Tryz.f116, List.length_nil, List.length_cons, Nat.sub_zero, Nat.reduceSub, Nat.reduceAdd, List.nil_append, List.cons_append, List.replicate_succ, List.replicate_zero]
  simp only [XX, ↓VC, VP, TT, Nat.reduceEqDiff, reduceCtorEq, Nat.reduceAdd, Nat.reduceSub, Nat.reduceLT, Nat.reduceMul, Nat.reducePow, Nat.reduceLeDiff, Int.reduceToNat, Int.reduceLE, Int.reduceLT, Int.reducePow, size_mk]
  have e2 : (l.length : Int).tmod 2 = ((l.length % 2 : Nat) : Int) := by rw [Int.tmod_eq_emod_of_nonneg (by omega)]; omega
  rw [e2]
  refine ⟨by omega, fun h => ⟨_, _, [], ⟨0, trivial, rfl, rfl⟩, ?_⟩, fun h => ?_⟩
  · rw [beq_iff_eq] at h
    rw [unhex_odd (by omega)]
    simp [-List.reduceReplicate, LES, unhexV]
  · rw [beq_eq_false_iff_ne] at h
    refine kLoop_of (fun s : Nat × List UInt8 × Nat => ([.c (.string ⟨l.toArray⟩), .j, .j, .j, .s 0 0 s.2.1.length (s.2.1.length + s.2.2), .c (.int .i64 (s.1 : Nat)), .j, .j, .j, .j, .j, .j, .j, .j, .j, .j, .j, .j, .j, .j, .j, .j, .j, .j, .j, .j, .j, .j, .j, .j, .j, .j, .j, .j, .j, .j, .j, .j, .j, .j, .j, .j, .j, .j, .j, .j, .j, .j, .j, .j], [⟨true, bs s.2.1 ++ List.replicate s.2.2 .j⟩])) (fun s => l.length - s.1) (fun s => Half l s.2.1 s.1) (0, [], 0) ⟨by simp, by omega, by simp, by simp⟩ ⟨[0], by simp [-List.reduceReplicate, LES, bs_nil]⟩ ?_
    rintro ⟨i, A, r⟩ hh
    have hh' := hh
    obtain ⟨h1, h2, h3, h4⟩ := hh'
    simp only at h1 h2 h3 h4 hh
    have hw : IntKind.i64.wrap ((i : Int) + 1) = ((i + 1 : Nat) : Int) := wrap_i64 (by omega) (by omega)
    have hw2 : IntKind.i64.wrap ((i : Int) + 2) = ((i + 2 : Nat) : Int) := wrap_i64 (by omega) (by omega)
    simp only [↓VC, VP, TT, Nat.reduceEqDiff, reduceCtorEq, Nat.reduceAdd, Nat.reduceSub, Nat.reduceLT, Nat.reduceMul, Nat.reducePow, Nat.reduceLeDiff, Int.reduceToNat, Int.reduceLE, Int.reduceLT, Int.reducePow, size_mk]
    refine ⟨fun hlt => ⟨by omega, ?_⟩, fun hge => ⟨_, _, [0], ⟨r, trivial, rfl, rfl⟩, ?_⟩⟩
    · have hi : i + 1 < l.length := by omega
      have hd := c_impl_hexDigit (l.getD i 0)
      have hd2 := c_impl_hexDigit (l.getD (i + 1) 0)
      cases hx : digV (l.getD i 0).toNat with
      | none =>
        rw [hx] at hd
        refine kCall_val hd (by rfl) [] (by simp [CALL]) (by simp [CALL]) (by simp [CALL]) (by simp) ?_
        simp only [CALL, ↓VC, VP, TT, Nat.reduceEqDiff, reduceCtorEq, Nat.reduceAdd, Nat.reduceSub, Nat.reduceLT, Nat.reduceMul, Nat.reducePow, Nat.reduceLeDiff, Int.reduceToNat, Int.reduceLE, Int.reduceLT, Int.reducePow, hw, size_mk]
        refine ⟨by omega, ?_⟩
        cases hy : digV (l.getD (i + 1) 0).toNat <;> rw [hy] at hd2
        all_goals
          refine kCall_val hd2 (by rfl) [] (by simp [CALL]) (by simp [CALL]) (by simp [CALL]) (by simp) ?_
          simp only [CALL, ↓VC, VP, TT, Nat.reduceEqDiff, reduceCtorEq, Nat.reduceAdd, Nat.reduceSub, Nat.reduceLT, Nat.reduceMul, Nat.reducePow, Nat.reduceLeDiff, Int.reduceToNat, Int.reduceLE, Int.reduceLT, Int.reducePow, hw, size_mk, Bool.not_true, Bool.not_false]
          refine ⟨_, _, [], ⟨0, trivial, rfl, rfl⟩, ?_⟩
          rw [hh.bad hi (.inl hx)]
          simp [-List.reduceReplicate, LES, unhexV]
      | some x =>
        rw [hx] at hd
        refine kCall_val hd (by rfl) [] (by simp [CALL]) (by simp [CALL]) (by simp [CALL]) (by simp) ?_
        simp only [CALL, ↓VC, VP, TT, Nat.reduceEqDiff, reduceCtorEq, Nat.reduceAdd, Nat.reduceSub, Nat.reduceLT, Nat.reduceMul, Nat.reducePow, Nat.reduceLeDiff, Int.reduceToNat, Int.reduceLE, Int.reduceLT, Int.reducePow, hw, size_mk]
        refine ⟨by omega, ?_⟩
        cases hy : digV (l.getD (i + 1) 0).toNat <;> rw [hy] at hd2
        · refine kCall_val hd2 (by rfl) [] (by simp [CALL]) (by simp [CALL]) (by simp [CALL]) (by simp) ?_
          simp only [CALL, ↓VC, VP, TT, Nat.reduceEqDiff, reduceCtorEq, Nat.reduceAdd, Nat.reduceSub, Nat.reduceLT, Nat.reduceMul, Nat.reducePow, Nat.reduceLeDiff, Int.reduceToNat, Int.reduceLE, Int.reduceLT, Int.reducePow, hw, size_mk, Bool.not_true, Bool.not_false]
          refine ⟨_, _, [], ⟨0, trivial, rfl, rfl⟩, ?_⟩
          rw [hh.bad hi (.inr hy)]
          simp [-List.reduceReplicate, LES, unhexV]
        · rename_i y
          refine kCall_val hd2 (by rfl) [] (by simp [CALL]) (by simp [CALL]) (by simp [CALL]) (by simp) ?_
          simp only [CALL, ↓VC, VP, TT, Nat.reduceEqDiff, reduceCtorEq, Nat.reduceAdd, Nat.reduceSub, Nat.reduceLT, Nat.reduceMul, Nat.reducePow, Nat.reduceLeDiff, Int.reduceToNat, Int.reduceLE, Int.reduceLT, Int.reducePow, hw, hw2, size_mk, Bool.not_true, Bool.not_false]
          rw [or_dig x (digV_lt hx) y (digV_lt hy)]
          refine ⟨by omega, by omega, .inr (by omega), .inr trivial, fun r1 c' hc' _ => ⟨(i + 2, A ++ [UInt8.ofNat (16 * x + y)], r1), hh.step hi hx hy, by simp only; omega, [2], ?_⟩⟩
          rw [one_more, hc']
          simp [-List.reduceReplicate, LES]
    · rw [hh.done (by omega)]
      simp [-List.reduceReplicate, LES, unhexV]
theorem nat_lt0 (x : Nat) : ((x : Int) < 0) = False := eq_false (by omega)
theorem c_spec_l01Bytes (l : List UInt8) (hm : l.length ≤ 549755813888) : LC Tryz.prog 168 [.c (.string ⟨l.toArray⟩)] [] (Ret [] (fun _ : Nat => True) (unhexV (unhex l))) := by
  refine LC_of (X := XX (fun | 7 => .one 0 (.one 1 (.one 2 (.one 4 (.one 5 (.one 6 (.one 7 (.one 3 (.one 8 (.one 9 (.one 10 .nil)))))))))) | _ => .nil) (fun _ => []) [15, 71, 72, 73, 79, 80, 87, 90, 91, 93, 99, 119, 137, 176, 177, 203, 204, 212, 219] 0) envOK Tryz.func168 (by kernel_rfl) (by kernel_rfl) rfl (Nat.le_of_ble_eq_true (by kernel_rfl)) ?_
  simp only [kFun, Tryz.f168, List.length_nil, List.length_cons, Nat.sub_zero, Nat.reduceSub, Nat.reduceAdd, List.nil_append, List.cons_append, List.replicate_succ, List.replicate_zero]
  simp only [XX, ↓VC, VP, TT, Nat.reduceEqDiff, reduceCtorEq, Nat.reduceAdd, Nat.reduceSub, Nat.reduceLT, Nat.reduceMul, Nat.reducePow, Nat.reduceLeDiff, Int.reduceToNat, Int.reduceLE, Int.reduceLT, Int.reducePow, size_mk]
  have e2 : (l.length : Int).tmod 2 = ((l.length % 2 : Nat) : Int) := by rw [Int.tmod_eq_emod_of_nonneg (by omega)]; omega
  rw [e2]
  refine ⟨by omega, fun h => ⟨_, _, [], ⟨0, trivial, rfl, rfl⟩, ?_⟩, fun h => ?_⟩
  · rw [bne_iff_ne] at h
    rw [unhex_odd (by omega)]
    simp [-List.reduceReplicate, LES, unhexV]
  · have h := bne_eq_false_iff_eq.1 h
    refine kLoop_of (fun s : Nat × List UInt8 × Nat => ([.c (.string ⟨l.toArray⟩), .j, .j, .j, .s 0 0 s.2.1.length (s.2.1.length + s.2.2), .c (.int .i64 (s.1 : Nat)), .j, .j, .j, .j, .j, .j, .j, .j, .j, .j, .j, .j, .j, .j, .j, .j, .j, .j, .j, .j, .j, .j, .j, .j, .j, .j, .j, .j, .j, .j, .j, .j, .j, .j, .j, .j, .j, .j], [⟨true, bs s.2.1 ++ List.replicate s.2.2 .j⟩])) (fun s => l.length - s.1) (fun s => Half l s.2.1 s.1) (0, [], 0) ⟨by simp, by omega, by simp, by simp⟩ ⟨[0], by simp [-List.reduceReplicate, LES, bs_nil]⟩ ?_
    rintro ⟨i, A, r⟩ hh
    have hh' := hh
    obtain ⟨h1, h2, h3, h4⟩ := hh'
    simp only at h1 h2 h3 h4 hh
    have hw : IntKind.i64.wrap ((i : Int) + 1) = ((i + 1 : Nat) : Int) := wrap_i64 (by omega) (by omega)
    have hw2 : IntKind.i64.wrap ((i : Int) + 2) = ((i + 2 : Nat) : Int) := wrap_i64 (by omega) (by omega)
    simp only [↓VC, VP, TT, Nat.reduceEqDiff, reduceCtorEq, Nat.reduceAdd, Nat.reduceSub, Nat.reduceLT, Nat.reduceMul, Nat.reducePow, Nat.reduceLeDiff, Int.reduceToNat, Int.reduceLE, Int.reduceLT, Int.reducePow, size_mk, hw]
    refine ⟨fun hlt => ⟨by omega, by omega, ?_⟩, fun hge => ⟨_, _, [0], ⟨r, trivial, rfl, rfl⟩, ?_⟩⟩
    · have hi : i + 1 < l.length := by omega
      have hd := c_spec_l01Digit (l.getD i 0)
      have hd2 := c_spec_l01Digit (l.getD (i + 1) 0)
      cases hx : digV (l.getD i 0).toNat with
      | none =>
        rw [hx] at hd
        refine kCall_val hd (by rfl) [] (by simp [CALL]) (by simp [CALL]) (by simp [CALL]) (by simp) ?_
        simp only [CALL, ↓VC, VP, TT, Nat.reduceEqDiff, reduceCtorEq, Nat.reduceAdd, Nat.reduceSub, Nat.reduceLT, Nat.reduceMul, Nat.reducePow, Nat.reduceLeDiff, Int.reduceToNat, Int.reduceLE, Int.reduceLT, Int.reducePow, hw, size_mk]
        cases hy : digV (l.getD (i + 1) 0).toNat <;> rw [hy] at hd2
        all_goals
          refine kCall_val hd2 (by rfl) [] (by simp [CALL]) (by simp [CALL]) (by simp [CALL]) (by simp) ?_
          simp only [CALL, ↓VC, VP, TT, Nat.reduceEqDiff, reduceCtorEq, Nat.reduceAdd, Nat.reduceSub, Nat.reduceLT, Nat.reduceMul, Nat.reducePow, Nat.reduceLeDiff, Int.reduceToNat, Int.reduceLE, Int.reduceLT, Int.reducePow, hw, size_mk, nat_lt0, Int.reduceNeg, decide_true, decide_false]
          refine ⟨_, _, [], ⟨0, trivial, rfl, rfl⟩, ?_⟩
          rw [hh.bad hi (.inl hx)]
          simp [-List.reduceReplicate, LES, unhexV]
      | some x =>
        rw [hx] at hd
        refine kCall_val hd (by rfl) [] (by simp [CALL]) (by simp [CALL]) (by simp [CALL]) (by simp) ?_
        simp only [CALL, ↓VC, VP, TT, Nat.reduceEqDiff, reduceCtorEq, Nat.reduceAdd, Nat.reduceSub, Nat.reduceLT, Nat.reduceMul, Nat.reducePow, Nat.reduceLeDiff, Int.reduceToNat, Int.reduceLE, Int.reduceLT, Int.reducePow, hw, size_mk]
        cases hy : digV (l.getD (i + 1) 0).toNat <;> rw [hy] at hd2
        · refine kCall_val hd2 (by rfl) [] (by simp [CALL]) (by simp [CALL]) (by simp [CALL]) (by simp) ?_
          simp only [CALL, ↓VC, VP, TT, Nat.reduceEqDiff, reduceCtorEq, Nat.reduceAdd, Nat.reduceSub, Nat.reduceLT, Nat.reduceMul, Nat.reducePow, Nat.reduceLeDiff, Int.reduceToNat, Int.reduceLE, Int.reduceLT, Int.reducePow, hw, size_mk, nat_lt0, Int.reduceNeg, decide_true, decide_false]
          refine ⟨_, _, [], ⟨0, trivial, rfl, rfl⟩, ?_⟩
          rw [hh.bad hi (.inr hy)]
          simp [-List.reduceReplicate, LES, unhexV]
        · rename_i y
          refine kCall_val hd2 (by rfl) [] (by simp [CALL]) (by simp [CALL]) (by simp [CALL]) (by simp) ?_
          simp only [CALL, ↓VC, VP, TT, Nat.reduceEqDiff, reduceCtorEq, Nat.reduceAdd, Nat.reduceSub, Nat.reduceLT, Nat.reduceMul, Nat.reducePow, Nat.reduceLeDiff, Int.reduceToNat, Int.reduceLE, Int.reduceLT, Int.reducePow, hw, hw2, size_mk, nat_lt0, Int.reduceNeg, decide_true, decide_false]
          rw [add_dig x (digV_lt hx) y (digV_lt hy)]
          refine ⟨by omega, by omega, .inr (by omega), .inr trivial, fun r1 c' hc' _ => ⟨(i + 2, A ++ [UInt8.ofNat (16 * x + y)], r1), hh.step hi hx hy, by simp only; omega, [2], ?_⟩⟩
          rw [one_more, hc']
          simp [-List.reduceReplicate, LES]
    · rw [hh.done (by omega)]
      simp [-List.reduceReplicate, LES, unhexV]
/-- The digest of a text, and whether there is one. -/
def readD (l : List UInt8) : Option (List UInt8) := match unhex l with
  | some o => if o.length = 32 then some o else none
  | none => none
theorem readD_len {l o : List UInt8} (h : readD l = some o) : o.length = 32 := by
  unfold readD at h
  split at h
  · split at h
    · cases h; assumption
    · cases h
  · cases h
end Go.Proofs.YtahnjhppkgndiaaGreat

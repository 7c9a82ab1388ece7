import Derived.Test.YtahnjhppkgndiaaGreatTk
import Derived.Test.YtahnjhppkgndiaaGreatDraw
/- The draws' generator: no long run of draws, four steps apart, that are all multiples of three. No program in sight. -/
set_option linter.unusedSimpArgs false
set_option linter.unusedVariables false
namespace Go.Proofs.YtahnjhppkgndiaaGreat
open Go Go.Vc
set_option maxRecDepth 10000
/-- The generator's step, doubled again and again. -/
def pwl : Nat → Nat × Nat
  | 0 => (6364136223846793005, 1442695040888963407)
  | k + 1 => ((pwl k).1 * (pwl k).1 % 18446744073709551616, ((pwl k).1 * (pwl k).2 + (pwl k).2) % 18446744073709551616)
theorem twice_mod (Q p q x : Nat) : (p * ((p * x + q) % Q) + q) % Q = (p * p % Q * x + (p * q + q) % Q) % Q := by
  have h1 : (p * ((p * x + q) % Q) + q) % Q = (p * (p * x + q) + q) % Q := by
    rw [Nat.add_mod, Nat.mul_mod, Nat.mod_mod, ← Nat.mul_mod, ← Nat.add_mod]
  have h2 : (p * p % Q * x + (p * q + q) % Q) % Q = (p * p * x + (p * q + q)) % Q := by
    rw [Nat.add_mod, Nat.mod_mod, Nat.mul_mod, Nat.mod_mod, ← Nat.mul_mod, ← Nat.add_mod]
  rw [h1, h2]
  congr 1
  rw [Nat.mul_add, Nat.mul_assoc, Nat.add_assoc]
section
variable {f : Nat → Nat}
theorem pwl_ok (hf : ∀ x, f x = (6364136223846793005 * x + 1442695040888963407) % 18446744073709551616) : ∀ k x, lit f (2 ^ k) x = ((pwl k).1 * x + (pwl k).2) % 18446744073709551616
  | 0, x => by
    show lit f 1 x = _
    rw [lit, lit, hf, pwl]
  | k + 1, x => by
    rw [show 2 ^ (k + 1) = 2 ^ k + 2 ^ k by rw [Nat.pow_succ]; omega, lit_add, pwl_ok hf k, pwl_ok hf k, twice_mod, pwl]
theorem pwl_33 : pwl 33 = (5255321193111617537, 11001931093778628608) := by decide +kernel
theorem pwl_2 : pwl 2 = (18108194425815612945, 7401132627792533940) := by decide +kernel
theorem lit_33 (hf : ∀ x, f x = (6364136223846793005 * x + 1442695040888963407) % 18446744073709551616) {J : Nat} (hJ : J = 2 ^ 33) (x : Nat) : lit f J x = (x + 8589934592 * (4 * (152949977 * x) + 1280793349)) % 18446744073709551616 := by
  have h := pwl_ok hf 33 x
  rw [pwl_33, ← hJ] at h
  rw [h, show 5255321193111617537 * x + 11001931093778628608 = x + 8589934592 * (4 * (152949977 * x) + 1280793349) by omega]
theorem lit_4 (hf : ∀ x, f x = (6364136223846793005 * x + 1442695040888963407) % 18446744073709551616) (x : Nat) : lit f 4 x = (18108194425815612945 * x + 7401132627792533940) % 18446744073709551616 := by
  have h := pwl_ok hf 2 x
  rw [pwl_2] at h
  exact h
theorem lit_comm (n : Nat) (x : Nat) : lit f n (f x) = f (lit f n x) := by
  rw [show lit f n (f x) = lit f (n + 1) x from rfl, lit_add]; rfl
/-- The bits drawn, and how they change over a long jump. -/
def bvl (y : Nat) : Nat := y / 8589934592 % 16777216
def ddl (y : Nat) : Nat := (4 * (152949977 * y) + 1280793349) % 16777216
theorem bvl_jump (hf : ∀ x, f x = (6364136223846793005 * x + 1442695040888963407) % 18446744073709551616) {J : Nat} (hJ : J = 2 ^ 33) (y : Nat) : bvl (lit f J y) = (bvl y + ddl y) % 16777216 := by
  rw [lit_33 hf hJ]
  unfold bvl ddl
  obtain ⟨w, hw⟩ : ∃ w, w = 4 * (152949977 * y) + 1280793349 := ⟨_, rfl⟩
  rw [← hw]
  clear hw
  omega
theorem ddl_mod {x y : Nat} (h : x % 16777216 = y % 16777216) : ddl x = ddl y := by
  unfold ddl
  rw [← Nat.mul_assoc, ← Nat.mul_assoc, Nat.add_mod, Nat.mul_mod, h, ← Nat.mul_mod, ← Nat.add_mod]
theorem ddl_jump (hf : ∀ x, f x = (6364136223846793005 * x + 1442695040888963407) % 18446744073709551616) {J : Nat} (hJ : J = 2 ^ 33) (y : Nat) : ddl (lit f J y) = ddl y := by
  refine ddl_mod ?_
  rw [lit_33 hf hJ]
  obtain ⟨w, hw⟩ : ∃ w, w = 4 * (152949977 * y) + 1280793349 := ⟨_, rfl⟩
  rw [← hw]
  clear hw
  omega
theorem ddl_four (hf : ∀ x, f x = (6364136223846793005 * x + 1442695040888963407) % 18446744073709551616) (y : Nat) : ddl (lit f 4 y) = 7519761 * ddl y % 16777216 := by
  have h : ddl (lit f 4 y) = ddl (18108194425815612945 * y + 7401132627792533940) := ddl_mod (by
    rw [lit_4 hf]
    generalize 18108194425815612945 * y + 7401132627792533940 = w
    omega)
  rw [h]
  unfold ddl
  have e : 4 * (152949977 * (18108194425815612945 * y + 7401132627792533940)) + 1280793349 = 18108194425815612945 * (4 * (152949977 * y)) + 4528012260779270508859670869 := by omega
  have e2 : 7519761 * ((4 * (152949977 * y) + 1280793349) % 16777216) % 16777216 = (18108194425815612945 * (4 * (152949977 * y)) + 23192854982983510960314302805) % 16777216 := by
    generalize 4 * (152949977 * y) = w
    omega
  rw [e, e2]
  generalize 18108194425815612945 * (4 * (152949977 * y)) = w
  omega
theorem ddl_odd (y : Nat) : ddl y % 2 = 1 := by
  unfold ddl
  generalize 152949977 * y = w
  omega
theorem ddl_lt (y : Nat) : ddl y < 16777216 := Nat.mod_lt _ (by decide)
theorem bvl_jumps (hf : ∀ x, f x = (6364136223846793005 * x + 1442695040888963407) % 18446744073709551616) {J : Nat} (hJ : J = 2 ^ 33) (y : Nat) : ∀ i, bvl (lit f (J * i) y) = (bvl y + i * ddl y) % 16777216 ∧ ddl (lit f (J * i) y) = ddl y
  | 0 => ⟨by
    rw [Nat.mul_zero, Nat.zero_mul, Nat.add_zero, lit]
    unfold bvl; omega, by rw [Nat.mul_zero, lit]⟩
  | i + 1 => by
    obtain ⟨h1, h2⟩ := bvl_jumps hf hJ y i
    rw [Nat.mul_succ, lit_add]
    refine ⟨?_, by rw [ddl_jump hf hJ, h2]⟩
    rw [bvl_jump hf hJ, h1, h2, Nat.succ_mul]
    omega
end
/-- A change that keeps multiples of three over many jumps. -/
def smB (d : Nat) : Bool := (Nat.beq (d % 3) 0 && Nat.blt (128 * d) 16777216) || (Nat.beq ((16777216 - d) % 3) 0 && Nat.blt (128 * (16777216 - d)) 16777216)
theorem smB_gen {N v d : Nat} (hN : N % 3 = 1) (hv : v < N) (hd : d < N) (h : ∀ i, i ≤ 128 → (v + i * d) % N % 3 = 0) : (d % 3 = 0 ∧ 128 * d < N) ∨ ((N - d) % 3 = 0 ∧ 128 * (N - d) < N) := by
  have h0 := h 0 (Nat.zero_le _)
  have h1 := h 1 (by decide)
  simp only [Nat.zero_mul, Nat.add_zero, Nat.one_mul] at h0 h1
  rw [Nat.mod_eq_of_lt hv] at h0
  rcases Nat.lt_or_ge (v + d) N with hw | hw
  · left
    have d3 : d % 3 = 0 := by rw [Nat.mod_eq_of_lt hw] at h1; omega
    refine ⟨d3, ?_⟩
    have key : ∀ i, i ≤ 128 → v + i * d < N ∧ i * d % 3 = 0 := by
      intro i
      induction i with
      | zero => intro _; exact ⟨by omega, by rw [Nat.zero_mul]⟩
      | succ i ih =>
        intro hi
        have a1 := ih (by omega)
        have a2 := h (i + 1) hi
        rw [Nat.succ_mul] at a2 ⊢
        generalize i * d = w at *
        rcases Nat.lt_or_ge (v + (w + d)) N with g | g
        · exact ⟨g, by omega⟩
        · rw [Nat.mod_eq_sub_mod g, Nat.mod_eq_of_lt (show v + (w + d) - N < N by omega)] at a2
          omega
    have := (key 128 (Nat.le_refl _)).1
    omega
  · right
    have d3 : (N - d) % 3 = 0 := by
      rw [Nat.mod_eq_sub_mod hw, Nat.mod_eq_of_lt (show v + d - N < N by omega)] at h1
      omega
    refine ⟨d3, ?_⟩
    obtain ⟨u, hu⟩ : ∃ u, d + u = N := ⟨N - d, by omega⟩
    have hu' : N - d = u := by omega
    rw [hu'] at d3 ⊢
    have key : ∀ i, i ≤ 128 → i * u ≤ v ∧ i * u % 3 = 0 := by
      intro i
      induction i with
      | zero => intro _; exact ⟨by omega, by rw [Nat.zero_mul]⟩
      | succ i ih =>
        intro hi
        have a1 := ih (by omega)
        have a2 := h (i + 1) hi
        have a4 : (i + 1) * d + (i + 1) * u = (i + 1) * N := by rw [← Nat.mul_add, hu]
        rw [Nat.succ_mul] at a4 ⊢
        rw [Nat.succ_mul i u, Nat.succ_mul i N] at a4
        have e : v + (i + 1) * d = (v + d - i * u) + i * N := by
          rw [Nat.succ_mul]
          have a5 : i * d + i * u = i * N := by rw [← Nat.mul_add, hu]
          omega
        rw [e, Nat.add_mul_mod_self_right] at a2
        generalize i * u = w at *
        rcases Nat.lt_or_ge (v + d - w) N with g | g
        · rw [Nat.mod_eq_of_lt g] at a2
          omega
        · exact ⟨by omega, by omega⟩
    have := (key 128 (Nat.le_refl _)).1
    omega
theorem smB_of {v d : Nat} (hv : v < 16777216) (hd : d < 16777216) (h : ∀ i, i ≤ 128 → (v + i * d) % 16777216 % 3 = 0) : smB d = true := by
  have := smB_gen (by decide) hv hd h
  unfold smB
  simpa only [Bool.or_eq_true, Bool.and_eq_true, Nat.beq_eq, Nat.blt_eq] using this
def smC (d : Nat) : Bool := !(smB (7519761 * d % 16777216) && smB (7519761 * (7519761 * d % 16777216) % 16777216))
theorem smC_all : ((List.range 21846).all fun i => smC (6 * i + 3) && smC (16777216 - (6 * i + 3))) = true := by decide +kernel
theorem smC_of {d : Nat} (hd : d < 16777216) (ho : d % 2 = 1) (h : smB d = true) : smC d = true := by
  have hs := h
  unfold smB at h
  simp only [Bool.or_eq_true, Bool.and_eq_true, Nat.beq_eq, Nat.blt_eq] at h
  have all := List.all_eq_true.1 smC_all
  simp only [List.mem_range, Bool.and_eq_true] at all
  rcases h with ⟨h1, h2⟩ | ⟨h1, h2⟩
  · have := (all (d / 6) (by omega)).1
    rwa [show 6 * (d / 6) + 3 = d by omega] at this
  · have := (all ((16777216 - d) / 6) (by omega)).2
    rwa [show 16777216 - (6 * ((16777216 - d) / 6) + 3) = d by omega] at this
/-- The longest run. -/
theorem no_run {f : Nat → Nat} (hf : ∀ x, f x = (6364136223846793005 * x + 1442695040888963407) % 18446744073709551616) (x : Nat) : ∃ j, j ≤ 274877906946 ∧ lval f (lit f (4 * j) x) % 3 ≠ 0 := by
  obtain ⟨J, hJ⟩ : ∃ J : Nat, J = 2 ^ 33 := ⟨_, rfl⟩
  have hJ' : J = 8589934592 := by rw [hJ]
  have hv : ∀ n, lval f (lit f n x) = bvl (lit f n (f x)) := fun n => by rw [lit_comm]; rfl
  by_cases hx : ∃ j, j ≤ 274877906946 ∧ lval f (lit f (4 * j) x) % 3 ≠ 0
  · exact hx
  exfalso
  have all : ∀ j, j ≤ 274877906946 → bvl (lit f (4 * j) (f x)) % 3 = 0 := fun j hj => by
    by_cases e : bvl (lit f (4 * j) (f x)) % 3 = 0
    · exact e
    · exact absurd ⟨j, hj, by rw [hv]; exact e⟩ hx
  have sm : ∀ h, h ≤ 2 → smB (ddl (lit f (4 * h) (f x))) = true := fun h hh => by
    refine smB_of (v := bvl (lit f (4 * h) (f x))) (Nat.mod_lt _ (by decide)) (ddl_lt _) fun i hi => ?_
    rw [← (bvl_jumps hf hJ _ i).1, ← lit_add, show 4 * h + J * i = 4 * (h + 2147483648 * i) by rw [hJ']; omega]
    exact all _ (by omega)
  have s0 := sm 0 (by decide)
  have s1 := sm 1 (by decide)
  have s2 := sm 2 (by decide)
  have e1 : ddl (lit f (4 * 1) (f x)) = 7519761 * ddl (lit f (4 * 0) (f x)) % 16777216 := ddl_four hf _
  have e2 : ddl (lit f (4 * 2) (f x)) = 7519761 * ddl (lit f (4 * 1) (f x)) % 16777216 := by
    rw [show 4 * 2 = 4 * 1 + 4 from rfl, lit_add, ddl_four hf]
  have c := smC_of (ddl_lt _) (ddl_odd _) s0
  unfold smC at c
  rw [← e1, ← e2, s1, s2] at c
  exact absurd c (by decide)
end Go.Proofs.YtahnjhppkgndiaaGreat
/- The draws' source, exactly: which number follows, and that all draws end. -/
set_option linter.unusedSimpArgs false
set_option linter.unusedVariables false
namespace Go.Proofs.YtahnjhppkgndiaaGreat
open Go Go.Vc
set_option maxRecDepth 10000
set_option maxHeartbeats 4000000
theorem LG_of {f : Nat → Nat} (hf : ∀ x, f x = (6364136223846793005 * x + 1442695040888963407) % 18446744073709551616) : LG f 18446744073709551616 where
  hM := rfl
  eq := ⟨1591034055961698251, 721347520444481703, fun x => by rw [hf]⟩
  ev := ⟨0, rfl, by decide, by simp only [lgood, lval, lit, hf]; decide +kernel⟩
  od := ⟨1, rfl, by decide, by simp only [lgood, lval, lit, hf]; decide +kernel⟩
theorem u64_nat (n : Nat) : IntKind.u64.wrap (n : Int) = ((n % 18446744073709551616 : Nat) : Int) := by
  unfold IntKind.wrap
  simp [IntKind.signed, IntKind.bits]
theorem step_u64 {f : Nat → Nat} (hf : ∀ x, f x = (6364136223846793005 * x + 1442695040888963407) % 18446744073709551616) (x : Nat) : IntKind.u64.wrap (IntKind.u64.wrap ((x : Int) * 6364136223846793005) + 1442695040888963407) = ((f x : Nat) : Int) := by
  have e1 : (x : Int) * 6364136223846793005 = ((x * 6364136223846793005 : Nat) : Int) := by rw [Int.natCast_mul]; rfl
  rw [e1, u64_nat]
  have e2 : ((x * 6364136223846793005 % 18446744073709551616 : Nat) : Int) + 1442695040888963407 = ((x * 6364136223846793005 % 18446744073709551616 + 1442695040888963407 : Nat) : Int) := by rw [Int.natCast_add]; rfl
  rw [e2, u64_nat, hf, Nat.mul_comm x]
  generalize 6364136223846793005 * x = w
  omega
theorem and24_nat {n : Nat} (hn : n < 18446744073709551616) : bitI .and .u64 (n : Int) 16777215 = ((n % 16777216 : Nat) : Int) := by
  unfold bitI
  simp only [IntKind.bits]
  have h : (BitVec.ofInt 64 (n : Int) &&& BitVec.ofInt 64 16777215).toNat = n % 16777216 := by
    rw [BitVec.toNat_and, show (BitVec.ofInt 64 16777215).toNat = 2 ^ 24 - 1 by decide, Nat.and_two_pow_sub_one_eq_mod, BitVec.toNat_ofInt]
    have : ((n : Int) % ((2 ^ 64 : Nat) : Int)).toNat = n := by
      rw [show ((2 ^ 64 : Nat) : Int) = 18446744073709551616 by decide]; omega
    rw [this]
  have h2 : (BitVec.ofInt 64 (n : Int) &&& BitVec.ofInt 64 16777215).toNat < 18446744073709551616 := by rw [h]; omega
  rw [wrap_u64 (by omega) (by omega)]
  exact congrArg _ h
theorem shr33 (n : Nat) : (n : Int).fdiv (2 ^ min 33 64) = ((n / 8589934592 : Nat) : Int) := by
  rw [show (2 : Int) ^ min 33 64 = ((8589934592 : Nat) : Int) by decide, Int.fdiv_eq_ediv_of_nonneg _ (by omega)]
  omega
theorem tmod_nat (a n : Nat) : (a : Int).tmod (n : Int) = ((a % n : Nat) : Int) := by
  rw [Int.tmod_eq_emod_of_nonneg (by omega)]; omega
/-- The source behind a draw; the number drawn. -/
def stepQ (f : Nat → Nat) (l : List UInt8) (q : Nat × Nat) : Nat × Nat := (if q.1 < l.length then q.1 + 1 else q.1, f q.2)
def valQ (f : Nat → Nat) (l : List UInt8) (q : Nat × Nat) (n : Nat) : Nat := (lval f q.2 + (if q.1 < l.length then (l.getD q.1 0).toNat else 0)) % n
section
variable {l : List UInt8} {c : Nat} {q : Nat × Nat} {f : Nat → Nat}
theorem stepQ_ok (hf : ∀ x, f x = (6364136223846793005 * x + 1442695040888963407) % 18446744073709551616) (hq : okS l q) : okS l (stepQ f l q) := by
  refine ⟨?_, ?_⟩
  · have := hq.1
    unfold stepQ
    simp only
    split <;> omega
  · show f q.2 < _
    rw [hf]
    exact Nat.mod_lt _ (by decide)
theorem e_next (hf : ∀ x, f x = (6364136223846793005 * x + 1442695040888963407) % 18446744073709551616) (hc : l.length ≤ c) (hm : l.length ≤ 4096) (hq : okS l q) (n : Nat) (hn : 1 ≤ n) (hn2 : n ≤ 4611686018427387904) : LC Tryz.prog 80 [.p 0 0, .c (.int .i64 (n))] [⟨true, sv 1 l.length c q⟩, ⟨false, bs l⟩] (RetM (fun _ : Unit => True) fun _ => (.c (.int .i64 (valQ f l q n)), [⟨true, sv 1 l.length c (stepQ f l q)⟩, ⟨false, bs l⟩], [])) := by
  have hok := stepQ_ok (f := f) hf hq
  have hstep := step_u64 hf q.2
  have hfl : f q.2 < 18446744073709551616 := hok.2
  obtain ⟨hq1, hq2⟩ := hq
  refine LC_of (X := XX (fun | 5 => .one 0 (.one 1 (.one 2 (.one 3 (.one 4 (.one 5 (.one 6 (.one 7 (.one 8 (.one 9 .nil))))))))) | 6 => .one 0 (.one 1 (.one 2 (.one 3 (.one 4 (.one 5 (.one 6 (.one 7 (.one 8 (.one 9 (.one 10 (.one 11 (.one 12 (.one 13 .nil))))))))))))) | _ => .nil) (fun _ => []) [15, 71, 72, 73, 79, 80, 87, 90, 91, 93, 99, 119, 137, 176, 177, 203, 204, 212, 219] 2) envOK Tryz.func80 (by kernel_rfl) (by kernel_rfl) rfl (Nat.le_of_ble_eq_true (by kernel_rfl)) ?_
  simp only [kFun, Tryz.f80, List.length_nil, List.length_cons, Nat.sub_zero, Nat.reduceSub, Nat.reduceAdd, List.nil_append, List.cons_append, List.replicate_succ, List.replicate_zero]
  simp only [XX, ↓VC, VP, TT, Nat.reduceEqDiff, reduceCtorEq, Nat.reduceAdd, Nat.reduceSub, Nat.reduceLT, Nat.reduceMul, Nat.reducePow, Nat.reduceLeDiff, Int.reduceToNat, Int.reduceLE, Int.reduceLT, Int.reducePow, sv]
  refine ⟨fun h => absurd h (by omega), fun h => ⟨fun h2 => ?_, fun h2 => ?_⟩⟩
  · have hb := (l.getD q.1 0).toNat_lt
    rw [hstep, shr33, and24_nat (by omega)]
    have hv : f q.2 / 8589934592 % 16777216 = lval f q.2 := rfl
    have hvl : lval f q.2 < 16777216 := Nat.mod_lt _ (by decide)
    rw [hv]
    have hlt : q.1 < l.length := by omega
    rw [wrap_i64 (n := ((lval f q.2 : Nat) : Int)) (by omega) (by omega), wrap_i64 (n := ((l.getD q.1 0).toNat : Int)) (by omega) (by omega), wrap_i64 (n := ((lval f q.2 : Nat) : Int) + _) (by omega) (by omega), wrap_i64 (n := (q.1 : Int) + 1) (by omega) (by omega), ← Int.natCast_add, tmod_nat]
    refine ⟨h2, by omega, by omega, ?_⟩
    refine ⟨_, _, [0, 1], ⟨(), trivial, rfl, rfl⟩, ?_⟩
    simp [-List.reduceReplicate, LES, valQ, stepQ, if_pos hlt]
  · have hlt : ¬ q.1 < l.length := by omega
    rw [hstep, shr33, and24_nat (by omega)]
    have hv : f q.2 / 8589934592 % 16777216 = lval f q.2 := rfl
    have hvl : lval f q.2 < 16777216 := Nat.mod_lt _ (by decide)
    rw [hv]
    rw [wrap_i64 (n := ((lval f q.2 : Nat) : Int)) (by omega) (by omega), tmod_nat]
    refine ⟨by omega, ?_⟩
    refine ⟨_, _, [0, 1], ⟨(), trivial, rfl, rfl⟩, ?_⟩
    simp [-List.reduceReplicate, LES, valQ, stepQ, if_neg hlt]
end
end Go.Proofs.YtahnjhppkgndiaaGreat
/- A text that is damaged as long as the draws are multiples of three: it stays short, and there is an end. No program in sight. -/
set_option linter.unusedSimpArgs false
set_option linter.unusedVariables false
namespace Go.Proofs.YtahnjhppkgndiaaGreat
open Go Go.Vc
set_option maxRecDepth 10000
/-- x stands behind r draws, four steps apart, that are multiples of three. -/
def runQ (f : Nat → Nat) (x r : Nat) : Prop := ∃ x0, lit f (4 * r) x0 = x ∧ ∀ j, j < r → lval f (lit f (4 * j) x0) % 3 = 0
theorem runQ_zero (f : Nat → Nat) (x : Nat) : runQ f x 0 := ⟨x, rfl, fun j h => by omega⟩
theorem runQ_succ {f : Nat → Nat} {x r : Nat} (h : runQ f x r) (hv : lval f x % 3 = 0) : runQ f (lit f 4 x) (r + 1) := by
  obtain ⟨x0, h1, h2⟩ := h
  refine ⟨x0, by rw [show 4 * (r + 1) = 4 * r + 4 by omega, lit_add, h1], fun j hj => ?_⟩
  rcases Nat.lt_or_ge j r with h3 | h3
  · exact h2 j h3
  · obtain rfl : j = r := by omega
    rw [h1]; exact hv
theorem runQ_le {f : Nat → Nat} (hf : ∀ x, f x = (6364136223846793005 * x + 1442695040888963407) % 18446744073709551616) {x r : Nat} (h : runQ f x r) : r ≤ 274877906946 := by
  obtain ⟨x0, h1, h2⟩ := h
  obtain ⟨j, h3, h4⟩ := no_run hf x0
  rcases Nat.lt_or_ge j r with h5 | h5
  · exact absurd (h2 j h5) h4
  · omega
/-- How long a text of n bytes may be where the source stands at q. -/
def InvP (f : Nat → Nat) (l : List UInt8) (n : Nat) (q : Nat × Nat) : Prop := okS l q ∧ ((q.1 < l.length ∧ n ≤ 64 + q.1) ∨ (q.1 = l.length ∧ ∃ r, runQ f q.2 r ∧ n ≤ 4200 + r))
/-- What is left. -/
noncomputable def muP (f : Nat → Nat) (l : List UInt8) (q : Nat × Nat) : Nat := if q.1 < l.length then (l.length - q.1) + 9223372036854775809 else lleft f 18446744073709551616 q.2
section
variable {l : List UInt8} {q : Nat × Nat} {f : Nat → Nat} {n m : Nat}
theorem InvP_le (hf : ∀ x, f x = (6364136223846793005 * x + 1442695040888963407) % 18446744073709551616) (hm : l.length ≤ 4096) (h : InvP f l n q) : n ≤ 274877911200 := by
  rcases h.2 with ⟨h1, h2⟩ | ⟨h1, r, h2, h3⟩
  · omega
  · have := runQ_le hf h2
    omega
theorem InvP_start (hq : okS l q) (hn : n ≤ 64) : InvP f l n q := by
  refine ⟨hq, ?_⟩
  rcases Nat.lt_or_ge q.1 l.length with h | h
  · exact .inl ⟨h, by omega⟩
  · exact .inr ⟨Nat.le_antisymm hq.1 h, 0, runQ_zero _ _, by omega⟩
theorem valQ_end (h : ¬ q.1 < l.length) (k : Nat) : valQ f l q k = lval f q.2 % k := by unfold valQ; rw [if_neg h, Nat.add_zero]
theorem stepQ_in (h : q.1 < l.length) : stepQ f l q = (q.1 + 1, f q.2) := by unfold stepQ; rw [if_pos h]
theorem stepQ_end (h : ¬ q.1 < l.length) : stepQ f l q = (q.1, f q.2) := by unfold stepQ; rw [if_neg h]
theorem stepE {a x : Nat} (h : l.length ≤ a) : stepQ f l (a, x) = (a, f x) := stepQ_end (by simp only; omega)
/-- Behind a draw the place is the same or later. -/
theorem stepQ_fst (h : q.1 ≤ l.length) : q.1 ≤ (stepQ f l q).1 ∧ (q.1 < l.length → (stepQ f l q).1 = q.1 + 1) ∧ (stepQ f l q).1 ≤ l.length := by
  rcases Nat.lt_or_ge q.1 l.length with h1 | h1
  · rw [stepQ_in h1]; exact ⟨by simp only; omega, fun _ => rfl, by simp only; omega⟩
  · rw [stepQ_end (by omega)]; exact ⟨Nat.le_refl _, fun _ => by omega, h⟩
theorem InvP_two (hf : ∀ x, f x = (6364136223846793005 * x + 1442695040888963407) % 18446744073709551616) (hm : l.length ≤ 4096) (h : okS l q) : InvP f l 1 (stepQ f l (stepQ f l q)) := InvP_start (stepQ_ok hf (stepQ_ok hf h)) (by omega)
theorem InvP_four (hf : ∀ x, f x = (6364136223846793005 * x + 1442695040888963407) % 18446744073709551616) (hm : l.length ≤ 4096) (h : InvP f l n q) (hv : valQ f l q 3 = 0) (hn : m ≤ n + 1) : InvP f l m (stepQ f l (stepQ f l (stepQ f l (stepQ f l q)))) := by
  have o1 := stepQ_ok (f := f) hf h.1
  have o2 := stepQ_ok (f := f) hf o1
  have o3 := stepQ_ok (f := f) hf o2
  have o4 := stepQ_ok (f := f) hf o3
  refine ⟨o4, ?_⟩
  rcases h.2 with ⟨h1, h2⟩ | ⟨h1, r, h2, h3⟩
  · have a1 := stepQ_fst (f := f) h.1.1
    have a2 := stepQ_fst (f := f) o1.1
    have a3 := stepQ_fst (f := f) o2.1
    have a4 := stepQ_fst (f := f) o3.1
    have b1 := a1.2.1 h1
    rcases Nat.lt_or_ge (stepQ f l (stepQ f l (stepQ f l (stepQ f l q)))).1 l.length with g | g
    · exact .inl ⟨g, by omega⟩
    · exact .inr ⟨Nat.le_antisymm o4.1 g, 0, runQ_zero _ _, by omega⟩
  · have e : stepQ f l (stepQ f l (stepQ f l (stepQ f l q))) = (l.length, lit f 4 q.2) := by
      obtain ⟨a, x⟩ := q
      simp only at h1
      subst h1
      rw [stepE (Nat.le_refl _), stepE (Nat.le_refl _), stepE (Nat.le_refl _), stepE (Nat.le_refl _)]
      rfl
    rw [e]
    rw [valQ_end (by omega)] at hv
    exact .inr ⟨rfl, r + 1, runQ_succ h2 hv, by omega⟩
theorem muP_two (hf : ∀ x, f x = (6364136223846793005 * x + 1442695040888963407) % 18446744073709551616) (h : okS l q) (hv : valQ f l q 3 = 0) : muP f l (stepQ f l (stepQ f l q)) < muP f l q := by
  have hLG := LG_of hf
  have o1 := stepQ_ok (f := f) hf h
  have o2 := stepQ_ok (f := f) hf o1
  rcases Nat.lt_or_ge q.1 l.length with g | g
  · have a1 := stepQ_fst (f := f) h.1
    have a2 := stepQ_fst (f := f) o1.1
    have b1 := a1.2.1 g
    have hl := lleft_le hLG o2.2
    unfold muP
    rw [if_pos g]
    split <;> omega
  · have e : stepQ f l (stepQ f l q) = (q.1, lit f 2 q.2) := by
      obtain ⟨a, x⟩ := q
      rw [stepE g, stepE g]
      rfl
    rw [valQ_end (by omega)] at hv
    have key := lleft_two hLG h.2 hv
    rw [e]
    unfold muP
    simp only
    rw [if_neg (by omega), if_neg (by omega)]
    omega
theorem muP_four (hf : ∀ x, f x = (6364136223846793005 * x + 1442695040888963407) % 18446744073709551616) (h : okS l q) (hv : valQ f l q 3 = 0) : muP f l (stepQ f l (stepQ f l (stepQ f l (stepQ f l q)))) < muP f l q := by
  have hLG := LG_of hf
  have o1 := stepQ_ok (f := f) hf h
  have o2 := stepQ_ok (f := f) hf o1
  have o3 := stepQ_ok (f := f) hf o2
  have o4 := stepQ_ok (f := f) hf o3
  rcases Nat.lt_or_ge q.1 l.length with g | g
  · have a1 := stepQ_fst (f := f) h.1
    have a2 := stepQ_fst (f := f) o1.1
    have a3 := stepQ_fst (f := f) o2.1
    have a4 := stepQ_fst (f := f) o3.1
    have b1 := a1.2.1 g
    have hl := lleft_le hLG o4.2
    unfold muP
    rw [if_pos g]
    split <;> omega
  · have e : stepQ f l (stepQ f l (stepQ f l (stepQ f l q))) = (q.1, lit f 4 q.2) := by
      obtain ⟨a, x⟩ := q
      rw [stepE g, stepE g, stepE g, stepE g]
      rfl
    rw [valQ_end (by omega)] at hv
    have key := lleft_four hLG h.2 hv
    rw [e]
    unfold muP
    simp only
    rw [if_neg (by omega), if_neg (by omega)]
    omega
end
end Go.Proofs.YtahnjhppkgndiaaGreat

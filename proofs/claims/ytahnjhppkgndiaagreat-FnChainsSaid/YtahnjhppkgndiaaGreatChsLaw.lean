import Derived.Test.YtahnjhppkgndiaaGreatVcgJ
import Derived.Test.YtahnjhppkgndiaaGreatDrawQ
import Derived.Test.YtahnjhppkgndiaaGreatDrawM
import Derived.Test.YtahnjhppkgndiaaGreatDrawJ
/- FnChains: what is padded and chained comes back; a fault changes places of its own block and one byte of the next one alone. In sections. -/
set_option linter.unusedSimpArgs false
set_option linter.unusedVariables false
namespace Go.Proofs.YtahnjhppkgndiaaGreat
open Go Go.Vc
set_option maxRecDepth 10000
set_option maxHeartbeats 40000000
/-- Simplifying facts, bundled. -/
theorem WB : type_of% (
  And.intro @instL_room <|
  And.intro @okL_room <|
  And.intro @tkn <|
  And.intro @instL_cip <|
  @okL_cip) :=
  And.intro @instL_room <|
  And.intro @okL_room <|
  And.intro @tkn <|
  And.intro @instL_cip <|
  @okL_cip
noncomputable def cx_FnChains : Cx := XX (fun | 1000012 => .cut .nil | 1000017 => .cut .nil | 1000026 => .cut .nil | 1000031 => .cut .nil | 1000036 => .cut .nil | 1000041 => .cut .nil | _ => .nil) (fun _ => []) [15, 71, 72, 73, 79, 80, 87, 90, 91, 93, 99, 119, 137, 176, 177, 203, 204, 212, 219] 1
theorem cx_FnChains_E : cx_FnChains.E = E := rfl
theorem cx_FnChains_P : cx_FnChains.P = Tryz.prog := rfl
theorem cx_FnChains_mu : cx_FnChains.mu = [15, 71, 72, 73, 79, 80, 87, 90, 91, 93, 99, 119, 137, 176, 177, 203, 204, 212, 219] := rfl
theorem cx_FnChains_m : cx_FnChains.m = 1 := rfl
theorem cx_FnChains_ord1000012 : cx_FnChains.ord 1000012 = .cut .nil := rfl
theorem cx_FnChains_ord1000017 : cx_FnChains.ord 1000017 = .cut .nil := rfl
theorem cx_FnChains_ord1000026 : cx_FnChains.ord 1000026 = .cut .nil := rfl
theorem cx_FnChains_ord1000031 : cx_FnChains.ord 1000031 = .cut .nil := rfl
theorem cx_FnChains_ord1000036 : cx_FnChains.ord 1000036 = .cut .nil := rfl
theorem cx_FnChains_ord1000041 : cx_FnChains.ord 1000041 = .cut .nil := rfl
theorem cx_FnChains_flt1000012 : cx_FnChains.flt 1000012 = [] := rfl
theorem cx_FnChains_flt1000017 : cx_FnChains.flt 1000017 = [] := rfl
theorem cx_FnChains_flt1000026 : cx_FnChains.flt 1000026 = [] := rfl
theorem cx_FnChains_flt1000031 : cx_FnChains.flt 1000031 = [] := rfl
theorem cx_FnChains_flt1000036 : cx_FnChains.flt 1000036 = [] := rfl
theorem cx_FnChains_flt1000041 : cx_FnChains.flt 1000041 = [] := rfl
theorem CX_FnChains : type_of% (
  And.intro @cx_FnChains_E <|
  And.intro @cx_FnChains_P <|
  And.intro @cx_FnChains_mu <|
  And.intro @cx_FnChains_m <|
  And.intro @cx_FnChains_ord1000012 <|
  And.intro @cx_FnChains_ord1000017 <|
  And.intro @cx_FnChains_ord1000026 <|
  And.intro @cx_FnChains_ord1000031 <|
  And.intro @cx_FnChains_ord1000036 <|
  And.intro @cx_FnChains_ord1000041 <|
  And.intro @cx_FnChains_flt1000012 <|
  And.intro @cx_FnChains_flt1000017 <|
  And.intro @cx_FnChains_flt1000026 <|
  And.intro @cx_FnChains_flt1000031 <|
  And.intro @cx_FnChains_flt1000036 <|
  @cx_FnChains_flt1000041) :=
  And.intro @cx_FnChains_E <|
  And.intro @cx_FnChains_P <|
  And.intro @cx_FnChains_mu <|
  And.intro @cx_FnChains_m <|
  And.intro @cx_FnChains_ord1000012 <|
  And.intro @cx_FnChains_ord1000017 <|
  And.intro @cx_FnChains_ord1000026 <|
  And.intro @cx_FnChains_ord1000031 <|
  And.intro @cx_FnChains_ord1000036 <|
  And.intro @cx_FnChains_ord1000041 <|
  And.intro @cx_FnChains_flt1000012 <|
  And.intro @cx_FnChains_flt1000017 <|
  And.intro @cx_FnChains_flt1000026 <|
  And.intro @cx_FnChains_flt1000031 <|
  And.intro @cx_FnChains_flt1000036 <|
  @cx_FnChains_flt1000041
section
variable {l : List UInt8} {c : Nat}
/-- A section's start: the code alone is known. -/
abbrev chS (l : List UInt8) (c : Nat) : List V := [.s 0 0 l.length c, .j, .j, .j, .j, .j, .j, .j, .j, .j, .j, .j, .j, .j, .j, .j, .j, .j, .j, .j, .j, .j, .j, .j, .j, .j, .j, .j, .j, .j, .j, .j, .j, .j, .j, .j, .j, .j, .j, .j, .j, .j, .j, .j, .j, .j, .j, .j, .j, .j, .j, .j, .j, .j, .j, .j, .j, .j, .j, .j, .j, .j, .j, .j, .j, .j, .j, .j, .j, .j, .j, .j, .j, .j, .j, .j, .j, .j, .j, .j, .j, .j, .j, .j, .j, .j, .j, .j, .j, .j, .j, .j, .j, .j, .j, .j, .j, .j, .j, .j, .j, .j, .j, .j, .j, .j, .j, .j, .j, .j, .j, .j, .j, .j, .j, .j, .j, .j, .j, .j, .j, .j, .j, .j, .j, .j, .j, .j, .j, .j, .j, .j, .j, .j, .j, .j, .j, .j, .j, .j, .j, .j, .j, .j, .j, .j, .j, .j, .j, .j, .j, .j, .j, .j, .j, .j, .j, .j, .j, .j, .j, .j, .j, .j, .j, .j, .j, .j, .j, .j, .j, .j, .j, .j, .j, .j, .j, .j, .j, .j, .j, .j, .j, .j, .j, .j, .j, .j, .j, .j, .j, .j, .j, .j, .j, .j, .j, .j, .j, .j, .j, .j, .j, .j, .j, .j, .j, .j, .j, .j, .j, .j, .j, .j, .j, .j, .j, .j, .j, .j, .j, .j, .j, .j, .j, .j, .j, .j, .j, .j, .j, .j, .j, .j, .j, .j, .j, .j, .j, .j, .j, .j, .j, .j, .j, .j, .j, .j, .j, .j, .j, .j, .j, .j, .j, .j, .j, .j, .j, .j, .j, .j, .j, .j, .j, .j, .j, .j, .j, .j, .j, .j, .j, .j, .j, .j, .j, .j, .j, .j, .j, .j, .j]
theorem d_FaultP (hc : l.length ≤ c) (hm : l.length ≤ 4096) : LC Tryz.prog 66 [.s 0 0 l.length c] [⟨false, bs l⟩] (Ret [⟨false, bs l⟩] (fun x : (DC × List UInt8 × List UInt8 × List UInt8 × Nat) × Int => x.1.1.ok ∧ x.1.2.1.length = 16 ∧ x.1.2.2.1.length = 16 ∧ x.1.2.2.2.1.length ≤ 4096) fun x => (.t [.a x.1.1.cells, .a (bs x.1.2.1), .a (bs x.1.2.2.1), .s 1 0 x.1.2.2.2.1.length (x.1.2.2.2.1.length + x.1.2.2.2.2), .c (.int .i64 (x.2))], [⟨true, bs x.1.2.2.2.1 ++ List.replicate x.1.2.2.2.2 .j⟩])) := d_FaultPlaces hc hm
theorem vGet_nsvX {L : List Int} {X : List V} {i : Nat} {k : V → Prop} (h : i < L.length) : vGet (nsv L ++ X) i k = k (.c (.int .i64 (L.getD i 0))) := by
  rw [vGet_appL (by rw [nsv_length]; exact h), vGet_nsvD h]
abbrev chE (l : List UInt8) (c : Nat) (D : List UInt8) (r : Nat) (o : List Int) (r2 : Nat) (p e : Int) : List V := [.s 0 0 l.length c, .j, .j, .j, .j, .j, .j, .j, .j, .j, .j, .j, .j, .j, .j, .j, .j, .j, .j, .j, .j, .j, .j, .j, .j, .j, .j, .j, .j, .j, .j, .j, .j, .j, .j, .j, .s 1 0 D.length (D.length + r), .c (.int .i64 (p)), .s 2 0 o.length (o.length + r2), .c (.int .i64 (e)), .j, .j, .j, .j, .j, .j, .j, .j, .j, .j, .j, .j, .j, .j, .j, .j, .j, .j, .j, .j, .j, .j, .j, .j, .j, .j, .j, .j, .j, .j, .j, .j, .j, .j, .j, .j, .j, .j, .j, .j, .j, .j, .j, .j, .j, .j, .j, .j, .j, .j, .j, .j, .j, .j, .j, .j, .j, .j, .j, .j, .j, .j, .j, .j, .j, .j, .j, .j, .j, .j, .j, .j, .j, .j, .j, .j, .j, .j, .j, .j, .j, .j, .j, .j, .j, .j, .j, .j, .j, .j, .j, .j, .j, .j, .j, .j, .j, .j, .j, .j, .j, .j, .j, .j, .j, .j, .j, .j, .j, .j, .j, .j, .j, .j, .j, .j, .j, .j, .j, .j, .j, .j, .j, .j, .j, .j, .j, .j, .j, .j, .j, .j, .j, .j, .j, .j, .j, .j, .j, .j, .j, .j, .j, .j, .j, .j, .j, .j, .j, .j, .j, .j, .j, .j, .j, .j, .j, .j, .j, .j, .j, .j, .j, .j, .j, .j, .j, .j, .j, .j, .j, .j, .j, .j, .j, .j, .j, .j, .j, .j, .j, .j, .j, .j, .j, .j, .j, .j, .j, .j, .j, .j, .j, .j, .j, .j, .j, .j, .j, .j, .j, .j, .j, .j, .j, .j, .j, .j, .j, .j, .j, .j, .j, .j, .j, .j, .j, .j, .j, .j, .j, .j, .j, .j, .j, .j, .j, .j, .j, .j, .j, .j, .j, .j, .j, .j, .j, .j, .j, .j, .j, .j, .j]
abbrev chEH (l D : List UInt8) (r : Nat) (o : List Int) (r2 : Nat) : List Blk := [⟨false, bs l⟩, ⟨true, bs D ++ List.replicate r .j⟩, ⟨true, nsv o ++ List.replicate r2 .j⟩]
theorem ch_loop (hc : l.length ≤ c) (hm : l.length ≤ 4096) {D : List UInt8} {o : List Int} {r r2 i : Nat} (hi : i < D.length) (hD : D.length ≤ 2016) (ho : o.length ≤ 1048576)
    (hk : ∀ x ∈ o, ∃ k : Nat, x = k ∧ (k / 16 = i / 16 ∨ k = i + 16)) : kFrom cx_FnChains Tryz.f5 [12, 17, 26, 31, 36, 41] 41 lawPost [.j, .j, .j, .j, .j, .j, .j, .j, .j, .j, .j, .j, .j, .j, .j, .j, .j, .j, .j, .j, .j, .j, .j, .j, .j, .j, .j, .j, .j, .j, .j, .j, .j, .j, .j, .j, .j, .c (.int .i64 (i)), .s 2 0 o.length (o.length + r2), .j, .j, .j, .j, .j, .j, .j, .j, .j, .j, .j, .j, .j, .j, .j, .j, .j, .j, .j, .j, .j, .j, .j, .j, .j, .j, .j, .j, .j, .j, .j, .j, .j, .j, .j, .j, .j, .j, .j, .j, .j, .j, .j, .j, .j, .j, .j, .j, .j, .j, .j, .j, .j, .j, .j, .j, .j, .j, .j, .j, .j, .j, .j, .j, .j, .j, .j, .j, .j, .j, .j, .j, .j, .j, .j, .j, .j, .j, .j, .j, .j, .j, .j, .j, .j, .j, .j, .j, .j, .j, .j, .j, .j, .j, .j, .j, .j, .j, .j, .j, .j, .j, .j, .j, .j, .j, .j, .j, .j, .j, .j, .j, .j, .j, .j, .j, .j, .j, .j, .j, .j, .j, .j, .j, .j, .j, .j, .j, .j, .j, .j, .j, .j, .j, .j, .j, .j, .j, .j, .j, .j, .j, .j, .j, .j, .j, .j, .j, .j, .j, .j, .j, .j, .j, .j, .j, .j, .j, .j, .j, .j, .j, .j, .j, .j, .j, .j, .j, .j, .j, .j, .j, .j, .j, .j, .j, .j, .j, .j, .j, .j, .j, .j, .j, .j, .j, .j, .j, .j, .j, .j, .j, .j, .j, .j, .j, .j, .j, .j, .j, .j, .j, .j, .j, .j, .j, .j, .j, .j, .j, .j, .j, .j, .j, .j, .j, .j, .j, .j, .j, .j, .j, .j, .j, .j, .j, .j, .j, .j, .j, .j, .j, .j, .j, .j, .j, .j, .j, .j, .j, .j, .j, .j, .j] (chEH l D r o r2) := by
  simp only [kFrom, kFromK, kAt, Go.Vc.mark, lawPost, List.contains_cons, List.contains_nil, Nat.reduceBEq, Bool.or_false, Bool.false_or, Bool.true_or, Bool.or_true, Bool.false_eq_true, if_true, if_false, Nat.reduceAdd, Nat.reduceEqDiff, reduceCtorEq, Tryz.f5]
  simp only [CX_FnChains, lawPost, ↓VC, VP, TT, Nat.reduceEqDiff, reduceCtorEq, Nat.reduceAdd, Nat.reduceSub, Nat.reduceLT, Nat.reduceMul, Nat.reducePow, Nat.reduceLeDiff, Int.reduceToNat, Int.reduceLE, Int.reduceLT, Int.reducePow, chEH]
  refine kLoop_of (fun k : Nat => ([.j, .j, .j, .j, .j, .j, .j, .j, .j, .j, .j, .j, .j, .j, .j, .j, .j, .j, .j, .j, .j, .j, .j, .j, .j, .j, .j, .j, .j, .j, .j, .j, .j, .j, .j, .j, .j, .c (.int .i64 (i)), .s 2 0 o.length (o.length + r2), .j, .j, .j, .j, .c (.int .i64 (k)), .j, .j, .j, .j, .j, .j, .j, .j, .j, .j, .j, .j, .j, .j, .j, .j, .j, .j, .j, .j, .j, .j, .j, .j, .j, .j, .j, .j, .j, .j, .j, .j, .j, .j, .j, .j, .j, .j, .j, .j, .j, .j, .j, .j, .j, .j, .j, .j, .j, .j, .j, .j, .j, .j, .j, .j, .j, .j, .j, .j, .j, .j, .j, .j, .j, .j, .j, .j, .j, .j, .j, .j, .j, .j, .j, .j, .j, .j, .j, .j, .j, .j, .j, .j, .j, .j, .j, .j, .j, .j, .j, .j, .j, .j, .j, .j, .j, .j, .j, .j, .j, .j, .j, .j, .j, .j, .j, .j, .j, .j, .j, .j, .j, .j, .j, .j, .j, .j, .j, .j, .j, .j, .j, .j, .j, .j, .j, .j, .j, .j, .j, .j, .j, .j, .j, .j, .j, .j, .j, .j, .j, .j, .j, .j, .j, .j, .j, .j, .j, .j, .j, .j, .j, .j, .j, .j, .j, .j, .j, .j, .j, .j, .j, .j, .j, .j, .j, .j, .j, .j, .j, .j, .j, .j, .j, .j, .j, .j, .j, .j, .j, .j, .j, .j, .j, .j, .j, .j, .j, .j, .j, .j, .j, .j, .j, .j, .j, .j, .j, .j, .j, .j, .j, .j, .j, .j, .j, .j, .j, .j, .j, .j, .j, .j, .j, .j, .j, .j, .j, .j, .j, .j, .j, .j, .j, .j, .j, .j, .j, .j, .j, .j, .j, .j, .j, .j, .j, .j, .j], chEH l D r o r2)) (fun k => o.length - k) (fun k => k ≤ o.length) 0 (by omega) ⟨[0, 1, 2], by simp [-List.reduceReplicate, LES, chEH, CX_FnChains]⟩ ?_
  intro k hk2
  have w1 : IntKind.i64.wrap ((i : Int) + 16) = ((i + 16 : Nat) : Int) := by rw [wrap_i64 (by omega) (by omega)]; omega
  rcases Nat.lt_or_ge k o.length with h | h
  · have hmem : o.getD k 0 ∈ o := by rw [List.getD_eq_getElem?_getD, List.getElem?_eq_getElem h]; simp
    obtain ⟨x, hx, hxk⟩ := hk _ hmem
    have w3 : IntKind.i64.wrap ((x : Int).tdiv 16) = ((x / 16 : Nat) : Int) := by rw [Int.tdiv_eq_ediv_of_nonneg (by omega), wrap_i64 (by omega) (by omega)]; omega
    have w4 : IntKind.i64.wrap ((i : Int).tdiv 16) = ((i / 16 : Nat) : Int) := by rw [Int.tdiv_eq_ediv_of_nonneg (by omega), wrap_i64 (by omega) (by omega)]; omega
    have w5 : IntKind.i64.wrap ((k : Int) + 1) = ((k + 1 : Nat) : Int) := by rw [wrap_i64 (by omega) (by omega)]; omega
    by_cases hq : x / 16 = i / 16
    · have e1 : (((x / 16 : Nat) : Int) != ((i / 16 : Nat) : Int)) = false := by rw [hq]; simp
      simp only [CX_FnChains, ↓VC, VP, TT, Nat.reduceEqDiff, reduceCtorEq, Nat.reduceAdd, Nat.reduceSub, Nat.reduceLT, Nat.reduceMul, Nat.reducePow, Nat.reduceLeDiff, Int.reduceToNat, Int.reduceLE, Int.reduceLT, Int.reducePow, chEH, (eq_true (by omega) : ((k : Int) < (o.length : Int)) = True), decide_true, Int.toNat_natCast, ↓vGet_nsvX h, hx, w1, w3, w4, w5, e1]
      exact ⟨by decide, by decide, k + 1, by omega, by omega, [0, 1, 2], by simp [-List.reduceReplicate, LES, chEH, CX_FnChains]⟩
    · obtain rfl : x = i + 16 := by omega
      have e1 : ((((i + 16) / 16 : Nat) : Int) != ((i / 16 : Nat) : Int)) = true := by rw [bne_iff_ne]; omega
      simp only [CX_FnChains, ↓VC, VP, TT, Nat.reduceEqDiff, reduceCtorEq, Nat.reduceAdd, Nat.reduceSub, Nat.reduceLT, Nat.reduceMul, Nat.reducePow, Nat.reduceLeDiff, Int.reduceToNat, Int.reduceLE, Int.reduceLT, Int.reducePow, chEH, (eq_true (by omega) : ((k : Int) < (o.length : Int)) = True), decide_true, Int.toNat_natCast, ↓vGet_nsvX h, hx, w1, w3, w4, w5, e1, bne_self_eq_false]
      exact ⟨by decide, by decide, k + 1, by omega, by omega, [0, 1, 2], by simp [-List.reduceReplicate, LES, chEH, CX_FnChains]⟩
  · obtain rfl : k = o.length := by omega
    simp only [CX_FnChains, ↓VC, VP, TT, Nat.reduceEqDiff, reduceCtorEq, Nat.reduceAdd, Nat.reduceSub, Nat.reduceLT, Nat.reduceMul, Nat.reducePow, Nat.reduceLeDiff, Int.reduceToNat, Int.reduceLE, Int.reduceLT, Int.reducePow, lawPost, chEH, (eq_false (by omega) : ((o.length : Int) < (o.length : Int)) = False), decide_false]
    exact ⟨_, [⟨false, bs l⟩], [0], rfl, by simp [-List.reduceReplicate, LES]⟩
theorem ch_end (hc : l.length ≤ c) (hm : l.length ≤ 4096) {D : List UInt8} {o : List Int} {r r2 : Nat} {p e : Int} (ho : o.length ≤ 1048576)
    (P : (e ≠ 0 ∧ o = []) ∨ (e = 0 ∧ o ≠ [] ∧ ∃ i : Nat, p = i ∧ i < D.length ∧ D.length ≤ 2016 ∧ (∀ x ∈ o, ∃ k : Nat, x = k ∧ (k / 16 = i / 16 ∨ k = i + 16)) ∧ (i + 16 < D.length → ∃ L : List Int, o = L ++ [((i + 16 : Nat) : Int)]))) :
    kFrom cx_FnChains Tryz.f5 [12, 17, 26, 31, 36, 41] 36 lawPost (chE l c D r o r2 p e) (chEH l D r o r2) := by
  rcases P with ⟨he, rfl⟩ | ⟨rfl, hne, i, rfl, hi, hD, hk, hlast⟩
  · have he1 : (e != 0) = true := by rw [bne_iff_ne]; exact he
    simp only [kFrom, kFromK, kAt, Go.Vc.mark, lawPost, List.contains_cons, List.contains_nil, Nat.reduceBEq, Bool.or_false, Bool.false_or, Bool.true_or, Bool.or_true, Bool.false_eq_true, if_true, if_false, Nat.reduceAdd, Nat.reduceEqDiff, reduceCtorEq, Tryz.f5]
    simp only [CX_FnChains, lawPost, ↓VC, VP, TT, Nat.reduceEqDiff, reduceCtorEq, Nat.reduceAdd, Nat.reduceSub, Nat.reduceLT, Nat.reduceMul, Nat.reducePow, Nat.reduceLeDiff, Int.reduceToNat, Int.reduceLE, Int.reduceLT, Int.reducePow, he1, List.length_nil, beq_self_eq_true]
    exact ⟨_, [⟨false, bs l⟩], [0], rfl, by simp [-List.reduceReplicate, LES]⟩
  · have hpos : 0 < o.length := by cases o with | nil => exact absurd rfl hne | cons a b => simp
    have w1 : IntKind.i64.wrap ((i : Int) + 16) = ((i + 16 : Nat) : Int) := by rw [wrap_i64 (by omega) (by omega)]; omega
    have w2 : IntKind.i64.wrap ((o.length : Int) - 1) = ((o.length - 1 : Nat) : Int) := by rw [wrap_i64 (by omega) (by omega)]; omega
    have f1 : ((o.length : Int) == 0) = false := by rw [beq_eq_false_iff_ne]; omega
    have f2 : decide ((((i + 16 : Nat) : Int)) < (D.length : Int)) = decide (i + 16 < D.length) := decide_eq_decide.2 (by omega)
    by_cases hb : i + 16 < D.length
    · obtain ⟨L, hL⟩ := hlast hb
      have hL1 : o.length - 1 < o.length := by omega
      have hL2 : o.getD (o.length - 1) 0 = ((i + 16 : Nat) : Int) := by rw [hL]; simp
      have f3 : decide (i + 16 < D.length) = true := decide_eq_true hb
      simp only [kFrom, kFromK, kAt, Go.Vc.mark, lawPost, List.contains_cons, List.contains_nil, Nat.reduceBEq, Bool.or_false, Bool.false_or, Bool.true_or, Bool.or_true, Bool.false_eq_true, if_true, if_false, Nat.reduceAdd, Nat.reduceEqDiff, reduceCtorEq, Tryz.f5]
      simp only [CX_FnChains, lawPost, ↓VC, VP, TT, Nat.reduceEqDiff, reduceCtorEq, Nat.reduceAdd, Nat.reduceSub, Nat.reduceLT, Nat.reduceMul, Nat.reducePow, Nat.reduceLeDiff, Int.reduceToNat, Int.reduceLE, Int.reduceLT, Int.reducePow, chE, chEH, bne_self_eq_false, w1, f1, f2, f3, w2, Int.toNat_natCast, ↓vGet_nsvX hL1, hL2]
      repeat (refine ⟨by first | omega | (simp; done) | decide, ?_⟩)
      exact kMeet (ch_loop (r := r) (r2 := r2) hc hm hi hD ho hk) (by kernel_rfl) ⟨[0, 1, 2], by simp [-List.reduceReplicate, LES, CX_FnChains, chEH]⟩
    · have f3 : decide (i + 16 < D.length) = false := decide_eq_false hb
      simp only [kFrom, kFromK, kAt, Go.Vc.mark, lawPost, List.contains_cons, List.contains_nil, Nat.reduceBEq, Bool.or_false, Bool.false_or, Bool.true_or, Bool.or_true, Bool.false_eq_true, if_true, if_false, Nat.reduceAdd, Nat.reduceEqDiff, reduceCtorEq, Tryz.f5]
      simp only [CX_FnChains, lawPost, ↓VC, VP, TT, Nat.reduceEqDiff, reduceCtorEq, Nat.reduceAdd, Nat.reduceSub, Nat.reduceLT, Nat.reduceMul, Nat.reducePow, Nat.reduceLeDiff, Int.reduceToNat, Int.reduceLE, Int.reduceLT, Int.reducePow, chE, chEH, bne_self_eq_false, w1, f1, f2, f3]
      exact kMeet (ch_loop (r := r) (r2 := r2) hc hm hi hD ho hk) (by kernel_rfl) ⟨[0, 1, 2], by simp [-List.reduceReplicate, LES, CX_FnChains, chEH]⟩
theorem ch_flt (hc : l.length ≤ c) (hm : l.length ≤ 4096) : kFrom cx_FnChains Tryz.f5 [12, 17, 26, 31, 36, 41] 31 lawPost (chS l c) [⟨false, bs l⟩] := by
  simp only [kFrom, kFromK, kAt, Go.Vc.mark, lawPost, List.contains_cons, List.contains_nil, Nat.reduceBEq, Bool.or_false, Bool.false_or, Bool.true_or, Bool.or_true, Bool.false_eq_true, if_true, if_false, Nat.reduceAdd, Nat.reduceEqDiff, reduceCtorEq, Tryz.f5]
  simp only [CX_FnChains, lawPost, ↓VC, VP, TT, Nat.reduceEqDiff, reduceCtorEq, Nat.reduceAdd, Nat.reduceSub, Nat.reduceLT, Nat.reduceMul, Nat.reducePow, Nat.reduceLeDiff, Int.reduceToNat, Int.reduceLE, Int.reduceLT, Int.reducePow, chS]
  refine kCall_Ret (d_FaultP hc hm) (by rfl) [(0, 0)] (by simp [CALL, SCB, WB, okL_nsv, instL_nsv, nsv_length]) (by simp [CALL, SCB, WB, okL_nsv, instL_nsv, nsv_length]) (by simp [CALL, SCB, WB, okL_nsv, instL_nsv, nsv_length]) (by simp [okL_bs, okL_room, okL, okV, WB, okL_nsv, instL_nsv, nsv_length]) (by simp [CALL, SCB, WB, okL_nsv, instL_nsv, nsv_length]) fun x5 h5 => ?_
  obtain ⟨⟨⟨z5, b5, A5, p5, n5⟩, k5, s5, D5, r5⟩, i5⟩ := x5
  obtain ⟨⟨hb5, hA5, hp5⟩, hk5, hs5, hD5⟩ := h5
  simp only [DC.cells] at hb5 hA5 hp5 hk5 hs5 hD5 ⊢
  obtain ⟨o5, e5, ho5, S5, I5, P5⟩ := two_Flt (z := z5) (n := n5) (box := b5) (A := A5) (pl := p5) (key := k5) (start := s5) (l := D5) (q := D5.length + r5) i5 hb5 hA5 hp5 hk5 hs5 (by omega)
  simp (config := { maxSteps := 2000000 }) only [CALL, ↓VC, VP, TT, Nat.reduceEqDiff, reduceCtorEq, Nat.reduceAdd, Nat.reduceSub, Nat.reduceLT, Nat.reduceMul, Nat.reducePow, Nat.reduceLeDiff, Int.reduceToNat, Int.reduceLE, Int.reduceLT, Int.reducePow, GOB, CX_FnChains, lawPost, instL_room, instL_nsv, nsv_length, instL_cip, cip_build, cipC_len z256 z16 z16, cipC_len hb5 hA5 hp5, hk5, hs5, ↓cip_all hb5 hA5 hp5]
  refine kCall_Ret (I5) (by rfl) [(1, 0)] (by simp [CALL, SCB, WB, okL_nsv, instL_nsv, nsv_length]) (by simp [CALL, SCB, WB, okL_nsv, instL_nsv, nsv_length]) (by simp [CALL, SCB, WB, okL_nsv, instL_nsv, nsv_length]) (by simp [okL_bs, okL_room, okL, okV, WB, okL_nsv, instL_nsv, nsv_length]) (by simp [CALL, SCB, WB, okL_nsv, instL_nsv, nsv_length]) fun u5 _ => ?_
  simp (config := { maxSteps := 2000000 }) only [CALL, ↓VC, VP, TT, Nat.reduceEqDiff, reduceCtorEq, Nat.reduceAdd, Nat.reduceSub, Nat.reduceLT, Nat.reduceMul, Nat.reducePow, Nat.reduceLeDiff, Int.reduceToNat, Int.reduceLE, Int.reduceLT, Int.reducePow, GOB, CX_FnChains, lawPost, instL_room, instL_nsv, nsv_length, instL_cip, cip_build, cipC_len z256 z16 z16, cipC_len hb5 hA5 hp5, hk5, hs5, ↓cip_all hb5 hA5 hp5]
  refine kCall_Ret (S5) (by rfl) [(1, 0)] (by simp [CALL, SCB, WB, okL_nsv, instL_nsv, nsv_length]) (by simp [CALL, SCB, WB, okL_nsv, instL_nsv, nsv_length]) (by simp [CALL, SCB, WB, okL_nsv, instL_nsv, nsv_length]) (by simp [okL_bs, okL_room, okL, okV, WB, okL_nsv, instL_nsv, nsv_length]) (by simp [CALL, SCB, WB, okL_nsv, instL_nsv, nsv_length]) fun w5 _ => ?_
  simp (config := { maxSteps := 2000000 }) only [CALL, ↓VC, VP, TT, Nat.reduceEqDiff, reduceCtorEq, Nat.reduceAdd, Nat.reduceSub, Nat.reduceLT, Nat.reduceMul, Nat.reducePow, Nat.reduceLeDiff, Int.reduceToNat, Int.reduceLE, Int.reduceLT, Int.reducePow, GOB, CX_FnChains, lawPost, instL_room, instL_nsv, nsv_length, instL_cip, cip_build, cipC_len z256 z16 z16, cipC_len hb5 hA5 hp5, hk5, hs5, ↓cip_all hb5 hA5 hp5, bne_self_eq_false]
  refine kCall_val (l_likeInts o5 (o5.length + u5) (o5.length + w5) (by omega) (by omega) (by omega)) (by rfl) [(5, 0), (6, 0)] (by simp [CALL, SCB, WB, okL_nsv, instL_nsv, nsv_length]) (by simp [CALL, SCB, WB, okL_nsv, instL_nsv, nsv_length]) (by simp [CALL, SCB, WB, okL_nsv, instL_nsv, nsv_length]) (by simp [okL_bs, okL_room, okL, okV, WB, okL_nsv, instL_nsv, nsv_length]) ?_
  simp (config := { maxSteps := 2000000 }) only [CALL, ↓VC, VP, TT, Nat.reduceEqDiff, reduceCtorEq, Nat.reduceAdd, Nat.reduceSub, Nat.reduceLT, Nat.reduceMul, Nat.reducePow, Nat.reduceLeDiff, Int.reduceToNat, Int.reduceLE, Int.reduceLT, Int.reducePow, GOB, CX_FnChains, lawPost, instL_room, instL_nsv, nsv_length, instL_cip, cip_build, cipC_len z256 z16 z16, Bool.not_true]
  exact kMeet (ch_end (D := D5) (o := o5) (r := r5) (r2 := u5) (p := i5) (e := e5) hc hm (by omega) P5) (by kernel_rfl) ⟨[0, 1, 5], by simp [-List.reduceReplicate, LES, CX_FnChains]⟩
theorem ch_dec (hc : l.length ≤ c) (hm : l.length ≤ 4096) : kFrom cx_FnChains Tryz.f5 [12, 17, 26, 31, 36, 41] 26 lawPost (chS l c) [⟨false, bs l⟩] := by
  simp only [kFrom, kFromK, kAt, Go.Vc.mark, lawPost, List.contains_cons, List.contains_nil, Nat.reduceBEq, Bool.or_false, Bool.false_or, Bool.true_or, Bool.or_true, Bool.false_eq_true, if_true, if_false, Nat.reduceAdd, Nat.reduceEqDiff, reduceCtorEq, Tryz.f5]
  simp only [CX_FnChains, lawPost, ↓VC, VP, TT, Nat.reduceEqDiff, reduceCtorEq, Nat.reduceAdd, Nat.reduceSub, Nat.reduceLT, Nat.reduceMul, Nat.reducePow, Nat.reduceLeDiff, Int.reduceToNat, Int.reduceLE, Int.reduceLT, Int.reducePow, chS]
  refine kCall_Ret (d_ChainDecipher hc hm) (by rfl) [(0, 0)] (by simp [CALL, SCB, WB, okL_nsv, instL_nsv, nsv_length]) (by simp [CALL, SCB, WB, okL_nsv, instL_nsv, nsv_length]) (by simp [CALL, SCB, WB, okL_nsv, instL_nsv, nsv_length]) (by simp [okL_bs, okL_room, okL, okV, WB, okL_nsv, instL_nsv, nsv_length]) (by simp [CALL, SCB, WB, okL_nsv, instL_nsv, nsv_length]) fun x4 h4 => ?_
  obtain ⟨⟨z4, b4, A4, p4, n4⟩, k4, s4, D4, r4⟩ := x4
  obtain ⟨⟨hb4, hA4, hp4⟩, hk4, hs4, hD4⟩ := h4
  simp only [DC.cells] at hb4 hA4 hp4 hk4 hs4 hD4 ⊢
  obtain ⟨o4, e4, ho4, S4, I4⟩ := both_ChainDecipher z4 n4 b4 A4 p4 k4 s4 D4 (D4.length + r4) hb4 hA4 hp4 hk4 hs4 (by omega)
  simp (config := { maxSteps := 2000000 }) only [CALL, ↓VC, VP, TT, Nat.reduceEqDiff, reduceCtorEq, Nat.reduceAdd, Nat.reduceSub, Nat.reduceLT, Nat.reduceMul, Nat.reducePow, Nat.reduceLeDiff, Int.reduceToNat, Int.reduceLE, Int.reduceLT, Int.reducePow, GOB, CX_FnChains, lawPost, instL_room, instL_nsv, nsv_length, instL_cip, cip_build, cipC_len z256 z16 z16, cipC_len hb4 hA4 hp4, hk4, hs4, ↓cip_all hb4 hA4 hp4]
  refine kCall_Ret (I4) (by rfl) [(1, 0)] (by simp [CALL, SCB, WB, okL_nsv, instL_nsv, nsv_length]) (by simp [CALL, SCB, WB, okL_nsv, instL_nsv, nsv_length]) (by simp [CALL, SCB, WB, okL_nsv, instL_nsv, nsv_length]) (by simp [okL_bs, okL_room, okL, okV, WB, okL_nsv, instL_nsv, nsv_length]) (by simp [CALL, SCB, WB, okL_nsv, instL_nsv, nsv_length]) fun u4 _ => ?_
  simp (config := { maxSteps := 2000000 }) only [CALL, ↓VC, VP, TT, Nat.reduceEqDiff, reduceCtorEq, Nat.reduceAdd, Nat.reduceSub, Nat.reduceLT, Nat.reduceMul, Nat.reducePow, Nat.reduceLeDiff, Int.reduceToNat, Int.reduceLE, Int.reduceLT, Int.reducePow, GOB, CX_FnChains, lawPost, instL_room, instL_nsv, nsv_length, instL_cip, cip_build, cipC_len z256 z16 z16, cipC_len hb4 hA4 hp4, hk4, hs4, ↓cip_all hb4 hA4 hp4]
  refine kCall_Ret (S4) (by rfl) [(1, 0)] (by simp [CALL, SCB, WB, okL_nsv, instL_nsv, nsv_length]) (by simp [CALL, SCB, WB, okL_nsv, instL_nsv, nsv_length]) (by simp [CALL, SCB, WB, okL_nsv, instL_nsv, nsv_length]) (by simp [okL_bs, okL_room, okL, okV, WB, okL_nsv, instL_nsv, nsv_length]) (by simp [CALL, SCB, WB, okL_nsv, instL_nsv, nsv_length]) fun w4 _ => ?_
  simp (config := { maxSteps := 2000000 }) only [CALL, ↓VC, VP, TT, Nat.reduceEqDiff, reduceCtorEq, Nat.reduceAdd, Nat.reduceSub, Nat.reduceLT, Nat.reduceMul, Nat.reducePow, Nat.reduceLeDiff, Int.reduceToNat, Int.reduceLE, Int.reduceLT, Int.reducePow, GOB, CX_FnChains, lawPost, instL_room, instL_nsv, nsv_length, instL_cip, cip_build, cipC_len z256 z16 z16, cipC_len hb4 hA4 hp4, hk4, hs4, ↓cip_all hb4 hA4 hp4, bne_self_eq_false]
  refine kCall_val (l_bytes9 o4 o4 (o4.length + u4) (o4.length + w4) (by omega) (by omega) (by omega) (by omega)) (by rfl) [(5, 0), (6, 0)] (by simp [CALL, SCB, WB, okL_nsv, instL_nsv, nsv_length]) (by simp [CALL, SCB, WB, okL_nsv, instL_nsv, nsv_length]) (by simp [CALL, SCB, WB, okL_nsv, instL_nsv, nsv_length]) (by simp [okL_bs, okL_room, okL, okV, WB, okL_nsv, instL_nsv, nsv_length]) ?_
  simp (config := { maxSteps := 2000000 }) only [CALL, ↓VC, VP, TT, Nat.reduceEqDiff, reduceCtorEq, Nat.reduceAdd, Nat.reduceSub, Nat.reduceLT, Nat.reduceMul, Nat.reducePow, Nat.reduceLeDiff, Int.reduceToNat, Int.reduceLE, Int.reduceLT, Int.reducePow, GOB, CX_FnChains, lawPost, instL_room, instL_nsv, nsv_length, instL_cip, cip_build, cipC_len z256 z16 z16, beq_self_eq_true, Bool.not_true]
  exact kMeet (ch_flt hc hm) (by kernel_rfl) ⟨[0], by simp [-List.reduceReplicate, LES, CX_FnChains]⟩
theorem ch_enc (hc : l.length ≤ c) (hm : l.length ≤ 4096) : kFrom cx_FnChains Tryz.f5 [12, 17, 26, 31, 36, 41] 17 lawPost (chS l c) [⟨false, bs l⟩] := by
  simp only [kFrom, kFromK, kAt, Go.Vc.mark, lawPost, List.contains_cons, List.contains_nil, Nat.reduceBEq, Bool.or_false, Bool.false_or, Bool.true_or, Bool.or_true, Bool.false_eq_true, if_true, if_false, Nat.reduceAdd, Nat.reduceEqDiff, reduceCtorEq, Tryz.f5]
  simp only [CX_FnChains, lawPost, ↓VC, VP, TT, Nat.reduceEqDiff, reduceCtorEq, Nat.reduceAdd, Nat.reduceSub, Nat.reduceLT, Nat.reduceMul, Nat.reducePow, Nat.reduceLeDiff, Int.reduceToNat, Int.reduceLE, Int.reduceLT, Int.reducePow, chS]
  refine kCall_Ret (d_ChainEncipher hc hm) (by rfl) [(0, 0)] (by simp [CALL, SCB, WB, okL_nsv, instL_nsv, nsv_length]) (by simp [CALL, SCB, WB, okL_nsv, instL_nsv, nsv_length]) (by simp [CALL, SCB, WB, okL_nsv, instL_nsv, nsv_length]) (by simp [okL_bs, okL_room, okL, okV, WB, okL_nsv, instL_nsv, nsv_length]) (by simp [CALL, SCB, WB, okL_nsv, instL_nsv, nsv_length]) fun x3 h3 => ?_
  obtain ⟨⟨z3, b3, A3, p3, n3⟩, k3, s3, D3, r3⟩ := x3
  obtain ⟨⟨hb3, hA3, hp3⟩, hk3, hs3, hD3⟩ := h3
  simp only [DC.cells] at hb3 hA3 hp3 hk3 hs3 hD3 ⊢
  obtain ⟨o3, e3, ho3, S3, I3, P3⟩ := two_ChE (z := z3) (n := n3) (l := D3) (q := D3.length + r3) hb3 hA3 hp3 hk3 hs3 (by omega)
  simp (config := { maxSteps := 2000000 }) only [CALL, ↓VC, VP, TT, Nat.reduceEqDiff, reduceCtorEq, Nat.reduceAdd, Nat.reduceSub, Nat.reduceLT, Nat.reduceMul, Nat.reducePow, Nat.reduceLeDiff, Int.reduceToNat, Int.reduceLE, Int.reduceLT, Int.reducePow, GOB, CX_FnChains, lawPost, instL_room, instL_nsv, nsv_length, instL_cip, cip_build, cipC_len z256 z16 z16, cipC_len hb3 hA3 hp3, hk3, hs3, ↓cip_all hb3 hA3 hp3]
  refine kCall_Ret (I3) (by rfl) [(1, 0)] (by simp [CALL, SCB, WB, okL_nsv, instL_nsv, nsv_length]) (by simp [CALL, SCB, WB, okL_nsv, instL_nsv, nsv_length]) (by simp [CALL, SCB, WB, okL_nsv, instL_nsv, nsv_length]) (by simp [okL_bs, okL_room, okL, okV, WB, okL_nsv, instL_nsv, nsv_length]) (by simp [CALL, SCB, WB, okL_nsv, instL_nsv, nsv_length]) fun u3 _ => ?_
  simp (config := { maxSteps := 2000000 }) only [CALL, ↓VC, VP, TT, Nat.reduceEqDiff, reduceCtorEq, Nat.reduceAdd, Nat.reduceSub, Nat.reduceLT, Nat.reduceMul, Nat.reducePow, Nat.reduceLeDiff, Int.reduceToNat, Int.reduceLE, Int.reduceLT, Int.reducePow, GOB, CX_FnChains, lawPost, instL_room, instL_nsv, nsv_length, instL_cip, cip_build, cipC_len z256 z16 z16, cipC_len hb3 hA3 hp3, hk3, hs3, ↓cip_all hb3 hA3 hp3]
  refine kCall_Ret (S3) (by rfl) [(1, 0)] (by simp [CALL, SCB, WB, okL_nsv, instL_nsv, nsv_length]) (by simp [CALL, SCB, WB, okL_nsv, instL_nsv, nsv_length]) (by simp [CALL, SCB, WB, okL_nsv, instL_nsv, nsv_length]) (by simp [okL_bs, okL_room, okL, okV, WB, okL_nsv, instL_nsv, nsv_length]) (by simp [CALL, SCB, WB, okL_nsv, instL_nsv, nsv_length]) fun w3 _ => ?_
  simp (config := { maxSteps := 2000000 }) only [CALL, ↓VC, VP, TT, Nat.reduceEqDiff, reduceCtorEq, Nat.reduceAdd, Nat.reduceSub, Nat.reduceLT, Nat.reduceMul, Nat.reducePow, Nat.reduceLeDiff, Int.reduceToNat, Int.reduceLE, Int.reduceLT, Int.reducePow, GOB, CX_FnChains, lawPost, instL_room, instL_nsv, nsv_length, instL_cip, cip_build, cipC_len z256 z16 z16, cipC_len hb3 hA3 hp3, hk3, hs3, ↓cip_all hb3 hA3 hp3, bne_self_eq_false]
  refine kCall_val (l_bytes9 o3 o3 (o3.length + u3) (o3.length + w3) (by omega) (by omega) (by omega) (by omega)) (by rfl) [(5, 0), (6, 0)] (by simp [CALL, SCB, WB, okL_nsv, instL_nsv, nsv_length]) (by simp [CALL, SCB, WB, okL_nsv, instL_nsv, nsv_length]) (by simp [CALL, SCB, WB, okL_nsv, instL_nsv, nsv_length]) (by simp [okL_bs, okL_room, okL, okV, WB, okL_nsv, instL_nsv, nsv_length]) ?_
  simp (config := { maxSteps := 2000000 }) only [CALL, ↓VC, VP, TT, Nat.reduceEqDiff, reduceCtorEq, Nat.reduceAdd, Nat.reduceSub, Nat.reduceLT, Nat.reduceMul, Nat.reducePow, Nat.reduceLeDiff, Int.reduceToNat, Int.reduceLE, Int.reduceLT, Int.reducePow, GOB, CX_FnChains, lawPost, instL_room, instL_nsv, nsv_length, instL_cip, cip_build, cipC_len z256 z16 z16, beq_self_eq_true, Bool.not_true, hk3, hs3, cipC_len hb3 hA3 hp3, ↓cip_all hb3 hA3 hp3]
  refine ⟨fun h4 => ?_, fun h4 => ?_⟩
  · rcases P3 with ⟨he, _⟩ | ⟨rfl, _, hD3k, c3, rfl, rfl, rfl, rfl, rfl, ho3e⟩
    · exact absurd (beq_iff_eq.1 h4) he
    have hI8 := chD_back (q := o3.length + u3) c3 hk3 hs3 hD3k ho3e (by omega)
    refine kCall_Ret (hI8) (by rfl) [(5, 0)] (by simp [CALL, SCB, WB, okL_nsv, instL_nsv, nsv_length]) (by simp [CALL, SCB, WB, okL_nsv, instL_nsv, nsv_length]) (by simp [CALL, SCB, WB, okL_nsv, instL_nsv, nsv_length]) (by simp [okL_bs, okL_room, okL, okV, WB, okL_nsv, instL_nsv, nsv_length]) (by simp [CALL, SCB, WB, okL_nsv, instL_nsv, nsv_length]) fun u8 _ => ?_
    simp (config := { maxSteps := 2000000 }) only [CALL, ↓VC, VP, TT, Nat.reduceEqDiff, reduceCtorEq, Nat.reduceAdd, Nat.reduceSub, Nat.reduceLT, Nat.reduceMul, Nat.reducePow, Nat.reduceLeDiff, Int.reduceToNat, Int.reduceLE, Int.reduceLT, Int.reducePow, GOB, CX_FnChains, lawPost, instL_room, instL_nsv, nsv_length, instL_cip, cip_build, cipC_len z256 z16 z16, bne_self_eq_false]
    refine kCall_val (l_bytes9 D3 D3 (D3.length + u8) (D3.length + r3) (by omega) (by omega) (by omega) (by omega)) (by rfl) [(7, 0), (1, 0)] (by simp [CALL, SCB, WB, okL_nsv, instL_nsv, nsv_length]) (by simp [CALL, SCB, WB, okL_nsv, instL_nsv, nsv_length]) (by simp [CALL, SCB, WB, okL_nsv, instL_nsv, nsv_length]) (by simp [okL_bs, okL_room, okL, okV, WB, okL_nsv, instL_nsv, nsv_length]) ?_
    simp (config := { maxSteps := 2000000 }) only [CALL, ↓VC, VP, TT, Nat.reduceEqDiff, reduceCtorEq, Nat.reduceAdd, Nat.reduceSub, Nat.reduceLT, Nat.reduceMul, Nat.reducePow, Nat.reduceLeDiff, Int.reduceToNat, Int.reduceLE, Int.reduceLT, Int.reducePow, GOB, CX_FnChains, lawPost, instL_room, instL_nsv, nsv_length, instL_cip, cip_build, cipC_len z256 z16 z16, beq_self_eq_true, Bool.not_true]
    exact kMeet (ch_dec hc hm) (by kernel_rfl) ⟨[0], by simp [-List.reduceReplicate, LES, CX_FnChains]⟩
  · exact kMeet (ch_dec hc hm) (by kernel_rfl) ⟨[0], by simp [-List.reduceReplicate, LES, CX_FnChains]⟩
theorem ch_unp (hc : l.length ≤ c) (hm : l.length ≤ 4096) : kFrom cx_FnChains Tryz.f5 [12, 17, 26, 31, 36, 41] 12 lawPost (chS l c) [⟨false, bs l⟩] := by
  simp only [kFrom, kFromK, kAt, Go.Vc.mark, lawPost, List.contains_cons, List.contains_nil, Nat.reduceBEq, Bool.or_false, Bool.false_or, Bool.true_or, Bool.or_true, Bool.false_eq_true, if_true, if_false, Nat.reduceAdd, Nat.reduceEqDiff, reduceCtorEq, Tryz.f5]
  simp only [CX_FnChains, lawPost, ↓VC, VP, TT, Nat.reduceEqDiff, reduceCtorEq, Nat.reduceAdd, Nat.reduceSub, Nat.reduceLT, Nat.reduceMul, Nat.reducePow, Nat.reduceLeDiff, Int.reduceToNat, Int.reduceLE, Int.reduceLT, Int.reducePow, chS]
  refine kCall_Ret (d_UnpadBlocks hc hm) (by rfl) [(0, 0)] (by simp [CALL, SCB, WB, okL_nsv, instL_nsv, nsv_length]) (by simp [CALL, SCB, WB, okL_nsv, instL_nsv, nsv_length]) (by simp [CALL, SCB, WB, okL_nsv, instL_nsv, nsv_length]) (by simp [okL_bs, okL_room, okL, okV, WB, okL_nsv, instL_nsv, nsv_length]) (by simp [CALL, SCB, WB, okL_nsv, instL_nsv, nsv_length]) fun x2 h2 => ?_
  obtain ⟨D2, r2⟩ := x2
  simp only at h2 ⊢
  obtain ⟨o2, e2, ho2, S2, I2, _⟩ := two_Unpad D2 (D2.length + r2) (by omega)
  unfold outU at S2 I2
  simp (config := { maxSteps := 2000000 }) only [CALL, ↓VC, VP, TT, Nat.reduceEqDiff, reduceCtorEq, Nat.reduceAdd, Nat.reduceSub, Nat.reduceLT, Nat.reduceMul, Nat.reducePow, Nat.reduceLeDiff, Int.reduceToNat, Int.reduceLE, Int.reduceLT, Int.reducePow, GOB, CX_FnChains, lawPost, instL_room, instL_nsv, nsv_length, instL_cip, cip_build, cipC_len z256 z16 z16]
  refine kCall_Ret (I2) (by rfl) [(1, 0)] (by simp [CALL, SCB, WB, okL_nsv, instL_nsv, nsv_length]) (by simp [CALL, SCB, WB, okL_nsv, instL_nsv, nsv_length]) (by simp [CALL, SCB, WB, okL_nsv, instL_nsv, nsv_length]) (by simp [okL_bs, okL_room, okL, okV, WB, okL_nsv, instL_nsv, nsv_length]) (by simp [CALL, SCB, WB, okL_nsv, instL_nsv, nsv_length]) fun u2 _ => ?_
  simp (config := { maxSteps := 2000000 }) only [CALL, ↓VC, VP, TT, Nat.reduceEqDiff, reduceCtorEq, Nat.reduceAdd, Nat.reduceSub, Nat.reduceLT, Nat.reduceMul, Nat.reducePow, Nat.reduceLeDiff, Int.reduceToNat, Int.reduceLE, Int.reduceLT, Int.reducePow, GOB, CX_FnChains, lawPost, instL_room, instL_nsv, nsv_length, instL_cip, cip_build, cipC_len z256 z16 z16]
  refine kCall_Ret (S2) (by rfl) [(1, 0)] (by simp [CALL, SCB, WB, okL_nsv, instL_nsv, nsv_length]) (by simp [CALL, SCB, WB, okL_nsv, instL_nsv, nsv_length]) (by simp [CALL, SCB, WB, okL_nsv, instL_nsv, nsv_length]) (by simp [okL_bs, okL_room, okL, okV, WB, okL_nsv, instL_nsv, nsv_length]) (by simp [CALL, SCB, WB, okL_nsv, instL_nsv, nsv_length]) fun w2 _ => ?_
  simp (config := { maxSteps := 2000000 }) only [CALL, ↓VC, VP, TT, Nat.reduceEqDiff, reduceCtorEq, Nat.reduceAdd, Nat.reduceSub, Nat.reduceLT, Nat.reduceMul, Nat.reducePow, Nat.reduceLeDiff, Int.reduceToNat, Int.reduceLE, Int.reduceLT, Int.reducePow, GOB, CX_FnChains, lawPost, instL_room, instL_nsv, nsv_length, instL_cip, cip_build, cipC_len z256 z16 z16, bne_self_eq_false]
  refine kCall_val (l_bytes9 o2 o2 (o2.length + u2) (o2.length + w2) (by omega) (by omega) (by omega) (by omega)) (by rfl) [(2, 0), (3, 0)] (by simp [CALL, SCB, WB, okL_nsv, instL_nsv, nsv_length]) (by simp [CALL, SCB, WB, okL_nsv, instL_nsv, nsv_length]) (by simp [CALL, SCB, WB, okL_nsv, instL_nsv, nsv_length]) (by simp [okL_bs, okL_room, okL, okV, WB, okL_nsv, instL_nsv, nsv_length]) ?_
  simp (config := { maxSteps := 2000000 }) only [CALL, ↓VC, VP, TT, Nat.reduceEqDiff, reduceCtorEq, Nat.reduceAdd, Nat.reduceSub, Nat.reduceLT, Nat.reduceMul, Nat.reducePow, Nat.reduceLeDiff, Int.reduceToNat, Int.reduceLE, Int.reduceLT, Int.reducePow, GOB, CX_FnChains, lawPost, instL_room, instL_nsv, nsv_length, instL_cip, cip_build, cipC_len z256 z16 z16, beq_self_eq_true, Bool.not_true]
  exact kMeet (ch_enc hc hm) (by kernel_rfl) ⟨[0], by simp [-List.reduceReplicate, LES, CX_FnChains]⟩
end
theorem law_FnChains (l : List UInt8) (c : Nat) (hc : l.length ≤ c) (hmc : c ≤ maxLen) : LC Tryz.prog 5 [.s 0 0 l.length c] [⟨false, bs l⟩] (fun v _ => v = .c (.bool true)) := by
  refine LC_ofM (X := cx_FnChains) [12, 17, 26, 31, 36, 41] envOK Tryz.func5 (by kernel_rfl) (ord_two (by kernel_rfl)) rfl (Nat.le_of_ble_eq_true (by kernel_rfl)) ?_
  simp only [kFunM, Go.Vc.mark, List.contains_cons, List.contains_nil, Nat.reduceBEq, Bool.or_false, Bool.false_or, Bool.true_or, Bool.or_true, Bool.false_eq_true, if_true, if_false, Nat.reduceAdd, Nat.reduceEqDiff, Tryz.f5, List.length_nil, List.length_cons, Nat.sub_zero, Nat.reduceSub, List.nil_append, List.cons_append, List.replicate_succ, List.replicate_zero]
  simp only [CX_FnChains, ↓VC, VP, TT, Nat.reduceEqDiff, reduceCtorEq, Nat.reduceAdd, Nat.reduceSub, Nat.reduceLT, Nat.reduceMul, Nat.reducePow, Nat.reduceLeDiff, Int.reduceToNat, Int.reduceLE, Int.reduceLT, Int.reducePow]
  refine kCall_val (d_big (l := l) (c := c) (by omega)) (by rfl) [(0, 0)] (by simp [CALL, SCB, WB, okL_nsv, instL_nsv, nsv_length]) (by simp [CALL, SCB, WB, okL_nsv, instL_nsv, nsv_length]) (by simp [CALL, SCB, WB, okL_nsv, instL_nsv, nsv_length]) (by simp [okL_bs, okL_room, okL, okV, WB, okL_nsv, instL_nsv, nsv_length]) ?_
  simp (config := { maxSteps := 2000000 }) only [CALL, ↓VC, VP, TT, Nat.reduceEqDiff, reduceCtorEq, Nat.reduceAdd, Nat.reduceSub, Nat.reduceLT, Nat.reduceMul, Nat.reducePow, Nat.reduceLeDiff, Int.reduceToNat, Int.reduceLE, Int.reduceLT, Int.reducePow, GOB, CX_FnChains, lawPost, instL_room, instL_nsv, nsv_length, instL_cip, cip_build, cipC_len z256 z16 z16]
  refine ⟨fun _ => ⟨_, [⟨false, bs l⟩], [0], rfl, by simp [-List.reduceReplicate, LES]⟩, fun h => ?_⟩
  have hm : l.length ≤ 4096 := by simpa using h
  clear h
  refine kCall_Ret (d_PadBlocks hc hm) (by rfl) [(0, 0)] (by simp [CALL, SCB, WB, okL_nsv, instL_nsv, nsv_length]) (by simp [CALL, SCB, WB, okL_nsv, instL_nsv, nsv_length]) (by simp [CALL, SCB, WB, okL_nsv, instL_nsv, nsv_length]) (by simp [okL_bs, okL_room, okL, okV, WB, okL_nsv, instL_nsv, nsv_length]) (by simp [CALL, SCB, WB, okL_nsv, instL_nsv, nsv_length]) fun x1 h1 => ?_
  obtain ⟨D1, r1⟩ := x1
  simp only at h1 ⊢
  obtain ⟨o1, e1, S1, I1, P1⟩ := two_Pad D1 (D1.length + r1) (by omega)
  unfold outU at S1 I1
  simp (config := { maxSteps := 2000000 }) only [CALL, ↓VC, VP, TT, Nat.reduceEqDiff, reduceCtorEq, Nat.reduceAdd, Nat.reduceSub, Nat.reduceLT, Nat.reduceMul, Nat.reducePow, Nat.reduceLeDiff, Int.reduceToNat, Int.reduceLE, Int.reduceLT, Int.reducePow, GOB, CX_FnChains, lawPost, instL_room, instL_nsv, nsv_length, instL_cip, cip_build, cipC_len z256 z16 z16]
  refine kCall_Ret (I1) (by rfl) [(1, 0)] (by simp [CALL, SCB, WB, okL_nsv, instL_nsv, nsv_length]) (by simp [CALL, SCB, WB, okL_nsv, instL_nsv, nsv_length]) (by simp [CALL, SCB, WB, okL_nsv, instL_nsv, nsv_length]) (by simp [okL_bs, okL_room, okL, okV, WB, okL_nsv, instL_nsv, nsv_length]) (by simp [CALL, SCB, WB, okL_nsv, instL_nsv, nsv_length]) fun u1 _ => ?_
  simp (config := { maxSteps := 2000000 }) only [CALL, ↓VC, VP, TT, Nat.reduceEqDiff, reduceCtorEq, Nat.reduceAdd, Nat.reduceSub, Nat.reduceLT, Nat.reduceMul, Nat.reducePow, Nat.reduceLeDiff, Int.reduceToNat, Int.reduceLE, Int.reduceLT, Int.reducePow, GOB, CX_FnChains, lawPost, instL_room, instL_nsv, nsv_length, instL_cip, cip_build, cipC_len z256 z16 z16]
  refine kCall_Ret (S1) (by rfl) [(1, 0)] (by simp [CALL, SCB, WB, okL_nsv, instL_nsv, nsv_length]) (by simp [CALL, SCB, WB, okL_nsv, instL_nsv, nsv_length]) (by simp [CALL, SCB, WB, okL_nsv, instL_nsv, nsv_length]) (by simp [okL_bs, okL_room, okL, okV, WB, okL_nsv, instL_nsv, nsv_length]) (by simp [CALL, SCB, WB, okL_nsv, instL_nsv, nsv_length]) fun w1 _ => ?_
  simp (config := { maxSteps := 2000000 }) only [CALL, ↓VC, VP, TT, Nat.reduceEqDiff, reduceCtorEq, Nat.reduceAdd, Nat.reduceSub, Nat.reduceLT, Nat.reduceMul, Nat.reducePow, Nat.reduceLeDiff, Int.reduceToNat, Int.reduceLE, Int.reduceLT, Int.reducePow, GOB, CX_FnChains, lawPost, instL_room, instL_nsv, nsv_length, instL_cip, cip_build, cipC_len z256 z16 z16, bne_self_eq_false]
  have ho1 : o1.length ≤ 2048 := by rcases P1 with ⟨_, rfl⟩ | ⟨_, hx, rfl⟩; simp; rw [padL_len]; omega
  refine kCall_val (l_bytes9 o1 o1 (o1.length + u1) (o1.length + w1) (by omega) (by omega) (by omega) (by omega)) (by rfl) [(2, 0), (3, 0)] (by simp [CALL, SCB, WB, okL_nsv, instL_nsv, nsv_length]) (by simp [CALL, SCB, WB, okL_nsv, instL_nsv, nsv_length]) (by simp [CALL, SCB, WB, okL_nsv, instL_nsv, nsv_length]) (by simp [okL_bs, okL_room, okL, okV, WB, okL_nsv, instL_nsv, nsv_length]) ?_
  simp (config := { maxSteps := 2000000 }) only [CALL, ↓VC, VP, TT, Nat.reduceEqDiff, reduceCtorEq, Nat.reduceAdd, Nat.reduceSub, Nat.reduceLT, Nat.reduceMul, Nat.reducePow, Nat.reduceLeDiff, Int.reduceToNat, Int.reduceLE, Int.reduceLT, Int.reducePow, GOB, CX_FnChains, lawPost, instL_room, instL_nsv, nsv_length, instL_cip, cip_build, cipC_len z256 z16 z16, beq_self_eq_true, Bool.not_true]
  refine ⟨fun h2 => ?_, fun h2 => ?_⟩
  · rcases P1 with ⟨he, _⟩ | ⟨rfl, hD1k, ho1e⟩
    · exact absurd (beq_iff_eq.1 h2) he
    have hol1 : o1.length = D1.length + 16 - D1.length % 16 := by rw [ho1e, padL_len]
    obtain ⟨o9, e9, ho9, _, I9, P9⟩ := two_Unpad o1 (o1.length + u1) (by omega)
    obtain ⟨rfl, rfl⟩ := P9 D1 ho1e hD1k
    unfold outU at I9
    refine kCall_Ret (I9) (by rfl) [(2, 0)] (by simp [CALL, SCB, WB, okL_nsv, instL_nsv, nsv_length]) (by simp [CALL, SCB, WB, okL_nsv, instL_nsv, nsv_length]) (by simp [CALL, SCB, WB, okL_nsv, instL_nsv, nsv_length]) (by simp [okL_bs, okL_room, okL, okV, WB, okL_nsv, instL_nsv, nsv_length]) (by simp [CALL, SCB, WB, okL_nsv, instL_nsv, nsv_length]) fun u9 _ => ?_
    simp (config := { maxSteps := 2000000 }) only [CALL, ↓VC, VP, TT, Nat.reduceEqDiff, reduceCtorEq, Nat.reduceAdd, Nat.reduceSub, Nat.reduceLT, Nat.reduceMul, Nat.reducePow, Nat.reduceLeDiff, Int.reduceToNat, Int.reduceLE, Int.reduceLT, Int.reducePow, GOB, CX_FnChains, lawPost, instL_room, instL_nsv, nsv_length, instL_cip, cip_build, cipC_len z256 z16 z16, bne_self_eq_false]
    refine kCall_val (l_bytes9 o9 o9 (o9.length + u9) (o9.length + r1) (by omega) (by omega) (by omega) (by omega)) (by rfl) [(4, 0), (1, 0)] (by simp [CALL, SCB, WB, okL_nsv, instL_nsv, nsv_length]) (by simp [CALL, SCB, WB, okL_nsv, instL_nsv, nsv_length]) (by simp [CALL, SCB, WB, okL_nsv, instL_nsv, nsv_length]) (by simp [okL_bs, okL_room, okL, okV, WB, okL_nsv, instL_nsv, nsv_length]) ?_
    simp (config := { maxSteps := 2000000 }) only [CALL, ↓VC, VP, TT, Nat.reduceEqDiff, reduceCtorEq, Nat.reduceAdd, Nat.reduceSub, Nat.reduceLT, Nat.reduceMul, Nat.reducePow, Nat.reduceLeDiff, Int.reduceToNat, Int.reduceLE, Int.reduceLT, Int.reducePow, GOB, CX_FnChains, lawPost, instL_room, instL_nsv, nsv_length, instL_cip, cip_build, cipC_len z256 z16 z16, beq_self_eq_true, Bool.not_true]
    have f1 : ((o1.length : Int).tmod 16 != 0) = false := by rw [bne_eq_false_iff_eq, Int.tmod_eq_emod_of_nonneg (by omega)]; omega
    have f2 : decide ((o1.length : Int) ≤ (o9.length : Int)) = false := decide_eq_false (by omega)
    refine ⟨by decide, ?_⟩
    simp (config := { maxSteps := 2000000 }) only [CALL, ↓VC, VP, TT, Nat.reduceEqDiff, reduceCtorEq, Nat.reduceAdd, Nat.reduceSub, Nat.reduceLT, Nat.reduceMul, Nat.reducePow, Nat.reduceLeDiff, Int.reduceToNat, Int.reduceLE, Int.reduceLT, Int.reducePow, GOB, CX_FnChains, lawPost, instL_room, instL_nsv, nsv_length, instL_cip, cip_build, cipC_len z256 z16 z16, f1, f2, bne_self_eq_false, Bool.not_true]
    exact kMeet (ch_unp hc hm) (by kernel_rfl) ⟨[0], by simp [-List.reduceReplicate, LES, CX_FnChains]⟩
  · exact kMeet (ch_unp hc hm) (by kernel_rfl) ⟨[0], by simp [-List.reduceReplicate, LES, CX_FnChains]⟩
end Go.Proofs.YtahnjhppkgndiaaGreat

import Derived.Test.YtjakgjelnbpmnaaGreatEngE
import Derived.Test.YtjakgjelnbpmnaaGreatFieldM
import Derived.Test.YtjakgjelnbpmnaaGreatVcgJ
import Derived.Test.YtjakgjelnbpmnaaGreatVcgZV
/- The laws' own helpers over arrays of bytes, ciphers, networks. -/
set_option linter.unusedSimpArgs false
set_option linter.unusedVariables false
namespace Go.Proofs.YtjakgjelnbpmnaaGreat
open Go Go.Vc
set_option maxRecDepth 10000
set_option maxHeartbeats 4000000
theorem vPut_mid {pre mid post vs : List V} {o : Nat} (ho : o = pre.length) (hv : vs.length = mid.length) {k : List V → Prop} : vPut (pre ++ (mid ++ post)) o vs k = k (pre ++ (vs ++ post)) := by
  subst ho
  unfold vPut
  have e : splice (pre ++ (mid ++ post)) pre.length vs = pre ++ (vs ++ post) := by
    unfold splice
    rw [List.take_left, hv, ← List.append_assoc pre mid post, ← List.length_append, List.drop_left, List.append_assoc]
  rw [e]
  apply propext
  constructor
  · exact fun h => h.2
  · intro h; exact ⟨by simp only [List.length_append]; omega, h⟩
section
variable {f r : Int} {box A pl w : List UInt8} {kl : List V → Prop}
end
/-- A network's cells. -/
def netC (f : Int) (box A : List UInt8) (k r : Int) : List V := .c (.int .i64 f) :: (bs box ++ (bs A ++ [.c (.int .i64 k), .c (.int .i64 r)]))
theorem netC_len {f k r : Int} {box A : List UInt8} (hb : box.length = 256) (hA : A.length = 16) : (netC f box A k r).length = 275 := by simp [netC, bs_length, hb, hA]
section
variable {f kd r : Int} {box A w : List UInt8} {k : V → Prop} {kl : List V → Prop}
theorem net_field : vGet (netC f box A kd r) 0 k = k (.c (.int .i64 f)) := by unfold netC; rw [vGet_zero]
theorem net_box (hb : box.length = 256) : vSub (netC f box A kd r) 1 256 k = k (.a (bs box)) := by
  unfold netC; rw [show (1 : Nat) = 0 + 1 from rfl, vSub_succ, vSub_app0 (by rw [bs_length, hb])]
theorem net_mix (hb : box.length = 256) (hA : A.length = 16) : vSub (netC f box A kd r) 257 16 k = k (.a (bs A)) := by
  unfold netC
  rw [show (257 : Nat) = 256 + 1 from rfl, vSub_succ, vSub_appR (by rw [bs_length, hb]; exact Nat.le_refl _), bs_length, hb, vSub_app0 (by rw [bs_length, hA])]
theorem net_kind (hb : box.length = 256) (hA : A.length = 16) : vGet (netC f box A kd r) 273 k = k (.c (.int .i64 kd)) := by
  unfold netC
  rw [show (273 : Nat) = 272 + 1 from rfl, vGet_succ, vGet_appR (by rw [bs_length, hb]; omega), bs_length, hb, vGet_appR (by rw [bs_length, hA]; omega), bs_length, hA, vGet_zero]
theorem net_rd (hb : box.length = 256) (hA : A.length = 16) : vGet (netC f box A kd r) 274 k = k (.c (.int .i64 r)) := by
  unfold netC
  rw [show (274 : Nat) = 273 + 1 from rfl, vGet_succ, vGet_appR (by rw [bs_length, hb]; omega), bs_length, hb, vGet_appR (by rw [bs_length, hA]; omega), bs_length, hA, show 273 - 256 - 16 = 0 + 1 from rfl, vGet_succ, vGet_zero]
theorem net_all {n : Nat} (hb : box.length = 256) (hA : A.length = 16) (hn : n = 275) : vSub (netC f box A kd r) 0 n k = k (.a (netC f box A kd r)) := vSub_all (by rw [netC_len hb hA, hn])
theorem renL_net (σ : List Nat) : V.renL σ (netC f box A kd r) = netC f box A kd r := by simp [netC, V.renL, V.ren, renL_app, renL_bs]
theorem instL_net (sub : List (Nat × Nat)) (N : Nat) : V.instL sub N (netC f box A kd r) = netC f box A kd r := by simp [netC, V.instL, V.inst, instL_app, instL_bs]
theorem okL_net (N : Nat) : okL N (netC f box A kd r) := by simp [netC, okL, okV, okL_app, okL_bs]
theorem netw_field {x : Int} : vPut (netC f box A kd r) 0 [.c (.int .i64 x)] kl = kl (netC x box A kd r) := vPut_mid (pre := []) (mid := [.c (.int .i64 f)]) (vs := [.c (.int .i64 x)]) rfl rfl
theorem netw_kind {x : Int} (hb : box.length = 256) (hA : A.length = 16) : vPut (netC f box A kd r) 273 [.c (.int .i64 x)] kl = kl (netC f box A x r) := by
  have e : ∀ x : Int, netC f box A x r = (.c (.int .i64 f) :: (bs box ++ bs A)) ++ ([.c (.int .i64 x)] ++ [.c (.int .i64 r)]) := fun x => by simp [netC]
  rw [e, e]
  refine vPut_mid ?_ ?_
  · rw [List.length_cons, List.length_append, bs_length, bs_length, hb, hA]
  · rfl
theorem netw_rd {x : Int} (hb : box.length = 256) (hA : A.length = 16) : vPut (netC f box A kd r) 274 [.c (.int .i64 x)] kl = kl (netC f box A kd x) := by
  have e : ∀ x : Int, netC f box A kd x = (.c (.int .i64 f) :: (bs box ++ (bs A ++ [.c (.int .i64 kd)]))) ++ ([.c (.int .i64 x)] ++ []) := fun x => by simp [netC]
  rw [e, e]
  refine vPut_mid ?_ ?_
  · rw [List.length_cons, List.length_append, List.length_append, bs_length, bs_length, hb, hA]; rfl
  · rfl
theorem net_zero {r0 k0 : Int} : V.c (.int .i64 f) :: (bs (List.replicate 256 0) ++ (bs (List.replicate 16 0) ++ (.c (.int .i64 k0) :: (.c (.int .i64 r0) :: [])))) = netC f (List.replicate 256 0) (List.replicate 16 0) k0 r0 := rfl
end
end Go.Proofs.YtjakgjelnbpmnaaGreat
/- FnSlides: the context of its sections. -/
set_option linter.unusedSimpArgs false
set_option linter.unusedVariables false
namespace Go.Proofs.YtjakgjelnbpmnaaGreat
open Go Go.Vc
set_option maxRecDepth 10000
set_option maxHeartbeats 40000000
noncomputable def cx_FnSlides : Cx := XX (fun | 14 => .one 0 (.one 1 (.one 2 (.one 3 (.one 4 (.one 5 (.one 6 (.one 7 (.one 8 (.one 9 (.one 10 (.one 11 .nil))))))))))) | 17 => .one 0 (.one 1 (.one 2 (.one 3 (.one 4 (.one 5 (.one 6 (.one 7 (.one 8 (.one 9 (.one 10 (.one 11 (.one 12 .nil)))))))))))) | 18 => .one 0 (.one 1 (.one 2 (.one 3 (.one 4 (.one 5 (.one 6 (.one 7 (.one 8 (.one 9 (.one 10 (.one 11 (.one 12 .nil)))))))))))) | 23 => .one 0 (.one 1 (.one 2 (.one 3 (.one 5 (.one 6 (.one 7 (.one 8 (.one 4 (.one 9 (.one 10 .nil)))))))))) | 43 => .one 0 (.one 2 (.one 1 (.one 3 (.one 4 (.one 5 (.one 6 (.one 9 (.one 7 (.one 8 (.one 10 (.one 11 (.one 12 (.one 13 (.one 15 (.one 14 (.one 16 (.one 17 (.one 18 (.one 19 (.one 20 (.one 23 (.one 21 (.one 22 (.one 24 (.one 25 (.one 26 .nil)))))))))))))))))))))))))) | 1000017 => .cut .nil | 1000022 => .cut .nil | 1000025 => .cut .nil | 1000030 => .cut .nil | 1000033 => .cut .nil | 1000036 => .cut .nil | 1000039 => .cut .nil | 1000041 => .cut .nil | _ => .nil) (fun | 17 => [(10, 14)] | 18 => [(10, 16)] | _ => []) [33, 34, 35, 36, 39, 45, 53, 54, 65, 75, 90, 91, 92, 104] 1
theorem cx_FnSlides_E : cx_FnSlides.E = E := rfl
theorem cx_FnSlides_P : cx_FnSlides.P = Tryz.prog := rfl
theorem cx_FnSlides_mu : cx_FnSlides.mu = [33, 34, 35, 36, 39, 45, 53, 54, 65, 75, 90, 91, 92, 104] := rfl
theorem cx_FnSlides_m : cx_FnSlides.m = 1 := rfl
theorem cx_FnSlides_ord14 : cx_FnSlides.ord 14 = .one 0 (.one 1 (.one 2 (.one 3 (.one 4 (.one 5 (.one 6 (.one 7 (.one 8 (.one 9 (.one 10 (.one 11 .nil))))))))))) := rfl
theorem cx_FnSlides_ord17 : cx_FnSlides.ord 17 = .one 0 (.one 1 (.one 2 (.one 3 (.one 4 (.one 5 (.one 6 (.one 7 (.one 8 (.one 9 (.one 10 (.one 11 (.one 12 .nil)))))))))))) := rfl
theorem cx_FnSlides_ord18 : cx_FnSlides.ord 18 = .one 0 (.one 1 (.one 2 (.one 3 (.one 4 (.one 5 (.one 6 (.one 7 (.one 8 (.one 9 (.one 10 (.one 11 (.one 12 .nil)))))))))))) := rfl
theorem cx_FnSlides_ord23 : cx_FnSlides.ord 23 = .one 0 (.one 1 (.one 2 (.one 3 (.one 5 (.one 6 (.one 7 (.one 8 (.one 4 (.one 9 (.one 10 .nil)))))))))) := rfl
theorem cx_FnSlides_ord43 : cx_FnSlides.ord 43 = .one 0 (.one 2 (.one 1 (.one 3 (.one 4 (.one 5 (.one 6 (.one 9 (.one 7 (.one 8 (.one 10 (.one 11 (.one 12 (.one 13 (.one 15 (.one 14 (.one 16 (.one 17 (.one 18 (.one 19 (.one 20 (.one 23 (.one 21 (.one 22 (.one 24 (.one 25 (.one 26 .nil)))))))))))))))))))))))))) := rfl
theorem cx_FnSlides_ord1000017 : cx_FnSlides.ord 1000017 = .cut .nil := rfl
theorem cx_FnSlides_ord1000022 : cx_FnSlides.ord 1000022 = .cut .nil := rfl
theorem cx_FnSlides_ord1000025 : cx_FnSlides.ord 1000025 = .cut .nil := rfl
theorem cx_FnSlides_ord1000030 : cx_FnSlides.ord 1000030 = .cut .nil := rfl
theorem cx_FnSlides_ord1000033 : cx_FnSlides.ord 1000033 = .cut .nil := rfl
theorem cx_FnSlides_ord1000036 : cx_FnSlides.ord 1000036 = .cut .nil := rfl
theorem cx_FnSlides_ord1000039 : cx_FnSlides.ord 1000039 = .cut .nil := rfl
theorem cx_FnSlides_ord1000041 : cx_FnSlides.ord 1000041 = .cut .nil := rfl
theorem cx_FnSlides_flt17 : cx_FnSlides.flt 17 = [(10, 14)] := rfl
theorem cx_FnSlides_flt18 : cx_FnSlides.flt 18 = [(10, 16)] := rfl
theorem cx_FnSlides_flt14 : cx_FnSlides.flt 14 = [] := rfl
theorem cx_FnSlides_flt23 : cx_FnSlides.flt 23 = [] := rfl
theorem cx_FnSlides_flt43 : cx_FnSlides.flt 43 = [] := rfl
theorem cx_FnSlides_flt1000017 : cx_FnSlides.flt 1000017 = [] := rfl
theorem cx_FnSlides_flt1000022 : cx_FnSlides.flt 1000022 = [] := rfl
theorem cx_FnSlides_flt1000025 : cx_FnSlides.flt 1000025 = [] := rfl
theorem cx_FnSlides_flt1000030 : cx_FnSlides.flt 1000030 = [] := rfl
theorem cx_FnSlides_flt1000033 : cx_FnSlides.flt 1000033 = [] := rfl
theorem cx_FnSlides_flt1000036 : cx_FnSlides.flt 1000036 = [] := rfl
theorem cx_FnSlides_flt1000039 : cx_FnSlides.flt 1000039 = [] := rfl
theorem cx_FnSlides_flt1000041 : cx_FnSlides.flt 1000041 = [] := rfl
theorem CX_FnSlides : type_of% (
  And.intro @cx_FnSlides_E <|
  And.intro @cx_FnSlides_P <|
  And.intro @cx_FnSlides_mu <|
  And.intro @cx_FnSlides_m <|
  And.intro @cx_FnSlides_ord14 <|
  And.intro @cx_FnSlides_ord17 <|
  And.intro @cx_FnSlides_ord18 <|
  And.intro @cx_FnSlides_ord23 <|
  And.intro @cx_FnSlides_ord43 <|
  And.intro @cx_FnSlides_ord1000017 <|
  And.intro @cx_FnSlides_ord1000022 <|
  And.intro @cx_FnSlides_ord1000025 <|
  And.intro @cx_FnSlides_ord1000030 <|
  And.intro @cx_FnSlides_ord1000033 <|
  And.intro @cx_FnSlides_ord1000036 <|
  And.intro @cx_FnSlides_ord1000039 <|
  And.intro @cx_FnSlides_ord1000041 <|
  And.intro @cx_FnSlides_flt17 <|
  And.intro @cx_FnSlides_flt18 <|
  And.intro @cx_FnSlides_flt14 <|
  And.intro @cx_FnSlides_flt23 <|
  And.intro @cx_FnSlides_flt43 <|
  And.intro @cx_FnSlides_flt1000017 <|
  And.intro @cx_FnSlides_flt1000022 <|
  And.intro @cx_FnSlides_flt1000025 <|
  And.intro @cx_FnSlides_flt1000030 <|
  And.intro @cx_FnSlides_flt1000033 <|
  And.intro @cx_FnSlides_flt1000036 <|
  And.intro @cx_FnSlides_flt1000039 <|
  @cx_FnSlides_flt1000041) :=
  And.intro @cx_FnSlides_E <|
  And.intro @cx_FnSlides_P <|
  And.intro @cx_FnSlides_mu <|
  And.intro @cx_FnSlides_m <|
  And.intro @cx_FnSlides_ord14 <|
  And.intro @cx_FnSlides_ord17 <|
  And.intro @cx_FnSlides_ord18 <|
  And.intro @cx_FnSlides_ord23 <|
  And.intro @cx_FnSlides_ord43 <|
  And.intro @cx_FnSlides_ord1000017 <|
  And.intro @cx_FnSlides_ord1000022 <|
  And.intro @cx_FnSlides_ord1000025 <|
  And.intro @cx_FnSlides_ord1000030 <|
  And.intro @cx_FnSlides_ord1000033 <|
  And.intro @cx_FnSlides_ord1000036 <|
  And.intro @cx_FnSlides_ord1000039 <|
  And.intro @cx_FnSlides_ord1000041 <|
  And.intro @cx_FnSlides_flt17 <|
  And.intro @cx_FnSlides_flt18 <|
  And.intro @cx_FnSlides_flt14 <|
  And.intro @cx_FnSlides_flt23 <|
  And.intro @cx_FnSlides_flt43 <|
  And.intro @cx_FnSlides_flt1000017 <|
  And.intro @cx_FnSlides_flt1000022 <|
  And.intro @cx_FnSlides_flt1000025 <|
  And.intro @cx_FnSlides_flt1000030 <|
  And.intro @cx_FnSlides_flt1000033 <|
  And.intro @cx_FnSlides_flt1000036 <|
  And.intro @cx_FnSlides_flt1000039 <|
  @cx_FnSlides_flt1000041
end Go.Proofs.YtjakgjelnbpmnaaGreat

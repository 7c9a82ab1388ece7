import Derived.Test.YtjakgjelnbpmnaaEngE
import Derived.Test.YtjakgjelnbpmnaaFieldM
import Derived.Test.YtjakgjelnbpmnaaVcgJ
import Derived.Test.YtjakgjelnbpmnaaVcgZV
/- The laws' own helpers over arrays of bytes, ciphers, networks. -/
set_option linter.unusedSimpArgs false
set_option linter.unusedVariables false
namespace Go.Proofs.Ytjakgjelnbpmnaa
open Go Go.Vc
set_option maxRecDepth 10000
set_option maxHeartbeats 4000000
theorem fill_stepV {a : List UInt8} {i n : Nat} (h : i < n) (ha : i < a.length) : (a.take i ++ List.replicate (n - i) 0).set i (a.getD i 0) = a.take (i + 1) ++ List.replicate (n - (i + 1)) 0 := by
  have e : a.take (i + 1) = a.take i ++ [a.getD i 0] := by
    rw [List.take_add_one, List.getElem?_eq_getElem ha]
    simp only [Option.toList, List.getD, List.getElem?_eq_getElem ha, Option.getD_some]
  rw [show n - i = (n - (i + 1)) + 1 by omega, List.replicate_succ, List.set_append_right _ _ (by rw [List.length_take]; omega), List.length_take, Nat.min_eq_left (Nat.le_of_lt ha), Nat.sub_self, List.set_cons_zero, e, List.append_assoc]
  rfl
theorem splB_fillW {w : Nat} {D : List UInt8} {i n : Nat} (hD : D.length = w * n) (h : i < n) : splB (D.take (w * i) ++ List.replicate (w * (n - i)) 0) (i * w) ((D.drop (i * w)).take w) = D.take (w * (i + 1)) ++ List.replicate (w * (n - (i + 1))) 0 := by
  have e1 : w * n = w * i + w * (n - i) := by rw [← Nat.mul_add]; congr 1; omega
  have e2 : w * (n - i) = w + w * (n - (i + 1)) := by rw [show n - i = (n - (i + 1)) + 1 by omega, Nat.mul_succ]; omega
  have hl : (D.take (w * i)).length = w * i := by rw [List.length_take]; omega
  have hx : ((D.drop (i * w)).take w).length = w := by rw [List.length_take, List.length_drop, Nat.mul_comm i w]; omega
  rw [Nat.mul_comm i w] at hx ⊢
  have t1 : (D.take (w * i) ++ List.replicate (w * (n - i)) (0 : UInt8)).take (w * i) = D.take (w * i) := by rw [List.take_append_of_le_length (Nat.le_of_eq hl.symm), List.take_of_length_le (Nat.le_of_eq hl)]
  have t2 : (D.take (w * i) ++ List.replicate (w * (n - i)) (0 : UInt8)).drop (w * i + w) = List.replicate (w * (n - (i + 1))) 0 := by
    rw [List.drop_append, List.drop_eq_nil_of_le (by rw [hl]; omega), hl, List.drop_replicate, List.nil_append]; congr 1; omega
  unfold splB
  rw [hx, t1, t2, Nat.mul_succ, List.take_add]
theorem vPut_mid {pre mid post vs : List V} {o : Nat} (ho : o = pre.length) (hv : vs.length = mid.length) {k : List V → Prop} : vPut (pre ++ (mid ++ post)) o vs k = k (pre ++ (vs ++ post)) := by
  subst ho
  unfold vPut
  have e : splice (pre ++ (mid ++ post)) pre.length vs = pre ++ (vs ++ post) := by
    unfold splice
    rw [List.take_left, hv, ← List.append_assoc pre mid post, ← List.length_append, List.drop_left, List.append_assoc]
  rw [e]
  apply propext
  constructor
  · exact fun h => h.2
  · intro h; exact ⟨by simp only [List.length_append]; omega, h⟩
section
variable {f r : Int} {box A pl w : List UInt8} {kl : List V → Prop}
theorem cipw_field {x : Int} : vPut (cipC f box A pl r) 0 [.c (.int .i64 x)] kl = kl (cipC x box A pl r) := vPut_mid (pre := []) (mid := [.c (.int .i64 f)]) (vs := [.c (.int .i64 x)]) rfl rfl
theorem cipw_box (hb : box.length = 256) (hw : w.length = 256) : vPut (cipC f box A pl r) 1 (bs w) kl = kl (cipC f w A pl r) := vPut_mid (pre := [.c (.int .i64 f)]) (mid := bs box) rfl (by rw [bs_length, bs_length, hb, hw])
theorem cipw_mix (hb : box.length = 256) (hA : A.length = 16) (hw : w.length = 16) : vPut (cipC f box A pl r) 257 (bs w) kl = kl (cipC f box w pl r) := vPut_mid (pre := .c (.int .i64 f) :: bs box) (mid := bs A) (by rw [List.length_cons, bs_length, hb]) (by rw [bs_length, bs_length, hA, hw])
theorem cipw_pl (hb : box.length = 256) (hA : A.length = 16) (hp : pl.length = 16) (hw : w.length = 16) : vPut (cipC f box A pl r) 273 (bs w) kl = kl (cipC f box A w r) := by
  have e : ∀ x : List UInt8, cipC f box A x r = (.c (.int .i64 f) :: (bs box ++ bs A)) ++ (bs x ++ [.c (.int .i64 r)]) := fun x => by simp [cipC]
  rw [e, e]
  refine vPut_mid ?_ ?_
  · rw [List.length_cons, List.length_append, bs_length, bs_length, hb, hA]
  · rw [bs_length, bs_length, hp, hw]
theorem cipw_rd {x : Int} (hb : box.length = 256) (hA : A.length = 16) (hp : pl.length = 16) : vPut (cipC f box A pl r) 289 [.c (.int .i64 x)] kl = kl (cipC f box A pl x) := by
  have e : ∀ x : Int, cipC f box A pl x = (.c (.int .i64 f) :: (bs box ++ (bs A ++ bs pl))) ++ ([.c (.int .i64 x)] ++ []) := fun x => by simp [cipC]
  rw [e, e]
  refine vPut_mid ?_ ?_
  · rw [List.length_cons, List.length_append, List.length_append, bs_length, bs_length, bs_length, hb, hA, hp]
  · rfl
theorem cip_zero {r0 : Int} : V.c (.int .i64 f) :: (bs (List.replicate 256 0) ++ (bs (List.replicate 16 0) ++ (bs (List.replicate 16 0) ++ [.c (.int .i64 r0)]))) = cipC f (List.replicate 256 0) (List.replicate 16 0) (List.replicate 16 0) r0 := rfl
theorem zl256 : (List.replicate 256 (0 : UInt8)).length = 256 := List.length_replicate
theorem zl16 : (List.replicate 16 (0 : UInt8)).length = 16 := List.length_replicate
end
/-- A network's cells. -/
def netC (f : Int) (box A : List UInt8) (k r : Int) : List V := .c (.int .i64 f) :: (bs box ++ (bs A ++ [.c (.int .i64 k), .c (.int .i64 r)]))
theorem netC_len {f k r : Int} {box A : List UInt8} (hb : box.length = 256) (hA : A.length = 16) : (netC f box A k r).length = 275 := by simp [netC, bs_length, hb, hA]
section
variable {f kd r : Int} {box A w : List UInt8} {k : V → Prop} {kl : List V → Prop}
theorem net_field : vGet (netC f box A kd r) 0 k = k (.c (.int .i64 f)) := by unfold netC; rw [vGet_zero]
theorem net_box (hb : box.length = 256) : vSub (netC f box A kd r) 1 256 k = k (.a (bs box)) := by
  unfold netC; rw [show (1 : Nat) = 0 + 1 from rfl, vSub_succ, vSub_app0 (by rw [bs_length, hb])]
theorem net_mix (hb : box.length = 256) (hA : A.length = 16) : vSub (netC f box A kd r) 257 16 k = k (.a (bs A)) := by
  unfold netC
  rw [show (257 : Nat) = 256 + 1 from rfl, vSub_succ, vSub_appR (by rw [bs_length, hb]; exact Nat.le_refl _), bs_length, hb, vSub_app0 (by rw [bs_length, hA])]
theorem net_kind (hb : box.length = 256) (hA : A.length = 16) : vGet (netC f box A kd r) 273 k = k (.c (.int .i64 kd)) := by
  unfold netC
  rw [show (273 : Nat) = 272 + 1 from rfl, vGet_succ, vGet_appR (by rw [bs_length, hb]; omega), bs_length, hb, vGet_appR (by rw [bs_length, hA]; omega), bs_length, hA, vGet_zero]
theorem net_rd (hb : box.length = 256) (hA : A.length = 16) : vGet (netC f box A kd r) 274 k = k (.c (.int .i64 r)) := by
  unfold netC
  rw [show (274 : Nat) = 273 + 1 from rfl, vGet_succ, vGet_appR (by rw [bs_length, hb]; omega), bs_length, hb, vGet_appR (by rw [bs_length, hA]; omega), bs_length, hA, show 273 - 256 - 16 = 0 + 1 from rfl, vGet_succ, vGet_zero]
theorem net_all {n : Nat} (hb : box.length = 256) (hA : A.length = 16) (hn : n = 275) : vSub (netC f box A kd r) 0 n k = k (.a (netC f box A kd r)) := vSub_all (by rw [netC_len hb hA, hn])
theorem renL_net (σ : List Nat) : V.renL σ (netC f box A kd r) = netC f box A kd r := by simp [netC, V.renL, V.ren, renL_app, renL_bs]
theorem instL_net (sub : List (Nat × Nat)) (N : Nat) : V.instL sub N (netC f box A kd r) = netC f box A kd r := by simp [netC, V.instL, V.inst, instL_app, instL_bs]
theorem okL_net (N : Nat) : okL N (netC f box A kd r) := by simp [netC, okL, okV, okL_app, okL_bs]
theorem netw_field {x : Int} : vPut (netC f box A kd r) 0 [.c (.int .i64 x)] kl = kl (netC x box A kd r) := vPut_mid (pre := []) (mid := [.c (.int .i64 f)]) (vs := [.c (.int .i64 x)]) rfl rfl
theorem netw_box (hb : box.length = 256) (hw : w.length = 256) : vPut (netC f box A kd r) 1 (bs w) kl = kl (netC f w A kd r) := vPut_mid (pre := [.c (.int .i64 f)]) (mid := bs box) rfl (by rw [bs_length, bs_length, hb, hw])
theorem netw_mix (hb : box.length = 256) (hA : A.length = 16) (hw : w.length = 16) : vPut (netC f box A kd r) 257 (bs w) kl = kl (netC f box w kd r) := vPut_mid (pre := .c (.int .i64 f) :: bs box) (mid := bs A) (by rw [List.length_cons, bs_length, hb]) (by rw [bs_length, bs_length, hA, hw])
theorem netw_kind {x : Int} (hb : box.length = 256) (hA : A.length = 16) : vPut (netC f box A kd r) 273 [.c (.int .i64 x)] kl = kl (netC f box A x r) := by
  have e : ∀ x : Int, netC f box A x r = (.c (.int .i64 f) :: (bs box ++ bs A)) ++ ([.c (.int .i64 x)] ++ [.c (.int .i64 r)]) := fun x => by simp [netC]
  rw [e, e]
  refine vPut_mid ?_ ?_
  · rw [List.length_cons, List.length_append, bs_length, bs_length, hb, hA]
  · rfl
theorem netw_rd {x : Int} (hb : box.length = 256) (hA : A.length = 16) : vPut (netC f box A kd r) 274 [.c (.int .i64 x)] kl = kl (netC f box A kd x) := by
  have e : ∀ x : Int, netC f box A kd x = (.c (.int .i64 f) :: (bs box ++ (bs A ++ [.c (.int .i64 kd)]))) ++ ([.c (.int .i64 x)] ++ []) := fun x => by simp [netC]
  rw [e, e]
  refine vPut_mid ?_ ?_
  · rw [List.length_cons, List.length_append, List.length_append, bs_length, bs_length, hb, hA]; rfl
  · rfl
theorem net_zero {r0 k0 : Int} : V.c (.int .i64 f) :: (bs (List.replicate 256 0) ++ (bs (List.replicate 16 0) ++ (.c (.int .i64 k0) :: (.c (.int .i64 r0) :: [])))) = netC f (List.replicate 256 0) (List.replicate 16 0) k0 r0 := rfl
end
end Go.Proofs.Ytjakgjelnbpmnaa
/- FnNetworks: the context of its sections. -/
set_option linter.unusedSimpArgs false
set_option linter.unusedVariables false
namespace Go.Proofs.Ytjakgjelnbpmnaa
open Go Go.Vc
set_option maxRecDepth 10000
set_option maxHeartbeats 40000000
noncomputable def cx_FnNetworks : Cx := XX (fun | 8 => .one 0 (.one 1 (.one 2 (.one 3 (.one 4 (.one 5 (.one 6 (.one 7 (.one 8 (.one 9 (.one 10 (.one 11 (.one 12 (.one 13 (.one 14 (.one 15 (.one 16 (.one 17 (.one 18 (.one 19 (.one 21 (.one 20 (.one 22 (.one 23 (.one 24 .nil)))))))))))))))))))))))) | 16 => .one 0 (.one 1 (.one 2 (.one 3 (.one 4 (.one 5 (.one 6 (.one 7 (.one 8 (.one 9 (.one 10 .nil)))))))))) | 17 => .one 0 (.one 1 (.one 2 (.one 3 (.one 4 (.one 5 (.one 6 (.one 7 (.one 9 (.one 8 (.one 10 (.one 11 .nil))))))))))) | 29 => .one 0 (.one 1 (.one 2 (.one 3 (.one 4 (.one 5 (.one 6 (.one 7 (.one 8 (.one 9 (.one 10 .nil)))))))))) | 30 => .one 0 (.one 1 (.one 2 (.one 3 (.one 4 (.one 5 (.one 6 (.one 7 .nil))))))) | 1000010 => .cut .nil | 1000014 => .cut .nil | 1000019 => .cut .nil | 1000029 => .cut .nil | 1000032 => .cut .nil | 1000037 => .cut .nil | 1000043 => .cut .nil | 1000048 => .cut .nil | _ => .nil) (fun | 16 => [(8, 18)] | 29 => [(8, 24)] | _ => []) [27, 28, 29, 44, 47, 52, 53, 54, 55, 74, 78, 88, 89, 99] 1
theorem cx_FnNetworks_E : cx_FnNetworks.E = E := rfl
theorem cx_FnNetworks_P : cx_FnNetworks.P = Try.prog := rfl
theorem cx_FnNetworks_mu : cx_FnNetworks.mu = [27, 28, 29, 44, 47, 52, 53, 54, 55, 74, 78, 88, 89, 99] := rfl
theorem cx_FnNetworks_m : cx_FnNetworks.m = 1 := rfl
theorem cx_FnNetworks_ord8 : cx_FnNetworks.ord 8 = .one 0 (.one 1 (.one 2 (.one 3 (.one 4 (.one 5 (.one 6 (.one 7 (.one 8 (.one 9 (.one 10 (.one 11 (.one 12 (.one 13 (.one 14 (.one 15 (.one 16 (.one 17 (.one 18 (.one 19 (.one 21 (.one 20 (.one 22 (.one 23 (.one 24 .nil)))))))))))))))))))))))) := rfl
theorem cx_FnNetworks_ord16 : cx_FnNetworks.ord 16 = .one 0 (.one 1 (.one 2 (.one 3 (.one 4 (.one 5 (.one 6 (.one 7 (.one 8 (.one 9 (.one 10 .nil)))))))))) := rfl
theorem cx_FnNetworks_ord17 : cx_FnNetworks.ord 17 = .one 0 (.one 1 (.one 2 (.one 3 (.one 4 (.one 5 (.one 6 (.one 7 (.one 9 (.one 8 (.one 10 (.one 11 .nil))))))))))) := rfl
theorem cx_FnNetworks_ord29 : cx_FnNetworks.ord 29 = .one 0 (.one 1 (.one 2 (.one 3 (.one 4 (.one 5 (.one 6 (.one 7 (.one 8 (.one 9 (.one 10 .nil)))))))))) := rfl
theorem cx_FnNetworks_ord30 : cx_FnNetworks.ord 30 = .one 0 (.one 1 (.one 2 (.one 3 (.one 4 (.one 5 (.one 6 (.one 7 .nil))))))) := rfl
theorem cx_FnNetworks_ord1000010 : cx_FnNetworks.ord 1000010 = .cut .nil := rfl
theorem cx_FnNetworks_ord1000014 : cx_FnNetworks.ord 1000014 = .cut .nil := rfl
theorem cx_FnNetworks_ord1000019 : cx_FnNetworks.ord 1000019 = .cut .nil := rfl
theorem cx_FnNetworks_ord1000029 : cx_FnNetworks.ord 1000029 = .cut .nil := rfl
theorem cx_FnNetworks_ord1000032 : cx_FnNetworks.ord 1000032 = .cut .nil := rfl
theorem cx_FnNetworks_ord1000037 : cx_FnNetworks.ord 1000037 = .cut .nil := rfl
theorem cx_FnNetworks_ord1000043 : cx_FnNetworks.ord 1000043 = .cut .nil := rfl
theorem cx_FnNetworks_ord1000048 : cx_FnNetworks.ord 1000048 = .cut .nil := rfl
theorem cx_FnNetworks_flt16 : cx_FnNetworks.flt 16 = [(8, 18)] := rfl
theorem cx_FnNetworks_flt29 : cx_FnNetworks.flt 29 = [(8, 24)] := rfl
theorem cx_FnNetworks_flt8 : cx_FnNetworks.flt 8 = [] := rfl
theorem cx_FnNetworks_flt17 : cx_FnNetworks.flt 17 = [] := rfl
theorem cx_FnNetworks_flt30 : cx_FnNetworks.flt 30 = [] := rfl
theorem cx_FnNetworks_flt1000010 : cx_FnNetworks.flt 1000010 = [] := rfl
theorem cx_FnNetworks_flt1000014 : cx_FnNetworks.flt 1000014 = [] := rfl
theorem cx_FnNetworks_flt1000019 : cx_FnNetworks.flt 1000019 = [] := rfl
theorem cx_FnNetworks_flt1000029 : cx_FnNetworks.flt 1000029 = [] := rfl
theorem cx_FnNetworks_flt1000032 : cx_FnNetworks.flt 1000032 = [] := rfl
theorem cx_FnNetworks_flt1000037 : cx_FnNetworks.flt 1000037 = [] := rfl
theorem cx_FnNetworks_flt1000043 : cx_FnNetworks.flt 1000043 = [] := rfl
theorem cx_FnNetworks_flt1000048 : cx_FnNetworks.flt 1000048 = [] := rfl
theorem CX_FnNetworks : type_of% (
  And.intro @cx_FnNetworks_E <|
  And.intro @cx_FnNetworks_P <|
  And.intro @cx_FnNetworks_mu <|
  And.intro @cx_FnNetworks_m <|
  And.intro @cx_FnNetworks_ord8 <|
  And.intro @cx_FnNetworks_ord16 <|
  And.intro @cx_FnNetworks_ord17 <|
  And.intro @cx_FnNetworks_ord29 <|
  And.intro @cx_FnNetworks_ord30 <|
  And.intro @cx_FnNetworks_ord1000010 <|
  And.intro @cx_FnNetworks_ord1000014 <|
  And.intro @cx_FnNetworks_ord1000019 <|
  And.intro @cx_FnNetworks_ord1000029 <|
  And.intro @cx_FnNetworks_ord1000032 <|
  And.intro @cx_FnNetworks_ord1000037 <|
  And.intro @cx_FnNetworks_ord1000043 <|
  And.intro @cx_FnNetworks_ord1000048 <|
  And.intro @cx_FnNetworks_flt16 <|
  And.intro @cx_FnNetworks_flt29 <|
  And.intro @cx_FnNetworks_flt8 <|
  And.intro @cx_FnNetworks_flt17 <|
  And.intro @cx_FnNetworks_flt30 <|
  And.intro @cx_FnNetworks_flt1000010 <|
  And.intro @cx_FnNetworks_flt1000014 <|
  And.intro @cx_FnNetworks_flt1000019 <|
  And.intro @cx_FnNetworks_flt1000029 <|
  And.intro @cx_FnNetworks_flt1000032 <|
  And.intro @cx_FnNetworks_flt1000037 <|
  And.intro @cx_FnNetworks_flt1000043 <|
  @cx_FnNetworks_flt1000048) :=
  And.intro @cx_FnNetworks_E <|
  And.intro @cx_FnNetworks_P <|
  And.intro @cx_FnNetworks_mu <|
  And.intro @cx_FnNetworks_m <|
  And.intro @cx_FnNetworks_ord8 <|
  And.intro @cx_FnNetworks_ord16 <|
  And.intro @cx_FnNetworks_ord17 <|
  And.intro @cx_FnNetworks_ord29 <|
  And.intro @cx_FnNetworks_ord30 <|
  And.intro @cx_FnNetworks_ord1000010 <|
  And.intro @cx_FnNetworks_ord1000014 <|
  And.intro @cx_FnNetworks_ord1000019 <|
  And.intro @cx_FnNetworks_ord1000029 <|
  And.intro @cx_FnNetworks_ord1000032 <|
  And.intro @cx_FnNetworks_ord1000037 <|
  And.intro @cx_FnNetworks_ord1000043 <|
  And.intro @cx_FnNetworks_ord1000048 <|
  And.intro @cx_FnNetworks_flt16 <|
  And.intro @cx_FnNetworks_flt29 <|
  And.intro @cx_FnNetworks_flt8 <|
  And.intro @cx_FnNetworks_flt17 <|
  And.intro @cx_FnNetworks_flt30 <|
  And.intro @cx_FnNetworks_flt1000010 <|
  And.intro @cx_FnNetworks_flt1000014 <|
  And.intro @cx_FnNetworks_flt1000019 <|
  And.intro @cx_FnNetworks_flt1000029 <|
  And.intro @cx_FnNetworks_flt1000032 <|
  And.intro @cx_FnNetworks_flt1000037 <|
  And.intro @cx_FnNetworks_flt1000043 <|
  @cx_FnNetworks_flt1000048
end Go.Proofs.Ytjakgjelnbpmnaa

/- The types of this seat as my verification conditions see them: underlying type, size, bytes, zero cells; each checked against the program's own table. -/
import Derived.Test.YtigpggcjehnefaaVcgQ
import Derived.Test.YtigpggcjehnefaaChecked
set_option linter.unusedSimpArgs false
set_option linter.unusedVariables false
namespace Go.Proofs.Ytigpggcjehnefaa
open Go Go.Vc
def T2 : TD := ⟨TypeDesc.int IntKind.i64, 1, 8, [.c (.int .i64 0)], false⟩
def T3 : TD := ⟨TypeDesc.int IntKind.i64, 1, 8, [.c (.int .i64 0)], false⟩
def T4 : TD := ⟨TypeDesc.bool, 1, 1, [.c (.bool false)], false⟩
def T5 : TD := ⟨TypeDesc.int IntKind.u8, 1, 1, [.c (.int .u8 0)], false⟩
def T9 : TD := ⟨TypeDesc.string, 1, 16, [.c (.string ⟨#[]⟩)], false⟩
def T12 : TD := ⟨TypeDesc.int IntKind.u64, 1, 8, [.c (.int .u64 0)], false⟩
def T13 : TD := ⟨TypeDesc.struct #[{ name := "msg", type := 9, offset := 0, embedded := false, tag := "", pkgPath := "runtime", byteOffset := 0 }, { name := "addr", type := 12, offset := 1, embedded := false, tag := "", pkgPath := "runtime", byteOffset := 16 }], 2, 24, [.c (.string ⟨#[]⟩), .c (.int .u64 0)], false⟩
def T21 : TD := ⟨TypeDesc.int IntKind.i32, 1, 4, [.c (.int .i32 0)], false⟩
def T22 : TD := ⟨TypeDesc.array 32 5, 32, 32, List.replicate 32 (.c (.int .u8 0)), false⟩
def T23 : TD := ⟨TypeDesc.array 32 5, 32, 32, List.replicate 32 (.c (.int .u8 0)), false⟩
def T33 : TD := ⟨TypeDesc.slice 5, 1, 24, [.c (.slice none 0 0)], false⟩
def T53 : TD := ⟨TypeDesc.int IntKind.u64, 1, 8, [.c (.int .u64 0)], false⟩
def T65 : TD := ⟨TypeDesc.int IntKind.u32, 1, 4, [.c (.int .u32 0)], false⟩
def E : Env := fun t => match t with
  | 2 => some T2
  | 3 => some T3
  | 4 => some T4
  | 5 => some T5
  | 9 => some T9
  | 12 => some T12
  | 13 => some T13
  | 21 => some T21
  | 22 => some T22
  | 23 => some T23
  | 33 => some T33
  | 53 => some T53
  | 65 => some T65
  | _ => none
theorem i2 : ∃ i z, Try.prog.info? 2 = some i ∧ i.size = T2.size ∧ i.bytes = T2.bytes ∧ i.zero = some z ∧ z.cells.toList.map V.c = T2.zero ∧ (∀ c ∈ z.cells.toList, c.oneCell' = true) ∧ T2.zero.length = T2.size := ⟨Try.t2, _, by kernel_rfl, by kernel_rfl, by kernel_rfl, rfl, by kernel_rfl, List.all_eq_true.1 (by kernel_rfl), by kernel_rfl⟩
theorem i3 : ∃ i z, Try.prog.info? 3 = some i ∧ i.size = T3.size ∧ i.bytes = T3.bytes ∧ i.zero = some z ∧ z.cells.toList.map V.c = T3.zero ∧ (∀ c ∈ z.cells.toList, c.oneCell' = true) ∧ T3.zero.length = T3.size := ⟨Try.t3, _, by kernel_rfl, by kernel_rfl, by kernel_rfl, rfl, by kernel_rfl, List.all_eq_true.1 (by kernel_rfl), by kernel_rfl⟩
theorem i4 : ∃ i z, Try.prog.info? 4 = some i ∧ i.size = T4.size ∧ i.bytes = T4.bytes ∧ i.zero = some z ∧ z.cells.toList.map V.c = T4.zero ∧ (∀ c ∈ z.cells.toList, c.oneCell' = true) ∧ T4.zero.length = T4.size := ⟨Try.t4, _, by kernel_rfl, by kernel_rfl, by kernel_rfl, rfl, by kernel_rfl, List.all_eq_true.1 (by kernel_rfl), by kernel_rfl⟩
theorem i5 : ∃ i z, Try.prog.info? 5 = some i ∧ i.size = T5.size ∧ i.bytes = T5.bytes ∧ i.zero = some z ∧ z.cells.toList.map V.c = T5.zero ∧ (∀ c ∈ z.cells.toList, c.oneCell' = true) ∧ T5.zero.length = T5.size := ⟨Try.t5, _, by kernel_rfl, by kernel_rfl, by kernel_rfl, rfl, by kernel_rfl, List.all_eq_true.1 (by kernel_rfl), by kernel_rfl⟩
theorem i9 : ∃ i z, Try.prog.info? 9 = some i ∧ i.size = T9.size ∧ i.bytes = T9.bytes ∧ i.zero = some z ∧ z.cells.toList.map V.c = T9.zero ∧ (∀ c ∈ z.cells.toList, c.oneCell' = true) ∧ T9.zero.length = T9.size := ⟨Try.t9, _, by kernel_rfl, by kernel_rfl, by kernel_rfl, rfl, by kernel_rfl, List.all_eq_true.1 (by kernel_rfl), by kernel_rfl⟩
theorem i12 : ∃ i z, Try.prog.info? 12 = some i ∧ i.size = T12.size ∧ i.bytes = T12.bytes ∧ i.zero = some z ∧ z.cells.toList.map V.c = T12.zero ∧ (∀ c ∈ z.cells.toList, c.oneCell' = true) ∧ T12.zero.length = T12.size := ⟨Try.t12, _, by kernel_rfl, by kernel_rfl, by kernel_rfl, rfl, by kernel_rfl, List.all_eq_true.1 (by kernel_rfl), by kernel_rfl⟩
theorem i13 : ∃ i z, Try.prog.info? 13 = some i ∧ i.size = T13.size ∧ i.bytes = T13.bytes ∧ i.zero = some z ∧ z.cells.toList.map V.c = T13.zero ∧ (∀ c ∈ z.cells.toList, c.oneCell' = true) ∧ T13.zero.length = T13.size := ⟨Try.t13, _, by kernel_rfl, by kernel_rfl, by kernel_rfl, rfl, by kernel_rfl, List.all_eq_true.1 (by kernel_rfl), by kernel_rfl⟩
theorem i21 : ∃ i z, Try.prog.info? 21 = some i ∧ i.size = T21.size ∧ i.bytes = T21.bytes ∧ i.zero = some z ∧ z.cells.toList.map V.c = T21.zero ∧ (∀ c ∈ z.cells.toList, c.oneCell' = true) ∧ T21.zero.length = T21.size := ⟨Try.t21, _, by kernel_rfl, by kernel_rfl, by kernel_rfl, rfl, by kernel_rfl, List.all_eq_true.1 (by kernel_rfl), by kernel_rfl⟩
theorem i22 : ∃ i z, Try.prog.info? 22 = some i ∧ i.size = T22.size ∧ i.bytes = T22.bytes ∧ i.zero = some z ∧ z.cells.toList.map V.c = T22.zero ∧ (∀ c ∈ z.cells.toList, c.oneCell' = true) ∧ T22.zero.length = T22.size := ⟨Try.t22, _, by kernel_rfl, by kernel_rfl, by kernel_rfl, rfl, by kernel_rfl, List.all_eq_true.1 (by kernel_rfl), by kernel_rfl⟩
theorem i23 : ∃ i z, Try.prog.info? 23 = some i ∧ i.size = T23.size ∧ i.bytes = T23.bytes ∧ i.zero = some z ∧ z.cells.toList.map V.c = T23.zero ∧ (∀ c ∈ z.cells.toList, c.oneCell' = true) ∧ T23.zero.length = T23.size := ⟨Try.t23, _, by kernel_rfl, by kernel_rfl, by kernel_rfl, rfl, by kernel_rfl, List.all_eq_true.1 (by kernel_rfl), by kernel_rfl⟩
theorem i33 : ∃ i z, Try.prog.info? 33 = some i ∧ i.size = T33.size ∧ i.bytes = T33.bytes ∧ i.zero = some z ∧ z.cells.toList.map V.c = T33.zero ∧ (∀ c ∈ z.cells.toList, c.oneCell' = true) ∧ T33.zero.length = T33.size := ⟨Try.t33, _, by kernel_rfl, by kernel_rfl, by kernel_rfl, rfl, by kernel_rfl, List.all_eq_true.1 (by kernel_rfl), by kernel_rfl⟩
theorem i53 : ∃ i z, Try.prog.info? 53 = some i ∧ i.size = T53.size ∧ i.bytes = T53.bytes ∧ i.zero = some z ∧ z.cells.toList.map V.c = T53.zero ∧ (∀ c ∈ z.cells.toList, c.oneCell' = true) ∧ T53.zero.length = T53.size := ⟨Try.t53, _, by kernel_rfl, by kernel_rfl, by kernel_rfl, rfl, by kernel_rfl, List.all_eq_true.1 (by kernel_rfl), by kernel_rfl⟩
theorem i65 : ∃ i z, Try.prog.info? 65 = some i ∧ i.size = T65.size ∧ i.bytes = T65.bytes ∧ i.zero = some z ∧ z.cells.toList.map V.c = T65.zero ∧ (∀ c ∈ z.cells.toList, c.oneCell' = true) ∧ T65.zero.length = T65.size := ⟨Try.t65, _, by kernel_rfl, by kernel_rfl, by kernel_rfl, rfl, by kernel_rfl, List.all_eq_true.1 (by kernel_rfl), by kernel_rfl⟩
theorem envOK : EnvOK Try.prog E := by
  refine ⟨fun {t d} h => ?_, fun {t d} h => ?_, fun {t d} h => ?_, by kernel_rfl⟩
  · unfold E at h; split at h <;> first | (cases h; kernel_rfl) | cases h
  · unfold E at h; split at h <;> first | cases h | skip
    · exact i2
    · exact i3
    · exact i4
    · exact i5
    · exact i9
    · exact i12
    · exact i13
    · exact i21
    · exact i22
    · exact i23
    · exact i33
    · exact i53
    · exact i65
  · unfold E at h; split at h <;> first | (cases h; kernel_rfl) | cases h
theorem E2 : E 2 = some ⟨TypeDesc.int IntKind.i64, 1, 8, [.c (.int .i64 0)], false⟩ := rfl
theorem E3 : E 3 = some ⟨TypeDesc.int IntKind.i64, 1, 8, [.c (.int .i64 0)], false⟩ := rfl
theorem E4 : E 4 = some ⟨TypeDesc.bool, 1, 1, [.c (.bool false)], false⟩ := rfl
theorem E5 : E 5 = some ⟨TypeDesc.int IntKind.u8, 1, 1, [.c (.int .u8 0)], false⟩ := rfl
theorem E9 : E 9 = some ⟨TypeDesc.string, 1, 16, [.c (.string ⟨#[]⟩)], false⟩ := rfl
theorem E12 : E 12 = some ⟨TypeDesc.int IntKind.u64, 1, 8, [.c (.int .u64 0)], false⟩ := rfl
theorem E13 : E 13 = some ⟨TypeDesc.struct #[{ name := "msg", type := 9, offset := 0, embedded := false, tag := "", pkgPath := "runtime", byteOffset := 0 }, { name := "addr", type := 12, offset := 1, embedded := false, tag := "", pkgPath := "runtime", byteOffset := 16 }], 2, 24, [.c (.string ⟨#[]⟩), .c (.int .u64 0)], false⟩ := rfl
theorem E21 : E 21 = some ⟨TypeDesc.int IntKind.i32, 1, 4, [.c (.int .i32 0)], false⟩ := rfl
theorem E22 : E 22 = some ⟨TypeDesc.array 32 5, 32, 32, bs (List.replicate 32 0), false⟩ := by rw [← zeros_bs]; rfl
theorem E23 : E 23 = some ⟨TypeDesc.array 32 5, 32, 32, bs (List.replicate 32 0), false⟩ := by rw [← zeros_bs]; rfl
theorem E33 : E 33 = some ⟨TypeDesc.slice 5, 1, 24, [.c (.slice none 0 0)], false⟩ := rfl
theorem E53 : E 53 = some ⟨TypeDesc.int IntKind.u64, 1, 8, [.c (.int .u64 0)], false⟩ := rfl
theorem E65 : E 65 = some ⟨TypeDesc.int IntKind.u32, 1, 4, [.c (.int .u32 0)], false⟩ := rfl
noncomputable def XX (ord : Nat → List Nat) (mu : List FuncId) (m : Nat) : Cx := ⟨E, Try.prog, ord, mu, m⟩
/-- The type facts, bundled. -/
theorem TT : type_of% (
  And.intro E2 <|
  And.intro E3 <|
  And.intro E4 <|
  And.intro E5 <|
  And.intro E9 <|
  And.intro E12 <|
  And.intro E13 <|
  And.intro E21 <|
  And.intro E22 <|
  And.intro E23 <|
  And.intro E33 <|
  And.intro E53 <|
  E65) :=
  And.intro E2 <|
  And.intro E3 <|
  And.intro E4 <|
  And.intro E5 <|
  And.intro E9 <|
  And.intro E12 <|
  And.intro E13 <|
  And.intro E21 <|
  And.intro E22 <|
  And.intro E23 <|
  And.intro E33 <|
  And.intro E53 <|
  E65
end Go.Proofs.Ytigpggcjehnefaa

import Derived.Test.YtjakgjelnbpmnaaVcgQ
import Derived.Test.YtjakgjelnbpmnaaChecked
/- The types of this seat as my verification conditions see them: underlying type, size, bytes, zero cells; each checked against the program's own table. -/
set_option linter.unusedSimpArgs false
set_option linter.unusedVariables false
namespace Go.Proofs.Ytjakgjelnbpmnaa
open Go Go.Vc
def T2 : TD := ⟨TypeDesc.int IntKind.i64, 1, 8, (.c (.int .i64 0) :: []), false⟩
def T3 : TD := ⟨TypeDesc.int IntKind.i64, 1, 8, (.c (.int .i64 0) :: []), false⟩
def T4 : TD := ⟨TypeDesc.bool, 1, 1, (.c (.bool false) :: []), false⟩
def T5 : TD := ⟨TypeDesc.int IntKind.u8, 1, 1, (.c (.int .u8 0) :: []), false⟩
def T9 : TD := ⟨TypeDesc.string, 1, 16, (.c (.string ⟨#[]⟩) :: []), false⟩
def T12 : TD := ⟨TypeDesc.int IntKind.u64, 1, 8, (.c (.int .u64 0) :: []), false⟩
def T13 : TD := ⟨TypeDesc.struct #[{ name := "msg", type := 9, offset := 0, embedded := false, tag := "", pkgPath := "runtime", byteOffset := 0 }, { name := "addr", type := 12, offset := 1, embedded := false, tag := "", pkgPath := "runtime", byteOffset := 16 }], 2, 24, (.c (.string ⟨#[]⟩) :: (.c (.int .u64 0) :: [])), false⟩
def T21 : TD := ⟨TypeDesc.int IntKind.i32, 1, 4, (.c (.int .i32 0) :: []), false⟩
def T22 : TD := ⟨TypeDesc.slice 5, 1, 24, (.c (.slice none 0 0) :: []), false⟩
def T24 : TD := ⟨TypeDesc.array 256 5, 256, 256, (List.replicate 256 (.c (.int .u8 0))), false⟩
def T25 : TD := ⟨TypeDesc.array 256 5, 256, 256, (List.replicate 256 (.c (.int .u8 0))), false⟩
def T26 : TD := ⟨TypeDesc.array 4 5, 4, 4, (.c (.int .u8 0) :: .c (.int .u8 0) :: .c (.int .u8 0) :: .c (.int .u8 0) :: []), false⟩
def T27 : TD := ⟨TypeDesc.array 4 26, 16, 16, (List.replicate 16 (.c (.int .u8 0))), false⟩
def T28 : TD := ⟨TypeDesc.array 4 26, 16, 16, (List.replicate 16 (.c (.int .u8 0))), false⟩
def T29 : TD := ⟨TypeDesc.struct #[{ name := "Field", type := 2, offset := 0, embedded := false, tag := "", pkgPath := "", byteOffset := 0 }, { name := "Box", type := 25, offset := 1, embedded := false, tag := "", pkgPath := "", byteOffset := 8 }, { name := "Mix", type := 28, offset := 257, embedded := false, tag := "", pkgPath := "", byteOffset := 264 }, { name := "Kind", type := 2, offset := 273, embedded := false, tag := "", pkgPath := "", byteOffset := 280 }, { name := "Rounds", type := 2, offset := 274, embedded := false, tag := "", pkgPath := "", byteOffset := 288 }], 275, 296, (.c (.int .i64 0) :: (List.replicate 256 (.c (.int .u8 0)) ++ (List.replicate 16 (.c (.int .u8 0)) ++ (.c (.int .i64 0) :: (.c (.int .i64 0) :: []))))), false⟩
def T30 : TD := ⟨TypeDesc.struct #[{ name := "Field", type := 2, offset := 0, embedded := false, tag := "", pkgPath := "", byteOffset := 0 }, { name := "Box", type := 25, offset := 1, embedded := false, tag := "", pkgPath := "", byteOffset := 8 }, { name := "Mix", type := 28, offset := 257, embedded := false, tag := "", pkgPath := "", byteOffset := 264 }, { name := "Kind", type := 2, offset := 273, embedded := false, tag := "", pkgPath := "", byteOffset := 280 }, { name := "Rounds", type := 2, offset := 274, embedded := false, tag := "", pkgPath := "", byteOffset := 288 }], 275, 296, (.c (.int .i64 0) :: (List.replicate 256 (.c (.int .u8 0)) ++ (List.replicate 16 (.c (.int .u8 0)) ++ (.c (.int .i64 0) :: (.c (.int .i64 0) :: []))))), false⟩
def T31 : TD := ⟨TypeDesc.slice 43, 1, 24, (.c (.slice none 0 0) :: []), false⟩
def T32 : TD := ⟨TypeDesc.array 16 5, 16, 16, (List.replicate 16 (.c (.int .u8 0))), false⟩
def T33 : TD := ⟨TypeDesc.array 16 5, 16, 16, (List.replicate 16 (.c (.int .u8 0))), false⟩
def T42 : TD := ⟨TypeDesc.array 8 5, 8, 8, (List.replicate 8 (.c (.int .u8 0))), false⟩
def T43 : TD := ⟨TypeDesc.array 8 5, 8, 8, (List.replicate 8 (.c (.int .u8 0))), false⟩
def T59 : TD := ⟨TypeDesc.pointer 92, 1, 8, (.c (.pointer none) :: []), false⟩
def T78 : TD := ⟨TypeDesc.int IntKind.u64, 1, 8, (.c (.int .u64 0) :: []), false⟩
def T79 : TD := ⟨TypeDesc.struct #[{ name := "code", type := 22, offset := 0, embedded := false, tag := "", pkgPath := "loop.example/g01182/spec", byteOffset := 0 }, { name := "at", type := 3, offset := 1, embedded := false, tag := "", pkgPath := "loop.example/g01182/spec", byteOffset := 24 }, { name := "hash", type := 78, offset := 2, embedded := false, tag := "", pkgPath := "loop.example/g01182/spec", byteOffset := 32 }], 3, 40, (.c (.slice none 0 0) :: (.c (.int .i64 0) :: (.c (.int .u64 0) :: []))), false⟩
def T80 : TD := ⟨TypeDesc.struct #[{ name := "code", type := 22, offset := 0, embedded := false, tag := "", pkgPath := "loop.example/g01182/spec", byteOffset := 0 }, { name := "at", type := 3, offset := 1, embedded := false, tag := "", pkgPath := "loop.example/g01182/spec", byteOffset := 24 }, { name := "hash", type := 78, offset := 2, embedded := false, tag := "", pkgPath := "loop.example/g01182/spec", byteOffset := 32 }], 3, 40, (.c (.slice none 0 0) :: (.c (.int .i64 0) :: (.c (.int .u64 0) :: []))), false⟩
def T86 : TD := ⟨TypeDesc.int IntKind.i64, 1, 8, (.c (.int .i64 0) :: []), false⟩
def T89 : TD := ⟨TypeDesc.pointer 116, 1, 8, (.c (.pointer none) :: []), false⟩
def T91 : TD := ⟨TypeDesc.struct #[{ name := "box", type := 25, offset := 0, embedded := false, tag := "", pkgPath := "loop.example/g01182/impl", byteOffset := 0 }, { name := "backBox", type := 25, offset := 256, embedded := false, tag := "", pkgPath := "loop.example/g01182/impl", byteOffset := 256 }, { name := "mixer", type := 89, offset := 512, embedded := false, tag := "", pkgPath := "loop.example/g01182/impl", byteOffset := 512 }, { name := "backMixer", type := 89, offset := 513, embedded := false, tag := "", pkgPath := "loop.example/g01182/impl", byteOffset := 520 }, { name := "kind", type := 2, offset := 514, embedded := false, tag := "", pkgPath := "loop.example/g01182/impl", byteOffset := 528 }], 515, 536, (List.replicate 256 (.c (.int .u8 0)) ++ (List.replicate 256 (.c (.int .u8 0)) ++ (.c (.pointer none) :: (.c (.pointer none) :: (.c (.int .i64 0) :: []))))), false⟩
def T92 : TD := ⟨TypeDesc.struct #[{ name := "box", type := 25, offset := 0, embedded := false, tag := "", pkgPath := "loop.example/g01182/impl", byteOffset := 0 }, { name := "backBox", type := 25, offset := 256, embedded := false, tag := "", pkgPath := "loop.example/g01182/impl", byteOffset := 256 }, { name := "mixer", type := 89, offset := 512, embedded := false, tag := "", pkgPath := "loop.example/g01182/impl", byteOffset := 512 }, { name := "backMixer", type := 89, offset := 513, embedded := false, tag := "", pkgPath := "loop.example/g01182/impl", byteOffset := 520 }, { name := "kind", type := 2, offset := 514, embedded := false, tag := "", pkgPath := "loop.example/g01182/impl", byteOffset := 528 }], 515, 536, (List.replicate 256 (.c (.int .u8 0)) ++ (List.replicate 256 (.c (.int .u8 0)) ++ (.c (.pointer none) :: (.c (.pointer none) :: (.c (.int .i64 0) :: []))))), false⟩
def T96 : TD := ⟨TypeDesc.array 256 4, 256, 256, (List.replicate 256 (.c (.bool false))), false⟩
def T98 : TD := ⟨TypeDesc.slice 4, 1, 24, (.c (.slice none 0 0) :: []), false⟩
def T105 : TD := ⟨TypeDesc.array 16 5, 16, 16, (List.replicate 16 (.c (.int .u8 0))), false⟩
def T106 : TD := ⟨TypeDesc.struct #[{ name := "Field", type := 2, offset := 0, embedded := false, tag := "", pkgPath := "", byteOffset := 0 }, { name := "Box", type := 25, offset := 1, embedded := false, tag := "", pkgPath := "", byteOffset := 8 }, { name := "Mix", type := 28, offset := 257, embedded := false, tag := "", pkgPath := "", byteOffset := 264 }, { name := "Places", type := 105, offset := 273, embedded := false, tag := "", pkgPath := "", byteOffset := 280 }, { name := "Rounds", type := 2, offset := 289, embedded := false, tag := "", pkgPath := "", byteOffset := 296 }], 290, 304, (.c (.int .i64 0) :: (List.replicate 256 (.c (.int .u8 0)) ++ (List.replicate 16 (.c (.int .u8 0)) ++ (List.replicate 16 (.c (.int .u8 0)) ++ (.c (.int .i64 0) :: []))))), false⟩
def T107 : TD := ⟨TypeDesc.struct #[{ name := "Field", type := 2, offset := 0, embedded := false, tag := "", pkgPath := "", byteOffset := 0 }, { name := "Box", type := 25, offset := 1, embedded := false, tag := "", pkgPath := "", byteOffset := 8 }, { name := "Mix", type := 28, offset := 257, embedded := false, tag := "", pkgPath := "", byteOffset := 264 }, { name := "Places", type := 105, offset := 273, embedded := false, tag := "", pkgPath := "", byteOffset := 280 }, { name := "Rounds", type := 2, offset := 289, embedded := false, tag := "", pkgPath := "", byteOffset := 296 }], 290, 304, (.c (.int .i64 0) :: (List.replicate 256 (.c (.int .u8 0)) ++ (List.replicate 16 (.c (.int .u8 0)) ++ (List.replicate 16 (.c (.int .u8 0)) ++ (.c (.int .i64 0) :: []))))), false⟩
def T109 : TD := ⟨TypeDesc.int IntKind.u64, 1, 8, (.c (.int .u64 0) :: []), false⟩
def T110 : TD := ⟨TypeDesc.slice 2, 1, 24, (.c (.slice none 0 0) :: []), false⟩
def T114 : TD := ⟨TypeDesc.array 4 24, 1024, 1024, (List.replicate 1024 (.c (.int .u8 0))), false⟩
def T115 : TD := ⟨TypeDesc.array 4 114, 4096, 4096, (List.replicate 4096 (.c (.int .u8 0))), false⟩
def T116 : TD := ⟨TypeDesc.array 4 114, 4096, 4096, (List.replicate 4096 (.c (.int .u8 0))), false⟩
def T120 : TD := ⟨TypeDesc.slice 22, 1, 24, (.c (.slice none 0 0) :: []), false⟩
def T141 : TD := ⟨TypeDesc.int IntKind.u32, 1, 4, (.c (.int .u32 0) :: []), false⟩
def E : Env := fun t => match t with
  | 2 => some T2
  | 3 => some T3
  | 4 => some T4
  | 5 => some T5
  | 9 => some T9
  | 12 => some T12
  | 13 => some T13
  | 21 => some T21
  | 22 => some T22
  | 24 => some T24
  | 25 => some T25
  | 26 => some T26
  | 27 => some T27
  | 28 => some T28
  | 29 => some T29
  | 30 => some T30
  | 31 => some T31
  | 32 => some T32
  | 33 => some T33
  | 42 => some T42
  | 43 => some T43
  | 59 => some T59
  | 78 => some T78
  | 79 => some T79
  | 80 => some T80
  | 86 => some T86
  | 89 => some T89
  | 91 => some T91
  | 92 => some T92
  | 96 => some T96
  | 98 => some T98
  | 105 => some T105
  | 106 => some T106
  | 107 => some T107
  | 109 => some T109
  | 110 => some T110
  | 114 => some T114
  | 115 => some T115
  | 116 => some T116
  | 120 => some T120
  | 141 => some T141
  | _ => none
theorem i2 : ∃ i z, Try.prog.info? 2 = some i ∧ i.size = T2.size ∧ i.bytes = T2.bytes ∧ i.zero = some z ∧ z.cells.toList.map V.c = T2.zero ∧ (∀ c ∈ z.cells.toList, c.oneCell' = true) ∧ T2.zero.length = T2.size := ⟨Try.t2, _, by kernel_rfl, by kernel_rfl, by kernel_rfl, rfl, by kernel_rfl, List.all_eq_true.1 (by kernel_rfl), by kernel_rfl⟩
theorem i3 : ∃ i z, Try.prog.info? 3 = some i ∧ i.size = T3.size ∧ i.bytes = T3.bytes ∧ i.zero = some z ∧ z.cells.toList.map V.c = T3.zero ∧ (∀ c ∈ z.cells.toList, c.oneCell' = true) ∧ T3.zero.length = T3.size := ⟨Try.t3, _, by kernel_rfl, by kernel_rfl, by kernel_rfl, rfl, by kernel_rfl, List.all_eq_true.1 (by kernel_rfl), by kernel_rfl⟩
theorem i4 : ∃ i z, Try.prog.info? 4 = some i ∧ i.size = T4.size ∧ i.bytes = T4.bytes ∧ i.zero = some z ∧ z.cells.toList.map V.c = T4.zero ∧ (∀ c ∈ z.cells.toList, c.oneCell' = true) ∧ T4.zero.length = T4.size := ⟨Try.t4, _, by kernel_rfl, by kernel_rfl, by kernel_rfl, rfl, by kernel_rfl, List.all_eq_true.1 (by kernel_rfl), by kernel_rfl⟩
theorem i5 : ∃ i z, Try.prog.info? 5 = some i ∧ i.size = T5.size ∧ i.bytes = T5.bytes ∧ i.zero = some z ∧ z.cells.toList.map V.c = T5.zero ∧ (∀ c ∈ z.cells.toList, c.oneCell' = true) ∧ T5.zero.length = T5.size := ⟨Try.t5, _, by kernel_rfl, by kernel_rfl, by kernel_rfl, rfl, by kernel_rfl, List.all_eq_true.1 (by kernel_rfl), by kernel_rfl⟩
theorem i9 : ∃ i z, Try.prog.info? 9 = some i ∧ i.size = T9.size ∧ i.bytes = T9.bytes ∧ i.zero = some z ∧ z.cells.toList.map V.c = T9.zero ∧ (∀ c ∈ z.cells.toList, c.oneCell' = true) ∧ T9.zero.length = T9.size := ⟨Try.t9, _, by kernel_rfl, by kernel_rfl, by kernel_rfl, rfl, by kernel_rfl, List.all_eq_true.1 (by kernel_rfl), by kernel_rfl⟩
theorem i12 : ∃ i z, Try.prog.info? 12 = some i ∧ i.size = T12.size ∧ i.bytes = T12.bytes ∧ i.zero = some z ∧ z.cells.toList.map V.c = T12.zero ∧ (∀ c ∈ z.cells.toList, c.oneCell' = true) ∧ T12.zero.length = T12.size := ⟨Try.t12, _, by kernel_rfl, by kernel_rfl, by kernel_rfl, rfl, by kernel_rfl, List.all_eq_true.1 (by kernel_rfl), by kernel_rfl⟩
theorem i13 : ∃ i z, Try.prog.info? 13 = some i ∧ i.size = T13.size ∧ i.bytes = T13.bytes ∧ i.zero = some z ∧ z.cells.toList.map V.c = T13.zero ∧ (∀ c ∈ z.cells.toList, c.oneCell' = true) ∧ T13.zero.length = T13.size := ⟨Try.t13, _, by kernel_rfl, by kernel_rfl, by kernel_rfl, rfl, by kernel_rfl, List.all_eq_true.1 (by kernel_rfl), by kernel_rfl⟩
theorem i21 : ∃ i z, Try.prog.info? 21 = some i ∧ i.size = T21.size ∧ i.bytes = T21.bytes ∧ i.zero = some z ∧ z.cells.toList.map V.c = T21.zero ∧ (∀ c ∈ z.cells.toList, c.oneCell' = true) ∧ T21.zero.length = T21.size := ⟨Try.t21, _, by kernel_rfl, by kernel_rfl, by kernel_rfl, rfl, by kernel_rfl, List.all_eq_true.1 (by kernel_rfl), by kernel_rfl⟩
theorem i22 : ∃ i z, Try.prog.info? 22 = some i ∧ i.size = T22.size ∧ i.bytes = T22.bytes ∧ i.zero = some z ∧ z.cells.toList.map V.c = T22.zero ∧ (∀ c ∈ z.cells.toList, c.oneCell' = true) ∧ T22.zero.length = T22.size := ⟨Try.t22, _, by kernel_rfl, by kernel_rfl, by kernel_rfl, rfl, by kernel_rfl, List.all_eq_true.1 (by kernel_rfl), by kernel_rfl⟩
theorem i24 : ∃ i z, Try.prog.info? 24 = some i ∧ i.size = T24.size ∧ i.bytes = T24.bytes ∧ i.zero = some z ∧ z.cells.toList.map V.c = T24.zero ∧ (∀ c ∈ z.cells.toList, c.oneCell' = true) ∧ T24.zero.length = T24.size := ⟨Try.t24, _, by kernel_rfl, by kernel_rfl, by kernel_rfl, rfl, by kernel_rfl, List.all_eq_true.1 (by kernel_rfl), by kernel_rfl⟩
theorem i25 : ∃ i z, Try.prog.info? 25 = some i ∧ i.size = T25.size ∧ i.bytes = T25.bytes ∧ i.zero = some z ∧ z.cells.toList.map V.c = T25.zero ∧ (∀ c ∈ z.cells.toList, c.oneCell' = true) ∧ T25.zero.length = T25.size := ⟨Try.t25, _, by kernel_rfl, by kernel_rfl, by kernel_rfl, rfl, by kernel_rfl, List.all_eq_true.1 (by kernel_rfl), by kernel_rfl⟩
theorem i26 : ∃ i z, Try.prog.info? 26 = some i ∧ i.size = T26.size ∧ i.bytes = T26.bytes ∧ i.zero = some z ∧ z.cells.toList.map V.c = T26.zero ∧ (∀ c ∈ z.cells.toList, c.oneCell' = true) ∧ T26.zero.length = T26.size := ⟨Try.t26, _, by kernel_rfl, by kernel_rfl, by kernel_rfl, rfl, by kernel_rfl, List.all_eq_true.1 (by kernel_rfl), by kernel_rfl⟩
theorem i27 : ∃ i z, Try.prog.info? 27 = some i ∧ i.size = T27.size ∧ i.bytes = T27.bytes ∧ i.zero = some z ∧ z.cells.toList.map V.c = T27.zero ∧ (∀ c ∈ z.cells.toList, c.oneCell' = true) ∧ T27.zero.length = T27.size := ⟨Try.t27, _, by kernel_rfl, by kernel_rfl, by kernel_rfl, rfl, by kernel_rfl, List.all_eq_true.1 (by kernel_rfl), by kernel_rfl⟩
theorem i28 : ∃ i z, Try.prog.info? 28 = some i ∧ i.size = T28.size ∧ i.bytes = T28.bytes ∧ i.zero = some z ∧ z.cells.toList.map V.c = T28.zero ∧ (∀ c ∈ z.cells.toList, c.oneCell' = true) ∧ T28.zero.length = T28.size := ⟨Try.t28, _, by kernel_rfl, by kernel_rfl, by kernel_rfl, rfl, by kernel_rfl, List.all_eq_true.1 (by kernel_rfl), by kernel_rfl⟩
theorem i29 : ∃ i z, Try.prog.info? 29 = some i ∧ i.size = T29.size ∧ i.bytes = T29.bytes ∧ i.zero = some z ∧ z.cells.toList.map V.c = T29.zero ∧ (∀ c ∈ z.cells.toList, c.oneCell' = true) ∧ T29.zero.length = T29.size := ⟨Try.t29, _, by kernel_rfl, by kernel_rfl, by kernel_rfl, rfl, by kernel_rfl, List.all_eq_true.1 (by kernel_rfl), by kernel_rfl⟩
theorem i30 : ∃ i z, Try.prog.info? 30 = some i ∧ i.size = T30.size ∧ i.bytes = T30.bytes ∧ i.zero = some z ∧ z.cells.toList.map V.c = T30.zero ∧ (∀ c ∈ z.cells.toList, c.oneCell' = true) ∧ T30.zero.length = T30.size := ⟨Try.t30, _, by kernel_rfl, by kernel_rfl, by kernel_rfl, rfl, by kernel_rfl, List.all_eq_true.1 (by kernel_rfl), by kernel_rfl⟩
theorem i31 : ∃ i z, Try.prog.info? 31 = some i ∧ i.size = T31.size ∧ i.bytes = T31.bytes ∧ i.zero = some z ∧ z.cells.toList.map V.c = T31.zero ∧ (∀ c ∈ z.cells.toList, c.oneCell' = true) ∧ T31.zero.length = T31.size := ⟨Try.t31, _, by kernel_rfl, by kernel_rfl, by kernel_rfl, rfl, by kernel_rfl, List.all_eq_true.1 (by kernel_rfl), by kernel_rfl⟩
theorem i32 : ∃ i z, Try.prog.info? 32 = some i ∧ i.size = T32.size ∧ i.bytes = T32.bytes ∧ i.zero = some z ∧ z.cells.toList.map V.c = T32.zero ∧ (∀ c ∈ z.cells.toList, c.oneCell' = true) ∧ T32.zero.length = T32.size := ⟨Try.t32, _, by kernel_rfl, by kernel_rfl, by kernel_rfl, rfl, by kernel_rfl, List.all_eq_true.1 (by kernel_rfl), by kernel_rfl⟩
theorem i33 : ∃ i z, Try.prog.info? 33 = some i ∧ i.size = T33.size ∧ i.bytes = T33.bytes ∧ i.zero = some z ∧ z.cells.toList.map V.c = T33.zero ∧ (∀ c ∈ z.cells.toList, c.oneCell' = true) ∧ T33.zero.length = T33.size := ⟨Try.t33, _, by kernel_rfl, by kernel_rfl, by kernel_rfl, rfl, by kernel_rfl, List.all_eq_true.1 (by kernel_rfl), by kernel_rfl⟩
theorem i42 : ∃ i z, Try.prog.info? 42 = some i ∧ i.size = T42.size ∧ i.bytes = T42.bytes ∧ i.zero = some z ∧ z.cells.toList.map V.c = T42.zero ∧ (∀ c ∈ z.cells.toList, c.oneCell' = true) ∧ T42.zero.length = T42.size := ⟨Try.t42, _, by kernel_rfl, by kernel_rfl, by kernel_rfl, rfl, by kernel_rfl, List.all_eq_true.1 (by kernel_rfl), by kernel_rfl⟩
theorem i43 : ∃ i z, Try.prog.info? 43 = some i ∧ i.size = T43.size ∧ i.bytes = T43.bytes ∧ i.zero = some z ∧ z.cells.toList.map V.c = T43.zero ∧ (∀ c ∈ z.cells.toList, c.oneCell' = true) ∧ T43.zero.length = T43.size := ⟨Try.t43, _, by kernel_rfl, by kernel_rfl, by kernel_rfl, rfl, by kernel_rfl, List.all_eq_true.1 (by kernel_rfl), by kernel_rfl⟩
theorem i59 : ∃ i z, Try.prog.info? 59 = some i ∧ i.size = T59.size ∧ i.bytes = T59.bytes ∧ i.zero = some z ∧ z.cells.toList.map V.c = T59.zero ∧ (∀ c ∈ z.cells.toList, c.oneCell' = true) ∧ T59.zero.length = T59.size := ⟨Try.t59, _, by kernel_rfl, by kernel_rfl, by kernel_rfl, rfl, by kernel_rfl, List.all_eq_true.1 (by kernel_rfl), by kernel_rfl⟩
theorem i78 : ∃ i z, Try.prog.info? 78 = some i ∧ i.size = T78.size ∧ i.bytes = T78.bytes ∧ i.zero = some z ∧ z.cells.toList.map V.c = T78.zero ∧ (∀ c ∈ z.cells.toList, c.oneCell' = true) ∧ T78.zero.length = T78.size := ⟨Try.t78, _, by kernel_rfl, by kernel_rfl, by kernel_rfl, rfl, by kernel_rfl, List.all_eq_true.1 (by kernel_rfl), by kernel_rfl⟩
theorem i79 : ∃ i z, Try.prog.info? 79 = some i ∧ i.size = T79.size ∧ i.bytes = T79.bytes ∧ i.zero = some z ∧ z.cells.toList.map V.c = T79.zero ∧ (∀ c ∈ z.cells.toList, c.oneCell' = true) ∧ T79.zero.length = T79.size := ⟨Try.t79, _, by kernel_rfl, by kernel_rfl, by kernel_rfl, rfl, by kernel_rfl, List.all_eq_true.1 (by kernel_rfl), by kernel_rfl⟩
theorem i80 : ∃ i z, Try.prog.info? 80 = some i ∧ i.size = T80.size ∧ i.bytes = T80.bytes ∧ i.zero = some z ∧ z.cells.toList.map V.c = T80.zero ∧ (∀ c ∈ z.cells.toList, c.oneCell' = true) ∧ T80.zero.length = T80.size := ⟨Try.t80, _, by kernel_rfl, by kernel_rfl, by kernel_rfl, rfl, by kernel_rfl, List.all_eq_true.1 (by kernel_rfl), by kernel_rfl⟩
theorem i86 : ∃ i z, Try.prog.info? 86 = some i ∧ i.size = T86.size ∧ i.bytes = T86.bytes ∧ i.zero = some z ∧ z.cells.toList.map V.c = T86.zero ∧ (∀ c ∈ z.cells.toList, c.oneCell' = true) ∧ T86.zero.length = T86.size := ⟨Try.t86, _, by kernel_rfl, by kernel_rfl, by kernel_rfl, rfl, by kernel_rfl, List.all_eq_true.1 (by kernel_rfl), by kernel_rfl⟩
theorem i89 : ∃ i z, Try.prog.info? 89 = some i ∧ i.size = T89.size ∧ i.bytes = T89.bytes ∧ i.zero = some z ∧ z.cells.toList.map V.c = T89.zero ∧ (∀ c ∈ z.cells.toList, c.oneCell' = true) ∧ T89.zero.length = T89.size := ⟨Try.t89, _, by kernel_rfl, by kernel_rfl, by kernel_rfl, rfl, by kernel_rfl, List.all_eq_true.1 (by kernel_rfl), by kernel_rfl⟩
theorem i91 : ∃ i z, Try.prog.info? 91 = some i ∧ i.size = T91.size ∧ i.bytes = T91.bytes ∧ i.zero = some z ∧ z.cells.toList.map V.c = T91.zero ∧ (∀ c ∈ z.cells.toList, c.oneCell' = true) ∧ T91.zero.length = T91.size := ⟨Try.t91, _, by kernel_rfl, by kernel_rfl, by kernel_rfl, rfl, by kernel_rfl, List.all_eq_true.1 (by kernel_rfl), by kernel_rfl⟩
theorem i92 : ∃ i z, Try.prog.info? 92 = some i ∧ i.size = T92.size ∧ i.bytes = T92.bytes ∧ i.zero = some z ∧ z.cells.toList.map V.c = T92.zero ∧ (∀ c ∈ z.cells.toList, c.oneCell' = true) ∧ T92.zero.length = T92.size := ⟨Try.t92, _, by kernel_rfl, by kernel_rfl, by kernel_rfl, rfl, by kernel_rfl, List.all_eq_true.1 (by kernel_rfl), by kernel_rfl⟩
theorem i96 : ∃ i z, Try.prog.info? 96 = some i ∧ i.size = T96.size ∧ i.bytes = T96.bytes ∧ i.zero = some z ∧ z.cells.toList.map V.c = T96.zero ∧ (∀ c ∈ z.cells.toList, c.oneCell' = true) ∧ T96.zero.length = T96.size := ⟨Try.t96, _, by kernel_rfl, by kernel_rfl, by kernel_rfl, rfl, by kernel_rfl, List.all_eq_true.1 (by kernel_rfl), by kernel_rfl⟩
theorem i98 : ∃ i z, Try.prog.info? 98 = some i ∧ i.size = T98.size ∧ i.bytes = T98.bytes ∧ i.zero = some z ∧ z.cells.toList.map V.c = T98.zero ∧ (∀ c ∈ z.cells.toList, c.oneCell' = true) ∧ T98.zero.length = T98.size := ⟨Try.t98, _, by kernel_rfl, by kernel_rfl, by kernel_rfl, rfl, by kernel_rfl, List.all_eq_true.1 (by kernel_rfl), by kernel_rfl⟩
theorem i105 : ∃ i z, Try.prog.info? 105 = some i ∧ i.size = T105.size ∧ i.bytes = T105.bytes ∧ i.zero = some z ∧ z.cells.toList.map V.c = T105.zero ∧ (∀ c ∈ z.cells.toList, c.oneCell' = true) ∧ T105.zero.length = T105.size := ⟨Try.t105, _, by kernel_rfl, by kernel_rfl, by kernel_rfl, rfl, by kernel_rfl, List.all_eq_true.1 (by kernel_rfl), by kernel_rfl⟩
theorem i106 : ∃ i z, Try.prog.info? 106 = some i ∧ i.size = T106.size ∧ i.bytes = T106.bytes ∧ i.zero = some z ∧ z.cells.toList.map V.c = T106.zero ∧ (∀ c ∈ z.cells.toList, c.oneCell' = true) ∧ T106.zero.length = T106.size := ⟨Try.t106, _, by kernel_rfl, by kernel_rfl, by kernel_rfl, rfl, by kernel_rfl, List.all_eq_true.1 (by kernel_rfl), by kernel_rfl⟩
theorem i107 : ∃ i z, Try.prog.info? 107 = some i ∧ i.size = T107.size ∧ i.bytes = T107.bytes ∧ i.zero = some z ∧ z.cells.toList.map V.c = T107.zero ∧ (∀ c ∈ z.cells.toList, c.oneCell' = true) ∧ T107.zero.length = T107.size := ⟨Try.t107, _, by kernel_rfl, by kernel_rfl, by kernel_rfl, rfl, by kernel_rfl, List.all_eq_true.1 (by kernel_rfl), by kernel_rfl⟩
theorem i109 : ∃ i z, Try.prog.info? 109 = some i ∧ i.size = T109.size ∧ i.bytes = T109.bytes ∧ i.zero = some z ∧ z.cells.toList.map V.c = T109.zero ∧ (∀ c ∈ z.cells.toList, c.oneCell' = true) ∧ T109.zero.length = T109.size := ⟨Try.t109, _, by kernel_rfl, by kernel_rfl, by kernel_rfl, rfl, by kernel_rfl, List.all_eq_true.1 (by kernel_rfl), by kernel_rfl⟩
theorem i110 : ∃ i z, Try.prog.info? 110 = some i ∧ i.size = T110.size ∧ i.bytes = T110.bytes ∧ i.zero = some z ∧ z.cells.toList.map V.c = T110.zero ∧ (∀ c ∈ z.cells.toList, c.oneCell' = true) ∧ T110.zero.length = T110.size := ⟨Try.t110, _, by kernel_rfl, by kernel_rfl, by kernel_rfl, rfl, by kernel_rfl, List.all_eq_true.1 (by kernel_rfl), by kernel_rfl⟩
theorem i114 : ∃ i z, Try.prog.info? 114 = some i ∧ i.size = T114.size ∧ i.bytes = T114.bytes ∧ i.zero = some z ∧ z.cells.toList.map V.c = T114.zero ∧ (∀ c ∈ z.cells.toList, c.oneCell' = true) ∧ T114.zero.length = T114.size := ⟨Try.t114, _, by kernel_rfl, by kernel_rfl, by kernel_rfl, rfl, by kernel_rfl, List.all_eq_true.1 (by kernel_rfl), by kernel_rfl⟩
theorem i115 : ∃ i z, Try.prog.info? 115 = some i ∧ i.size = T115.size ∧ i.bytes = T115.bytes ∧ i.zero = some z ∧ z.cells.toList.map V.c = T115.zero ∧ (∀ c ∈ z.cells.toList, c.oneCell' = true) ∧ T115.zero.length = T115.size := ⟨Try.t115, _, by kernel_rfl, by kernel_rfl, by kernel_rfl, rfl, by kernel_rfl, List.all_eq_true.1 (by kernel_rfl), by kernel_rfl⟩
theorem i116 : ∃ i z, Try.prog.info? 116 = some i ∧ i.size = T116.size ∧ i.bytes = T116.bytes ∧ i.zero = some z ∧ z.cells.toList.map V.c = T116.zero ∧ (∀ c ∈ z.cells.toList, c.oneCell' = true) ∧ T116.zero.length = T116.size := ⟨Try.t116, _, by kernel_rfl, by kernel_rfl, by kernel_rfl, rfl, by kernel_rfl, List.all_eq_true.1 (by kernel_rfl), by kernel_rfl⟩
theorem i120 : ∃ i z, Try.prog.info? 120 = some i ∧ i.size = T120.size ∧ i.bytes = T120.bytes ∧ i.zero = some z ∧ z.cells.toList.map V.c = T120.zero ∧ (∀ c ∈ z.cells.toList, c.oneCell' = true) ∧ T120.zero.length = T120.size := ⟨Try.t120, _, by kernel_rfl, by kernel_rfl, by kernel_rfl, rfl, by kernel_rfl, List.all_eq_true.1 (by kernel_rfl), by kernel_rfl⟩
theorem i141 : ∃ i z, Try.prog.info? 141 = some i ∧ i.size = T141.size ∧ i.bytes = T141.bytes ∧ i.zero = some z ∧ z.cells.toList.map V.c = T141.zero ∧ (∀ c ∈ z.cells.toList, c.oneCell' = true) ∧ T141.zero.length = T141.size := ⟨Try.t141, _, by kernel_rfl, by kernel_rfl, by kernel_rfl, rfl, by kernel_rfl, List.all_eq_true.1 (by kernel_rfl), by kernel_rfl⟩
theorem envOK : EnvOK Try.prog E := by
  refine ⟨fun {t d} h => ?_, fun {t d} h => ?_, fun {t d} h => ?_, by kernel_rfl⟩
  · unfold E at h; split at h <;> first | (cases h; kernel_rfl) | cases h
  · unfold E at h; split at h <;> first | cases h | skip
    · exact i2
    · exact i3
    · exact i4
    · exact i5
    · exact i9
    · exact i12
    · exact i13
    · exact i21
    · exact i22
    · exact i24
    · exact i25
    · exact i26
    · exact i27
    · exact i28
    · exact i29
    · exact i30
    · exact i31
    · exact i32
    · exact i33
    · exact i42
    · exact i43
    · exact i59
    · exact i78
    · exact i79
    · exact i80
    · exact i86
    · exact i89
    · exact i91
    · exact i92
    · exact i96
    · exact i98
    · exact i105
    · exact i106
    · exact i107
    · exact i109
    · exact i110
    · exact i114
    · exact i115
    · exact i116
    · exact i120
    · exact i141
  · unfold E at h; split at h <;> first | (cases h; kernel_rfl) | cases h
theorem E2 : E 2 = some ⟨TypeDesc.int IntKind.i64, 1, 8, (.c (.int .i64 0) :: []), false⟩ := rfl
theorem E3 : E 3 = some ⟨TypeDesc.int IntKind.i64, 1, 8, (.c (.int .i64 0) :: []), false⟩ := rfl
theorem E4 : E 4 = some ⟨TypeDesc.bool, 1, 1, (.c (.bool false) :: []), false⟩ := rfl
theorem E5 : E 5 = some ⟨TypeDesc.int IntKind.u8, 1, 1, (.c (.int .u8 0) :: []), false⟩ := rfl
theorem E9 : E 9 = some ⟨TypeDesc.string, 1, 16, (.c (.string ⟨#[]⟩) :: []), false⟩ := rfl
theorem E12 : E 12 = some ⟨TypeDesc.int IntKind.u64, 1, 8, (.c (.int .u64 0) :: []), false⟩ := rfl
theorem E13 : E 13 = some ⟨TypeDesc.struct #[{ name := "msg", type := 9, offset := 0, embedded := false, tag := "", pkgPath := "runtime", byteOffset := 0 }, { name := "addr", type := 12, offset := 1, embedded := false, tag := "", pkgPath := "runtime", byteOffset := 16 }], 2, 24, (.c (.string ⟨#[]⟩) :: (.c (.int .u64 0) :: [])), false⟩ := rfl
theorem E21 : E 21 = some ⟨TypeDesc.int IntKind.i32, 1, 4, (.c (.int .i32 0) :: []), false⟩ := rfl
theorem E22 : E 22 = some ⟨TypeDesc.slice 5, 1, 24, (.c (.slice none 0 0) :: []), false⟩ := rfl
theorem E24 : E 24 = some ⟨TypeDesc.array 256 5, 256, 256, (bs (List.replicate 256 0)), false⟩ := by simp only [← zeros_bs, ← zeros_blv]; rfl
theorem E25 : E 25 = some ⟨TypeDesc.array 256 5, 256, 256, (bs (List.replicate 256 0)), false⟩ := by simp only [← zeros_bs, ← zeros_blv]; rfl
theorem E26 : E 26 = some ⟨TypeDesc.array 4 5, 4, 4, (bs (List.replicate 4 0)), false⟩ := by simp only [← zeros_bs, ← zeros_blv]; rfl
theorem E27 : E 27 = some ⟨TypeDesc.array 4 26, 16, 16, (bs (List.replicate 16 0)), false⟩ := by simp only [← zeros_bs, ← zeros_blv]; rfl
theorem E28 : E 28 = some ⟨TypeDesc.array 4 26, 16, 16, (bs (List.replicate 16 0)), false⟩ := by simp only [← zeros_bs, ← zeros_blv]; rfl
theorem E29 : E 29 = some ⟨TypeDesc.struct #[{ name := "Field", type := 2, offset := 0, embedded := false, tag := "", pkgPath := "", byteOffset := 0 }, { name := "Box", type := 25, offset := 1, embedded := false, tag := "", pkgPath := "", byteOffset := 8 }, { name := "Mix", type := 28, offset := 257, embedded := false, tag := "", pkgPath := "", byteOffset := 264 }, { name := "Kind", type := 2, offset := 273, embedded := false, tag := "", pkgPath := "", byteOffset := 280 }, { name := "Rounds", type := 2, offset := 274, embedded := false, tag := "", pkgPath := "", byteOffset := 288 }], 275, 296, (.c (.int .i64 0) :: (bs (List.replicate 256 0) ++ (bs (List.replicate 16 0) ++ (.c (.int .i64 0) :: (.c (.int .i64 0) :: []))))), false⟩ := by simp only [← zeros_bs, ← zeros_blv]; rfl
theorem E30 : E 30 = some ⟨TypeDesc.struct #[{ name := "Field", type := 2, offset := 0, embedded := false, tag := "", pkgPath := "", byteOffset := 0 }, { name := "Box", type := 25, offset := 1, embedded := false, tag := "", pkgPath := "", byteOffset := 8 }, { name := "Mix", type := 28, offset := 257, embedded := false, tag := "", pkgPath := "", byteOffset := 264 }, { name := "Kind", type := 2, offset := 273, embedded := false, tag := "", pkgPath := "", byteOffset := 280 }, { name := "Rounds", type := 2, offset := 274, embedded := false, tag := "", pkgPath := "", byteOffset := 288 }], 275, 296, (.c (.int .i64 0) :: (bs (List.replicate 256 0) ++ (bs (List.replicate 16 0) ++ (.c (.int .i64 0) :: (.c (.int .i64 0) :: []))))), false⟩ := by simp only [← zeros_bs, ← zeros_blv]; rfl
theorem E31 : E 31 = some ⟨TypeDesc.slice 43, 1, 24, (.c (.slice none 0 0) :: []), false⟩ := rfl
theorem E32 : E 32 = some ⟨TypeDesc.array 16 5, 16, 16, (bs (List.replicate 16 0)), false⟩ := by simp only [← zeros_bs, ← zeros_blv]; rfl
theorem E33 : E 33 = some ⟨TypeDesc.array 16 5, 16, 16, (bs (List.replicate 16 0)), false⟩ := by simp only [← zeros_bs, ← zeros_blv]; rfl
theorem E42 : E 42 = some ⟨TypeDesc.array 8 5, 8, 8, (bs (List.replicate 8 0)), false⟩ := by simp only [← zeros_bs, ← zeros_blv]; rfl
theorem E43 : E 43 = some ⟨TypeDesc.array 8 5, 8, 8, (bs (List.replicate 8 0)), false⟩ := by simp only [← zeros_bs, ← zeros_blv]; rfl
theorem E59 : E 59 = some ⟨TypeDesc.pointer 92, 1, 8, (.c (.pointer none) :: []), false⟩ := rfl
theorem E78 : E 78 = some ⟨TypeDesc.int IntKind.u64, 1, 8, (.c (.int .u64 0) :: []), false⟩ := rfl
theorem E79 : E 79 = some ⟨TypeDesc.struct #[{ name := "code", type := 22, offset := 0, embedded := false, tag := "", pkgPath := "loop.example/g01182/spec", byteOffset := 0 }, { name := "at", type := 3, offset := 1, embedded := false, tag := "", pkgPath := "loop.example/g01182/spec", byteOffset := 24 }, { name := "hash", type := 78, offset := 2, embedded := false, tag := "", pkgPath := "loop.example/g01182/spec", byteOffset := 32 }], 3, 40, (.c (.slice none 0 0) :: (.c (.int .i64 0) :: (.c (.int .u64 0) :: []))), false⟩ := rfl
theorem E80 : E 80 = some ⟨TypeDesc.struct #[{ name := "code", type := 22, offset := 0, embedded := false, tag := "", pkgPath := "loop.example/g01182/spec", byteOffset := 0 }, { name := "at", type := 3, offset := 1, embedded := false, tag := "", pkgPath := "loop.example/g01182/spec", byteOffset := 24 }, { name := "hash", type := 78, offset := 2, embedded := false, tag := "", pkgPath := "loop.example/g01182/spec", byteOffset := 32 }], 3, 40, (.c (.slice none 0 0) :: (.c (.int .i64 0) :: (.c (.int .u64 0) :: []))), false⟩ := rfl
theorem E86 : E 86 = some ⟨TypeDesc.int IntKind.i64, 1, 8, (.c (.int .i64 0) :: []), false⟩ := rfl
theorem E89 : E 89 = some ⟨TypeDesc.pointer 116, 1, 8, (.c (.pointer none) :: []), false⟩ := rfl
theorem E91 : E 91 = some ⟨TypeDesc.struct #[{ name := "box", type := 25, offset := 0, embedded := false, tag := "", pkgPath := "loop.example/g01182/impl", byteOffset := 0 }, { name := "backBox", type := 25, offset := 256, embedded := false, tag := "", pkgPath := "loop.example/g01182/impl", byteOffset := 256 }, { name := "mixer", type := 89, offset := 512, embedded := false, tag := "", pkgPath := "loop.example/g01182/impl", byteOffset := 512 }, { name := "backMixer", type := 89, offset := 513, embedded := false, tag := "", pkgPath := "loop.example/g01182/impl", byteOffset := 520 }, { name := "kind", type := 2, offset := 514, embedded := false, tag := "", pkgPath := "loop.example/g01182/impl", byteOffset := 528 }], 515, 536, (bs (List.replicate 256 0) ++ (bs (List.replicate 256 0) ++ (.c (.pointer none) :: (.c (.pointer none) :: (.c (.int .i64 0) :: []))))), false⟩ := by simp only [← zeros_bs, ← zeros_blv]; rfl
theorem E92 : E 92 = some ⟨TypeDesc.struct #[{ name := "box", type := 25, offset := 0, embedded := false, tag := "", pkgPath := "loop.example/g01182/impl", byteOffset := 0 }, { name := "backBox", type := 25, offset := 256, embedded := false, tag := "", pkgPath := "loop.example/g01182/impl", byteOffset := 256 }, { name := "mixer", type := 89, offset := 512, embedded := false, tag := "", pkgPath := "loop.example/g01182/impl", byteOffset := 512 }, { name := "backMixer", type := 89, offset := 513, embedded := false, tag := "", pkgPath := "loop.example/g01182/impl", byteOffset := 520 }, { name := "kind", type := 2, offset := 514, embedded := false, tag := "", pkgPath := "loop.example/g01182/impl", byteOffset := 528 }], 515, 536, (bs (List.replicate 256 0) ++ (bs (List.replicate 256 0) ++ (.c (.pointer none) :: (.c (.pointer none) :: (.c (.int .i64 0) :: []))))), false⟩ := by simp only [← zeros_bs, ← zeros_blv]; rfl
theorem E96 : E 96 = some ⟨TypeDesc.array 256 4, 256, 256, (blv (List.replicate 256 false)), false⟩ := by simp only [← zeros_bs, ← zeros_blv]; rfl
theorem E98 : E 98 = some ⟨TypeDesc.slice 4, 1, 24, (.c (.slice none 0 0) :: []), false⟩ := rfl
theorem E105 : E 105 = some ⟨TypeDesc.array 16 5, 16, 16, (bs (List.replicate 16 0)), false⟩ := by simp only [← zeros_bs, ← zeros_blv]; rfl
theorem E106 : E 106 = some ⟨TypeDesc.struct #[{ name := "Field", type := 2, offset := 0, embedded := false, tag := "", pkgPath := "", byteOffset := 0 }, { name := "Box", type := 25, offset := 1, embedded := false, tag := "", pkgPath := "", byteOffset := 8 }, { name := "Mix", type := 28, offset := 257, embedded := false, tag := "", pkgPath := "", byteOffset := 264 }, { name := "Places", type := 105, offset := 273, embedded := false, tag := "", pkgPath := "", byteOffset := 280 }, { name := "Rounds", type := 2, offset := 289, embedded := false, tag := "", pkgPath := "", byteOffset := 296 }], 290, 304, (.c (.int .i64 0) :: (bs (List.replicate 256 0) ++ (bs (List.replicate 16 0) ++ (bs (List.replicate 16 0) ++ (.c (.int .i64 0) :: []))))), false⟩ := by simp only [← zeros_bs, ← zeros_blv]; rfl
theorem E107 : E 107 = some ⟨TypeDesc.struct #[{ name := "Field", type := 2, offset := 0, embedded := false, tag := "", pkgPath := "", byteOffset := 0 }, { name := "Box", type := 25, offset := 1, embedded := false, tag := "", pkgPath := "", byteOffset := 8 }, { name := "Mix", type := 28, offset := 257, embedded := false, tag := "", pkgPath := "", byteOffset := 264 }, { name := "Places", type := 105, offset := 273, embedded := false, tag := "", pkgPath := "", byteOffset := 280 }, { name := "Rounds", type := 2, offset := 289, embedded := false, tag := "", pkgPath := "", byteOffset := 296 }], 290, 304, (.c (.int .i64 0) :: (bs (List.replicate 256 0) ++ (bs (List.replicate 16 0) ++ (bs (List.replicate 16 0) ++ (.c (.int .i64 0) :: []))))), false⟩ := by simp only [← zeros_bs, ← zeros_blv]; rfl
theorem E109 : E 109 = some ⟨TypeDesc.int IntKind.u64, 1, 8, (.c (.int .u64 0) :: []), false⟩ := rfl
theorem E110 : E 110 = some ⟨TypeDesc.slice 2, 1, 24, (.c (.slice none 0 0) :: []), false⟩ := rfl
theorem E114 : E 114 = some ⟨TypeDesc.array 4 24, 1024, 1024, (bs (List.replicate 1024 0)), false⟩ := by simp only [← zeros_bs, ← zeros_blv]; rfl
theorem E115 : E 115 = some ⟨TypeDesc.array 4 114, 4096, 4096, (bs (List.replicate 4096 0)), false⟩ := by simp only [← zeros_bs, ← zeros_blv]; rfl
theorem E116 : E 116 = some ⟨TypeDesc.array 4 114, 4096, 4096, (bs (List.replicate 4096 0)), false⟩ := by simp only [← zeros_bs, ← zeros_blv]; rfl
theorem E120 : E 120 = some ⟨TypeDesc.slice 22, 1, 24, (.c (.slice none 0 0) :: []), false⟩ := rfl
theorem E141 : E 141 = some ⟨TypeDesc.int IntKind.u32, 1, 4, (.c (.int .u32 0) :: []), false⟩ := rfl
noncomputable def XX (ord : Nat → Tr) (flt : Nat → Flt) (mu : List FuncId) (m : Nat) : Cx := ⟨E, Try.prog, ord, flt, mu, m⟩
/-- The type facts, bundled. -/
theorem TT : type_of% (
  And.intro E2 <|
  And.intro E3 <|
  And.intro E4 <|
  And.intro E5 <|
  And.intro E9 <|
  And.intro E12 <|
  And.intro E13 <|
  And.intro E21 <|
  And.intro E22 <|
  And.intro E24 <|
  And.intro E25 <|
  And.intro E26 <|
  And.intro E27 <|
  And.intro E28 <|
  And.intro E29 <|
  And.intro E30 <|
  And.intro E31 <|
  And.intro E32 <|
  And.intro E33 <|
  And.intro E42 <|
  And.intro E43 <|
  And.intro E59 <|
  And.intro E78 <|
  And.intro E79 <|
  And.intro E80 <|
  And.intro E86 <|
  And.intro E89 <|
  And.intro E91 <|
  And.intro E92 <|
  And.intro E96 <|
  And.intro E98 <|
  And.intro E105 <|
  And.intro E106 <|
  And.intro E107 <|
  And.intro E109 <|
  And.intro E110 <|
  And.intro E114 <|
  And.intro E115 <|
  And.intro E116 <|
  And.intro E120 <|
  E141) :=
  And.intro E2 <|
  And.intro E3 <|
  And.intro E4 <|
  And.intro E5 <|
  And.intro E9 <|
  And.intro E12 <|
  And.intro E13 <|
  And.intro E21 <|
  And.intro E22 <|
  And.intro E24 <|
  And.intro E25 <|
  And.intro E26 <|
  And.intro E27 <|
  And.intro E28 <|
  And.intro E29 <|
  And.intro E30 <|
  And.intro E31 <|
  And.intro E32 <|
  And.intro E33 <|
  And.intro E42 <|
  And.intro E43 <|
  And.intro E59 <|
  And.intro E78 <|
  And.intro E79 <|
  And.intro E80 <|
  And.intro E86 <|
  And.intro E89 <|
  And.intro E91 <|
  And.intro E92 <|
  And.intro E96 <|
  And.intro E98 <|
  And.intro E105 <|
  And.intro E106 <|
  And.intro E107 <|
  And.intro E109 <|
  And.intro E110 <|
  And.intro E114 <|
  And.intro E115 <|
  And.intro E116 <|
  And.intro E120 <|
  E141
end Go.Proofs.Ytjakgjelnbpmnaa

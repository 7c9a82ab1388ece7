import Derived.Test.YtledcckafhpgaaaVcgQ
import Derived.Test.YtledcckafhpgaaaChecked
/- The types of this seat as my verification conditions see them: underlying type, size, bytes, zero cells; each checked against the program's own table. -/
set_option linter.unusedSimpArgs false
set_option linter.unusedVariables false
namespace Go.Proofs.Ytledcckafhpgaaa
open Go Go.Vc
def T2 : TD := ⟨TypeDesc.int IntKind.i64, 1, 8, (.c (.int .i64 0) :: []), false⟩
def T3 : TD := ⟨TypeDesc.int IntKind.i64, 1, 8, (.c (.int .i64 0) :: []), false⟩
def T4 : TD := ⟨TypeDesc.bool, 1, 1, (.c (.bool false) :: []), false⟩
def T5 : TD := ⟨TypeDesc.int IntKind.u8, 1, 1, (.c (.int .u8 0) :: []), false⟩
def T9 : TD := ⟨TypeDesc.string, 1, 16, (.c (.string ⟨#[]⟩) :: []), false⟩
def T12 : TD := ⟨TypeDesc.int IntKind.u64, 1, 8, (.c (.int .u64 0) :: []), false⟩
def T13 : TD := ⟨TypeDesc.struct #[{ name := "msg", type := 9, offset := 0, embedded := false, tag := "", pkgPath := "runtime", byteOffset := 0 }, { name := "addr", type := 12, offset := 1, embedded := false, tag := "", pkgPath := "runtime", byteOffset := 16 }], 2, 24, (.c (.string ⟨#[]⟩) :: (.c (.int .u64 0) :: [])), false⟩
def T21 : TD := ⟨TypeDesc.int IntKind.i32, 1, 4, (.c (.int .i32 0) :: []), false⟩
def T22 : TD := ⟨TypeDesc.slice 5, 1, 24, (.c (.slice none 0 0) :: []), false⟩
def T24 : TD := ⟨TypeDesc.slice 31, 1, 24, (.c (.slice none 0 0) :: []), false⟩
def T30 : TD := ⟨TypeDesc.array 32 5, 32, 32, (List.replicate 32 (.c (.int .u8 0))), false⟩
def T31 : TD := ⟨TypeDesc.array 32 5, 32, 32, (List.replicate 32 (.c (.int .u8 0))), false⟩
def T44 : TD := ⟨TypeDesc.int IntKind.u64, 1, 8, (.c (.int .u64 0) :: []), false⟩
def T52 : TD := ⟨TypeDesc.pointer 102, 1, 8, (.c (.pointer none) :: []), false⟩
def T53 : TD := ⟨TypeDesc.struct #[{ name := "engine", type := 52, offset := 0, embedded := false, tag := "", pkgPath := "loop.example/g01182/impl", byteOffset := 0 }], 1, 8, (.c (.pointer none) :: []), false⟩
def T54 : TD := ⟨TypeDesc.struct #[{ name := "engine", type := 52, offset := 0, embedded := false, tag := "", pkgPath := "loop.example/g01182/impl", byteOffset := 0 }], 1, 8, (.c (.pointer none) :: []), false⟩
def T65 : TD := ⟨TypeDesc.struct #[{ name := "b", type := 22, offset := 0, embedded := false, tag := "", pkgPath := "loop.example/g01182/laws", byteOffset := 0 }, { name := "i", type := 3, offset := 1, embedded := false, tag := "", pkgPath := "loop.example/g01182/laws", byteOffset := 24 }, { name := "h", type := 44, offset := 2, embedded := false, tag := "", pkgPath := "loop.example/g01182/laws", byteOffset := 32 }], 3, 40, (.c (.slice none 0 0) :: (.c (.int .i64 0) :: (.c (.int .u64 0) :: []))), false⟩
def T66 : TD := ⟨TypeDesc.struct #[{ name := "b", type := 22, offset := 0, embedded := false, tag := "", pkgPath := "loop.example/g01182/laws", byteOffset := 0 }, { name := "i", type := 3, offset := 1, embedded := false, tag := "", pkgPath := "loop.example/g01182/laws", byteOffset := 24 }, { name := "h", type := 44, offset := 2, embedded := false, tag := "", pkgPath := "loop.example/g01182/laws", byteOffset := 32 }], 3, 40, (.c (.slice none 0 0) :: (.c (.int .i64 0) :: (.c (.int .u64 0) :: []))), false⟩
def T67 : TD := ⟨TypeDesc.int IntKind.u64, 1, 8, (.c (.int .u64 0) :: []), false⟩
def T68 : TD := ⟨TypeDesc.struct #[{ name := "code", type := 22, offset := 0, embedded := false, tag := "", pkgPath := "loop.example/g01182/spec", byteOffset := 0 }, { name := "at", type := 3, offset := 1, embedded := false, tag := "", pkgPath := "loop.example/g01182/spec", byteOffset := 24 }, { name := "hash", type := 44, offset := 2, embedded := false, tag := "", pkgPath := "loop.example/g01182/spec", byteOffset := 32 }], 3, 40, (.c (.slice none 0 0) :: (.c (.int .i64 0) :: (.c (.int .u64 0) :: []))), false⟩
def T69 : TD := ⟨TypeDesc.struct #[{ name := "code", type := 22, offset := 0, embedded := false, tag := "", pkgPath := "loop.example/g01182/spec", byteOffset := 0 }, { name := "at", type := 3, offset := 1, embedded := false, tag := "", pkgPath := "loop.example/g01182/spec", byteOffset := 24 }, { name := "hash", type := 44, offset := 2, embedded := false, tag := "", pkgPath := "loop.example/g01182/spec", byteOffset := 32 }], 3, 40, (.c (.slice none 0 0) :: (.c (.int .i64 0) :: (.c (.int .u64 0) :: []))), false⟩
def T75 : TD := ⟨TypeDesc.array 256 5, 256, 256, (List.replicate 256 (.c (.int .u8 0))), false⟩
def T76 : TD := ⟨TypeDesc.array 256 5, 256, 256, (List.replicate 256 (.c (.int .u8 0))), false⟩
def T77 : TD := ⟨TypeDesc.array 4 5, 4, 4, (.c (.int .u8 0) :: .c (.int .u8 0) :: .c (.int .u8 0) :: .c (.int .u8 0) :: []), false⟩
def T78 : TD := ⟨TypeDesc.array 4 77, 16, 16, (List.replicate 16 (.c (.int .u8 0))), false⟩
def T79 : TD := ⟨TypeDesc.array 4 77, 16, 16, (List.replicate 16 (.c (.int .u8 0))), false⟩
def T80 : TD := ⟨TypeDesc.array 16 5, 16, 16, (List.replicate 16 (.c (.int .u8 0))), false⟩
def T81 : TD := ⟨TypeDesc.array 16 5, 16, 16, (List.replicate 16 (.c (.int .u8 0))), false⟩
def T82 : TD := ⟨TypeDesc.struct #[{ name := "Field", type := 2, offset := 0, embedded := false, tag := "", pkgPath := "", byteOffset := 0 }, { name := "Box", type := 76, offset := 1, embedded := false, tag := "", pkgPath := "", byteOffset := 8 }, { name := "Mix", type := 79, offset := 257, embedded := false, tag := "", pkgPath := "", byteOffset := 264 }, { name := "Places", type := 81, offset := 273, embedded := false, tag := "", pkgPath := "", byteOffset := 280 }, { name := "Rounds", type := 2, offset := 289, embedded := false, tag := "", pkgPath := "", byteOffset := 296 }], 290, 304, (.c (.int .i64 0) :: (List.replicate 256 (.c (.int .u8 0)) ++ (List.replicate 16 (.c (.int .u8 0)) ++ (List.replicate 16 (.c (.int .u8 0)) ++ (.c (.int .i64 0) :: []))))), false⟩
def T83 : TD := ⟨TypeDesc.struct #[{ name := "Field", type := 2, offset := 0, embedded := false, tag := "", pkgPath := "", byteOffset := 0 }, { name := "Box", type := 76, offset := 1, embedded := false, tag := "", pkgPath := "", byteOffset := 8 }, { name := "Mix", type := 79, offset := 257, embedded := false, tag := "", pkgPath := "", byteOffset := 264 }, { name := "Places", type := 81, offset := 273, embedded := false, tag := "", pkgPath := "", byteOffset := 280 }, { name := "Rounds", type := 2, offset := 289, embedded := false, tag := "", pkgPath := "", byteOffset := 296 }], 290, 304, (.c (.int .i64 0) :: (List.replicate 256 (.c (.int .u8 0)) ++ (List.replicate 16 (.c (.int .u8 0)) ++ (List.replicate 16 (.c (.int .u8 0)) ++ (.c (.int .i64 0) :: []))))), false⟩
def T85 : TD := ⟨TypeDesc.slice 22, 1, 24, (.c (.slice none 0 0) :: []), false⟩
def T87 : TD := ⟨TypeDesc.slice 90, 1, 24, (.c (.slice none 0 0) :: []), false⟩
def T90 : TD := ⟨TypeDesc.array 16 5, 16, 16, (List.replicate 16 (.c (.int .u8 0))), false⟩
def T93 : TD := ⟨TypeDesc.slice 2, 1, 24, (.c (.slice none 0 0) :: []), false⟩
def T95 : TD := ⟨TypeDesc.int IntKind.i64, 1, 8, (.c (.int .i64 0) :: []), false⟩
def T99 : TD := ⟨TypeDesc.pointer 117, 1, 8, (.c (.pointer none) :: []), false⟩
def T101 : TD := ⟨TypeDesc.struct #[{ name := "box", type := 76, offset := 0, embedded := false, tag := "", pkgPath := "loop.example/g01182/impl", byteOffset := 0 }, { name := "backBox", type := 76, offset := 256, embedded := false, tag := "", pkgPath := "loop.example/g01182/impl", byteOffset := 256 }, { name := "places", type := 81, offset := 512, embedded := false, tag := "", pkgPath := "loop.example/g01182/impl", byteOffset := 512 }, { name := "backPlaces", type := 81, offset := 528, embedded := false, tag := "", pkgPath := "loop.example/g01182/impl", byteOffset := 528 }, { name := "mixer", type := 99, offset := 544, embedded := false, tag := "", pkgPath := "loop.example/g01182/impl", byteOffset := 544 }, { name := "backMixer", type := 99, offset := 545, embedded := false, tag := "", pkgPath := "loop.example/g01182/impl", byteOffset := 552 }, { name := "rounds", type := 2, offset := 546, embedded := false, tag := "", pkgPath := "loop.example/g01182/impl", byteOffset := 560 }], 547, 568, (List.replicate 256 (.c (.int .u8 0)) ++ (List.replicate 256 (.c (.int .u8 0)) ++ (List.replicate 16 (.c (.int .u8 0)) ++ (List.replicate 16 (.c (.int .u8 0)) ++ (.c (.pointer none) :: (.c (.pointer none) :: (.c (.int .i64 0) :: []))))))), false⟩
def T102 : TD := ⟨TypeDesc.struct #[{ name := "box", type := 76, offset := 0, embedded := false, tag := "", pkgPath := "loop.example/g01182/impl", byteOffset := 0 }, { name := "backBox", type := 76, offset := 256, embedded := false, tag := "", pkgPath := "loop.example/g01182/impl", byteOffset := 256 }, { name := "places", type := 81, offset := 512, embedded := false, tag := "", pkgPath := "loop.example/g01182/impl", byteOffset := 512 }, { name := "backPlaces", type := 81, offset := 528, embedded := false, tag := "", pkgPath := "loop.example/g01182/impl", byteOffset := 528 }, { name := "mixer", type := 99, offset := 544, embedded := false, tag := "", pkgPath := "loop.example/g01182/impl", byteOffset := 544 }, { name := "backMixer", type := 99, offset := 545, embedded := false, tag := "", pkgPath := "loop.example/g01182/impl", byteOffset := 552 }, { name := "rounds", type := 2, offset := 546, embedded := false, tag := "", pkgPath := "loop.example/g01182/impl", byteOffset := 560 }], 547, 568, (List.replicate 256 (.c (.int .u8 0)) ++ (List.replicate 256 (.c (.int .u8 0)) ++ (List.replicate 16 (.c (.int .u8 0)) ++ (List.replicate 16 (.c (.int .u8 0)) ++ (.c (.pointer none) :: (.c (.pointer none) :: (.c (.int .i64 0) :: []))))))), false⟩
def T115 : TD := ⟨TypeDesc.array 4 75, 1024, 1024, (List.replicate 1024 (.c (.int .u8 0))), false⟩
def T116 : TD := ⟨TypeDesc.array 4 115, 4096, 4096, (List.replicate 4096 (.c (.int .u8 0))), false⟩
def T117 : TD := ⟨TypeDesc.array 4 115, 4096, 4096, (List.replicate 4096 (.c (.int .u8 0))), false⟩
def T142 : TD := ⟨TypeDesc.int IntKind.u32, 1, 4, (.c (.int .u32 0) :: []), false⟩
def T155 : TD := ⟨TypeDesc.struct #[{ name := "Keys", type := 24, offset := 0, embedded := false, tag := "", pkgPath := "", byteOffset := 0 }, { name := "Data", type := 85, offset := 1, embedded := false, tag := "", pkgPath := "", byteOffset := 24 }, { name := "Counts", type := 93, offset := 2, embedded := false, tag := "", pkgPath := "", byteOffset := 48 }], 3, 72, (.c (.slice none 0 0) :: (.c (.slice none 0 0) :: (.c (.slice none 0 0) :: []))), false⟩
def T156 : TD := ⟨TypeDesc.struct #[{ name := "Keys", type := 24, offset := 0, embedded := false, tag := "", pkgPath := "", byteOffset := 0 }, { name := "Data", type := 85, offset := 1, embedded := false, tag := "", pkgPath := "", byteOffset := 24 }, { name := "Counts", type := 93, offset := 2, embedded := false, tag := "", pkgPath := "", byteOffset := 48 }], 3, 72, (.c (.slice none 0 0) :: (.c (.slice none 0 0) :: (.c (.slice none 0 0) :: []))), false⟩
def E : Env := fun t => match t with
  | 2 => some T2
  | 3 => some T3
  | 4 => some T4
  | 5 => some T5
  | 9 => some T9
  | 12 => some T12
  | 13 => some T13
  | 21 => some T21
  | 22 => some T22
  | 24 => some T24
  | 30 => some T30
  | 31 => some T31
  | 44 => some T44
  | 52 => some T52
  | 53 => some T53
  | 54 => some T54
  | 65 => some T65
  | 66 => some T66
  | 67 => some T67
  | 68 => some T68
  | 69 => some T69
  | 75 => some T75
  | 76 => some T76
  | 77 => some T77
  | 78 => some T78
  | 79 => some T79
  | 80 => some T80
  | 81 => some T81
  | 82 => some T82
  | 83 => some T83
  | 85 => some T85
  | 87 => some T87
  | 90 => some T90
  | 93 => some T93
  | 95 => some T95
  | 99 => some T99
  | 101 => some T101
  | 102 => some T102
  | 115 => some T115
  | 116 => some T116
  | 117 => some T117
  | 142 => some T142
  | 155 => some T155
  | 156 => some T156
  | _ => none
theorem i2 : ∃ i z, Try.prog.info? 2 = some i ∧ i.size = T2.size ∧ i.bytes = T2.bytes ∧ i.zero = some z ∧ z.cells.toList.map V.c = T2.zero ∧ (∀ c ∈ z.cells.toList, c.oneCell' = true) ∧ T2.zero.length = T2.size := ⟨Try.t2, _, by kernel_rfl, by kernel_rfl, by kernel_rfl, rfl, by kernel_rfl, List.all_eq_true.1 (by kernel_rfl), by kernel_rfl⟩
theorem i3 : ∃ i z, Try.prog.info? 3 = some i ∧ i.size = T3.size ∧ i.bytes = T3.bytes ∧ i.zero = some z ∧ z.cells.toList.map V.c = T3.zero ∧ (∀ c ∈ z.cells.toList, c.oneCell' = true) ∧ T3.zero.length = T3.size := ⟨Try.t3, _, by kernel_rfl, by kernel_rfl, by kernel_rfl, rfl, by kernel_rfl, List.all_eq_true.1 (by kernel_rfl), by kernel_rfl⟩
theorem i4 : ∃ i z, Try.prog.info? 4 = some i ∧ i.size = T4.size ∧ i.bytes = T4.bytes ∧ i.zero = some z ∧ z.cells.toList.map V.c = T4.zero ∧ (∀ c ∈ z.cells.toList, c.oneCell' = true) ∧ T4.zero.length = T4.size := ⟨Try.t4, _, by kernel_rfl, by kernel_rfl, by kernel_rfl, rfl, by kernel_rfl, List.all_eq_true.1 (by kernel_rfl), by kernel_rfl⟩
theorem i5 : ∃ i z, Try.prog.info? 5 = some i ∧ i.size = T5.size ∧ i.bytes = T5.bytes ∧ i.zero = some z ∧ z.cells.toList.map V.c = T5.zero ∧ (∀ c ∈ z.cells.toList, c.oneCell' = true) ∧ T5.zero.length = T5.size := ⟨Try.t5, _, by kernel_rfl, by kernel_rfl, by kernel_rfl, rfl, by kernel_rfl, List.all_eq_true.1 (by kernel_rfl), by kernel_rfl⟩
theorem i9 : ∃ i z, Try.prog.info? 9 = some i ∧ i.size = T9.size ∧ i.bytes = T9.bytes ∧ i.zero = some z ∧ z.cells.toList.map V.c = T9.zero ∧ (∀ c ∈ z.cells.toList, c.oneCell' = true) ∧ T9.zero.length = T9.size := ⟨Try.t9, _, by kernel_rfl, by kernel_rfl, by kernel_rfl, rfl, by kernel_rfl, List.all_eq_true.1 (by kernel_rfl), by kernel_rfl⟩
theorem i12 : ∃ i z, Try.prog.info? 12 = some i ∧ i.size = T12.size ∧ i.bytes = T12.bytes ∧ i.zero = some z ∧ z.cells.toList.map V.c = T12.zero ∧ (∀ c ∈ z.cells.toList, c.oneCell' = true) ∧ T12.zero.length = T12.size := ⟨Try.t12, _, by kernel_rfl, by kernel_rfl, by kernel_rfl, rfl, by kernel_rfl, List.all_eq_true.1 (by kernel_rfl), by kernel_rfl⟩
theorem i13 : ∃ i z, Try.prog.info? 13 = some i ∧ i.size = T13.size ∧ i.bytes = T13.bytes ∧ i.zero = some z ∧ z.cells.toList.map V.c = T13.zero ∧ (∀ c ∈ z.cells.toList, c.oneCell' = true) ∧ T13.zero.length = T13.size := ⟨Try.t13, _, by kernel_rfl, by kernel_rfl, by kernel_rfl, rfl, by kernel_rfl, List.all_eq_true.1 (by kernel_rfl), by kernel_rfl⟩
theorem i21 : ∃ i z, Try.prog.info? 21 = some i ∧ i.size = T21.size ∧ i.bytes = T21.bytes ∧ i.zero = some z ∧ z.cells.toList.map V.c = T21.zero ∧ (∀ c ∈ z.cells.toList, c.oneCell' = true) ∧ T21.zero.length = T21.size := ⟨Try.t21, _, by kernel_rfl, by kernel_rfl, by kernel_rfl, rfl, by kernel_rfl, List.all_eq_true.1 (by kernel_rfl), by kernel_rfl⟩
theorem i22 : ∃ i z, Try.prog.info? 22 = some i ∧ i.size = T22.size ∧ i.bytes = T22.bytes ∧ i.zero = some z ∧ z.cells.toList.map V.c = T22.zero ∧ (∀ c ∈ z.cells.toList, c.oneCell' = true) ∧ T22.zero.length = T22.size := ⟨Try.t22, _, by kernel_rfl, by kernel_rfl, by kernel_rfl, rfl, by kernel_rfl, List.all_eq_true.1 (by kernel_rfl), by kernel_rfl⟩
theorem i24 : ∃ i z, Try.prog.info? 24 = some i ∧ i.size = T24.size ∧ i.bytes = T24.bytes ∧ i.zero = some z ∧ z.cells.toList.map V.c = T24.zero ∧ (∀ c ∈ z.cells.toList, c.oneCell' = true) ∧ T24.zero.length = T24.size := ⟨Try.t24, _, by kernel_rfl, by kernel_rfl, by kernel_rfl, rfl, by kernel_rfl, List.all_eq_true.1 (by kernel_rfl), by kernel_rfl⟩
theorem i30 : ∃ i z, Try.prog.info? 30 = some i ∧ i.size = T30.size ∧ i.bytes = T30.bytes ∧ i.zero = some z ∧ z.cells.toList.map V.c = T30.zero ∧ (∀ c ∈ z.cells.toList, c.oneCell' = true) ∧ T30.zero.length = T30.size := ⟨Try.t30, _, by kernel_rfl, by kernel_rfl, by kernel_rfl, rfl, by kernel_rfl, List.all_eq_true.1 (by kernel_rfl), by kernel_rfl⟩
theorem i31 : ∃ i z, Try.prog.info? 31 = some i ∧ i.size = T31.size ∧ i.bytes = T31.bytes ∧ i.zero = some z ∧ z.cells.toList.map V.c = T31.zero ∧ (∀ c ∈ z.cells.toList, c.oneCell' = true) ∧ T31.zero.length = T31.size := ⟨Try.t31, _, by kernel_rfl, by kernel_rfl, by kernel_rfl, rfl, by kernel_rfl, List.all_eq_true.1 (by kernel_rfl), by kernel_rfl⟩
theorem i44 : ∃ i z, Try.prog.info? 44 = some i ∧ i.size = T44.size ∧ i.bytes = T44.bytes ∧ i.zero = some z ∧ z.cells.toList.map V.c = T44.zero ∧ (∀ c ∈ z.cells.toList, c.oneCell' = true) ∧ T44.zero.length = T44.size := ⟨Try.t44, _, by kernel_rfl, by kernel_rfl, by kernel_rfl, rfl, by kernel_rfl, List.all_eq_true.1 (by kernel_rfl), by kernel_rfl⟩
theorem i52 : ∃ i z, Try.prog.info? 52 = some i ∧ i.size = T52.size ∧ i.bytes = T52.bytes ∧ i.zero = some z ∧ z.cells.toList.map V.c = T52.zero ∧ (∀ c ∈ z.cells.toList, c.oneCell' = true) ∧ T52.zero.length = T52.size := ⟨Try.t52, _, by kernel_rfl, by kernel_rfl, by kernel_rfl, rfl, by kernel_rfl, List.all_eq_true.1 (by kernel_rfl), by kernel_rfl⟩
theorem i53 : ∃ i z, Try.prog.info? 53 = some i ∧ i.size = T53.size ∧ i.bytes = T53.bytes ∧ i.zero = some z ∧ z.cells.toList.map V.c = T53.zero ∧ (∀ c ∈ z.cells.toList, c.oneCell' = true) ∧ T53.zero.length = T53.size := ⟨Try.t53, _, by kernel_rfl, by kernel_rfl, by kernel_rfl, rfl, by kernel_rfl, List.all_eq_true.1 (by kernel_rfl), by kernel_rfl⟩
theorem i54 : ∃ i z, Try.prog.info? 54 = some i ∧ i.size = T54.size ∧ i.bytes = T54.bytes ∧ i.zero = some z ∧ z.cells.toList.map V.c = T54.zero ∧ (∀ c ∈ z.cells.toList, c.oneCell' = true) ∧ T54.zero.length = T54.size := ⟨Try.t54, _, by kernel_rfl, by kernel_rfl, by kernel_rfl, rfl, by kernel_rfl, List.all_eq_true.1 (by kernel_rfl), by kernel_rfl⟩
theorem i65 : ∃ i z, Try.prog.info? 65 = some i ∧ i.size = T65.size ∧ i.bytes = T65.bytes ∧ i.zero = some z ∧ z.cells.toList.map V.c = T65.zero ∧ (∀ c ∈ z.cells.toList, c.oneCell' = true) ∧ T65.zero.length = T65.size := ⟨Try.t65, _, by kernel_rfl, by kernel_rfl, by kernel_rfl, rfl, by kernel_rfl, List.all_eq_true.1 (by kernel_rfl), by kernel_rfl⟩
theorem i66 : ∃ i z, Try.prog.info? 66 = some i ∧ i.size = T66.size ∧ i.bytes = T66.bytes ∧ i.zero = some z ∧ z.cells.toList.map V.c = T66.zero ∧ (∀ c ∈ z.cells.toList, c.oneCell' = true) ∧ T66.zero.length = T66.size := ⟨Try.t66, _, by kernel_rfl, by kernel_rfl, by kernel_rfl, rfl, by kernel_rfl, List.all_eq_true.1 (by kernel_rfl), by kernel_rfl⟩
theorem i67 : ∃ i z, Try.prog.info? 67 = some i ∧ i.size = T67.size ∧ i.bytes = T67.bytes ∧ i.zero = some z ∧ z.cells.toList.map V.c = T67.zero ∧ (∀ c ∈ z.cells.toList, c.oneCell' = true) ∧ T67.zero.length = T67.size := ⟨Try.t67, _, by kernel_rfl, by kernel_rfl, by kernel_rfl, rfl, by kernel_rfl, List.all_eq_true.1 (by kernel_rfl), by kernel_rfl⟩
theorem i68 : ∃ i z, Try.prog.info? 68 = some i ∧ i.size = T68.size ∧ i.bytes = T68.bytes ∧ i.zero = some z ∧ z.cells.toList.map V.c = T68.zero ∧ (∀ c ∈ z.cells.toList, c.oneCell' = true) ∧ T68.zero.length = T68.size := ⟨Try.t68, _, by kernel_rfl, by kernel_rfl, by kernel_rfl, rfl, by kernel_rfl, List.all_eq_true.1 (by kernel_rfl), by kernel_rfl⟩
theorem i69 : ∃ i z, Try.prog.info? 69 = some i ∧ i.size = T69.size ∧ i.bytes = T69.bytes ∧ i.zero = some z ∧ z.cells.toList.map V.c = T69.zero ∧ (∀ c ∈ z.cells.toList, c.oneCell' = true) ∧ T69.zero.length = T69.size := ⟨Try.t69, _, by kernel_rfl, by kernel_rfl, by kernel_rfl, rfl, by kernel_rfl, List.all_eq_true.1 (by kernel_rfl), by kernel_rfl⟩
theorem i75 : ∃ i z, Try.prog.info? 75 = some i ∧ i.size = T75.size ∧ i.bytes = T75.bytes ∧ i.zero = some z ∧ z.cells.toList.map V.c = T75.zero ∧ (∀ c ∈ z.cells.toList, c.oneCell' = true) ∧ T75.zero.length = T75.size := ⟨Try.t75, _, by kernel_rfl, by kernel_rfl, by kernel_rfl, rfl, by kernel_rfl, List.all_eq_true.1 (by kernel_rfl), by kernel_rfl⟩
theorem i76 : ∃ i z, Try.prog.info? 76 = some i ∧ i.size = T76.size ∧ i.bytes = T76.bytes ∧ i.zero = some z ∧ z.cells.toList.map V.c = T76.zero ∧ (∀ c ∈ z.cells.toList, c.oneCell' = true) ∧ T76.zero.length = T76.size := ⟨Try.t76, _, by kernel_rfl, by kernel_rfl, by kernel_rfl, rfl, by kernel_rfl, List.all_eq_true.1 (by kernel_rfl), by kernel_rfl⟩
theorem i77 : ∃ i z, Try.prog.info? 77 = some i ∧ i.size = T77.size ∧ i.bytes = T77.bytes ∧ i.zero = some z ∧ z.cells.toList.map V.c = T77.zero ∧ (∀ c ∈ z.cells.toList, c.oneCell' = true) ∧ T77.zero.length = T77.size := ⟨Try.t77, _, by kernel_rfl, by kernel_rfl, by kernel_rfl, rfl, by kernel_rfl, List.all_eq_true.1 (by kernel_rfl), by kernel_rfl⟩
theorem i78 : ∃ i z, Try.prog.info? 78 = some i ∧ i.size = T78.size ∧ i.bytes = T78.bytes ∧ i.zero = some z ∧ z.cells.toList.map V.c = T78.zero ∧ (∀ c ∈ z.cells.toList, c.oneCell' = true) ∧ T78.zero.length = T78.size := ⟨Try.t78, _, by kernel_rfl, by kernel_rfl, by kernel_rfl, rfl, by kernel_rfl, List.all_eq_true.1 (by kernel_rfl), by kernel_rfl⟩
theorem i79 : ∃ i z, Try.prog.info? 79 = some i ∧ i.size = T79.size ∧ i.bytes = T79.bytes ∧ i.zero = some z ∧ z.cells.toList.map V.c = T79.zero ∧ (∀ c ∈ z.cells.toList, c.oneCell' = true) ∧ T79.zero.length = T79.size := ⟨Try.t79, _, by kernel_rfl, by kernel_rfl, by kernel_rfl, rfl, by kernel_rfl, List.all_eq_true.1 (by kernel_rfl), by kernel_rfl⟩
theorem i80 : ∃ i z, Try.prog.info? 80 = some i ∧ i.size = T80.size ∧ i.bytes = T80.bytes ∧ i.zero = some z ∧ z.cells.toList.map V.c = T80.zero ∧ (∀ c ∈ z.cells.toList, c.oneCell' = true) ∧ T80.zero.length = T80.size := ⟨Try.t80, _, by kernel_rfl, by kernel_rfl, by kernel_rfl, rfl, by kernel_rfl, List.all_eq_true.1 (by kernel_rfl), by kernel_rfl⟩
theorem i81 : ∃ i z, Try.prog.info? 81 = some i ∧ i.size = T81.size ∧ i.bytes = T81.bytes ∧ i.zero = some z ∧ z.cells.toList.map V.c = T81.zero ∧ (∀ c ∈ z.cells.toList, c.oneCell' = true) ∧ T81.zero.length = T81.size := ⟨Try.t81, _, by kernel_rfl, by kernel_rfl, by kernel_rfl, rfl, by kernel_rfl, List.all_eq_true.1 (by kernel_rfl), by kernel_rfl⟩
theorem i82 : ∃ i z, Try.prog.info? 82 = some i ∧ i.size = T82.size ∧ i.bytes = T82.bytes ∧ i.zero = some z ∧ z.cells.toList.map V.c = T82.zero ∧ (∀ c ∈ z.cells.toList, c.oneCell' = true) ∧ T82.zero.length = T82.size := ⟨Try.t82, _, by kernel_rfl, by kernel_rfl, by kernel_rfl, rfl, by kernel_rfl, List.all_eq_true.1 (by kernel_rfl), by kernel_rfl⟩
theorem i83 : ∃ i z, Try.prog.info? 83 = some i ∧ i.size = T83.size ∧ i.bytes = T83.bytes ∧ i.zero = some z ∧ z.cells.toList.map V.c = T83.zero ∧ (∀ c ∈ z.cells.toList, c.oneCell' = true) ∧ T83.zero.length = T83.size := ⟨Try.t83, _, by kernel_rfl, by kernel_rfl, by kernel_rfl, rfl, by kernel_rfl, List.all_eq_true.1 (by kernel_rfl), by kernel_rfl⟩
theorem i85 : ∃ i z, Try.prog.info? 85 = some i ∧ i.size = T85.size ∧ i.bytes = T85.bytes ∧ i.zero = some z ∧ z.cells.toList.map V.c = T85.zero ∧ (∀ c ∈ z.cells.toList, c.oneCell' = true) ∧ T85.zero.length = T85.size := ⟨Try.t85, _, by kernel_rfl, by kernel_rfl, by kernel_rfl, rfl, by kernel_rfl, List.all_eq_true.1 (by kernel_rfl), by kernel_rfl⟩
theorem i87 : ∃ i z, Try.prog.info? 87 = some i ∧ i.size = T87.size ∧ i.bytes = T87.bytes ∧ i.zero = some z ∧ z.cells.toList.map V.c = T87.zero ∧ (∀ c ∈ z.cells.toList, c.oneCell' = true) ∧ T87.zero.length = T87.size := ⟨Try.t87, _, by kernel_rfl, by kernel_rfl, by kernel_rfl, rfl, by kernel_rfl, List.all_eq_true.1 (by kernel_rfl), by kernel_rfl⟩
theorem i90 : ∃ i z, Try.prog.info? 90 = some i ∧ i.size = T90.size ∧ i.bytes = T90.bytes ∧ i.zero = some z ∧ z.cells.toList.map V.c = T90.zero ∧ (∀ c ∈ z.cells.toList, c.oneCell' = true) ∧ T90.zero.length = T90.size := ⟨Try.t90, _, by kernel_rfl, by kernel_rfl, by kernel_rfl, rfl, by kernel_rfl, List.all_eq_true.1 (by kernel_rfl), by kernel_rfl⟩
theorem i93 : ∃ i z, Try.prog.info? 93 = some i ∧ i.size = T93.size ∧ i.bytes = T93.bytes ∧ i.zero = some z ∧ z.cells.toList.map V.c = T93.zero ∧ (∀ c ∈ z.cells.toList, c.oneCell' = true) ∧ T93.zero.length = T93.size := ⟨Try.t93, _, by kernel_rfl, by kernel_rfl, by kernel_rfl, rfl, by kernel_rfl, List.all_eq_true.1 (by kernel_rfl), by kernel_rfl⟩
theorem i95 : ∃ i z, Try.prog.info? 95 = some i ∧ i.size = T95.size ∧ i.bytes = T95.bytes ∧ i.zero = some z ∧ z.cells.toList.map V.c = T95.zero ∧ (∀ c ∈ z.cells.toList, c.oneCell' = true) ∧ T95.zero.length = T95.size := ⟨Try.t95, _, by kernel_rfl, by kernel_rfl, by kernel_rfl, rfl, by kernel_rfl, List.all_eq_true.1 (by kernel_rfl), by kernel_rfl⟩
theorem i99 : ∃ i z, Try.prog.info? 99 = some i ∧ i.size = T99.size ∧ i.bytes = T99.bytes ∧ i.zero = some z ∧ z.cells.toList.map V.c = T99.zero ∧ (∀ c ∈ z.cells.toList, c.oneCell' = true) ∧ T99.zero.length = T99.size := ⟨Try.t99, _, by kernel_rfl, by kernel_rfl, by kernel_rfl, rfl, by kernel_rfl, List.all_eq_true.1 (by kernel_rfl), by kernel_rfl⟩
theorem i101 : ∃ i z, Try.prog.info? 101 = some i ∧ i.size = T101.size ∧ i.bytes = T101.bytes ∧ i.zero = some z ∧ z.cells.toList.map V.c = T101.zero ∧ (∀ c ∈ z.cells.toList, c.oneCell' = true) ∧ T101.zero.length = T101.size := ⟨Try.t101, _, by kernel_rfl, by kernel_rfl, by kernel_rfl, rfl, by kernel_rfl, List.all_eq_true.1 (by kernel_rfl), by kernel_rfl⟩
theorem i102 : ∃ i z, Try.prog.info? 102 = some i ∧ i.size = T102.size ∧ i.bytes = T102.bytes ∧ i.zero = some z ∧ z.cells.toList.map V.c = T102.zero ∧ (∀ c ∈ z.cells.toList, c.oneCell' = true) ∧ T102.zero.length = T102.size := ⟨Try.t102, _, by kernel_rfl, by kernel_rfl, by kernel_rfl, rfl, by kernel_rfl, List.all_eq_true.1 (by kernel_rfl), by kernel_rfl⟩
theorem i115 : ∃ i z, Try.prog.info? 115 = some i ∧ i.size = T115.size ∧ i.bytes = T115.bytes ∧ i.zero = some z ∧ z.cells.toList.map V.c = T115.zero ∧ (∀ c ∈ z.cells.toList, c.oneCell' = true) ∧ T115.zero.length = T115.size := ⟨Try.t115, _, by kernel_rfl, by kernel_rfl, by kernel_rfl, rfl, by kernel_rfl, List.all_eq_true.1 (by kernel_rfl), by kernel_rfl⟩
theorem i116 : ∃ i z, Try.prog.info? 116 = some i ∧ i.size = T116.size ∧ i.bytes = T116.bytes ∧ i.zero = some z ∧ z.cells.toList.map V.c = T116.zero ∧ (∀ c ∈ z.cells.toList, c.oneCell' = true) ∧ T116.zero.length = T116.size := ⟨Try.t116, _, by kernel_rfl, by kernel_rfl, by kernel_rfl, rfl, by kernel_rfl, List.all_eq_true.1 (by kernel_rfl), by kernel_rfl⟩
theorem i117 : ∃ i z, Try.prog.info? 117 = some i ∧ i.size = T117.size ∧ i.bytes = T117.bytes ∧ i.zero = some z ∧ z.cells.toList.map V.c = T117.zero ∧ (∀ c ∈ z.cells.toList, c.oneCell' = true) ∧ T117.zero.length = T117.size := ⟨Try.t117, _, by kernel_rfl, by kernel_rfl, by kernel_rfl, rfl, by kernel_rfl, List.all_eq_true.1 (by kernel_rfl), by kernel_rfl⟩
theorem i142 : ∃ i z, Try.prog.info? 142 = some i ∧ i.size = T142.size ∧ i.bytes = T142.bytes ∧ i.zero = some z ∧ z.cells.toList.map V.c = T142.zero ∧ (∀ c ∈ z.cells.toList, c.oneCell' = true) ∧ T142.zero.length = T142.size := ⟨Try.t142, _, by kernel_rfl, by kernel_rfl, by kernel_rfl, rfl, by kernel_rfl, List.all_eq_true.1 (by kernel_rfl), by kernel_rfl⟩
theorem i155 : ∃ i z, Try.prog.info? 155 = some i ∧ i.size = T155.size ∧ i.bytes = T155.bytes ∧ i.zero = some z ∧ z.cells.toList.map V.c = T155.zero ∧ (∀ c ∈ z.cells.toList, c.oneCell' = true) ∧ T155.zero.length = T155.size := ⟨Try.t155, _, by kernel_rfl, by kernel_rfl, by kernel_rfl, rfl, by kernel_rfl, List.all_eq_true.1 (by kernel_rfl), by kernel_rfl⟩
theorem i156 : ∃ i z, Try.prog.info? 156 = some i ∧ i.size = T156.size ∧ i.bytes = T156.bytes ∧ i.zero = some z ∧ z.cells.toList.map V.c = T156.zero ∧ (∀ c ∈ z.cells.toList, c.oneCell' = true) ∧ T156.zero.length = T156.size := ⟨Try.t156, _, by kernel_rfl, by kernel_rfl, by kernel_rfl, rfl, by kernel_rfl, List.all_eq_true.1 (by kernel_rfl), by kernel_rfl⟩
theorem envOK : EnvOK Try.prog E := by
  refine ⟨fun {t d} h => ?_, fun {t d} h => ?_, fun {t d} h => ?_, by kernel_rfl⟩
  · unfold E at h; split at h <;> first | (cases h; kernel_rfl) | cases h
  · unfold E at h; split at h <;> first | cases h | skip
    · exact i2
    · exact i3
    · exact i4
    · exact i5
    · exact i9
    · exact i12
    · exact i13
    · exact i21
    · exact i22
    · exact i24
    · exact i30
    · exact i31
    · exact i44
    · exact i52
    · exact i53
    · exact i54
    · exact i65
    · exact i66
    · exact i67
    · exact i68
    · exact i69
    · exact i75
    · exact i76
    · exact i77
    · exact i78
    · exact i79
    · exact i80
    · exact i81
    · exact i82
    · exact i83
    · exact i85
    · exact i87
    · exact i90
    · exact i93
    · exact i95
    · exact i99
    · exact i101
    · exact i102
    · exact i115
    · exact i116
    · exact i117
    · exact i142
    · exact i155
    · exact i156
  · unfold E at h; split at h <;> first | (cases h; kernel_rfl) | cases h
theorem E2 : E 2 = some ⟨TypeDesc.int IntKind.i64, 1, 8, (.c (.int .i64 0) :: []), false⟩ := rfl
theorem E3 : E 3 = some ⟨TypeDesc.int IntKind.i64, 1, 8, (.c (.int .i64 0) :: []), false⟩ := rfl
theorem E4 : E 4 = some ⟨TypeDesc.bool, 1, 1, (.c (.bool false) :: []), false⟩ := rfl
theorem E5 : E 5 = some ⟨TypeDesc.int IntKind.u8, 1, 1, (.c (.int .u8 0) :: []), false⟩ := rfl
theorem E9 : E 9 = some ⟨TypeDesc.string, 1, 16, (.c (.string ⟨#[]⟩) :: []), false⟩ := rfl
theorem E12 : E 12 = some ⟨TypeDesc.int IntKind.u64, 1, 8, (.c (.int .u64 0) :: []), false⟩ := rfl
theorem E13 : E 13 = some ⟨TypeDesc.struct #[{ name := "msg", type := 9, offset := 0, embedded := false, tag := "", pkgPath := "runtime", byteOffset := 0 }, { name := "addr", type := 12, offset := 1, embedded := false, tag := "", pkgPath := "runtime", byteOffset := 16 }], 2, 24, (.c (.string ⟨#[]⟩) :: (.c (.int .u64 0) :: [])), false⟩ := rfl
theorem E21 : E 21 = some ⟨TypeDesc.int IntKind.i32, 1, 4, (.c (.int .i32 0) :: []), false⟩ := rfl
theorem E22 : E 22 = some ⟨TypeDesc.slice 5, 1, 24, (.c (.slice none 0 0) :: []), false⟩ := rfl
theorem E24 : E 24 = some ⟨TypeDesc.slice 31, 1, 24, (.c (.slice none 0 0) :: []), false⟩ := rfl
theorem E30 : E 30 = some ⟨TypeDesc.array 32 5, 32, 32, (bs (List.replicate 32 0)), false⟩ := by simp only [← zeros_bs, ← zeros_blv]; rfl
theorem E31 : E 31 = some ⟨TypeDesc.array 32 5, 32, 32, (bs (List.replicate 32 0)), false⟩ := by simp only [← zeros_bs, ← zeros_blv]; rfl
theorem E44 : E 44 = some ⟨TypeDesc.int IntKind.u64, 1, 8, (.c (.int .u64 0) :: []), false⟩ := rfl
theorem E52 : E 52 = some ⟨TypeDesc.pointer 102, 1, 8, (.c (.pointer none) :: []), false⟩ := rfl
theorem E53 : E 53 = some ⟨TypeDesc.struct #[{ name := "engine", type := 52, offset := 0, embedded := false, tag := "", pkgPath := "loop.example/g01182/impl", byteOffset := 0 }], 1, 8, (.c (.pointer none) :: []), false⟩ := rfl
theorem E54 : E 54 = some ⟨TypeDesc.struct #[{ name := "engine", type := 52, offset := 0, embedded := false, tag := "", pkgPath := "loop.example/g01182/impl", byteOffset := 0 }], 1, 8, (.c (.pointer none) :: []), false⟩ := rfl
theorem E65 : E 65 = some ⟨TypeDesc.struct #[{ name := "b", type := 22, offset := 0, embedded := false, tag := "", pkgPath := "loop.example/g01182/laws", byteOffset := 0 }, { name := "i", type := 3, offset := 1, embedded := false, tag := "", pkgPath := "loop.example/g01182/laws", byteOffset := 24 }, { name := "h", type := 44, offset := 2, embedded := false, tag := "", pkgPath := "loop.example/g01182/laws", byteOffset := 32 }], 3, 40, (.c (.slice none 0 0) :: (.c (.int .i64 0) :: (.c (.int .u64 0) :: []))), false⟩ := rfl
theorem E66 : E 66 = some ⟨TypeDesc.struct #[{ name := "b", type := 22, offset := 0, embedded := false, tag := "", pkgPath := "loop.example/g01182/laws", byteOffset := 0 }, { name := "i", type := 3, offset := 1, embedded := false, tag := "", pkgPath := "loop.example/g01182/laws", byteOffset := 24 }, { name := "h", type := 44, offset := 2, embedded := false, tag := "", pkgPath := "loop.example/g01182/laws", byteOffset := 32 }], 3, 40, (.c (.slice none 0 0) :: (.c (.int .i64 0) :: (.c (.int .u64 0) :: []))), false⟩ := rfl
theorem E67 : E 67 = some ⟨TypeDesc.int IntKind.u64, 1, 8, (.c (.int .u64 0) :: []), false⟩ := rfl
theorem E68 : E 68 = some ⟨TypeDesc.struct #[{ name := "code", type := 22, offset := 0, embedded := false, tag := "", pkgPath := "loop.example/g01182/spec", byteOffset := 0 }, { name := "at", type := 3, offset := 1, embedded := false, tag := "", pkgPath := "loop.example/g01182/spec", byteOffset := 24 }, { name := "hash", type := 44, offset := 2, embedded := false, tag := "", pkgPath := "loop.example/g01182/spec", byteOffset := 32 }], 3, 40, (.c (.slice none 0 0) :: (.c (.int .i64 0) :: (.c (.int .u64 0) :: []))), false⟩ := rfl
theorem E69 : E 69 = some ⟨TypeDesc.struct #[{ name := "code", type := 22, offset := 0, embedded := false, tag := "", pkgPath := "loop.example/g01182/spec", byteOffset := 0 }, { name := "at", type := 3, offset := 1, embedded := false, tag := "", pkgPath := "loop.example/g01182/spec", byteOffset := 24 }, { name := "hash", type := 44, offset := 2, embedded := false, tag := "", pkgPath := "loop.example/g01182/spec", byteOffset := 32 }], 3, 40, (.c (.slice none 0 0) :: (.c (.int .i64 0) :: (.c (.int .u64 0) :: []))), false⟩ := rfl
theorem E75 : E 75 = some ⟨TypeDesc.array 256 5, 256, 256, (bs (List.replicate 256 0)), false⟩ := by simp only [← zeros_bs, ← zeros_blv]; rfl
theorem E76 : E 76 = some ⟨TypeDesc.array 256 5, 256, 256, (bs (List.replicate 256 0)), false⟩ := by simp only [← zeros_bs, ← zeros_blv]; rfl
theorem E77 : E 77 = some ⟨TypeDesc.array 4 5, 4, 4, (bs (List.replicate 4 0)), false⟩ := by simp only [← zeros_bs, ← zeros_blv]; rfl
theorem E78 : E 78 = some ⟨TypeDesc.array 4 77, 16, 16, (bs (List.replicate 16 0)), false⟩ := by simp only [← zeros_bs, ← zeros_blv]; rfl
theorem E79 : E 79 = some ⟨TypeDesc.array 4 77, 16, 16, (bs (List.replicate 16 0)), false⟩ := by simp only [← zeros_bs, ← zeros_blv]; rfl
theorem E80 : E 80 = some ⟨TypeDesc.array 16 5, 16, 16, (bs (List.replicate 16 0)), false⟩ := by simp only [← zeros_bs, ← zeros_blv]; rfl
theorem E81 : E 81 = some ⟨TypeDesc.array 16 5, 16, 16, (bs (List.replicate 16 0)), false⟩ := by simp only [← zeros_bs, ← zeros_blv]; rfl
theorem E82 : E 82 = some ⟨TypeDesc.struct #[{ name := "Field", type := 2, offset := 0, embedded := false, tag := "", pkgPath := "", byteOffset := 0 }, { name := "Box", type := 76, offset := 1, embedded := false, tag := "", pkgPath := "", byteOffset := 8 }, { name := "Mix", type := 79, offset := 257, embedded := false, tag := "", pkgPath := "", byteOffset := 264 }, { name := "Places", type := 81, offset := 273, embedded := false, tag := "", pkgPath := "", byteOffset := 280 }, { name := "Rounds", type := 2, offset := 289, embedded := false, tag := "", pkgPath := "", byteOffset := 296 }], 290, 304, (.c (.int .i64 0) :: (bs (List.replicate 256 0) ++ (bs (List.replicate 16 0) ++ (bs (List.replicate 16 0) ++ (.c (.int .i64 0) :: []))))), false⟩ := by simp only [← zeros_bs, ← zeros_blv]; rfl
theorem E83 : E 83 = some ⟨TypeDesc.struct #[{ name := "Field", type := 2, offset := 0, embedded := false, tag := "", pkgPath := "", byteOffset := 0 }, { name := "Box", type := 76, offset := 1, embedded := false, tag := "", pkgPath := "", byteOffset := 8 }, { name := "Mix", type := 79, offset := 257, embedded := false, tag := "", pkgPath := "", byteOffset := 264 }, { name := "Places", type := 81, offset := 273, embedded := false, tag := "", pkgPath := "", byteOffset := 280 }, { name := "Rounds", type := 2, offset := 289, embedded := false, tag := "", pkgPath := "", byteOffset := 296 }], 290, 304, (.c (.int .i64 0) :: (bs (List.replicate 256 0) ++ (bs (List.replicate 16 0) ++ (bs (List.replicate 16 0) ++ (.c (.int .i64 0) :: []))))), false⟩ := by simp only [← zeros_bs, ← zeros_blv]; rfl
theorem E85 : E 85 = some ⟨TypeDesc.slice 22, 1, 24, (.c (.slice none 0 0) :: []), false⟩ := rfl
theorem E87 : E 87 = some ⟨TypeDesc.slice 90, 1, 24, (.c (.slice none 0 0) :: []), false⟩ := rfl
theorem E90 : E 90 = some ⟨TypeDesc.array 16 5, 16, 16, (bs (List.replicate 16 0)), false⟩ := by simp only [← zeros_bs, ← zeros_blv]; rfl
theorem E93 : E 93 = some ⟨TypeDesc.slice 2, 1, 24, (.c (.slice none 0 0) :: []), false⟩ := rfl
theorem E95 : E 95 = some ⟨TypeDesc.int IntKind.i64, 1, 8, (.c (.int .i64 0) :: []), false⟩ := rfl
theorem E99 : E 99 = some ⟨TypeDesc.pointer 117, 1, 8, (.c (.pointer none) :: []), false⟩ := rfl
theorem E101 : E 101 = some ⟨TypeDesc.struct #[{ name := "box", type := 76, offset := 0, embedded := false, tag := "", pkgPath := "loop.example/g01182/impl", byteOffset := 0 }, { name := "backBox", type := 76, offset := 256, embedded := false, tag := "", pkgPath := "loop.example/g01182/impl", byteOffset := 256 }, { name := "places", type := 81, offset := 512, embedded := false, tag := "", pkgPath := "loop.example/g01182/impl", byteOffset := 512 }, { name := "backPlaces", type := 81, offset := 528, embedded := false, tag := "", pkgPath := "loop.example/g01182/impl", byteOffset := 528 }, { name := "mixer", type := 99, offset := 544, embedded := false, tag := "", pkgPath := "loop.example/g01182/impl", byteOffset := 544 }, { name := "backMixer", type := 99, offset := 545, embedded := false, tag := "", pkgPath := "loop.example/g01182/impl", byteOffset := 552 }, { name := "rounds", type := 2, offset := 546, embedded := false, tag := "", pkgPath := "loop.example/g01182/impl", byteOffset := 560 }], 547, 568, (bs (List.replicate 256 0) ++ (bs (List.replicate 256 0) ++ (bs (List.replicate 16 0) ++ (bs (List.replicate 16 0) ++ (.c (.pointer none) :: (.c (.pointer none) :: (.c (.int .i64 0) :: []))))))), false⟩ := by simp only [← zeros_bs, ← zeros_blv]; rfl
theorem E102 : E 102 = some ⟨TypeDesc.struct #[{ name := "box", type := 76, offset := 0, embedded := false, tag := "", pkgPath := "loop.example/g01182/impl", byteOffset := 0 }, { name := "backBox", type := 76, offset := 256, embedded := false, tag := "", pkgPath := "loop.example/g01182/impl", byteOffset := 256 }, { name := "places", type := 81, offset := 512, embedded := false, tag := "", pkgPath := "loop.example/g01182/impl", byteOffset := 512 }, { name := "backPlaces", type := 81, offset := 528, embedded := false, tag := "", pkgPath := "loop.example/g01182/impl", byteOffset := 528 }, { name := "mixer", type := 99, offset := 544, embedded := false, tag := "", pkgPath := "loop.example/g01182/impl", byteOffset := 544 }, { name := "backMixer", type := 99, offset := 545, embedded := false, tag := "", pkgPath := "loop.example/g01182/impl", byteOffset := 552 }, { name := "rounds", type := 2, offset := 546, embedded := false, tag := "", pkgPath := "loop.example/g01182/impl", byteOffset := 560 }], 547, 568, (bs (List.replicate 256 0) ++ (bs (List.replicate 256 0) ++ (bs (List.replicate 16 0) ++ (bs (List.replicate 16 0) ++ (.c (.pointer none) :: (.c (.pointer none) :: (.c (.int .i64 0) :: []))))))), false⟩ := by simp only [← zeros_bs, ← zeros_blv]; rfl
theorem E115 : E 115 = some ⟨TypeDesc.array 4 75, 1024, 1024, (bs (List.replicate 1024 0)), false⟩ := by simp only [← zeros_bs, ← zeros_blv]; rfl
theorem E116 : E 116 = some ⟨TypeDesc.array 4 115, 4096, 4096, (bs (List.replicate 4096 0)), false⟩ := by simp only [← zeros_bs, ← zeros_blv]; rfl
theorem E117 : E 117 = some ⟨TypeDesc.array 4 115, 4096, 4096, (bs (List.replicate 4096 0)), false⟩ := by simp only [← zeros_bs, ← zeros_blv]; rfl
theorem E142 : E 142 = some ⟨TypeDesc.int IntKind.u32, 1, 4, (.c (.int .u32 0) :: []), false⟩ := rfl
theorem E155 : E 155 = some ⟨TypeDesc.struct #[{ name := "Keys", type := 24, offset := 0, embedded := false, tag := "", pkgPath := "", byteOffset := 0 }, { name := "Data", type := 85, offset := 1, embedded := false, tag := "", pkgPath := "", byteOffset := 24 }, { name := "Counts", type := 93, offset := 2, embedded := false, tag := "", pkgPath := "", byteOffset := 48 }], 3, 72, (.c (.slice none 0 0) :: (.c (.slice none 0 0) :: (.c (.slice none 0 0) :: []))), false⟩ := rfl
theorem E156 : E 156 = some ⟨TypeDesc.struct #[{ name := "Keys", type := 24, offset := 0, embedded := false, tag := "", pkgPath := "", byteOffset := 0 }, { name := "Data", type := 85, offset := 1, embedded := false, tag := "", pkgPath := "", byteOffset := 24 }, { name := "Counts", type := 93, offset := 2, embedded := false, tag := "", pkgPath := "", byteOffset := 48 }], 3, 72, (.c (.slice none 0 0) :: (.c (.slice none 0 0) :: (.c (.slice none 0 0) :: []))), false⟩ := rfl
noncomputable def XX (ord : Nat → Tr) (flt : Nat → Flt) (mu : List FuncId) (m : Nat) : Cx := ⟨E, Try.prog, ord, flt, mu, m⟩
/-- The type facts, bundled. -/
theorem TT : type_of% (
  And.intro E2 <|
  And.intro E3 <|
  And.intro E4 <|
  And.intro E5 <|
  And.intro E9 <|
  And.intro E12 <|
  And.intro E13 <|
  And.intro E21 <|
  And.intro E22 <|
  And.intro E24 <|
  And.intro E30 <|
  And.intro E31 <|
  And.intro E44 <|
  And.intro E52 <|
  And.intro E53 <|
  And.intro E54 <|
  And.intro E65 <|
  And.intro E66 <|
  And.intro E67 <|
  And.intro E68 <|
  And.intro E69 <|
  And.intro E75 <|
  And.intro E76 <|
  And.intro E77 <|
  And.intro E78 <|
  And.intro E79 <|
  And.intro E80 <|
  And.intro E81 <|
  And.intro E82 <|
  And.intro E83 <|
  And.intro E85 <|
  And.intro E87 <|
  And.intro E90 <|
  And.intro E93 <|
  And.intro E95 <|
  And.intro E99 <|
  And.intro E101 <|
  And.intro E102 <|
  And.intro E115 <|
  And.intro E116 <|
  And.intro E117 <|
  And.intro E142 <|
  And.intro E155 <|
  E156) :=
  And.intro E2 <|
  And.intro E3 <|
  And.intro E4 <|
  And.intro E5 <|
  And.intro E9 <|
  And.intro E12 <|
  And.intro E13 <|
  And.intro E21 <|
  And.intro E22 <|
  And.intro E24 <|
  And.intro E30 <|
  And.intro E31 <|
  And.intro E44 <|
  And.intro E52 <|
  And.intro E53 <|
  And.intro E54 <|
  And.intro E65 <|
  And.intro E66 <|
  And.intro E67 <|
  And.intro E68 <|
  And.intro E69 <|
  And.intro E75 <|
  And.intro E76 <|
  And.intro E77 <|
  And.intro E78 <|
  And.intro E79 <|
  And.intro E80 <|
  And.intro E81 <|
  And.intro E82 <|
  And.intro E83 <|
  And.intro E85 <|
  And.intro E87 <|
  And.intro E90 <|
  And.intro E93 <|
  And.intro E95 <|
  And.intro E99 <|
  And.intro E101 <|
  And.intro E102 <|
  And.intro E115 <|
  And.intro E116 <|
  And.intro E117 <|
  And.intro E142 <|
  And.intro E155 <|
  E156
end Go.Proofs.Ytledcckafhpgaaa

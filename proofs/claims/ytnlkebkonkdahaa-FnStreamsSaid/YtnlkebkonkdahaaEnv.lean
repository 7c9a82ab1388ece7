import Derived.Test.YtnlkebkonkdahaaVcgQ
import Derived.Test.YtnlkebkonkdahaaChecked
/- The types of this seat as my verification conditions see them: underlying type, size, bytes, zero cells; each checked against the program's own table. -/
set_option linter.unusedSimpArgs false
set_option linter.unusedVariables false
namespace Go.Proofs.Ytnlkebkonkdahaa
open Go Go.Vc
def T2 : TD := ⟨TypeDesc.int IntKind.i64, 1, 8, (.c (.int .i64 0) :: []), false⟩
def T3 : TD := ⟨TypeDesc.int IntKind.i64, 1, 8, (.c (.int .i64 0) :: []), false⟩
def T4 : TD := ⟨TypeDesc.bool, 1, 1, (.c (.bool false) :: []), false⟩
def T5 : TD := ⟨TypeDesc.int IntKind.u8, 1, 1, (.c (.int .u8 0) :: []), false⟩
def T9 : TD := ⟨TypeDesc.string, 1, 16, (.c (.string ⟨#[]⟩) :: []), false⟩
def T12 : TD := ⟨TypeDesc.int IntKind.u64, 1, 8, (.c (.int .u64 0) :: []), false⟩
def T13 : TD := ⟨TypeDesc.struct #[{ name := "msg", type := 9, offset := 0, embedded := false, tag := "", pkgPath := "runtime", byteOffset := 0 }, { name := "addr", type := 12, offset := 1, embedded := false, tag := "", pkgPath := "runtime", byteOffset := 16 }], 2, 24, (.c (.string ⟨#[]⟩) :: (.c (.int .u64 0) :: [])), false⟩
def T21 : TD := ⟨TypeDesc.int IntKind.i32, 1, 4, (.c (.int .i32 0) :: []), false⟩
def T22 : TD := ⟨TypeDesc.slice 5, 1, 24, (.c (.slice none 0 0) :: []), false⟩
def T24 : TD := ⟨TypeDesc.slice 31, 1, 24, (.c (.slice none 0 0) :: []), false⟩
def T30 : TD := ⟨TypeDesc.array 32 5, 32, 32, (List.replicate 32 (.c (.int .u8 0))), false⟩
def T31 : TD := ⟨TypeDesc.array 32 5, 32, 32, (List.replicate 32 (.c (.int .u8 0))), false⟩
def T44 : TD := ⟨TypeDesc.int IntKind.u64, 1, 8, (.c (.int .u64 0) :: []), false⟩
def T46 : TD := ⟨TypeDesc.array 256 5, 256, 256, (List.replicate 256 (.c (.int .u8 0))), false⟩
def T47 : TD := ⟨TypeDesc.array 256 5, 256, 256, (List.replicate 256 (.c (.int .u8 0))), false⟩
def T48 : TD := ⟨TypeDesc.array 4 5, 4, 4, (.c (.int .u8 0) :: .c (.int .u8 0) :: .c (.int .u8 0) :: .c (.int .u8 0) :: []), false⟩
def T49 : TD := ⟨TypeDesc.array 4 48, 16, 16, (List.replicate 16 (.c (.int .u8 0))), false⟩
def T50 : TD := ⟨TypeDesc.array 4 48, 16, 16, (List.replicate 16 (.c (.int .u8 0))), false⟩
def T51 : TD := ⟨TypeDesc.array 16 5, 16, 16, (List.replicate 16 (.c (.int .u8 0))), false⟩
def T52 : TD := ⟨TypeDesc.array 16 5, 16, 16, (List.replicate 16 (.c (.int .u8 0))), false⟩
def T53 : TD := ⟨TypeDesc.struct #[{ name := "Field", type := 2, offset := 0, embedded := false, tag := "", pkgPath := "", byteOffset := 0 }, { name := "Box", type := 47, offset := 1, embedded := false, tag := "", pkgPath := "", byteOffset := 8 }, { name := "Mix", type := 50, offset := 257, embedded := false, tag := "", pkgPath := "", byteOffset := 264 }, { name := "Places", type := 52, offset := 273, embedded := false, tag := "", pkgPath := "", byteOffset := 280 }, { name := "Rounds", type := 2, offset := 289, embedded := false, tag := "", pkgPath := "", byteOffset := 296 }], 290, 304, (.c (.int .i64 0) :: (List.replicate 256 (.c (.int .u8 0)) ++ (List.replicate 16 (.c (.int .u8 0)) ++ (List.replicate 16 (.c (.int .u8 0)) ++ (.c (.int .i64 0) :: []))))), false⟩
def T54 : TD := ⟨TypeDesc.struct #[{ name := "Field", type := 2, offset := 0, embedded := false, tag := "", pkgPath := "", byteOffset := 0 }, { name := "Box", type := 47, offset := 1, embedded := false, tag := "", pkgPath := "", byteOffset := 8 }, { name := "Mix", type := 50, offset := 257, embedded := false, tag := "", pkgPath := "", byteOffset := 264 }, { name := "Places", type := 52, offset := 273, embedded := false, tag := "", pkgPath := "", byteOffset := 280 }, { name := "Rounds", type := 2, offset := 289, embedded := false, tag := "", pkgPath := "", byteOffset := 296 }], 290, 304, (.c (.int .i64 0) :: (List.replicate 256 (.c (.int .u8 0)) ++ (List.replicate 16 (.c (.int .u8 0)) ++ (List.replicate 16 (.c (.int .u8 0)) ++ (.c (.int .i64 0) :: []))))), false⟩
def T55 : TD := ⟨TypeDesc.array 16 5, 16, 16, (List.replicate 16 (.c (.int .u8 0))), false⟩
def T67 : TD := ⟨TypeDesc.pointer 125, 1, 8, (.c (.pointer none) :: []), false⟩
def T68 : TD := ⟨TypeDesc.struct #[{ name := "engine", type := 67, offset := 0, embedded := false, tag := "", pkgPath := "loop.example/g01182/impl", byteOffset := 0 }], 1, 8, (.c (.pointer none) :: []), false⟩
def T69 : TD := ⟨TypeDesc.struct #[{ name := "engine", type := 67, offset := 0, embedded := false, tag := "", pkgPath := "loop.example/g01182/impl", byteOffset := 0 }], 1, 8, (.c (.pointer none) :: []), false⟩
def T80 : TD := ⟨TypeDesc.struct #[{ name := "b", type := 22, offset := 0, embedded := false, tag := "", pkgPath := "loop.example/g01182/laws", byteOffset := 0 }, { name := "i", type := 3, offset := 1, embedded := false, tag := "", pkgPath := "loop.example/g01182/laws", byteOffset := 24 }, { name := "h", type := 44, offset := 2, embedded := false, tag := "", pkgPath := "loop.example/g01182/laws", byteOffset := 32 }], 3, 40, (.c (.slice none 0 0) :: (.c (.int .i64 0) :: (.c (.int .u64 0) :: []))), false⟩
def T81 : TD := ⟨TypeDesc.struct #[{ name := "b", type := 22, offset := 0, embedded := false, tag := "", pkgPath := "loop.example/g01182/laws", byteOffset := 0 }, { name := "i", type := 3, offset := 1, embedded := false, tag := "", pkgPath := "loop.example/g01182/laws", byteOffset := 24 }, { name := "h", type := 44, offset := 2, embedded := false, tag := "", pkgPath := "loop.example/g01182/laws", byteOffset := 32 }], 3, 40, (.c (.slice none 0 0) :: (.c (.int .i64 0) :: (.c (.int .u64 0) :: []))), false⟩
def T82 : TD := ⟨TypeDesc.int IntKind.u64, 1, 8, (.c (.int .u64 0) :: []), false⟩
def T85 : TD := ⟨TypeDesc.slice 55, 1, 24, (.c (.slice none 0 0) :: []), false⟩
def T86 : TD := ⟨TypeDesc.struct #[{ name := "engine", type := 67, offset := 0, embedded := false, tag := "", pkgPath := "loop.example/g01182/impl", byteOffset := 0 }, { name := "keys", type := 85, offset := 1, embedded := false, tag := "", pkgPath := "loop.example/g01182/impl", byteOffset := 8 }], 2, 32, (.c (.pointer none) :: (.c (.slice none 0 0) :: [])), false⟩
def T87 : TD := ⟨TypeDesc.struct #[{ name := "engine", type := 67, offset := 0, embedded := false, tag := "", pkgPath := "loop.example/g01182/impl", byteOffset := 0 }, { name := "keys", type := 85, offset := 1, embedded := false, tag := "", pkgPath := "loop.example/g01182/impl", byteOffset := 8 }], 2, 32, (.c (.pointer none) :: (.c (.slice none 0 0) :: [])), false⟩
def T94 : TD := ⟨TypeDesc.struct #[{ name := "code", type := 22, offset := 0, embedded := false, tag := "", pkgPath := "loop.example/g01182/spec", byteOffset := 0 }, { name := "at", type := 3, offset := 1, embedded := false, tag := "", pkgPath := "loop.example/g01182/spec", byteOffset := 24 }, { name := "hash", type := 44, offset := 2, embedded := false, tag := "", pkgPath := "loop.example/g01182/spec", byteOffset := 32 }], 3, 40, (.c (.slice none 0 0) :: (.c (.int .i64 0) :: (.c (.int .u64 0) :: []))), false⟩
def T95 : TD := ⟨TypeDesc.struct #[{ name := "code", type := 22, offset := 0, embedded := false, tag := "", pkgPath := "loop.example/g01182/spec", byteOffset := 0 }, { name := "at", type := 3, offset := 1, embedded := false, tag := "", pkgPath := "loop.example/g01182/spec", byteOffset := 24 }, { name := "hash", type := 44, offset := 2, embedded := false, tag := "", pkgPath := "loop.example/g01182/spec", byteOffset := 32 }], 3, 40, (.c (.slice none 0 0) :: (.c (.int .i64 0) :: (.c (.int .u64 0) :: []))), false⟩
def T102 : TD := ⟨TypeDesc.slice 22, 1, 24, (.c (.slice none 0 0) :: []), false⟩
def T116 : TD := ⟨TypeDesc.slice 2, 1, 24, (.c (.slice none 0 0) :: []), false⟩
def T118 : TD := ⟨TypeDesc.int IntKind.i64, 1, 8, (.c (.int .i64 0) :: []), false⟩
def T122 : TD := ⟨TypeDesc.pointer 153, 1, 8, (.c (.pointer none) :: []), false⟩
def T124 : TD := ⟨TypeDesc.struct #[{ name := "box", type := 47, offset := 0, embedded := false, tag := "", pkgPath := "loop.example/g01182/impl", byteOffset := 0 }, { name := "backBox", type := 47, offset := 256, embedded := false, tag := "", pkgPath := "loop.example/g01182/impl", byteOffset := 256 }, { name := "places", type := 52, offset := 512, embedded := false, tag := "", pkgPath := "loop.example/g01182/impl", byteOffset := 512 }, { name := "backPlaces", type := 52, offset := 528, embedded := false, tag := "", pkgPath := "loop.example/g01182/impl", byteOffset := 528 }, { name := "mixer", type := 122, offset := 544, embedded := false, tag := "", pkgPath := "loop.example/g01182/impl", byteOffset := 544 }, { name := "backMixer", type := 122, offset := 545, embedded := false, tag := "", pkgPath := "loop.example/g01182/impl", byteOffset := 552 }, { name := "rounds", type := 2, offset := 546, embedded := false, tag := "", pkgPath := "loop.example/g01182/impl", byteOffset := 560 }], 547, 568, (List.replicate 256 (.c (.int .u8 0)) ++ (List.replicate 256 (.c (.int .u8 0)) ++ (List.replicate 16 (.c (.int .u8 0)) ++ (List.replicate 16 (.c (.int .u8 0)) ++ (.c (.pointer none) :: (.c (.pointer none) :: (.c (.int .i64 0) :: []))))))), false⟩
def T125 : TD := ⟨TypeDesc.struct #[{ name := "box", type := 47, offset := 0, embedded := false, tag := "", pkgPath := "loop.example/g01182/impl", byteOffset := 0 }, { name := "backBox", type := 47, offset := 256, embedded := false, tag := "", pkgPath := "loop.example/g01182/impl", byteOffset := 256 }, { name := "places", type := 52, offset := 512, embedded := false, tag := "", pkgPath := "loop.example/g01182/impl", byteOffset := 512 }, { name := "backPlaces", type := 52, offset := 528, embedded := false, tag := "", pkgPath := "loop.example/g01182/impl", byteOffset := 528 }, { name := "mixer", type := 122, offset := 544, embedded := false, tag := "", pkgPath := "loop.example/g01182/impl", byteOffset := 544 }, { name := "backMixer", type := 122, offset := 545, embedded := false, tag := "", pkgPath := "loop.example/g01182/impl", byteOffset := 552 }, { name := "rounds", type := 2, offset := 546, embedded := false, tag := "", pkgPath := "loop.example/g01182/impl", byteOffset := 560 }], 547, 568, (List.replicate 256 (.c (.int .u8 0)) ++ (List.replicate 256 (.c (.int .u8 0)) ++ (List.replicate 16 (.c (.int .u8 0)) ++ (List.replicate 16 (.c (.int .u8 0)) ++ (.c (.pointer none) :: (.c (.pointer none) :: (.c (.int .i64 0) :: []))))))), false⟩
def T151 : TD := ⟨TypeDesc.array 4 46, 1024, 1024, (List.replicate 1024 (.c (.int .u8 0))), false⟩
def T152 : TD := ⟨TypeDesc.array 4 151, 4096, 4096, (List.replicate 4096 (.c (.int .u8 0))), false⟩
def T153 : TD := ⟨TypeDesc.array 4 151, 4096, 4096, (List.replicate 4096 (.c (.int .u8 0))), false⟩
def T161 : TD := ⟨TypeDesc.array 256 4, 256, 256, (List.replicate 256 (.c (.bool false))), false⟩
def T163 : TD := ⟨TypeDesc.slice 4, 1, 24, (.c (.slice none 0 0) :: []), false⟩
def T166 : TD := ⟨TypeDesc.array 16 4, 16, 16, (List.replicate 16 (.c (.bool false))), false⟩
def T181 : TD := ⟨TypeDesc.int IntKind.u32, 1, 4, (.c (.int .u32 0) :: []), false⟩
def T193 : TD := ⟨TypeDesc.struct #[{ name := "Keys", type := 24, offset := 0, embedded := false, tag := "", pkgPath := "", byteOffset := 0 }, { name := "Data", type := 102, offset := 1, embedded := false, tag := "", pkgPath := "", byteOffset := 24 }, { name := "Counts", type := 116, offset := 2, embedded := false, tag := "", pkgPath := "", byteOffset := 48 }], 3, 72, (.c (.slice none 0 0) :: (.c (.slice none 0 0) :: (.c (.slice none 0 0) :: []))), false⟩
def T194 : TD := ⟨TypeDesc.struct #[{ name := "Keys", type := 24, offset := 0, embedded := false, tag := "", pkgPath := "", byteOffset := 0 }, { name := "Data", type := 102, offset := 1, embedded := false, tag := "", pkgPath := "", byteOffset := 24 }, { name := "Counts", type := 116, offset := 2, embedded := false, tag := "", pkgPath := "", byteOffset := 48 }], 3, 72, (.c (.slice none 0 0) :: (.c (.slice none 0 0) :: (.c (.slice none 0 0) :: []))), false⟩
def E : Env := fun t => match t with
  | 2 => some T2
  | 3 => some T3
  | 4 => some T4
  | 5 => some T5
  | 9 => some T9
  | 12 => some T12
  | 13 => some T13
  | 21 => some T21
  | 22 => some T22
  | 24 => some T24
  | 30 => some T30
  | 31 => some T31
  | 44 => some T44
  | 46 => some T46
  | 47 => some T47
  | 48 => some T48
  | 49 => some T49
  | 50 => some T50
  | 51 => some T51
  | 52 => some T52
  | 53 => some T53
  | 54 => some T54
  | 55 => some T55
  | 67 => some T67
  | 68 => some T68
  | 69 => some T69
  | 80 => some T80
  | 81 => some T81
  | 82 => some T82
  | 85 => some T85
  | 86 => some T86
  | 87 => some T87
  | 94 => some T94
  | 95 => some T95
  | 102 => some T102
  | 116 => some T116
  | 118 => some T118
  | 122 => some T122
  | 124 => some T124
  | 125 => some T125
  | 151 => some T151
  | 152 => some T152
  | 153 => some T153
  | 161 => some T161
  | 163 => some T163
  | 166 => some T166
  | 181 => some T181
  | 193 => some T193
  | 194 => some T194
  | _ => none
theorem i2 : ∃ i z, Try.prog.info? 2 = some i ∧ i.size = T2.size ∧ i.bytes = T2.bytes ∧ i.zero = some z ∧ z.cells.toList.map V.c = T2.zero ∧ (∀ c ∈ z.cells.toList, c.oneCell' = true) ∧ T2.zero.length = T2.size := ⟨Try.t2, _, by kernel_rfl, by kernel_rfl, by kernel_rfl, rfl, by kernel_rfl, List.all_eq_true.1 (by kernel_rfl), by kernel_rfl⟩
theorem i3 : ∃ i z, Try.prog.info? 3 = some i ∧ i.size = T3.size ∧ i.bytes = T3.bytes ∧ i.zero = some z ∧ z.cells.toList.map V.c = T3.zero ∧ (∀ c ∈ z.cells.toList, c.oneCell' = true) ∧ T3.zero.length = T3.size := ⟨Try.t3, _, by kernel_rfl, by kernel_rfl, by kernel_rfl, rfl, by kernel_rfl, List.all_eq_true.1 (by kernel_rfl), by kernel_rfl⟩
theorem i4 : ∃ i z, Try.prog.info? 4 = some i ∧ i.size = T4.size ∧ i.bytes = T4.bytes ∧ i.zero = some z ∧ z.cells.toList.map V.c = T4.zero ∧ (∀ c ∈ z.cells.toList, c.oneCell' = true) ∧ T4.zero.length = T4.size := ⟨Try.t4, _, by kernel_rfl, by kernel_rfl, by kernel_rfl, rfl, by kernel_rfl, List.all_eq_true.1 (by kernel_rfl), by kernel_rfl⟩
theorem i5 : ∃ i z, Try.prog.info? 5 = some i ∧ i.size = T5.size ∧ i.bytes = T5.bytes ∧ i.zero = some z ∧ z.cells.toList.map V.c = T5.zero ∧ (∀ c ∈ z.cells.toList, c.oneCell' = true) ∧ T5.zero.length = T5.size := ⟨Try.t5, _, by kernel_rfl, by kernel_rfl, by kernel_rfl, rfl, by kernel_rfl, List.all_eq_true.1 (by kernel_rfl), by kernel_rfl⟩
theorem i9 : ∃ i z, Try.prog.info? 9 = some i ∧ i.size = T9.size ∧ i.bytes = T9.bytes ∧ i.zero = some z ∧ z.cells.toList.map V.c = T9.zero ∧ (∀ c ∈ z.cells.toList, c.oneCell' = true) ∧ T9.zero.length = T9.size := ⟨Try.t9, _, by kernel_rfl, by kernel_rfl, by kernel_rfl, rfl, by kernel_rfl, List.all_eq_true.1 (by kernel_rfl), by kernel_rfl⟩
theorem i12 : ∃ i z, Try.prog.info? 12 = some i ∧ i.size = T12.size ∧ i.bytes = T12.bytes ∧ i.zero = some z ∧ z.cells.toList.map V.c = T12.zero ∧ (∀ c ∈ z.cells.toList, c.oneCell' = true) ∧ T12.zero.length = T12.size := ⟨Try.t12, _, by kernel_rfl, by kernel_rfl, by kernel_rfl, rfl, by kernel_rfl, List.all_eq_true.1 (by kernel_rfl), by kernel_rfl⟩
theorem i13 : ∃ i z, Try.prog.info? 13 = some i ∧ i.size = T13.size ∧ i.bytes = T13.bytes ∧ i.zero = some z ∧ z.cells.toList.map V.c = T13.zero ∧ (∀ c ∈ z.cells.toList, c.oneCell' = true) ∧ T13.zero.length = T13.size := ⟨Try.t13, _, by kernel_rfl, by kernel_rfl, by kernel_rfl, rfl, by kernel_rfl, List.all_eq_true.1 (by kernel_rfl), by kernel_rfl⟩
theorem i21 : ∃ i z, Try.prog.info? 21 = some i ∧ i.size = T21.size ∧ i.bytes = T21.bytes ∧ i.zero = some z ∧ z.cells.toList.map V.c = T21.zero ∧ (∀ c ∈ z.cells.toList, c.oneCell' = true) ∧ T21.zero.length = T21.size := ⟨Try.t21, _, by kernel_rfl, by kernel_rfl, by kernel_rfl, rfl, by kernel_rfl, List.all_eq_true.1 (by kernel_rfl), by kernel_rfl⟩
theorem i22 : ∃ i z, Try.prog.info? 22 = some i ∧ i.size = T22.size ∧ i.bytes = T22.bytes ∧ i.zero = some z ∧ z.cells.toList.map V.c = T22.zero ∧ (∀ c ∈ z.cells.toList, c.oneCell' = true) ∧ T22.zero.length = T22.size := ⟨Try.t22, _, by kernel_rfl, by kernel_rfl, by kernel_rfl, rfl, by kernel_rfl, List.all_eq_true.1 (by kernel_rfl), by kernel_rfl⟩
theorem i24 : ∃ i z, Try.prog.info? 24 = some i ∧ i.size = T24.size ∧ i.bytes = T24.bytes ∧ i.zero = some z ∧ z.cells.toList.map V.c = T24.zero ∧ (∀ c ∈ z.cells.toList, c.oneCell' = true) ∧ T24.zero.length = T24.size := ⟨Try.t24, _, by kernel_rfl, by kernel_rfl, by kernel_rfl, rfl, by kernel_rfl, List.all_eq_true.1 (by kernel_rfl), by kernel_rfl⟩
theorem i30 : ∃ i z, Try.prog.info? 30 = some i ∧ i.size = T30.size ∧ i.bytes = T30.bytes ∧ i.zero = some z ∧ z.cells.toList.map V.c = T30.zero ∧ (∀ c ∈ z.cells.toList, c.oneCell' = true) ∧ T30.zero.length = T30.size := ⟨Try.t30, _, by kernel_rfl, by kernel_rfl, by kernel_rfl, rfl, by kernel_rfl, List.all_eq_true.1 (by kernel_rfl), by kernel_rfl⟩
theorem i31 : ∃ i z, Try.prog.info? 31 = some i ∧ i.size = T31.size ∧ i.bytes = T31.bytes ∧ i.zero = some z ∧ z.cells.toList.map V.c = T31.zero ∧ (∀ c ∈ z.cells.toList, c.oneCell' = true) ∧ T31.zero.length = T31.size := ⟨Try.t31, _, by kernel_rfl, by kernel_rfl, by kernel_rfl, rfl, by kernel_rfl, List.all_eq_true.1 (by kernel_rfl), by kernel_rfl⟩
theorem i44 : ∃ i z, Try.prog.info? 44 = some i ∧ i.size = T44.size ∧ i.bytes = T44.bytes ∧ i.zero = some z ∧ z.cells.toList.map V.c = T44.zero ∧ (∀ c ∈ z.cells.toList, c.oneCell' = true) ∧ T44.zero.length = T44.size := ⟨Try.t44, _, by kernel_rfl, by kernel_rfl, by kernel_rfl, rfl, by kernel_rfl, List.all_eq_true.1 (by kernel_rfl), by kernel_rfl⟩
theorem i46 : ∃ i z, Try.prog.info? 46 = some i ∧ i.size = T46.size ∧ i.bytes = T46.bytes ∧ i.zero = some z ∧ z.cells.toList.map V.c = T46.zero ∧ (∀ c ∈ z.cells.toList, c.oneCell' = true) ∧ T46.zero.length = T46.size := ⟨Try.t46, _, by kernel_rfl, by kernel_rfl, by kernel_rfl, rfl, by kernel_rfl, List.all_eq_true.1 (by kernel_rfl), by kernel_rfl⟩
theorem i47 : ∃ i z, Try.prog.info? 47 = some i ∧ i.size = T47.size ∧ i.bytes = T47.bytes ∧ i.zero = some z ∧ z.cells.toList.map V.c = T47.zero ∧ (∀ c ∈ z.cells.toList, c.oneCell' = true) ∧ T47.zero.length = T47.size := ⟨Try.t47, _, by kernel_rfl, by kernel_rfl, by kernel_rfl, rfl, by kernel_rfl, List.all_eq_true.1 (by kernel_rfl), by kernel_rfl⟩
theorem i48 : ∃ i z, Try.prog.info? 48 = some i ∧ i.size = T48.size ∧ i.bytes = T48.bytes ∧ i.zero = some z ∧ z.cells.toList.map V.c = T48.zero ∧ (∀ c ∈ z.cells.toList, c.oneCell' = true) ∧ T48.zero.length = T48.size := ⟨Try.t48, _, by kernel_rfl, by kernel_rfl, by kernel_rfl, rfl, by kernel_rfl, List.all_eq_true.1 (by kernel_rfl), by kernel_rfl⟩
theorem i49 : ∃ i z, Try.prog.info? 49 = some i ∧ i.size = T49.size ∧ i.bytes = T49.bytes ∧ i.zero = some z ∧ z.cells.toList.map V.c = T49.zero ∧ (∀ c ∈ z.cells.toList, c.oneCell' = true) ∧ T49.zero.length = T49.size := ⟨Try.t49, _, by kernel_rfl, by kernel_rfl, by kernel_rfl, rfl, by kernel_rfl, List.all_eq_true.1 (by kernel_rfl), by kernel_rfl⟩
theorem i50 : ∃ i z, Try.prog.info? 50 = some i ∧ i.size = T50.size ∧ i.bytes = T50.bytes ∧ i.zero = some z ∧ z.cells.toList.map V.c = T50.zero ∧ (∀ c ∈ z.cells.toList, c.oneCell' = true) ∧ T50.zero.length = T50.size := ⟨Try.t50, _, by kernel_rfl, by kernel_rfl, by kernel_rfl, rfl, by kernel_rfl, List.all_eq_true.1 (by kernel_rfl), by kernel_rfl⟩
theorem i51 : ∃ i z, Try.prog.info? 51 = some i ∧ i.size = T51.size ∧ i.bytes = T51.bytes ∧ i.zero = some z ∧ z.cells.toList.map V.c = T51.zero ∧ (∀ c ∈ z.cells.toList, c.oneCell' = true) ∧ T51.zero.length = T51.size := ⟨Try.t51, _, by kernel_rfl, by kernel_rfl, by kernel_rfl, rfl, by kernel_rfl, List.all_eq_true.1 (by kernel_rfl), by kernel_rfl⟩
theorem i52 : ∃ i z, Try.prog.info? 52 = some i ∧ i.size = T52.size ∧ i.bytes = T52.bytes ∧ i.zero = some z ∧ z.cells.toList.map V.c = T52.zero ∧ (∀ c ∈ z.cells.toList, c.oneCell' = true) ∧ T52.zero.length = T52.size := ⟨Try.t52, _, by kernel_rfl, by kernel_rfl, by kernel_rfl, rfl, by kernel_rfl, List.all_eq_true.1 (by kernel_rfl), by kernel_rfl⟩
theorem i53 : ∃ i z, Try.prog.info? 53 = some i ∧ i.size = T53.size ∧ i.bytes = T53.bytes ∧ i.zero = some z ∧ z.cells.toList.map V.c = T53.zero ∧ (∀ c ∈ z.cells.toList, c.oneCell' = true) ∧ T53.zero.length = T53.size := ⟨Try.t53, _, by kernel_rfl, by kernel_rfl, by kernel_rfl, rfl, by kernel_rfl, List.all_eq_true.1 (by kernel_rfl), by kernel_rfl⟩
theorem i54 : ∃ i z, Try.prog.info? 54 = some i ∧ i.size = T54.size ∧ i.bytes = T54.bytes ∧ i.zero = some z ∧ z.cells.toList.map V.c = T54.zero ∧ (∀ c ∈ z.cells.toList, c.oneCell' = true) ∧ T54.zero.length = T54.size := ⟨Try.t54, _, by kernel_rfl, by kernel_rfl, by kernel_rfl, rfl, by kernel_rfl, List.all_eq_true.1 (by kernel_rfl), by kernel_rfl⟩
theorem i55 : ∃ i z, Try.prog.info? 55 = some i ∧ i.size = T55.size ∧ i.bytes = T55.bytes ∧ i.zero = some z ∧ z.cells.toList.map V.c = T55.zero ∧ (∀ c ∈ z.cells.toList, c.oneCell' = true) ∧ T55.zero.length = T55.size := ⟨Try.t55, _, by kernel_rfl, by kernel_rfl, by kernel_rfl, rfl, by kernel_rfl, List.all_eq_true.1 (by kernel_rfl), by kernel_rfl⟩
theorem i67 : ∃ i z, Try.prog.info? 67 = some i ∧ i.size = T67.size ∧ i.bytes = T67.bytes ∧ i.zero = some z ∧ z.cells.toList.map V.c = T67.zero ∧ (∀ c ∈ z.cells.toList, c.oneCell' = true) ∧ T67.zero.length = T67.size := ⟨Try.t67, _, by kernel_rfl, by kernel_rfl, by kernel_rfl, rfl, by kernel_rfl, List.all_eq_true.1 (by kernel_rfl), by kernel_rfl⟩
theorem i68 : ∃ i z, Try.prog.info? 68 = some i ∧ i.size = T68.size ∧ i.bytes = T68.bytes ∧ i.zero = some z ∧ z.cells.toList.map V.c = T68.zero ∧ (∀ c ∈ z.cells.toList, c.oneCell' = true) ∧ T68.zero.length = T68.size := ⟨Try.t68, _, by kernel_rfl, by kernel_rfl, by kernel_rfl, rfl, by kernel_rfl, List.all_eq_true.1 (by kernel_rfl), by kernel_rfl⟩
theorem i69 : ∃ i z, Try.prog.info? 69 = some i ∧ i.size = T69.size ∧ i.bytes = T69.bytes ∧ i.zero = some z ∧ z.cells.toList.map V.c = T69.zero ∧ (∀ c ∈ z.cells.toList, c.oneCell' = true) ∧ T69.zero.length = T69.size := ⟨Try.t69, _, by kernel_rfl, by kernel_rfl, by kernel_rfl, rfl, by kernel_rfl, List.all_eq_true.1 (by kernel_rfl), by kernel_rfl⟩
theorem i80 : ∃ i z, Try.prog.info? 80 = some i ∧ i.size = T80.size ∧ i.bytes = T80.bytes ∧ i.zero = some z ∧ z.cells.toList.map V.c = T80.zero ∧ (∀ c ∈ z.cells.toList, c.oneCell' = true) ∧ T80.zero.length = T80.size := ⟨Try.t80, _, by kernel_rfl, by kernel_rfl, by kernel_rfl, rfl, by kernel_rfl, List.all_eq_true.1 (by kernel_rfl), by kernel_rfl⟩
theorem i81 : ∃ i z, Try.prog.info? 81 = some i ∧ i.size = T81.size ∧ i.bytes = T81.bytes ∧ i.zero = some z ∧ z.cells.toList.map V.c = T81.zero ∧ (∀ c ∈ z.cells.toList, c.oneCell' = true) ∧ T81.zero.length = T81.size := ⟨Try.t81, _, by kernel_rfl, by kernel_rfl, by kernel_rfl, rfl, by kernel_rfl, List.all_eq_true.1 (by kernel_rfl), by kernel_rfl⟩
theorem i82 : ∃ i z, Try.prog.info? 82 = some i ∧ i.size = T82.size ∧ i.bytes = T82.bytes ∧ i.zero = some z ∧ z.cells.toList.map V.c = T82.zero ∧ (∀ c ∈ z.cells.toList, c.oneCell' = true) ∧ T82.zero.length = T82.size := ⟨Try.t82, _, by kernel_rfl, by kernel_rfl, by kernel_rfl, rfl, by kernel_rfl, List.all_eq_true.1 (by kernel_rfl), by kernel_rfl⟩
theorem i85 : ∃ i z, Try.prog.info? 85 = some i ∧ i.size = T85.size ∧ i.bytes = T85.bytes ∧ i.zero = some z ∧ z.cells.toList.map V.c = T85.zero ∧ (∀ c ∈ z.cells.toList, c.oneCell' = true) ∧ T85.zero.length = T85.size := ⟨Try.t85, _, by kernel_rfl, by kernel_rfl, by kernel_rfl, rfl, by kernel_rfl, List.all_eq_true.1 (by kernel_rfl), by kernel_rfl⟩
theorem i86 : ∃ i z, Try.prog.info? 86 = some i ∧ i.size = T86.size ∧ i.bytes = T86.bytes ∧ i.zero = some z ∧ z.cells.toList.map V.c = T86.zero ∧ (∀ c ∈ z.cells.toList, c.oneCell' = true) ∧ T86.zero.length = T86.size := ⟨Try.t86, _, by kernel_rfl, by kernel_rfl, by kernel_rfl, rfl, by kernel_rfl, List.all_eq_true.1 (by kernel_rfl), by kernel_rfl⟩
theorem i87 : ∃ i z, Try.prog.info? 87 = some i ∧ i.size = T87.size ∧ i.bytes = T87.bytes ∧ i.zero = some z ∧ z.cells.toList.map V.c = T87.zero ∧ (∀ c ∈ z.cells.toList, c.oneCell' = true) ∧ T87.zero.length = T87.size := ⟨Try.t87, _, by kernel_rfl, by kernel_rfl, by kernel_rfl, rfl, by kernel_rfl, List.all_eq_true.1 (by kernel_rfl), by kernel_rfl⟩
theorem i94 : ∃ i z, Try.prog.info? 94 = some i ∧ i.size = T94.size ∧ i.bytes = T94.bytes ∧ i.zero = some z ∧ z.cells.toList.map V.c = T94.zero ∧ (∀ c ∈ z.cells.toList, c.oneCell' = true) ∧ T94.zero.length = T94.size := ⟨Try.t94, _, by kernel_rfl, by kernel_rfl, by kernel_rfl, rfl, by kernel_rfl, List.all_eq_true.1 (by kernel_rfl), by kernel_rfl⟩
theorem i95 : ∃ i z, Try.prog.info? 95 = some i ∧ i.size = T95.size ∧ i.bytes = T95.bytes ∧ i.zero = some z ∧ z.cells.toList.map V.c = T95.zero ∧ (∀ c ∈ z.cells.toList, c.oneCell' = true) ∧ T95.zero.length = T95.size := ⟨Try.t95, _, by kernel_rfl, by kernel_rfl, by kernel_rfl, rfl, by kernel_rfl, List.all_eq_true.1 (by kernel_rfl), by kernel_rfl⟩
theorem i102 : ∃ i z, Try.prog.info? 102 = some i ∧ i.size = T102.size ∧ i.bytes = T102.bytes ∧ i.zero = some z ∧ z.cells.toList.map V.c = T102.zero ∧ (∀ c ∈ z.cells.toList, c.oneCell' = true) ∧ T102.zero.length = T102.size := ⟨Try.t102, _, by kernel_rfl, by kernel_rfl, by kernel_rfl, rfl, by kernel_rfl, List.all_eq_true.1 (by kernel_rfl), by kernel_rfl⟩
theorem i116 : ∃ i z, Try.prog.info? 116 = some i ∧ i.size = T116.size ∧ i.bytes = T116.bytes ∧ i.zero = some z ∧ z.cells.toList.map V.c = T116.zero ∧ (∀ c ∈ z.cells.toList, c.oneCell' = true) ∧ T116.zero.length = T116.size := ⟨Try.t116, _, by kernel_rfl, by kernel_rfl, by kernel_rfl, rfl, by kernel_rfl, List.all_eq_true.1 (by kernel_rfl), by kernel_rfl⟩
theorem i118 : ∃ i z, Try.prog.info? 118 = some i ∧ i.size = T118.size ∧ i.bytes = T118.bytes ∧ i.zero = some z ∧ z.cells.toList.map V.c = T118.zero ∧ (∀ c ∈ z.cells.toList, c.oneCell' = true) ∧ T118.zero.length = T118.size := ⟨Try.t118, _, by kernel_rfl, by kernel_rfl, by kernel_rfl, rfl, by kernel_rfl, List.all_eq_true.1 (by kernel_rfl), by kernel_rfl⟩
theorem i122 : ∃ i z, Try.prog.info? 122 = some i ∧ i.size = T122.size ∧ i.bytes = T122.bytes ∧ i.zero = some z ∧ z.cells.toList.map V.c = T122.zero ∧ (∀ c ∈ z.cells.toList, c.oneCell' = true) ∧ T122.zero.length = T122.size := ⟨Try.t122, _, by kernel_rfl, by kernel_rfl, by kernel_rfl, rfl, by kernel_rfl, List.all_eq_true.1 (by kernel_rfl), by kernel_rfl⟩
theorem i124 : ∃ i z, Try.prog.info? 124 = some i ∧ i.size = T124.size ∧ i.bytes = T124.bytes ∧ i.zero = some z ∧ z.cells.toList.map V.c = T124.zero ∧ (∀ c ∈ z.cells.toList, c.oneCell' = true) ∧ T124.zero.length = T124.size := ⟨Try.t124, _, by kernel_rfl, by kernel_rfl, by kernel_rfl, rfl, by kernel_rfl, List.all_eq_true.1 (by kernel_rfl), by kernel_rfl⟩
theorem i125 : ∃ i z, Try.prog.info? 125 = some i ∧ i.size = T125.size ∧ i.bytes = T125.bytes ∧ i.zero = some z ∧ z.cells.toList.map V.c = T125.zero ∧ (∀ c ∈ z.cells.toList, c.oneCell' = true) ∧ T125.zero.length = T125.size := ⟨Try.t125, _, by kernel_rfl, by kernel_rfl, by kernel_rfl, rfl, by kernel_rfl, List.all_eq_true.1 (by kernel_rfl), by kernel_rfl⟩
theorem i151 : ∃ i z, Try.prog.info? 151 = some i ∧ i.size = T151.size ∧ i.bytes = T151.bytes ∧ i.zero = some z ∧ z.cells.toList.map V.c = T151.zero ∧ (∀ c ∈ z.cells.toList, c.oneCell' = true) ∧ T151.zero.length = T151.size := ⟨Try.t151, _, by kernel_rfl, by kernel_rfl, by kernel_rfl, rfl, by kernel_rfl, List.all_eq_true.1 (by kernel_rfl), by kernel_rfl⟩
theorem i152 : ∃ i z, Try.prog.info? 152 = some i ∧ i.size = T152.size ∧ i.bytes = T152.bytes ∧ i.zero = some z ∧ z.cells.toList.map V.c = T152.zero ∧ (∀ c ∈ z.cells.toList, c.oneCell' = true) ∧ T152.zero.length = T152.size := ⟨Try.t152, _, by kernel_rfl, by kernel_rfl, by kernel_rfl, rfl, by kernel_rfl, List.all_eq_true.1 (by kernel_rfl), by kernel_rfl⟩
theorem i153 : ∃ i z, Try.prog.info? 153 = some i ∧ i.size = T153.size ∧ i.bytes = T153.bytes ∧ i.zero = some z ∧ z.cells.toList.map V.c = T153.zero ∧ (∀ c ∈ z.cells.toList, c.oneCell' = true) ∧ T153.zero.length = T153.size := ⟨Try.t153, _, by kernel_rfl, by kernel_rfl, by kernel_rfl, rfl, by kernel_rfl, List.all_eq_true.1 (by kernel_rfl), by kernel_rfl⟩
theorem i161 : ∃ i z, Try.prog.info? 161 = some i ∧ i.size = T161.size ∧ i.bytes = T161.bytes ∧ i.zero = some z ∧ z.cells.toList.map V.c = T161.zero ∧ (∀ c ∈ z.cells.toList, c.oneCell' = true) ∧ T161.zero.length = T161.size := ⟨Try.t161, _, by kernel_rfl, by kernel_rfl, by kernel_rfl, rfl, by kernel_rfl, List.all_eq_true.1 (by kernel_rfl), by kernel_rfl⟩
theorem i163 : ∃ i z, Try.prog.info? 163 = some i ∧ i.size = T163.size ∧ i.bytes = T163.bytes ∧ i.zero = some z ∧ z.cells.toList.map V.c = T163.zero ∧ (∀ c ∈ z.cells.toList, c.oneCell' = true) ∧ T163.zero.length = T163.size := ⟨Try.t163, _, by kernel_rfl, by kernel_rfl, by kernel_rfl, rfl, by kernel_rfl, List.all_eq_true.1 (by kernel_rfl), by kernel_rfl⟩
theorem i166 : ∃ i z, Try.prog.info? 166 = some i ∧ i.size = T166.size ∧ i.bytes = T166.bytes ∧ i.zero = some z ∧ z.cells.toList.map V.c = T166.zero ∧ (∀ c ∈ z.cells.toList, c.oneCell' = true) ∧ T166.zero.length = T166.size := ⟨Try.t166, _, by kernel_rfl, by kernel_rfl, by kernel_rfl, rfl, by kernel_rfl, List.all_eq_true.1 (by kernel_rfl), by kernel_rfl⟩
theorem i181 : ∃ i z, Try.prog.info? 181 = some i ∧ i.size = T181.size ∧ i.bytes = T181.bytes ∧ i.zero = some z ∧ z.cells.toList.map V.c = T181.zero ∧ (∀ c ∈ z.cells.toList, c.oneCell' = true) ∧ T181.zero.length = T181.size := ⟨Try.t181, _, by kernel_rfl, by kernel_rfl, by kernel_rfl, rfl, by kernel_rfl, List.all_eq_true.1 (by kernel_rfl), by kernel_rfl⟩
theorem i193 : ∃ i z, Try.prog.info? 193 = some i ∧ i.size = T193.size ∧ i.bytes = T193.bytes ∧ i.zero = some z ∧ z.cells.toList.map V.c = T193.zero ∧ (∀ c ∈ z.cells.toList, c.oneCell' = true) ∧ T193.zero.length = T193.size := ⟨Try.t193, _, by kernel_rfl, by kernel_rfl, by kernel_rfl, rfl, by kernel_rfl, List.all_eq_true.1 (by kernel_rfl), by kernel_rfl⟩
theorem i194 : ∃ i z, Try.prog.info? 194 = some i ∧ i.size = T194.size ∧ i.bytes = T194.bytes ∧ i.zero = some z ∧ z.cells.toList.map V.c = T194.zero ∧ (∀ c ∈ z.cells.toList, c.oneCell' = true) ∧ T194.zero.length = T194.size := ⟨Try.t194, _, by kernel_rfl, by kernel_rfl, by kernel_rfl, rfl, by kernel_rfl, List.all_eq_true.1 (by kernel_rfl), by kernel_rfl⟩
theorem envOK : EnvOK Try.prog E := by
  refine ⟨fun {t d} h => ?_, fun {t d} h => ?_, fun {t d} h => ?_, by kernel_rfl⟩
  · unfold E at h; split at h <;> first | (cases h; kernel_rfl) | cases h
  · unfold E at h; split at h <;> first | cases h | skip
    · exact i2
    · exact i3
    · exact i4
    · exact i5
    · exact i9
    · exact i12
    · exact i13
    · exact i21
    · exact i22
    · exact i24
    · exact i30
    · exact i31
    · exact i44
    · exact i46
    · exact i47
    · exact i48
    · exact i49
    · exact i50
    · exact i51
    · exact i52
    · exact i53
    · exact i54
    · exact i55
    · exact i67
    · exact i68
    · exact i69
    · exact i80
    · exact i81
    · exact i82
    · exact i85
    · exact i86
    · exact i87
    · exact i94
    · exact i95
    · exact i102
    · exact i116
    · exact i118
    · exact i122
    · exact i124
    · exact i125
    · exact i151
    · exact i152
    · exact i153
    · exact i161
    · exact i163
    · exact i166
    · exact i181
    · exact i193
    · exact i194
  · unfold E at h; split at h <;> first | (cases h; kernel_rfl) | cases h
theorem E2 : E 2 = some ⟨TypeDesc.int IntKind.i64, 1, 8, (.c (.int .i64 0) :: []), false⟩ := rfl
theorem E3 : E 3 = some ⟨TypeDesc.int IntKind.i64, 1, 8, (.c (.int .i64 0) :: []), false⟩ := rfl
theorem E4 : E 4 = some ⟨TypeDesc.bool, 1, 1, (.c (.bool false) :: []), false⟩ := rfl
theorem E5 : E 5 = some ⟨TypeDesc.int IntKind.u8, 1, 1, (.c (.int .u8 0) :: []), false⟩ := rfl
theorem E9 : E 9 = some ⟨TypeDesc.string, 1, 16, (.c (.string ⟨#[]⟩) :: []), false⟩ := rfl
theorem E12 : E 12 = some ⟨TypeDesc.int IntKind.u64, 1, 8, (.c (.int .u64 0) :: []), false⟩ := rfl
theorem E13 : E 13 = some ⟨TypeDesc.struct #[{ name := "msg", type := 9, offset := 0, embedded := false, tag := "", pkgPath := "runtime", byteOffset := 0 }, { name := "addr", type := 12, offset := 1, embedded := false, tag := "", pkgPath := "runtime", byteOffset := 16 }], 2, 24, (.c (.string ⟨#[]⟩) :: (.c (.int .u64 0) :: [])), false⟩ := rfl
theorem E21 : E 21 = some ⟨TypeDesc.int IntKind.i32, 1, 4, (.c (.int .i32 0) :: []), false⟩ := rfl
theorem E22 : E 22 = some ⟨TypeDesc.slice 5, 1, 24, (.c (.slice none 0 0) :: []), false⟩ := rfl
theorem E24 : E 24 = some ⟨TypeDesc.slice 31, 1, 24, (.c (.slice none 0 0) :: []), false⟩ := rfl
theorem E30 : E 30 = some ⟨TypeDesc.array 32 5, 32, 32, (bs (List.replicate 32 0)), false⟩ := by simp only [← zeros_bs, ← zeros_blv]; rfl
theorem E31 : E 31 = some ⟨TypeDesc.array 32 5, 32, 32, (bs (List.replicate 32 0)), false⟩ := by simp only [← zeros_bs, ← zeros_blv]; rfl
theorem E44 : E 44 = some ⟨TypeDesc.int IntKind.u64, 1, 8, (.c (.int .u64 0) :: []), false⟩ := rfl
theorem E46 : E 46 = some ⟨TypeDesc.array 256 5, 256, 256, (bs (List.replicate 256 0)), false⟩ := by simp only [← zeros_bs, ← zeros_blv]; rfl
theorem E47 : E 47 = some ⟨TypeDesc.array 256 5, 256, 256, (bs (List.replicate 256 0)), false⟩ := by simp only [← zeros_bs, ← zeros_blv]; rfl
theorem E48 : E 48 = some ⟨TypeDesc.array 4 5, 4, 4, (bs (List.replicate 4 0)), false⟩ := by simp only [← zeros_bs, ← zeros_blv]; rfl
theorem E49 : E 49 = some ⟨TypeDesc.array 4 48, 16, 16, (bs (List.replicate 16 0)), false⟩ := by simp only [← zeros_bs, ← zeros_blv]; rfl
theorem E50 : E 50 = some ⟨TypeDesc.array 4 48, 16, 16, (bs (List.replicate 16 0)), false⟩ := by simp only [← zeros_bs, ← zeros_blv]; rfl
theorem E51 : E 51 = some ⟨TypeDesc.array 16 5, 16, 16, (bs (List.replicate 16 0)), false⟩ := by simp only [← zeros_bs, ← zeros_blv]; rfl
theorem E52 : E 52 = some ⟨TypeDesc.array 16 5, 16, 16, (bs (List.replicate 16 0)), false⟩ := by simp only [← zeros_bs, ← zeros_blv]; rfl
theorem E53 : E 53 = some ⟨TypeDesc.struct #[{ name := "Field", type := 2, offset := 0, embedded := false, tag := "", pkgPath := "", byteOffset := 0 }, { name := "Box", type := 47, offset := 1, embedded := false, tag := "", pkgPath := "", byteOffset := 8 }, { name := "Mix", type := 50, offset := 257, embedded := false, tag := "", pkgPath := "", byteOffset := 264 }, { name := "Places", type := 52, offset := 273, embedded := false, tag := "", pkgPath := "", byteOffset := 280 }, { name := "Rounds", type := 2, offset := 289, embedded := false, tag := "", pkgPath := "", byteOffset := 296 }], 290, 304, (.c (.int .i64 0) :: (bs (List.replicate 256 0) ++ (bs (List.replicate 16 0) ++ (bs (List.replicate 16 0) ++ (.c (.int .i64 0) :: []))))), false⟩ := by simp only [← zeros_bs, ← zeros_blv]; rfl
theorem E54 : E 54 = some ⟨TypeDesc.struct #[{ name := "Field", type := 2, offset := 0, embedded := false, tag := "", pkgPath := "", byteOffset := 0 }, { name := "Box", type := 47, offset := 1, embedded := false, tag := "", pkgPath := "", byteOffset := 8 }, { name := "Mix", type := 50, offset := 257, embedded := false, tag := "", pkgPath := "", byteOffset := 264 }, { name := "Places", type := 52, offset := 273, embedded := false, tag := "", pkgPath := "", byteOffset := 280 }, { name := "Rounds", type := 2, offset := 289, embedded := false, tag := "", pkgPath := "", byteOffset := 296 }], 290, 304, (.c (.int .i64 0) :: (bs (List.replicate 256 0) ++ (bs (List.replicate 16 0) ++ (bs (List.replicate 16 0) ++ (.c (.int .i64 0) :: []))))), false⟩ := by simp only [← zeros_bs, ← zeros_blv]; rfl
theorem E55 : E 55 = some ⟨TypeDesc.array 16 5, 16, 16, (bs (List.replicate 16 0)), false⟩ := by simp only [← zeros_bs, ← zeros_blv]; rfl
theorem E67 : E 67 = some ⟨TypeDesc.pointer 125, 1, 8, (.c (.pointer none) :: []), false⟩ := rfl
theorem E68 : E 68 = some ⟨TypeDesc.struct #[{ name := "engine", type := 67, offset := 0, embedded := false, tag := "", pkgPath := "loop.example/g01182/impl", byteOffset := 0 }], 1, 8, (.c (.pointer none) :: []), false⟩ := rfl
theorem E69 : E 69 = some ⟨TypeDesc.struct #[{ name := "engine", type := 67, offset := 0, embedded := false, tag := "", pkgPath := "loop.example/g01182/impl", byteOffset := 0 }], 1, 8, (.c (.pointer none) :: []), false⟩ := rfl
theorem E80 : E 80 = some ⟨TypeDesc.struct #[{ name := "b", type := 22, offset := 0, embedded := false, tag := "", pkgPath := "loop.example/g01182/laws", byteOffset := 0 }, { name := "i", type := 3, offset := 1, embedded := false, tag := "", pkgPath := "loop.example/g01182/laws", byteOffset := 24 }, { name := "h", type := 44, offset := 2, embedded := false, tag := "", pkgPath := "loop.example/g01182/laws", byteOffset := 32 }], 3, 40, (.c (.slice none 0 0) :: (.c (.int .i64 0) :: (.c (.int .u64 0) :: []))), false⟩ := rfl
theorem E81 : E 81 = some ⟨TypeDesc.struct #[{ name := "b", type := 22, offset := 0, embedded := false, tag := "", pkgPath := "loop.example/g01182/laws", byteOffset := 0 }, { name := "i", type := 3, offset := 1, embedded := false, tag := "", pkgPath := "loop.example/g01182/laws", byteOffset := 24 }, { name := "h", type := 44, offset := 2, embedded := false, tag := "", pkgPath := "loop.example/g01182/laws", byteOffset := 32 }], 3, 40, (.c (.slice none 0 0) :: (.c (.int .i64 0) :: (.c (.int .u64 0) :: []))), false⟩ := rfl
theorem E82 : E 82 = some ⟨TypeDesc.int IntKind.u64, 1, 8, (.c (.int .u64 0) :: []), false⟩ := rfl
theorem E85 : E 85 = some ⟨TypeDesc.slice 55, 1, 24, (.c (.slice none 0 0) :: []), false⟩ := rfl
theorem E86 : E 86 = some ⟨TypeDesc.struct #[{ name := "engine", type := 67, offset := 0, embedded := false, tag := "", pkgPath := "loop.example/g01182/impl", byteOffset := 0 }, { name := "keys", type := 85, offset := 1, embedded := false, tag := "", pkgPath := "loop.example/g01182/impl", byteOffset := 8 }], 2, 32, (.c (.pointer none) :: (.c (.slice none 0 0) :: [])), false⟩ := rfl
theorem E87 : E 87 = some ⟨TypeDesc.struct #[{ name := "engine", type := 67, offset := 0, embedded := false, tag := "", pkgPath := "loop.example/g01182/impl", byteOffset := 0 }, { name := "keys", type := 85, offset := 1, embedded := false, tag := "", pkgPath := "loop.example/g01182/impl", byteOffset := 8 }], 2, 32, (.c (.pointer none) :: (.c (.slice none 0 0) :: [])), false⟩ := rfl
theorem E94 : E 94 = some ⟨TypeDesc.struct #[{ name := "code", type := 22, offset := 0, embedded := false, tag := "", pkgPath := "loop.example/g01182/spec", byteOffset := 0 }, { name := "at", type := 3, offset := 1, embedded := false, tag := "", pkgPath := "loop.example/g01182/spec", byteOffset := 24 }, { name := "hash", type := 44, offset := 2, embedded := false, tag := "", pkgPath := "loop.example/g01182/spec", byteOffset := 32 }], 3, 40, (.c (.slice none 0 0) :: (.c (.int .i64 0) :: (.c (.int .u64 0) :: []))), false⟩ := rfl
theorem E95 : E 95 = some ⟨TypeDesc.struct #[{ name := "code", type := 22, offset := 0, embedded := false, tag := "", pkgPath := "loop.example/g01182/spec", byteOffset := 0 }, { name := "at", type := 3, offset := 1, embedded := false, tag := "", pkgPath := "loop.example/g01182/spec", byteOffset := 24 }, { name := "hash", type := 44, offset := 2, embedded := false, tag := "", pkgPath := "loop.example/g01182/spec", byteOffset := 32 }], 3, 40, (.c (.slice none 0 0) :: (.c (.int .i64 0) :: (.c (.int .u64 0) :: []))), false⟩ := rfl
theorem E102 : E 102 = some ⟨TypeDesc.slice 22, 1, 24, (.c (.slice none 0 0) :: []), false⟩ := rfl
theorem E116 : E 116 = some ⟨TypeDesc.slice 2, 1, 24, (.c (.slice none 0 0) :: []), false⟩ := rfl
theorem E118 : E 118 = some ⟨TypeDesc.int IntKind.i64, 1, 8, (.c (.int .i64 0) :: []), false⟩ := rfl
theorem E122 : E 122 = some ⟨TypeDesc.pointer 153, 1, 8, (.c (.pointer none) :: []), false⟩ := rfl
theorem E124 : E 124 = some ⟨TypeDesc.struct #[{ name := "box", type := 47, offset := 0, embedded := false, tag := "", pkgPath := "loop.example/g01182/impl", byteOffset := 0 }, { name := "backBox", type := 47, offset := 256, embedded := false, tag := "", pkgPath := "loop.example/g01182/impl", byteOffset := 256 }, { name := "places", type := 52, offset := 512, embedded := false, tag := "", pkgPath := "loop.example/g01182/impl", byteOffset := 512 }, { name := "backPlaces", type := 52, offset := 528, embedded := false, tag := "", pkgPath := "loop.example/g01182/impl", byteOffset := 528 }, { name := "mixer", type := 122, offset := 544, embedded := false, tag := "", pkgPath := "loop.example/g01182/impl", byteOffset := 544 }, { name := "backMixer", type := 122, offset := 545, embedded := false, tag := "", pkgPath := "loop.example/g01182/impl", byteOffset := 552 }, { name := "rounds", type := 2, offset := 546, embedded := false, tag := "", pkgPath := "loop.example/g01182/impl", byteOffset := 560 }], 547, 568, (bs (List.replicate 256 0) ++ (bs (List.replicate 256 0) ++ (bs (List.replicate 16 0) ++ (bs (List.replicate 16 0) ++ (.c (.pointer none) :: (.c (.pointer none) :: (.c (.int .i64 0) :: []))))))), false⟩ := by simp only [← zeros_bs, ← zeros_blv]; rfl
theorem E125 : E 125 = some ⟨TypeDesc.struct #[{ name := "box", type := 47, offset := 0, embedded := false, tag := "", pkgPath := "loop.example/g01182/impl", byteOffset := 0 }, { name := "backBox", type := 47, offset := 256, embedded := false, tag := "", pkgPath := "loop.example/g01182/impl", byteOffset := 256 }, { name := "places", type := 52, offset := 512, embedded := false, tag := "", pkgPath := "loop.example/g01182/impl", byteOffset := 512 }, { name := "backPlaces", type := 52, offset := 528, embedded := false, tag := "", pkgPath := "loop.example/g01182/impl", byteOffset := 528 }, { name := "mixer", type := 122, offset := 544, embedded := false, tag := "", pkgPath := "loop.example/g01182/impl", byteOffset := 544 }, { name := "backMixer", type := 122, offset := 545, embedded := false, tag := "", pkgPath := "loop.example/g01182/impl", byteOffset := 552 }, { name := "rounds", type := 2, offset := 546, embedded := false, tag := "", pkgPath := "loop.example/g01182/impl", byteOffset := 560 }], 547, 568, (bs (List.replicate 256 0) ++ (bs (List.replicate 256 0) ++ (bs (List.replicate 16 0) ++ (bs (List.replicate 16 0) ++ (.c (.pointer none) :: (.c (.pointer none) :: (.c (.int .i64 0) :: []))))))), false⟩ := by simp only [← zeros_bs, ← zeros_blv]; rfl
theorem E151 : E 151 = some ⟨TypeDesc.array 4 46, 1024, 1024, (bs (List.replicate 1024 0)), false⟩ := by simp only [← zeros_bs, ← zeros_blv]; rfl
theorem E152 : E 152 = some ⟨TypeDesc.array 4 151, 4096, 4096, (bs (List.replicate 4096 0)), false⟩ := by simp only [← zeros_bs, ← zeros_blv]; rfl
theorem E153 : E 153 = some ⟨TypeDesc.array 4 151, 4096, 4096, (bs (List.replicate 4096 0)), false⟩ := by simp only [← zeros_bs, ← zeros_blv]; rfl
theorem E161 : E 161 = some ⟨TypeDesc.array 256 4, 256, 256, (blv (List.replicate 256 false)), false⟩ := by simp only [← zeros_bs, ← zeros_blv]; rfl
theorem E163 : E 163 = some ⟨TypeDesc.slice 4, 1, 24, (.c (.slice none 0 0) :: []), false⟩ := rfl
theorem E166 : E 166 = some ⟨TypeDesc.array 16 4, 16, 16, (blv (List.replicate 16 false)), false⟩ := by simp only [← zeros_bs, ← zeros_blv]; rfl
theorem E181 : E 181 = some ⟨TypeDesc.int IntKind.u32, 1, 4, (.c (.int .u32 0) :: []), false⟩ := rfl
theorem E193 : E 193 = some ⟨TypeDesc.struct #[{ name := "Keys", type := 24, offset := 0, embedded := false, tag := "", pkgPath := "", byteOffset := 0 }, { name := "Data", type := 102, offset := 1, embedded := false, tag := "", pkgPath := "", byteOffset := 24 }, { name := "Counts", type := 116, offset := 2, embedded := false, tag := "", pkgPath := "", byteOffset := 48 }], 3, 72, (.c (.slice none 0 0) :: (.c (.slice none 0 0) :: (.c (.slice none 0 0) :: []))), false⟩ := rfl
theorem E194 : E 194 = some ⟨TypeDesc.struct #[{ name := "Keys", type := 24, offset := 0, embedded := false, tag := "", pkgPath := "", byteOffset := 0 }, { name := "Data", type := 102, offset := 1, embedded := false, tag := "", pkgPath := "", byteOffset := 24 }, { name := "Counts", type := 116, offset := 2, embedded := false, tag := "", pkgPath := "", byteOffset := 48 }], 3, 72, (.c (.slice none 0 0) :: (.c (.slice none 0 0) :: (.c (.slice none 0 0) :: []))), false⟩ := rfl
noncomputable def XX (ord : Nat → Tr) (flt : Nat → Flt) (mu : List FuncId) (m : Nat) : Cx := ⟨E, Try.prog, ord, flt, mu, m⟩
/-- The type facts, bundled. -/
theorem TT : type_of% (
  And.intro E2 <|
  And.intro E3 <|
  And.intro E4 <|
  And.intro E5 <|
  And.intro E9 <|
  And.intro E12 <|
  And.intro E13 <|
  And.intro E21 <|
  And.intro E22 <|
  And.intro E24 <|
  And.intro E30 <|
  And.intro E31 <|
  And.intro E44 <|
  And.intro E46 <|
  And.intro E47 <|
  And.intro E48 <|
  And.intro E49 <|
  And.intro E50 <|
  And.intro E51 <|
  And.intro E52 <|
  And.intro E53 <|
  And.intro E54 <|
  And.intro E55 <|
  And.intro E67 <|
  And.intro E68 <|
  And.intro E69 <|
  And.intro E80 <|
  And.intro E81 <|
  And.intro E82 <|
  And.intro E85 <|
  And.intro E86 <|
  And.intro E87 <|
  And.intro E94 <|
  And.intro E95 <|
  And.intro E102 <|
  And.intro E116 <|
  And.intro E118 <|
  And.intro E122 <|
  And.intro E124 <|
  And.intro E125 <|
  And.intro E151 <|
  And.intro E152 <|
  And.intro E153 <|
  And.intro E161 <|
  And.intro E163 <|
  And.intro E166 <|
  And.intro E181 <|
  And.intro E193 <|
  E194) :=
  And.intro E2 <|
  And.intro E3 <|
  And.intro E4 <|
  And.intro E5 <|
  And.intro E9 <|
  And.intro E12 <|
  And.intro E13 <|
  And.intro E21 <|
  And.intro E22 <|
  And.intro E24 <|
  And.intro E30 <|
  And.intro E31 <|
  And.intro E44 <|
  And.intro E46 <|
  And.intro E47 <|
  And.intro E48 <|
  And.intro E49 <|
  And.intro E50 <|
  And.intro E51 <|
  And.intro E52 <|
  And.intro E53 <|
  And.intro E54 <|
  And.intro E55 <|
  And.intro E67 <|
  And.intro E68 <|
  And.intro E69 <|
  And.intro E80 <|
  And.intro E81 <|
  And.intro E82 <|
  And.intro E85 <|
  And.intro E86 <|
  And.intro E87 <|
  And.intro E94 <|
  And.intro E95 <|
  And.intro E102 <|
  And.intro E116 <|
  And.intro E118 <|
  And.intro E122 <|
  And.intro E124 <|
  And.intro E125 <|
  And.intro E151 <|
  And.intro E152 <|
  And.intro E153 <|
  And.intro E161 <|
  And.intro E163 <|
  And.intro E166 <|
  And.intro E181 <|
  And.intro E193 <|
  E194
end Go.Proofs.Ytnlkebkonkdahaa

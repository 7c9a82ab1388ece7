import Derived.Test.YtmhjalagcnhfiaaGreatVcgQ
import Derived.Test.YtmhjalagcnhfiaaGreatChecked
/- The types of this seat as my verification conditions see them: underlying type, size, bytes, zero cells; each checked against the program's own table. -/
set_option linter.unusedSimpArgs false
set_option linter.unusedVariables false
namespace Go.Proofs.YtmhjalagcnhfiaaGreat
open Go Go.Vc
def T2 : TD := ⟨TypeDesc.int IntKind.i64, 1, 8, (.c (.int .i64 0) :: []), false⟩
def T3 : TD := ⟨TypeDesc.int IntKind.i64, 1, 8, (.c (.int .i64 0) :: []), false⟩
def T4 : TD := ⟨TypeDesc.bool, 1, 1, (.c (.bool false) :: []), false⟩
def T5 : TD := ⟨TypeDesc.int IntKind.u8, 1, 1, (.c (.int .u8 0) :: []), false⟩
def T9 : TD := ⟨TypeDesc.string, 1, 16, (.c (.string ⟨#[]⟩) :: []), false⟩
def T12 : TD := ⟨TypeDesc.int IntKind.u64, 1, 8, (.c (.int .u64 0) :: []), false⟩
def T13 : TD := ⟨TypeDesc.struct #[{ name := "msg", type := 9, offset := 0, embedded := false, tag := "", pkgPath := "runtime", byteOffset := 0 }, { name := "addr", type := 12, offset := 1, embedded := false, tag := "", pkgPath := "runtime", byteOffset := 16 }], 2, 24, (.c (.string ⟨#[]⟩) :: (.c (.int .u64 0) :: [])), false⟩
def T21 : TD := ⟨TypeDesc.int IntKind.i32, 1, 4, (.c (.int .i32 0) :: []), false⟩
def T22 : TD := ⟨TypeDesc.slice 5, 1, 24, (.c (.slice none 0 0) :: []), false⟩
def T28 : TD := ⟨TypeDesc.array 256 5, 256, 256, (List.replicate 256 (.c (.int .u8 0))), false⟩
def T29 : TD := ⟨TypeDesc.array 256 5, 256, 256, (List.replicate 256 (.c (.int .u8 0))), false⟩
def T30 : TD := ⟨TypeDesc.array 4 5, 4, 4, (.c (.int .u8 0) :: .c (.int .u8 0) :: .c (.int .u8 0) :: .c (.int .u8 0) :: []), false⟩
def T31 : TD := ⟨TypeDesc.array 4 30, 16, 16, (List.replicate 16 (.c (.int .u8 0))), false⟩
def T32 : TD := ⟨TypeDesc.array 4 30, 16, 16, (List.replicate 16 (.c (.int .u8 0))), false⟩
def T33 : TD := ⟨TypeDesc.array 16 5, 16, 16, (List.replicate 16 (.c (.int .u8 0))), false⟩
def T34 : TD := ⟨TypeDesc.array 16 5, 16, 16, (List.replicate 16 (.c (.int .u8 0))), false⟩
def T35 : TD := ⟨TypeDesc.struct #[{ name := "Field", type := 2, offset := 0, embedded := false, tag := "", pkgPath := "", byteOffset := 0 }, { name := "Box", type := 29, offset := 1, embedded := false, tag := "", pkgPath := "", byteOffset := 8 }, { name := "Mix", type := 32, offset := 257, embedded := false, tag := "", pkgPath := "", byteOffset := 264 }, { name := "Places", type := 34, offset := 273, embedded := false, tag := "", pkgPath := "", byteOffset := 280 }, { name := "Rounds", type := 2, offset := 289, embedded := false, tag := "", pkgPath := "", byteOffset := 296 }], 290, 304, (.c (.int .i64 0) :: (List.replicate 256 (.c (.int .u8 0)) ++ (List.replicate 16 (.c (.int .u8 0)) ++ (List.replicate 16 (.c (.int .u8 0)) ++ (.c (.int .i64 0) :: []))))), false⟩
def T36 : TD := ⟨TypeDesc.struct #[{ name := "Field", type := 2, offset := 0, embedded := false, tag := "", pkgPath := "", byteOffset := 0 }, { name := "Box", type := 29, offset := 1, embedded := false, tag := "", pkgPath := "", byteOffset := 8 }, { name := "Mix", type := 32, offset := 257, embedded := false, tag := "", pkgPath := "", byteOffset := 264 }, { name := "Places", type := 34, offset := 273, embedded := false, tag := "", pkgPath := "", byteOffset := 280 }, { name := "Rounds", type := 2, offset := 289, embedded := false, tag := "", pkgPath := "", byteOffset := 296 }], 290, 304, (.c (.int .i64 0) :: (List.replicate 256 (.c (.int .u8 0)) ++ (List.replicate 16 (.c (.int .u8 0)) ++ (List.replicate 16 (.c (.int .u8 0)) ++ (.c (.int .i64 0) :: []))))), false⟩
def T37 : TD := ⟨TypeDesc.array 16 5, 16, 16, (List.replicate 16 (.c (.int .u8 0))), false⟩
def T43 : TD := ⟨TypeDesc.slice 2, 1, 24, (.c (.slice none 0 0) :: []), false⟩
def T57 : TD := ⟨TypeDesc.pointer 115, 1, 8, (.c (.pointer none) :: []), false⟩
def T58 : TD := ⟨TypeDesc.slice 37, 1, 24, (.c (.slice none 0 0) :: []), false⟩
def T59 : TD := ⟨TypeDesc.struct #[{ name := "engine", type := 57, offset := 0, embedded := false, tag := "", pkgPath := "loop.example/g01182/impl", byteOffset := 0 }, { name := "keys", type := 58, offset := 1, embedded := false, tag := "", pkgPath := "loop.example/g01182/impl", byteOffset := 8 }], 2, 32, (.c (.pointer none) :: (.c (.slice none 0 0) :: [])), false⟩
def T60 : TD := ⟨TypeDesc.struct #[{ name := "engine", type := 57, offset := 0, embedded := false, tag := "", pkgPath := "loop.example/g01182/impl", byteOffset := 0 }, { name := "keys", type := 58, offset := 1, embedded := false, tag := "", pkgPath := "loop.example/g01182/impl", byteOffset := 8 }], 2, 32, (.c (.pointer none) :: (.c (.slice none 0 0) :: [])), false⟩
def T82 : TD := ⟨TypeDesc.int IntKind.u64, 1, 8, (.c (.int .u64 0) :: []), false⟩
def T83 : TD := ⟨TypeDesc.struct #[{ name := "code", type := 22, offset := 0, embedded := false, tag := "", pkgPath := "loop.example/g01182/spec", byteOffset := 0 }, { name := "at", type := 3, offset := 1, embedded := false, tag := "", pkgPath := "loop.example/g01182/spec", byteOffset := 24 }, { name := "hash", type := 82, offset := 2, embedded := false, tag := "", pkgPath := "loop.example/g01182/spec", byteOffset := 32 }], 3, 40, (.c (.slice none 0 0) :: (.c (.int .i64 0) :: (.c (.int .u64 0) :: []))), false⟩
def T84 : TD := ⟨TypeDesc.struct #[{ name := "code", type := 22, offset := 0, embedded := false, tag := "", pkgPath := "loop.example/g01182/spec", byteOffset := 0 }, { name := "at", type := 3, offset := 1, embedded := false, tag := "", pkgPath := "loop.example/g01182/spec", byteOffset := 24 }, { name := "hash", type := 82, offset := 2, embedded := false, tag := "", pkgPath := "loop.example/g01182/spec", byteOffset := 32 }], 3, 40, (.c (.slice none 0 0) :: (.c (.int .i64 0) :: (.c (.int .u64 0) :: []))), false⟩
def T85 : TD := ⟨TypeDesc.int IntKind.u64, 1, 8, (.c (.int .u64 0) :: []), false⟩
def T89 : TD := ⟨TypeDesc.slice 22, 1, 24, (.c (.slice none 0 0) :: []), false⟩
def T108 : TD := ⟨TypeDesc.int IntKind.i64, 1, 8, (.c (.int .i64 0) :: []), false⟩
def T112 : TD := ⟨TypeDesc.pointer 132, 1, 8, (.c (.pointer none) :: []), false⟩
def T114 : TD := ⟨TypeDesc.struct #[{ name := "box", type := 29, offset := 0, embedded := false, tag := "", pkgPath := "loop.example/g01182/impl", byteOffset := 0 }, { name := "backBox", type := 29, offset := 256, embedded := false, tag := "", pkgPath := "loop.example/g01182/impl", byteOffset := 256 }, { name := "places", type := 34, offset := 512, embedded := false, tag := "", pkgPath := "loop.example/g01182/impl", byteOffset := 512 }, { name := "backPlaces", type := 34, offset := 528, embedded := false, tag := "", pkgPath := "loop.example/g01182/impl", byteOffset := 528 }, { name := "mixer", type := 112, offset := 544, embedded := false, tag := "", pkgPath := "loop.example/g01182/impl", byteOffset := 544 }, { name := "backMixer", type := 112, offset := 545, embedded := false, tag := "", pkgPath := "loop.example/g01182/impl", byteOffset := 552 }, { name := "rounds", type := 2, offset := 546, embedded := false, tag := "", pkgPath := "loop.example/g01182/impl", byteOffset := 560 }], 547, 568, (List.replicate 256 (.c (.int .u8 0)) ++ (List.replicate 256 (.c (.int .u8 0)) ++ (List.replicate 16 (.c (.int .u8 0)) ++ (List.replicate 16 (.c (.int .u8 0)) ++ (.c (.pointer none) :: (.c (.pointer none) :: (.c (.int .i64 0) :: []))))))), false⟩
def T115 : TD := ⟨TypeDesc.struct #[{ name := "box", type := 29, offset := 0, embedded := false, tag := "", pkgPath := "loop.example/g01182/impl", byteOffset := 0 }, { name := "backBox", type := 29, offset := 256, embedded := false, tag := "", pkgPath := "loop.example/g01182/impl", byteOffset := 256 }, { name := "places", type := 34, offset := 512, embedded := false, tag := "", pkgPath := "loop.example/g01182/impl", byteOffset := 512 }, { name := "backPlaces", type := 34, offset := 528, embedded := false, tag := "", pkgPath := "loop.example/g01182/impl", byteOffset := 528 }, { name := "mixer", type := 112, offset := 544, embedded := false, tag := "", pkgPath := "loop.example/g01182/impl", byteOffset := 544 }, { name := "backMixer", type := 112, offset := 545, embedded := false, tag := "", pkgPath := "loop.example/g01182/impl", byteOffset := 552 }, { name := "rounds", type := 2, offset := 546, embedded := false, tag := "", pkgPath := "loop.example/g01182/impl", byteOffset := 560 }], 547, 568, (List.replicate 256 (.c (.int .u8 0)) ++ (List.replicate 256 (.c (.int .u8 0)) ++ (List.replicate 16 (.c (.int .u8 0)) ++ (List.replicate 16 (.c (.int .u8 0)) ++ (.c (.pointer none) :: (.c (.pointer none) :: (.c (.int .i64 0) :: []))))))), false⟩
def T124 : TD := ⟨TypeDesc.array 256 4, 256, 256, (List.replicate 256 (.c (.bool false))), false⟩
def T126 : TD := ⟨TypeDesc.slice 4, 1, 24, (.c (.slice none 0 0) :: []), false⟩
def T130 : TD := ⟨TypeDesc.array 4 28, 1024, 1024, (List.replicate 1024 (.c (.int .u8 0))), false⟩
def T131 : TD := ⟨TypeDesc.array 4 130, 4096, 4096, (List.replicate 4096 (.c (.int .u8 0))), false⟩
def T132 : TD := ⟨TypeDesc.array 4 130, 4096, 4096, (List.replicate 4096 (.c (.int .u8 0))), false⟩
def T134 : TD := ⟨TypeDesc.array 16 4, 16, 16, (List.replicate 16 (.c (.bool false))), false⟩
def T154 : TD := ⟨TypeDesc.int IntKind.u32, 1, 4, (.c (.int .u32 0) :: []), false⟩
def T166 : TD := ⟨TypeDesc.array 32 5, 32, 32, (List.replicate 32 (.c (.int .u8 0))), false⟩
def T167 : TD := ⟨TypeDesc.array 32 5, 32, 32, (List.replicate 32 (.c (.int .u8 0))), false⟩
def E : Env := fun t => match t with
  | 2 => some T2
  | 3 => some T3
  | 4 => some T4
  | 5 => some T5
  | 9 => some T9
  | 12 => some T12
  | 13 => some T13
  | 21 => some T21
  | 22 => some T22
  | 28 => some T28
  | 29 => some T29
  | 30 => some T30
  | 31 => some T31
  | 32 => some T32
  | 33 => some T33
  | 34 => some T34
  | 35 => some T35
  | 36 => some T36
  | 37 => some T37
  | 43 => some T43
  | 57 => some T57
  | 58 => some T58
  | 59 => some T59
  | 60 => some T60
  | 82 => some T82
  | 83 => some T83
  | 84 => some T84
  | 85 => some T85
  | 89 => some T89
  | 108 => some T108
  | 112 => some T112
  | 114 => some T114
  | 115 => some T115
  | 124 => some T124
  | 126 => some T126
  | 130 => some T130
  | 131 => some T131
  | 132 => some T132
  | 134 => some T134
  | 154 => some T154
  | 166 => some T166
  | 167 => some T167
  | _ => none
theorem i2 : ∃ i z, Tryz.prog.info? 2 = some i ∧ i.size = T2.size ∧ i.bytes = T2.bytes ∧ i.zero = some z ∧ z.cells.toList.map V.c = T2.zero ∧ (∀ c ∈ z.cells.toList, c.oneCell' = true) ∧ T2.zero.length = T2.size := ⟨Tryz.t2, _, by kernel_rfl, by kernel_rfl, by kernel_rfl, rfl, by kernel_rfl, List.all_eq_true.1 (by kernel_rfl), by kernel_rfl⟩
theorem i3 : ∃ i z, Tryz.prog.info? 3 = some i ∧ i.size = T3.size ∧ i.bytes = T3.bytes ∧ i.zero = some z ∧ z.cells.toList.map V.c = T3.zero ∧ (∀ c ∈ z.cells.toList, c.oneCell' = true) ∧ T3.zero.length = T3.size := ⟨Tryz.t3, _, by kernel_rfl, by kernel_rfl, by kernel_rfl, rfl, by kernel_rfl, List.all_eq_true.1 (by kernel_rfl), by kernel_rfl⟩
theorem i4 : ∃ i z, Tryz.prog.info? 4 = some i ∧ i.size = T4.size ∧ i.bytes = T4.bytes ∧ i.zero = some z ∧ z.cells.toList.map V.c = T4.zero ∧ (∀ c ∈ z.cells.toList, c.oneCell' = true) ∧ T4.zero.length = T4.size := ⟨Tryz.t4, _, by kernel_rfl, by kernel_rfl, by kernel_rfl, rfl, by kernel_rfl, List.all_eq_true.1 (by kernel_rfl), by kernel_rfl⟩
theorem i5 : ∃ i z, Tryz.prog.info? 5 = some i ∧ i.size = T5.size ∧ i.bytes = T5.bytes ∧ i.zero = some z ∧ z.cells.toList.map V.c = T5.zero ∧ (∀ c ∈ z.cells.toList, c.oneCell' = true) ∧ T5.zero.length = T5.size := ⟨Tryz.t5, _, by kernel_rfl, by kernel_rfl, by kernel_rfl, rfl, by kernel_rfl, List.all_eq_true.1 (by kernel_rfl), by kernel_rfl⟩
theorem i9 : ∃ i z, Tryz.prog.info? 9 = some i ∧ i.size = T9.size ∧ i.bytes = T9.bytes ∧ i.zero = some z ∧ z.cells.toList.map V.c = T9.zero ∧ (∀ c ∈ z.cells.toList, c.oneCell' = true) ∧ T9.zero.length = T9.size := ⟨Tryz.t9, _, by kernel_rfl, by kernel_rfl, by kernel_rfl, rfl, by kernel_rfl, List.all_eq_true.1 (by kernel_rfl), by kernel_rfl⟩
theorem i12 : ∃ i z, Tryz.prog.info? 12 = some i ∧ i.size = T12.size ∧ i.bytes = T12.bytes ∧ i.zero = some z ∧ z.cells.toList.map V.c = T12.zero ∧ (∀ c ∈ z.cells.toList, c.oneCell' = true) ∧ T12.zero.length = T12.size := ⟨Tryz.t12, _, by kernel_rfl, by kernel_rfl, by kernel_rfl, rfl, by kernel_rfl, List.all_eq_true.1 (by kernel_rfl), by kernel_rfl⟩
theorem i13 : ∃ i z, Tryz.prog.info? 13 = some i ∧ i.size = T13.size ∧ i.bytes = T13.bytes ∧ i.zero = some z ∧ z.cells.toList.map V.c = T13.zero ∧ (∀ c ∈ z.cells.toList, c.oneCell' = true) ∧ T13.zero.length = T13.size := ⟨Tryz.t13, _, by kernel_rfl, by kernel_rfl, by kernel_rfl, rfl, by kernel_rfl, List.all_eq_true.1 (by kernel_rfl), by kernel_rfl⟩
theorem i21 : ∃ i z, Tryz.prog.info? 21 = some i ∧ i.size = T21.size ∧ i.bytes = T21.bytes ∧ i.zero = some z ∧ z.cells.toList.map V.c = T21.zero ∧ (∀ c ∈ z.cells.toList, c.oneCell' = true) ∧ T21.zero.length = T21.size := ⟨Tryz.t21, _, by kernel_rfl, by kernel_rfl, by kernel_rfl, rfl, by kernel_rfl, List.all_eq_true.1 (by kernel_rfl), by kernel_rfl⟩
theorem i22 : ∃ i z, Tryz.prog.info? 22 = some i ∧ i.size = T22.size ∧ i.bytes = T22.bytes ∧ i.zero = some z ∧ z.cells.toList.map V.c = T22.zero ∧ (∀ c ∈ z.cells.toList, c.oneCell' = true) ∧ T22.zero.length = T22.size := ⟨Tryz.t22, _, by kernel_rfl, by kernel_rfl, by kernel_rfl, rfl, by kernel_rfl, List.all_eq_true.1 (by kernel_rfl), by kernel_rfl⟩
theorem i28 : ∃ i z, Tryz.prog.info? 28 = some i ∧ i.size = T28.size ∧ i.bytes = T28.bytes ∧ i.zero = some z ∧ z.cells.toList.map V.c = T28.zero ∧ (∀ c ∈ z.cells.toList, c.oneCell' = true) ∧ T28.zero.length = T28.size := ⟨Tryz.t28, _, by kernel_rfl, by kernel_rfl, by kernel_rfl, rfl, by kernel_rfl, List.all_eq_true.1 (by kernel_rfl), by kernel_rfl⟩
theorem i29 : ∃ i z, Tryz.prog.info? 29 = some i ∧ i.size = T29.size ∧ i.bytes = T29.bytes ∧ i.zero = some z ∧ z.cells.toList.map V.c = T29.zero ∧ (∀ c ∈ z.cells.toList, c.oneCell' = true) ∧ T29.zero.length = T29.size := ⟨Tryz.t29, _, by kernel_rfl, by kernel_rfl, by kernel_rfl, rfl, by kernel_rfl, List.all_eq_true.1 (by kernel_rfl), by kernel_rfl⟩
theorem i30 : ∃ i z, Tryz.prog.info? 30 = some i ∧ i.size = T30.size ∧ i.bytes = T30.bytes ∧ i.zero = some z ∧ z.cells.toList.map V.c = T30.zero ∧ (∀ c ∈ z.cells.toList, c.oneCell' = true) ∧ T30.zero.length = T30.size := ⟨Tryz.t30, _, by kernel_rfl, by kernel_rfl, by kernel_rfl, rfl, by kernel_rfl, List.all_eq_true.1 (by kernel_rfl), by kernel_rfl⟩
theorem i31 : ∃ i z, Tryz.prog.info? 31 = some i ∧ i.size = T31.size ∧ i.bytes = T31.bytes ∧ i.zero = some z ∧ z.cells.toList.map V.c = T31.zero ∧ (∀ c ∈ z.cells.toList, c.oneCell' = true) ∧ T31.zero.length = T31.size := ⟨Tryz.t31, _, by kernel_rfl, by kernel_rfl, by kernel_rfl, rfl, by kernel_rfl, List.all_eq_true.1 (by kernel_rfl), by kernel_rfl⟩
theorem i32 : ∃ i z, Tryz.prog.info? 32 = some i ∧ i.size = T32.size ∧ i.bytes = T32.bytes ∧ i.zero = some z ∧ z.cells.toList.map V.c = T32.zero ∧ (∀ c ∈ z.cells.toList, c.oneCell' = true) ∧ T32.zero.length = T32.size := ⟨Tryz.t32, _, by kernel_rfl, by kernel_rfl, by kernel_rfl, rfl, by kernel_rfl, List.all_eq_true.1 (by kernel_rfl), by kernel_rfl⟩
theorem i33 : ∃ i z, Tryz.prog.info? 33 = some i ∧ i.size = T33.size ∧ i.bytes = T33.bytes ∧ i.zero = some z ∧ z.cells.toList.map V.c = T33.zero ∧ (∀ c ∈ z.cells.toList, c.oneCell' = true) ∧ T33.zero.length = T33.size := ⟨Tryz.t33, _, by kernel_rfl, by kernel_rfl, by kernel_rfl, rfl, by kernel_rfl, List.all_eq_true.1 (by kernel_rfl), by kernel_rfl⟩
theorem i34 : ∃ i z, Tryz.prog.info? 34 = some i ∧ i.size = T34.size ∧ i.bytes = T34.bytes ∧ i.zero = some z ∧ z.cells.toList.map V.c = T34.zero ∧ (∀ c ∈ z.cells.toList, c.oneCell' = true) ∧ T34.zero.length = T34.size := ⟨Tryz.t34, _, by kernel_rfl, by kernel_rfl, by kernel_rfl, rfl, by kernel_rfl, List.all_eq_true.1 (by kernel_rfl), by kernel_rfl⟩
theorem i35 : ∃ i z, Tryz.prog.info? 35 = some i ∧ i.size = T35.size ∧ i.bytes = T35.bytes ∧ i.zero = some z ∧ z.cells.toList.map V.c = T35.zero ∧ (∀ c ∈ z.cells.toList, c.oneCell' = true) ∧ T35.zero.length = T35.size := ⟨Tryz.t35, _, by kernel_rfl, by kernel_rfl, by kernel_rfl, rfl, by kernel_rfl, List.all_eq_true.1 (by kernel_rfl), by kernel_rfl⟩
theorem i36 : ∃ i z, Tryz.prog.info? 36 = some i ∧ i.size = T36.size ∧ i.bytes = T36.bytes ∧ i.zero = some z ∧ z.cells.toList.map V.c = T36.zero ∧ (∀ c ∈ z.cells.toList, c.oneCell' = true) ∧ T36.zero.length = T36.size := ⟨Tryz.t36, _, by kernel_rfl, by kernel_rfl, by kernel_rfl, rfl, by kernel_rfl, List.all_eq_true.1 (by kernel_rfl), by kernel_rfl⟩
theorem i37 : ∃ i z, Tryz.prog.info? 37 = some i ∧ i.size = T37.size ∧ i.bytes = T37.bytes ∧ i.zero = some z ∧ z.cells.toList.map V.c = T37.zero ∧ (∀ c ∈ z.cells.toList, c.oneCell' = true) ∧ T37.zero.length = T37.size := ⟨Tryz.t37, _, by kernel_rfl, by kernel_rfl, by kernel_rfl, rfl, by kernel_rfl, List.all_eq_true.1 (by kernel_rfl), by kernel_rfl⟩
theorem i43 : ∃ i z, Tryz.prog.info? 43 = some i ∧ i.size = T43.size ∧ i.bytes = T43.bytes ∧ i.zero = some z ∧ z.cells.toList.map V.c = T43.zero ∧ (∀ c ∈ z.cells.toList, c.oneCell' = true) ∧ T43.zero.length = T43.size := ⟨Tryz.t43, _, by kernel_rfl, by kernel_rfl, by kernel_rfl, rfl, by kernel_rfl, List.all_eq_true.1 (by kernel_rfl), by kernel_rfl⟩
theorem i57 : ∃ i z, Tryz.prog.info? 57 = some i ∧ i.size = T57.size ∧ i.bytes = T57.bytes ∧ i.zero = some z ∧ z.cells.toList.map V.c = T57.zero ∧ (∀ c ∈ z.cells.toList, c.oneCell' = true) ∧ T57.zero.length = T57.size := ⟨Tryz.t57, _, by kernel_rfl, by kernel_rfl, by kernel_rfl, rfl, by kernel_rfl, List.all_eq_true.1 (by kernel_rfl), by kernel_rfl⟩
theorem i58 : ∃ i z, Tryz.prog.info? 58 = some i ∧ i.size = T58.size ∧ i.bytes = T58.bytes ∧ i.zero = some z ∧ z.cells.toList.map V.c = T58.zero ∧ (∀ c ∈ z.cells.toList, c.oneCell' = true) ∧ T58.zero.length = T58.size := ⟨Tryz.t58, _, by kernel_rfl, by kernel_rfl, by kernel_rfl, rfl, by kernel_rfl, List.all_eq_true.1 (by kernel_rfl), by kernel_rfl⟩
theorem i59 : ∃ i z, Tryz.prog.info? 59 = some i ∧ i.size = T59.size ∧ i.bytes = T59.bytes ∧ i.zero = some z ∧ z.cells.toList.map V.c = T59.zero ∧ (∀ c ∈ z.cells.toList, c.oneCell' = true) ∧ T59.zero.length = T59.size := ⟨Tryz.t59, _, by kernel_rfl, by kernel_rfl, by kernel_rfl, rfl, by kernel_rfl, List.all_eq_true.1 (by kernel_rfl), by kernel_rfl⟩
theorem i60 : ∃ i z, Tryz.prog.info? 60 = some i ∧ i.size = T60.size ∧ i.bytes = T60.bytes ∧ i.zero = some z ∧ z.cells.toList.map V.c = T60.zero ∧ (∀ c ∈ z.cells.toList, c.oneCell' = true) ∧ T60.zero.length = T60.size := ⟨Tryz.t60, _, by kernel_rfl, by kernel_rfl, by kernel_rfl, rfl, by kernel_rfl, List.all_eq_true.1 (by kernel_rfl), by kernel_rfl⟩
theorem i82 : ∃ i z, Tryz.prog.info? 82 = some i ∧ i.size = T82.size ∧ i.bytes = T82.bytes ∧ i.zero = some z ∧ z.cells.toList.map V.c = T82.zero ∧ (∀ c ∈ z.cells.toList, c.oneCell' = true) ∧ T82.zero.length = T82.size := ⟨Tryz.t82, _, by kernel_rfl, by kernel_rfl, by kernel_rfl, rfl, by kernel_rfl, List.all_eq_true.1 (by kernel_rfl), by kernel_rfl⟩
theorem i83 : ∃ i z, Tryz.prog.info? 83 = some i ∧ i.size = T83.size ∧ i.bytes = T83.bytes ∧ i.zero = some z ∧ z.cells.toList.map V.c = T83.zero ∧ (∀ c ∈ z.cells.toList, c.oneCell' = true) ∧ T83.zero.length = T83.size := ⟨Tryz.t83, _, by kernel_rfl, by kernel_rfl, by kernel_rfl, rfl, by kernel_rfl, List.all_eq_true.1 (by kernel_rfl), by kernel_rfl⟩
theorem i84 : ∃ i z, Tryz.prog.info? 84 = some i ∧ i.size = T84.size ∧ i.bytes = T84.bytes ∧ i.zero = some z ∧ z.cells.toList.map V.c = T84.zero ∧ (∀ c ∈ z.cells.toList, c.oneCell' = true) ∧ T84.zero.length = T84.size := ⟨Tryz.t84, _, by kernel_rfl, by kernel_rfl, by kernel_rfl, rfl, by kernel_rfl, List.all_eq_true.1 (by kernel_rfl), by kernel_rfl⟩
theorem i85 : ∃ i z, Tryz.prog.info? 85 = some i ∧ i.size = T85.size ∧ i.bytes = T85.bytes ∧ i.zero = some z ∧ z.cells.toList.map V.c = T85.zero ∧ (∀ c ∈ z.cells.toList, c.oneCell' = true) ∧ T85.zero.length = T85.size := ⟨Tryz.t85, _, by kernel_rfl, by kernel_rfl, by kernel_rfl, rfl, by kernel_rfl, List.all_eq_true.1 (by kernel_rfl), by kernel_rfl⟩
theorem i89 : ∃ i z, Tryz.prog.info? 89 = some i ∧ i.size = T89.size ∧ i.bytes = T89.bytes ∧ i.zero = some z ∧ z.cells.toList.map V.c = T89.zero ∧ (∀ c ∈ z.cells.toList, c.oneCell' = true) ∧ T89.zero.length = T89.size := ⟨Tryz.t89, _, by kernel_rfl, by kernel_rfl, by kernel_rfl, rfl, by kernel_rfl, List.all_eq_true.1 (by kernel_rfl), by kernel_rfl⟩
theorem i108 : ∃ i z, Tryz.prog.info? 108 = some i ∧ i.size = T108.size ∧ i.bytes = T108.bytes ∧ i.zero = some z ∧ z.cells.toList.map V.c = T108.zero ∧ (∀ c ∈ z.cells.toList, c.oneCell' = true) ∧ T108.zero.length = T108.size := ⟨Tryz.t108, _, by kernel_rfl, by kernel_rfl, by kernel_rfl, rfl, by kernel_rfl, List.all_eq_true.1 (by kernel_rfl), by kernel_rfl⟩
theorem i112 : ∃ i z, Tryz.prog.info? 112 = some i ∧ i.size = T112.size ∧ i.bytes = T112.bytes ∧ i.zero = some z ∧ z.cells.toList.map V.c = T112.zero ∧ (∀ c ∈ z.cells.toList, c.oneCell' = true) ∧ T112.zero.length = T112.size := ⟨Tryz.t112, _, by kernel_rfl, by kernel_rfl, by kernel_rfl, rfl, by kernel_rfl, List.all_eq_true.1 (by kernel_rfl), by kernel_rfl⟩
theorem i114 : ∃ i z, Tryz.prog.info? 114 = some i ∧ i.size = T114.size ∧ i.bytes = T114.bytes ∧ i.zero = some z ∧ z.cells.toList.map V.c = T114.zero ∧ (∀ c ∈ z.cells.toList, c.oneCell' = true) ∧ T114.zero.length = T114.size := ⟨Tryz.t114, _, by kernel_rfl, by kernel_rfl, by kernel_rfl, rfl, by kernel_rfl, List.all_eq_true.1 (by kernel_rfl), by kernel_rfl⟩
theorem i115 : ∃ i z, Tryz.prog.info? 115 = some i ∧ i.size = T115.size ∧ i.bytes = T115.bytes ∧ i.zero = some z ∧ z.cells.toList.map V.c = T115.zero ∧ (∀ c ∈ z.cells.toList, c.oneCell' = true) ∧ T115.zero.length = T115.size := ⟨Tryz.t115, _, by kernel_rfl, by kernel_rfl, by kernel_rfl, rfl, by kernel_rfl, List.all_eq_true.1 (by kernel_rfl), by kernel_rfl⟩
theorem i124 : ∃ i z, Tryz.prog.info? 124 = some i ∧ i.size = T124.size ∧ i.bytes = T124.bytes ∧ i.zero = some z ∧ z.cells.toList.map V.c = T124.zero ∧ (∀ c ∈ z.cells.toList, c.oneCell' = true) ∧ T124.zero.length = T124.size := ⟨Tryz.t124, _, by kernel_rfl, by kernel_rfl, by kernel_rfl, rfl, by kernel_rfl, List.all_eq_true.1 (by kernel_rfl), by kernel_rfl⟩
theorem i126 : ∃ i z, Tryz.prog.info? 126 = some i ∧ i.size = T126.size ∧ i.bytes = T126.bytes ∧ i.zero = some z ∧ z.cells.toList.map V.c = T126.zero ∧ (∀ c ∈ z.cells.toList, c.oneCell' = true) ∧ T126.zero.length = T126.size := ⟨Tryz.t126, _, by kernel_rfl, by kernel_rfl, by kernel_rfl, rfl, by kernel_rfl, List.all_eq_true.1 (by kernel_rfl), by kernel_rfl⟩
theorem i130 : ∃ i z, Tryz.prog.info? 130 = some i ∧ i.size = T130.size ∧ i.bytes = T130.bytes ∧ i.zero = some z ∧ z.cells.toList.map V.c = T130.zero ∧ (∀ c ∈ z.cells.toList, c.oneCell' = true) ∧ T130.zero.length = T130.size := ⟨Tryz.t130, _, by kernel_rfl, by kernel_rfl, by kernel_rfl, rfl, by kernel_rfl, List.all_eq_true.1 (by kernel_rfl), by kernel_rfl⟩
theorem i131 : ∃ i z, Tryz.prog.info? 131 = some i ∧ i.size = T131.size ∧ i.bytes = T131.bytes ∧ i.zero = some z ∧ z.cells.toList.map V.c = T131.zero ∧ (∀ c ∈ z.cells.toList, c.oneCell' = true) ∧ T131.zero.length = T131.size := ⟨Tryz.t131, _, by kernel_rfl, by kernel_rfl, by kernel_rfl, rfl, by kernel_rfl, List.all_eq_true.1 (by kernel_rfl), by kernel_rfl⟩
theorem i132 : ∃ i z, Tryz.prog.info? 132 = some i ∧ i.size = T132.size ∧ i.bytes = T132.bytes ∧ i.zero = some z ∧ z.cells.toList.map V.c = T132.zero ∧ (∀ c ∈ z.cells.toList, c.oneCell' = true) ∧ T132.zero.length = T132.size := ⟨Tryz.t132, _, by kernel_rfl, by kernel_rfl, by kernel_rfl, rfl, by kernel_rfl, List.all_eq_true.1 (by kernel_rfl), by kernel_rfl⟩
theorem i134 : ∃ i z, Tryz.prog.info? 134 = some i ∧ i.size = T134.size ∧ i.bytes = T134.bytes ∧ i.zero = some z ∧ z.cells.toList.map V.c = T134.zero ∧ (∀ c ∈ z.cells.toList, c.oneCell' = true) ∧ T134.zero.length = T134.size := ⟨Tryz.t134, _, by kernel_rfl, by kernel_rfl, by kernel_rfl, rfl, by kernel_rfl, List.all_eq_true.1 (by kernel_rfl), by kernel_rfl⟩
theorem i154 : ∃ i z, Tryz.prog.info? 154 = some i ∧ i.size = T154.size ∧ i.bytes = T154.bytes ∧ i.zero = some z ∧ z.cells.toList.map V.c = T154.zero ∧ (∀ c ∈ z.cells.toList, c.oneCell' = true) ∧ T154.zero.length = T154.size := ⟨Tryz.t154, _, by kernel_rfl, by kernel_rfl, by kernel_rfl, rfl, by kernel_rfl, List.all_eq_true.1 (by kernel_rfl), by kernel_rfl⟩
theorem i166 : ∃ i z, Tryz.prog.info? 166 = some i ∧ i.size = T166.size ∧ i.bytes = T166.bytes ∧ i.zero = some z ∧ z.cells.toList.map V.c = T166.zero ∧ (∀ c ∈ z.cells.toList, c.oneCell' = true) ∧ T166.zero.length = T166.size := ⟨Tryz.t166, _, by kernel_rfl, by kernel_rfl, by kernel_rfl, rfl, by kernel_rfl, List.all_eq_true.1 (by kernel_rfl), by kernel_rfl⟩
theorem i167 : ∃ i z, Tryz.prog.info? 167 = some i ∧ i.size = T167.size ∧ i.bytes = T167.bytes ∧ i.zero = some z ∧ z.cells.toList.map V.c = T167.zero ∧ (∀ c ∈ z.cells.toList, c.oneCell' = true) ∧ T167.zero.length = T167.size := ⟨Tryz.t167, _, by kernel_rfl, by kernel_rfl, by kernel_rfl, rfl, by kernel_rfl, List.all_eq_true.1 (by kernel_rfl), by kernel_rfl⟩
theorem envOK : EnvOK Tryz.prog E := by
  refine ⟨fun {t d} h => ?_, fun {t d} h => ?_, fun {t d} h => ?_, by kernel_rfl⟩
  · unfold E at h; split at h <;> first | (cases h; kernel_rfl) | cases h
  · unfold E at h; split at h <;> first | cases h | skip
    · exact i2
    · exact i3
    · exact i4
    · exact i5
    · exact i9
    · exact i12
    · exact i13
    · exact i21
    · exact i22
    · exact i28
    · exact i29
    · exact i30
    · exact i31
    · exact i32
    · exact i33
    · exact i34
    · exact i35
    · exact i36
    · exact i37
    · exact i43
    · exact i57
    · exact i58
    · exact i59
    · exact i60
    · exact i82
    · exact i83
    · exact i84
    · exact i85
    · exact i89
    · exact i108
    · exact i112
    · exact i114
    · exact i115
    · exact i124
    · exact i126
    · exact i130
    · exact i131
    · exact i132
    · exact i134
    · exact i154
    · exact i166
    · exact i167
  · unfold E at h; split at h <;> first | (cases h; kernel_rfl) | cases h
theorem E2 : E 2 = some ⟨TypeDesc.int IntKind.i64, 1, 8, (.c (.int .i64 0) :: []), false⟩ := rfl
theorem E3 : E 3 = some ⟨TypeDesc.int IntKind.i64, 1, 8, (.c (.int .i64 0) :: []), false⟩ := rfl
theorem E4 : E 4 = some ⟨TypeDesc.bool, 1, 1, (.c (.bool false) :: []), false⟩ := rfl
theorem E5 : E 5 = some ⟨TypeDesc.int IntKind.u8, 1, 1, (.c (.int .u8 0) :: []), false⟩ := rfl
theorem E9 : E 9 = some ⟨TypeDesc.string, 1, 16, (.c (.string ⟨#[]⟩) :: []), false⟩ := rfl
theorem E12 : E 12 = some ⟨TypeDesc.int IntKind.u64, 1, 8, (.c (.int .u64 0) :: []), false⟩ := rfl
theorem E13 : E 13 = some ⟨TypeDesc.struct #[{ name := "msg", type := 9, offset := 0, embedded := false, tag := "", pkgPath := "runtime", byteOffset := 0 }, { name := "addr", type := 12, offset := 1, embedded := false, tag := "", pkgPath := "runtime", byteOffset := 16 }], 2, 24, (.c (.string ⟨#[]⟩) :: (.c (.int .u64 0) :: [])), false⟩ := rfl
theorem E21 : E 21 = some ⟨TypeDesc.int IntKind.i32, 1, 4, (.c (.int .i32 0) :: []), false⟩ := rfl
theorem E22 : E 22 = some ⟨TypeDesc.slice 5, 1, 24, (.c (.slice none 0 0) :: []), false⟩ := rfl
theorem E28 : E 28 = some ⟨TypeDesc.array 256 5, 256, 256, (bs (List.replicate 256 0)), false⟩ := by simp only [← zeros_bs, ← zeros_blv]; rfl
theorem E29 : E 29 = some ⟨TypeDesc.array 256 5, 256, 256, (bs (List.replicate 256 0)), false⟩ := by simp only [← zeros_bs, ← zeros_blv]; rfl
theorem E30 : E 30 = some ⟨TypeDesc.array 4 5, 4, 4, (bs (List.replicate 4 0)), false⟩ := by simp only [← zeros_bs, ← zeros_blv]; rfl
theorem E31 : E 31 = some ⟨TypeDesc.array 4 30, 16, 16, (bs (List.replicate 16 0)), false⟩ := by simp only [← zeros_bs, ← zeros_blv]; rfl
theorem E32 : E 32 = some ⟨TypeDesc.array 4 30, 16, 16, (bs (List.replicate 16 0)), false⟩ := by simp only [← zeros_bs, ← zeros_blv]; rfl
theorem E33 : E 33 = some ⟨TypeDesc.array 16 5, 16, 16, (bs (List.replicate 16 0)), false⟩ := by simp only [← zeros_bs, ← zeros_blv]; rfl
theorem E34 : E 34 = some ⟨TypeDesc.array 16 5, 16, 16, (bs (List.replicate 16 0)), false⟩ := by simp only [← zeros_bs, ← zeros_blv]; rfl
theorem E35 : E 35 = some ⟨TypeDesc.struct #[{ name := "Field", type := 2, offset := 0, embedded := false, tag := "", pkgPath := "", byteOffset := 0 }, { name := "Box", type := 29, offset := 1, embedded := false, tag := "", pkgPath := "", byteOffset := 8 }, { name := "Mix", type := 32, offset := 257, embedded := false, tag := "", pkgPath := "", byteOffset := 264 }, { name := "Places", type := 34, offset := 273, embedded := false, tag := "", pkgPath := "", byteOffset := 280 }, { name := "Rounds", type := 2, offset := 289, embedded := false, tag := "", pkgPath := "", byteOffset := 296 }], 290, 304, (.c (.int .i64 0) :: (bs (List.replicate 256 0) ++ (bs (List.replicate 16 0) ++ (bs (List.replicate 16 0) ++ (.c (.int .i64 0) :: []))))), false⟩ := by simp only [← zeros_bs, ← zeros_blv]; rfl
theorem E36 : E 36 = some ⟨TypeDesc.struct #[{ name := "Field", type := 2, offset := 0, embedded := false, tag := "", pkgPath := "", byteOffset := 0 }, { name := "Box", type := 29, offset := 1, embedded := false, tag := "", pkgPath := "", byteOffset := 8 }, { name := "Mix", type := 32, offset := 257, embedded := false, tag := "", pkgPath := "", byteOffset := 264 }, { name := "Places", type := 34, offset := 273, embedded := false, tag := "", pkgPath := "", byteOffset := 280 }, { name := "Rounds", type := 2, offset := 289, embedded := false, tag := "", pkgPath := "", byteOffset := 296 }], 290, 304, (.c (.int .i64 0) :: (bs (List.replicate 256 0) ++ (bs (List.replicate 16 0) ++ (bs (List.replicate 16 0) ++ (.c (.int .i64 0) :: []))))), false⟩ := by simp only [← zeros_bs, ← zeros_blv]; rfl
theorem E37 : E 37 = some ⟨TypeDesc.array 16 5, 16, 16, (bs (List.replicate 16 0)), false⟩ := by simp only [← zeros_bs, ← zeros_blv]; rfl
theorem E43 : E 43 = some ⟨TypeDesc.slice 2, 1, 24, (.c (.slice none 0 0) :: []), false⟩ := rfl
theorem E57 : E 57 = some ⟨TypeDesc.pointer 115, 1, 8, (.c (.pointer none) :: []), false⟩ := rfl
theorem E58 : E 58 = some ⟨TypeDesc.slice 37, 1, 24, (.c (.slice none 0 0) :: []), false⟩ := rfl
theorem E59 : E 59 = some ⟨TypeDesc.struct #[{ name := "engine", type := 57, offset := 0, embedded := false, tag := "", pkgPath := "loop.example/g01182/impl", byteOffset := 0 }, { name := "keys", type := 58, offset := 1, embedded := false, tag := "", pkgPath := "loop.example/g01182/impl", byteOffset := 8 }], 2, 32, (.c (.pointer none) :: (.c (.slice none 0 0) :: [])), false⟩ := rfl
theorem E60 : E 60 = some ⟨TypeDesc.struct #[{ name := "engine", type := 57, offset := 0, embedded := false, tag := "", pkgPath := "loop.example/g01182/impl", byteOffset := 0 }, { name := "keys", type := 58, offset := 1, embedded := false, tag := "", pkgPath := "loop.example/g01182/impl", byteOffset := 8 }], 2, 32, (.c (.pointer none) :: (.c (.slice none 0 0) :: [])), false⟩ := rfl
theorem E82 : E 82 = some ⟨TypeDesc.int IntKind.u64, 1, 8, (.c (.int .u64 0) :: []), false⟩ := rfl
theorem E83 : E 83 = some ⟨TypeDesc.struct #[{ name := "code", type := 22, offset := 0, embedded := false, tag := "", pkgPath := "loop.example/g01182/spec", byteOffset := 0 }, { name := "at", type := 3, offset := 1, embedded := false, tag := "", pkgPath := "loop.example/g01182/spec", byteOffset := 24 }, { name := "hash", type := 82, offset := 2, embedded := false, tag := "", pkgPath := "loop.example/g01182/spec", byteOffset := 32 }], 3, 40, (.c (.slice none 0 0) :: (.c (.int .i64 0) :: (.c (.int .u64 0) :: []))), false⟩ := rfl
theorem E84 : E 84 = some ⟨TypeDesc.struct #[{ name := "code", type := 22, offset := 0, embedded := false, tag := "", pkgPath := "loop.example/g01182/spec", byteOffset := 0 }, { name := "at", type := 3, offset := 1, embedded := false, tag := "", pkgPath := "loop.example/g01182/spec", byteOffset := 24 }, { name := "hash", type := 82, offset := 2, embedded := false, tag := "", pkgPath := "loop.example/g01182/spec", byteOffset := 32 }], 3, 40, (.c (.slice none 0 0) :: (.c (.int .i64 0) :: (.c (.int .u64 0) :: []))), false⟩ := rfl
theorem E85 : E 85 = some ⟨TypeDesc.int IntKind.u64, 1, 8, (.c (.int .u64 0) :: []), false⟩ := rfl
theorem E89 : E 89 = some ⟨TypeDesc.slice 22, 1, 24, (.c (.slice none 0 0) :: []), false⟩ := rfl
theorem E108 : E 108 = some ⟨TypeDesc.int IntKind.i64, 1, 8, (.c (.int .i64 0) :: []), false⟩ := rfl
theorem E112 : E 112 = some ⟨TypeDesc.pointer 132, 1, 8, (.c (.pointer none) :: []), false⟩ := rfl
theorem E114 : E 114 = some ⟨TypeDesc.struct #[{ name := "box", type := 29, offset := 0, embedded := false, tag := "", pkgPath := "loop.example/g01182/impl", byteOffset := 0 }, { name := "backBox", type := 29, offset := 256, embedded := false, tag := "", pkgPath := "loop.example/g01182/impl", byteOffset := 256 }, { name := "places", type := 34, offset := 512, embedded := false, tag := "", pkgPath := "loop.example/g01182/impl", byteOffset := 512 }, { name := "backPlaces", type := 34, offset := 528, embedded := false, tag := "", pkgPath := "loop.example/g01182/impl", byteOffset := 528 }, { name := "mixer", type := 112, offset := 544, embedded := false, tag := "", pkgPath := "loop.example/g01182/impl", byteOffset := 544 }, { name := "backMixer", type := 112, offset := 545, embedded := false, tag := "", pkgPath := "loop.example/g01182/impl", byteOffset := 552 }, { name := "rounds", type := 2, offset := 546, embedded := false, tag := "", pkgPath := "loop.example/g01182/impl", byteOffset := 560 }], 547, 568, (bs (List.replicate 256 0) ++ (bs (List.replicate 256 0) ++ (bs (List.replicate 16 0) ++ (bs (List.replicate 16 0) ++ (.c (.pointer none) :: (.c (.pointer none) :: (.c (.int .i64 0) :: []))))))), false⟩ := by simp only [← zeros_bs, ← zeros_blv]; rfl
theorem E115 : E 115 = some ⟨TypeDesc.struct #[{ name := "box", type := 29, offset := 0, embedded := false, tag := "", pkgPath := "loop.example/g01182/impl", byteOffset := 0 }, { name := "backBox", type := 29, offset := 256, embedded := false, tag := "", pkgPath := "loop.example/g01182/impl", byteOffset := 256 }, { name := "places", type := 34, offset := 512, embedded := false, tag := "", pkgPath := "loop.example/g01182/impl", byteOffset := 512 }, { name := "backPlaces", type := 34, offset := 528, embedded := false, tag := "", pkgPath := "loop.example/g01182/impl", byteOffset := 528 }, { name := "mixer", type := 112, offset := 544, embedded := false, tag := "", pkgPath := "loop.example/g01182/impl", byteOffset := 544 }, { name := "backMixer", type := 112, offset := 545, embedded := false, tag := "", pkgPath := "loop.example/g01182/impl", byteOffset := 552 }, { name := "rounds", type := 2, offset := 546, embedded := false, tag := "", pkgPath := "loop.example/g01182/impl", byteOffset := 560 }], 547, 568, (bs (List.replicate 256 0) ++ (bs (List.replicate 256 0) ++ (bs (List.replicate 16 0) ++ (bs (List.replicate 16 0) ++ (.c (.pointer none) :: (.c (.pointer none) :: (.c (.int .i64 0) :: []))))))), false⟩ := by simp only [← zeros_bs, ← zeros_blv]; rfl
theorem E124 : E 124 = some ⟨TypeDesc.array 256 4, 256, 256, (blv (List.replicate 256 false)), false⟩ := by simp only [← zeros_bs, ← zeros_blv]; rfl
theorem E126 : E 126 = some ⟨TypeDesc.slice 4, 1, 24, (.c (.slice none 0 0) :: []), false⟩ := rfl
theorem E130 : E 130 = some ⟨TypeDesc.array 4 28, 1024, 1024, (bs (List.replicate 1024 0)), false⟩ := by simp only [← zeros_bs, ← zeros_blv]; rfl
theorem E131 : E 131 = some ⟨TypeDesc.array 4 130, 4096, 4096, (bs (List.replicate 4096 0)), false⟩ := by simp only [← zeros_bs, ← zeros_blv]; rfl
theorem E132 : E 132 = some ⟨TypeDesc.array 4 130, 4096, 4096, (bs (List.replicate 4096 0)), false⟩ := by simp only [← zeros_bs, ← zeros_blv]; rfl
theorem E134 : E 134 = some ⟨TypeDesc.array 16 4, 16, 16, (blv (List.replicate 16 false)), false⟩ := by simp only [← zeros_bs, ← zeros_blv]; rfl
theorem E154 : E 154 = some ⟨TypeDesc.int IntKind.u32, 1, 4, (.c (.int .u32 0) :: []), false⟩ := rfl
theorem E166 : E 166 = some ⟨TypeDesc.array 32 5, 32, 32, (bs (List.replicate 32 0)), false⟩ := by simp only [← zeros_bs, ← zeros_blv]; rfl
theorem E167 : E 167 = some ⟨TypeDesc.array 32 5, 32, 32, (bs (List.replicate 32 0)), false⟩ := by simp only [← zeros_bs, ← zeros_blv]; rfl
noncomputable def XX (ord : Nat → Tr) (flt : Nat → Flt) (mu : List FuncId) (m : Nat) : Cx := ⟨E, Tryz.prog, ord, flt, mu, m⟩
/-- The type facts, bundled. -/
theorem TT : type_of% (
  And.intro E2 <|
  And.intro E3 <|
  And.intro E4 <|
  And.intro E5 <|
  And.intro E9 <|
  And.intro E12 <|
  And.intro E13 <|
  And.intro E21 <|
  And.intro E22 <|
  And.intro E28 <|
  And.intro E29 <|
  And.intro E30 <|
  And.intro E31 <|
  And.intro E32 <|
  And.intro E33 <|
  And.intro E34 <|
  And.intro E35 <|
  And.intro E36 <|
  And.intro E37 <|
  And.intro E43 <|
  And.intro E57 <|
  And.intro E58 <|
  And.intro E59 <|
  And.intro E60 <|
  And.intro E82 <|
  And.intro E83 <|
  And.intro E84 <|
  And.intro E85 <|
  And.intro E89 <|
  And.intro E108 <|
  And.intro E112 <|
  And.intro E114 <|
  And.intro E115 <|
  And.intro E124 <|
  And.intro E126 <|
  And.intro E130 <|
  And.intro E131 <|
  And.intro E132 <|
  And.intro E134 <|
  And.intro E154 <|
  And.intro E166 <|
  E167) :=
  And.intro E2 <|
  And.intro E3 <|
  And.intro E4 <|
  And.intro E5 <|
  And.intro E9 <|
  And.intro E12 <|
  And.intro E13 <|
  And.intro E21 <|
  And.intro E22 <|
  And.intro E28 <|
  And.intro E29 <|
  And.intro E30 <|
  And.intro E31 <|
  And.intro E32 <|
  And.intro E33 <|
  And.intro E34 <|
  And.intro E35 <|
  And.intro E36 <|
  And.intro E37 <|
  And.intro E43 <|
  And.intro E57 <|
  And.intro E58 <|
  And.intro E59 <|
  And.intro E60 <|
  And.intro E82 <|
  And.intro E83 <|
  And.intro E84 <|
  And.intro E85 <|
  And.intro E89 <|
  And.intro E108 <|
  And.intro E112 <|
  And.intro E114 <|
  And.intro E115 <|
  And.intro E124 <|
  And.intro E126 <|
  And.intro E130 <|
  And.intro E131 <|
  And.intro E132 <|
  And.intro E134 <|
  And.intro E154 <|
  And.intro E166 <|
  E167
end Go.Proofs.YtmhjalagcnhfiaaGreat

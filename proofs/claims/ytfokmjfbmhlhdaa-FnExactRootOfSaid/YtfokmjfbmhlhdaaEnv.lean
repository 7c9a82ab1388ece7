/- The types of this seat as my verification conditions see them: underlying type, size, bytes, zero cells; each checked against the program's own table. -/
import Derived.Test.YtfokmjfbmhlhdaaVcgQ
import Derived.Test.YtfokmjfbmhlhdaaChecked
set_option linter.unusedSimpArgs false
set_option linter.unusedVariables false
namespace Go.Proofs.Ytfokmjfbmhlhdaa
open Go Go.Vc
def T2 : TD := ⟨TypeDesc.int IntKind.i64, 1, 8, (.c (.int .i64 0) :: []), false⟩
def T3 : TD := ⟨TypeDesc.int IntKind.i64, 1, 8, (.c (.int .i64 0) :: []), false⟩
def T4 : TD := ⟨TypeDesc.bool, 1, 1, (.c (.bool false) :: []), false⟩
def T5 : TD := ⟨TypeDesc.int IntKind.u8, 1, 1, (.c (.int .u8 0) :: []), false⟩
def T9 : TD := ⟨TypeDesc.string, 1, 16, (.c (.string ⟨#[]⟩) :: []), false⟩
def T12 : TD := ⟨TypeDesc.int IntKind.u64, 1, 8, (.c (.int .u64 0) :: []), false⟩
def T13 : TD := ⟨TypeDesc.struct #[{ name := "msg", type := 9, offset := 0, embedded := false, tag := "", pkgPath := "runtime", byteOffset := 0 }, { name := "addr", type := 12, offset := 1, embedded := false, tag := "", pkgPath := "runtime", byteOffset := 16 }], 2, 24, (.c (.string ⟨#[]⟩) :: (.c (.int .u64 0) :: [])), false⟩
def T21 : TD := ⟨TypeDesc.int IntKind.i32, 1, 4, (.c (.int .i32 0) :: []), false⟩
def T22 : TD := ⟨TypeDesc.array 32 5, 32, 32, (List.replicate 32 (.c (.int .u8 0))), false⟩
def T23 : TD := ⟨TypeDesc.array 32 5, 32, 32, (List.replicate 32 (.c (.int .u8 0))), false⟩
def T28 : TD := ⟨TypeDesc.array 256 5, 256, 256, (List.replicate 256 (.c (.int .u8 0))), false⟩
def T29 : TD := ⟨TypeDesc.array 4 5, 4, 4, (.c (.int .u8 0) :: .c (.int .u8 0) :: .c (.int .u8 0) :: .c (.int .u8 0) :: []), false⟩
def T30 : TD := ⟨TypeDesc.array 4 29, 16, 16, (List.replicate 16 (.c (.int .u8 0))), false⟩
def T31 : TD := ⟨TypeDesc.struct #[{ name := "Field", type := 2, offset := 0, embedded := false, tag := "", pkgPath := "", byteOffset := 0 }, { name := "Box", type := 28, offset := 1, embedded := false, tag := "", pkgPath := "", byteOffset := 8 }, { name := "Mix", type := 30, offset := 257, embedded := false, tag := "", pkgPath := "", byteOffset := 264 }, { name := "Kind", type := 2, offset := 273, embedded := false, tag := "", pkgPath := "", byteOffset := 280 }, { name := "Rounds", type := 2, offset := 274, embedded := false, tag := "", pkgPath := "", byteOffset := 288 }], 275, 296, (.c (.int .i64 0) :: (List.replicate 256 (.c (.int .u8 0)) ++ (List.replicate 16 (.c (.int .u8 0)) ++ (.c (.int .i64 0) :: (.c (.int .i64 0) :: []))))), false⟩
def T32 : TD := ⟨TypeDesc.struct #[{ name := "Field", type := 2, offset := 0, embedded := false, tag := "", pkgPath := "", byteOffset := 0 }, { name := "Box", type := 28, offset := 1, embedded := false, tag := "", pkgPath := "", byteOffset := 8 }, { name := "Mix", type := 30, offset := 257, embedded := false, tag := "", pkgPath := "", byteOffset := 264 }, { name := "Kind", type := 2, offset := 273, embedded := false, tag := "", pkgPath := "", byteOffset := 280 }, { name := "Rounds", type := 2, offset := 274, embedded := false, tag := "", pkgPath := "", byteOffset := 288 }], 275, 296, (.c (.int .i64 0) :: (List.replicate 256 (.c (.int .u8 0)) ++ (List.replicate 16 (.c (.int .u8 0)) ++ (.c (.int .i64 0) :: (.c (.int .i64 0) :: []))))), false⟩
def T33 : TD := ⟨TypeDesc.array 8 5, 8, 8, (List.replicate 8 (.c (.int .u8 0))), false⟩
def T34 : TD := ⟨TypeDesc.array 16 5, 16, 16, (List.replicate 16 (.c (.int .u8 0))), false⟩
def T35 : TD := ⟨TypeDesc.array 16 5, 16, 16, (List.replicate 16 (.c (.int .u8 0))), false⟩
def T38 : TD := ⟨TypeDesc.array 256 5, 256, 256, (List.replicate 256 (.c (.int .u8 0))), false⟩
def T39 : TD := ⟨TypeDesc.array 4 29, 16, 16, (List.replicate 16 (.c (.int .u8 0))), false⟩
def T40 : TD := ⟨TypeDesc.struct #[{ name := "Field", type := 2, offset := 0, embedded := false, tag := "", pkgPath := "", byteOffset := 0 }, { name := "Box", type := 38, offset := 1, embedded := false, tag := "", pkgPath := "", byteOffset := 8 }, { name := "Mix", type := 39, offset := 257, embedded := false, tag := "", pkgPath := "", byteOffset := 264 }, { name := "Kind", type := 2, offset := 273, embedded := false, tag := "", pkgPath := "", byteOffset := 280 }, { name := "Rounds", type := 2, offset := 274, embedded := false, tag := "", pkgPath := "", byteOffset := 288 }], 275, 296, (.c (.int .i64 0) :: (List.replicate 256 (.c (.int .u8 0)) ++ (List.replicate 16 (.c (.int .u8 0)) ++ (.c (.int .i64 0) :: (.c (.int .i64 0) :: []))))), false⟩
def T41 : TD := ⟨TypeDesc.struct #[{ name := "Field", type := 2, offset := 0, embedded := false, tag := "", pkgPath := "", byteOffset := 0 }, { name := "Box", type := 38, offset := 1, embedded := false, tag := "", pkgPath := "", byteOffset := 8 }, { name := "Mix", type := 39, offset := 257, embedded := false, tag := "", pkgPath := "", byteOffset := 264 }, { name := "Kind", type := 2, offset := 273, embedded := false, tag := "", pkgPath := "", byteOffset := 280 }, { name := "Rounds", type := 2, offset := 274, embedded := false, tag := "", pkgPath := "", byteOffset := 288 }], 275, 296, (.c (.int .i64 0) :: (List.replicate 256 (.c (.int .u8 0)) ++ (List.replicate 16 (.c (.int .u8 0)) ++ (.c (.int .i64 0) :: (.c (.int .i64 0) :: []))))), false⟩
def T43 : TD := ⟨TypeDesc.array 8 5, 8, 8, (List.replicate 8 (.c (.int .u8 0))), false⟩
def T48 : TD := ⟨TypeDesc.slice 5, 1, 24, (.c (.slice none 0 0) :: []), false⟩
def T54 : TD := ⟨TypeDesc.slice 33, 1, 24, (.c (.slice none 0 0) :: []), false⟩
def T57 : TD := ⟨TypeDesc.slice 43, 1, 24, (.c (.slice none 0 0) :: []), false⟩
def T61 : TD := ⟨TypeDesc.struct #[{ name := "Field", type := 2, offset := 0, embedded := false, tag := "", pkgPath := "", byteOffset := 0 }, { name := "Box", type := 28, offset := 1, embedded := false, tag := "", pkgPath := "", byteOffset := 8 }, { name := "Mix", type := 30, offset := 257, embedded := false, tag := "", pkgPath := "", byteOffset := 264 }, { name := "Places", type := 34, offset := 273, embedded := false, tag := "", pkgPath := "", byteOffset := 280 }, { name := "Rounds", type := 2, offset := 289, embedded := false, tag := "", pkgPath := "", byteOffset := 296 }], 290, 304, (.c (.int .i64 0) :: (List.replicate 256 (.c (.int .u8 0)) ++ (List.replicate 16 (.c (.int .u8 0)) ++ (List.replicate 16 (.c (.int .u8 0)) ++ (.c (.int .i64 0) :: []))))), false⟩
def T62 : TD := ⟨TypeDesc.struct #[{ name := "Field", type := 2, offset := 0, embedded := false, tag := "", pkgPath := "", byteOffset := 0 }, { name := "Box", type := 28, offset := 1, embedded := false, tag := "", pkgPath := "", byteOffset := 8 }, { name := "Mix", type := 30, offset := 257, embedded := false, tag := "", pkgPath := "", byteOffset := 264 }, { name := "Places", type := 34, offset := 273, embedded := false, tag := "", pkgPath := "", byteOffset := 280 }, { name := "Rounds", type := 2, offset := 289, embedded := false, tag := "", pkgPath := "", byteOffset := 296 }], 290, 304, (.c (.int .i64 0) :: (List.replicate 256 (.c (.int .u8 0)) ++ (List.replicate 16 (.c (.int .u8 0)) ++ (List.replicate 16 (.c (.int .u8 0)) ++ (.c (.int .i64 0) :: []))))), false⟩
def T64 : TD := ⟨TypeDesc.array 16 5, 16, 16, (List.replicate 16 (.c (.int .u8 0))), false⟩
def T65 : TD := ⟨TypeDesc.struct #[{ name := "Field", type := 2, offset := 0, embedded := false, tag := "", pkgPath := "", byteOffset := 0 }, { name := "Box", type := 38, offset := 1, embedded := false, tag := "", pkgPath := "", byteOffset := 8 }, { name := "Mix", type := 39, offset := 257, embedded := false, tag := "", pkgPath := "", byteOffset := 264 }, { name := "Places", type := 64, offset := 273, embedded := false, tag := "", pkgPath := "", byteOffset := 280 }, { name := "Rounds", type := 2, offset := 289, embedded := false, tag := "", pkgPath := "", byteOffset := 296 }], 290, 304, (.c (.int .i64 0) :: (List.replicate 256 (.c (.int .u8 0)) ++ (List.replicate 16 (.c (.int .u8 0)) ++ (List.replicate 16 (.c (.int .u8 0)) ++ (.c (.int .i64 0) :: []))))), false⟩
def T66 : TD := ⟨TypeDesc.struct #[{ name := "Field", type := 2, offset := 0, embedded := false, tag := "", pkgPath := "", byteOffset := 0 }, { name := "Box", type := 38, offset := 1, embedded := false, tag := "", pkgPath := "", byteOffset := 8 }, { name := "Mix", type := 39, offset := 257, embedded := false, tag := "", pkgPath := "", byteOffset := 264 }, { name := "Places", type := 64, offset := 273, embedded := false, tag := "", pkgPath := "", byteOffset := 280 }, { name := "Rounds", type := 2, offset := 289, embedded := false, tag := "", pkgPath := "", byteOffset := 296 }], 290, 304, (.c (.int .i64 0) :: (List.replicate 256 (.c (.int .u8 0)) ++ (List.replicate 16 (.c (.int .u8 0)) ++ (List.replicate 16 (.c (.int .u8 0)) ++ (.c (.int .i64 0) :: []))))), false⟩
def T69 : TD := ⟨TypeDesc.slice 22, 1, 24, (.c (.slice none 0 0) :: []), false⟩
def T72 : TD := ⟨TypeDesc.slice 23, 1, 24, (.c (.slice none 0 0) :: []), false⟩
def T76 : TD := ⟨TypeDesc.pointer 137, 1, 8, (.c (.pointer none) :: []), false⟩
def T77 : TD := ⟨TypeDesc.struct #[{ name := "engine", type := 76, offset := 0, embedded := false, tag := "", pkgPath := "loop.example/g01182/impl", byteOffset := 0 }], 1, 8, (.c (.pointer none) :: []), false⟩
def T78 : TD := ⟨TypeDesc.struct #[{ name := "engine", type := 76, offset := 0, embedded := false, tag := "", pkgPath := "loop.example/g01182/impl", byteOffset := 0 }], 1, 8, (.c (.pointer none) :: []), false⟩
def T84 : TD := ⟨TypeDesc.pointer 119, 1, 8, (.c (.pointer none) :: []), false⟩
def T113 : TD := ⟨TypeDesc.int IntKind.i64, 1, 8, (.c (.int .i64 0) :: []), false⟩
def T116 : TD := ⟨TypeDesc.pointer 154, 1, 8, (.c (.pointer none) :: []), false⟩
def T118 : TD := ⟨TypeDesc.struct #[{ name := "box", type := 38, offset := 0, embedded := false, tag := "", pkgPath := "loop.example/g01182/impl", byteOffset := 0 }, { name := "backBox", type := 38, offset := 256, embedded := false, tag := "", pkgPath := "loop.example/g01182/impl", byteOffset := 256 }, { name := "mixer", type := 116, offset := 512, embedded := false, tag := "", pkgPath := "loop.example/g01182/impl", byteOffset := 512 }, { name := "backMixer", type := 116, offset := 513, embedded := false, tag := "", pkgPath := "loop.example/g01182/impl", byteOffset := 520 }, { name := "kind", type := 2, offset := 514, embedded := false, tag := "", pkgPath := "loop.example/g01182/impl", byteOffset := 528 }], 515, 536, (List.replicate 256 (.c (.int .u8 0)) ++ (List.replicate 256 (.c (.int .u8 0)) ++ (.c (.pointer none) :: (.c (.pointer none) :: (.c (.int .i64 0) :: []))))), false⟩
def T119 : TD := ⟨TypeDesc.struct #[{ name := "box", type := 38, offset := 0, embedded := false, tag := "", pkgPath := "loop.example/g01182/impl", byteOffset := 0 }, { name := "backBox", type := 38, offset := 256, embedded := false, tag := "", pkgPath := "loop.example/g01182/impl", byteOffset := 256 }, { name := "mixer", type := 116, offset := 512, embedded := false, tag := "", pkgPath := "loop.example/g01182/impl", byteOffset := 512 }, { name := "backMixer", type := 116, offset := 513, embedded := false, tag := "", pkgPath := "loop.example/g01182/impl", byteOffset := 520 }, { name := "kind", type := 2, offset := 514, embedded := false, tag := "", pkgPath := "loop.example/g01182/impl", byteOffset := 528 }], 515, 536, (List.replicate 256 (.c (.int .u8 0)) ++ (List.replicate 256 (.c (.int .u8 0)) ++ (.c (.pointer none) :: (.c (.pointer none) :: (.c (.int .i64 0) :: []))))), false⟩
def T122 : TD := ⟨TypeDesc.slice 48, 1, 24, (.c (.slice none 0 0) :: []), false⟩
def T124 : TD := ⟨TypeDesc.slice 35, 1, 24, (.c (.slice none 0 0) :: []), false⟩
def T136 : TD := ⟨TypeDesc.struct #[{ name := "box", type := 38, offset := 0, embedded := false, tag := "", pkgPath := "loop.example/g01182/impl", byteOffset := 0 }, { name := "backBox", type := 38, offset := 256, embedded := false, tag := "", pkgPath := "loop.example/g01182/impl", byteOffset := 256 }, { name := "places", type := 64, offset := 512, embedded := false, tag := "", pkgPath := "loop.example/g01182/impl", byteOffset := 512 }, { name := "backPlaces", type := 64, offset := 528, embedded := false, tag := "", pkgPath := "loop.example/g01182/impl", byteOffset := 528 }, { name := "mixer", type := 116, offset := 544, embedded := false, tag := "", pkgPath := "loop.example/g01182/impl", byteOffset := 544 }, { name := "backMixer", type := 116, offset := 545, embedded := false, tag := "", pkgPath := "loop.example/g01182/impl", byteOffset := 552 }, { name := "rounds", type := 2, offset := 546, embedded := false, tag := "", pkgPath := "loop.example/g01182/impl", byteOffset := 560 }], 547, 568, (List.replicate 256 (.c (.int .u8 0)) ++ (List.replicate 256 (.c (.int .u8 0)) ++ (List.replicate 16 (.c (.int .u8 0)) ++ (List.replicate 16 (.c (.int .u8 0)) ++ (.c (.pointer none) :: (.c (.pointer none) :: (.c (.int .i64 0) :: []))))))), false⟩
def T137 : TD := ⟨TypeDesc.struct #[{ name := "box", type := 38, offset := 0, embedded := false, tag := "", pkgPath := "loop.example/g01182/impl", byteOffset := 0 }, { name := "backBox", type := 38, offset := 256, embedded := false, tag := "", pkgPath := "loop.example/g01182/impl", byteOffset := 256 }, { name := "places", type := 64, offset := 512, embedded := false, tag := "", pkgPath := "loop.example/g01182/impl", byteOffset := 512 }, { name := "backPlaces", type := 64, offset := 528, embedded := false, tag := "", pkgPath := "loop.example/g01182/impl", byteOffset := 528 }, { name := "mixer", type := 116, offset := 544, embedded := false, tag := "", pkgPath := "loop.example/g01182/impl", byteOffset := 544 }, { name := "backMixer", type := 116, offset := 545, embedded := false, tag := "", pkgPath := "loop.example/g01182/impl", byteOffset := 552 }, { name := "rounds", type := 2, offset := 546, embedded := false, tag := "", pkgPath := "loop.example/g01182/impl", byteOffset := 560 }], 547, 568, (List.replicate 256 (.c (.int .u8 0)) ++ (List.replicate 256 (.c (.int .u8 0)) ++ (List.replicate 16 (.c (.int .u8 0)) ++ (List.replicate 16 (.c (.int .u8 0)) ++ (.c (.pointer none) :: (.c (.pointer none) :: (.c (.int .i64 0) :: []))))))), false⟩
def T142 : TD := ⟨TypeDesc.array 256 4, 256, 256, (List.replicate 256 (.c (.bool false))), false⟩
def T148 : TD := ⟨TypeDesc.slice 4, 1, 24, (.c (.slice none 0 0) :: []), false⟩
def T152 : TD := ⟨TypeDesc.array 4 28, 1024, 1024, (List.replicate 1024 (.c (.int .u8 0))), false⟩
def T153 : TD := ⟨TypeDesc.array 4 152, 4096, 4096, (List.replicate 4096 (.c (.int .u8 0))), false⟩
def T154 : TD := ⟨TypeDesc.array 4 152, 4096, 4096, (List.replicate 4096 (.c (.int .u8 0))), false⟩
def T159 : TD := ⟨TypeDesc.slice 2, 1, 24, (.c (.slice none 0 0) :: []), false⟩
def T164 : TD := ⟨TypeDesc.array 16 4, 16, 16, (List.replicate 16 (.c (.bool false))), false⟩
def T171 : TD := ⟨TypeDesc.int IntKind.u64, 1, 8, (.c (.int .u64 0) :: []), false⟩
def T175 : TD := ⟨TypeDesc.int IntKind.u64, 1, 8, (.c (.int .u64 0) :: []), false⟩
def T188 : TD := ⟨TypeDesc.int IntKind.u32, 1, 4, (.c (.int .u32 0) :: []), false⟩
def T201 : TD := ⟨TypeDesc.struct #[{ name := "Keys", type := 72, offset := 0, embedded := false, tag := "", pkgPath := "", byteOffset := 0 }, { name := "Data", type := 122, offset := 1, embedded := false, tag := "", pkgPath := "", byteOffset := 24 }, { name := "Counts", type := 159, offset := 2, embedded := false, tag := "", pkgPath := "", byteOffset := 48 }], 3, 72, (.c (.slice none 0 0) :: (.c (.slice none 0 0) :: (.c (.slice none 0 0) :: []))), false⟩
def T202 : TD := ⟨TypeDesc.struct #[{ name := "Keys", type := 72, offset := 0, embedded := false, tag := "", pkgPath := "", byteOffset := 0 }, { name := "Data", type := 122, offset := 1, embedded := false, tag := "", pkgPath := "", byteOffset := 24 }, { name := "Counts", type := 159, offset := 2, embedded := false, tag := "", pkgPath := "", byteOffset := 48 }], 3, 72, (.c (.slice none 0 0) :: (.c (.slice none 0 0) :: (.c (.slice none 0 0) :: []))), false⟩
def E : Env := fun t => match t with
  | 2 => some T2
  | 3 => some T3
  | 4 => some T4
  | 5 => some T5
  | 9 => some T9
  | 12 => some T12
  | 13 => some T13
  | 21 => some T21
  | 22 => some T22
  | 23 => some T23
  | 28 => some T28
  | 29 => some T29
  | 30 => some T30
  | 31 => some T31
  | 32 => some T32
  | 33 => some T33
  | 34 => some T34
  | 35 => some T35
  | 38 => some T38
  | 39 => some T39
  | 40 => some T40
  | 41 => some T41
  | 43 => some T43
  | 48 => some T48
  | 54 => some T54
  | 57 => some T57
  | 61 => some T61
  | 62 => some T62
  | 64 => some T64
  | 65 => some T65
  | 66 => some T66
  | 69 => some T69
  | 72 => some T72
  | 76 => some T76
  | 77 => some T77
  | 78 => some T78
  | 84 => some T84
  | 113 => some T113
  | 116 => some T116
  | 118 => some T118
  | 119 => some T119
  | 122 => some T122
  | 124 => some T124
  | 136 => some T136
  | 137 => some T137
  | 142 => some T142
  | 148 => some T148
  | 152 => some T152
  | 153 => some T153
  | 154 => some T154
  | 159 => some T159
  | 164 => some T164
  | 171 => some T171
  | 175 => some T175
  | 188 => some T188
  | 201 => some T201
  | 202 => some T202
  | _ => none
theorem i2 : ∃ i z, Try.prog.info? 2 = some i ∧ i.size = T2.size ∧ i.bytes = T2.bytes ∧ i.zero = some z ∧ z.cells.toList.map V.c = T2.zero ∧ (∀ c ∈ z.cells.toList, c.oneCell' = true) ∧ T2.zero.length = T2.size := ⟨Try.t2, _, by kernel_rfl, by kernel_rfl, by kernel_rfl, rfl, by kernel_rfl, List.all_eq_true.1 (by kernel_rfl), by kernel_rfl⟩
theorem i3 : ∃ i z, Try.prog.info? 3 = some i ∧ i.size = T3.size ∧ i.bytes = T3.bytes ∧ i.zero = some z ∧ z.cells.toList.map V.c = T3.zero ∧ (∀ c ∈ z.cells.toList, c.oneCell' = true) ∧ T3.zero.length = T3.size := ⟨Try.t3, _, by kernel_rfl, by kernel_rfl, by kernel_rfl, rfl, by kernel_rfl, List.all_eq_true.1 (by kernel_rfl), by kernel_rfl⟩
theorem i4 : ∃ i z, Try.prog.info? 4 = some i ∧ i.size = T4.size ∧ i.bytes = T4.bytes ∧ i.zero = some z ∧ z.cells.toList.map V.c = T4.zero ∧ (∀ c ∈ z.cells.toList, c.oneCell' = true) ∧ T4.zero.length = T4.size := ⟨Try.t4, _, by kernel_rfl, by kernel_rfl, by kernel_rfl, rfl, by kernel_rfl, List.all_eq_true.1 (by kernel_rfl), by kernel_rfl⟩
theorem i5 : ∃ i z, Try.prog.info? 5 = some i ∧ i.size = T5.size ∧ i.bytes = T5.bytes ∧ i.zero = some z ∧ z.cells.toList.map V.c = T5.zero ∧ (∀ c ∈ z.cells.toList, c.oneCell' = true) ∧ T5.zero.length = T5.size := ⟨Try.t5, _, by kernel_rfl, by kernel_rfl, by kernel_rfl, rfl, by kernel_rfl, List.all_eq_true.1 (by kernel_rfl), by kernel_rfl⟩
theorem i9 : ∃ i z, Try.prog.info? 9 = some i ∧ i.size = T9.size ∧ i.bytes = T9.bytes ∧ i.zero = some z ∧ z.cells.toList.map V.c = T9.zero ∧ (∀ c ∈ z.cells.toList, c.oneCell' = true) ∧ T9.zero.length = T9.size := ⟨Try.t9, _, by kernel_rfl, by kernel_rfl, by kernel_rfl, rfl, by kernel_rfl, List.all_eq_true.1 (by kernel_rfl), by kernel_rfl⟩
theorem i12 : ∃ i z, Try.prog.info? 12 = some i ∧ i.size = T12.size ∧ i.bytes = T12.bytes ∧ i.zero = some z ∧ z.cells.toList.map V.c = T12.zero ∧ (∀ c ∈ z.cells.toList, c.oneCell' = true) ∧ T12.zero.length = T12.size := ⟨Try.t12, _, by kernel_rfl, by kernel_rfl, by kernel_rfl, rfl, by kernel_rfl, List.all_eq_true.1 (by kernel_rfl), by kernel_rfl⟩
theorem i13 : ∃ i z, Try.prog.info? 13 = some i ∧ i.size = T13.size ∧ i.bytes = T13.bytes ∧ i.zero = some z ∧ z.cells.toList.map V.c = T13.zero ∧ (∀ c ∈ z.cells.toList, c.oneCell' = true) ∧ T13.zero.length = T13.size := ⟨Try.t13, _, by kernel_rfl, by kernel_rfl, by kernel_rfl, rfl, by kernel_rfl, List.all_eq_true.1 (by kernel_rfl), by kernel_rfl⟩
theorem i21 : ∃ i z, Try.prog.info? 21 = some i ∧ i.size = T21.size ∧ i.bytes = T21.bytes ∧ i.zero = some z ∧ z.cells.toList.map V.c = T21.zero ∧ (∀ c ∈ z.cells.toList, c.oneCell' = true) ∧ T21.zero.length = T21.size := ⟨Try.t21, _, by kernel_rfl, by kernel_rfl, by kernel_rfl, rfl, by kernel_rfl, List.all_eq_true.1 (by kernel_rfl), by kernel_rfl⟩
theorem i22 : ∃ i z, Try.prog.info? 22 = some i ∧ i.size = T22.size ∧ i.bytes = T22.bytes ∧ i.zero = some z ∧ z.cells.toList.map V.c = T22.zero ∧ (∀ c ∈ z.cells.toList, c.oneCell' = true) ∧ T22.zero.length = T22.size := ⟨Try.t22, _, by kernel_rfl, by kernel_rfl, by kernel_rfl, rfl, by kernel_rfl, List.all_eq_true.1 (by kernel_rfl), by kernel_rfl⟩
theorem i23 : ∃ i z, Try.prog.info? 23 = some i ∧ i.size = T23.size ∧ i.bytes = T23.bytes ∧ i.zero = some z ∧ z.cells.toList.map V.c = T23.zero ∧ (∀ c ∈ z.cells.toList, c.oneCell' = true) ∧ T23.zero.length = T23.size := ⟨Try.t23, _, by kernel_rfl, by kernel_rfl, by kernel_rfl, rfl, by kernel_rfl, List.all_eq_true.1 (by kernel_rfl), by kernel_rfl⟩
theorem i28 : ∃ i z, Try.prog.info? 28 = some i ∧ i.size = T28.size ∧ i.bytes = T28.bytes ∧ i.zero = some z ∧ z.cells.toList.map V.c = T28.zero ∧ (∀ c ∈ z.cells.toList, c.oneCell' = true) ∧ T28.zero.length = T28.size := ⟨Try.t28, _, by kernel_rfl, by kernel_rfl, by kernel_rfl, rfl, by kernel_rfl, List.all_eq_true.1 (by kernel_rfl), by kernel_rfl⟩
theorem i29 : ∃ i z, Try.prog.info? 29 = some i ∧ i.size = T29.size ∧ i.bytes = T29.bytes ∧ i.zero = some z ∧ z.cells.toList.map V.c = T29.zero ∧ (∀ c ∈ z.cells.toList, c.oneCell' = true) ∧ T29.zero.length = T29.size := ⟨Try.t29, _, by kernel_rfl, by kernel_rfl, by kernel_rfl, rfl, by kernel_rfl, List.all_eq_true.1 (by kernel_rfl), by kernel_rfl⟩
theorem i30 : ∃ i z, Try.prog.info? 30 = some i ∧ i.size = T30.size ∧ i.bytes = T30.bytes ∧ i.zero = some z ∧ z.cells.toList.map V.c = T30.zero ∧ (∀ c ∈ z.cells.toList, c.oneCell' = true) ∧ T30.zero.length = T30.size := ⟨Try.t30, _, by kernel_rfl, by kernel_rfl, by kernel_rfl, rfl, by kernel_rfl, List.all_eq_true.1 (by kernel_rfl), by kernel_rfl⟩
theorem i31 : ∃ i z, Try.prog.info? 31 = some i ∧ i.size = T31.size ∧ i.bytes = T31.bytes ∧ i.zero = some z ∧ z.cells.toList.map V.c = T31.zero ∧ (∀ c ∈ z.cells.toList, c.oneCell' = true) ∧ T31.zero.length = T31.size := ⟨Try.t31, _, by kernel_rfl, by kernel_rfl, by kernel_rfl, rfl, by kernel_rfl, List.all_eq_true.1 (by kernel_rfl), by kernel_rfl⟩
theorem i32 : ∃ i z, Try.prog.info? 32 = some i ∧ i.size = T32.size ∧ i.bytes = T32.bytes ∧ i.zero = some z ∧ z.cells.toList.map V.c = T32.zero ∧ (∀ c ∈ z.cells.toList, c.oneCell' = true) ∧ T32.zero.length = T32.size := ⟨Try.t32, _, by kernel_rfl, by kernel_rfl, by kernel_rfl, rfl, by kernel_rfl, List.all_eq_true.1 (by kernel_rfl), by kernel_rfl⟩
theorem i33 : ∃ i z, Try.prog.info? 33 = some i ∧ i.size = T33.size ∧ i.bytes = T33.bytes ∧ i.zero = some z ∧ z.cells.toList.map V.c = T33.zero ∧ (∀ c ∈ z.cells.toList, c.oneCell' = true) ∧ T33.zero.length = T33.size := ⟨Try.t33, _, by kernel_rfl, by kernel_rfl, by kernel_rfl, rfl, by kernel_rfl, List.all_eq_true.1 (by kernel_rfl), by kernel_rfl⟩
theorem i34 : ∃ i z, Try.prog.info? 34 = some i ∧ i.size = T34.size ∧ i.bytes = T34.bytes ∧ i.zero = some z ∧ z.cells.toList.map V.c = T34.zero ∧ (∀ c ∈ z.cells.toList, c.oneCell' = true) ∧ T34.zero.length = T34.size := ⟨Try.t34, _, by kernel_rfl, by kernel_rfl, by kernel_rfl, rfl, by kernel_rfl, List.all_eq_true.1 (by kernel_rfl), by kernel_rfl⟩
theorem i35 : ∃ i z, Try.prog.info? 35 = some i ∧ i.size = T35.size ∧ i.bytes = T35.bytes ∧ i.zero = some z ∧ z.cells.toList.map V.c = T35.zero ∧ (∀ c ∈ z.cells.toList, c.oneCell' = true) ∧ T35.zero.length = T35.size := ⟨Try.t35, _, by kernel_rfl, by kernel_rfl, by kernel_rfl, rfl, by kernel_rfl, List.all_eq_true.1 (by kernel_rfl), by kernel_rfl⟩
theorem i38 : ∃ i z, Try.prog.info? 38 = some i ∧ i.size = T38.size ∧ i.bytes = T38.bytes ∧ i.zero = some z ∧ z.cells.toList.map V.c = T38.zero ∧ (∀ c ∈ z.cells.toList, c.oneCell' = true) ∧ T38.zero.length = T38.size := ⟨Try.t38, _, by kernel_rfl, by kernel_rfl, by kernel_rfl, rfl, by kernel_rfl, List.all_eq_true.1 (by kernel_rfl), by kernel_rfl⟩
theorem i39 : ∃ i z, Try.prog.info? 39 = some i ∧ i.size = T39.size ∧ i.bytes = T39.bytes ∧ i.zero = some z ∧ z.cells.toList.map V.c = T39.zero ∧ (∀ c ∈ z.cells.toList, c.oneCell' = true) ∧ T39.zero.length = T39.size := ⟨Try.t39, _, by kernel_rfl, by kernel_rfl, by kernel_rfl, rfl, by kernel_rfl, List.all_eq_true.1 (by kernel_rfl), by kernel_rfl⟩
theorem i40 : ∃ i z, Try.prog.info? 40 = some i ∧ i.size = T40.size ∧ i.bytes = T40.bytes ∧ i.zero = some z ∧ z.cells.toList.map V.c = T40.zero ∧ (∀ c ∈ z.cells.toList, c.oneCell' = true) ∧ T40.zero.length = T40.size := ⟨Try.t40, _, by kernel_rfl, by kernel_rfl, by kernel_rfl, rfl, by kernel_rfl, List.all_eq_true.1 (by kernel_rfl), by kernel_rfl⟩
theorem i41 : ∃ i z, Try.prog.info? 41 = some i ∧ i.size = T41.size ∧ i.bytes = T41.bytes ∧ i.zero = some z ∧ z.cells.toList.map V.c = T41.zero ∧ (∀ c ∈ z.cells.toList, c.oneCell' = true) ∧ T41.zero.length = T41.size := ⟨Try.t41, _, by kernel_rfl, by kernel_rfl, by kernel_rfl, rfl, by kernel_rfl, List.all_eq_true.1 (by kernel_rfl), by kernel_rfl⟩
theorem i43 : ∃ i z, Try.prog.info? 43 = some i ∧ i.size = T43.size ∧ i.bytes = T43.bytes ∧ i.zero = some z ∧ z.cells.toList.map V.c = T43.zero ∧ (∀ c ∈ z.cells.toList, c.oneCell' = true) ∧ T43.zero.length = T43.size := ⟨Try.t43, _, by kernel_rfl, by kernel_rfl, by kernel_rfl, rfl, by kernel_rfl, List.all_eq_true.1 (by kernel_rfl), by kernel_rfl⟩
theorem i48 : ∃ i z, Try.prog.info? 48 = some i ∧ i.size = T48.size ∧ i.bytes = T48.bytes ∧ i.zero = some z ∧ z.cells.toList.map V.c = T48.zero ∧ (∀ c ∈ z.cells.toList, c.oneCell' = true) ∧ T48.zero.length = T48.size := ⟨Try.t48, _, by kernel_rfl, by kernel_rfl, by kernel_rfl, rfl, by kernel_rfl, List.all_eq_true.1 (by kernel_rfl), by kernel_rfl⟩
theorem i54 : ∃ i z, Try.prog.info? 54 = some i ∧ i.size = T54.size ∧ i.bytes = T54.bytes ∧ i.zero = some z ∧ z.cells.toList.map V.c = T54.zero ∧ (∀ c ∈ z.cells.toList, c.oneCell' = true) ∧ T54.zero.length = T54.size := ⟨Try.t54, _, by kernel_rfl, by kernel_rfl, by kernel_rfl, rfl, by kernel_rfl, List.all_eq_true.1 (by kernel_rfl), by kernel_rfl⟩
theorem i57 : ∃ i z, Try.prog.info? 57 = some i ∧ i.size = T57.size ∧ i.bytes = T57.bytes ∧ i.zero = some z ∧ z.cells.toList.map V.c = T57.zero ∧ (∀ c ∈ z.cells.toList, c.oneCell' = true) ∧ T57.zero.length = T57.size := ⟨Try.t57, _, by kernel_rfl, by kernel_rfl, by kernel_rfl, rfl, by kernel_rfl, List.all_eq_true.1 (by kernel_rfl), by kernel_rfl⟩
theorem i61 : ∃ i z, Try.prog.info? 61 = some i ∧ i.size = T61.size ∧ i.bytes = T61.bytes ∧ i.zero = some z ∧ z.cells.toList.map V.c = T61.zero ∧ (∀ c ∈ z.cells.toList, c.oneCell' = true) ∧ T61.zero.length = T61.size := ⟨Try.t61, _, by kernel_rfl, by kernel_rfl, by kernel_rfl, rfl, by kernel_rfl, List.all_eq_true.1 (by kernel_rfl), by kernel_rfl⟩
theorem i62 : ∃ i z, Try.prog.info? 62 = some i ∧ i.size = T62.size ∧ i.bytes = T62.bytes ∧ i.zero = some z ∧ z.cells.toList.map V.c = T62.zero ∧ (∀ c ∈ z.cells.toList, c.oneCell' = true) ∧ T62.zero.length = T62.size := ⟨Try.t62, _, by kernel_rfl, by kernel_rfl, by kernel_rfl, rfl, by kernel_rfl, List.all_eq_true.1 (by kernel_rfl), by kernel_rfl⟩
theorem i64 : ∃ i z, Try.prog.info? 64 = some i ∧ i.size = T64.size ∧ i.bytes = T64.bytes ∧ i.zero = some z ∧ z.cells.toList.map V.c = T64.zero ∧ (∀ c ∈ z.cells.toList, c.oneCell' = true) ∧ T64.zero.length = T64.size := ⟨Try.t64, _, by kernel_rfl, by kernel_rfl, by kernel_rfl, rfl, by kernel_rfl, List.all_eq_true.1 (by kernel_rfl), by kernel_rfl⟩
theorem i65 : ∃ i z, Try.prog.info? 65 = some i ∧ i.size = T65.size ∧ i.bytes = T65.bytes ∧ i.zero = some z ∧ z.cells.toList.map V.c = T65.zero ∧ (∀ c ∈ z.cells.toList, c.oneCell' = true) ∧ T65.zero.length = T65.size := ⟨Try.t65, _, by kernel_rfl, by kernel_rfl, by kernel_rfl, rfl, by kernel_rfl, List.all_eq_true.1 (by kernel_rfl), by kernel_rfl⟩
theorem i66 : ∃ i z, Try.prog.info? 66 = some i ∧ i.size = T66.size ∧ i.bytes = T66.bytes ∧ i.zero = some z ∧ z.cells.toList.map V.c = T66.zero ∧ (∀ c ∈ z.cells.toList, c.oneCell' = true) ∧ T66.zero.length = T66.size := ⟨Try.t66, _, by kernel_rfl, by kernel_rfl, by kernel_rfl, rfl, by kernel_rfl, List.all_eq_true.1 (by kernel_rfl), by kernel_rfl⟩
theorem i69 : ∃ i z, Try.prog.info? 69 = some i ∧ i.size = T69.size ∧ i.bytes = T69.bytes ∧ i.zero = some z ∧ z.cells.toList.map V.c = T69.zero ∧ (∀ c ∈ z.cells.toList, c.oneCell' = true) ∧ T69.zero.length = T69.size := ⟨Try.t69, _, by kernel_rfl, by kernel_rfl, by kernel_rfl, rfl, by kernel_rfl, List.all_eq_true.1 (by kernel_rfl), by kernel_rfl⟩
theorem i72 : ∃ i z, Try.prog.info? 72 = some i ∧ i.size = T72.size ∧ i.bytes = T72.bytes ∧ i.zero = some z ∧ z.cells.toList.map V.c = T72.zero ∧ (∀ c ∈ z.cells.toList, c.oneCell' = true) ∧ T72.zero.length = T72.size := ⟨Try.t72, _, by kernel_rfl, by kernel_rfl, by kernel_rfl, rfl, by kernel_rfl, List.all_eq_true.1 (by kernel_rfl), by kernel_rfl⟩
theorem i76 : ∃ i z, Try.prog.info? 76 = some i ∧ i.size = T76.size ∧ i.bytes = T76.bytes ∧ i.zero = some z ∧ z.cells.toList.map V.c = T76.zero ∧ (∀ c ∈ z.cells.toList, c.oneCell' = true) ∧ T76.zero.length = T76.size := ⟨Try.t76, _, by kernel_rfl, by kernel_rfl, by kernel_rfl, rfl, by kernel_rfl, List.all_eq_true.1 (by kernel_rfl), by kernel_rfl⟩
theorem i77 : ∃ i z, Try.prog.info? 77 = some i ∧ i.size = T77.size ∧ i.bytes = T77.bytes ∧ i.zero = some z ∧ z.cells.toList.map V.c = T77.zero ∧ (∀ c ∈ z.cells.toList, c.oneCell' = true) ∧ T77.zero.length = T77.size := ⟨Try.t77, _, by kernel_rfl, by kernel_rfl, by kernel_rfl, rfl, by kernel_rfl, List.all_eq_true.1 (by kernel_rfl), by kernel_rfl⟩
theorem i78 : ∃ i z, Try.prog.info? 78 = some i ∧ i.size = T78.size ∧ i.bytes = T78.bytes ∧ i.zero = some z ∧ z.cells.toList.map V.c = T78.zero ∧ (∀ c ∈ z.cells.toList, c.oneCell' = true) ∧ T78.zero.length = T78.size := ⟨Try.t78, _, by kernel_rfl, by kernel_rfl, by kernel_rfl, rfl, by kernel_rfl, List.all_eq_true.1 (by kernel_rfl), by kernel_rfl⟩
theorem i84 : ∃ i z, Try.prog.info? 84 = some i ∧ i.size = T84.size ∧ i.bytes = T84.bytes ∧ i.zero = some z ∧ z.cells.toList.map V.c = T84.zero ∧ (∀ c ∈ z.cells.toList, c.oneCell' = true) ∧ T84.zero.length = T84.size := ⟨Try.t84, _, by kernel_rfl, by kernel_rfl, by kernel_rfl, rfl, by kernel_rfl, List.all_eq_true.1 (by kernel_rfl), by kernel_rfl⟩
theorem i113 : ∃ i z, Try.prog.info? 113 = some i ∧ i.size = T113.size ∧ i.bytes = T113.bytes ∧ i.zero = some z ∧ z.cells.toList.map V.c = T113.zero ∧ (∀ c ∈ z.cells.toList, c.oneCell' = true) ∧ T113.zero.length = T113.size := ⟨Try.t113, _, by kernel_rfl, by kernel_rfl, by kernel_rfl, rfl, by kernel_rfl, List.all_eq_true.1 (by kernel_rfl), by kernel_rfl⟩
theorem i116 : ∃ i z, Try.prog.info? 116 = some i ∧ i.size = T116.size ∧ i.bytes = T116.bytes ∧ i.zero = some z ∧ z.cells.toList.map V.c = T116.zero ∧ (∀ c ∈ z.cells.toList, c.oneCell' = true) ∧ T116.zero.length = T116.size := ⟨Try.t116, _, by kernel_rfl, by kernel_rfl, by kernel_rfl, rfl, by kernel_rfl, List.all_eq_true.1 (by kernel_rfl), by kernel_rfl⟩
theorem i118 : ∃ i z, Try.prog.info? 118 = some i ∧ i.size = T118.size ∧ i.bytes = T118.bytes ∧ i.zero = some z ∧ z.cells.toList.map V.c = T118.zero ∧ (∀ c ∈ z.cells.toList, c.oneCell' = true) ∧ T118.zero.length = T118.size := ⟨Try.t118, _, by kernel_rfl, by kernel_rfl, by kernel_rfl, rfl, by kernel_rfl, List.all_eq_true.1 (by kernel_rfl), by kernel_rfl⟩
theorem i119 : ∃ i z, Try.prog.info? 119 = some i ∧ i.size = T119.size ∧ i.bytes = T119.bytes ∧ i.zero = some z ∧ z.cells.toList.map V.c = T119.zero ∧ (∀ c ∈ z.cells.toList, c.oneCell' = true) ∧ T119.zero.length = T119.size := ⟨Try.t119, _, by kernel_rfl, by kernel_rfl, by kernel_rfl, rfl, by kernel_rfl, List.all_eq_true.1 (by kernel_rfl), by kernel_rfl⟩
theorem i122 : ∃ i z, Try.prog.info? 122 = some i ∧ i.size = T122.size ∧ i.bytes = T122.bytes ∧ i.zero = some z ∧ z.cells.toList.map V.c = T122.zero ∧ (∀ c ∈ z.cells.toList, c.oneCell' = true) ∧ T122.zero.length = T122.size := ⟨Try.t122, _, by kernel_rfl, by kernel_rfl, by kernel_rfl, rfl, by kernel_rfl, List.all_eq_true.1 (by kernel_rfl), by kernel_rfl⟩
theorem i124 : ∃ i z, Try.prog.info? 124 = some i ∧ i.size = T124.size ∧ i.bytes = T124.bytes ∧ i.zero = some z ∧ z.cells.toList.map V.c = T124.zero ∧ (∀ c ∈ z.cells.toList, c.oneCell' = true) ∧ T124.zero.length = T124.size := ⟨Try.t124, _, by kernel_rfl, by kernel_rfl, by kernel_rfl, rfl, by kernel_rfl, List.all_eq_true.1 (by kernel_rfl), by kernel_rfl⟩
theorem i136 : ∃ i z, Try.prog.info? 136 = some i ∧ i.size = T136.size ∧ i.bytes = T136.bytes ∧ i.zero = some z ∧ z.cells.toList.map V.c = T136.zero ∧ (∀ c ∈ z.cells.toList, c.oneCell' = true) ∧ T136.zero.length = T136.size := ⟨Try.t136, _, by kernel_rfl, by kernel_rfl, by kernel_rfl, rfl, by kernel_rfl, List.all_eq_true.1 (by kernel_rfl), by kernel_rfl⟩
theorem i137 : ∃ i z, Try.prog.info? 137 = some i ∧ i.size = T137.size ∧ i.bytes = T137.bytes ∧ i.zero = some z ∧ z.cells.toList.map V.c = T137.zero ∧ (∀ c ∈ z.cells.toList, c.oneCell' = true) ∧ T137.zero.length = T137.size := ⟨Try.t137, _, by kernel_rfl, by kernel_rfl, by kernel_rfl, rfl, by kernel_rfl, List.all_eq_true.1 (by kernel_rfl), by kernel_rfl⟩
theorem i142 : ∃ i z, Try.prog.info? 142 = some i ∧ i.size = T142.size ∧ i.bytes = T142.bytes ∧ i.zero = some z ∧ z.cells.toList.map V.c = T142.zero ∧ (∀ c ∈ z.cells.toList, c.oneCell' = true) ∧ T142.zero.length = T142.size := ⟨Try.t142, _, by kernel_rfl, by kernel_rfl, by kernel_rfl, rfl, by kernel_rfl, List.all_eq_true.1 (by kernel_rfl), by kernel_rfl⟩
theorem i148 : ∃ i z, Try.prog.info? 148 = some i ∧ i.size = T148.size ∧ i.bytes = T148.bytes ∧ i.zero = some z ∧ z.cells.toList.map V.c = T148.zero ∧ (∀ c ∈ z.cells.toList, c.oneCell' = true) ∧ T148.zero.length = T148.size := ⟨Try.t148, _, by kernel_rfl, by kernel_rfl, by kernel_rfl, rfl, by kernel_rfl, List.all_eq_true.1 (by kernel_rfl), by kernel_rfl⟩
theorem i152 : ∃ i z, Try.prog.info? 152 = some i ∧ i.size = T152.size ∧ i.bytes = T152.bytes ∧ i.zero = some z ∧ z.cells.toList.map V.c = T152.zero ∧ (∀ c ∈ z.cells.toList, c.oneCell' = true) ∧ T152.zero.length = T152.size := ⟨Try.t152, _, by kernel_rfl, by kernel_rfl, by kernel_rfl, rfl, by kernel_rfl, List.all_eq_true.1 (by kernel_rfl), by kernel_rfl⟩
theorem i153 : ∃ i z, Try.prog.info? 153 = some i ∧ i.size = T153.size ∧ i.bytes = T153.bytes ∧ i.zero = some z ∧ z.cells.toList.map V.c = T153.zero ∧ (∀ c ∈ z.cells.toList, c.oneCell' = true) ∧ T153.zero.length = T153.size := ⟨Try.t153, _, by kernel_rfl, by kernel_rfl, by kernel_rfl, rfl, by kernel_rfl, List.all_eq_true.1 (by kernel_rfl), by kernel_rfl⟩
theorem i154 : ∃ i z, Try.prog.info? 154 = some i ∧ i.size = T154.size ∧ i.bytes = T154.bytes ∧ i.zero = some z ∧ z.cells.toList.map V.c = T154.zero ∧ (∀ c ∈ z.cells.toList, c.oneCell' = true) ∧ T154.zero.length = T154.size := ⟨Try.t154, _, by kernel_rfl, by kernel_rfl, by kernel_rfl, rfl, by kernel_rfl, List.all_eq_true.1 (by kernel_rfl), by kernel_rfl⟩
theorem i159 : ∃ i z, Try.prog.info? 159 = some i ∧ i.size = T159.size ∧ i.bytes = T159.bytes ∧ i.zero = some z ∧ z.cells.toList.map V.c = T159.zero ∧ (∀ c ∈ z.cells.toList, c.oneCell' = true) ∧ T159.zero.length = T159.size := ⟨Try.t159, _, by kernel_rfl, by kernel_rfl, by kernel_rfl, rfl, by kernel_rfl, List.all_eq_true.1 (by kernel_rfl), by kernel_rfl⟩
theorem i164 : ∃ i z, Try.prog.info? 164 = some i ∧ i.size = T164.size ∧ i.bytes = T164.bytes ∧ i.zero = some z ∧ z.cells.toList.map V.c = T164.zero ∧ (∀ c ∈ z.cells.toList, c.oneCell' = true) ∧ T164.zero.length = T164.size := ⟨Try.t164, _, by kernel_rfl, by kernel_rfl, by kernel_rfl, rfl, by kernel_rfl, List.all_eq_true.1 (by kernel_rfl), by kernel_rfl⟩
theorem i171 : ∃ i z, Try.prog.info? 171 = some i ∧ i.size = T171.size ∧ i.bytes = T171.bytes ∧ i.zero = some z ∧ z.cells.toList.map V.c = T171.zero ∧ (∀ c ∈ z.cells.toList, c.oneCell' = true) ∧ T171.zero.length = T171.size := ⟨Try.t171, _, by kernel_rfl, by kernel_rfl, by kernel_rfl, rfl, by kernel_rfl, List.all_eq_true.1 (by kernel_rfl), by kernel_rfl⟩
theorem i175 : ∃ i z, Try.prog.info? 175 = some i ∧ i.size = T175.size ∧ i.bytes = T175.bytes ∧ i.zero = some z ∧ z.cells.toList.map V.c = T175.zero ∧ (∀ c ∈ z.cells.toList, c.oneCell' = true) ∧ T175.zero.length = T175.size := ⟨Try.t175, _, by kernel_rfl, by kernel_rfl, by kernel_rfl, rfl, by kernel_rfl, List.all_eq_true.1 (by kernel_rfl), by kernel_rfl⟩
theorem i188 : ∃ i z, Try.prog.info? 188 = some i ∧ i.size = T188.size ∧ i.bytes = T188.bytes ∧ i.zero = some z ∧ z.cells.toList.map V.c = T188.zero ∧ (∀ c ∈ z.cells.toList, c.oneCell' = true) ∧ T188.zero.length = T188.size := ⟨Try.t188, _, by kernel_rfl, by kernel_rfl, by kernel_rfl, rfl, by kernel_rfl, List.all_eq_true.1 (by kernel_rfl), by kernel_rfl⟩
theorem i201 : ∃ i z, Try.prog.info? 201 = some i ∧ i.size = T201.size ∧ i.bytes = T201.bytes ∧ i.zero = some z ∧ z.cells.toList.map V.c = T201.zero ∧ (∀ c ∈ z.cells.toList, c.oneCell' = true) ∧ T201.zero.length = T201.size := ⟨Try.t201, _, by kernel_rfl, by kernel_rfl, by kernel_rfl, rfl, by kernel_rfl, List.all_eq_true.1 (by kernel_rfl), by kernel_rfl⟩
theorem i202 : ∃ i z, Try.prog.info? 202 = some i ∧ i.size = T202.size ∧ i.bytes = T202.bytes ∧ i.zero = some z ∧ z.cells.toList.map V.c = T202.zero ∧ (∀ c ∈ z.cells.toList, c.oneCell' = true) ∧ T202.zero.length = T202.size := ⟨Try.t202, _, by kernel_rfl, by kernel_rfl, by kernel_rfl, rfl, by kernel_rfl, List.all_eq_true.1 (by kernel_rfl), by kernel_rfl⟩
theorem envOK : EnvOK Try.prog E := by
  refine ⟨fun {t d} h => ?_, fun {t d} h => ?_, fun {t d} h => ?_, by kernel_rfl⟩
  · unfold E at h; split at h <;> first | (cases h; kernel_rfl) | cases h
  · unfold E at h; split at h <;> first | cases h | skip
    · exact i2
    · exact i3
    · exact i4
    · exact i5
    · exact i9
    · exact i12
    · exact i13
    · exact i21
    · exact i22
    · exact i23
    · exact i28
    · exact i29
    · exact i30
    · exact i31
    · exact i32
    · exact i33
    · exact i34
    · exact i35
    · exact i38
    · exact i39
    · exact i40
    · exact i41
    · exact i43
    · exact i48
    · exact i54
    · exact i57
    · exact i61
    · exact i62
    · exact i64
    · exact i65
    · exact i66
    · exact i69
    · exact i72
    · exact i76
    · exact i77
    · exact i78
    · exact i84
    · exact i113
    · exact i116
    · exact i118
    · exact i119
    · exact i122
    · exact i124
    · exact i136
    · exact i137
    · exact i142
    · exact i148
    · exact i152
    · exact i153
    · exact i154
    · exact i159
    · exact i164
    · exact i171
    · exact i175
    · exact i188
    · exact i201
    · exact i202
  · unfold E at h; split at h <;> first | (cases h; kernel_rfl) | cases h
theorem E2 : E 2 = some ⟨TypeDesc.int IntKind.i64, 1, 8, (.c (.int .i64 0) :: []), false⟩ := rfl
theorem E3 : E 3 = some ⟨TypeDesc.int IntKind.i64, 1, 8, (.c (.int .i64 0) :: []), false⟩ := rfl
theorem E4 : E 4 = some ⟨TypeDesc.bool, 1, 1, (.c (.bool false) :: []), false⟩ := rfl
theorem E5 : E 5 = some ⟨TypeDesc.int IntKind.u8, 1, 1, (.c (.int .u8 0) :: []), false⟩ := rfl
theorem E9 : E 9 = some ⟨TypeDesc.string, 1, 16, (.c (.string ⟨#[]⟩) :: []), false⟩ := rfl
theorem E12 : E 12 = some ⟨TypeDesc.int IntKind.u64, 1, 8, (.c (.int .u64 0) :: []), false⟩ := rfl
theorem E13 : E 13 = some ⟨TypeDesc.struct #[{ name := "msg", type := 9, offset := 0, embedded := false, tag := "", pkgPath := "runtime", byteOffset := 0 }, { name := "addr", type := 12, offset := 1, embedded := false, tag := "", pkgPath := "runtime", byteOffset := 16 }], 2, 24, (.c (.string ⟨#[]⟩) :: (.c (.int .u64 0) :: [])), false⟩ := rfl
theorem E21 : E 21 = some ⟨TypeDesc.int IntKind.i32, 1, 4, (.c (.int .i32 0) :: []), false⟩ := rfl
theorem E22 : E 22 = some ⟨TypeDesc.array 32 5, 32, 32, (bs (List.replicate 32 0)), false⟩ := by simp only [← zeros_bs, ← zeros_blv]; rfl
theorem E23 : E 23 = some ⟨TypeDesc.array 32 5, 32, 32, (bs (List.replicate 32 0)), false⟩ := by simp only [← zeros_bs, ← zeros_blv]; rfl
theorem E28 : E 28 = some ⟨TypeDesc.array 256 5, 256, 256, (bs (List.replicate 256 0)), false⟩ := by simp only [← zeros_bs, ← zeros_blv]; rfl
theorem E29 : E 29 = some ⟨TypeDesc.array 4 5, 4, 4, (bs (List.replicate 4 0)), false⟩ := by simp only [← zeros_bs, ← zeros_blv]; rfl
theorem E30 : E 30 = some ⟨TypeDesc.array 4 29, 16, 16, (bs (List.replicate 16 0)), false⟩ := by simp only [← zeros_bs, ← zeros_blv]; rfl
theorem E31 : E 31 = some ⟨TypeDesc.struct #[{ name := "Field", type := 2, offset := 0, embedded := false, tag := "", pkgPath := "", byteOffset := 0 }, { name := "Box", type := 28, offset := 1, embedded := false, tag := "", pkgPath := "", byteOffset := 8 }, { name := "Mix", type := 30, offset := 257, embedded := false, tag := "", pkgPath := "", byteOffset := 264 }, { name := "Kind", type := 2, offset := 273, embedded := false, tag := "", pkgPath := "", byteOffset := 280 }, { name := "Rounds", type := 2, offset := 274, embedded := false, tag := "", pkgPath := "", byteOffset := 288 }], 275, 296, (.c (.int .i64 0) :: (bs (List.replicate 256 0) ++ (bs (List.replicate 16 0) ++ (.c (.int .i64 0) :: (.c (.int .i64 0) :: []))))), false⟩ := by simp only [← zeros_bs, ← zeros_blv]; rfl
theorem E32 : E 32 = some ⟨TypeDesc.struct #[{ name := "Field", type := 2, offset := 0, embedded := false, tag := "", pkgPath := "", byteOffset := 0 }, { name := "Box", type := 28, offset := 1, embedded := false, tag := "", pkgPath := "", byteOffset := 8 }, { name := "Mix", type := 30, offset := 257, embedded := false, tag := "", pkgPath := "", byteOffset := 264 }, { name := "Kind", type := 2, offset := 273, embedded := false, tag := "", pkgPath := "", byteOffset := 280 }, { name := "Rounds", type := 2, offset := 274, embedded := false, tag := "", pkgPath := "", byteOffset := 288 }], 275, 296, (.c (.int .i64 0) :: (bs (List.replicate 256 0) ++ (bs (List.replicate 16 0) ++ (.c (.int .i64 0) :: (.c (.int .i64 0) :: []))))), false⟩ := by simp only [← zeros_bs, ← zeros_blv]; rfl
theorem E33 : E 33 = some ⟨TypeDesc.array 8 5, 8, 8, (bs (List.replicate 8 0)), false⟩ := by simp only [← zeros_bs, ← zeros_blv]; rfl
theorem E34 : E 34 = some ⟨TypeDesc.array 16 5, 16, 16, (bs (List.replicate 16 0)), false⟩ := by simp only [← zeros_bs, ← zeros_blv]; rfl
theorem E35 : E 35 = some ⟨TypeDesc.array 16 5, 16, 16, (bs (List.replicate 16 0)), false⟩ := by simp only [← zeros_bs, ← zeros_blv]; rfl
theorem E38 : E 38 = some ⟨TypeDesc.array 256 5, 256, 256, (bs (List.replicate 256 0)), false⟩ := by simp only [← zeros_bs, ← zeros_blv]; rfl
theorem E39 : E 39 = some ⟨TypeDesc.array 4 29, 16, 16, (bs (List.replicate 16 0)), false⟩ := by simp only [← zeros_bs, ← zeros_blv]; rfl
theorem E40 : E 40 = some ⟨TypeDesc.struct #[{ name := "Field", type := 2, offset := 0, embedded := false, tag := "", pkgPath := "", byteOffset := 0 }, { name := "Box", type := 38, offset := 1, embedded := false, tag := "", pkgPath := "", byteOffset := 8 }, { name := "Mix", type := 39, offset := 257, embedded := false, tag := "", pkgPath := "", byteOffset := 264 }, { name := "Kind", type := 2, offset := 273, embedded := false, tag := "", pkgPath := "", byteOffset := 280 }, { name := "Rounds", type := 2, offset := 274, embedded := false, tag := "", pkgPath := "", byteOffset := 288 }], 275, 296, (.c (.int .i64 0) :: (bs (List.replicate 256 0) ++ (bs (List.replicate 16 0) ++ (.c (.int .i64 0) :: (.c (.int .i64 0) :: []))))), false⟩ := by simp only [← zeros_bs, ← zeros_blv]; rfl
theorem E41 : E 41 = some ⟨TypeDesc.struct #[{ name := "Field", type := 2, offset := 0, embedded := false, tag := "", pkgPath := "", byteOffset := 0 }, { name := "Box", type := 38, offset := 1, embedded := false, tag := "", pkgPath := "", byteOffset := 8 }, { name := "Mix", type := 39, offset := 257, embedded := false, tag := "", pkgPath := "", byteOffset := 264 }, { name := "Kind", type := 2, offset := 273, embedded := false, tag := "", pkgPath := "", byteOffset := 280 }, { name := "Rounds", type := 2, offset := 274, embedded := false, tag := "", pkgPath := "", byteOffset := 288 }], 275, 296, (.c (.int .i64 0) :: (bs (List.replicate 256 0) ++ (bs (List.replicate 16 0) ++ (.c (.int .i64 0) :: (.c (.int .i64 0) :: []))))), false⟩ := by simp only [← zeros_bs, ← zeros_blv]; rfl
theorem E43 : E 43 = some ⟨TypeDesc.array 8 5, 8, 8, (bs (List.replicate 8 0)), false⟩ := by simp only [← zeros_bs, ← zeros_blv]; rfl
theorem E48 : E 48 = some ⟨TypeDesc.slice 5, 1, 24, (.c (.slice none 0 0) :: []), false⟩ := rfl
theorem E54 : E 54 = some ⟨TypeDesc.slice 33, 1, 24, (.c (.slice none 0 0) :: []), false⟩ := rfl
theorem E57 : E 57 = some ⟨TypeDesc.slice 43, 1, 24, (.c (.slice none 0 0) :: []), false⟩ := rfl
theorem E61 : E 61 = some ⟨TypeDesc.struct #[{ name := "Field", type := 2, offset := 0, embedded := false, tag := "", pkgPath := "", byteOffset := 0 }, { name := "Box", type := 28, offset := 1, embedded := false, tag := "", pkgPath := "", byteOffset := 8 }, { name := "Mix", type := 30, offset := 257, embedded := false, tag := "", pkgPath := "", byteOffset := 264 }, { name := "Places", type := 34, offset := 273, embedded := false, tag := "", pkgPath := "", byteOffset := 280 }, { name := "Rounds", type := 2, offset := 289, embedded := false, tag := "", pkgPath := "", byteOffset := 296 }], 290, 304, (.c (.int .i64 0) :: (bs (List.replicate 256 0) ++ (bs (List.replicate 16 0) ++ (bs (List.replicate 16 0) ++ (.c (.int .i64 0) :: []))))), false⟩ := by simp only [← zeros_bs, ← zeros_blv]; rfl
theorem E62 : E 62 = some ⟨TypeDesc.struct #[{ name := "Field", type := 2, offset := 0, embedded := false, tag := "", pkgPath := "", byteOffset := 0 }, { name := "Box", type := 28, offset := 1, embedded := false, tag := "", pkgPath := "", byteOffset := 8 }, { name := "Mix", type := 30, offset := 257, embedded := false, tag := "", pkgPath := "", byteOffset := 264 }, { name := "Places", type := 34, offset := 273, embedded := false, tag := "", pkgPath := "", byteOffset := 280 }, { name := "Rounds", type := 2, offset := 289, embedded := false, tag := "", pkgPath := "", byteOffset := 296 }], 290, 304, (.c (.int .i64 0) :: (bs (List.replicate 256 0) ++ (bs (List.replicate 16 0) ++ (bs (List.replicate 16 0) ++ (.c (.int .i64 0) :: []))))), false⟩ := by simp only [← zeros_bs, ← zeros_blv]; rfl
theorem E64 : E 64 = some ⟨TypeDesc.array 16 5, 16, 16, (bs (List.replicate 16 0)), false⟩ := by simp only [← zeros_bs, ← zeros_blv]; rfl
theorem E65 : E 65 = some ⟨TypeDesc.struct #[{ name := "Field", type := 2, offset := 0, embedded := false, tag := "", pkgPath := "", byteOffset := 0 }, { name := "Box", type := 38, offset := 1, embedded := false, tag := "", pkgPath := "", byteOffset := 8 }, { name := "Mix", type := 39, offset := 257, embedded := false, tag := "", pkgPath := "", byteOffset := 264 }, { name := "Places", type := 64, offset := 273, embedded := false, tag := "", pkgPath := "", byteOffset := 280 }, { name := "Rounds", type := 2, offset := 289, embedded := false, tag := "", pkgPath := "", byteOffset := 296 }], 290, 304, (.c (.int .i64 0) :: (bs (List.replicate 256 0) ++ (bs (List.replicate 16 0) ++ (bs (List.replicate 16 0) ++ (.c (.int .i64 0) :: []))))), false⟩ := by simp only [← zeros_bs, ← zeros_blv]; rfl
theorem E66 : E 66 = some ⟨TypeDesc.struct #[{ name := "Field", type := 2, offset := 0, embedded := false, tag := "", pkgPath := "", byteOffset := 0 }, { name := "Box", type := 38, offset := 1, embedded := false, tag := "", pkgPath := "", byteOffset := 8 }, { name := "Mix", type := 39, offset := 257, embedded := false, tag := "", pkgPath := "", byteOffset := 264 }, { name := "Places", type := 64, offset := 273, embedded := false, tag := "", pkgPath := "", byteOffset := 280 }, { name := "Rounds", type := 2, offset := 289, embedded := false, tag := "", pkgPath := "", byteOffset := 296 }], 290, 304, (.c (.int .i64 0) :: (bs (List.replicate 256 0) ++ (bs (List.replicate 16 0) ++ (bs (List.replicate 16 0) ++ (.c (.int .i64 0) :: []))))), false⟩ := by simp only [← zeros_bs, ← zeros_blv]; rfl
theorem E69 : E 69 = some ⟨TypeDesc.slice 22, 1, 24, (.c (.slice none 0 0) :: []), false⟩ := rfl
theorem E72 : E 72 = some ⟨TypeDesc.slice 23, 1, 24, (.c (.slice none 0 0) :: []), false⟩ := rfl
theorem E76 : E 76 = some ⟨TypeDesc.pointer 137, 1, 8, (.c (.pointer none) :: []), false⟩ := rfl
theorem E77 : E 77 = some ⟨TypeDesc.struct #[{ name := "engine", type := 76, offset := 0, embedded := false, tag := "", pkgPath := "loop.example/g01182/impl", byteOffset := 0 }], 1, 8, (.c (.pointer none) :: []), false⟩ := rfl
theorem E78 : E 78 = some ⟨TypeDesc.struct #[{ name := "engine", type := 76, offset := 0, embedded := false, tag := "", pkgPath := "loop.example/g01182/impl", byteOffset := 0 }], 1, 8, (.c (.pointer none) :: []), false⟩ := rfl
theorem E84 : E 84 = some ⟨TypeDesc.pointer 119, 1, 8, (.c (.pointer none) :: []), false⟩ := rfl
theorem E113 : E 113 = some ⟨TypeDesc.int IntKind.i64, 1, 8, (.c (.int .i64 0) :: []), false⟩ := rfl
theorem E116 : E 116 = some ⟨TypeDesc.pointer 154, 1, 8, (.c (.pointer none) :: []), false⟩ := rfl
theorem E118 : E 118 = some ⟨TypeDesc.struct #[{ name := "box", type := 38, offset := 0, embedded := false, tag := "", pkgPath := "loop.example/g01182/impl", byteOffset := 0 }, { name := "backBox", type := 38, offset := 256, embedded := false, tag := "", pkgPath := "loop.example/g01182/impl", byteOffset := 256 }, { name := "mixer", type := 116, offset := 512, embedded := false, tag := "", pkgPath := "loop.example/g01182/impl", byteOffset := 512 }, { name := "backMixer", type := 116, offset := 513, embedded := false, tag := "", pkgPath := "loop.example/g01182/impl", byteOffset := 520 }, { name := "kind", type := 2, offset := 514, embedded := false, tag := "", pkgPath := "loop.example/g01182/impl", byteOffset := 528 }], 515, 536, (bs (List.replicate 256 0) ++ (bs (List.replicate 256 0) ++ (.c (.pointer none) :: (.c (.pointer none) :: (.c (.int .i64 0) :: []))))), false⟩ := by simp only [← zeros_bs, ← zeros_blv]; rfl
theorem E119 : E 119 = some ⟨TypeDesc.struct #[{ name := "box", type := 38, offset := 0, embedded := false, tag := "", pkgPath := "loop.example/g01182/impl", byteOffset := 0 }, { name := "backBox", type := 38, offset := 256, embedded := false, tag := "", pkgPath := "loop.example/g01182/impl", byteOffset := 256 }, { name := "mixer", type := 116, offset := 512, embedded := false, tag := "", pkgPath := "loop.example/g01182/impl", byteOffset := 512 }, { name := "backMixer", type := 116, offset := 513, embedded := false, tag := "", pkgPath := "loop.example/g01182/impl", byteOffset := 520 }, { name := "kind", type := 2, offset := 514, embedded := false, tag := "", pkgPath := "loop.example/g01182/impl", byteOffset := 528 }], 515, 536, (bs (List.replicate 256 0) ++ (bs (List.replicate 256 0) ++ (.c (.pointer none) :: (.c (.pointer none) :: (.c (.int .i64 0) :: []))))), false⟩ := by simp only [← zeros_bs, ← zeros_blv]; rfl
theorem E122 : E 122 = some ⟨TypeDesc.slice 48, 1, 24, (.c (.slice none 0 0) :: []), false⟩ := rfl
theorem E124 : E 124 = some ⟨TypeDesc.slice 35, 1, 24, (.c (.slice none 0 0) :: []), false⟩ := rfl
theorem E136 : E 136 = some ⟨TypeDesc.struct #[{ name := "box", type := 38, offset := 0, embedded := false, tag := "", pkgPath := "loop.example/g01182/impl", byteOffset := 0 }, { name := "backBox", type := 38, offset := 256, embedded := false, tag := "", pkgPath := "loop.example/g01182/impl", byteOffset := 256 }, { name := "places", type := 64, offset := 512, embedded := false, tag := "", pkgPath := "loop.example/g01182/impl", byteOffset := 512 }, { name := "backPlaces", type := 64, offset := 528, embedded := false, tag := "", pkgPath := "loop.example/g01182/impl", byteOffset := 528 }, { name := "mixer", type := 116, offset := 544, embedded := false, tag := "", pkgPath := "loop.example/g01182/impl", byteOffset := 544 }, { name := "backMixer", type := 116, offset := 545, embedded := false, tag := "", pkgPath := "loop.example/g01182/impl", byteOffset := 552 }, { name := "rounds", type := 2, offset := 546, embedded := false, tag := "", pkgPath := "loop.example/g01182/impl", byteOffset := 560 }], 547, 568, (bs (List.replicate 256 0) ++ (bs (List.replicate 256 0) ++ (bs (List.replicate 16 0) ++ (bs (List.replicate 16 0) ++ (.c (.pointer none) :: (.c (.pointer none) :: (.c (.int .i64 0) :: []))))))), false⟩ := by simp only [← zeros_bs, ← zeros_blv]; rfl
theorem E137 : E 137 = some ⟨TypeDesc.struct #[{ name := "box", type := 38, offset := 0, embedded := false, tag := "", pkgPath := "loop.example/g01182/impl", byteOffset := 0 }, { name := "backBox", type := 38, offset := 256, embedded := false, tag := "", pkgPath := "loop.example/g01182/impl", byteOffset := 256 }, { name := "places", type := 64, offset := 512, embedded := false, tag := "", pkgPath := "loop.example/g01182/impl", byteOffset := 512 }, { name := "backPlaces", type := 64, offset := 528, embedded := false, tag := "", pkgPath := "loop.example/g01182/impl", byteOffset := 528 }, { name := "mixer", type := 116, offset := 544, embedded := false, tag := "", pkgPath := "loop.example/g01182/impl", byteOffset := 544 }, { name := "backMixer", type := 116, offset := 545, embedded := false, tag := "", pkgPath := "loop.example/g01182/impl", byteOffset := 552 }, { name := "rounds", type := 2, offset := 546, embedded := false, tag := "", pkgPath := "loop.example/g01182/impl", byteOffset := 560 }], 547, 568, (bs (List.replicate 256 0) ++ (bs (List.replicate 256 0) ++ (bs (List.replicate 16 0) ++ (bs (List.replicate 16 0) ++ (.c (.pointer none) :: (.c (.pointer none) :: (.c (.int .i64 0) :: []))))))), false⟩ := by simp only [← zeros_bs, ← zeros_blv]; rfl
theorem E142 : E 142 = some ⟨TypeDesc.array 256 4, 256, 256, (blv (List.replicate 256 false)), false⟩ := by simp only [← zeros_bs, ← zeros_blv]; rfl
theorem E148 : E 148 = some ⟨TypeDesc.slice 4, 1, 24, (.c (.slice none 0 0) :: []), false⟩ := rfl
theorem E152 : E 152 = some ⟨TypeDesc.array 4 28, 1024, 1024, (bs (List.replicate 1024 0)), false⟩ := by simp only [← zeros_bs, ← zeros_blv]; rfl
theorem E153 : E 153 = some ⟨TypeDesc.array 4 152, 4096, 4096, (bs (List.replicate 4096 0)), false⟩ := by simp only [← zeros_bs, ← zeros_blv]; rfl
theorem E154 : E 154 = some ⟨TypeDesc.array 4 152, 4096, 4096, (bs (List.replicate 4096 0)), false⟩ := by simp only [← zeros_bs, ← zeros_blv]; rfl
theorem E159 : E 159 = some ⟨TypeDesc.slice 2, 1, 24, (.c (.slice none 0 0) :: []), false⟩ := rfl
theorem E164 : E 164 = some ⟨TypeDesc.array 16 4, 16, 16, (blv (List.replicate 16 false)), false⟩ := by simp only [← zeros_bs, ← zeros_blv]; rfl
theorem E171 : E 171 = some ⟨TypeDesc.int IntKind.u64, 1, 8, (.c (.int .u64 0) :: []), false⟩ := rfl
theorem E175 : E 175 = some ⟨TypeDesc.int IntKind.u64, 1, 8, (.c (.int .u64 0) :: []), false⟩ := rfl
theorem E188 : E 188 = some ⟨TypeDesc.int IntKind.u32, 1, 4, (.c (.int .u32 0) :: []), false⟩ := rfl
theorem E201 : E 201 = some ⟨TypeDesc.struct #[{ name := "Keys", type := 72, offset := 0, embedded := false, tag := "", pkgPath := "", byteOffset := 0 }, { name := "Data", type := 122, offset := 1, embedded := false, tag := "", pkgPath := "", byteOffset := 24 }, { name := "Counts", type := 159, offset := 2, embedded := false, tag := "", pkgPath := "", byteOffset := 48 }], 3, 72, (.c (.slice none 0 0) :: (.c (.slice none 0 0) :: (.c (.slice none 0 0) :: []))), false⟩ := rfl
theorem E202 : E 202 = some ⟨TypeDesc.struct #[{ name := "Keys", type := 72, offset := 0, embedded := false, tag := "", pkgPath := "", byteOffset := 0 }, { name := "Data", type := 122, offset := 1, embedded := false, tag := "", pkgPath := "", byteOffset := 24 }, { name := "Counts", type := 159, offset := 2, embedded := false, tag := "", pkgPath := "", byteOffset := 48 }], 3, 72, (.c (.slice none 0 0) :: (.c (.slice none 0 0) :: (.c (.slice none 0 0) :: []))), false⟩ := rfl
noncomputable def XX (ord : Nat → Tr) (flt : Nat → Flt) (mu : List FuncId) (m : Nat) : Cx := ⟨E, Try.prog, ord, flt, mu, m⟩
/-- The type facts, bundled. -/
theorem TT : type_of% (
  And.intro E2 <|
  And.intro E3 <|
  And.intro E4 <|
  And.intro E5 <|
  And.intro E9 <|
  And.intro E12 <|
  And.intro E13 <|
  And.intro E21 <|
  And.intro E22 <|
  And.intro E23 <|
  And.intro E28 <|
  And.intro E29 <|
  And.intro E30 <|
  And.intro E31 <|
  And.intro E32 <|
  And.intro E33 <|
  And.intro E34 <|
  And.intro E35 <|
  And.intro E38 <|
  And.intro E39 <|
  And.intro E40 <|
  And.intro E41 <|
  And.intro E43 <|
  And.intro E48 <|
  And.intro E54 <|
  And.intro E57 <|
  And.intro E61 <|
  And.intro E62 <|
  And.intro E64 <|
  And.intro E65 <|
  And.intro E66 <|
  And.intro E69 <|
  And.intro E72 <|
  And.intro E76 <|
  And.intro E77 <|
  And.intro E78 <|
  And.intro E84 <|
  And.intro E113 <|
  And.intro E116 <|
  And.intro E118 <|
  And.intro E119 <|
  And.intro E122 <|
  And.intro E124 <|
  And.intro E136 <|
  And.intro E137 <|
  And.intro E142 <|
  And.intro E148 <|
  And.intro E152 <|
  And.intro E153 <|
  And.intro E154 <|
  And.intro E159 <|
  And.intro E164 <|
  And.intro E171 <|
  And.intro E175 <|
  And.intro E188 <|
  And.intro E201 <|
  E202) :=
  And.intro E2 <|
  And.intro E3 <|
  And.intro E4 <|
  And.intro E5 <|
  And.intro E9 <|
  And.intro E12 <|
  And.intro E13 <|
  And.intro E21 <|
  And.intro E22 <|
  And.intro E23 <|
  And.intro E28 <|
  And.intro E29 <|
  And.intro E30 <|
  And.intro E31 <|
  And.intro E32 <|
  And.intro E33 <|
  And.intro E34 <|
  And.intro E35 <|
  And.intro E38 <|
  And.intro E39 <|
  And.intro E40 <|
  And.intro E41 <|
  And.intro E43 <|
  And.intro E48 <|
  And.intro E54 <|
  And.intro E57 <|
  And.intro E61 <|
  And.intro E62 <|
  And.intro E64 <|
  And.intro E65 <|
  And.intro E66 <|
  And.intro E69 <|
  And.intro E72 <|
  And.intro E76 <|
  And.intro E77 <|
  And.intro E78 <|
  And.intro E84 <|
  And.intro E113 <|
  And.intro E116 <|
  And.intro E118 <|
  And.intro E119 <|
  And.intro E122 <|
  And.intro E124 <|
  And.intro E136 <|
  And.intro E137 <|
  And.intro E142 <|
  And.intro E148 <|
  And.intro E152 <|
  And.intro E153 <|
  And.intro E154 <|
  And.intro E159 <|
  And.intro E164 <|
  And.intro E171 <|
  And.intro E175 <|
  And.intro E188 <|
  And.intro E201 <|
  E202
end Go.Proofs.Ytfokmjfbmhlhdaa

import Derived.Test.YtbdnomfcgbmncaaVcgQ
import Derived.Test.YtbdnomfcgbmncaaChecked
/- The types of this seat as my verification conditions see them: underlying type, size, bytes, zero cells; each checked against the program's own table. -/
set_option linter.unusedSimpArgs false
set_option linter.unusedVariables false
namespace Go.Proofs.Ytbdnomfcgbmncaa
open Go Go.Vc
def T2 : TD := ⟨TypeDesc.int IntKind.i64, 1, 8, (.c (.int .i64 0) :: []), false⟩
def T3 : TD := ⟨TypeDesc.int IntKind.i64, 1, 8, (.c (.int .i64 0) :: []), false⟩
def T4 : TD := ⟨TypeDesc.bool, 1, 1, (.c (.bool false) :: []), false⟩
def T5 : TD := ⟨TypeDesc.int IntKind.u8, 1, 1, (.c (.int .u8 0) :: []), false⟩
def T9 : TD := ⟨TypeDesc.string, 1, 16, (.c (.string ⟨#[]⟩) :: []), false⟩
def T12 : TD := ⟨TypeDesc.int IntKind.u64, 1, 8, (.c (.int .u64 0) :: []), false⟩
def T13 : TD := ⟨TypeDesc.struct #[{ name := "msg", type := 9, offset := 0, embedded := false, tag := "", pkgPath := "runtime", byteOffset := 0 }, { name := "addr", type := 12, offset := 1, embedded := false, tag := "", pkgPath := "runtime", byteOffset := 16 }], 2, 24, (.c (.string ⟨#[]⟩) :: (.c (.int .u64 0) :: [])), false⟩
def T21 : TD := ⟨TypeDesc.int IntKind.i32, 1, 4, (.c (.int .i32 0) :: []), false⟩
def T22 : TD := ⟨TypeDesc.array 256 5, 256, 256, (List.replicate 256 (.c (.int .u8 0))), false⟩
def T23 : TD := ⟨TypeDesc.array 4 5, 4, 4, (.c (.int .u8 0) :: .c (.int .u8 0) :: .c (.int .u8 0) :: .c (.int .u8 0) :: []), false⟩
def T24 : TD := ⟨TypeDesc.array 4 23, 16, 16, (List.replicate 16 (.c (.int .u8 0))), false⟩
def T25 : TD := ⟨TypeDesc.struct #[{ name := "Field", type := 2, offset := 0, embedded := false, tag := "", pkgPath := "", byteOffset := 0 }, { name := "Box", type := 22, offset := 1, embedded := false, tag := "", pkgPath := "", byteOffset := 8 }, { name := "Mix", type := 24, offset := 257, embedded := false, tag := "", pkgPath := "", byteOffset := 264 }, { name := "Kind", type := 2, offset := 273, embedded := false, tag := "", pkgPath := "", byteOffset := 280 }, { name := "Rounds", type := 2, offset := 274, embedded := false, tag := "", pkgPath := "", byteOffset := 288 }], 275, 296, (.c (.int .i64 0) :: (List.replicate 256 (.c (.int .u8 0)) ++ (List.replicate 16 (.c (.int .u8 0)) ++ (.c (.int .i64 0) :: (.c (.int .i64 0) :: []))))), false⟩
def T26 : TD := ⟨TypeDesc.struct #[{ name := "Field", type := 2, offset := 0, embedded := false, tag := "", pkgPath := "", byteOffset := 0 }, { name := "Box", type := 22, offset := 1, embedded := false, tag := "", pkgPath := "", byteOffset := 8 }, { name := "Mix", type := 24, offset := 257, embedded := false, tag := "", pkgPath := "", byteOffset := 264 }, { name := "Kind", type := 2, offset := 273, embedded := false, tag := "", pkgPath := "", byteOffset := 280 }, { name := "Rounds", type := 2, offset := 274, embedded := false, tag := "", pkgPath := "", byteOffset := 288 }], 275, 296, (.c (.int .i64 0) :: (List.replicate 256 (.c (.int .u8 0)) ++ (List.replicate 16 (.c (.int .u8 0)) ++ (.c (.int .i64 0) :: (.c (.int .i64 0) :: []))))), false⟩
def T27 : TD := ⟨TypeDesc.array 8 5, 8, 8, (List.replicate 8 (.c (.int .u8 0))), false⟩
def T28 : TD := ⟨TypeDesc.array 16 5, 16, 16, (List.replicate 16 (.c (.int .u8 0))), false⟩
def T29 : TD := ⟨TypeDesc.array 16 5, 16, 16, (List.replicate 16 (.c (.int .u8 0))), false⟩
def T32 : TD := ⟨TypeDesc.array 256 5, 256, 256, (List.replicate 256 (.c (.int .u8 0))), false⟩
def T33 : TD := ⟨TypeDesc.array 4 23, 16, 16, (List.replicate 16 (.c (.int .u8 0))), false⟩
def T34 : TD := ⟨TypeDesc.struct #[{ name := "Field", type := 2, offset := 0, embedded := false, tag := "", pkgPath := "", byteOffset := 0 }, { name := "Box", type := 32, offset := 1, embedded := false, tag := "", pkgPath := "", byteOffset := 8 }, { name := "Mix", type := 33, offset := 257, embedded := false, tag := "", pkgPath := "", byteOffset := 264 }, { name := "Kind", type := 2, offset := 273, embedded := false, tag := "", pkgPath := "", byteOffset := 280 }, { name := "Rounds", type := 2, offset := 274, embedded := false, tag := "", pkgPath := "", byteOffset := 288 }], 275, 296, (.c (.int .i64 0) :: (List.replicate 256 (.c (.int .u8 0)) ++ (List.replicate 16 (.c (.int .u8 0)) ++ (.c (.int .i64 0) :: (.c (.int .i64 0) :: []))))), false⟩
def T35 : TD := ⟨TypeDesc.struct #[{ name := "Field", type := 2, offset := 0, embedded := false, tag := "", pkgPath := "", byteOffset := 0 }, { name := "Box", type := 32, offset := 1, embedded := false, tag := "", pkgPath := "", byteOffset := 8 }, { name := "Mix", type := 33, offset := 257, embedded := false, tag := "", pkgPath := "", byteOffset := 264 }, { name := "Kind", type := 2, offset := 273, embedded := false, tag := "", pkgPath := "", byteOffset := 280 }, { name := "Rounds", type := 2, offset := 274, embedded := false, tag := "", pkgPath := "", byteOffset := 288 }], 275, 296, (.c (.int .i64 0) :: (List.replicate 256 (.c (.int .u8 0)) ++ (List.replicate 16 (.c (.int .u8 0)) ++ (.c (.int .i64 0) :: (.c (.int .i64 0) :: []))))), false⟩
def T37 : TD := ⟨TypeDesc.array 8 5, 8, 8, (List.replicate 8 (.c (.int .u8 0))), false⟩
def T42 : TD := ⟨TypeDesc.slice 27, 1, 24, (.c (.slice none 0 0) :: []), false⟩
def T45 : TD := ⟨TypeDesc.slice 37, 1, 24, (.c (.slice none 0 0) :: []), false⟩
def T49 : TD := ⟨TypeDesc.slice 28, 1, 24, (.c (.slice none 0 0) :: []), false⟩
def T51 : TD := ⟨TypeDesc.slice 115, 1, 24, (.c (.slice none 0 0) :: []), false⟩
def T54 : TD := ⟨TypeDesc.slice 29, 1, 24, (.c (.slice none 0 0) :: []), false⟩
def T61 : TD := ⟨TypeDesc.struct #[{ name := "Field", type := 2, offset := 0, embedded := false, tag := "", pkgPath := "", byteOffset := 0 }, { name := "Box", type := 22, offset := 1, embedded := false, tag := "", pkgPath := "", byteOffset := 8 }, { name := "Mix", type := 24, offset := 257, embedded := false, tag := "", pkgPath := "", byteOffset := 264 }, { name := "Places", type := 28, offset := 273, embedded := false, tag := "", pkgPath := "", byteOffset := 280 }, { name := "Rounds", type := 2, offset := 289, embedded := false, tag := "", pkgPath := "", byteOffset := 296 }], 290, 304, (.c (.int .i64 0) :: (List.replicate 256 (.c (.int .u8 0)) ++ (List.replicate 16 (.c (.int .u8 0)) ++ (List.replicate 16 (.c (.int .u8 0)) ++ (.c (.int .i64 0) :: []))))), false⟩
def T62 : TD := ⟨TypeDesc.struct #[{ name := "Field", type := 2, offset := 0, embedded := false, tag := "", pkgPath := "", byteOffset := 0 }, { name := "Box", type := 22, offset := 1, embedded := false, tag := "", pkgPath := "", byteOffset := 8 }, { name := "Mix", type := 24, offset := 257, embedded := false, tag := "", pkgPath := "", byteOffset := 264 }, { name := "Places", type := 28, offset := 273, embedded := false, tag := "", pkgPath := "", byteOffset := 280 }, { name := "Rounds", type := 2, offset := 289, embedded := false, tag := "", pkgPath := "", byteOffset := 296 }], 290, 304, (.c (.int .i64 0) :: (List.replicate 256 (.c (.int .u8 0)) ++ (List.replicate 16 (.c (.int .u8 0)) ++ (List.replicate 16 (.c (.int .u8 0)) ++ (.c (.int .i64 0) :: []))))), false⟩
def T63 : TD := ⟨TypeDesc.array 32 5, 32, 32, (List.replicate 32 (.c (.int .u8 0))), false⟩
def T64 : TD := ⟨TypeDesc.array 32 5, 32, 32, (List.replicate 32 (.c (.int .u8 0))), false⟩
def T67 : TD := ⟨TypeDesc.array 16 5, 16, 16, (List.replicate 16 (.c (.int .u8 0))), false⟩
def T68 : TD := ⟨TypeDesc.struct #[{ name := "Field", type := 2, offset := 0, embedded := false, tag := "", pkgPath := "", byteOffset := 0 }, { name := "Box", type := 32, offset := 1, embedded := false, tag := "", pkgPath := "", byteOffset := 8 }, { name := "Mix", type := 33, offset := 257, embedded := false, tag := "", pkgPath := "", byteOffset := 264 }, { name := "Places", type := 67, offset := 273, embedded := false, tag := "", pkgPath := "", byteOffset := 280 }, { name := "Rounds", type := 2, offset := 289, embedded := false, tag := "", pkgPath := "", byteOffset := 296 }], 290, 304, (.c (.int .i64 0) :: (List.replicate 256 (.c (.int .u8 0)) ++ (List.replicate 16 (.c (.int .u8 0)) ++ (List.replicate 16 (.c (.int .u8 0)) ++ (.c (.int .i64 0) :: []))))), false⟩
def T69 : TD := ⟨TypeDesc.struct #[{ name := "Field", type := 2, offset := 0, embedded := false, tag := "", pkgPath := "", byteOffset := 0 }, { name := "Box", type := 32, offset := 1, embedded := false, tag := "", pkgPath := "", byteOffset := 8 }, { name := "Mix", type := 33, offset := 257, embedded := false, tag := "", pkgPath := "", byteOffset := 264 }, { name := "Places", type := 67, offset := 273, embedded := false, tag := "", pkgPath := "", byteOffset := 280 }, { name := "Rounds", type := 2, offset := 289, embedded := false, tag := "", pkgPath := "", byteOffset := 296 }], 290, 304, (.c (.int .i64 0) :: (List.replicate 256 (.c (.int .u8 0)) ++ (List.replicate 16 (.c (.int .u8 0)) ++ (List.replicate 16 (.c (.int .u8 0)) ++ (.c (.int .i64 0) :: []))))), false⟩
def T74 : TD := ⟨TypeDesc.slice 5, 1, 24, (.c (.slice none 0 0) :: []), false⟩
def T88 : TD := ⟨TypeDesc.slice 74, 1, 24, (.c (.slice none 0 0) :: []), false⟩
def T90 : TD := ⟨TypeDesc.slice 64, 1, 24, (.c (.slice none 0 0) :: []), false⟩
def T98 : TD := ⟨TypeDesc.slice 63, 1, 24, (.c (.slice none 0 0) :: []), false⟩
def T107 : TD := ⟨TypeDesc.pointer 154, 1, 8, (.c (.pointer none) :: []), false⟩
def T115 : TD := ⟨TypeDesc.slice 2, 1, 24, (.c (.slice none 0 0) :: []), false⟩
def T121 : TD := ⟨TypeDesc.pointer 166, 1, 8, (.c (.pointer none) :: []), false⟩
def T148 : TD := ⟨TypeDesc.int IntKind.i64, 1, 8, (.c (.int .i64 0) :: []), false⟩
def T151 : TD := ⟨TypeDesc.pointer 190, 1, 8, (.c (.pointer none) :: []), false⟩
def T153 : TD := ⟨TypeDesc.struct #[{ name := "box", type := 32, offset := 0, embedded := false, tag := "", pkgPath := "loop.example/g01182/impl", byteOffset := 0 }, { name := "backBox", type := 32, offset := 256, embedded := false, tag := "", pkgPath := "loop.example/g01182/impl", byteOffset := 256 }, { name := "mixer", type := 151, offset := 512, embedded := false, tag := "", pkgPath := "loop.example/g01182/impl", byteOffset := 512 }, { name := "backMixer", type := 151, offset := 513, embedded := false, tag := "", pkgPath := "loop.example/g01182/impl", byteOffset := 520 }, { name := "kind", type := 2, offset := 514, embedded := false, tag := "", pkgPath := "loop.example/g01182/impl", byteOffset := 528 }], 515, 536, (List.replicate 256 (.c (.int .u8 0)) ++ (List.replicate 256 (.c (.int .u8 0)) ++ (.c (.pointer none) :: (.c (.pointer none) :: (.c (.int .i64 0) :: []))))), false⟩
def T154 : TD := ⟨TypeDesc.struct #[{ name := "box", type := 32, offset := 0, embedded := false, tag := "", pkgPath := "loop.example/g01182/impl", byteOffset := 0 }, { name := "backBox", type := 32, offset := 256, embedded := false, tag := "", pkgPath := "loop.example/g01182/impl", byteOffset := 256 }, { name := "mixer", type := 151, offset := 512, embedded := false, tag := "", pkgPath := "loop.example/g01182/impl", byteOffset := 512 }, { name := "backMixer", type := 151, offset := 513, embedded := false, tag := "", pkgPath := "loop.example/g01182/impl", byteOffset := 520 }, { name := "kind", type := 2, offset := 514, embedded := false, tag := "", pkgPath := "loop.example/g01182/impl", byteOffset := 528 }], 515, 536, (List.replicate 256 (.c (.int .u8 0)) ++ (List.replicate 256 (.c (.int .u8 0)) ++ (.c (.pointer none) :: (.c (.pointer none) :: (.c (.int .i64 0) :: []))))), false⟩
def T165 : TD := ⟨TypeDesc.struct #[{ name := "box", type := 32, offset := 0, embedded := false, tag := "", pkgPath := "loop.example/g01182/impl", byteOffset := 0 }, { name := "backBox", type := 32, offset := 256, embedded := false, tag := "", pkgPath := "loop.example/g01182/impl", byteOffset := 256 }, { name := "places", type := 67, offset := 512, embedded := false, tag := "", pkgPath := "loop.example/g01182/impl", byteOffset := 512 }, { name := "backPlaces", type := 67, offset := 528, embedded := false, tag := "", pkgPath := "loop.example/g01182/impl", byteOffset := 528 }, { name := "mixer", type := 151, offset := 544, embedded := false, tag := "", pkgPath := "loop.example/g01182/impl", byteOffset := 544 }, { name := "backMixer", type := 151, offset := 545, embedded := false, tag := "", pkgPath := "loop.example/g01182/impl", byteOffset := 552 }, { name := "rounds", type := 2, offset := 546, embedded := false, tag := "", pkgPath := "loop.example/g01182/impl", byteOffset := 560 }], 547, 568, (List.replicate 256 (.c (.int .u8 0)) ++ (List.replicate 256 (.c (.int .u8 0)) ++ (List.replicate 16 (.c (.int .u8 0)) ++ (List.replicate 16 (.c (.int .u8 0)) ++ (.c (.pointer none) :: (.c (.pointer none) :: (.c (.int .i64 0) :: []))))))), false⟩
def T166 : TD := ⟨TypeDesc.struct #[{ name := "box", type := 32, offset := 0, embedded := false, tag := "", pkgPath := "loop.example/g01182/impl", byteOffset := 0 }, { name := "backBox", type := 32, offset := 256, embedded := false, tag := "", pkgPath := "loop.example/g01182/impl", byteOffset := 256 }, { name := "places", type := 67, offset := 512, embedded := false, tag := "", pkgPath := "loop.example/g01182/impl", byteOffset := 512 }, { name := "backPlaces", type := 67, offset := 528, embedded := false, tag := "", pkgPath := "loop.example/g01182/impl", byteOffset := 528 }, { name := "mixer", type := 151, offset := 544, embedded := false, tag := "", pkgPath := "loop.example/g01182/impl", byteOffset := 544 }, { name := "backMixer", type := 151, offset := 545, embedded := false, tag := "", pkgPath := "loop.example/g01182/impl", byteOffset := 552 }, { name := "rounds", type := 2, offset := 546, embedded := false, tag := "", pkgPath := "loop.example/g01182/impl", byteOffset := 560 }], 547, 568, (List.replicate 256 (.c (.int .u8 0)) ++ (List.replicate 256 (.c (.int .u8 0)) ++ (List.replicate 16 (.c (.int .u8 0)) ++ (List.replicate 16 (.c (.int .u8 0)) ++ (.c (.pointer none) :: (.c (.pointer none) :: (.c (.int .i64 0) :: []))))))), false⟩
def T172 : TD := ⟨TypeDesc.int IntKind.u64, 1, 8, (.c (.int .u64 0) :: []), false⟩
def T178 : TD := ⟨TypeDesc.array 256 4, 256, 256, (List.replicate 256 (.c (.bool false))), false⟩
def T184 : TD := ⟨TypeDesc.slice 4, 1, 24, (.c (.slice none 0 0) :: []), false⟩
def T188 : TD := ⟨TypeDesc.array 4 22, 1024, 1024, (List.replicate 1024 (.c (.int .u8 0))), false⟩
def T189 : TD := ⟨TypeDesc.array 4 188, 4096, 4096, (List.replicate 4096 (.c (.int .u8 0))), false⟩
def T190 : TD := ⟨TypeDesc.array 4 188, 4096, 4096, (List.replicate 4096 (.c (.int .u8 0))), false⟩
def T192 : TD := ⟨TypeDesc.array 16 4, 16, 16, (List.replicate 16 (.c (.bool false))), false⟩
def T203 : TD := ⟨TypeDesc.int IntKind.u64, 1, 8, (.c (.int .u64 0) :: []), false⟩
def T220 : TD := ⟨TypeDesc.int IntKind.u32, 1, 4, (.c (.int .u32 0) :: []), false⟩
def E : Env := fun t => match t with
  | 2 => some T2
  | 3 => some T3
  | 4 => some T4
  | 5 => some T5
  | 9 => some T9
  | 12 => some T12
  | 13 => some T13
  | 21 => some T21
  | 22 => some T22
  | 23 => some T23
  | 24 => some T24
  | 25 => some T25
  | 26 => some T26
  | 27 => some T27
  | 28 => some T28
  | 29 => some T29
  | 32 => some T32
  | 33 => some T33
  | 34 => some T34
  | 35 => some T35
  | 37 => some T37
  | 42 => some T42
  | 45 => some T45
  | 49 => some T49
  | 51 => some T51
  | 54 => some T54
  | 61 => some T61
  | 62 => some T62
  | 63 => some T63
  | 64 => some T64
  | 67 => some T67
  | 68 => some T68
  | 69 => some T69
  | 74 => some T74
  | 88 => some T88
  | 90 => some T90
  | 98 => some T98
  | 107 => some T107
  | 115 => some T115
  | 121 => some T121
  | 148 => some T148
  | 151 => some T151
  | 153 => some T153
  | 154 => some T154
  | 165 => some T165
  | 166 => some T166
  | 172 => some T172
  | 178 => some T178
  | 184 => some T184
  | 188 => some T188
  | 189 => some T189
  | 190 => some T190
  | 192 => some T192
  | 203 => some T203
  | 220 => some T220
  | _ => none
theorem i2 : ∃ i z, Try.prog.info? 2 = some i ∧ i.size = T2.size ∧ i.bytes = T2.bytes ∧ i.zero = some z ∧ z.cells.toList.map V.c = T2.zero ∧ (∀ c ∈ z.cells.toList, c.oneCell' = true) ∧ T2.zero.length = T2.size := ⟨Try.t2, _, by kernel_rfl, by kernel_rfl, by kernel_rfl, rfl, by kernel_rfl, List.all_eq_true.1 (by kernel_rfl), by kernel_rfl⟩
theorem i3 : ∃ i z, Try.prog.info? 3 = some i ∧ i.size = T3.size ∧ i.bytes = T3.bytes ∧ i.zero = some z ∧ z.cells.toList.map V.c = T3.zero ∧ (∀ c ∈ z.cells.toList, c.oneCell' = true) ∧ T3.zero.length = T3.size := ⟨Try.t3, _, by kernel_rfl, by kernel_rfl, by kernel_rfl, rfl, by kernel_rfl, List.all_eq_true.1 (by kernel_rfl), by kernel_rfl⟩
theorem i4 : ∃ i z, Try.prog.info? 4 = some i ∧ i.size = T4.size ∧ i.bytes = T4.bytes ∧ i.zero = some z ∧ z.cells.toList.map V.c = T4.zero ∧ (∀ c ∈ z.cells.toList, c.oneCell' = true) ∧ T4.zero.length = T4.size := ⟨Try.t4, _, by kernel_rfl, by kernel_rfl, by kernel_rfl, rfl, by kernel_rfl, List.all_eq_true.1 (by kernel_rfl), by kernel_rfl⟩
theorem i5 : ∃ i z, Try.prog.info? 5 = some i ∧ i.size = T5.size ∧ i.bytes = T5.bytes ∧ i.zero = some z ∧ z.cells.toList.map V.c = T5.zero ∧ (∀ c ∈ z.cells.toList, c.oneCell' = true) ∧ T5.zero.length = T5.size := ⟨Try.t5, _, by kernel_rfl, by kernel_rfl, by kernel_rfl, rfl, by kernel_rfl, List.all_eq_true.1 (by kernel_rfl), by kernel_rfl⟩
theorem i9 : ∃ i z, Try.prog.info? 9 = some i ∧ i.size = T9.size ∧ i.bytes = T9.bytes ∧ i.zero = some z ∧ z.cells.toList.map V.c = T9.zero ∧ (∀ c ∈ z.cells.toList, c.oneCell' = true) ∧ T9.zero.length = T9.size := ⟨Try.t9, _, by kernel_rfl, by kernel_rfl, by kernel_rfl, rfl, by kernel_rfl, List.all_eq_true.1 (by kernel_rfl), by kernel_rfl⟩
theorem i12 : ∃ i z, Try.prog.info? 12 = some i ∧ i.size = T12.size ∧ i.bytes = T12.bytes ∧ i.zero = some z ∧ z.cells.toList.map V.c = T12.zero ∧ (∀ c ∈ z.cells.toList, c.oneCell' = true) ∧ T12.zero.length = T12.size := ⟨Try.t12, _, by kernel_rfl, by kernel_rfl, by kernel_rfl, rfl, by kernel_rfl, List.all_eq_true.1 (by kernel_rfl), by kernel_rfl⟩
theorem i13 : ∃ i z, Try.prog.info? 13 = some i ∧ i.size = T13.size ∧ i.bytes = T13.bytes ∧ i.zero = some z ∧ z.cells.toList.map V.c = T13.zero ∧ (∀ c ∈ z.cells.toList, c.oneCell' = true) ∧ T13.zero.length = T13.size := ⟨Try.t13, _, by kernel_rfl, by kernel_rfl, by kernel_rfl, rfl, by kernel_rfl, List.all_eq_true.1 (by kernel_rfl), by kernel_rfl⟩
theorem i21 : ∃ i z, Try.prog.info? 21 = some i ∧ i.size = T21.size ∧ i.bytes = T21.bytes ∧ i.zero = some z ∧ z.cells.toList.map V.c = T21.zero ∧ (∀ c ∈ z.cells.toList, c.oneCell' = true) ∧ T21.zero.length = T21.size := ⟨Try.t21, _, by kernel_rfl, by kernel_rfl, by kernel_rfl, rfl, by kernel_rfl, List.all_eq_true.1 (by kernel_rfl), by kernel_rfl⟩
theorem i22 : ∃ i z, Try.prog.info? 22 = some i ∧ i.size = T22.size ∧ i.bytes = T22.bytes ∧ i.zero = some z ∧ z.cells.toList.map V.c = T22.zero ∧ (∀ c ∈ z.cells.toList, c.oneCell' = true) ∧ T22.zero.length = T22.size := ⟨Try.t22, _, by kernel_rfl, by kernel_rfl, by kernel_rfl, rfl, by kernel_rfl, List.all_eq_true.1 (by kernel_rfl), by kernel_rfl⟩
theorem i23 : ∃ i z, Try.prog.info? 23 = some i ∧ i.size = T23.size ∧ i.bytes = T23.bytes ∧ i.zero = some z ∧ z.cells.toList.map V.c = T23.zero ∧ (∀ c ∈ z.cells.toList, c.oneCell' = true) ∧ T23.zero.length = T23.size := ⟨Try.t23, _, by kernel_rfl, by kernel_rfl, by kernel_rfl, rfl, by kernel_rfl, List.all_eq_true.1 (by kernel_rfl), by kernel_rfl⟩
theorem i24 : ∃ i z, Try.prog.info? 24 = some i ∧ i.size = T24.size ∧ i.bytes = T24.bytes ∧ i.zero = some z ∧ z.cells.toList.map V.c = T24.zero ∧ (∀ c ∈ z.cells.toList, c.oneCell' = true) ∧ T24.zero.length = T24.size := ⟨Try.t24, _, by kernel_rfl, by kernel_rfl, by kernel_rfl, rfl, by kernel_rfl, List.all_eq_true.1 (by kernel_rfl), by kernel_rfl⟩
theorem i25 : ∃ i z, Try.prog.info? 25 = some i ∧ i.size = T25.size ∧ i.bytes = T25.bytes ∧ i.zero = some z ∧ z.cells.toList.map V.c = T25.zero ∧ (∀ c ∈ z.cells.toList, c.oneCell' = true) ∧ T25.zero.length = T25.size := ⟨Try.t25, _, by kernel_rfl, by kernel_rfl, by kernel_rfl, rfl, by kernel_rfl, List.all_eq_true.1 (by kernel_rfl), by kernel_rfl⟩
theorem i26 : ∃ i z, Try.prog.info? 26 = some i ∧ i.size = T26.size ∧ i.bytes = T26.bytes ∧ i.zero = some z ∧ z.cells.toList.map V.c = T26.zero ∧ (∀ c ∈ z.cells.toList, c.oneCell' = true) ∧ T26.zero.length = T26.size := ⟨Try.t26, _, by kernel_rfl, by kernel_rfl, by kernel_rfl, rfl, by kernel_rfl, List.all_eq_true.1 (by kernel_rfl), by kernel_rfl⟩
theorem i27 : ∃ i z, Try.prog.info? 27 = some i ∧ i.size = T27.size ∧ i.bytes = T27.bytes ∧ i.zero = some z ∧ z.cells.toList.map V.c = T27.zero ∧ (∀ c ∈ z.cells.toList, c.oneCell' = true) ∧ T27.zero.length = T27.size := ⟨Try.t27, _, by kernel_rfl, by kernel_rfl, by kernel_rfl, rfl, by kernel_rfl, List.all_eq_true.1 (by kernel_rfl), by kernel_rfl⟩
theorem i28 : ∃ i z, Try.prog.info? 28 = some i ∧ i.size = T28.size ∧ i.bytes = T28.bytes ∧ i.zero = some z ∧ z.cells.toList.map V.c = T28.zero ∧ (∀ c ∈ z.cells.toList, c.oneCell' = true) ∧ T28.zero.length = T28.size := ⟨Try.t28, _, by kernel_rfl, by kernel_rfl, by kernel_rfl, rfl, by kernel_rfl, List.all_eq_true.1 (by kernel_rfl), by kernel_rfl⟩
theorem i29 : ∃ i z, Try.prog.info? 29 = some i ∧ i.size = T29.size ∧ i.bytes = T29.bytes ∧ i.zero = some z ∧ z.cells.toList.map V.c = T29.zero ∧ (∀ c ∈ z.cells.toList, c.oneCell' = true) ∧ T29.zero.length = T29.size := ⟨Try.t29, _, by kernel_rfl, by kernel_rfl, by kernel_rfl, rfl, by kernel_rfl, List.all_eq_true.1 (by kernel_rfl), by kernel_rfl⟩
theorem i32 : ∃ i z, Try.prog.info? 32 = some i ∧ i.size = T32.size ∧ i.bytes = T32.bytes ∧ i.zero = some z ∧ z.cells.toList.map V.c = T32.zero ∧ (∀ c ∈ z.cells.toList, c.oneCell' = true) ∧ T32.zero.length = T32.size := ⟨Try.t32, _, by kernel_rfl, by kernel_rfl, by kernel_rfl, rfl, by kernel_rfl, List.all_eq_true.1 (by kernel_rfl), by kernel_rfl⟩
theorem i33 : ∃ i z, Try.prog.info? 33 = some i ∧ i.size = T33.size ∧ i.bytes = T33.bytes ∧ i.zero = some z ∧ z.cells.toList.map V.c = T33.zero ∧ (∀ c ∈ z.cells.toList, c.oneCell' = true) ∧ T33.zero.length = T33.size := ⟨Try.t33, _, by kernel_rfl, by kernel_rfl, by kernel_rfl, rfl, by kernel_rfl, List.all_eq_true.1 (by kernel_rfl), by kernel_rfl⟩
theorem i34 : ∃ i z, Try.prog.info? 34 = some i ∧ i.size = T34.size ∧ i.bytes = T34.bytes ∧ i.zero = some z ∧ z.cells.toList.map V.c = T34.zero ∧ (∀ c ∈ z.cells.toList, c.oneCell' = true) ∧ T34.zero.length = T34.size := ⟨Try.t34, _, by kernel_rfl, by kernel_rfl, by kernel_rfl, rfl, by kernel_rfl, List.all_eq_true.1 (by kernel_rfl), by kernel_rfl⟩
theorem i35 : ∃ i z, Try.prog.info? 35 = some i ∧ i.size = T35.size ∧ i.bytes = T35.bytes ∧ i.zero = some z ∧ z.cells.toList.map V.c = T35.zero ∧ (∀ c ∈ z.cells.toList, c.oneCell' = true) ∧ T35.zero.length = T35.size := ⟨Try.t35, _, by kernel_rfl, by kernel_rfl, by kernel_rfl, rfl, by kernel_rfl, List.all_eq_true.1 (by kernel_rfl), by kernel_rfl⟩
theorem i37 : ∃ i z, Try.prog.info? 37 = some i ∧ i.size = T37.size ∧ i.bytes = T37.bytes ∧ i.zero = some z ∧ z.cells.toList.map V.c = T37.zero ∧ (∀ c ∈ z.cells.toList, c.oneCell' = true) ∧ T37.zero.length = T37.size := ⟨Try.t37, _, by kernel_rfl, by kernel_rfl, by kernel_rfl, rfl, by kernel_rfl, List.all_eq_true.1 (by kernel_rfl), by kernel_rfl⟩
theorem i42 : ∃ i z, Try.prog.info? 42 = some i ∧ i.size = T42.size ∧ i.bytes = T42.bytes ∧ i.zero = some z ∧ z.cells.toList.map V.c = T42.zero ∧ (∀ c ∈ z.cells.toList, c.oneCell' = true) ∧ T42.zero.length = T42.size := ⟨Try.t42, _, by kernel_rfl, by kernel_rfl, by kernel_rfl, rfl, by kernel_rfl, List.all_eq_true.1 (by kernel_rfl), by kernel_rfl⟩
theorem i45 : ∃ i z, Try.prog.info? 45 = some i ∧ i.size = T45.size ∧ i.bytes = T45.bytes ∧ i.zero = some z ∧ z.cells.toList.map V.c = T45.zero ∧ (∀ c ∈ z.cells.toList, c.oneCell' = true) ∧ T45.zero.length = T45.size := ⟨Try.t45, _, by kernel_rfl, by kernel_rfl, by kernel_rfl, rfl, by kernel_rfl, List.all_eq_true.1 (by kernel_rfl), by kernel_rfl⟩
theorem i49 : ∃ i z, Try.prog.info? 49 = some i ∧ i.size = T49.size ∧ i.bytes = T49.bytes ∧ i.zero = some z ∧ z.cells.toList.map V.c = T49.zero ∧ (∀ c ∈ z.cells.toList, c.oneCell' = true) ∧ T49.zero.length = T49.size := ⟨Try.t49, _, by kernel_rfl, by kernel_rfl, by kernel_rfl, rfl, by kernel_rfl, List.all_eq_true.1 (by kernel_rfl), by kernel_rfl⟩
theorem i51 : ∃ i z, Try.prog.info? 51 = some i ∧ i.size = T51.size ∧ i.bytes = T51.bytes ∧ i.zero = some z ∧ z.cells.toList.map V.c = T51.zero ∧ (∀ c ∈ z.cells.toList, c.oneCell' = true) ∧ T51.zero.length = T51.size := ⟨Try.t51, _, by kernel_rfl, by kernel_rfl, by kernel_rfl, rfl, by kernel_rfl, List.all_eq_true.1 (by kernel_rfl), by kernel_rfl⟩
theorem i54 : ∃ i z, Try.prog.info? 54 = some i ∧ i.size = T54.size ∧ i.bytes = T54.bytes ∧ i.zero = some z ∧ z.cells.toList.map V.c = T54.zero ∧ (∀ c ∈ z.cells.toList, c.oneCell' = true) ∧ T54.zero.length = T54.size := ⟨Try.t54, _, by kernel_rfl, by kernel_rfl, by kernel_rfl, rfl, by kernel_rfl, List.all_eq_true.1 (by kernel_rfl), by kernel_rfl⟩
theorem i61 : ∃ i z, Try.prog.info? 61 = some i ∧ i.size = T61.size ∧ i.bytes = T61.bytes ∧ i.zero = some z ∧ z.cells.toList.map V.c = T61.zero ∧ (∀ c ∈ z.cells.toList, c.oneCell' = true) ∧ T61.zero.length = T61.size := ⟨Try.t61, _, by kernel_rfl, by kernel_rfl, by kernel_rfl, rfl, by kernel_rfl, List.all_eq_true.1 (by kernel_rfl), by kernel_rfl⟩
theorem i62 : ∃ i z, Try.prog.info? 62 = some i ∧ i.size = T62.size ∧ i.bytes = T62.bytes ∧ i.zero = some z ∧ z.cells.toList.map V.c = T62.zero ∧ (∀ c ∈ z.cells.toList, c.oneCell' = true) ∧ T62.zero.length = T62.size := ⟨Try.t62, _, by kernel_rfl, by kernel_rfl, by kernel_rfl, rfl, by kernel_rfl, List.all_eq_true.1 (by kernel_rfl), by kernel_rfl⟩
theorem i63 : ∃ i z, Try.prog.info? 63 = some i ∧ i.size = T63.size ∧ i.bytes = T63.bytes ∧ i.zero = some z ∧ z.cells.toList.map V.c = T63.zero ∧ (∀ c ∈ z.cells.toList, c.oneCell' = true) ∧ T63.zero.length = T63.size := ⟨Try.t63, _, by kernel_rfl, by kernel_rfl, by kernel_rfl, rfl, by kernel_rfl, List.all_eq_true.1 (by kernel_rfl), by kernel_rfl⟩
theorem i64 : ∃ i z, Try.prog.info? 64 = some i ∧ i.size = T64.size ∧ i.bytes = T64.bytes ∧ i.zero = some z ∧ z.cells.toList.map V.c = T64.zero ∧ (∀ c ∈ z.cells.toList, c.oneCell' = true) ∧ T64.zero.length = T64.size := ⟨Try.t64, _, by kernel_rfl, by kernel_rfl, by kernel_rfl, rfl, by kernel_rfl, List.all_eq_true.1 (by kernel_rfl), by kernel_rfl⟩
theorem i67 : ∃ i z, Try.prog.info? 67 = some i ∧ i.size = T67.size ∧ i.bytes = T67.bytes ∧ i.zero = some z ∧ z.cells.toList.map V.c = T67.zero ∧ (∀ c ∈ z.cells.toList, c.oneCell' = true) ∧ T67.zero.length = T67.size := ⟨Try.t67, _, by kernel_rfl, by kernel_rfl, by kernel_rfl, rfl, by kernel_rfl, List.all_eq_true.1 (by kernel_rfl), by kernel_rfl⟩
theorem i68 : ∃ i z, Try.prog.info? 68 = some i ∧ i.size = T68.size ∧ i.bytes = T68.bytes ∧ i.zero = some z ∧ z.cells.toList.map V.c = T68.zero ∧ (∀ c ∈ z.cells.toList, c.oneCell' = true) ∧ T68.zero.length = T68.size := ⟨Try.t68, _, by kernel_rfl, by kernel_rfl, by kernel_rfl, rfl, by kernel_rfl, List.all_eq_true.1 (by kernel_rfl), by kernel_rfl⟩
theorem i69 : ∃ i z, Try.prog.info? 69 = some i ∧ i.size = T69.size ∧ i.bytes = T69.bytes ∧ i.zero = some z ∧ z.cells.toList.map V.c = T69.zero ∧ (∀ c ∈ z.cells.toList, c.oneCell' = true) ∧ T69.zero.length = T69.size := ⟨Try.t69, _, by kernel_rfl, by kernel_rfl, by kernel_rfl, rfl, by kernel_rfl, List.all_eq_true.1 (by kernel_rfl), by kernel_rfl⟩
theorem i74 : ∃ i z, Try.prog.info? 74 = some i ∧ i.size = T74.size ∧ i.bytes = T74.bytes ∧ i.zero = some z ∧ z.cells.toList.map V.c = T74.zero ∧ (∀ c ∈ z.cells.toList, c.oneCell' = true) ∧ T74.zero.length = T74.size := ⟨Try.t74, _, by kernel_rfl, by kernel_rfl, by kernel_rfl, rfl, by kernel_rfl, List.all_eq_true.1 (by kernel_rfl), by kernel_rfl⟩
theorem i88 : ∃ i z, Try.prog.info? 88 = some i ∧ i.size = T88.size ∧ i.bytes = T88.bytes ∧ i.zero = some z ∧ z.cells.toList.map V.c = T88.zero ∧ (∀ c ∈ z.cells.toList, c.oneCell' = true) ∧ T88.zero.length = T88.size := ⟨Try.t88, _, by kernel_rfl, by kernel_rfl, by kernel_rfl, rfl, by kernel_rfl, List.all_eq_true.1 (by kernel_rfl), by kernel_rfl⟩
theorem i90 : ∃ i z, Try.prog.info? 90 = some i ∧ i.size = T90.size ∧ i.bytes = T90.bytes ∧ i.zero = some z ∧ z.cells.toList.map V.c = T90.zero ∧ (∀ c ∈ z.cells.toList, c.oneCell' = true) ∧ T90.zero.length = T90.size := ⟨Try.t90, _, by kernel_rfl, by kernel_rfl, by kernel_rfl, rfl, by kernel_rfl, List.all_eq_true.1 (by kernel_rfl), by kernel_rfl⟩
theorem i98 : ∃ i z, Try.prog.info? 98 = some i ∧ i.size = T98.size ∧ i.bytes = T98.bytes ∧ i.zero = some z ∧ z.cells.toList.map V.c = T98.zero ∧ (∀ c ∈ z.cells.toList, c.oneCell' = true) ∧ T98.zero.length = T98.size := ⟨Try.t98, _, by kernel_rfl, by kernel_rfl, by kernel_rfl, rfl, by kernel_rfl, List.all_eq_true.1 (by kernel_rfl), by kernel_rfl⟩
theorem i107 : ∃ i z, Try.prog.info? 107 = some i ∧ i.size = T107.size ∧ i.bytes = T107.bytes ∧ i.zero = some z ∧ z.cells.toList.map V.c = T107.zero ∧ (∀ c ∈ z.cells.toList, c.oneCell' = true) ∧ T107.zero.length = T107.size := ⟨Try.t107, _, by kernel_rfl, by kernel_rfl, by kernel_rfl, rfl, by kernel_rfl, List.all_eq_true.1 (by kernel_rfl), by kernel_rfl⟩
theorem i115 : ∃ i z, Try.prog.info? 115 = some i ∧ i.size = T115.size ∧ i.bytes = T115.bytes ∧ i.zero = some z ∧ z.cells.toList.map V.c = T115.zero ∧ (∀ c ∈ z.cells.toList, c.oneCell' = true) ∧ T115.zero.length = T115.size := ⟨Try.t115, _, by kernel_rfl, by kernel_rfl, by kernel_rfl, rfl, by kernel_rfl, List.all_eq_true.1 (by kernel_rfl), by kernel_rfl⟩
theorem i121 : ∃ i z, Try.prog.info? 121 = some i ∧ i.size = T121.size ∧ i.bytes = T121.bytes ∧ i.zero = some z ∧ z.cells.toList.map V.c = T121.zero ∧ (∀ c ∈ z.cells.toList, c.oneCell' = true) ∧ T121.zero.length = T121.size := ⟨Try.t121, _, by kernel_rfl, by kernel_rfl, by kernel_rfl, rfl, by kernel_rfl, List.all_eq_true.1 (by kernel_rfl), by kernel_rfl⟩
theorem i148 : ∃ i z, Try.prog.info? 148 = some i ∧ i.size = T148.size ∧ i.bytes = T148.bytes ∧ i.zero = some z ∧ z.cells.toList.map V.c = T148.zero ∧ (∀ c ∈ z.cells.toList, c.oneCell' = true) ∧ T148.zero.length = T148.size := ⟨Try.t148, _, by kernel_rfl, by kernel_rfl, by kernel_rfl, rfl, by kernel_rfl, List.all_eq_true.1 (by kernel_rfl), by kernel_rfl⟩
theorem i151 : ∃ i z, Try.prog.info? 151 = some i ∧ i.size = T151.size ∧ i.bytes = T151.bytes ∧ i.zero = some z ∧ z.cells.toList.map V.c = T151.zero ∧ (∀ c ∈ z.cells.toList, c.oneCell' = true) ∧ T151.zero.length = T151.size := ⟨Try.t151, _, by kernel_rfl, by kernel_rfl, by kernel_rfl, rfl, by kernel_rfl, List.all_eq_true.1 (by kernel_rfl), by kernel_rfl⟩
theorem i153 : ∃ i z, Try.prog.info? 153 = some i ∧ i.size = T153.size ∧ i.bytes = T153.bytes ∧ i.zero = some z ∧ z.cells.toList.map V.c = T153.zero ∧ (∀ c ∈ z.cells.toList, c.oneCell' = true) ∧ T153.zero.length = T153.size := ⟨Try.t153, _, by kernel_rfl, by kernel_rfl, by kernel_rfl, rfl, by kernel_rfl, List.all_eq_true.1 (by kernel_rfl), by kernel_rfl⟩
theorem i154 : ∃ i z, Try.prog.info? 154 = some i ∧ i.size = T154.size ∧ i.bytes = T154.bytes ∧ i.zero = some z ∧ z.cells.toList.map V.c = T154.zero ∧ (∀ c ∈ z.cells.toList, c.oneCell' = true) ∧ T154.zero.length = T154.size := ⟨Try.t154, _, by kernel_rfl, by kernel_rfl, by kernel_rfl, rfl, by kernel_rfl, List.all_eq_true.1 (by kernel_rfl), by kernel_rfl⟩
theorem i165 : ∃ i z, Try.prog.info? 165 = some i ∧ i.size = T165.size ∧ i.bytes = T165.bytes ∧ i.zero = some z ∧ z.cells.toList.map V.c = T165.zero ∧ (∀ c ∈ z.cells.toList, c.oneCell' = true) ∧ T165.zero.length = T165.size := ⟨Try.t165, _, by kernel_rfl, by kernel_rfl, by kernel_rfl, rfl, by kernel_rfl, List.all_eq_true.1 (by kernel_rfl), by kernel_rfl⟩
theorem i166 : ∃ i z, Try.prog.info? 166 = some i ∧ i.size = T166.size ∧ i.bytes = T166.bytes ∧ i.zero = some z ∧ z.cells.toList.map V.c = T166.zero ∧ (∀ c ∈ z.cells.toList, c.oneCell' = true) ∧ T166.zero.length = T166.size := ⟨Try.t166, _, by kernel_rfl, by kernel_rfl, by kernel_rfl, rfl, by kernel_rfl, List.all_eq_true.1 (by kernel_rfl), by kernel_rfl⟩
theorem i172 : ∃ i z, Try.prog.info? 172 = some i ∧ i.size = T172.size ∧ i.bytes = T172.bytes ∧ i.zero = some z ∧ z.cells.toList.map V.c = T172.zero ∧ (∀ c ∈ z.cells.toList, c.oneCell' = true) ∧ T172.zero.length = T172.size := ⟨Try.t172, _, by kernel_rfl, by kernel_rfl, by kernel_rfl, rfl, by kernel_rfl, List.all_eq_true.1 (by kernel_rfl), by kernel_rfl⟩
theorem i178 : ∃ i z, Try.prog.info? 178 = some i ∧ i.size = T178.size ∧ i.bytes = T178.bytes ∧ i.zero = some z ∧ z.cells.toList.map V.c = T178.zero ∧ (∀ c ∈ z.cells.toList, c.oneCell' = true) ∧ T178.zero.length = T178.size := ⟨Try.t178, _, by kernel_rfl, by kernel_rfl, by kernel_rfl, rfl, by kernel_rfl, List.all_eq_true.1 (by kernel_rfl), by kernel_rfl⟩
theorem i184 : ∃ i z, Try.prog.info? 184 = some i ∧ i.size = T184.size ∧ i.bytes = T184.bytes ∧ i.zero = some z ∧ z.cells.toList.map V.c = T184.zero ∧ (∀ c ∈ z.cells.toList, c.oneCell' = true) ∧ T184.zero.length = T184.size := ⟨Try.t184, _, by kernel_rfl, by kernel_rfl, by kernel_rfl, rfl, by kernel_rfl, List.all_eq_true.1 (by kernel_rfl), by kernel_rfl⟩
theorem i188 : ∃ i z, Try.prog.info? 188 = some i ∧ i.size = T188.size ∧ i.bytes = T188.bytes ∧ i.zero = some z ∧ z.cells.toList.map V.c = T188.zero ∧ (∀ c ∈ z.cells.toList, c.oneCell' = true) ∧ T188.zero.length = T188.size := ⟨Try.t188, _, by kernel_rfl, by kernel_rfl, by kernel_rfl, rfl, by kernel_rfl, List.all_eq_true.1 (by kernel_rfl), by kernel_rfl⟩
theorem i189 : ∃ i z, Try.prog.info? 189 = some i ∧ i.size = T189.size ∧ i.bytes = T189.bytes ∧ i.zero = some z ∧ z.cells.toList.map V.c = T189.zero ∧ (∀ c ∈ z.cells.toList, c.oneCell' = true) ∧ T189.zero.length = T189.size := ⟨Try.t189, _, by kernel_rfl, by kernel_rfl, by kernel_rfl, rfl, by kernel_rfl, List.all_eq_true.1 (by kernel_rfl), by kernel_rfl⟩
theorem i190 : ∃ i z, Try.prog.info? 190 = some i ∧ i.size = T190.size ∧ i.bytes = T190.bytes ∧ i.zero = some z ∧ z.cells.toList.map V.c = T190.zero ∧ (∀ c ∈ z.cells.toList, c.oneCell' = true) ∧ T190.zero.length = T190.size := ⟨Try.t190, _, by kernel_rfl, by kernel_rfl, by kernel_rfl, rfl, by kernel_rfl, List.all_eq_true.1 (by kernel_rfl), by kernel_rfl⟩
theorem i192 : ∃ i z, Try.prog.info? 192 = some i ∧ i.size = T192.size ∧ i.bytes = T192.bytes ∧ i.zero = some z ∧ z.cells.toList.map V.c = T192.zero ∧ (∀ c ∈ z.cells.toList, c.oneCell' = true) ∧ T192.zero.length = T192.size := ⟨Try.t192, _, by kernel_rfl, by kernel_rfl, by kernel_rfl, rfl, by kernel_rfl, List.all_eq_true.1 (by kernel_rfl), by kernel_rfl⟩
theorem i203 : ∃ i z, Try.prog.info? 203 = some i ∧ i.size = T203.size ∧ i.bytes = T203.bytes ∧ i.zero = some z ∧ z.cells.toList.map V.c = T203.zero ∧ (∀ c ∈ z.cells.toList, c.oneCell' = true) ∧ T203.zero.length = T203.size := ⟨Try.t203, _, by kernel_rfl, by kernel_rfl, by kernel_rfl, rfl, by kernel_rfl, List.all_eq_true.1 (by kernel_rfl), by kernel_rfl⟩
theorem i220 : ∃ i z, Try.prog.info? 220 = some i ∧ i.size = T220.size ∧ i.bytes = T220.bytes ∧ i.zero = some z ∧ z.cells.toList.map V.c = T220.zero ∧ (∀ c ∈ z.cells.toList, c.oneCell' = true) ∧ T220.zero.length = T220.size := ⟨Try.t220, _, by kernel_rfl, by kernel_rfl, by kernel_rfl, rfl, by kernel_rfl, List.all_eq_true.1 (by kernel_rfl), by kernel_rfl⟩
theorem envOK : EnvOK Try.prog E := by
  refine ⟨fun {t d} h => ?_, fun {t d} h => ?_, fun {t d} h => ?_, by kernel_rfl⟩
  · unfold E at h; split at h <;> first | (cases h; kernel_rfl) | cases h
  · unfold E at h; split at h <;> first | cases h | skip
    · exact i2
    · exact i3
    · exact i4
    · exact i5
    · exact i9
    · exact i12
    · exact i13
    · exact i21
    · exact i22
    · exact i23
    · exact i24
    · exact i25
    · exact i26
    · exact i27
    · exact i28
    · exact i29
    · exact i32
    · exact i33
    · exact i34
    · exact i35
    · exact i37
    · exact i42
    · exact i45
    · exact i49
    · exact i51
    · exact i54
    · exact i61
    · exact i62
    · exact i63
    · exact i64
    · exact i67
    · exact i68
    · exact i69
    · exact i74
    · exact i88
    · exact i90
    · exact i98
    · exact i107
    · exact i115
    · exact i121
    · exact i148
    · exact i151
    · exact i153
    · exact i154
    · exact i165
    · exact i166
    · exact i172
    · exact i178
    · exact i184
    · exact i188
    · exact i189
    · exact i190
    · exact i192
    · exact i203
    · exact i220
  · unfold E at h; split at h <;> first | (cases h; kernel_rfl) | cases h
theorem E2 : E 2 = some ⟨TypeDesc.int IntKind.i64, 1, 8, (.c (.int .i64 0) :: []), false⟩ := rfl
theorem E3 : E 3 = some ⟨TypeDesc.int IntKind.i64, 1, 8, (.c (.int .i64 0) :: []), false⟩ := rfl
theorem E4 : E 4 = some ⟨TypeDesc.bool, 1, 1, (.c (.bool false) :: []), false⟩ := rfl
theorem E5 : E 5 = some ⟨TypeDesc.int IntKind.u8, 1, 1, (.c (.int .u8 0) :: []), false⟩ := rfl
theorem E9 : E 9 = some ⟨TypeDesc.string, 1, 16, (.c (.string ⟨#[]⟩) :: []), false⟩ := rfl
theorem E12 : E 12 = some ⟨TypeDesc.int IntKind.u64, 1, 8, (.c (.int .u64 0) :: []), false⟩ := rfl
theorem E13 : E 13 = some ⟨TypeDesc.struct #[{ name := "msg", type := 9, offset := 0, embedded := false, tag := "", pkgPath := "runtime", byteOffset := 0 }, { name := "addr", type := 12, offset := 1, embedded := false, tag := "", pkgPath := "runtime", byteOffset := 16 }], 2, 24, (.c (.string ⟨#[]⟩) :: (.c (.int .u64 0) :: [])), false⟩ := rfl
theorem E21 : E 21 = some ⟨TypeDesc.int IntKind.i32, 1, 4, (.c (.int .i32 0) :: []), false⟩ := rfl
theorem E22 : E 22 = some ⟨TypeDesc.array 256 5, 256, 256, (bs (List.replicate 256 0)), false⟩ := by simp only [← zeros_bs, ← zeros_blv]; rfl
theorem E23 : E 23 = some ⟨TypeDesc.array 4 5, 4, 4, (bs (List.replicate 4 0)), false⟩ := by simp only [← zeros_bs, ← zeros_blv]; rfl
theorem E24 : E 24 = some ⟨TypeDesc.array 4 23, 16, 16, (bs (List.replicate 16 0)), false⟩ := by simp only [← zeros_bs, ← zeros_blv]; rfl
theorem E25 : E 25 = some ⟨TypeDesc.struct #[{ name := "Field", type := 2, offset := 0, embedded := false, tag := "", pkgPath := "", byteOffset := 0 }, { name := "Box", type := 22, offset := 1, embedded := false, tag := "", pkgPath := "", byteOffset := 8 }, { name := "Mix", type := 24, offset := 257, embedded := false, tag := "", pkgPath := "", byteOffset := 264 }, { name := "Kind", type := 2, offset := 273, embedded := false, tag := "", pkgPath := "", byteOffset := 280 }, { name := "Rounds", type := 2, offset := 274, embedded := false, tag := "", pkgPath := "", byteOffset := 288 }], 275, 296, (.c (.int .i64 0) :: (bs (List.replicate 256 0) ++ (bs (List.replicate 16 0) ++ (.c (.int .i64 0) :: (.c (.int .i64 0) :: []))))), false⟩ := by simp only [← zeros_bs, ← zeros_blv]; rfl
theorem E26 : E 26 = some ⟨TypeDesc.struct #[{ name := "Field", type := 2, offset := 0, embedded := false, tag := "", pkgPath := "", byteOffset := 0 }, { name := "Box", type := 22, offset := 1, embedded := false, tag := "", pkgPath := "", byteOffset := 8 }, { name := "Mix", type := 24, offset := 257, embedded := false, tag := "", pkgPath := "", byteOffset := 264 }, { name := "Kind", type := 2, offset := 273, embedded := false, tag := "", pkgPath := "", byteOffset := 280 }, { name := "Rounds", type := 2, offset := 274, embedded := false, tag := "", pkgPath := "", byteOffset := 288 }], 275, 296, (.c (.int .i64 0) :: (bs (List.replicate 256 0) ++ (bs (List.replicate 16 0) ++ (.c (.int .i64 0) :: (.c (.int .i64 0) :: []))))), false⟩ := by simp only [← zeros_bs, ← zeros_blv]; rfl
theorem E27 : E 27 = some ⟨TypeDesc.array 8 5, 8, 8, (bs (List.replicate 8 0)), false⟩ := by simp only [← zeros_bs, ← zeros_blv]; rfl
theorem E28 : E 28 = some ⟨TypeDesc.array 16 5, 16, 16, (bs (List.replicate 16 0)), false⟩ := by simp only [← zeros_bs, ← zeros_blv]; rfl
theorem E29 : E 29 = some ⟨TypeDesc.array 16 5, 16, 16, (bs (List.replicate 16 0)), false⟩ := by simp only [← zeros_bs, ← zeros_blv]; rfl
theorem E32 : E 32 = some ⟨TypeDesc.array 256 5, 256, 256, (bs (List.replicate 256 0)), false⟩ := by simp only [← zeros_bs, ← zeros_blv]; rfl
theorem E33 : E 33 = some ⟨TypeDesc.array 4 23, 16, 16, (bs (List.replicate 16 0)), false⟩ := by simp only [← zeros_bs, ← zeros_blv]; rfl
theorem E34 : E 34 = some ⟨TypeDesc.struct #[{ name := "Field", type := 2, offset := 0, embedded := false, tag := "", pkgPath := "", byteOffset := 0 }, { name := "Box", type := 32, offset := 1, embedded := false, tag := "", pkgPath := "", byteOffset := 8 }, { name := "Mix", type := 33, offset := 257, embedded := false, tag := "", pkgPath := "", byteOffset := 264 }, { name := "Kind", type := 2, offset := 273, embedded := false, tag := "", pkgPath := "", byteOffset := 280 }, { name := "Rounds", type := 2, offset := 274, embedded := false, tag := "", pkgPath := "", byteOffset := 288 }], 275, 296, (.c (.int .i64 0) :: (bs (List.replicate 256 0) ++ (bs (List.replicate 16 0) ++ (.c (.int .i64 0) :: (.c (.int .i64 0) :: []))))), false⟩ := by simp only [← zeros_bs, ← zeros_blv]; rfl
theorem E35 : E 35 = some ⟨TypeDesc.struct #[{ name := "Field", type := 2, offset := 0, embedded := false, tag := "", pkgPath := "", byteOffset := 0 }, { name := "Box", type := 32, offset := 1, embedded := false, tag := "", pkgPath := "", byteOffset := 8 }, { name := "Mix", type := 33, offset := 257, embedded := false, tag := "", pkgPath := "", byteOffset := 264 }, { name := "Kind", type := 2, offset := 273, embedded := false, tag := "", pkgPath := "", byteOffset := 280 }, { name := "Rounds", type := 2, offset := 274, embedded := false, tag := "", pkgPath := "", byteOffset := 288 }], 275, 296, (.c (.int .i64 0) :: (bs (List.replicate 256 0) ++ (bs (List.replicate 16 0) ++ (.c (.int .i64 0) :: (.c (.int .i64 0) :: []))))), false⟩ := by simp only [← zeros_bs, ← zeros_blv]; rfl
theorem E37 : E 37 = some ⟨TypeDesc.array 8 5, 8, 8, (bs (List.replicate 8 0)), false⟩ := by simp only [← zeros_bs, ← zeros_blv]; rfl
theorem E42 : E 42 = some ⟨TypeDesc.slice 27, 1, 24, (.c (.slice none 0 0) :: []), false⟩ := rfl
theorem E45 : E 45 = some ⟨TypeDesc.slice 37, 1, 24, (.c (.slice none 0 0) :: []), false⟩ := rfl
theorem E49 : E 49 = some ⟨TypeDesc.slice 28, 1, 24, (.c (.slice none 0 0) :: []), false⟩ := rfl
theorem E51 : E 51 = some ⟨TypeDesc.slice 115, 1, 24, (.c (.slice none 0 0) :: []), false⟩ := rfl
theorem E54 : E 54 = some ⟨TypeDesc.slice 29, 1, 24, (.c (.slice none 0 0) :: []), false⟩ := rfl
theorem E61 : E 61 = some ⟨TypeDesc.struct #[{ name := "Field", type := 2, offset := 0, embedded := false, tag := "", pkgPath := "", byteOffset := 0 }, { name := "Box", type := 22, offset := 1, embedded := false, tag := "", pkgPath := "", byteOffset := 8 }, { name := "Mix", type := 24, offset := 257, embedded := false, tag := "", pkgPath := "", byteOffset := 264 }, { name := "Places", type := 28, offset := 273, embedded := false, tag := "", pkgPath := "", byteOffset := 280 }, { name := "Rounds", type := 2, offset := 289, embedded := false, tag := "", pkgPath := "", byteOffset := 296 }], 290, 304, (.c (.int .i64 0) :: (bs (List.replicate 256 0) ++ (bs (List.replicate 16 0) ++ (bs (List.replicate 16 0) ++ (.c (.int .i64 0) :: []))))), false⟩ := by simp only [← zeros_bs, ← zeros_blv]; rfl
theorem E62 : E 62 = some ⟨TypeDesc.struct #[{ name := "Field", type := 2, offset := 0, embedded := false, tag := "", pkgPath := "", byteOffset := 0 }, { name := "Box", type := 22, offset := 1, embedded := false, tag := "", pkgPath := "", byteOffset := 8 }, { name := "Mix", type := 24, offset := 257, embedded := false, tag := "", pkgPath := "", byteOffset := 264 }, { name := "Places", type := 28, offset := 273, embedded := false, tag := "", pkgPath := "", byteOffset := 280 }, { name := "Rounds", type := 2, offset := 289, embedded := false, tag := "", pkgPath := "", byteOffset := 296 }], 290, 304, (.c (.int .i64 0) :: (bs (List.replicate 256 0) ++ (bs (List.replicate 16 0) ++ (bs (List.replicate 16 0) ++ (.c (.int .i64 0) :: []))))), false⟩ := by simp only [← zeros_bs, ← zeros_blv]; rfl
theorem E63 : E 63 = some ⟨TypeDesc.array 32 5, 32, 32, (bs (List.replicate 32 0)), false⟩ := by simp only [← zeros_bs, ← zeros_blv]; rfl
theorem E64 : E 64 = some ⟨TypeDesc.array 32 5, 32, 32, (bs (List.replicate 32 0)), false⟩ := by simp only [← zeros_bs, ← zeros_blv]; rfl
theorem E67 : E 67 = some ⟨TypeDesc.array 16 5, 16, 16, (bs (List.replicate 16 0)), false⟩ := by simp only [← zeros_bs, ← zeros_blv]; rfl
theorem E68 : E 68 = some ⟨TypeDesc.struct #[{ name := "Field", type := 2, offset := 0, embedded := false, tag := "", pkgPath := "", byteOffset := 0 }, { name := "Box", type := 32, offset := 1, embedded := false, tag := "", pkgPath := "", byteOffset := 8 }, { name := "Mix", type := 33, offset := 257, embedded := false, tag := "", pkgPath := "", byteOffset := 264 }, { name := "Places", type := 67, offset := 273, embedded := false, tag := "", pkgPath := "", byteOffset := 280 }, { name := "Rounds", type := 2, offset := 289, embedded := false, tag := "", pkgPath := "", byteOffset := 296 }], 290, 304, (.c (.int .i64 0) :: (bs (List.replicate 256 0) ++ (bs (List.replicate 16 0) ++ (bs (List.replicate 16 0) ++ (.c (.int .i64 0) :: []))))), false⟩ := by simp only [← zeros_bs, ← zeros_blv]; rfl
theorem E69 : E 69 = some ⟨TypeDesc.struct #[{ name := "Field", type := 2, offset := 0, embedded := false, tag := "", pkgPath := "", byteOffset := 0 }, { name := "Box", type := 32, offset := 1, embedded := false, tag := "", pkgPath := "", byteOffset := 8 }, { name := "Mix", type := 33, offset := 257, embedded := false, tag := "", pkgPath := "", byteOffset := 264 }, { name := "Places", type := 67, offset := 273, embedded := false, tag := "", pkgPath := "", byteOffset := 280 }, { name := "Rounds", type := 2, offset := 289, embedded := false, tag := "", pkgPath := "", byteOffset := 296 }], 290, 304, (.c (.int .i64 0) :: (bs (List.replicate 256 0) ++ (bs (List.replicate 16 0) ++ (bs (List.replicate 16 0) ++ (.c (.int .i64 0) :: []))))), false⟩ := by simp only [← zeros_bs, ← zeros_blv]; rfl
theorem E74 : E 74 = some ⟨TypeDesc.slice 5, 1, 24, (.c (.slice none 0 0) :: []), false⟩ := rfl
theorem E88 : E 88 = some ⟨TypeDesc.slice 74, 1, 24, (.c (.slice none 0 0) :: []), false⟩ := rfl
theorem E90 : E 90 = some ⟨TypeDesc.slice 64, 1, 24, (.c (.slice none 0 0) :: []), false⟩ := rfl
theorem E98 : E 98 = some ⟨TypeDesc.slice 63, 1, 24, (.c (.slice none 0 0) :: []), false⟩ := rfl
theorem E107 : E 107 = some ⟨TypeDesc.pointer 154, 1, 8, (.c (.pointer none) :: []), false⟩ := rfl
theorem E115 : E 115 = some ⟨TypeDesc.slice 2, 1, 24, (.c (.slice none 0 0) :: []), false⟩ := rfl
theorem E121 : E 121 = some ⟨TypeDesc.pointer 166, 1, 8, (.c (.pointer none) :: []), false⟩ := rfl
theorem E148 : E 148 = some ⟨TypeDesc.int IntKind.i64, 1, 8, (.c (.int .i64 0) :: []), false⟩ := rfl
theorem E151 : E 151 = some ⟨TypeDesc.pointer 190, 1, 8, (.c (.pointer none) :: []), false⟩ := rfl
theorem E153 : E 153 = some ⟨TypeDesc.struct #[{ name := "box", type := 32, offset := 0, embedded := false, tag := "", pkgPath := "loop.example/g01182/impl", byteOffset := 0 }, { name := "backBox", type := 32, offset := 256, embedded := false, tag := "", pkgPath := "loop.example/g01182/impl", byteOffset := 256 }, { name := "mixer", type := 151, offset := 512, embedded := false, tag := "", pkgPath := "loop.example/g01182/impl", byteOffset := 512 }, { name := "backMixer", type := 151, offset := 513, embedded := false, tag := "", pkgPath := "loop.example/g01182/impl", byteOffset := 520 }, { name := "kind", type := 2, offset := 514, embedded := false, tag := "", pkgPath := "loop.example/g01182/impl", byteOffset := 528 }], 515, 536, (bs (List.replicate 256 0) ++ (bs (List.replicate 256 0) ++ (.c (.pointer none) :: (.c (.pointer none) :: (.c (.int .i64 0) :: []))))), false⟩ := by simp only [← zeros_bs, ← zeros_blv]; rfl
theorem E154 : E 154 = some ⟨TypeDesc.struct #[{ name := "box", type := 32, offset := 0, embedded := false, tag := "", pkgPath := "loop.example/g01182/impl", byteOffset := 0 }, { name := "backBox", type := 32, offset := 256, embedded := false, tag := "", pkgPath := "loop.example/g01182/impl", byteOffset := 256 }, { name := "mixer", type := 151, offset := 512, embedded := false, tag := "", pkgPath := "loop.example/g01182/impl", byteOffset := 512 }, { name := "backMixer", type := 151, offset := 513, embedded := false, tag := "", pkgPath := "loop.example/g01182/impl", byteOffset := 520 }, { name := "kind", type := 2, offset := 514, embedded := false, tag := "", pkgPath := "loop.example/g01182/impl", byteOffset := 528 }], 515, 536, (bs (List.replicate 256 0) ++ (bs (List.replicate 256 0) ++ (.c (.pointer none) :: (.c (.pointer none) :: (.c (.int .i64 0) :: []))))), false⟩ := by simp only [← zeros_bs, ← zeros_blv]; rfl
theorem E165 : E 165 = some ⟨TypeDesc.struct #[{ name := "box", type := 32, offset := 0, embedded := false, tag := "", pkgPath := "loop.example/g01182/impl", byteOffset := 0 }, { name := "backBox", type := 32, offset := 256, embedded := false, tag := "", pkgPath := "loop.example/g01182/impl", byteOffset := 256 }, { name := "places", type := 67, offset := 512, embedded := false, tag := "", pkgPath := "loop.example/g01182/impl", byteOffset := 512 }, { name := "backPlaces", type := 67, offset := 528, embedded := false, tag := "", pkgPath := "loop.example/g01182/impl", byteOffset := 528 }, { name := "mixer", type := 151, offset := 544, embedded := false, tag := "", pkgPath := "loop.example/g01182/impl", byteOffset := 544 }, { name := "backMixer", type := 151, offset := 545, embedded := false, tag := "", pkgPath := "loop.example/g01182/impl", byteOffset := 552 }, { name := "rounds", type := 2, offset := 546, embedded := false, tag := "", pkgPath := "loop.example/g01182/impl", byteOffset := 560 }], 547, 568, (bs (List.replicate 256 0) ++ (bs (List.replicate 256 0) ++ (bs (List.replicate 16 0) ++ (bs (List.replicate 16 0) ++ (.c (.pointer none) :: (.c (.pointer none) :: (.c (.int .i64 0) :: []))))))), false⟩ := by simp only [← zeros_bs, ← zeros_blv]; rfl
theorem E166 : E 166 = some ⟨TypeDesc.struct #[{ name := "box", type := 32, offset := 0, embedded := false, tag := "", pkgPath := "loop.example/g01182/impl", byteOffset := 0 }, { name := "backBox", type := 32, offset := 256, embedded := false, tag := "", pkgPath := "loop.example/g01182/impl", byteOffset := 256 }, { name := "places", type := 67, offset := 512, embedded := false, tag := "", pkgPath := "loop.example/g01182/impl", byteOffset := 512 }, { name := "backPlaces", type := 67, offset := 528, embedded := false, tag := "", pkgPath := "loop.example/g01182/impl", byteOffset := 528 }, { name := "mixer", type := 151, offset := 544, embedded := false, tag := "", pkgPath := "loop.example/g01182/impl", byteOffset := 544 }, { name := "backMixer", type := 151, offset := 545, embedded := false, tag := "", pkgPath := "loop.example/g01182/impl", byteOffset := 552 }, { name := "rounds", type := 2, offset := 546, embedded := false, tag := "", pkgPath := "loop.example/g01182/impl", byteOffset := 560 }], 547, 568, (bs (List.replicate 256 0) ++ (bs (List.replicate 256 0) ++ (bs (List.replicate 16 0) ++ (bs (List.replicate 16 0) ++ (.c (.pointer none) :: (.c (.pointer none) :: (.c (.int .i64 0) :: []))))))), false⟩ := by simp only [← zeros_bs, ← zeros_blv]; rfl
theorem E172 : E 172 = some ⟨TypeDesc.int IntKind.u64, 1, 8, (.c (.int .u64 0) :: []), false⟩ := rfl
theorem E178 : E 178 = some ⟨TypeDesc.array 256 4, 256, 256, (blv (List.replicate 256 false)), false⟩ := by simp only [← zeros_bs, ← zeros_blv]; rfl
theorem E184 : E 184 = some ⟨TypeDesc.slice 4, 1, 24, (.c (.slice none 0 0) :: []), false⟩ := rfl
theorem E188 : E 188 = some ⟨TypeDesc.array 4 22, 1024, 1024, (bs (List.replicate 1024 0)), false⟩ := by simp only [← zeros_bs, ← zeros_blv]; rfl
theorem E189 : E 189 = some ⟨TypeDesc.array 4 188, 4096, 4096, (bs (List.replicate 4096 0)), false⟩ := by simp only [← zeros_bs, ← zeros_blv]; rfl
theorem E190 : E 190 = some ⟨TypeDesc.array 4 188, 4096, 4096, (bs (List.replicate 4096 0)), false⟩ := by simp only [← zeros_bs, ← zeros_blv]; rfl
theorem E192 : E 192 = some ⟨TypeDesc.array 16 4, 16, 16, (blv (List.replicate 16 false)), false⟩ := by simp only [← zeros_bs, ← zeros_blv]; rfl
theorem E203 : E 203 = some ⟨TypeDesc.int IntKind.u64, 1, 8, (.c (.int .u64 0) :: []), false⟩ := rfl
theorem E220 : E 220 = some ⟨TypeDesc.int IntKind.u32, 1, 4, (.c (.int .u32 0) :: []), false⟩ := rfl
noncomputable def XX (ord : Nat → Tr) (flt : Nat → Flt) (mu : List FuncId) (m : Nat) : Cx := ⟨E, Try.prog, ord, flt, mu, m⟩
/-- The type facts, bundled. -/
theorem TT : type_of% (
  And.intro E2 <|
  And.intro E3 <|
  And.intro E4 <|
  And.intro E5 <|
  And.intro E9 <|
  And.intro E12 <|
  And.intro E13 <|
  And.intro E21 <|
  And.intro E22 <|
  And.intro E23 <|
  And.intro E24 <|
  And.intro E25 <|
  And.intro E26 <|
  And.intro E27 <|
  And.intro E28 <|
  And.intro E29 <|
  And.intro E32 <|
  And.intro E33 <|
  And.intro E34 <|
  And.intro E35 <|
  And.intro E37 <|
  And.intro E42 <|
  And.intro E45 <|
  And.intro E49 <|
  And.intro E51 <|
  And.intro E54 <|
  And.intro E61 <|
  And.intro E62 <|
  And.intro E63 <|
  And.intro E64 <|
  And.intro E67 <|
  And.intro E68 <|
  And.intro E69 <|
  And.intro E74 <|
  And.intro E88 <|
  And.intro E90 <|
  And.intro E98 <|
  And.intro E107 <|
  And.intro E115 <|
  And.intro E121 <|
  And.intro E148 <|
  And.intro E151 <|
  And.intro E153 <|
  And.intro E154 <|
  And.intro E165 <|
  And.intro E166 <|
  And.intro E172 <|
  And.intro E178 <|
  And.intro E184 <|
  And.intro E188 <|
  And.intro E189 <|
  And.intro E190 <|
  And.intro E192 <|
  And.intro E203 <|
  E220) :=
  And.intro E2 <|
  And.intro E3 <|
  And.intro E4 <|
  And.intro E5 <|
  And.intro E9 <|
  And.intro E12 <|
  And.intro E13 <|
  And.intro E21 <|
  And.intro E22 <|
  And.intro E23 <|
  And.intro E24 <|
  And.intro E25 <|
  And.intro E26 <|
  And.intro E27 <|
  And.intro E28 <|
  And.intro E29 <|
  And.intro E32 <|
  And.intro E33 <|
  And.intro E34 <|
  And.intro E35 <|
  And.intro E37 <|
  And.intro E42 <|
  And.intro E45 <|
  And.intro E49 <|
  And.intro E51 <|
  And.intro E54 <|
  And.intro E61 <|
  And.intro E62 <|
  And.intro E63 <|
  And.intro E64 <|
  And.intro E67 <|
  And.intro E68 <|
  And.intro E69 <|
  And.intro E74 <|
  And.intro E88 <|
  And.intro E90 <|
  And.intro E98 <|
  And.intro E107 <|
  And.intro E115 <|
  And.intro E121 <|
  And.intro E148 <|
  And.intro E151 <|
  And.intro E153 <|
  And.intro E154 <|
  And.intro E165 <|
  And.intro E166 <|
  And.intro E172 <|
  And.intro E178 <|
  And.intro E184 <|
  And.intro E188 <|
  And.intro E189 <|
  And.intro E190 <|
  And.intro E192 <|
  And.intro E203 <|
  E220
end Go.Proofs.Ytbdnomfcgbmncaa

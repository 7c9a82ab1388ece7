import Derived.Test.YtapagcnipdpfiaaVcgQ
import Derived.Test.YtapagcnipdpfiaaChecked
/- The types of this seat as my verification conditions see them: underlying type, size, bytes, zero cells; each checked against the program's own table. -/
set_option linter.unusedSimpArgs false
set_option linter.unusedVariables false
namespace Go.Proofs.Ytapagcnipdpfiaa
open Go Go.Vc
def T2 : TD := ⟨TypeDesc.int IntKind.i64, 1, 8, (.c (.int .i64 0) :: []), false⟩
def T3 : TD := ⟨TypeDesc.int IntKind.i64, 1, 8, (.c (.int .i64 0) :: []), false⟩
def T4 : TD := ⟨TypeDesc.bool, 1, 1, (.c (.bool false) :: []), false⟩
def T5 : TD := ⟨TypeDesc.int IntKind.u8, 1, 1, (.c (.int .u8 0) :: []), false⟩
def T9 : TD := ⟨TypeDesc.string, 1, 16, (.c (.string ⟨#[]⟩) :: []), false⟩
def T12 : TD := ⟨TypeDesc.int IntKind.u64, 1, 8, (.c (.int .u64 0) :: []), false⟩
def T13 : TD := ⟨TypeDesc.struct #[{ name := "msg", type := 9, offset := 0, embedded := false, tag := "", pkgPath := "runtime", byteOffset := 0 }, { name := "addr", type := 12, offset := 1, embedded := false, tag := "", pkgPath := "runtime", byteOffset := 16 }], 2, 24, (.c (.string ⟨#[]⟩) :: (.c (.int .u64 0) :: [])), false⟩
def T21 : TD := ⟨TypeDesc.int IntKind.i32, 1, 4, (.c (.int .i32 0) :: []), false⟩
def T22 : TD := ⟨TypeDesc.array 256 5, 256, 256, (List.replicate 256 (.c (.int .u8 0))), false⟩
def T23 : TD := ⟨TypeDesc.array 4 5, 4, 4, (.c (.int .u8 0) :: .c (.int .u8 0) :: .c (.int .u8 0) :: .c (.int .u8 0) :: []), false⟩
def T24 : TD := ⟨TypeDesc.array 4 23, 16, 16, (List.replicate 16 (.c (.int .u8 0))), false⟩
def T25 : TD := ⟨TypeDesc.struct #[{ name := "Field", type := 2, offset := 0, embedded := false, tag := "", pkgPath := "", byteOffset := 0 }, { name := "Box", type := 22, offset := 1, embedded := false, tag := "", pkgPath := "", byteOffset := 8 }, { name := "Mix", type := 24, offset := 257, embedded := false, tag := "", pkgPath := "", byteOffset := 264 }, { name := "Kind", type := 2, offset := 273, embedded := false, tag := "", pkgPath := "", byteOffset := 280 }, { name := "Rounds", type := 2, offset := 274, embedded := false, tag := "", pkgPath := "", byteOffset := 288 }], 275, 296, (.c (.int .i64 0) :: (List.replicate 256 (.c (.int .u8 0)) ++ (List.replicate 16 (.c (.int .u8 0)) ++ (.c (.int .i64 0) :: (.c (.int .i64 0) :: []))))), false⟩
def T26 : TD := ⟨TypeDesc.struct #[{ name := "Field", type := 2, offset := 0, embedded := false, tag := "", pkgPath := "", byteOffset := 0 }, { name := "Box", type := 22, offset := 1, embedded := false, tag := "", pkgPath := "", byteOffset := 8 }, { name := "Mix", type := 24, offset := 257, embedded := false, tag := "", pkgPath := "", byteOffset := 264 }, { name := "Kind", type := 2, offset := 273, embedded := false, tag := "", pkgPath := "", byteOffset := 280 }, { name := "Rounds", type := 2, offset := 274, embedded := false, tag := "", pkgPath := "", byteOffset := 288 }], 275, 296, (.c (.int .i64 0) :: (List.replicate 256 (.c (.int .u8 0)) ++ (List.replicate 16 (.c (.int .u8 0)) ++ (.c (.int .i64 0) :: (.c (.int .i64 0) :: []))))), false⟩
def T27 : TD := ⟨TypeDesc.slice 86, 1, 24, (.c (.slice none 0 0) :: []), false⟩
def T28 : TD := ⟨TypeDesc.array 16 5, 16, 16, (List.replicate 16 (.c (.int .u8 0))), false⟩
def T30 : TD := ⟨TypeDesc.array 16 5, 16, 16, (List.replicate 16 (.c (.int .u8 0))), false⟩
def T33 : TD := ⟨TypeDesc.array 256 5, 256, 256, (List.replicate 256 (.c (.int .u8 0))), false⟩
def T34 : TD := ⟨TypeDesc.array 4 23, 16, 16, (List.replicate 16 (.c (.int .u8 0))), false⟩
def T35 : TD := ⟨TypeDesc.struct #[{ name := "Field", type := 2, offset := 0, embedded := false, tag := "", pkgPath := "", byteOffset := 0 }, { name := "Box", type := 33, offset := 1, embedded := false, tag := "", pkgPath := "", byteOffset := 8 }, { name := "Mix", type := 34, offset := 257, embedded := false, tag := "", pkgPath := "", byteOffset := 264 }, { name := "Kind", type := 2, offset := 273, embedded := false, tag := "", pkgPath := "", byteOffset := 280 }, { name := "Rounds", type := 2, offset := 274, embedded := false, tag := "", pkgPath := "", byteOffset := 288 }], 275, 296, (.c (.int .i64 0) :: (List.replicate 256 (.c (.int .u8 0)) ++ (List.replicate 16 (.c (.int .u8 0)) ++ (.c (.int .i64 0) :: (.c (.int .i64 0) :: []))))), false⟩
def T36 : TD := ⟨TypeDesc.struct #[{ name := "Field", type := 2, offset := 0, embedded := false, tag := "", pkgPath := "", byteOffset := 0 }, { name := "Box", type := 33, offset := 1, embedded := false, tag := "", pkgPath := "", byteOffset := 8 }, { name := "Mix", type := 34, offset := 257, embedded := false, tag := "", pkgPath := "", byteOffset := 264 }, { name := "Kind", type := 2, offset := 273, embedded := false, tag := "", pkgPath := "", byteOffset := 280 }, { name := "Rounds", type := 2, offset := 274, embedded := false, tag := "", pkgPath := "", byteOffset := 288 }], 275, 296, (.c (.int .i64 0) :: (List.replicate 256 (.c (.int .u8 0)) ++ (List.replicate 16 (.c (.int .u8 0)) ++ (.c (.int .i64 0) :: (.c (.int .i64 0) :: []))))), false⟩
def T38 : TD := ⟨TypeDesc.slice 87, 1, 24, (.c (.slice none 0 0) :: []), false⟩
def T44 : TD := ⟨TypeDesc.slice 5, 1, 24, (.c (.slice none 0 0) :: []), false⟩
def T46 : TD := ⟨TypeDesc.slice 52, 1, 24, (.c (.slice none 0 0) :: []), false⟩
def T51 : TD := ⟨TypeDesc.array 32 5, 32, 32, (List.replicate 32 (.c (.int .u8 0))), false⟩
def T52 : TD := ⟨TypeDesc.array 32 5, 32, 32, (List.replicate 32 (.c (.int .u8 0))), false⟩
def T60 : TD := ⟨TypeDesc.int IntKind.u64, 1, 8, (.c (.int .u64 0) :: []), false⟩
def T62 : TD := ⟨TypeDesc.slice 51, 1, 24, (.c (.slice none 0 0) :: []), false⟩
def T64 : TD := ⟨TypeDesc.slice 46, 1, 24, (.c (.slice none 0 0) :: []), false⟩
def T65 : TD := ⟨TypeDesc.struct #[{ name := "Place", type := 2, offset := 0, embedded := false, tag := "", pkgPath := "", byteOffset := 0 }, { name := "Neighbours", type := 46, offset := 1, embedded := false, tag := "", pkgPath := "", byteOffset := 8 }, { name := "Proofs", type := 64, offset := 2, embedded := false, tag := "", pkgPath := "", byteOffset := 32 }], 3, 56, (.c (.int .i64 0) :: (.c (.slice none 0 0) :: (.c (.slice none 0 0) :: []))), false⟩
def T66 : TD := ⟨TypeDesc.struct #[{ name := "Place", type := 2, offset := 0, embedded := false, tag := "", pkgPath := "", byteOffset := 0 }, { name := "Neighbours", type := 46, offset := 1, embedded := false, tag := "", pkgPath := "", byteOffset := 8 }, { name := "Proofs", type := 64, offset := 2, embedded := false, tag := "", pkgPath := "", byteOffset := 32 }], 3, 56, (.c (.int .i64 0) :: (.c (.slice none 0 0) :: (.c (.slice none 0 0) :: []))), false⟩
def T86 : TD := ⟨TypeDesc.array 8 5, 8, 8, (List.replicate 8 (.c (.int .u8 0))), false⟩
def T87 : TD := ⟨TypeDesc.array 8 5, 8, 8, (List.replicate 8 (.c (.int .u8 0))), false⟩
def T91 : TD := ⟨TypeDesc.pointer 151, 1, 8, (.c (.pointer none) :: []), false⟩
def T104 : TD := ⟨TypeDesc.pointer 189, 1, 8, (.c (.pointer none) :: []), false⟩
def T105 : TD := ⟨TypeDesc.struct #[{ name := "engine", type := 104, offset := 0, embedded := false, tag := "", pkgPath := "loop.example/g01182/impl", byteOffset := 0 }], 1, 8, (.c (.pointer none) :: []), false⟩
def T106 : TD := ⟨TypeDesc.struct #[{ name := "engine", type := 104, offset := 0, embedded := false, tag := "", pkgPath := "loop.example/g01182/impl", byteOffset := 0 }], 1, 8, (.c (.pointer none) :: []), false⟩
def T114 : TD := ⟨TypeDesc.struct #[{ name := "b", type := 44, offset := 0, embedded := false, tag := "", pkgPath := "loop.example/g01182/laws", byteOffset := 0 }, { name := "i", type := 3, offset := 1, embedded := false, tag := "", pkgPath := "loop.example/g01182/laws", byteOffset := 24 }, { name := "h", type := 60, offset := 2, embedded := false, tag := "", pkgPath := "loop.example/g01182/laws", byteOffset := 32 }], 3, 40, (.c (.slice none 0 0) :: (.c (.int .i64 0) :: (.c (.int .u64 0) :: []))), false⟩
def T115 : TD := ⟨TypeDesc.struct #[{ name := "b", type := 44, offset := 0, embedded := false, tag := "", pkgPath := "loop.example/g01182/laws", byteOffset := 0 }, { name := "i", type := 3, offset := 1, embedded := false, tag := "", pkgPath := "loop.example/g01182/laws", byteOffset := 24 }, { name := "h", type := 60, offset := 2, embedded := false, tag := "", pkgPath := "loop.example/g01182/laws", byteOffset := 32 }], 3, 40, (.c (.slice none 0 0) :: (.c (.int .i64 0) :: (.c (.int .u64 0) :: []))), false⟩
def T116 : TD := ⟨TypeDesc.int IntKind.u64, 1, 8, (.c (.int .u64 0) :: []), false⟩
def T124 : TD := ⟨TypeDesc.array 2 3, 2, 16, (.c (.int .i64 0) :: .c (.int .i64 0) :: []), false⟩
def T145 : TD := ⟨TypeDesc.int IntKind.i64, 1, 8, (.c (.int .i64 0) :: []), false⟩
def T148 : TD := ⟨TypeDesc.pointer 184, 1, 8, (.c (.pointer none) :: []), false⟩
def T150 : TD := ⟨TypeDesc.struct #[{ name := "box", type := 33, offset := 0, embedded := false, tag := "", pkgPath := "loop.example/g01182/impl", byteOffset := 0 }, { name := "backBox", type := 33, offset := 256, embedded := false, tag := "", pkgPath := "loop.example/g01182/impl", byteOffset := 256 }, { name := "mixer", type := 148, offset := 512, embedded := false, tag := "", pkgPath := "loop.example/g01182/impl", byteOffset := 512 }, { name := "backMixer", type := 148, offset := 513, embedded := false, tag := "", pkgPath := "loop.example/g01182/impl", byteOffset := 520 }, { name := "kind", type := 2, offset := 514, embedded := false, tag := "", pkgPath := "loop.example/g01182/impl", byteOffset := 528 }], 515, 536, (List.replicate 256 (.c (.int .u8 0)) ++ (List.replicate 256 (.c (.int .u8 0)) ++ (.c (.pointer none) :: (.c (.pointer none) :: (.c (.int .i64 0) :: []))))), false⟩
def T151 : TD := ⟨TypeDesc.struct #[{ name := "box", type := 33, offset := 0, embedded := false, tag := "", pkgPath := "loop.example/g01182/impl", byteOffset := 0 }, { name := "backBox", type := 33, offset := 256, embedded := false, tag := "", pkgPath := "loop.example/g01182/impl", byteOffset := 256 }, { name := "mixer", type := 148, offset := 512, embedded := false, tag := "", pkgPath := "loop.example/g01182/impl", byteOffset := 512 }, { name := "backMixer", type := 148, offset := 513, embedded := false, tag := "", pkgPath := "loop.example/g01182/impl", byteOffset := 520 }, { name := "kind", type := 2, offset := 514, embedded := false, tag := "", pkgPath := "loop.example/g01182/impl", byteOffset := 528 }], 515, 536, (List.replicate 256 (.c (.int .u8 0)) ++ (List.replicate 256 (.c (.int .u8 0)) ++ (.c (.pointer none) :: (.c (.pointer none) :: (.c (.int .i64 0) :: []))))), false⟩
def T153 : TD := ⟨TypeDesc.struct #[{ name := "code", type := 44, offset := 0, embedded := false, tag := "", pkgPath := "loop.example/g01182/spec", byteOffset := 0 }, { name := "at", type := 3, offset := 1, embedded := false, tag := "", pkgPath := "loop.example/g01182/spec", byteOffset := 24 }, { name := "hash", type := 60, offset := 2, embedded := false, tag := "", pkgPath := "loop.example/g01182/spec", byteOffset := 32 }], 3, 40, (.c (.slice none 0 0) :: (.c (.int .i64 0) :: (.c (.int .u64 0) :: []))), false⟩
def T154 : TD := ⟨TypeDesc.struct #[{ name := "code", type := 44, offset := 0, embedded := false, tag := "", pkgPath := "loop.example/g01182/spec", byteOffset := 0 }, { name := "at", type := 3, offset := 1, embedded := false, tag := "", pkgPath := "loop.example/g01182/spec", byteOffset := 24 }, { name := "hash", type := 60, offset := 2, embedded := false, tag := "", pkgPath := "loop.example/g01182/spec", byteOffset := 32 }], 3, 40, (.c (.slice none 0 0) :: (.c (.int .i64 0) :: (.c (.int .u64 0) :: []))), false⟩
def T161 : TD := ⟨TypeDesc.array 16 5, 16, 16, (List.replicate 16 (.c (.int .u8 0))), false⟩
def T162 : TD := ⟨TypeDesc.struct #[{ name := "Field", type := 2, offset := 0, embedded := false, tag := "", pkgPath := "", byteOffset := 0 }, { name := "Box", type := 33, offset := 1, embedded := false, tag := "", pkgPath := "", byteOffset := 8 }, { name := "Mix", type := 34, offset := 257, embedded := false, tag := "", pkgPath := "", byteOffset := 264 }, { name := "Places", type := 161, offset := 273, embedded := false, tag := "", pkgPath := "", byteOffset := 280 }, { name := "Rounds", type := 2, offset := 289, embedded := false, tag := "", pkgPath := "", byteOffset := 296 }], 290, 304, (.c (.int .i64 0) :: (List.replicate 256 (.c (.int .u8 0)) ++ (List.replicate 16 (.c (.int .u8 0)) ++ (List.replicate 16 (.c (.int .u8 0)) ++ (.c (.int .i64 0) :: []))))), false⟩
def T163 : TD := ⟨TypeDesc.struct #[{ name := "Field", type := 2, offset := 0, embedded := false, tag := "", pkgPath := "", byteOffset := 0 }, { name := "Box", type := 33, offset := 1, embedded := false, tag := "", pkgPath := "", byteOffset := 8 }, { name := "Mix", type := 34, offset := 257, embedded := false, tag := "", pkgPath := "", byteOffset := 264 }, { name := "Places", type := 161, offset := 273, embedded := false, tag := "", pkgPath := "", byteOffset := 280 }, { name := "Rounds", type := 2, offset := 289, embedded := false, tag := "", pkgPath := "", byteOffset := 296 }], 290, 304, (.c (.int .i64 0) :: (List.replicate 256 (.c (.int .u8 0)) ++ (List.replicate 16 (.c (.int .u8 0)) ++ (List.replicate 16 (.c (.int .u8 0)) ++ (.c (.int .i64 0) :: []))))), false⟩
def T165 : TD := ⟨TypeDesc.slice 44, 1, 24, (.c (.slice none 0 0) :: []), false⟩
def T167 : TD := ⟨TypeDesc.slice 30, 1, 24, (.c (.slice none 0 0) :: []), false⟩
def T182 : TD := ⟨TypeDesc.array 4 22, 1024, 1024, (List.replicate 1024 (.c (.int .u8 0))), false⟩
def T183 : TD := ⟨TypeDesc.array 4 182, 4096, 4096, (List.replicate 4096 (.c (.int .u8 0))), false⟩
def T184 : TD := ⟨TypeDesc.array 4 182, 4096, 4096, (List.replicate 4096 (.c (.int .u8 0))), false⟩
def T186 : TD := ⟨TypeDesc.slice 2, 1, 24, (.c (.slice none 0 0) :: []), false⟩
def T188 : TD := ⟨TypeDesc.struct #[{ name := "box", type := 33, offset := 0, embedded := false, tag := "", pkgPath := "loop.example/g01182/impl", byteOffset := 0 }, { name := "backBox", type := 33, offset := 256, embedded := false, tag := "", pkgPath := "loop.example/g01182/impl", byteOffset := 256 }, { name := "places", type := 161, offset := 512, embedded := false, tag := "", pkgPath := "loop.example/g01182/impl", byteOffset := 512 }, { name := "backPlaces", type := 161, offset := 528, embedded := false, tag := "", pkgPath := "loop.example/g01182/impl", byteOffset := 528 }, { name := "mixer", type := 148, offset := 544, embedded := false, tag := "", pkgPath := "loop.example/g01182/impl", byteOffset := 544 }, { name := "backMixer", type := 148, offset := 545, embedded := false, tag := "", pkgPath := "loop.example/g01182/impl", byteOffset := 552 }, { name := "rounds", type := 2, offset := 546, embedded := false, tag := "", pkgPath := "loop.example/g01182/impl", byteOffset := 560 }], 547, 568, (List.replicate 256 (.c (.int .u8 0)) ++ (List.replicate 256 (.c (.int .u8 0)) ++ (List.replicate 16 (.c (.int .u8 0)) ++ (List.replicate 16 (.c (.int .u8 0)) ++ (.c (.pointer none) :: (.c (.pointer none) :: (.c (.int .i64 0) :: []))))))), false⟩
def T189 : TD := ⟨TypeDesc.struct #[{ name := "box", type := 33, offset := 0, embedded := false, tag := "", pkgPath := "loop.example/g01182/impl", byteOffset := 0 }, { name := "backBox", type := 33, offset := 256, embedded := false, tag := "", pkgPath := "loop.example/g01182/impl", byteOffset := 256 }, { name := "places", type := 161, offset := 512, embedded := false, tag := "", pkgPath := "loop.example/g01182/impl", byteOffset := 512 }, { name := "backPlaces", type := 161, offset := 528, embedded := false, tag := "", pkgPath := "loop.example/g01182/impl", byteOffset := 528 }, { name := "mixer", type := 148, offset := 544, embedded := false, tag := "", pkgPath := "loop.example/g01182/impl", byteOffset := 544 }, { name := "backMixer", type := 148, offset := 545, embedded := false, tag := "", pkgPath := "loop.example/g01182/impl", byteOffset := 552 }, { name := "rounds", type := 2, offset := 546, embedded := false, tag := "", pkgPath := "loop.example/g01182/impl", byteOffset := 560 }], 547, 568, (List.replicate 256 (.c (.int .u8 0)) ++ (List.replicate 256 (.c (.int .u8 0)) ++ (List.replicate 16 (.c (.int .u8 0)) ++ (List.replicate 16 (.c (.int .u8 0)) ++ (.c (.pointer none) :: (.c (.pointer none) :: (.c (.int .i64 0) :: []))))))), false⟩
def T200 : TD := ⟨TypeDesc.array 256 4, 256, 256, (List.replicate 256 (.c (.bool false))), false⟩
def T205 : TD := ⟨TypeDesc.slice 4, 1, 24, (.c (.slice none 0 0) :: []), false⟩
def T228 : TD := ⟨TypeDesc.int IntKind.u32, 1, 4, (.c (.int .u32 0) :: []), false⟩
def T240 : TD := ⟨TypeDesc.struct #[{ name := "Keys", type := 46, offset := 0, embedded := false, tag := "", pkgPath := "", byteOffset := 0 }, { name := "Data", type := 165, offset := 1, embedded := false, tag := "", pkgPath := "", byteOffset := 24 }, { name := "Counts", type := 186, offset := 2, embedded := false, tag := "", pkgPath := "", byteOffset := 48 }], 3, 72, (.c (.slice none 0 0) :: (.c (.slice none 0 0) :: (.c (.slice none 0 0) :: []))), false⟩
def T241 : TD := ⟨TypeDesc.struct #[{ name := "Keys", type := 46, offset := 0, embedded := false, tag := "", pkgPath := "", byteOffset := 0 }, { name := "Data", type := 165, offset := 1, embedded := false, tag := "", pkgPath := "", byteOffset := 24 }, { name := "Counts", type := 186, offset := 2, embedded := false, tag := "", pkgPath := "", byteOffset := 48 }], 3, 72, (.c (.slice none 0 0) :: (.c (.slice none 0 0) :: (.c (.slice none 0 0) :: []))), false⟩
def E : Env := fun t => match t with
  | 2 => some T2
  | 3 => some T3
  | 4 => some T4
  | 5 => some T5
  | 9 => some T9
  | 12 => some T12
  | 13 => some T13
  | 21 => some T21
  | 22 => some T22
  | 23 => some T23
  | 24 => some T24
  | 25 => some T25
  | 26 => some T26
  | 27 => some T27
  | 28 => some T28
  | 30 => some T30
  | 33 => some T33
  | 34 => some T34
  | 35 => some T35
  | 36 => some T36
  | 38 => some T38
  | 44 => some T44
  | 46 => some T46
  | 51 => some T51
  | 52 => some T52
  | 60 => some T60
  | 62 => some T62
  | 64 => some T64
  | 65 => some T65
  | 66 => some T66
  | 86 => some T86
  | 87 => some T87
  | 91 => some T91
  | 104 => some T104
  | 105 => some T105
  | 106 => some T106
  | 114 => some T114
  | 115 => some T115
  | 116 => some T116
  | 124 => some T124
  | 145 => some T145
  | 148 => some T148
  | 150 => some T150
  | 151 => some T151
  | 153 => some T153
  | 154 => some T154
  | 161 => some T161
  | 162 => some T162
  | 163 => some T163
  | 165 => some T165
  | 167 => some T167
  | 182 => some T182
  | 183 => some T183
  | 184 => some T184
  | 186 => some T186
  | 188 => some T188
  | 189 => some T189
  | 200 => some T200
  | 205 => some T205
  | 228 => some T228
  | 240 => some T240
  | 241 => some T241
  | _ => none
theorem i2 : ∃ i z, Try.prog.info? 2 = some i ∧ i.size = T2.size ∧ i.bytes = T2.bytes ∧ i.zero = some z ∧ z.cells.toList.map V.c = T2.zero ∧ (∀ c ∈ z.cells.toList, c.oneCell' = true) ∧ T2.zero.length = T2.size := ⟨Try.t2, _, by kernel_rfl, by kernel_rfl, by kernel_rfl, rfl, by kernel_rfl, List.all_eq_true.1 (by kernel_rfl), by kernel_rfl⟩
theorem i3 : ∃ i z, Try.prog.info? 3 = some i ∧ i.size = T3.size ∧ i.bytes = T3.bytes ∧ i.zero = some z ∧ z.cells.toList.map V.c = T3.zero ∧ (∀ c ∈ z.cells.toList, c.oneCell' = true) ∧ T3.zero.length = T3.size := ⟨Try.t3, _, by kernel_rfl, by kernel_rfl, by kernel_rfl, rfl, by kernel_rfl, List.all_eq_true.1 (by kernel_rfl), by kernel_rfl⟩
theorem i4 : ∃ i z, Try.prog.info? 4 = some i ∧ i.size = T4.size ∧ i.bytes = T4.bytes ∧ i.zero = some z ∧ z.cells.toList.map V.c = T4.zero ∧ (∀ c ∈ z.cells.toList, c.oneCell' = true) ∧ T4.zero.length = T4.size := ⟨Try.t4, _, by kernel_rfl, by kernel_rfl, by kernel_rfl, rfl, by kernel_rfl, List.all_eq_true.1 (by kernel_rfl), by kernel_rfl⟩
theorem i5 : ∃ i z, Try.prog.info? 5 = some i ∧ i.size = T5.size ∧ i.bytes = T5.bytes ∧ i.zero = some z ∧ z.cells.toList.map V.c = T5.zero ∧ (∀ c ∈ z.cells.toList, c.oneCell' = true) ∧ T5.zero.length = T5.size := ⟨Try.t5, _, by kernel_rfl, by kernel_rfl, by kernel_rfl, rfl, by kernel_rfl, List.all_eq_true.1 (by kernel_rfl), by kernel_rfl⟩
theorem i9 : ∃ i z, Try.prog.info? 9 = some i ∧ i.size = T9.size ∧ i.bytes = T9.bytes ∧ i.zero = some z ∧ z.cells.toList.map V.c = T9.zero ∧ (∀ c ∈ z.cells.toList, c.oneCell' = true) ∧ T9.zero.length = T9.size := ⟨Try.t9, _, by kernel_rfl, by kernel_rfl, by kernel_rfl, rfl, by kernel_rfl, List.all_eq_true.1 (by kernel_rfl), by kernel_rfl⟩
theorem i12 : ∃ i z, Try.prog.info? 12 = some i ∧ i.size = T12.size ∧ i.bytes = T12.bytes ∧ i.zero = some z ∧ z.cells.toList.map V.c = T12.zero ∧ (∀ c ∈ z.cells.toList, c.oneCell' = true) ∧ T12.zero.length = T12.size := ⟨Try.t12, _, by kernel_rfl, by kernel_rfl, by kernel_rfl, rfl, by kernel_rfl, List.all_eq_true.1 (by kernel_rfl), by kernel_rfl⟩
theorem i13 : ∃ i z, Try.prog.info? 13 = some i ∧ i.size = T13.size ∧ i.bytes = T13.bytes ∧ i.zero = some z ∧ z.cells.toList.map V.c = T13.zero ∧ (∀ c ∈ z.cells.toList, c.oneCell' = true) ∧ T13.zero.length = T13.size := ⟨Try.t13, _, by kernel_rfl, by kernel_rfl, by kernel_rfl, rfl, by kernel_rfl, List.all_eq_true.1 (by kernel_rfl), by kernel_rfl⟩
theorem i21 : ∃ i z, Try.prog.info? 21 = some i ∧ i.size = T21.size ∧ i.bytes = T21.bytes ∧ i.zero = some z ∧ z.cells.toList.map V.c = T21.zero ∧ (∀ c ∈ z.cells.toList, c.oneCell' = true) ∧ T21.zero.length = T21.size := ⟨Try.t21, _, by kernel_rfl, by kernel_rfl, by kernel_rfl, rfl, by kernel_rfl, List.all_eq_true.1 (by kernel_rfl), by kernel_rfl⟩
theorem i22 : ∃ i z, Try.prog.info? 22 = some i ∧ i.size = T22.size ∧ i.bytes = T22.bytes ∧ i.zero = some z ∧ z.cells.toList.map V.c = T22.zero ∧ (∀ c ∈ z.cells.toList, c.oneCell' = true) ∧ T22.zero.length = T22.size := ⟨Try.t22, _, by kernel_rfl, by kernel_rfl, by kernel_rfl, rfl, by kernel_rfl, List.all_eq_true.1 (by kernel_rfl), by kernel_rfl⟩
theorem i23 : ∃ i z, Try.prog.info? 23 = some i ∧ i.size = T23.size ∧ i.bytes = T23.bytes ∧ i.zero = some z ∧ z.cells.toList.map V.c = T23.zero ∧ (∀ c ∈ z.cells.toList, c.oneCell' = true) ∧ T23.zero.length = T23.size := ⟨Try.t23, _, by kernel_rfl, by kernel_rfl, by kernel_rfl, rfl, by kernel_rfl, List.all_eq_true.1 (by kernel_rfl), by kernel_rfl⟩
theorem i24 : ∃ i z, Try.prog.info? 24 = some i ∧ i.size = T24.size ∧ i.bytes = T24.bytes ∧ i.zero = some z ∧ z.cells.toList.map V.c = T24.zero ∧ (∀ c ∈ z.cells.toList, c.oneCell' = true) ∧ T24.zero.length = T24.size := ⟨Try.t24, _, by kernel_rfl, by kernel_rfl, by kernel_rfl, rfl, by kernel_rfl, List.all_eq_true.1 (by kernel_rfl), by kernel_rfl⟩
theorem i25 : ∃ i z, Try.prog.info? 25 = some i ∧ i.size = T25.size ∧ i.bytes = T25.bytes ∧ i.zero = some z ∧ z.cells.toList.map V.c = T25.zero ∧ (∀ c ∈ z.cells.toList, c.oneCell' = true) ∧ T25.zero.length = T25.size := ⟨Try.t25, _, by kernel_rfl, by kernel_rfl, by kernel_rfl, rfl, by kernel_rfl, List.all_eq_true.1 (by kernel_rfl), by kernel_rfl⟩
theorem i26 : ∃ i z, Try.prog.info? 26 = some i ∧ i.size = T26.size ∧ i.bytes = T26.bytes ∧ i.zero = some z ∧ z.cells.toList.map V.c = T26.zero ∧ (∀ c ∈ z.cells.toList, c.oneCell' = true) ∧ T26.zero.length = T26.size := ⟨Try.t26, _, by kernel_rfl, by kernel_rfl, by kernel_rfl, rfl, by kernel_rfl, List.all_eq_true.1 (by kernel_rfl), by kernel_rfl⟩
theorem i27 : ∃ i z, Try.prog.info? 27 = some i ∧ i.size = T27.size ∧ i.bytes = T27.bytes ∧ i.zero = some z ∧ z.cells.toList.map V.c = T27.zero ∧ (∀ c ∈ z.cells.toList, c.oneCell' = true) ∧ T27.zero.length = T27.size := ⟨Try.t27, _, by kernel_rfl, by kernel_rfl, by kernel_rfl, rfl, by kernel_rfl, List.all_eq_true.1 (by kernel_rfl), by kernel_rfl⟩
theorem i28 : ∃ i z, Try.prog.info? 28 = some i ∧ i.size = T28.size ∧ i.bytes = T28.bytes ∧ i.zero = some z ∧ z.cells.toList.map V.c = T28.zero ∧ (∀ c ∈ z.cells.toList, c.oneCell' = true) ∧ T28.zero.length = T28.size := ⟨Try.t28, _, by kernel_rfl, by kernel_rfl, by kernel_rfl, rfl, by kernel_rfl, List.all_eq_true.1 (by kernel_rfl), by kernel_rfl⟩
theorem i30 : ∃ i z, Try.prog.info? 30 = some i ∧ i.size = T30.size ∧ i.bytes = T30.bytes ∧ i.zero = some z ∧ z.cells.toList.map V.c = T30.zero ∧ (∀ c ∈ z.cells.toList, c.oneCell' = true) ∧ T30.zero.length = T30.size := ⟨Try.t30, _, by kernel_rfl, by kernel_rfl, by kernel_rfl, rfl, by kernel_rfl, List.all_eq_true.1 (by kernel_rfl), by kernel_rfl⟩
theorem i33 : ∃ i z, Try.prog.info? 33 = some i ∧ i.size = T33.size ∧ i.bytes = T33.bytes ∧ i.zero = some z ∧ z.cells.toList.map V.c = T33.zero ∧ (∀ c ∈ z.cells.toList, c.oneCell' = true) ∧ T33.zero.length = T33.size := ⟨Try.t33, _, by kernel_rfl, by kernel_rfl, by kernel_rfl, rfl, by kernel_rfl, List.all_eq_true.1 (by kernel_rfl), by kernel_rfl⟩
theorem i34 : ∃ i z, Try.prog.info? 34 = some i ∧ i.size = T34.size ∧ i.bytes = T34.bytes ∧ i.zero = some z ∧ z.cells.toList.map V.c = T34.zero ∧ (∀ c ∈ z.cells.toList, c.oneCell' = true) ∧ T34.zero.length = T34.size := ⟨Try.t34, _, by kernel_rfl, by kernel_rfl, by kernel_rfl, rfl, by kernel_rfl, List.all_eq_true.1 (by kernel_rfl), by kernel_rfl⟩
theorem i35 : ∃ i z, Try.prog.info? 35 = some i ∧ i.size = T35.size ∧ i.bytes = T35.bytes ∧ i.zero = some z ∧ z.cells.toList.map V.c = T35.zero ∧ (∀ c ∈ z.cells.toList, c.oneCell' = true) ∧ T35.zero.length = T35.size := ⟨Try.t35, _, by kernel_rfl, by kernel_rfl, by kernel_rfl, rfl, by kernel_rfl, List.all_eq_true.1 (by kernel_rfl), by kernel_rfl⟩
theorem i36 : ∃ i z, Try.prog.info? 36 = some i ∧ i.size = T36.size ∧ i.bytes = T36.bytes ∧ i.zero = some z ∧ z.cells.toList.map V.c = T36.zero ∧ (∀ c ∈ z.cells.toList, c.oneCell' = true) ∧ T36.zero.length = T36.size := ⟨Try.t36, _, by kernel_rfl, by kernel_rfl, by kernel_rfl, rfl, by kernel_rfl, List.all_eq_true.1 (by kernel_rfl), by kernel_rfl⟩
theorem i38 : ∃ i z, Try.prog.info? 38 = some i ∧ i.size = T38.size ∧ i.bytes = T38.bytes ∧ i.zero = some z ∧ z.cells.toList.map V.c = T38.zero ∧ (∀ c ∈ z.cells.toList, c.oneCell' = true) ∧ T38.zero.length = T38.size := ⟨Try.t38, _, by kernel_rfl, by kernel_rfl, by kernel_rfl, rfl, by kernel_rfl, List.all_eq_true.1 (by kernel_rfl), by kernel_rfl⟩
theorem i44 : ∃ i z, Try.prog.info? 44 = some i ∧ i.size = T44.size ∧ i.bytes = T44.bytes ∧ i.zero = some z ∧ z.cells.toList.map V.c = T44.zero ∧ (∀ c ∈ z.cells.toList, c.oneCell' = true) ∧ T44.zero.length = T44.size := ⟨Try.t44, _, by kernel_rfl, by kernel_rfl, by kernel_rfl, rfl, by kernel_rfl, List.all_eq_true.1 (by kernel_rfl), by kernel_rfl⟩
theorem i46 : ∃ i z, Try.prog.info? 46 = some i ∧ i.size = T46.size ∧ i.bytes = T46.bytes ∧ i.zero = some z ∧ z.cells.toList.map V.c = T46.zero ∧ (∀ c ∈ z.cells.toList, c.oneCell' = true) ∧ T46.zero.length = T46.size := ⟨Try.t46, _, by kernel_rfl, by kernel_rfl, by kernel_rfl, rfl, by kernel_rfl, List.all_eq_true.1 (by kernel_rfl), by kernel_rfl⟩
theorem i51 : ∃ i z, Try.prog.info? 51 = some i ∧ i.size = T51.size ∧ i.bytes = T51.bytes ∧ i.zero = some z ∧ z.cells.toList.map V.c = T51.zero ∧ (∀ c ∈ z.cells.toList, c.oneCell' = true) ∧ T51.zero.length = T51.size := ⟨Try.t51, _, by kernel_rfl, by kernel_rfl, by kernel_rfl, rfl, by kernel_rfl, List.all_eq_true.1 (by kernel_rfl), by kernel_rfl⟩
theorem i52 : ∃ i z, Try.prog.info? 52 = some i ∧ i.size = T52.size ∧ i.bytes = T52.bytes ∧ i.zero = some z ∧ z.cells.toList.map V.c = T52.zero ∧ (∀ c ∈ z.cells.toList, c.oneCell' = true) ∧ T52.zero.length = T52.size := ⟨Try.t52, _, by kernel_rfl, by kernel_rfl, by kernel_rfl, rfl, by kernel_rfl, List.all_eq_true.1 (by kernel_rfl), by kernel_rfl⟩
theorem i60 : ∃ i z, Try.prog.info? 60 = some i ∧ i.size = T60.size ∧ i.bytes = T60.bytes ∧ i.zero = some z ∧ z.cells.toList.map V.c = T60.zero ∧ (∀ c ∈ z.cells.toList, c.oneCell' = true) ∧ T60.zero.length = T60.size := ⟨Try.t60, _, by kernel_rfl, by kernel_rfl, by kernel_rfl, rfl, by kernel_rfl, List.all_eq_true.1 (by kernel_rfl), by kernel_rfl⟩
theorem i62 : ∃ i z, Try.prog.info? 62 = some i ∧ i.size = T62.size ∧ i.bytes = T62.bytes ∧ i.zero = some z ∧ z.cells.toList.map V.c = T62.zero ∧ (∀ c ∈ z.cells.toList, c.oneCell' = true) ∧ T62.zero.length = T62.size := ⟨Try.t62, _, by kernel_rfl, by kernel_rfl, by kernel_rfl, rfl, by kernel_rfl, List.all_eq_true.1 (by kernel_rfl), by kernel_rfl⟩
theorem i64 : ∃ i z, Try.prog.info? 64 = some i ∧ i.size = T64.size ∧ i.bytes = T64.bytes ∧ i.zero = some z ∧ z.cells.toList.map V.c = T64.zero ∧ (∀ c ∈ z.cells.toList, c.oneCell' = true) ∧ T64.zero.length = T64.size := ⟨Try.t64, _, by kernel_rfl, by kernel_rfl, by kernel_rfl, rfl, by kernel_rfl, List.all_eq_true.1 (by kernel_rfl), by kernel_rfl⟩
theorem i65 : ∃ i z, Try.prog.info? 65 = some i ∧ i.size = T65.size ∧ i.bytes = T65.bytes ∧ i.zero = some z ∧ z.cells.toList.map V.c = T65.zero ∧ (∀ c ∈ z.cells.toList, c.oneCell' = true) ∧ T65.zero.length = T65.size := ⟨Try.t65, _, by kernel_rfl, by kernel_rfl, by kernel_rfl, rfl, by kernel_rfl, List.all_eq_true.1 (by kernel_rfl), by kernel_rfl⟩
theorem i66 : ∃ i z, Try.prog.info? 66 = some i ∧ i.size = T66.size ∧ i.bytes = T66.bytes ∧ i.zero = some z ∧ z.cells.toList.map V.c = T66.zero ∧ (∀ c ∈ z.cells.toList, c.oneCell' = true) ∧ T66.zero.length = T66.size := ⟨Try.t66, _, by kernel_rfl, by kernel_rfl, by kernel_rfl, rfl, by kernel_rfl, List.all_eq_true.1 (by kernel_rfl), by kernel_rfl⟩
theorem i86 : ∃ i z, Try.prog.info? 86 = some i ∧ i.size = T86.size ∧ i.bytes = T86.bytes ∧ i.zero = some z ∧ z.cells.toList.map V.c = T86.zero ∧ (∀ c ∈ z.cells.toList, c.oneCell' = true) ∧ T86.zero.length = T86.size := ⟨Try.t86, _, by kernel_rfl, by kernel_rfl, by kernel_rfl, rfl, by kernel_rfl, List.all_eq_true.1 (by kernel_rfl), by kernel_rfl⟩
theorem i87 : ∃ i z, Try.prog.info? 87 = some i ∧ i.size = T87.size ∧ i.bytes = T87.bytes ∧ i.zero = some z ∧ z.cells.toList.map V.c = T87.zero ∧ (∀ c ∈ z.cells.toList, c.oneCell' = true) ∧ T87.zero.length = T87.size := ⟨Try.t87, _, by kernel_rfl, by kernel_rfl, by kernel_rfl, rfl, by kernel_rfl, List.all_eq_true.1 (by kernel_rfl), by kernel_rfl⟩
theorem i91 : ∃ i z, Try.prog.info? 91 = some i ∧ i.size = T91.size ∧ i.bytes = T91.bytes ∧ i.zero = some z ∧ z.cells.toList.map V.c = T91.zero ∧ (∀ c ∈ z.cells.toList, c.oneCell' = true) ∧ T91.zero.length = T91.size := ⟨Try.t91, _, by kernel_rfl, by kernel_rfl, by kernel_rfl, rfl, by kernel_rfl, List.all_eq_true.1 (by kernel_rfl), by kernel_rfl⟩
theorem i104 : ∃ i z, Try.prog.info? 104 = some i ∧ i.size = T104.size ∧ i.bytes = T104.bytes ∧ i.zero = some z ∧ z.cells.toList.map V.c = T104.zero ∧ (∀ c ∈ z.cells.toList, c.oneCell' = true) ∧ T104.zero.length = T104.size := ⟨Try.t104, _, by kernel_rfl, by kernel_rfl, by kernel_rfl, rfl, by kernel_rfl, List.all_eq_true.1 (by kernel_rfl), by kernel_rfl⟩
theorem i105 : ∃ i z, Try.prog.info? 105 = some i ∧ i.size = T105.size ∧ i.bytes = T105.bytes ∧ i.zero = some z ∧ z.cells.toList.map V.c = T105.zero ∧ (∀ c ∈ z.cells.toList, c.oneCell' = true) ∧ T105.zero.length = T105.size := ⟨Try.t105, _, by kernel_rfl, by kernel_rfl, by kernel_rfl, rfl, by kernel_rfl, List.all_eq_true.1 (by kernel_rfl), by kernel_rfl⟩
theorem i106 : ∃ i z, Try.prog.info? 106 = some i ∧ i.size = T106.size ∧ i.bytes = T106.bytes ∧ i.zero = some z ∧ z.cells.toList.map V.c = T106.zero ∧ (∀ c ∈ z.cells.toList, c.oneCell' = true) ∧ T106.zero.length = T106.size := ⟨Try.t106, _, by kernel_rfl, by kernel_rfl, by kernel_rfl, rfl, by kernel_rfl, List.all_eq_true.1 (by kernel_rfl), by kernel_rfl⟩
theorem i114 : ∃ i z, Try.prog.info? 114 = some i ∧ i.size = T114.size ∧ i.bytes = T114.bytes ∧ i.zero = some z ∧ z.cells.toList.map V.c = T114.zero ∧ (∀ c ∈ z.cells.toList, c.oneCell' = true) ∧ T114.zero.length = T114.size := ⟨Try.t114, _, by kernel_rfl, by kernel_rfl, by kernel_rfl, rfl, by kernel_rfl, List.all_eq_true.1 (by kernel_rfl), by kernel_rfl⟩
theorem i115 : ∃ i z, Try.prog.info? 115 = some i ∧ i.size = T115.size ∧ i.bytes = T115.bytes ∧ i.zero = some z ∧ z.cells.toList.map V.c = T115.zero ∧ (∀ c ∈ z.cells.toList, c.oneCell' = true) ∧ T115.zero.length = T115.size := ⟨Try.t115, _, by kernel_rfl, by kernel_rfl, by kernel_rfl, rfl, by kernel_rfl, List.all_eq_true.1 (by kernel_rfl), by kernel_rfl⟩
theorem i116 : ∃ i z, Try.prog.info? 116 = some i ∧ i.size = T116.size ∧ i.bytes = T116.bytes ∧ i.zero = some z ∧ z.cells.toList.map V.c = T116.zero ∧ (∀ c ∈ z.cells.toList, c.oneCell' = true) ∧ T116.zero.length = T116.size := ⟨Try.t116, _, by kernel_rfl, by kernel_rfl, by kernel_rfl, rfl, by kernel_rfl, List.all_eq_true.1 (by kernel_rfl), by kernel_rfl⟩
theorem i124 : ∃ i z, Try.prog.info? 124 = some i ∧ i.size = T124.size ∧ i.bytes = T124.bytes ∧ i.zero = some z ∧ z.cells.toList.map V.c = T124.zero ∧ (∀ c ∈ z.cells.toList, c.oneCell' = true) ∧ T124.zero.length = T124.size := ⟨Try.t124, _, by kernel_rfl, by kernel_rfl, by kernel_rfl, rfl, by kernel_rfl, List.all_eq_true.1 (by kernel_rfl), by kernel_rfl⟩
theorem i145 : ∃ i z, Try.prog.info? 145 = some i ∧ i.size = T145.size ∧ i.bytes = T145.bytes ∧ i.zero = some z ∧ z.cells.toList.map V.c = T145.zero ∧ (∀ c ∈ z.cells.toList, c.oneCell' = true) ∧ T145.zero.length = T145.size := ⟨Try.t145, _, by kernel_rfl, by kernel_rfl, by kernel_rfl, rfl, by kernel_rfl, List.all_eq_true.1 (by kernel_rfl), by kernel_rfl⟩
theorem i148 : ∃ i z, Try.prog.info? 148 = some i ∧ i.size = T148.size ∧ i.bytes = T148.bytes ∧ i.zero = some z ∧ z.cells.toList.map V.c = T148.zero ∧ (∀ c ∈ z.cells.toList, c.oneCell' = true) ∧ T148.zero.length = T148.size := ⟨Try.t148, _, by kernel_rfl, by kernel_rfl, by kernel_rfl, rfl, by kernel_rfl, List.all_eq_true.1 (by kernel_rfl), by kernel_rfl⟩
theorem i150 : ∃ i z, Try.prog.info? 150 = some i ∧ i.size = T150.size ∧ i.bytes = T150.bytes ∧ i.zero = some z ∧ z.cells.toList.map V.c = T150.zero ∧ (∀ c ∈ z.cells.toList, c.oneCell' = true) ∧ T150.zero.length = T150.size := ⟨Try.t150, _, by kernel_rfl, by kernel_rfl, by kernel_rfl, rfl, by kernel_rfl, List.all_eq_true.1 (by kernel_rfl), by kernel_rfl⟩
theorem i151 : ∃ i z, Try.prog.info? 151 = some i ∧ i.size = T151.size ∧ i.bytes = T151.bytes ∧ i.zero = some z ∧ z.cells.toList.map V.c = T151.zero ∧ (∀ c ∈ z.cells.toList, c.oneCell' = true) ∧ T151.zero.length = T151.size := ⟨Try.t151, _, by kernel_rfl, by kernel_rfl, by kernel_rfl, rfl, by kernel_rfl, List.all_eq_true.1 (by kernel_rfl), by kernel_rfl⟩
theorem i153 : ∃ i z, Try.prog.info? 153 = some i ∧ i.size = T153.size ∧ i.bytes = T153.bytes ∧ i.zero = some z ∧ z.cells.toList.map V.c = T153.zero ∧ (∀ c ∈ z.cells.toList, c.oneCell' = true) ∧ T153.zero.length = T153.size := ⟨Try.t153, _, by kernel_rfl, by kernel_rfl, by kernel_rfl, rfl, by kernel_rfl, List.all_eq_true.1 (by kernel_rfl), by kernel_rfl⟩
theorem i154 : ∃ i z, Try.prog.info? 154 = some i ∧ i.size = T154.size ∧ i.bytes = T154.bytes ∧ i.zero = some z ∧ z.cells.toList.map V.c = T154.zero ∧ (∀ c ∈ z.cells.toList, c.oneCell' = true) ∧ T154.zero.length = T154.size := ⟨Try.t154, _, by kernel_rfl, by kernel_rfl, by kernel_rfl, rfl, by kernel_rfl, List.all_eq_true.1 (by kernel_rfl), by kernel_rfl⟩
theorem i161 : ∃ i z, Try.prog.info? 161 = some i ∧ i.size = T161.size ∧ i.bytes = T161.bytes ∧ i.zero = some z ∧ z.cells.toList.map V.c = T161.zero ∧ (∀ c ∈ z.cells.toList, c.oneCell' = true) ∧ T161.zero.length = T161.size := ⟨Try.t161, _, by kernel_rfl, by kernel_rfl, by kernel_rfl, rfl, by kernel_rfl, List.all_eq_true.1 (by kernel_rfl), by kernel_rfl⟩
theorem i162 : ∃ i z, Try.prog.info? 162 = some i ∧ i.size = T162.size ∧ i.bytes = T162.bytes ∧ i.zero = some z ∧ z.cells.toList.map V.c = T162.zero ∧ (∀ c ∈ z.cells.toList, c.oneCell' = true) ∧ T162.zero.length = T162.size := ⟨Try.t162, _, by kernel_rfl, by kernel_rfl, by kernel_rfl, rfl, by kernel_rfl, List.all_eq_true.1 (by kernel_rfl), by kernel_rfl⟩
theorem i163 : ∃ i z, Try.prog.info? 163 = some i ∧ i.size = T163.size ∧ i.bytes = T163.bytes ∧ i.zero = some z ∧ z.cells.toList.map V.c = T163.zero ∧ (∀ c ∈ z.cells.toList, c.oneCell' = true) ∧ T163.zero.length = T163.size := ⟨Try.t163, _, by kernel_rfl, by kernel_rfl, by kernel_rfl, rfl, by kernel_rfl, List.all_eq_true.1 (by kernel_rfl), by kernel_rfl⟩
theorem i165 : ∃ i z, Try.prog.info? 165 = some i ∧ i.size = T165.size ∧ i.bytes = T165.bytes ∧ i.zero = some z ∧ z.cells.toList.map V.c = T165.zero ∧ (∀ c ∈ z.cells.toList, c.oneCell' = true) ∧ T165.zero.length = T165.size := ⟨Try.t165, _, by kernel_rfl, by kernel_rfl, by kernel_rfl, rfl, by kernel_rfl, List.all_eq_true.1 (by kernel_rfl), by kernel_rfl⟩
theorem i167 : ∃ i z, Try.prog.info? 167 = some i ∧ i.size = T167.size ∧ i.bytes = T167.bytes ∧ i.zero = some z ∧ z.cells.toList.map V.c = T167.zero ∧ (∀ c ∈ z.cells.toList, c.oneCell' = true) ∧ T167.zero.length = T167.size := ⟨Try.t167, _, by kernel_rfl, by kernel_rfl, by kernel_rfl, rfl, by kernel_rfl, List.all_eq_true.1 (by kernel_rfl), by kernel_rfl⟩
theorem i182 : ∃ i z, Try.prog.info? 182 = some i ∧ i.size = T182.size ∧ i.bytes = T182.bytes ∧ i.zero = some z ∧ z.cells.toList.map V.c = T182.zero ∧ (∀ c ∈ z.cells.toList, c.oneCell' = true) ∧ T182.zero.length = T182.size := ⟨Try.t182, _, by kernel_rfl, by kernel_rfl, by kernel_rfl, rfl, by kernel_rfl, List.all_eq_true.1 (by kernel_rfl), by kernel_rfl⟩
theorem i183 : ∃ i z, Try.prog.info? 183 = some i ∧ i.size = T183.size ∧ i.bytes = T183.bytes ∧ i.zero = some z ∧ z.cells.toList.map V.c = T183.zero ∧ (∀ c ∈ z.cells.toList, c.oneCell' = true) ∧ T183.zero.length = T183.size := ⟨Try.t183, _, by kernel_rfl, by kernel_rfl, by kernel_rfl, rfl, by kernel_rfl, List.all_eq_true.1 (by kernel_rfl), by kernel_rfl⟩
theorem i184 : ∃ i z, Try.prog.info? 184 = some i ∧ i.size = T184.size ∧ i.bytes = T184.bytes ∧ i.zero = some z ∧ z.cells.toList.map V.c = T184.zero ∧ (∀ c ∈ z.cells.toList, c.oneCell' = true) ∧ T184.zero.length = T184.size := ⟨Try.t184, _, by kernel_rfl, by kernel_rfl, by kernel_rfl, rfl, by kernel_rfl, List.all_eq_true.1 (by kernel_rfl), by kernel_rfl⟩
theorem i186 : ∃ i z, Try.prog.info? 186 = some i ∧ i.size = T186.size ∧ i.bytes = T186.bytes ∧ i.zero = some z ∧ z.cells.toList.map V.c = T186.zero ∧ (∀ c ∈ z.cells.toList, c.oneCell' = true) ∧ T186.zero.length = T186.size := ⟨Try.t186, _, by kernel_rfl, by kernel_rfl, by kernel_rfl, rfl, by kernel_rfl, List.all_eq_true.1 (by kernel_rfl), by kernel_rfl⟩
theorem i188 : ∃ i z, Try.prog.info? 188 = some i ∧ i.size = T188.size ∧ i.bytes = T188.bytes ∧ i.zero = some z ∧ z.cells.toList.map V.c = T188.zero ∧ (∀ c ∈ z.cells.toList, c.oneCell' = true) ∧ T188.zero.length = T188.size := ⟨Try.t188, _, by kernel_rfl, by kernel_rfl, by kernel_rfl, rfl, by kernel_rfl, List.all_eq_true.1 (by kernel_rfl), by kernel_rfl⟩
theorem i189 : ∃ i z, Try.prog.info? 189 = some i ∧ i.size = T189.size ∧ i.bytes = T189.bytes ∧ i.zero = some z ∧ z.cells.toList.map V.c = T189.zero ∧ (∀ c ∈ z.cells.toList, c.oneCell' = true) ∧ T189.zero.length = T189.size := ⟨Try.t189, _, by kernel_rfl, by kernel_rfl, by kernel_rfl, rfl, by kernel_rfl, List.all_eq_true.1 (by kernel_rfl), by kernel_rfl⟩
theorem i200 : ∃ i z, Try.prog.info? 200 = some i ∧ i.size = T200.size ∧ i.bytes = T200.bytes ∧ i.zero = some z ∧ z.cells.toList.map V.c = T200.zero ∧ (∀ c ∈ z.cells.toList, c.oneCell' = true) ∧ T200.zero.length = T200.size := ⟨Try.t200, _, by kernel_rfl, by kernel_rfl, by kernel_rfl, rfl, by kernel_rfl, List.all_eq_true.1 (by kernel_rfl), by kernel_rfl⟩
theorem i205 : ∃ i z, Try.prog.info? 205 = some i ∧ i.size = T205.size ∧ i.bytes = T205.bytes ∧ i.zero = some z ∧ z.cells.toList.map V.c = T205.zero ∧ (∀ c ∈ z.cells.toList, c.oneCell' = true) ∧ T205.zero.length = T205.size := ⟨Try.t205, _, by kernel_rfl, by kernel_rfl, by kernel_rfl, rfl, by kernel_rfl, List.all_eq_true.1 (by kernel_rfl), by kernel_rfl⟩
theorem i228 : ∃ i z, Try.prog.info? 228 = some i ∧ i.size = T228.size ∧ i.bytes = T228.bytes ∧ i.zero = some z ∧ z.cells.toList.map V.c = T228.zero ∧ (∀ c ∈ z.cells.toList, c.oneCell' = true) ∧ T228.zero.length = T228.size := ⟨Try.t228, _, by kernel_rfl, by kernel_rfl, by kernel_rfl, rfl, by kernel_rfl, List.all_eq_true.1 (by kernel_rfl), by kernel_rfl⟩
theorem i240 : ∃ i z, Try.prog.info? 240 = some i ∧ i.size = T240.size ∧ i.bytes = T240.bytes ∧ i.zero = some z ∧ z.cells.toList.map V.c = T240.zero ∧ (∀ c ∈ z.cells.toList, c.oneCell' = true) ∧ T240.zero.length = T240.size := ⟨Try.t240, _, by kernel_rfl, by kernel_rfl, by kernel_rfl, rfl, by kernel_rfl, List.all_eq_true.1 (by kernel_rfl), by kernel_rfl⟩
theorem i241 : ∃ i z, Try.prog.info? 241 = some i ∧ i.size = T241.size ∧ i.bytes = T241.bytes ∧ i.zero = some z ∧ z.cells.toList.map V.c = T241.zero ∧ (∀ c ∈ z.cells.toList, c.oneCell' = true) ∧ T241.zero.length = T241.size := ⟨Try.t241, _, by kernel_rfl, by kernel_rfl, by kernel_rfl, rfl, by kernel_rfl, List.all_eq_true.1 (by kernel_rfl), by kernel_rfl⟩
theorem envOK : EnvOK Try.prog E := by
  refine ⟨fun {t d} h => ?_, fun {t d} h => ?_, fun {t d} h => ?_, by kernel_rfl⟩
  · unfold E at h; split at h <;> first | (cases h; kernel_rfl) | cases h
  · unfold E at h; split at h <;> first | cases h | skip
    · exact i2
    · exact i3
    · exact i4
    · exact i5
    · exact i9
    · exact i12
    · exact i13
    · exact i21
    · exact i22
    · exact i23
    · exact i24
    · exact i25
    · exact i26
    · exact i27
    · exact i28
    · exact i30
    · exact i33
    · exact i34
    · exact i35
    · exact i36
    · exact i38
    · exact i44
    · exact i46
    · exact i51
    · exact i52
    · exact i60
    · exact i62
    · exact i64
    · exact i65
    · exact i66
    · exact i86
    · exact i87
    · exact i91
    · exact i104
    · exact i105
    · exact i106
    · exact i114
    · exact i115
    · exact i116
    · exact i124
    · exact i145
    · exact i148
    · exact i150
    · exact i151
    · exact i153
    · exact i154
    · exact i161
    · exact i162
    · exact i163
    · exact i165
    · exact i167
    · exact i182
    · exact i183
    · exact i184
    · exact i186
    · exact i188
    · exact i189
    · exact i200
    · exact i205
    · exact i228
    · exact i240
    · exact i241
  · unfold E at h; split at h <;> first | (cases h; kernel_rfl) | cases h
theorem E2 : E 2 = some ⟨TypeDesc.int IntKind.i64, 1, 8, (.c (.int .i64 0) :: []), false⟩ := rfl
theorem E3 : E 3 = some ⟨TypeDesc.int IntKind.i64, 1, 8, (.c (.int .i64 0) :: []), false⟩ := rfl
theorem E4 : E 4 = some ⟨TypeDesc.bool, 1, 1, (.c (.bool false) :: []), false⟩ := rfl
theorem E5 : E 5 = some ⟨TypeDesc.int IntKind.u8, 1, 1, (.c (.int .u8 0) :: []), false⟩ := rfl
theorem E9 : E 9 = some ⟨TypeDesc.string, 1, 16, (.c (.string ⟨#[]⟩) :: []), false⟩ := rfl
theorem E12 : E 12 = some ⟨TypeDesc.int IntKind.u64, 1, 8, (.c (.int .u64 0) :: []), false⟩ := rfl
theorem E13 : E 13 = some ⟨TypeDesc.struct #[{ name := "msg", type := 9, offset := 0, embedded := false, tag := "", pkgPath := "runtime", byteOffset := 0 }, { name := "addr", type := 12, offset := 1, embedded := false, tag := "", pkgPath := "runtime", byteOffset := 16 }], 2, 24, (.c (.string ⟨#[]⟩) :: (.c (.int .u64 0) :: [])), false⟩ := rfl
theorem E21 : E 21 = some ⟨TypeDesc.int IntKind.i32, 1, 4, (.c (.int .i32 0) :: []), false⟩ := rfl
theorem E22 : E 22 = some ⟨TypeDesc.array 256 5, 256, 256, (bs (List.replicate 256 0)), false⟩ := by simp only [← zeros_bs, ← zeros_blv]; rfl
theorem E23 : E 23 = some ⟨TypeDesc.array 4 5, 4, 4, (bs (List.replicate 4 0)), false⟩ := by simp only [← zeros_bs, ← zeros_blv]; rfl
theorem E24 : E 24 = some ⟨TypeDesc.array 4 23, 16, 16, (bs (List.replicate 16 0)), false⟩ := by simp only [← zeros_bs, ← zeros_blv]; rfl
theorem E25 : E 25 = some ⟨TypeDesc.struct #[{ name := "Field", type := 2, offset := 0, embedded := false, tag := "", pkgPath := "", byteOffset := 0 }, { name := "Box", type := 22, offset := 1, embedded := false, tag := "", pkgPath := "", byteOffset := 8 }, { name := "Mix", type := 24, offset := 257, embedded := false, tag := "", pkgPath := "", byteOffset := 264 }, { name := "Kind", type := 2, offset := 273, embedded := false, tag := "", pkgPath := "", byteOffset := 280 }, { name := "Rounds", type := 2, offset := 274, embedded := false, tag := "", pkgPath := "", byteOffset := 288 }], 275, 296, (.c (.int .i64 0) :: (bs (List.replicate 256 0) ++ (bs (List.replicate 16 0) ++ (.c (.int .i64 0) :: (.c (.int .i64 0) :: []))))), false⟩ := by simp only [← zeros_bs, ← zeros_blv]; rfl
theorem E26 : E 26 = some ⟨TypeDesc.struct #[{ name := "Field", type := 2, offset := 0, embedded := false, tag := "", pkgPath := "", byteOffset := 0 }, { name := "Box", type := 22, offset := 1, embedded := false, tag := "", pkgPath := "", byteOffset := 8 }, { name := "Mix", type := 24, offset := 257, embedded := false, tag := "", pkgPath := "", byteOffset := 264 }, { name := "Kind", type := 2, offset := 273, embedded := false, tag := "", pkgPath := "", byteOffset := 280 }, { name := "Rounds", type := 2, offset := 274, embedded := false, tag := "", pkgPath := "", byteOffset := 288 }], 275, 296, (.c (.int .i64 0) :: (bs (List.replicate 256 0) ++ (bs (List.replicate 16 0) ++ (.c (.int .i64 0) :: (.c (.int .i64 0) :: []))))), false⟩ := by simp only [← zeros_bs, ← zeros_blv]; rfl
theorem E27 : E 27 = some ⟨TypeDesc.slice 86, 1, 24, (.c (.slice none 0 0) :: []), false⟩ := rfl
theorem E28 : E 28 = some ⟨TypeDesc.array 16 5, 16, 16, (bs (List.replicate 16 0)), false⟩ := by simp only [← zeros_bs, ← zeros_blv]; rfl
theorem E30 : E 30 = some ⟨TypeDesc.array 16 5, 16, 16, (bs (List.replicate 16 0)), false⟩ := by simp only [← zeros_bs, ← zeros_blv]; rfl
theorem E33 : E 33 = some ⟨TypeDesc.array 256 5, 256, 256, (bs (List.replicate 256 0)), false⟩ := by simp only [← zeros_bs, ← zeros_blv]; rfl
theorem E34 : E 34 = some ⟨TypeDesc.array 4 23, 16, 16, (bs (List.replicate 16 0)), false⟩ := by simp only [← zeros_bs, ← zeros_blv]; rfl
theorem E35 : E 35 = some ⟨TypeDesc.struct #[{ name := "Field", type := 2, offset := 0, embedded := false, tag := "", pkgPath := "", byteOffset := 0 }, { name := "Box", type := 33, offset := 1, embedded := false, tag := "", pkgPath := "", byteOffset := 8 }, { name := "Mix", type := 34, offset := 257, embedded := false, tag := "", pkgPath := "", byteOffset := 264 }, { name := "Kind", type := 2, offset := 273, embedded := false, tag := "", pkgPath := "", byteOffset := 280 }, { name := "Rounds", type := 2, offset := 274, embedded := false, tag := "", pkgPath := "", byteOffset := 288 }], 275, 296, (.c (.int .i64 0) :: (bs (List.replicate 256 0) ++ (bs (List.replicate 16 0) ++ (.c (.int .i64 0) :: (.c (.int .i64 0) :: []))))), false⟩ := by simp only [← zeros_bs, ← zeros_blv]; rfl
theorem E36 : E 36 = some ⟨TypeDesc.struct #[{ name := "Field", type := 2, offset := 0, embedded := false, tag := "", pkgPath := "", byteOffset := 0 }, { name := "Box", type := 33, offset := 1, embedded := false, tag := "", pkgPath := "", byteOffset := 8 }, { name := "Mix", type := 34, offset := 257, embedded := false, tag := "", pkgPath := "", byteOffset := 264 }, { name := "Kind", type := 2, offset := 273, embedded := false, tag := "", pkgPath := "", byteOffset := 280 }, { name := "Rounds", type := 2, offset := 274, embedded := false, tag := "", pkgPath := "", byteOffset := 288 }], 275, 296, (.c (.int .i64 0) :: (bs (List.replicate 256 0) ++ (bs (List.replicate 16 0) ++ (.c (.int .i64 0) :: (.c (.int .i64 0) :: []))))), false⟩ := by simp only [← zeros_bs, ← zeros_blv]; rfl
theorem E38 : E 38 = some ⟨TypeDesc.slice 87, 1, 24, (.c (.slice none 0 0) :: []), false⟩ := rfl
theorem E44 : E 44 = some ⟨TypeDesc.slice 5, 1, 24, (.c (.slice none 0 0) :: []), false⟩ := rfl
theorem E46 : E 46 = some ⟨TypeDesc.slice 52, 1, 24, (.c (.slice none 0 0) :: []), false⟩ := rfl
theorem E51 : E 51 = some ⟨TypeDesc.array 32 5, 32, 32, (bs (List.replicate 32 0)), false⟩ := by simp only [← zeros_bs, ← zeros_blv]; rfl
theorem E52 : E 52 = some ⟨TypeDesc.array 32 5, 32, 32, (bs (List.replicate 32 0)), false⟩ := by simp only [← zeros_bs, ← zeros_blv]; rfl
theorem E60 : E 60 = some ⟨TypeDesc.int IntKind.u64, 1, 8, (.c (.int .u64 0) :: []), false⟩ := rfl
theorem E62 : E 62 = some ⟨TypeDesc.slice 51, 1, 24, (.c (.slice none 0 0) :: []), false⟩ := rfl
theorem E64 : E 64 = some ⟨TypeDesc.slice 46, 1, 24, (.c (.slice none 0 0) :: []), false⟩ := rfl
theorem E65 : E 65 = some ⟨TypeDesc.struct #[{ name := "Place", type := 2, offset := 0, embedded := false, tag := "", pkgPath := "", byteOffset := 0 }, { name := "Neighbours", type := 46, offset := 1, embedded := false, tag := "", pkgPath := "", byteOffset := 8 }, { name := "Proofs", type := 64, offset := 2, embedded := false, tag := "", pkgPath := "", byteOffset := 32 }], 3, 56, (.c (.int .i64 0) :: (.c (.slice none 0 0) :: (.c (.slice none 0 0) :: []))), false⟩ := rfl
theorem E66 : E 66 = some ⟨TypeDesc.struct #[{ name := "Place", type := 2, offset := 0, embedded := false, tag := "", pkgPath := "", byteOffset := 0 }, { name := "Neighbours", type := 46, offset := 1, embedded := false, tag := "", pkgPath := "", byteOffset := 8 }, { name := "Proofs", type := 64, offset := 2, embedded := false, tag := "", pkgPath := "", byteOffset := 32 }], 3, 56, (.c (.int .i64 0) :: (.c (.slice none 0 0) :: (.c (.slice none 0 0) :: []))), false⟩ := rfl
theorem E86 : E 86 = some ⟨TypeDesc.array 8 5, 8, 8, (bs (List.replicate 8 0)), false⟩ := by simp only [← zeros_bs, ← zeros_blv]; rfl
theorem E87 : E 87 = some ⟨TypeDesc.array 8 5, 8, 8, (bs (List.replicate 8 0)), false⟩ := by simp only [← zeros_bs, ← zeros_blv]; rfl
theorem E91 : E 91 = some ⟨TypeDesc.pointer 151, 1, 8, (.c (.pointer none) :: []), false⟩ := rfl
theorem E104 : E 104 = some ⟨TypeDesc.pointer 189, 1, 8, (.c (.pointer none) :: []), false⟩ := rfl
theorem E105 : E 105 = some ⟨TypeDesc.struct #[{ name := "engine", type := 104, offset := 0, embedded := false, tag := "", pkgPath := "loop.example/g01182/impl", byteOffset := 0 }], 1, 8, (.c (.pointer none) :: []), false⟩ := rfl
theorem E106 : E 106 = some ⟨TypeDesc.struct #[{ name := "engine", type := 104, offset := 0, embedded := false, tag := "", pkgPath := "loop.example/g01182/impl", byteOffset := 0 }], 1, 8, (.c (.pointer none) :: []), false⟩ := rfl
theorem E114 : E 114 = some ⟨TypeDesc.struct #[{ name := "b", type := 44, offset := 0, embedded := false, tag := "", pkgPath := "loop.example/g01182/laws", byteOffset := 0 }, { name := "i", type := 3, offset := 1, embedded := false, tag := "", pkgPath := "loop.example/g01182/laws", byteOffset := 24 }, { name := "h", type := 60, offset := 2, embedded := false, tag := "", pkgPath := "loop.example/g01182/laws", byteOffset := 32 }], 3, 40, (.c (.slice none 0 0) :: (.c (.int .i64 0) :: (.c (.int .u64 0) :: []))), false⟩ := rfl
theorem E115 : E 115 = some ⟨TypeDesc.struct #[{ name := "b", type := 44, offset := 0, embedded := false, tag := "", pkgPath := "loop.example/g01182/laws", byteOffset := 0 }, { name := "i", type := 3, offset := 1, embedded := false, tag := "", pkgPath := "loop.example/g01182/laws", byteOffset := 24 }, { name := "h", type := 60, offset := 2, embedded := false, tag := "", pkgPath := "loop.example/g01182/laws", byteOffset := 32 }], 3, 40, (.c (.slice none 0 0) :: (.c (.int .i64 0) :: (.c (.int .u64 0) :: []))), false⟩ := rfl
theorem E116 : E 116 = some ⟨TypeDesc.int IntKind.u64, 1, 8, (.c (.int .u64 0) :: []), false⟩ := rfl
theorem E124 : E 124 = some ⟨TypeDesc.array 2 3, 2, 16, (.c (.int .i64 0) :: .c (.int .i64 0) :: []), false⟩ := rfl
theorem E145 : E 145 = some ⟨TypeDesc.int IntKind.i64, 1, 8, (.c (.int .i64 0) :: []), false⟩ := rfl
theorem E148 : E 148 = some ⟨TypeDesc.pointer 184, 1, 8, (.c (.pointer none) :: []), false⟩ := rfl
theorem E150 : E 150 = some ⟨TypeDesc.struct #[{ name := "box", type := 33, offset := 0, embedded := false, tag := "", pkgPath := "loop.example/g01182/impl", byteOffset := 0 }, { name := "backBox", type := 33, offset := 256, embedded := false, tag := "", pkgPath := "loop.example/g01182/impl", byteOffset := 256 }, { name := "mixer", type := 148, offset := 512, embedded := false, tag := "", pkgPath := "loop.example/g01182/impl", byteOffset := 512 }, { name := "backMixer", type := 148, offset := 513, embedded := false, tag := "", pkgPath := "loop.example/g01182/impl", byteOffset := 520 }, { name := "kind", type := 2, offset := 514, embedded := false, tag := "", pkgPath := "loop.example/g01182/impl", byteOffset := 528 }], 515, 536, (bs (List.replicate 256 0) ++ (bs (List.replicate 256 0) ++ (.c (.pointer none) :: (.c (.pointer none) :: (.c (.int .i64 0) :: []))))), false⟩ := by simp only [← zeros_bs, ← zeros_blv]; rfl
theorem E151 : E 151 = some ⟨TypeDesc.struct #[{ name := "box", type := 33, offset := 0, embedded := false, tag := "", pkgPath := "loop.example/g01182/impl", byteOffset := 0 }, { name := "backBox", type := 33, offset := 256, embedded := false, tag := "", pkgPath := "loop.example/g01182/impl", byteOffset := 256 }, { name := "mixer", type := 148, offset := 512, embedded := false, tag := "", pkgPath := "loop.example/g01182/impl", byteOffset := 512 }, { name := "backMixer", type := 148, offset := 513, embedded := false, tag := "", pkgPath := "loop.example/g01182/impl", byteOffset := 520 }, { name := "kind", type := 2, offset := 514, embedded := false, tag := "", pkgPath := "loop.example/g01182/impl", byteOffset := 528 }], 515, 536, (bs (List.replicate 256 0) ++ (bs (List.replicate 256 0) ++ (.c (.pointer none) :: (.c (.pointer none) :: (.c (.int .i64 0) :: []))))), false⟩ := by simp only [← zeros_bs, ← zeros_blv]; rfl
theorem E153 : E 153 = some ⟨TypeDesc.struct #[{ name := "code", type := 44, offset := 0, embedded := false, tag := "", pkgPath := "loop.example/g01182/spec", byteOffset := 0 }, { name := "at", type := 3, offset := 1, embedded := false, tag := "", pkgPath := "loop.example/g01182/spec", byteOffset := 24 }, { name := "hash", type := 60, offset := 2, embedded := false, tag := "", pkgPath := "loop.example/g01182/spec", byteOffset := 32 }], 3, 40, (.c (.slice none 0 0) :: (.c (.int .i64 0) :: (.c (.int .u64 0) :: []))), false⟩ := rfl
theorem E154 : E 154 = some ⟨TypeDesc.struct #[{ name := "code", type := 44, offset := 0, embedded := false, tag := "", pkgPath := "loop.example/g01182/spec", byteOffset := 0 }, { name := "at", type := 3, offset := 1, embedded := false, tag := "", pkgPath := "loop.example/g01182/spec", byteOffset := 24 }, { name := "hash", type := 60, offset := 2, embedded := false, tag := "", pkgPath := "loop.example/g01182/spec", byteOffset := 32 }], 3, 40, (.c (.slice none 0 0) :: (.c (.int .i64 0) :: (.c (.int .u64 0) :: []))), false⟩ := rfl
theorem E161 : E 161 = some ⟨TypeDesc.array 16 5, 16, 16, (bs (List.replicate 16 0)), false⟩ := by simp only [← zeros_bs, ← zeros_blv]; rfl
theorem E162 : E 162 = some ⟨TypeDesc.struct #[{ name := "Field", type := 2, offset := 0, embedded := false, tag := "", pkgPath := "", byteOffset := 0 }, { name := "Box", type := 33, offset := 1, embedded := false, tag := "", pkgPath := "", byteOffset := 8 }, { name := "Mix", type := 34, offset := 257, embedded := false, tag := "", pkgPath := "", byteOffset := 264 }, { name := "Places", type := 161, offset := 273, embedded := false, tag := "", pkgPath := "", byteOffset := 280 }, { name := "Rounds", type := 2, offset := 289, embedded := false, tag := "", pkgPath := "", byteOffset := 296 }], 290, 304, (.c (.int .i64 0) :: (bs (List.replicate 256 0) ++ (bs (List.replicate 16 0) ++ (bs (List.replicate 16 0) ++ (.c (.int .i64 0) :: []))))), false⟩ := by simp only [← zeros_bs, ← zeros_blv]; rfl
theorem E163 : E 163 = some ⟨TypeDesc.struct #[{ name := "Field", type := 2, offset := 0, embedded := false, tag := "", pkgPath := "", byteOffset := 0 }, { name := "Box", type := 33, offset := 1, embedded := false, tag := "", pkgPath := "", byteOffset := 8 }, { name := "Mix", type := 34, offset := 257, embedded := false, tag := "", pkgPath := "", byteOffset := 264 }, { name := "Places", type := 161, offset := 273, embedded := false, tag := "", pkgPath := "", byteOffset := 280 }, { name := "Rounds", type := 2, offset := 289, embedded := false, tag := "", pkgPath := "", byteOffset := 296 }], 290, 304, (.c (.int .i64 0) :: (bs (List.replicate 256 0) ++ (bs (List.replicate 16 0) ++ (bs (List.replicate 16 0) ++ (.c (.int .i64 0) :: []))))), false⟩ := by simp only [← zeros_bs, ← zeros_blv]; rfl
theorem E165 : E 165 = some ⟨TypeDesc.slice 44, 1, 24, (.c (.slice none 0 0) :: []), false⟩ := rfl
theorem E167 : E 167 = some ⟨TypeDesc.slice 30, 1, 24, (.c (.slice none 0 0) :: []), false⟩ := rfl
theorem E182 : E 182 = some ⟨TypeDesc.array 4 22, 1024, 1024, (bs (List.replicate 1024 0)), false⟩ := by simp only [← zeros_bs, ← zeros_blv]; rfl
theorem E183 : E 183 = some ⟨TypeDesc.array 4 182, 4096, 4096, (bs (List.replicate 4096 0)), false⟩ := by simp only [← zeros_bs, ← zeros_blv]; rfl
theorem E184 : E 184 = some ⟨TypeDesc.array 4 182, 4096, 4096, (bs (List.replicate 4096 0)), false⟩ := by simp only [← zeros_bs, ← zeros_blv]; rfl
theorem E186 : E 186 = some ⟨TypeDesc.slice 2, 1, 24, (.c (.slice none 0 0) :: []), false⟩ := rfl
theorem E188 : E 188 = some ⟨TypeDesc.struct #[{ name := "box", type := 33, offset := 0, embedded := false, tag := "", pkgPath := "loop.example/g01182/impl", byteOffset := 0 }, { name := "backBox", type := 33, offset := 256, embedded := false, tag := "", pkgPath := "loop.example/g01182/impl", byteOffset := 256 }, { name := "places", type := 161, offset := 512, embedded := false, tag := "", pkgPath := "loop.example/g01182/impl", byteOffset := 512 }, { name := "backPlaces", type := 161, offset := 528, embedded := false, tag := "", pkgPath := "loop.example/g01182/impl", byteOffset := 528 }, { name := "mixer", type := 148, offset := 544, embedded := false, tag := "", pkgPath := "loop.example/g01182/impl", byteOffset := 544 }, { name := "backMixer", type := 148, offset := 545, embedded := false, tag := "", pkgPath := "loop.example/g01182/impl", byteOffset := 552 }, { name := "rounds", type := 2, offset := 546, embedded := false, tag := "", pkgPath := "loop.example/g01182/impl", byteOffset := 560 }], 547, 568, (bs (List.replicate 256 0) ++ (bs (List.replicate 256 0) ++ (bs (List.replicate 16 0) ++ (bs (List.replicate 16 0) ++ (.c (.pointer none) :: (.c (.pointer none) :: (.c (.int .i64 0) :: []))))))), false⟩ := by simp only [← zeros_bs, ← zeros_blv]; rfl
theorem E189 : E 189 = some ⟨TypeDesc.struct #[{ name := "box", type := 33, offset := 0, embedded := false, tag := "", pkgPath := "loop.example/g01182/impl", byteOffset := 0 }, { name := "backBox", type := 33, offset := 256, embedded := false, tag := "", pkgPath := "loop.example/g01182/impl", byteOffset := 256 }, { name := "places", type := 161, offset := 512, embedded := false, tag := "", pkgPath := "loop.example/g01182/impl", byteOffset := 512 }, { name := "backPlaces", type := 161, offset := 528, embedded := false, tag := "", pkgPath := "loop.example/g01182/impl", byteOffset := 528 }, { name := "mixer", type := 148, offset := 544, embedded := false, tag := "", pkgPath := "loop.example/g01182/impl", byteOffset := 544 }, { name := "backMixer", type := 148, offset := 545, embedded := false, tag := "", pkgPath := "loop.example/g01182/impl", byteOffset := 552 }, { name := "rounds", type := 2, offset := 546, embedded := false, tag := "", pkgPath := "loop.example/g01182/impl", byteOffset := 560 }], 547, 568, (bs (List.replicate 256 0) ++ (bs (List.replicate 256 0) ++ (bs (List.replicate 16 0) ++ (bs (List.replicate 16 0) ++ (.c (.pointer none) :: (.c (.pointer none) :: (.c (.int .i64 0) :: []))))))), false⟩ := by simp only [← zeros_bs, ← zeros_blv]; rfl
theorem E200 : E 200 = some ⟨TypeDesc.array 256 4, 256, 256, (blv (List.replicate 256 false)), false⟩ := by simp only [← zeros_bs, ← zeros_blv]; rfl
theorem E205 : E 205 = some ⟨TypeDesc.slice 4, 1, 24, (.c (.slice none 0 0) :: []), false⟩ := rfl
theorem E228 : E 228 = some ⟨TypeDesc.int IntKind.u32, 1, 4, (.c (.int .u32 0) :: []), false⟩ := rfl
theorem E240 : E 240 = some ⟨TypeDesc.struct #[{ name := "Keys", type := 46, offset := 0, embedded := false, tag := "", pkgPath := "", byteOffset := 0 }, { name := "Data", type := 165, offset := 1, embedded := false, tag := "", pkgPath := "", byteOffset := 24 }, { name := "Counts", type := 186, offset := 2, embedded := false, tag := "", pkgPath := "", byteOffset := 48 }], 3, 72, (.c (.slice none 0 0) :: (.c (.slice none 0 0) :: (.c (.slice none 0 0) :: []))), false⟩ := rfl
theorem E241 : E 241 = some ⟨TypeDesc.struct #[{ name := "Keys", type := 46, offset := 0, embedded := false, tag := "", pkgPath := "", byteOffset := 0 }, { name := "Data", type := 165, offset := 1, embedded := false, tag := "", pkgPath := "", byteOffset := 24 }, { name := "Counts", type := 186, offset := 2, embedded := false, tag := "", pkgPath := "", byteOffset := 48 }], 3, 72, (.c (.slice none 0 0) :: (.c (.slice none 0 0) :: (.c (.slice none 0 0) :: []))), false⟩ := rfl
noncomputable def XX (ord : Nat → Tr) (flt : Nat → Flt) (mu : List FuncId) (m : Nat) : Cx := ⟨E, Try.prog, ord, flt, mu, m⟩
/-- The type facts, bundled. -/
theorem TT : type_of% (
  And.intro E2 <|
  And.intro E3 <|
  And.intro E4 <|
  And.intro E5 <|
  And.intro E9 <|
  And.intro E12 <|
  And.intro E13 <|
  And.intro E21 <|
  And.intro E22 <|
  And.intro E23 <|
  And.intro E24 <|
  And.intro E25 <|
  And.intro E26 <|
  And.intro E27 <|
  And.intro E28 <|
  And.intro E30 <|
  And.intro E33 <|
  And.intro E34 <|
  And.intro E35 <|
  And.intro E36 <|
  And.intro E38 <|
  And.intro E44 <|
  And.intro E46 <|
  And.intro E51 <|
  And.intro E52 <|
  And.intro E60 <|
  And.intro E62 <|
  And.intro E64 <|
  And.intro E65 <|
  And.intro E66 <|
  And.intro E86 <|
  And.intro E87 <|
  And.intro E91 <|
  And.intro E104 <|
  And.intro E105 <|
  And.intro E106 <|
  And.intro E114 <|
  And.intro E115 <|
  And.intro E116 <|
  And.intro E124 <|
  And.intro E145 <|
  And.intro E148 <|
  And.intro E150 <|
  And.intro E151 <|
  And.intro E153 <|
  And.intro E154 <|
  And.intro E161 <|
  And.intro E162 <|
  And.intro E163 <|
  And.intro E165 <|
  And.intro E167 <|
  And.intro E182 <|
  And.intro E183 <|
  And.intro E184 <|
  And.intro E186 <|
  And.intro E188 <|
  And.intro E189 <|
  And.intro E200 <|
  And.intro E205 <|
  And.intro E228 <|
  And.intro E240 <|
  E241) :=
  And.intro E2 <|
  And.intro E3 <|
  And.intro E4 <|
  And.intro E5 <|
  And.intro E9 <|
  And.intro E12 <|
  And.intro E13 <|
  And.intro E21 <|
  And.intro E22 <|
  And.intro E23 <|
  And.intro E24 <|
  And.intro E25 <|
  And.intro E26 <|
  And.intro E27 <|
  And.intro E28 <|
  And.intro E30 <|
  And.intro E33 <|
  And.intro E34 <|
  And.intro E35 <|
  And.intro E36 <|
  And.intro E38 <|
  And.intro E44 <|
  And.intro E46 <|
  And.intro E51 <|
  And.intro E52 <|
  And.intro E60 <|
  And.intro E62 <|
  And.intro E64 <|
  And.intro E65 <|
  And.intro E66 <|
  And.intro E86 <|
  And.intro E87 <|
  And.intro E91 <|
  And.intro E104 <|
  And.intro E105 <|
  And.intro E106 <|
  And.intro E114 <|
  And.intro E115 <|
  And.intro E116 <|
  And.intro E124 <|
  And.intro E145 <|
  And.intro E148 <|
  And.intro E150 <|
  And.intro E151 <|
  And.intro E153 <|
  And.intro E154 <|
  And.intro E161 <|
  And.intro E162 <|
  And.intro E163 <|
  And.intro E165 <|
  And.intro E167 <|
  And.intro E182 <|
  And.intro E183 <|
  And.intro E184 <|
  And.intro E186 <|
  And.intro E188 <|
  And.intro E189 <|
  And.intro E200 <|
  And.intro E205 <|
  And.intro E228 <|
  And.intro E240 <|
  E241
end Go.Proofs.Ytapagcnipdpfiaa

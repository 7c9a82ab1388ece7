import Derived.Test.YtahnjhppkgndiaaGreatVcgQ
import Derived.Test.YtahnjhppkgndiaaGreatChecked
/- The types of this seat as my verification conditions see them: underlying type, size, bytes, zero cells; each checked against the program's own table. -/
set_option linter.unusedSimpArgs false
set_option linter.unusedVariables false
namespace Go.Proofs.YtahnjhppkgndiaaGreat
open Go Go.Vc
def T2 : TD := ⟨TypeDesc.int IntKind.i64, 1, 8, (.c (.int .i64 0) :: []), false⟩
def T3 : TD := ⟨TypeDesc.int IntKind.i64, 1, 8, (.c (.int .i64 0) :: []), false⟩
def T4 : TD := ⟨TypeDesc.bool, 1, 1, (.c (.bool false) :: []), false⟩
def T5 : TD := ⟨TypeDesc.int IntKind.u8, 1, 1, (.c (.int .u8 0) :: []), false⟩
def T9 : TD := ⟨TypeDesc.string, 1, 16, (.c (.string ⟨#[]⟩) :: []), false⟩
def T12 : TD := ⟨TypeDesc.int IntKind.u64, 1, 8, (.c (.int .u64 0) :: []), false⟩
def T13 : TD := ⟨TypeDesc.struct #[{ name := "msg", type := 9, offset := 0, embedded := false, tag := "", pkgPath := "runtime", byteOffset := 0 }, { name := "addr", type := 12, offset := 1, embedded := false, tag := "", pkgPath := "runtime", byteOffset := 16 }], 2, 24, (.c (.string ⟨#[]⟩) :: (.c (.int .u64 0) :: [])), false⟩
def T21 : TD := ⟨TypeDesc.int IntKind.i32, 1, 4, (.c (.int .i32 0) :: []), false⟩
def T22 : TD := ⟨TypeDesc.slice 5, 1, 24, (.c (.slice none 0 0) :: []), false⟩
def T24 : TD := ⟨TypeDesc.array 256 5, 256, 256, (List.replicate 256 (.c (.int .u8 0))), false⟩
def T25 : TD := ⟨TypeDesc.array 256 5, 256, 256, (List.replicate 256 (.c (.int .u8 0))), false⟩
def T26 : TD := ⟨TypeDesc.array 4 5, 4, 4, (.c (.int .u8 0) :: .c (.int .u8 0) :: .c (.int .u8 0) :: .c (.int .u8 0) :: []), false⟩
def T27 : TD := ⟨TypeDesc.array 4 26, 16, 16, (List.replicate 16 (.c (.int .u8 0))), false⟩
def T28 : TD := ⟨TypeDesc.array 4 26, 16, 16, (List.replicate 16 (.c (.int .u8 0))), false⟩
def T29 : TD := ⟨TypeDesc.array 16 5, 16, 16, (List.replicate 16 (.c (.int .u8 0))), false⟩
def T30 : TD := ⟨TypeDesc.array 16 5, 16, 16, (List.replicate 16 (.c (.int .u8 0))), false⟩
def T31 : TD := ⟨TypeDesc.struct #[{ name := "Field", type := 2, offset := 0, embedded := false, tag := "", pkgPath := "", byteOffset := 0 }, { name := "Box", type := 25, offset := 1, embedded := false, tag := "", pkgPath := "", byteOffset := 8 }, { name := "Mix", type := 28, offset := 257, embedded := false, tag := "", pkgPath := "", byteOffset := 264 }, { name := "Places", type := 30, offset := 273, embedded := false, tag := "", pkgPath := "", byteOffset := 280 }, { name := "Rounds", type := 2, offset := 289, embedded := false, tag := "", pkgPath := "", byteOffset := 296 }], 290, 304, (.c (.int .i64 0) :: (List.replicate 256 (.c (.int .u8 0)) ++ (List.replicate 16 (.c (.int .u8 0)) ++ (List.replicate 16 (.c (.int .u8 0)) ++ (.c (.int .i64 0) :: []))))), false⟩
def T32 : TD := ⟨TypeDesc.struct #[{ name := "Field", type := 2, offset := 0, embedded := false, tag := "", pkgPath := "", byteOffset := 0 }, { name := "Box", type := 25, offset := 1, embedded := false, tag := "", pkgPath := "", byteOffset := 8 }, { name := "Mix", type := 28, offset := 257, embedded := false, tag := "", pkgPath := "", byteOffset := 264 }, { name := "Places", type := 30, offset := 273, embedded := false, tag := "", pkgPath := "", byteOffset := 280 }, { name := "Rounds", type := 2, offset := 289, embedded := false, tag := "", pkgPath := "", byteOffset := 296 }], 290, 304, (.c (.int .i64 0) :: (List.replicate 256 (.c (.int .u8 0)) ++ (List.replicate 16 (.c (.int .u8 0)) ++ (List.replicate 16 (.c (.int .u8 0)) ++ (.c (.int .i64 0) :: []))))), false⟩
def T33 : TD := ⟨TypeDesc.array 16 5, 16, 16, (List.replicate 16 (.c (.int .u8 0))), false⟩
def T36 : TD := ⟨TypeDesc.array 32 5, 32, 32, (List.replicate 32 (.c (.int .u8 0))), false⟩
def T37 : TD := ⟨TypeDesc.array 32 5, 32, 32, (List.replicate 32 (.c (.int .u8 0))), false⟩
def T47 : TD := ⟨TypeDesc.int IntKind.u64, 1, 8, (.c (.int .u64 0) :: []), false⟩
def T49 : TD := ⟨TypeDesc.slice 22, 1, 24, (.c (.slice none 0 0) :: []), false⟩
def T50 : TD := ⟨TypeDesc.slice 37, 1, 24, (.c (.slice none 0 0) :: []), false⟩
def T70 : TD := ⟨TypeDesc.slice 33, 1, 24, (.c (.slice none 0 0) :: []), false⟩
def T87 : TD := ⟨TypeDesc.slice 2, 1, 24, (.c (.slice none 0 0) :: []), false⟩
def T97 : TD := ⟨TypeDesc.pointer 154, 1, 8, (.c (.pointer none) :: []), false⟩
def T108 : TD := ⟨TypeDesc.struct #[{ name := "b", type := 22, offset := 0, embedded := false, tag := "", pkgPath := "loop.example/g01182/laws", byteOffset := 0 }, { name := "i", type := 3, offset := 1, embedded := false, tag := "", pkgPath := "loop.example/g01182/laws", byteOffset := 24 }, { name := "h", type := 47, offset := 2, embedded := false, tag := "", pkgPath := "loop.example/g01182/laws", byteOffset := 32 }], 3, 40, (.c (.slice none 0 0) :: (.c (.int .i64 0) :: (.c (.int .u64 0) :: []))), false⟩
def T109 : TD := ⟨TypeDesc.struct #[{ name := "b", type := 22, offset := 0, embedded := false, tag := "", pkgPath := "loop.example/g01182/laws", byteOffset := 0 }, { name := "i", type := 3, offset := 1, embedded := false, tag := "", pkgPath := "loop.example/g01182/laws", byteOffset := 24 }, { name := "h", type := 47, offset := 2, embedded := false, tag := "", pkgPath := "loop.example/g01182/laws", byteOffset := 32 }], 3, 40, (.c (.slice none 0 0) :: (.c (.int .i64 0) :: (.c (.int .u64 0) :: []))), false⟩
def T110 : TD := ⟨TypeDesc.int IntKind.u64, 1, 8, (.c (.int .u64 0) :: []), false⟩
def T135 : TD := ⟨TypeDesc.struct #[{ name := "engine", type := 97, offset := 0, embedded := false, tag := "", pkgPath := "loop.example/g01182/impl", byteOffset := 0 }, { name := "keys", type := 70, offset := 1, embedded := false, tag := "", pkgPath := "loop.example/g01182/impl", byteOffset := 8 }], 2, 32, (.c (.pointer none) :: (.c (.slice none 0 0) :: [])), false⟩
def T136 : TD := ⟨TypeDesc.struct #[{ name := "engine", type := 97, offset := 0, embedded := false, tag := "", pkgPath := "loop.example/g01182/impl", byteOffset := 0 }, { name := "keys", type := 70, offset := 1, embedded := false, tag := "", pkgPath := "loop.example/g01182/impl", byteOffset := 8 }], 2, 32, (.c (.pointer none) :: (.c (.slice none 0 0) :: [])), false⟩
def T143 : TD := ⟨TypeDesc.struct #[{ name := "code", type := 22, offset := 0, embedded := false, tag := "", pkgPath := "loop.example/g01182/spec", byteOffset := 0 }, { name := "at", type := 3, offset := 1, embedded := false, tag := "", pkgPath := "loop.example/g01182/spec", byteOffset := 24 }, { name := "hash", type := 47, offset := 2, embedded := false, tag := "", pkgPath := "loop.example/g01182/spec", byteOffset := 32 }], 3, 40, (.c (.slice none 0 0) :: (.c (.int .i64 0) :: (.c (.int .u64 0) :: []))), false⟩
def T144 : TD := ⟨TypeDesc.struct #[{ name := "code", type := 22, offset := 0, embedded := false, tag := "", pkgPath := "loop.example/g01182/spec", byteOffset := 0 }, { name := "at", type := 3, offset := 1, embedded := false, tag := "", pkgPath := "loop.example/g01182/spec", byteOffset := 24 }, { name := "hash", type := 47, offset := 2, embedded := false, tag := "", pkgPath := "loop.example/g01182/spec", byteOffset := 32 }], 3, 40, (.c (.slice none 0 0) :: (.c (.int .i64 0) :: (.c (.int .u64 0) :: []))), false⟩
def T147 : TD := ⟨TypeDesc.int IntKind.i64, 1, 8, (.c (.int .i64 0) :: []), false⟩
def T151 : TD := ⟨TypeDesc.pointer 184, 1, 8, (.c (.pointer none) :: []), false⟩
def T153 : TD := ⟨TypeDesc.struct #[{ name := "box", type := 25, offset := 0, embedded := false, tag := "", pkgPath := "loop.example/g01182/impl", byteOffset := 0 }, { name := "backBox", type := 25, offset := 256, embedded := false, tag := "", pkgPath := "loop.example/g01182/impl", byteOffset := 256 }, { name := "places", type := 30, offset := 512, embedded := false, tag := "", pkgPath := "loop.example/g01182/impl", byteOffset := 512 }, { name := "backPlaces", type := 30, offset := 528, embedded := false, tag := "", pkgPath := "loop.example/g01182/impl", byteOffset := 528 }, { name := "mixer", type := 151, offset := 544, embedded := false, tag := "", pkgPath := "loop.example/g01182/impl", byteOffset := 544 }, { name := "backMixer", type := 151, offset := 545, embedded := false, tag := "", pkgPath := "loop.example/g01182/impl", byteOffset := 552 }, { name := "rounds", type := 2, offset := 546, embedded := false, tag := "", pkgPath := "loop.example/g01182/impl", byteOffset := 560 }], 547, 568, (List.replicate 256 (.c (.int .u8 0)) ++ (List.replicate 256 (.c (.int .u8 0)) ++ (List.replicate 16 (.c (.int .u8 0)) ++ (List.replicate 16 (.c (.int .u8 0)) ++ (.c (.pointer none) :: (.c (.pointer none) :: (.c (.int .i64 0) :: []))))))), false⟩
def T154 : TD := ⟨TypeDesc.struct #[{ name := "box", type := 25, offset := 0, embedded := false, tag := "", pkgPath := "loop.example/g01182/impl", byteOffset := 0 }, { name := "backBox", type := 25, offset := 256, embedded := false, tag := "", pkgPath := "loop.example/g01182/impl", byteOffset := 256 }, { name := "places", type := 30, offset := 512, embedded := false, tag := "", pkgPath := "loop.example/g01182/impl", byteOffset := 512 }, { name := "backPlaces", type := 30, offset := 528, embedded := false, tag := "", pkgPath := "loop.example/g01182/impl", byteOffset := 528 }, { name := "mixer", type := 151, offset := 544, embedded := false, tag := "", pkgPath := "loop.example/g01182/impl", byteOffset := 544 }, { name := "backMixer", type := 151, offset := 545, embedded := false, tag := "", pkgPath := "loop.example/g01182/impl", byteOffset := 552 }, { name := "rounds", type := 2, offset := 546, embedded := false, tag := "", pkgPath := "loop.example/g01182/impl", byteOffset := 560 }], 547, 568, (List.replicate 256 (.c (.int .u8 0)) ++ (List.replicate 256 (.c (.int .u8 0)) ++ (List.replicate 16 (.c (.int .u8 0)) ++ (List.replicate 16 (.c (.int .u8 0)) ++ (.c (.pointer none) :: (.c (.pointer none) :: (.c (.int .i64 0) :: []))))))), false⟩
def T171 : TD := ⟨TypeDesc.slice 9, 1, 24, (.c (.slice none 0 0) :: []), false⟩
def T182 : TD := ⟨TypeDesc.array 4 24, 1024, 1024, (List.replicate 1024 (.c (.int .u8 0))), false⟩
def T183 : TD := ⟨TypeDesc.array 4 182, 4096, 4096, (List.replicate 4096 (.c (.int .u8 0))), false⟩
def T184 : TD := ⟨TypeDesc.array 4 182, 4096, 4096, (List.replicate 4096 (.c (.int .u8 0))), false⟩
def T187 : TD := ⟨TypeDesc.array 256 4, 256, 256, (List.replicate 256 (.c (.bool false))), false⟩
def T189 : TD := ⟨TypeDesc.slice 4, 1, 24, (.c (.slice none 0 0) :: []), false⟩
def T191 : TD := ⟨TypeDesc.array 16 4, 16, 16, (List.replicate 16 (.c (.bool false))), false⟩
def T223 : TD := ⟨TypeDesc.int IntKind.u32, 1, 4, (.c (.int .u32 0) :: []), false⟩
def E : Env := fun t => match t with
  | 2 => some T2
  | 3 => some T3
  | 4 => some T4
  | 5 => some T5
  | 9 => some T9
  | 12 => some T12
  | 13 => some T13
  | 21 => some T21
  | 22 => some T22
  | 24 => some T24
  | 25 => some T25
  | 26 => some T26
  | 27 => some T27
  | 28 => some T28
  | 29 => some T29
  | 30 => some T30
  | 31 => some T31
  | 32 => some T32
  | 33 => some T33
  | 36 => some T36
  | 37 => some T37
  | 47 => some T47
  | 49 => some T49
  | 50 => some T50
  | 70 => some T70
  | 87 => some T87
  | 97 => some T97
  | 108 => some T108
  | 109 => some T109
  | 110 => some T110
  | 135 => some T135
  | 136 => some T136
  | 143 => some T143
  | 144 => some T144
  | 147 => some T147
  | 151 => some T151
  | 153 => some T153
  | 154 => some T154
  | 171 => some T171
  | 182 => some T182
  | 183 => some T183
  | 184 => some T184
  | 187 => some T187
  | 189 => some T189
  | 191 => some T191
  | 223 => some T223
  | _ => none
theorem i2 : ∃ i z, Tryz.prog.info? 2 = some i ∧ i.size = T2.size ∧ i.bytes = T2.bytes ∧ i.zero = some z ∧ z.cells.toList.map V.c = T2.zero ∧ (∀ c ∈ z.cells.toList, c.oneCell' = true) ∧ T2.zero.length = T2.size := ⟨Tryz.t2, _, by kernel_rfl, by kernel_rfl, by kernel_rfl, rfl, by kernel_rfl, List.all_eq_true.1 (by kernel_rfl), by kernel_rfl⟩
theorem i3 : ∃ i z, Tryz.prog.info? 3 = some i ∧ i.size = T3.size ∧ i.bytes = T3.bytes ∧ i.zero = some z ∧ z.cells.toList.map V.c = T3.zero ∧ (∀ c ∈ z.cells.toList, c.oneCell' = true) ∧ T3.zero.length = T3.size := ⟨Tryz.t3, _, by kernel_rfl, by kernel_rfl, by kernel_rfl, rfl, by kernel_rfl, List.all_eq_true.1 (by kernel_rfl), by kernel_rfl⟩
theorem i4 : ∃ i z, Tryz.prog.info? 4 = some i ∧ i.size = T4.size ∧ i.bytes = T4.bytes ∧ i.zero = some z ∧ z.cells.toList.map V.c = T4.zero ∧ (∀ c ∈ z.cells.toList, c.oneCell' = true) ∧ T4.zero.length = T4.size := ⟨Tryz.t4, _, by kernel_rfl, by kernel_rfl, by kernel_rfl, rfl, by kernel_rfl, List.all_eq_true.1 (by kernel_rfl), by kernel_rfl⟩
theorem i5 : ∃ i z, Tryz.prog.info? 5 = some i ∧ i.size = T5.size ∧ i.bytes = T5.bytes ∧ i.zero = some z ∧ z.cells.toList.map V.c = T5.zero ∧ (∀ c ∈ z.cells.toList, c.oneCell' = true) ∧ T5.zero.length = T5.size := ⟨Tryz.t5, _, by kernel_rfl, by kernel_rfl, by kernel_rfl, rfl, by kernel_rfl, List.all_eq_true.1 (by kernel_rfl), by kernel_rfl⟩
theorem i9 : ∃ i z, Tryz.prog.info? 9 = some i ∧ i.size = T9.size ∧ i.bytes = T9.bytes ∧ i.zero = some z ∧ z.cells.toList.map V.c = T9.zero ∧ (∀ c ∈ z.cells.toList, c.oneCell' = true) ∧ T9.zero.length = T9.size := ⟨Tryz.t9, _, by kernel_rfl, by kernel_rfl, by kernel_rfl, rfl, by kernel_rfl, List.all_eq_true.1 (by kernel_rfl), by kernel_rfl⟩
theorem i12 : ∃ i z, Tryz.prog.info? 12 = some i ∧ i.size = T12.size ∧ i.bytes = T12.bytes ∧ i.zero = some z ∧ z.cells.toList.map V.c = T12.zero ∧ (∀ c ∈ z.cells.toList, c.oneCell' = true) ∧ T12.zero.length = T12.size := ⟨Tryz.t12, _, by kernel_rfl, by kernel_rfl, by kernel_rfl, rfl, by kernel_rfl, List.all_eq_true.1 (by kernel_rfl), by kernel_rfl⟩
theorem i13 : ∃ i z, Tryz.prog.info? 13 = some i ∧ i.size = T13.size ∧ i.bytes = T13.bytes ∧ i.zero = some z ∧ z.cells.toList.map V.c = T13.zero ∧ (∀ c ∈ z.cells.toList, c.oneCell' = true) ∧ T13.zero.length = T13.size := ⟨Tryz.t13, _, by kernel_rfl, by kernel_rfl, by kernel_rfl, rfl, by kernel_rfl, List.all_eq_true.1 (by kernel_rfl), by kernel_rfl⟩
theorem i21 : ∃ i z, Tryz.prog.info? 21 = some i ∧ i.size = T21.size ∧ i.bytes = T21.bytes ∧ i.zero = some z ∧ z.cells.toList.map V.c = T21.zero ∧ (∀ c ∈ z.cells.toList, c.oneCell' = true) ∧ T21.zero.length = T21.size := ⟨Tryz.t21, _, by kernel_rfl, by kernel_rfl, by kernel_rfl, rfl, by kernel_rfl, List.all_eq_true.1 (by kernel_rfl), by kernel_rfl⟩
theorem i22 : ∃ i z, Tryz.prog.info? 22 = some i ∧ i.size = T22.size ∧ i.bytes = T22.bytes ∧ i.zero = some z ∧ z.cells.toList.map V.c = T22.zero ∧ (∀ c ∈ z.cells.toList, c.oneCell' = true) ∧ T22.zero.length = T22.size := ⟨Tryz.t22, _, by kernel_rfl, by kernel_rfl, by kernel_rfl, rfl, by kernel_rfl, List.all_eq_true.1 (by kernel_rfl), by kernel_rfl⟩
theorem i24 : ∃ i z, Tryz.prog.info? 24 = some i ∧ i.size = T24.size ∧ i.bytes = T24.bytes ∧ i.zero = some z ∧ z.cells.toList.map V.c = T24.zero ∧ (∀ c ∈ z.cells.toList, c.oneCell' = true) ∧ T24.zero.length = T24.size := ⟨Tryz.t24, _, by kernel_rfl, by kernel_rfl, by kernel_rfl, rfl, by kernel_rfl, List.all_eq_true.1 (by kernel_rfl), by kernel_rfl⟩
theorem i25 : ∃ i z, Tryz.prog.info? 25 = some i ∧ i.size = T25.size ∧ i.bytes = T25.bytes ∧ i.zero = some z ∧ z.cells.toList.map V.c = T25.zero ∧ (∀ c ∈ z.cells.toList, c.oneCell' = true) ∧ T25.zero.length = T25.size := ⟨Tryz.t25, _, by kernel_rfl, by kernel_rfl, by kernel_rfl, rfl, by kernel_rfl, List.all_eq_true.1 (by kernel_rfl), by kernel_rfl⟩
theorem i26 : ∃ i z, Tryz.prog.info? 26 = some i ∧ i.size = T26.size ∧ i.bytes = T26.bytes ∧ i.zero = some z ∧ z.cells.toList.map V.c = T26.zero ∧ (∀ c ∈ z.cells.toList, c.oneCell' = true) ∧ T26.zero.length = T26.size := ⟨Tryz.t26, _, by kernel_rfl, by kernel_rfl, by kernel_rfl, rfl, by kernel_rfl, List.all_eq_true.1 (by kernel_rfl), by kernel_rfl⟩
theorem i27 : ∃ i z, Tryz.prog.info? 27 = some i ∧ i.size = T27.size ∧ i.bytes = T27.bytes ∧ i.zero = some z ∧ z.cells.toList.map V.c = T27.zero ∧ (∀ c ∈ z.cells.toList, c.oneCell' = true) ∧ T27.zero.length = T27.size := ⟨Tryz.t27, _, by kernel_rfl, by kernel_rfl, by kernel_rfl, rfl, by kernel_rfl, List.all_eq_true.1 (by kernel_rfl), by kernel_rfl⟩
theorem i28 : ∃ i z, Tryz.prog.info? 28 = some i ∧ i.size = T28.size ∧ i.bytes = T28.bytes ∧ i.zero = some z ∧ z.cells.toList.map V.c = T28.zero ∧ (∀ c ∈ z.cells.toList, c.oneCell' = true) ∧ T28.zero.length = T28.size := ⟨Tryz.t28, _, by kernel_rfl, by kernel_rfl, by kernel_rfl, rfl, by kernel_rfl, List.all_eq_true.1 (by kernel_rfl), by kernel_rfl⟩
theorem i29 : ∃ i z, Tryz.prog.info? 29 = some i ∧ i.size = T29.size ∧ i.bytes = T29.bytes ∧ i.zero = some z ∧ z.cells.toList.map V.c = T29.zero ∧ (∀ c ∈ z.cells.toList, c.oneCell' = true) ∧ T29.zero.length = T29.size := ⟨Tryz.t29, _, by kernel_rfl, by kernel_rfl, by kernel_rfl, rfl, by kernel_rfl, List.all_eq_true.1 (by kernel_rfl), by kernel_rfl⟩
theorem i30 : ∃ i z, Tryz.prog.info? 30 = some i ∧ i.size = T30.size ∧ i.bytes = T30.bytes ∧ i.zero = some z ∧ z.cells.toList.map V.c = T30.zero ∧ (∀ c ∈ z.cells.toList, c.oneCell' = true) ∧ T30.zero.length = T30.size := ⟨Tryz.t30, _, by kernel_rfl, by kernel_rfl, by kernel_rfl, rfl, by kernel_rfl, List.all_eq_true.1 (by kernel_rfl), by kernel_rfl⟩
theorem i31 : ∃ i z, Tryz.prog.info? 31 = some i ∧ i.size = T31.size ∧ i.bytes = T31.bytes ∧ i.zero = some z ∧ z.cells.toList.map V.c = T31.zero ∧ (∀ c ∈ z.cells.toList, c.oneCell' = true) ∧ T31.zero.length = T31.size := ⟨Tryz.t31, _, by kernel_rfl, by kernel_rfl, by kernel_rfl, rfl, by kernel_rfl, List.all_eq_true.1 (by kernel_rfl), by kernel_rfl⟩
theorem i32 : ∃ i z, Tryz.prog.info? 32 = some i ∧ i.size = T32.size ∧ i.bytes = T32.bytes ∧ i.zero = some z ∧ z.cells.toList.map V.c = T32.zero ∧ (∀ c ∈ z.cells.toList, c.oneCell' = true) ∧ T32.zero.length = T32.size := ⟨Tryz.t32, _, by kernel_rfl, by kernel_rfl, by kernel_rfl, rfl, by kernel_rfl, List.all_eq_true.1 (by kernel_rfl), by kernel_rfl⟩
theorem i33 : ∃ i z, Tryz.prog.info? 33 = some i ∧ i.size = T33.size ∧ i.bytes = T33.bytes ∧ i.zero = some z ∧ z.cells.toList.map V.c = T33.zero ∧ (∀ c ∈ z.cells.toList, c.oneCell' = true) ∧ T33.zero.length = T33.size := ⟨Tryz.t33, _, by kernel_rfl, by kernel_rfl, by kernel_rfl, rfl, by kernel_rfl, List.all_eq_true.1 (by kernel_rfl), by kernel_rfl⟩
theorem i36 : ∃ i z, Tryz.prog.info? 36 = some i ∧ i.size = T36.size ∧ i.bytes = T36.bytes ∧ i.zero = some z ∧ z.cells.toList.map V.c = T36.zero ∧ (∀ c ∈ z.cells.toList, c.oneCell' = true) ∧ T36.zero.length = T36.size := ⟨Tryz.t36, _, by kernel_rfl, by kernel_rfl, by kernel_rfl, rfl, by kernel_rfl, List.all_eq_true.1 (by kernel_rfl), by kernel_rfl⟩
theorem i37 : ∃ i z, Tryz.prog.info? 37 = some i ∧ i.size = T37.size ∧ i.bytes = T37.bytes ∧ i.zero = some z ∧ z.cells.toList.map V.c = T37.zero ∧ (∀ c ∈ z.cells.toList, c.oneCell' = true) ∧ T37.zero.length = T37.size := ⟨Tryz.t37, _, by kernel_rfl, by kernel_rfl, by kernel_rfl, rfl, by kernel_rfl, List.all_eq_true.1 (by kernel_rfl), by kernel_rfl⟩
theorem i47 : ∃ i z, Tryz.prog.info? 47 = some i ∧ i.size = T47.size ∧ i.bytes = T47.bytes ∧ i.zero = some z ∧ z.cells.toList.map V.c = T47.zero ∧ (∀ c ∈ z.cells.toList, c.oneCell' = true) ∧ T47.zero.length = T47.size := ⟨Tryz.t47, _, by kernel_rfl, by kernel_rfl, by kernel_rfl, rfl, by kernel_rfl, List.all_eq_true.1 (by kernel_rfl), by kernel_rfl⟩
theorem i49 : ∃ i z, Tryz.prog.info? 49 = some i ∧ i.size = T49.size ∧ i.bytes = T49.bytes ∧ i.zero = some z ∧ z.cells.toList.map V.c = T49.zero ∧ (∀ c ∈ z.cells.toList, c.oneCell' = true) ∧ T49.zero.length = T49.size := ⟨Tryz.t49, _, by kernel_rfl, by kernel_rfl, by kernel_rfl, rfl, by kernel_rfl, List.all_eq_true.1 (by kernel_rfl), by kernel_rfl⟩
theorem i50 : ∃ i z, Tryz.prog.info? 50 = some i ∧ i.size = T50.size ∧ i.bytes = T50.bytes ∧ i.zero = some z ∧ z.cells.toList.map V.c = T50.zero ∧ (∀ c ∈ z.cells.toList, c.oneCell' = true) ∧ T50.zero.length = T50.size := ⟨Tryz.t50, _, by kernel_rfl, by kernel_rfl, by kernel_rfl, rfl, by kernel_rfl, List.all_eq_true.1 (by kernel_rfl), by kernel_rfl⟩
theorem i70 : ∃ i z, Tryz.prog.info? 70 = some i ∧ i.size = T70.size ∧ i.bytes = T70.bytes ∧ i.zero = some z ∧ z.cells.toList.map V.c = T70.zero ∧ (∀ c ∈ z.cells.toList, c.oneCell' = true) ∧ T70.zero.length = T70.size := ⟨Tryz.t70, _, by kernel_rfl, by kernel_rfl, by kernel_rfl, rfl, by kernel_rfl, List.all_eq_true.1 (by kernel_rfl), by kernel_rfl⟩
theorem i87 : ∃ i z, Tryz.prog.info? 87 = some i ∧ i.size = T87.size ∧ i.bytes = T87.bytes ∧ i.zero = some z ∧ z.cells.toList.map V.c = T87.zero ∧ (∀ c ∈ z.cells.toList, c.oneCell' = true) ∧ T87.zero.length = T87.size := ⟨Tryz.t87, _, by kernel_rfl, by kernel_rfl, by kernel_rfl, rfl, by kernel_rfl, List.all_eq_true.1 (by kernel_rfl), by kernel_rfl⟩
theorem i97 : ∃ i z, Tryz.prog.info? 97 = some i ∧ i.size = T97.size ∧ i.bytes = T97.bytes ∧ i.zero = some z ∧ z.cells.toList.map V.c = T97.zero ∧ (∀ c ∈ z.cells.toList, c.oneCell' = true) ∧ T97.zero.length = T97.size := ⟨Tryz.t97, _, by kernel_rfl, by kernel_rfl, by kernel_rfl, rfl, by kernel_rfl, List.all_eq_true.1 (by kernel_rfl), by kernel_rfl⟩
theorem i108 : ∃ i z, Tryz.prog.info? 108 = some i ∧ i.size = T108.size ∧ i.bytes = T108.bytes ∧ i.zero = some z ∧ z.cells.toList.map V.c = T108.zero ∧ (∀ c ∈ z.cells.toList, c.oneCell' = true) ∧ T108.zero.length = T108.size := ⟨Tryz.t108, _, by kernel_rfl, by kernel_rfl, by kernel_rfl, rfl, by kernel_rfl, List.all_eq_true.1 (by kernel_rfl), by kernel_rfl⟩
theorem i109 : ∃ i z, Tryz.prog.info? 109 = some i ∧ i.size = T109.size ∧ i.bytes = T109.bytes ∧ i.zero = some z ∧ z.cells.toList.map V.c = T109.zero ∧ (∀ c ∈ z.cells.toList, c.oneCell' = true) ∧ T109.zero.length = T109.size := ⟨Tryz.t109, _, by kernel_rfl, by kernel_rfl, by kernel_rfl, rfl, by kernel_rfl, List.all_eq_true.1 (by kernel_rfl), by kernel_rfl⟩
theorem i110 : ∃ i z, Tryz.prog.info? 110 = some i ∧ i.size = T110.size ∧ i.bytes = T110.bytes ∧ i.zero = some z ∧ z.cells.toList.map V.c = T110.zero ∧ (∀ c ∈ z.cells.toList, c.oneCell' = true) ∧ T110.zero.length = T110.size := ⟨Tryz.t110, _, by kernel_rfl, by kernel_rfl, by kernel_rfl, rfl, by kernel_rfl, List.all_eq_true.1 (by kernel_rfl), by kernel_rfl⟩
theorem i135 : ∃ i z, Tryz.prog.info? 135 = some i ∧ i.size = T135.size ∧ i.bytes = T135.bytes ∧ i.zero = some z ∧ z.cells.toList.map V.c = T135.zero ∧ (∀ c ∈ z.cells.toList, c.oneCell' = true) ∧ T135.zero.length = T135.size := ⟨Tryz.t135, _, by kernel_rfl, by kernel_rfl, by kernel_rfl, rfl, by kernel_rfl, List.all_eq_true.1 (by kernel_rfl), by kernel_rfl⟩
theorem i136 : ∃ i z, Tryz.prog.info? 136 = some i ∧ i.size = T136.size ∧ i.bytes = T136.bytes ∧ i.zero = some z ∧ z.cells.toList.map V.c = T136.zero ∧ (∀ c ∈ z.cells.toList, c.oneCell' = true) ∧ T136.zero.length = T136.size := ⟨Tryz.t136, _, by kernel_rfl, by kernel_rfl, by kernel_rfl, rfl, by kernel_rfl, List.all_eq_true.1 (by kernel_rfl), by kernel_rfl⟩
theorem i143 : ∃ i z, Tryz.prog.info? 143 = some i ∧ i.size = T143.size ∧ i.bytes = T143.bytes ∧ i.zero = some z ∧ z.cells.toList.map V.c = T143.zero ∧ (∀ c ∈ z.cells.toList, c.oneCell' = true) ∧ T143.zero.length = T143.size := ⟨Tryz.t143, _, by kernel_rfl, by kernel_rfl, by kernel_rfl, rfl, by kernel_rfl, List.all_eq_true.1 (by kernel_rfl), by kernel_rfl⟩
theorem i144 : ∃ i z, Tryz.prog.info? 144 = some i ∧ i.size = T144.size ∧ i.bytes = T144.bytes ∧ i.zero = some z ∧ z.cells.toList.map V.c = T144.zero ∧ (∀ c ∈ z.cells.toList, c.oneCell' = true) ∧ T144.zero.length = T144.size := ⟨Tryz.t144, _, by kernel_rfl, by kernel_rfl, by kernel_rfl, rfl, by kernel_rfl, List.all_eq_true.1 (by kernel_rfl), by kernel_rfl⟩
theorem i147 : ∃ i z, Tryz.prog.info? 147 = some i ∧ i.size = T147.size ∧ i.bytes = T147.bytes ∧ i.zero = some z ∧ z.cells.toList.map V.c = T147.zero ∧ (∀ c ∈ z.cells.toList, c.oneCell' = true) ∧ T147.zero.length = T147.size := ⟨Tryz.t147, _, by kernel_rfl, by kernel_rfl, by kernel_rfl, rfl, by kernel_rfl, List.all_eq_true.1 (by kernel_rfl), by kernel_rfl⟩
theorem i151 : ∃ i z, Tryz.prog.info? 151 = some i ∧ i.size = T151.size ∧ i.bytes = T151.bytes ∧ i.zero = some z ∧ z.cells.toList.map V.c = T151.zero ∧ (∀ c ∈ z.cells.toList, c.oneCell' = true) ∧ T151.zero.length = T151.size := ⟨Tryz.t151, _, by kernel_rfl, by kernel_rfl, by kernel_rfl, rfl, by kernel_rfl, List.all_eq_true.1 (by kernel_rfl), by kernel_rfl⟩
theorem i153 : ∃ i z, Tryz.prog.info? 153 = some i ∧ i.size = T153.size ∧ i.bytes = T153.bytes ∧ i.zero = some z ∧ z.cells.toList.map V.c = T153.zero ∧ (∀ c ∈ z.cells.toList, c.oneCell' = true) ∧ T153.zero.length = T153.size := ⟨Tryz.t153, _, by kernel_rfl, by kernel_rfl, by kernel_rfl, rfl, by kernel_rfl, List.all_eq_true.1 (by kernel_rfl), by kernel_rfl⟩
theorem i154 : ∃ i z, Tryz.prog.info? 154 = some i ∧ i.size = T154.size ∧ i.bytes = T154.bytes ∧ i.zero = some z ∧ z.cells.toList.map V.c = T154.zero ∧ (∀ c ∈ z.cells.toList, c.oneCell' = true) ∧ T154.zero.length = T154.size := ⟨Tryz.t154, _, by kernel_rfl, by kernel_rfl, by kernel_rfl, rfl, by kernel_rfl, List.all_eq_true.1 (by kernel_rfl), by kernel_rfl⟩
theorem i171 : ∃ i z, Tryz.prog.info? 171 = some i ∧ i.size = T171.size ∧ i.bytes = T171.bytes ∧ i.zero = some z ∧ z.cells.toList.map V.c = T171.zero ∧ (∀ c ∈ z.cells.toList, c.oneCell' = true) ∧ T171.zero.length = T171.size := ⟨Tryz.t171, _, by kernel_rfl, by kernel_rfl, by kernel_rfl, rfl, by kernel_rfl, List.all_eq_true.1 (by kernel_rfl), by kernel_rfl⟩
theorem i182 : ∃ i z, Tryz.prog.info? 182 = some i ∧ i.size = T182.size ∧ i.bytes = T182.bytes ∧ i.zero = some z ∧ z.cells.toList.map V.c = T182.zero ∧ (∀ c ∈ z.cells.toList, c.oneCell' = true) ∧ T182.zero.length = T182.size := ⟨Tryz.t182, _, by kernel_rfl, by kernel_rfl, by kernel_rfl, rfl, by kernel_rfl, List.all_eq_true.1 (by kernel_rfl), by kernel_rfl⟩
theorem i183 : ∃ i z, Tryz.prog.info? 183 = some i ∧ i.size = T183.size ∧ i.bytes = T183.bytes ∧ i.zero = some z ∧ z.cells.toList.map V.c = T183.zero ∧ (∀ c ∈ z.cells.toList, c.oneCell' = true) ∧ T183.zero.length = T183.size := ⟨Tryz.t183, _, by kernel_rfl, by kernel_rfl, by kernel_rfl, rfl, by kernel_rfl, List.all_eq_true.1 (by kernel_rfl), by kernel_rfl⟩
theorem i184 : ∃ i z, Tryz.prog.info? 184 = some i ∧ i.size = T184.size ∧ i.bytes = T184.bytes ∧ i.zero = some z ∧ z.cells.toList.map V.c = T184.zero ∧ (∀ c ∈ z.cells.toList, c.oneCell' = true) ∧ T184.zero.length = T184.size := ⟨Tryz.t184, _, by kernel_rfl, by kernel_rfl, by kernel_rfl, rfl, by kernel_rfl, List.all_eq_true.1 (by kernel_rfl), by kernel_rfl⟩
theorem i187 : ∃ i z, Tryz.prog.info? 187 = some i ∧ i.size = T187.size ∧ i.bytes = T187.bytes ∧ i.zero = some z ∧ z.cells.toList.map V.c = T187.zero ∧ (∀ c ∈ z.cells.toList, c.oneCell' = true) ∧ T187.zero.length = T187.size := ⟨Tryz.t187, _, by kernel_rfl, by kernel_rfl, by kernel_rfl, rfl, by kernel_rfl, List.all_eq_true.1 (by kernel_rfl), by kernel_rfl⟩
theorem i189 : ∃ i z, Tryz.prog.info? 189 = some i ∧ i.size = T189.size ∧ i.bytes = T189.bytes ∧ i.zero = some z ∧ z.cells.toList.map V.c = T189.zero ∧ (∀ c ∈ z.cells.toList, c.oneCell' = true) ∧ T189.zero.length = T189.size := ⟨Tryz.t189, _, by kernel_rfl, by kernel_rfl, by kernel_rfl, rfl, by kernel_rfl, List.all_eq_true.1 (by kernel_rfl), by kernel_rfl⟩
theorem i191 : ∃ i z, Tryz.prog.info? 191 = some i ∧ i.size = T191.size ∧ i.bytes = T191.bytes ∧ i.zero = some z ∧ z.cells.toList.map V.c = T191.zero ∧ (∀ c ∈ z.cells.toList, c.oneCell' = true) ∧ T191.zero.length = T191.size := ⟨Tryz.t191, _, by kernel_rfl, by kernel_rfl, by kernel_rfl, rfl, by kernel_rfl, List.all_eq_true.1 (by kernel_rfl), by kernel_rfl⟩
theorem i223 : ∃ i z, Tryz.prog.info? 223 = some i ∧ i.size = T223.size ∧ i.bytes = T223.bytes ∧ i.zero = some z ∧ z.cells.toList.map V.c = T223.zero ∧ (∀ c ∈ z.cells.toList, c.oneCell' = true) ∧ T223.zero.length = T223.size := ⟨Tryz.t223, _, by kernel_rfl, by kernel_rfl, by kernel_rfl, rfl, by kernel_rfl, List.all_eq_true.1 (by kernel_rfl), by kernel_rfl⟩
theorem envOK : EnvOK Tryz.prog E := by
  refine ⟨fun {t d} h => ?_, fun {t d} h => ?_, fun {t d} h => ?_, by kernel_rfl, fun {t d} h h2 => ?_⟩
  · unfold E at h; split at h <;> first | (cases h; kernel_rfl) | cases h
  · unfold E at h; split at h <;> first | cases h | skip
    · exact i2
    · exact i3
    · exact i4
    · exact i5
    · exact i9
    · exact i12
    · exact i13
    · exact i21
    · exact i22
    · exact i24
    · exact i25
    · exact i26
    · exact i27
    · exact i28
    · exact i29
    · exact i30
    · exact i31
    · exact i32
    · exact i33
    · exact i36
    · exact i37
    · exact i47
    · exact i49
    · exact i50
    · exact i70
    · exact i87
    · exact i97
    · exact i108
    · exact i109
    · exact i110
    · exact i135
    · exact i136
    · exact i143
    · exact i144
    · exact i147
    · exact i151
    · exact i153
    · exact i154
    · exact i171
    · exact i182
    · exact i183
    · exact i184
    · exact i187
    · exact i189
    · exact i191
    · exact i223
  · unfold E at h; split at h <;> first | (cases h; kernel_rfl) | cases h
  · unfold E at h; split at h <;> first | cases h | skip
    · kernel_rfl
    · kernel_rfl
    · exact absurd (h2.symm.trans (by kernel_rfl : _ = false)) (by decide)
    · kernel_rfl
    · exact absurd (h2.symm.trans (by kernel_rfl : _ = false)) (by decide)
    · kernel_rfl
    · exact absurd (h2.symm.trans (by kernel_rfl : _ = false)) (by decide)
    · kernel_rfl
    · exact absurd (h2.symm.trans (by kernel_rfl : _ = false)) (by decide)
    · kernel_rfl
    · kernel_rfl
    · kernel_rfl
    · kernel_rfl
    · kernel_rfl
    · kernel_rfl
    · kernel_rfl
    · kernel_rfl
    · kernel_rfl
    · kernel_rfl
    · kernel_rfl
    · kernel_rfl
    · kernel_rfl
    · exact absurd (h2.symm.trans (by kernel_rfl : _ = false)) (by decide)
    · exact absurd (h2.symm.trans (by kernel_rfl : _ = false)) (by decide)
    · exact absurd (h2.symm.trans (by kernel_rfl : _ = false)) (by decide)
    · exact absurd (h2.symm.trans (by kernel_rfl : _ = false)) (by decide)
    · exact absurd (h2.symm.trans (by kernel_rfl : _ = false)) (by decide)
    · exact absurd (h2.symm.trans (by kernel_rfl : _ = false)) (by decide)
    · exact absurd (h2.symm.trans (by kernel_rfl : _ = false)) (by decide)
    · kernel_rfl
    · exact absurd (h2.symm.trans (by kernel_rfl : _ = false)) (by decide)
    · exact absurd (h2.symm.trans (by kernel_rfl : _ = false)) (by decide)
    · exact absurd (h2.symm.trans (by kernel_rfl : _ = false)) (by decide)
    · exact absurd (h2.symm.trans (by kernel_rfl : _ = false)) (by decide)
    · kernel_rfl
    · exact absurd (h2.symm.trans (by kernel_rfl : _ = false)) (by decide)
    · exact absurd (h2.symm.trans (by kernel_rfl : _ = false)) (by decide)
    · exact absurd (h2.symm.trans (by kernel_rfl : _ = false)) (by decide)
    · exact absurd (h2.symm.trans (by kernel_rfl : _ = false)) (by decide)
    · kernel_rfl
    · kernel_rfl
    · kernel_rfl
    · exact absurd (h2.symm.trans (by kernel_rfl : _ = false)) (by decide)
    · exact absurd (h2.symm.trans (by kernel_rfl : _ = false)) (by decide)
    · exact absurd (h2.symm.trans (by kernel_rfl : _ = false)) (by decide)
    · kernel_rfl
theorem E2 : E 2 = some ⟨TypeDesc.int IntKind.i64, 1, 8, (.c (.int .i64 0) :: []), false⟩ := rfl
theorem E3 : E 3 = some ⟨TypeDesc.int IntKind.i64, 1, 8, (.c (.int .i64 0) :: []), false⟩ := rfl
theorem E4 : E 4 = some ⟨TypeDesc.bool, 1, 1, (.c (.bool false) :: []), false⟩ := rfl
theorem E5 : E 5 = some ⟨TypeDesc.int IntKind.u8, 1, 1, (.c (.int .u8 0) :: []), false⟩ := rfl
theorem E9 : E 9 = some ⟨TypeDesc.string, 1, 16, (.c (.string ⟨#[]⟩) :: []), false⟩ := rfl
theorem E12 : E 12 = some ⟨TypeDesc.int IntKind.u64, 1, 8, (.c (.int .u64 0) :: []), false⟩ := rfl
theorem E13 : E 13 = some ⟨TypeDesc.struct #[{ name := "msg", type := 9, offset := 0, embedded := false, tag := "", pkgPath := "runtime", byteOffset := 0 }, { name := "addr", type := 12, offset := 1, embedded := false, tag := "", pkgPath := "runtime", byteOffset := 16 }], 2, 24, (.c (.string ⟨#[]⟩) :: (.c (.int .u64 0) :: [])), false⟩ := rfl
theorem E21 : E 21 = some ⟨TypeDesc.int IntKind.i32, 1, 4, (.c (.int .i32 0) :: []), false⟩ := rfl
theorem E22 : E 22 = some ⟨TypeDesc.slice 5, 1, 24, (.c (.slice none 0 0) :: []), false⟩ := rfl
theorem E24 : E 24 = some ⟨TypeDesc.array 256 5, 256, 256, (bs (List.replicate 256 0)), false⟩ := by simp only [← zeros_bs, ← zeros_blv]; rfl
theorem E25 : E 25 = some ⟨TypeDesc.array 256 5, 256, 256, (bs (List.replicate 256 0)), false⟩ := by simp only [← zeros_bs, ← zeros_blv]; rfl
theorem E26 : E 26 = some ⟨TypeDesc.array 4 5, 4, 4, (bs (List.replicate 4 0)), false⟩ := by simp only [← zeros_bs, ← zeros_blv]; rfl
theorem E27 : E 27 = some ⟨TypeDesc.array 4 26, 16, 16, (bs (List.replicate 16 0)), false⟩ := by simp only [← zeros_bs, ← zeros_blv]; rfl
theorem E28 : E 28 = some ⟨TypeDesc.array 4 26, 16, 16, (bs (List.replicate 16 0)), false⟩ := by simp only [← zeros_bs, ← zeros_blv]; rfl
theorem E29 : E 29 = some ⟨TypeDesc.array 16 5, 16, 16, (bs (List.replicate 16 0)), false⟩ := by simp only [← zeros_bs, ← zeros_blv]; rfl
theorem E30 : E 30 = some ⟨TypeDesc.array 16 5, 16, 16, (bs (List.replicate 16 0)), false⟩ := by simp only [← zeros_bs, ← zeros_blv]; rfl
theorem E31 : E 31 = some ⟨TypeDesc.struct #[{ name := "Field", type := 2, offset := 0, embedded := false, tag := "", pkgPath := "", byteOffset := 0 }, { name := "Box", type := 25, offset := 1, embedded := false, tag := "", pkgPath := "", byteOffset := 8 }, { name := "Mix", type := 28, offset := 257, embedded := false, tag := "", pkgPath := "", byteOffset := 264 }, { name := "Places", type := 30, offset := 273, embedded := false, tag := "", pkgPath := "", byteOffset := 280 }, { name := "Rounds", type := 2, offset := 289, embedded := false, tag := "", pkgPath := "", byteOffset := 296 }], 290, 304, (.c (.int .i64 0) :: (bs (List.replicate 256 0) ++ (bs (List.replicate 16 0) ++ (bs (List.replicate 16 0) ++ (.c (.int .i64 0) :: []))))), false⟩ := by simp only [← zeros_bs, ← zeros_blv]; rfl
theorem E32 : E 32 = some ⟨TypeDesc.struct #[{ name := "Field", type := 2, offset := 0, embedded := false, tag := "", pkgPath := "", byteOffset := 0 }, { name := "Box", type := 25, offset := 1, embedded := false, tag := "", pkgPath := "", byteOffset := 8 }, { name := "Mix", type := 28, offset := 257, embedded := false, tag := "", pkgPath := "", byteOffset := 264 }, { name := "Places", type := 30, offset := 273, embedded := false, tag := "", pkgPath := "", byteOffset := 280 }, { name := "Rounds", type := 2, offset := 289, embedded := false, tag := "", pkgPath := "", byteOffset := 296 }], 290, 304, (.c (.int .i64 0) :: (bs (List.replicate 256 0) ++ (bs (List.replicate 16 0) ++ (bs (List.replicate 16 0) ++ (.c (.int .i64 0) :: []))))), false⟩ := by simp only [← zeros_bs, ← zeros_blv]; rfl
theorem E33 : E 33 = some ⟨TypeDesc.array 16 5, 16, 16, (bs (List.replicate 16 0)), false⟩ := by simp only [← zeros_bs, ← zeros_blv]; rfl
theorem E36 : E 36 = some ⟨TypeDesc.array 32 5, 32, 32, (bs (List.replicate 32 0)), false⟩ := by simp only [← zeros_bs, ← zeros_blv]; rfl
theorem E37 : E 37 = some ⟨TypeDesc.array 32 5, 32, 32, (bs (List.replicate 32 0)), false⟩ := by simp only [← zeros_bs, ← zeros_blv]; rfl
theorem E47 : E 47 = some ⟨TypeDesc.int IntKind.u64, 1, 8, (.c (.int .u64 0) :: []), false⟩ := rfl
theorem E49 : E 49 = some ⟨TypeDesc.slice 22, 1, 24, (.c (.slice none 0 0) :: []), false⟩ := rfl
theorem E50 : E 50 = some ⟨TypeDesc.slice 37, 1, 24, (.c (.slice none 0 0) :: []), false⟩ := rfl
theorem E70 : E 70 = some ⟨TypeDesc.slice 33, 1, 24, (.c (.slice none 0 0) :: []), false⟩ := rfl
theorem E87 : E 87 = some ⟨TypeDesc.slice 2, 1, 24, (.c (.slice none 0 0) :: []), false⟩ := rfl
theorem E97 : E 97 = some ⟨TypeDesc.pointer 154, 1, 8, (.c (.pointer none) :: []), false⟩ := rfl
theorem E108 : E 108 = some ⟨TypeDesc.struct #[{ name := "b", type := 22, offset := 0, embedded := false, tag := "", pkgPath := "loop.example/g01182/laws", byteOffset := 0 }, { name := "i", type := 3, offset := 1, embedded := false, tag := "", pkgPath := "loop.example/g01182/laws", byteOffset := 24 }, { name := "h", type := 47, offset := 2, embedded := false, tag := "", pkgPath := "loop.example/g01182/laws", byteOffset := 32 }], 3, 40, (.c (.slice none 0 0) :: (.c (.int .i64 0) :: (.c (.int .u64 0) :: []))), false⟩ := rfl
theorem E109 : E 109 = some ⟨TypeDesc.struct #[{ name := "b", type := 22, offset := 0, embedded := false, tag := "", pkgPath := "loop.example/g01182/laws", byteOffset := 0 }, { name := "i", type := 3, offset := 1, embedded := false, tag := "", pkgPath := "loop.example/g01182/laws", byteOffset := 24 }, { name := "h", type := 47, offset := 2, embedded := false, tag := "", pkgPath := "loop.example/g01182/laws", byteOffset := 32 }], 3, 40, (.c (.slice none 0 0) :: (.c (.int .i64 0) :: (.c (.int .u64 0) :: []))), false⟩ := rfl
theorem E110 : E 110 = some ⟨TypeDesc.int IntKind.u64, 1, 8, (.c (.int .u64 0) :: []), false⟩ := rfl
theorem E135 : E 135 = some ⟨TypeDesc.struct #[{ name := "engine", type := 97, offset := 0, embedded := false, tag := "", pkgPath := "loop.example/g01182/impl", byteOffset := 0 }, { name := "keys", type := 70, offset := 1, embedded := false, tag := "", pkgPath := "loop.example/g01182/impl", byteOffset := 8 }], 2, 32, (.c (.pointer none) :: (.c (.slice none 0 0) :: [])), false⟩ := rfl
theorem E136 : E 136 = some ⟨TypeDesc.struct #[{ name := "engine", type := 97, offset := 0, embedded := false, tag := "", pkgPath := "loop.example/g01182/impl", byteOffset := 0 }, { name := "keys", type := 70, offset := 1, embedded := false, tag := "", pkgPath := "loop.example/g01182/impl", byteOffset := 8 }], 2, 32, (.c (.pointer none) :: (.c (.slice none 0 0) :: [])), false⟩ := rfl
theorem E143 : E 143 = some ⟨TypeDesc.struct #[{ name := "code", type := 22, offset := 0, embedded := false, tag := "", pkgPath := "loop.example/g01182/spec", byteOffset := 0 }, { name := "at", type := 3, offset := 1, embedded := false, tag := "", pkgPath := "loop.example/g01182/spec", byteOffset := 24 }, { name := "hash", type := 47, offset := 2, embedded := false, tag := "", pkgPath := "loop.example/g01182/spec", byteOffset := 32 }], 3, 40, (.c (.slice none 0 0) :: (.c (.int .i64 0) :: (.c (.int .u64 0) :: []))), false⟩ := rfl
theorem E144 : E 144 = some ⟨TypeDesc.struct #[{ name := "code", type := 22, offset := 0, embedded := false, tag := "", pkgPath := "loop.example/g01182/spec", byteOffset := 0 }, { name := "at", type := 3, offset := 1, embedded := false, tag := "", pkgPath := "loop.example/g01182/spec", byteOffset := 24 }, { name := "hash", type := 47, offset := 2, embedded := false, tag := "", pkgPath := "loop.example/g01182/spec", byteOffset := 32 }], 3, 40, (.c (.slice none 0 0) :: (.c (.int .i64 0) :: (.c (.int .u64 0) :: []))), false⟩ := rfl
theorem E147 : E 147 = some ⟨TypeDesc.int IntKind.i64, 1, 8, (.c (.int .i64 0) :: []), false⟩ := rfl
theorem E151 : E 151 = some ⟨TypeDesc.pointer 184, 1, 8, (.c (.pointer none) :: []), false⟩ := rfl
theorem E153 : E 153 = some ⟨TypeDesc.struct #[{ name := "box", type := 25, offset := 0, embedded := false, tag := "", pkgPath := "loop.example/g01182/impl", byteOffset := 0 }, { name := "backBox", type := 25, offset := 256, embedded := false, tag := "", pkgPath := "loop.example/g01182/impl", byteOffset := 256 }, { name := "places", type := 30, offset := 512, embedded := false, tag := "", pkgPath := "loop.example/g01182/impl", byteOffset := 512 }, { name := "backPlaces", type := 30, offset := 528, embedded := false, tag := "", pkgPath := "loop.example/g01182/impl", byteOffset := 528 }, { name := "mixer", type := 151, offset := 544, embedded := false, tag := "", pkgPath := "loop.example/g01182/impl", byteOffset := 544 }, { name := "backMixer", type := 151, offset := 545, embedded := false, tag := "", pkgPath := "loop.example/g01182/impl", byteOffset := 552 }, { name := "rounds", type := 2, offset := 546, embedded := false, tag := "", pkgPath := "loop.example/g01182/impl", byteOffset := 560 }], 547, 568, (bs (List.replicate 256 0) ++ (bs (List.replicate 256 0) ++ (bs (List.replicate 16 0) ++ (bs (List.replicate 16 0) ++ (.c (.pointer none) :: (.c (.pointer none) :: (.c (.int .i64 0) :: []))))))), false⟩ := by simp only [← zeros_bs, ← zeros_blv]; rfl
theorem E154 : E 154 = some ⟨TypeDesc.struct #[{ name := "box", type := 25, offset := 0, embedded := false, tag := "", pkgPath := "loop.example/g01182/impl", byteOffset := 0 }, { name := "backBox", type := 25, offset := 256, embedded := false, tag := "", pkgPath := "loop.example/g01182/impl", byteOffset := 256 }, { name := "places", type := 30, offset := 512, embedded := false, tag := "", pkgPath := "loop.example/g01182/impl", byteOffset := 512 }, { name := "backPlaces", type := 30, offset := 528, embedded := false, tag := "", pkgPath := "loop.example/g01182/impl", byteOffset := 528 }, { name := "mixer", type := 151, offset := 544, embedded := false, tag := "", pkgPath := "loop.example/g01182/impl", byteOffset := 544 }, { name := "backMixer", type := 151, offset := 545, embedded := false, tag := "", pkgPath := "loop.example/g01182/impl", byteOffset := 552 }, { name := "rounds", type := 2, offset := 546, embedded := false, tag := "", pkgPath := "loop.example/g01182/impl", byteOffset := 560 }], 547, 568, (bs (List.replicate 256 0) ++ (bs (List.replicate 256 0) ++ (bs (List.replicate 16 0) ++ (bs (List.replicate 16 0) ++ (.c (.pointer none) :: (.c (.pointer none) :: (.c (.int .i64 0) :: []))))))), false⟩ := by simp only [← zeros_bs, ← zeros_blv]; rfl
theorem E171 : E 171 = some ⟨TypeDesc.slice 9, 1, 24, (.c (.slice none 0 0) :: []), false⟩ := rfl
theorem E182 : E 182 = some ⟨TypeDesc.array 4 24, 1024, 1024, (bs (List.replicate 1024 0)), false⟩ := by simp only [← zeros_bs, ← zeros_blv]; rfl
theorem E183 : E 183 = some ⟨TypeDesc.array 4 182, 4096, 4096, (bs (List.replicate 4096 0)), false⟩ := by simp only [← zeros_bs, ← zeros_blv]; rfl
theorem E184 : E 184 = some ⟨TypeDesc.array 4 182, 4096, 4096, (bs (List.replicate 4096 0)), false⟩ := by simp only [← zeros_bs, ← zeros_blv]; rfl
theorem E187 : E 187 = some ⟨TypeDesc.array 256 4, 256, 256, (blv (List.replicate 256 false)), false⟩ := by simp only [← zeros_bs, ← zeros_blv]; rfl
theorem E189 : E 189 = some ⟨TypeDesc.slice 4, 1, 24, (.c (.slice none 0 0) :: []), false⟩ := rfl
theorem E191 : E 191 = some ⟨TypeDesc.array 16 4, 16, 16, (blv (List.replicate 16 false)), false⟩ := by simp only [← zeros_bs, ← zeros_blv]; rfl
theorem E223 : E 223 = some ⟨TypeDesc.int IntKind.u32, 1, 4, (.c (.int .u32 0) :: []), false⟩ := rfl
noncomputable def XX (ord : Nat → Tr) (flt : Nat → Flt) (mu : List FuncId) (m : Nat) : Cx := ⟨E, Tryz.prog, ord, flt, mu, m⟩
/-- The type facts, bundled. -/
theorem TT : type_of% (
  And.intro E2 <|
  And.intro E3 <|
  And.intro E4 <|
  And.intro E5 <|
  And.intro E9 <|
  And.intro E12 <|
  And.intro E13 <|
  And.intro E21 <|
  And.intro E22 <|
  And.intro E24 <|
  And.intro E25 <|
  And.intro E26 <|
  And.intro E27 <|
  And.intro E28 <|
  And.intro E29 <|
  And.intro E30 <|
  And.intro E31 <|
  And.intro E32 <|
  And.intro E33 <|
  And.intro E36 <|
  And.intro E37 <|
  And.intro E47 <|
  And.intro E49 <|
  And.intro E50 <|
  And.intro E70 <|
  And.intro E87 <|
  And.intro E97 <|
  And.intro E108 <|
  And.intro E109 <|
  And.intro E110 <|
  And.intro E135 <|
  And.intro E136 <|
  And.intro E143 <|
  And.intro E144 <|
  And.intro E147 <|
  And.intro E151 <|
  And.intro E153 <|
  And.intro E154 <|
  And.intro E171 <|
  And.intro E182 <|
  And.intro E183 <|
  And.intro E184 <|
  And.intro E187 <|
  And.intro E189 <|
  And.intro E191 <|
  E223) :=
  And.intro E2 <|
  And.intro E3 <|
  And.intro E4 <|
  And.intro E5 <|
  And.intro E9 <|
  And.intro E12 <|
  And.intro E13 <|
  And.intro E21 <|
  And.intro E22 <|
  And.intro E24 <|
  And.intro E25 <|
  And.intro E26 <|
  And.intro E27 <|
  And.intro E28 <|
  And.intro E29 <|
  And.intro E30 <|
  And.intro E31 <|
  And.intro E32 <|
  And.intro E33 <|
  And.intro E36 <|
  And.intro E37 <|
  And.intro E47 <|
  And.intro E49 <|
  And.intro E50 <|
  And.intro E70 <|
  And.intro E87 <|
  And.intro E97 <|
  And.intro E108 <|
  And.intro E109 <|
  And.intro E110 <|
  And.intro E135 <|
  And.intro E136 <|
  And.intro E143 <|
  And.intro E144 <|
  And.intro E147 <|
  And.intro E151 <|
  And.intro E153 <|
  And.intro E154 <|
  And.intro E171 <|
  And.intro E182 <|
  And.intro E183 <|
  And.intro E184 <|
  And.intro E187 <|
  And.intro E189 <|
  And.intro E191 <|
  E223
end Go.Proofs.YtahnjhppkgndiaaGreat

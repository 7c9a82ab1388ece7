import Derived.Test.YtpapocmoielldaaVcgQ
import Derived.Test.YtpapocmoielldaaChecked
/- The types of this seat as my verification conditions see them: underlying type, size, bytes, zero cells; each checked against the program's own table. -/
set_option linter.unusedSimpArgs false
set_option linter.unusedVariables false
namespace Go.Proofs.Ytpapocmoielldaa
open Go Go.Vc
def T2 : TD := ⟨TypeDesc.int IntKind.i64, 1, 8, (.c (.int .i64 0) :: []), false⟩
def T3 : TD := ⟨TypeDesc.int IntKind.i64, 1, 8, (.c (.int .i64 0) :: []), false⟩
def T4 : TD := ⟨TypeDesc.bool, 1, 1, (.c (.bool false) :: []), false⟩
def T5 : TD := ⟨TypeDesc.int IntKind.u8, 1, 1, (.c (.int .u8 0) :: []), false⟩
def T9 : TD := ⟨TypeDesc.string, 1, 16, (.c (.string ⟨#[]⟩) :: []), false⟩
def T12 : TD := ⟨TypeDesc.int IntKind.u64, 1, 8, (.c (.int .u64 0) :: []), false⟩
def T13 : TD := ⟨TypeDesc.struct #[{ name := "msg", type := 9, offset := 0, embedded := false, tag := "", pkgPath := "runtime", byteOffset := 0 }, { name := "addr", type := 12, offset := 1, embedded := false, tag := "", pkgPath := "runtime", byteOffset := 16 }], 2, 24, (.c (.string ⟨#[]⟩) :: (.c (.int .u64 0) :: [])), false⟩
def T21 : TD := ⟨TypeDesc.int IntKind.i32, 1, 4, (.c (.int .i32 0) :: []), false⟩
def T22 : TD := ⟨TypeDesc.array 256 5, 256, 256, (List.replicate 256 (.c (.int .u8 0))), false⟩
def T23 : TD := ⟨TypeDesc.array 4 5, 4, 4, (.c (.int .u8 0) :: .c (.int .u8 0) :: .c (.int .u8 0) :: .c (.int .u8 0) :: []), false⟩
def T24 : TD := ⟨TypeDesc.array 4 23, 16, 16, (List.replicate 16 (.c (.int .u8 0))), false⟩
def T25 : TD := ⟨TypeDesc.array 16 5, 16, 16, (List.replicate 16 (.c (.int .u8 0))), false⟩
def T26 : TD := ⟨TypeDesc.struct #[{ name := "Field", type := 2, offset := 0, embedded := false, tag := "", pkgPath := "", byteOffset := 0 }, { name := "Box", type := 22, offset := 1, embedded := false, tag := "", pkgPath := "", byteOffset := 8 }, { name := "Mix", type := 24, offset := 257, embedded := false, tag := "", pkgPath := "", byteOffset := 264 }, { name := "Places", type := 25, offset := 273, embedded := false, tag := "", pkgPath := "", byteOffset := 280 }, { name := "Rounds", type := 2, offset := 289, embedded := false, tag := "", pkgPath := "", byteOffset := 296 }], 290, 304, (.c (.int .i64 0) :: (List.replicate 256 (.c (.int .u8 0)) ++ (List.replicate 16 (.c (.int .u8 0)) ++ (List.replicate 16 (.c (.int .u8 0)) ++ (.c (.int .i64 0) :: []))))), false⟩
def T27 : TD := ⟨TypeDesc.struct #[{ name := "Field", type := 2, offset := 0, embedded := false, tag := "", pkgPath := "", byteOffset := 0 }, { name := "Box", type := 22, offset := 1, embedded := false, tag := "", pkgPath := "", byteOffset := 8 }, { name := "Mix", type := 24, offset := 257, embedded := false, tag := "", pkgPath := "", byteOffset := 264 }, { name := "Places", type := 25, offset := 273, embedded := false, tag := "", pkgPath := "", byteOffset := 280 }, { name := "Rounds", type := 2, offset := 289, embedded := false, tag := "", pkgPath := "", byteOffset := 296 }], 290, 304, (.c (.int .i64 0) :: (List.replicate 256 (.c (.int .u8 0)) ++ (List.replicate 16 (.c (.int .u8 0)) ++ (List.replicate 16 (.c (.int .u8 0)) ++ (.c (.int .i64 0) :: []))))), false⟩
def T28 : TD := ⟨TypeDesc.slice 5, 1, 24, (.c (.slice none 0 0) :: []), false⟩
def T31 : TD := ⟨TypeDesc.array 256 5, 256, 256, (List.replicate 256 (.c (.int .u8 0))), false⟩
def T32 : TD := ⟨TypeDesc.array 4 23, 16, 16, (List.replicate 16 (.c (.int .u8 0))), false⟩
def T33 : TD := ⟨TypeDesc.array 16 5, 16, 16, (List.replicate 16 (.c (.int .u8 0))), false⟩
def T34 : TD := ⟨TypeDesc.struct #[{ name := "Field", type := 2, offset := 0, embedded := false, tag := "", pkgPath := "", byteOffset := 0 }, { name := "Box", type := 31, offset := 1, embedded := false, tag := "", pkgPath := "", byteOffset := 8 }, { name := "Mix", type := 32, offset := 257, embedded := false, tag := "", pkgPath := "", byteOffset := 264 }, { name := "Places", type := 33, offset := 273, embedded := false, tag := "", pkgPath := "", byteOffset := 280 }, { name := "Rounds", type := 2, offset := 289, embedded := false, tag := "", pkgPath := "", byteOffset := 296 }], 290, 304, (.c (.int .i64 0) :: (List.replicate 256 (.c (.int .u8 0)) ++ (List.replicate 16 (.c (.int .u8 0)) ++ (List.replicate 16 (.c (.int .u8 0)) ++ (.c (.int .i64 0) :: []))))), false⟩
def T35 : TD := ⟨TypeDesc.struct #[{ name := "Field", type := 2, offset := 0, embedded := false, tag := "", pkgPath := "", byteOffset := 0 }, { name := "Box", type := 31, offset := 1, embedded := false, tag := "", pkgPath := "", byteOffset := 8 }, { name := "Mix", type := 32, offset := 257, embedded := false, tag := "", pkgPath := "", byteOffset := 264 }, { name := "Places", type := 33, offset := 273, embedded := false, tag := "", pkgPath := "", byteOffset := 280 }, { name := "Rounds", type := 2, offset := 289, embedded := false, tag := "", pkgPath := "", byteOffset := 296 }], 290, 304, (.c (.int .i64 0) :: (List.replicate 256 (.c (.int .u8 0)) ++ (List.replicate 16 (.c (.int .u8 0)) ++ (List.replicate 16 (.c (.int .u8 0)) ++ (.c (.int .i64 0) :: []))))), false⟩
def T37 : TD := ⟨TypeDesc.array 16 5, 16, 16, (List.replicate 16 (.c (.int .u8 0))), false⟩
def T43 : TD := ⟨TypeDesc.slice 2, 1, 24, (.c (.slice none 0 0) :: []), false⟩
def T57 : TD := ⟨TypeDesc.pointer 109, 1, 8, (.c (.pointer none) :: []), false⟩
def T58 : TD := ⟨TypeDesc.slice 37, 1, 24, (.c (.slice none 0 0) :: []), false⟩
def T59 : TD := ⟨TypeDesc.struct #[{ name := "engine", type := 57, offset := 0, embedded := false, tag := "", pkgPath := "loop.example/g01182/impl", byteOffset := 0 }, { name := "keys", type := 58, offset := 1, embedded := false, tag := "", pkgPath := "loop.example/g01182/impl", byteOffset := 8 }], 2, 32, (.c (.pointer none) :: (.c (.slice none 0 0) :: [])), false⟩
def T60 : TD := ⟨TypeDesc.struct #[{ name := "engine", type := 57, offset := 0, embedded := false, tag := "", pkgPath := "loop.example/g01182/impl", byteOffset := 0 }, { name := "keys", type := 58, offset := 1, embedded := false, tag := "", pkgPath := "loop.example/g01182/impl", byteOffset := 8 }], 2, 32, (.c (.pointer none) :: (.c (.slice none 0 0) :: [])), false⟩
def T84 : TD := ⟨TypeDesc.int IntKind.u64, 1, 8, (.c (.int .u64 0) :: []), false⟩
def T85 : TD := ⟨TypeDesc.int IntKind.u64, 1, 8, (.c (.int .u64 0) :: []), false⟩
def T87 : TD := ⟨TypeDesc.slice 28, 1, 24, (.c (.slice none 0 0) :: []), false⟩
def T102 : TD := ⟨TypeDesc.int IntKind.i64, 1, 8, (.c (.int .i64 0) :: []), false⟩
def T106 : TD := ⟨TypeDesc.pointer 128, 1, 8, (.c (.pointer none) :: []), false⟩
def T108 : TD := ⟨TypeDesc.struct #[{ name := "box", type := 31, offset := 0, embedded := false, tag := "", pkgPath := "loop.example/g01182/impl", byteOffset := 0 }, { name := "backBox", type := 31, offset := 256, embedded := false, tag := "", pkgPath := "loop.example/g01182/impl", byteOffset := 256 }, { name := "places", type := 33, offset := 512, embedded := false, tag := "", pkgPath := "loop.example/g01182/impl", byteOffset := 512 }, { name := "backPlaces", type := 33, offset := 528, embedded := false, tag := "", pkgPath := "loop.example/g01182/impl", byteOffset := 528 }, { name := "mixer", type := 106, offset := 544, embedded := false, tag := "", pkgPath := "loop.example/g01182/impl", byteOffset := 544 }, { name := "backMixer", type := 106, offset := 545, embedded := false, tag := "", pkgPath := "loop.example/g01182/impl", byteOffset := 552 }, { name := "rounds", type := 2, offset := 546, embedded := false, tag := "", pkgPath := "loop.example/g01182/impl", byteOffset := 560 }], 547, 568, (List.replicate 256 (.c (.int .u8 0)) ++ (List.replicate 256 (.c (.int .u8 0)) ++ (List.replicate 16 (.c (.int .u8 0)) ++ (List.replicate 16 (.c (.int .u8 0)) ++ (.c (.pointer none) :: (.c (.pointer none) :: (.c (.int .i64 0) :: []))))))), false⟩
def T109 : TD := ⟨TypeDesc.struct #[{ name := "box", type := 31, offset := 0, embedded := false, tag := "", pkgPath := "loop.example/g01182/impl", byteOffset := 0 }, { name := "backBox", type := 31, offset := 256, embedded := false, tag := "", pkgPath := "loop.example/g01182/impl", byteOffset := 256 }, { name := "places", type := 33, offset := 512, embedded := false, tag := "", pkgPath := "loop.example/g01182/impl", byteOffset := 512 }, { name := "backPlaces", type := 33, offset := 528, embedded := false, tag := "", pkgPath := "loop.example/g01182/impl", byteOffset := 528 }, { name := "mixer", type := 106, offset := 544, embedded := false, tag := "", pkgPath := "loop.example/g01182/impl", byteOffset := 544 }, { name := "backMixer", type := 106, offset := 545, embedded := false, tag := "", pkgPath := "loop.example/g01182/impl", byteOffset := 552 }, { name := "rounds", type := 2, offset := 546, embedded := false, tag := "", pkgPath := "loop.example/g01182/impl", byteOffset := 560 }], 547, 568, (List.replicate 256 (.c (.int .u8 0)) ++ (List.replicate 256 (.c (.int .u8 0)) ++ (List.replicate 16 (.c (.int .u8 0)) ++ (List.replicate 16 (.c (.int .u8 0)) ++ (.c (.pointer none) :: (.c (.pointer none) :: (.c (.int .i64 0) :: []))))))), false⟩
def T117 : TD := ⟨TypeDesc.array 256 4, 256, 256, (List.replicate 256 (.c (.bool false))), false⟩
def T118 : TD := ⟨TypeDesc.array 16 4, 16, 16, (List.replicate 16 (.c (.bool false))), false⟩
def T121 : TD := ⟨TypeDesc.slice 4, 1, 24, (.c (.slice none 0 0) :: []), false⟩
def T126 : TD := ⟨TypeDesc.array 4 22, 1024, 1024, (List.replicate 1024 (.c (.int .u8 0))), false⟩
def T127 : TD := ⟨TypeDesc.array 4 126, 4096, 4096, (List.replicate 4096 (.c (.int .u8 0))), false⟩
def T128 : TD := ⟨TypeDesc.array 4 126, 4096, 4096, (List.replicate 4096 (.c (.int .u8 0))), false⟩
def T141 : TD := ⟨TypeDesc.int IntKind.u32, 1, 4, (.c (.int .u32 0) :: []), false⟩
def T154 : TD := ⟨TypeDesc.array 32 5, 32, 32, (List.replicate 32 (.c (.int .u8 0))), false⟩
def T155 : TD := ⟨TypeDesc.array 32 5, 32, 32, (List.replicate 32 (.c (.int .u8 0))), false⟩
def E : Env := fun t => match t with
  | 2 => some T2
  | 3 => some T3
  | 4 => some T4
  | 5 => some T5
  | 9 => some T9
  | 12 => some T12
  | 13 => some T13
  | 21 => some T21
  | 22 => some T22
  | 23 => some T23
  | 24 => some T24
  | 25 => some T25
  | 26 => some T26
  | 27 => some T27
  | 28 => some T28
  | 31 => some T31
  | 32 => some T32
  | 33 => some T33
  | 34 => some T34
  | 35 => some T35
  | 37 => some T37
  | 43 => some T43
  | 57 => some T57
  | 58 => some T58
  | 59 => some T59
  | 60 => some T60
  | 84 => some T84
  | 85 => some T85
  | 87 => some T87
  | 102 => some T102
  | 106 => some T106
  | 108 => some T108
  | 109 => some T109
  | 117 => some T117
  | 118 => some T118
  | 121 => some T121
  | 126 => some T126
  | 127 => some T127
  | 128 => some T128
  | 141 => some T141
  | 154 => some T154
  | 155 => some T155
  | _ => none
theorem i2 : ∃ i z, Try.prog.info? 2 = some i ∧ i.size = T2.size ∧ i.bytes = T2.bytes ∧ i.zero = some z ∧ z.cells.toList.map V.c = T2.zero ∧ (∀ c ∈ z.cells.toList, c.oneCell' = true) ∧ T2.zero.length = T2.size := ⟨Try.t2, _, by kernel_rfl, by kernel_rfl, by kernel_rfl, rfl, by kernel_rfl, List.all_eq_true.1 (by kernel_rfl), by kernel_rfl⟩
theorem i3 : ∃ i z, Try.prog.info? 3 = some i ∧ i.size = T3.size ∧ i.bytes = T3.bytes ∧ i.zero = some z ∧ z.cells.toList.map V.c = T3.zero ∧ (∀ c ∈ z.cells.toList, c.oneCell' = true) ∧ T3.zero.length = T3.size := ⟨Try.t3, _, by kernel_rfl, by kernel_rfl, by kernel_rfl, rfl, by kernel_rfl, List.all_eq_true.1 (by kernel_rfl), by kernel_rfl⟩
theorem i4 : ∃ i z, Try.prog.info? 4 = some i ∧ i.size = T4.size ∧ i.bytes = T4.bytes ∧ i.zero = some z ∧ z.cells.toList.map V.c = T4.zero ∧ (∀ c ∈ z.cells.toList, c.oneCell' = true) ∧ T4.zero.length = T4.size := ⟨Try.t4, _, by kernel_rfl, by kernel_rfl, by kernel_rfl, rfl, by kernel_rfl, List.all_eq_true.1 (by kernel_rfl), by kernel_rfl⟩
theorem i5 : ∃ i z, Try.prog.info? 5 = some i ∧ i.size = T5.size ∧ i.bytes = T5.bytes ∧ i.zero = some z ∧ z.cells.toList.map V.c = T5.zero ∧ (∀ c ∈ z.cells.toList, c.oneCell' = true) ∧ T5.zero.length = T5.size := ⟨Try.t5, _, by kernel_rfl, by kernel_rfl, by kernel_rfl, rfl, by kernel_rfl, List.all_eq_true.1 (by kernel_rfl), by kernel_rfl⟩
theorem i9 : ∃ i z, Try.prog.info? 9 = some i ∧ i.size = T9.size ∧ i.bytes = T9.bytes ∧ i.zero = some z ∧ z.cells.toList.map V.c = T9.zero ∧ (∀ c ∈ z.cells.toList, c.oneCell' = true) ∧ T9.zero.length = T9.size := ⟨Try.t9, _, by kernel_rfl, by kernel_rfl, by kernel_rfl, rfl, by kernel_rfl, List.all_eq_true.1 (by kernel_rfl), by kernel_rfl⟩
theorem i12 : ∃ i z, Try.prog.info? 12 = some i ∧ i.size = T12.size ∧ i.bytes = T12.bytes ∧ i.zero = some z ∧ z.cells.toList.map V.c = T12.zero ∧ (∀ c ∈ z.cells.toList, c.oneCell' = true) ∧ T12.zero.length = T12.size := ⟨Try.t12, _, by kernel_rfl, by kernel_rfl, by kernel_rfl, rfl, by kernel_rfl, List.all_eq_true.1 (by kernel_rfl), by kernel_rfl⟩
theorem i13 : ∃ i z, Try.prog.info? 13 = some i ∧ i.size = T13.size ∧ i.bytes = T13.bytes ∧ i.zero = some z ∧ z.cells.toList.map V.c = T13.zero ∧ (∀ c ∈ z.cells.toList, c.oneCell' = true) ∧ T13.zero.length = T13.size := ⟨Try.t13, _, by kernel_rfl, by kernel_rfl, by kernel_rfl, rfl, by kernel_rfl, List.all_eq_true.1 (by kernel_rfl), by kernel_rfl⟩
theorem i21 : ∃ i z, Try.prog.info? 21 = some i ∧ i.size = T21.size ∧ i.bytes = T21.bytes ∧ i.zero = some z ∧ z.cells.toList.map V.c = T21.zero ∧ (∀ c ∈ z.cells.toList, c.oneCell' = true) ∧ T21.zero.length = T21.size := ⟨Try.t21, _, by kernel_rfl, by kernel_rfl, by kernel_rfl, rfl, by kernel_rfl, List.all_eq_true.1 (by kernel_rfl), by kernel_rfl⟩
theorem i22 : ∃ i z, Try.prog.info? 22 = some i ∧ i.size = T22.size ∧ i.bytes = T22.bytes ∧ i.zero = some z ∧ z.cells.toList.map V.c = T22.zero ∧ (∀ c ∈ z.cells.toList, c.oneCell' = true) ∧ T22.zero.length = T22.size := ⟨Try.t22, _, by kernel_rfl, by kernel_rfl, by kernel_rfl, rfl, by kernel_rfl, List.all_eq_true.1 (by kernel_rfl), by kernel_rfl⟩
theorem i23 : ∃ i z, Try.prog.info? 23 = some i ∧ i.size = T23.size ∧ i.bytes = T23.bytes ∧ i.zero = some z ∧ z.cells.toList.map V.c = T23.zero ∧ (∀ c ∈ z.cells.toList, c.oneCell' = true) ∧ T23.zero.length = T23.size := ⟨Try.t23, _, by kernel_rfl, by kernel_rfl, by kernel_rfl, rfl, by kernel_rfl, List.all_eq_true.1 (by kernel_rfl), by kernel_rfl⟩
theorem i24 : ∃ i z, Try.prog.info? 24 = some i ∧ i.size = T24.size ∧ i.bytes = T24.bytes ∧ i.zero = some z ∧ z.cells.toList.map V.c = T24.zero ∧ (∀ c ∈ z.cells.toList, c.oneCell' = true) ∧ T24.zero.length = T24.size := ⟨Try.t24, _, by kernel_rfl, by kernel_rfl, by kernel_rfl, rfl, by kernel_rfl, List.all_eq_true.1 (by kernel_rfl), by kernel_rfl⟩
theorem i25 : ∃ i z, Try.prog.info? 25 = some i ∧ i.size = T25.size ∧ i.bytes = T25.bytes ∧ i.zero = some z ∧ z.cells.toList.map V.c = T25.zero ∧ (∀ c ∈ z.cells.toList, c.oneCell' = true) ∧ T25.zero.length = T25.size := ⟨Try.t25, _, by kernel_rfl, by kernel_rfl, by kernel_rfl, rfl, by kernel_rfl, List.all_eq_true.1 (by kernel_rfl), by kernel_rfl⟩
theorem i26 : ∃ i z, Try.prog.info? 26 = some i ∧ i.size = T26.size ∧ i.bytes = T26.bytes ∧ i.zero = some z ∧ z.cells.toList.map V.c = T26.zero ∧ (∀ c ∈ z.cells.toList, c.oneCell' = true) ∧ T26.zero.length = T26.size := ⟨Try.t26, _, by kernel_rfl, by kernel_rfl, by kernel_rfl, rfl, by kernel_rfl, List.all_eq_true.1 (by kernel_rfl), by kernel_rfl⟩
theorem i27 : ∃ i z, Try.prog.info? 27 = some i ∧ i.size = T27.size ∧ i.bytes = T27.bytes ∧ i.zero = some z ∧ z.cells.toList.map V.c = T27.zero ∧ (∀ c ∈ z.cells.toList, c.oneCell' = true) ∧ T27.zero.length = T27.size := ⟨Try.t27, _, by kernel_rfl, by kernel_rfl, by kernel_rfl, rfl, by kernel_rfl, List.all_eq_true.1 (by kernel_rfl), by kernel_rfl⟩
theorem i28 : ∃ i z, Try.prog.info? 28 = some i ∧ i.size = T28.size ∧ i.bytes = T28.bytes ∧ i.zero = some z ∧ z.cells.toList.map V.c = T28.zero ∧ (∀ c ∈ z.cells.toList, c.oneCell' = true) ∧ T28.zero.length = T28.size := ⟨Try.t28, _, by kernel_rfl, by kernel_rfl, by kernel_rfl, rfl, by kernel_rfl, List.all_eq_true.1 (by kernel_rfl), by kernel_rfl⟩
theorem i31 : ∃ i z, Try.prog.info? 31 = some i ∧ i.size = T31.size ∧ i.bytes = T31.bytes ∧ i.zero = some z ∧ z.cells.toList.map V.c = T31.zero ∧ (∀ c ∈ z.cells.toList, c.oneCell' = true) ∧ T31.zero.length = T31.size := ⟨Try.t31, _, by kernel_rfl, by kernel_rfl, by kernel_rfl, rfl, by kernel_rfl, List.all_eq_true.1 (by kernel_rfl), by kernel_rfl⟩
theorem i32 : ∃ i z, Try.prog.info? 32 = some i ∧ i.size = T32.size ∧ i.bytes = T32.bytes ∧ i.zero = some z ∧ z.cells.toList.map V.c = T32.zero ∧ (∀ c ∈ z.cells.toList, c.oneCell' = true) ∧ T32.zero.length = T32.size := ⟨Try.t32, _, by kernel_rfl, by kernel_rfl, by kernel_rfl, rfl, by kernel_rfl, List.all_eq_true.1 (by kernel_rfl), by kernel_rfl⟩
theorem i33 : ∃ i z, Try.prog.info? 33 = some i ∧ i.size = T33.size ∧ i.bytes = T33.bytes ∧ i.zero = some z ∧ z.cells.toList.map V.c = T33.zero ∧ (∀ c ∈ z.cells.toList, c.oneCell' = true) ∧ T33.zero.length = T33.size := ⟨Try.t33, _, by kernel_rfl, by kernel_rfl, by kernel_rfl, rfl, by kernel_rfl, List.all_eq_true.1 (by kernel_rfl), by kernel_rfl⟩
theorem i34 : ∃ i z, Try.prog.info? 34 = some i ∧ i.size = T34.size ∧ i.bytes = T34.bytes ∧ i.zero = some z ∧ z.cells.toList.map V.c = T34.zero ∧ (∀ c ∈ z.cells.toList, c.oneCell' = true) ∧ T34.zero.length = T34.size := ⟨Try.t34, _, by kernel_rfl, by kernel_rfl, by kernel_rfl, rfl, by kernel_rfl, List.all_eq_true.1 (by kernel_rfl), by kernel_rfl⟩
theorem i35 : ∃ i z, Try.prog.info? 35 = some i ∧ i.size = T35.size ∧ i.bytes = T35.bytes ∧ i.zero = some z ∧ z.cells.toList.map V.c = T35.zero ∧ (∀ c ∈ z.cells.toList, c.oneCell' = true) ∧ T35.zero.length = T35.size := ⟨Try.t35, _, by kernel_rfl, by kernel_rfl, by kernel_rfl, rfl, by kernel_rfl, List.all_eq_true.1 (by kernel_rfl), by kernel_rfl⟩
theorem i37 : ∃ i z, Try.prog.info? 37 = some i ∧ i.size = T37.size ∧ i.bytes = T37.bytes ∧ i.zero = some z ∧ z.cells.toList.map V.c = T37.zero ∧ (∀ c ∈ z.cells.toList, c.oneCell' = true) ∧ T37.zero.length = T37.size := ⟨Try.t37, _, by kernel_rfl, by kernel_rfl, by kernel_rfl, rfl, by kernel_rfl, List.all_eq_true.1 (by kernel_rfl), by kernel_rfl⟩
theorem i43 : ∃ i z, Try.prog.info? 43 = some i ∧ i.size = T43.size ∧ i.bytes = T43.bytes ∧ i.zero = some z ∧ z.cells.toList.map V.c = T43.zero ∧ (∀ c ∈ z.cells.toList, c.oneCell' = true) ∧ T43.zero.length = T43.size := ⟨Try.t43, _, by kernel_rfl, by kernel_rfl, by kernel_rfl, rfl, by kernel_rfl, List.all_eq_true.1 (by kernel_rfl), by kernel_rfl⟩
theorem i57 : ∃ i z, Try.prog.info? 57 = some i ∧ i.size = T57.size ∧ i.bytes = T57.bytes ∧ i.zero = some z ∧ z.cells.toList.map V.c = T57.zero ∧ (∀ c ∈ z.cells.toList, c.oneCell' = true) ∧ T57.zero.length = T57.size := ⟨Try.t57, _, by kernel_rfl, by kernel_rfl, by kernel_rfl, rfl, by kernel_rfl, List.all_eq_true.1 (by kernel_rfl), by kernel_rfl⟩
theorem i58 : ∃ i z, Try.prog.info? 58 = some i ∧ i.size = T58.size ∧ i.bytes = T58.bytes ∧ i.zero = some z ∧ z.cells.toList.map V.c = T58.zero ∧ (∀ c ∈ z.cells.toList, c.oneCell' = true) ∧ T58.zero.length = T58.size := ⟨Try.t58, _, by kernel_rfl, by kernel_rfl, by kernel_rfl, rfl, by kernel_rfl, List.all_eq_true.1 (by kernel_rfl), by kernel_rfl⟩
theorem i59 : ∃ i z, Try.prog.info? 59 = some i ∧ i.size = T59.size ∧ i.bytes = T59.bytes ∧ i.zero = some z ∧ z.cells.toList.map V.c = T59.zero ∧ (∀ c ∈ z.cells.toList, c.oneCell' = true) ∧ T59.zero.length = T59.size := ⟨Try.t59, _, by kernel_rfl, by kernel_rfl, by kernel_rfl, rfl, by kernel_rfl, List.all_eq_true.1 (by kernel_rfl), by kernel_rfl⟩
theorem i60 : ∃ i z, Try.prog.info? 60 = some i ∧ i.size = T60.size ∧ i.bytes = T60.bytes ∧ i.zero = some z ∧ z.cells.toList.map V.c = T60.zero ∧ (∀ c ∈ z.cells.toList, c.oneCell' = true) ∧ T60.zero.length = T60.size := ⟨Try.t60, _, by kernel_rfl, by kernel_rfl, by kernel_rfl, rfl, by kernel_rfl, List.all_eq_true.1 (by kernel_rfl), by kernel_rfl⟩
theorem i84 : ∃ i z, Try.prog.info? 84 = some i ∧ i.size = T84.size ∧ i.bytes = T84.bytes ∧ i.zero = some z ∧ z.cells.toList.map V.c = T84.zero ∧ (∀ c ∈ z.cells.toList, c.oneCell' = true) ∧ T84.zero.length = T84.size := ⟨Try.t84, _, by kernel_rfl, by kernel_rfl, by kernel_rfl, rfl, by kernel_rfl, List.all_eq_true.1 (by kernel_rfl), by kernel_rfl⟩
theorem i85 : ∃ i z, Try.prog.info? 85 = some i ∧ i.size = T85.size ∧ i.bytes = T85.bytes ∧ i.zero = some z ∧ z.cells.toList.map V.c = T85.zero ∧ (∀ c ∈ z.cells.toList, c.oneCell' = true) ∧ T85.zero.length = T85.size := ⟨Try.t85, _, by kernel_rfl, by kernel_rfl, by kernel_rfl, rfl, by kernel_rfl, List.all_eq_true.1 (by kernel_rfl), by kernel_rfl⟩
theorem i87 : ∃ i z, Try.prog.info? 87 = some i ∧ i.size = T87.size ∧ i.bytes = T87.bytes ∧ i.zero = some z ∧ z.cells.toList.map V.c = T87.zero ∧ (∀ c ∈ z.cells.toList, c.oneCell' = true) ∧ T87.zero.length = T87.size := ⟨Try.t87, _, by kernel_rfl, by kernel_rfl, by kernel_rfl, rfl, by kernel_rfl, List.all_eq_true.1 (by kernel_rfl), by kernel_rfl⟩
theorem i102 : ∃ i z, Try.prog.info? 102 = some i ∧ i.size = T102.size ∧ i.bytes = T102.bytes ∧ i.zero = some z ∧ z.cells.toList.map V.c = T102.zero ∧ (∀ c ∈ z.cells.toList, c.oneCell' = true) ∧ T102.zero.length = T102.size := ⟨Try.t102, _, by kernel_rfl, by kernel_rfl, by kernel_rfl, rfl, by kernel_rfl, List.all_eq_true.1 (by kernel_rfl), by kernel_rfl⟩
theorem i106 : ∃ i z, Try.prog.info? 106 = some i ∧ i.size = T106.size ∧ i.bytes = T106.bytes ∧ i.zero = some z ∧ z.cells.toList.map V.c = T106.zero ∧ (∀ c ∈ z.cells.toList, c.oneCell' = true) ∧ T106.zero.length = T106.size := ⟨Try.t106, _, by kernel_rfl, by kernel_rfl, by kernel_rfl, rfl, by kernel_rfl, List.all_eq_true.1 (by kernel_rfl), by kernel_rfl⟩
theorem i108 : ∃ i z, Try.prog.info? 108 = some i ∧ i.size = T108.size ∧ i.bytes = T108.bytes ∧ i.zero = some z ∧ z.cells.toList.map V.c = T108.zero ∧ (∀ c ∈ z.cells.toList, c.oneCell' = true) ∧ T108.zero.length = T108.size := ⟨Try.t108, _, by kernel_rfl, by kernel_rfl, by kernel_rfl, rfl, by kernel_rfl, List.all_eq_true.1 (by kernel_rfl), by kernel_rfl⟩
theorem i109 : ∃ i z, Try.prog.info? 109 = some i ∧ i.size = T109.size ∧ i.bytes = T109.bytes ∧ i.zero = some z ∧ z.cells.toList.map V.c = T109.zero ∧ (∀ c ∈ z.cells.toList, c.oneCell' = true) ∧ T109.zero.length = T109.size := ⟨Try.t109, _, by kernel_rfl, by kernel_rfl, by kernel_rfl, rfl, by kernel_rfl, List.all_eq_true.1 (by kernel_rfl), by kernel_rfl⟩
theorem i117 : ∃ i z, Try.prog.info? 117 = some i ∧ i.size = T117.size ∧ i.bytes = T117.bytes ∧ i.zero = some z ∧ z.cells.toList.map V.c = T117.zero ∧ (∀ c ∈ z.cells.toList, c.oneCell' = true) ∧ T117.zero.length = T117.size := ⟨Try.t117, _, by kernel_rfl, by kernel_rfl, by kernel_rfl, rfl, by kernel_rfl, List.all_eq_true.1 (by kernel_rfl), by kernel_rfl⟩
theorem i118 : ∃ i z, Try.prog.info? 118 = some i ∧ i.size = T118.size ∧ i.bytes = T118.bytes ∧ i.zero = some z ∧ z.cells.toList.map V.c = T118.zero ∧ (∀ c ∈ z.cells.toList, c.oneCell' = true) ∧ T118.zero.length = T118.size := ⟨Try.t118, _, by kernel_rfl, by kernel_rfl, by kernel_rfl, rfl, by kernel_rfl, List.all_eq_true.1 (by kernel_rfl), by kernel_rfl⟩
theorem i121 : ∃ i z, Try.prog.info? 121 = some i ∧ i.size = T121.size ∧ i.bytes = T121.bytes ∧ i.zero = some z ∧ z.cells.toList.map V.c = T121.zero ∧ (∀ c ∈ z.cells.toList, c.oneCell' = true) ∧ T121.zero.length = T121.size := ⟨Try.t121, _, by kernel_rfl, by kernel_rfl, by kernel_rfl, rfl, by kernel_rfl, List.all_eq_true.1 (by kernel_rfl), by kernel_rfl⟩
theorem i126 : ∃ i z, Try.prog.info? 126 = some i ∧ i.size = T126.size ∧ i.bytes = T126.bytes ∧ i.zero = some z ∧ z.cells.toList.map V.c = T126.zero ∧ (∀ c ∈ z.cells.toList, c.oneCell' = true) ∧ T126.zero.length = T126.size := ⟨Try.t126, _, by kernel_rfl, by kernel_rfl, by kernel_rfl, rfl, by kernel_rfl, List.all_eq_true.1 (by kernel_rfl), by kernel_rfl⟩
theorem i127 : ∃ i z, Try.prog.info? 127 = some i ∧ i.size = T127.size ∧ i.bytes = T127.bytes ∧ i.zero = some z ∧ z.cells.toList.map V.c = T127.zero ∧ (∀ c ∈ z.cells.toList, c.oneCell' = true) ∧ T127.zero.length = T127.size := ⟨Try.t127, _, by kernel_rfl, by kernel_rfl, by kernel_rfl, rfl, by kernel_rfl, List.all_eq_true.1 (by kernel_rfl), by kernel_rfl⟩
theorem i128 : ∃ i z, Try.prog.info? 128 = some i ∧ i.size = T128.size ∧ i.bytes = T128.bytes ∧ i.zero = some z ∧ z.cells.toList.map V.c = T128.zero ∧ (∀ c ∈ z.cells.toList, c.oneCell' = true) ∧ T128.zero.length = T128.size := ⟨Try.t128, _, by kernel_rfl, by kernel_rfl, by kernel_rfl, rfl, by kernel_rfl, List.all_eq_true.1 (by kernel_rfl), by kernel_rfl⟩
theorem i141 : ∃ i z, Try.prog.info? 141 = some i ∧ i.size = T141.size ∧ i.bytes = T141.bytes ∧ i.zero = some z ∧ z.cells.toList.map V.c = T141.zero ∧ (∀ c ∈ z.cells.toList, c.oneCell' = true) ∧ T141.zero.length = T141.size := ⟨Try.t141, _, by kernel_rfl, by kernel_rfl, by kernel_rfl, rfl, by kernel_rfl, List.all_eq_true.1 (by kernel_rfl), by kernel_rfl⟩
theorem i154 : ∃ i z, Try.prog.info? 154 = some i ∧ i.size = T154.size ∧ i.bytes = T154.bytes ∧ i.zero = some z ∧ z.cells.toList.map V.c = T154.zero ∧ (∀ c ∈ z.cells.toList, c.oneCell' = true) ∧ T154.zero.length = T154.size := ⟨Try.t154, _, by kernel_rfl, by kernel_rfl, by kernel_rfl, rfl, by kernel_rfl, List.all_eq_true.1 (by kernel_rfl), by kernel_rfl⟩
theorem i155 : ∃ i z, Try.prog.info? 155 = some i ∧ i.size = T155.size ∧ i.bytes = T155.bytes ∧ i.zero = some z ∧ z.cells.toList.map V.c = T155.zero ∧ (∀ c ∈ z.cells.toList, c.oneCell' = true) ∧ T155.zero.length = T155.size := ⟨Try.t155, _, by kernel_rfl, by kernel_rfl, by kernel_rfl, rfl, by kernel_rfl, List.all_eq_true.1 (by kernel_rfl), by kernel_rfl⟩
theorem envOK : EnvOK Try.prog E := by
  refine ⟨fun {t d} h => ?_, fun {t d} h => ?_, fun {t d} h => ?_, by kernel_rfl⟩
  · unfold E at h; split at h <;> first | (cases h; kernel_rfl) | cases h
  · unfold E at h; split at h <;> first | cases h | skip
    · exact i2
    · exact i3
    · exact i4
    · exact i5
    · exact i9
    · exact i12
    · exact i13
    · exact i21
    · exact i22
    · exact i23
    · exact i24
    · exact i25
    · exact i26
    · exact i27
    · exact i28
    · exact i31
    · exact i32
    · exact i33
    · exact i34
    · exact i35
    · exact i37
    · exact i43
    · exact i57
    · exact i58
    · exact i59
    · exact i60
    · exact i84
    · exact i85
    · exact i87
    · exact i102
    · exact i106
    · exact i108
    · exact i109
    · exact i117
    · exact i118
    · exact i121
    · exact i126
    · exact i127
    · exact i128
    · exact i141
    · exact i154
    · exact i155
  · unfold E at h; split at h <;> first | (cases h; kernel_rfl) | cases h
theorem E2 : E 2 = some ⟨TypeDesc.int IntKind.i64, 1, 8, (.c (.int .i64 0) :: []), false⟩ := rfl
theorem E3 : E 3 = some ⟨TypeDesc.int IntKind.i64, 1, 8, (.c (.int .i64 0) :: []), false⟩ := rfl
theorem E4 : E 4 = some ⟨TypeDesc.bool, 1, 1, (.c (.bool false) :: []), false⟩ := rfl
theorem E5 : E 5 = some ⟨TypeDesc.int IntKind.u8, 1, 1, (.c (.int .u8 0) :: []), false⟩ := rfl
theorem E9 : E 9 = some ⟨TypeDesc.string, 1, 16, (.c (.string ⟨#[]⟩) :: []), false⟩ := rfl
theorem E12 : E 12 = some ⟨TypeDesc.int IntKind.u64, 1, 8, (.c (.int .u64 0) :: []), false⟩ := rfl
theorem E13 : E 13 = some ⟨TypeDesc.struct #[{ name := "msg", type := 9, offset := 0, embedded := false, tag := "", pkgPath := "runtime", byteOffset := 0 }, { name := "addr", type := 12, offset := 1, embedded := false, tag := "", pkgPath := "runtime", byteOffset := 16 }], 2, 24, (.c (.string ⟨#[]⟩) :: (.c (.int .u64 0) :: [])), false⟩ := rfl
theorem E21 : E 21 = some ⟨TypeDesc.int IntKind.i32, 1, 4, (.c (.int .i32 0) :: []), false⟩ := rfl
theorem E22 : E 22 = some ⟨TypeDesc.array 256 5, 256, 256, (bs (List.replicate 256 0)), false⟩ := by simp only [← zeros_bs, ← zeros_blv]; rfl
theorem E23 : E 23 = some ⟨TypeDesc.array 4 5, 4, 4, (bs (List.replicate 4 0)), false⟩ := by simp only [← zeros_bs, ← zeros_blv]; rfl
theorem E24 : E 24 = some ⟨TypeDesc.array 4 23, 16, 16, (bs (List.replicate 16 0)), false⟩ := by simp only [← zeros_bs, ← zeros_blv]; rfl
theorem E25 : E 25 = some ⟨TypeDesc.array 16 5, 16, 16, (bs (List.replicate 16 0)), false⟩ := by simp only [← zeros_bs, ← zeros_blv]; rfl
theorem E26 : E 26 = some ⟨TypeDesc.struct #[{ name := "Field", type := 2, offset := 0, embedded := false, tag := "", pkgPath := "", byteOffset := 0 }, { name := "Box", type := 22, offset := 1, embedded := false, tag := "", pkgPath := "", byteOffset := 8 }, { name := "Mix", type := 24, offset := 257, embedded := false, tag := "", pkgPath := "", byteOffset := 264 }, { name := "Places", type := 25, offset := 273, embedded := false, tag := "", pkgPath := "", byteOffset := 280 }, { name := "Rounds", type := 2, offset := 289, embedded := false, tag := "", pkgPath := "", byteOffset := 296 }], 290, 304, (.c (.int .i64 0) :: (bs (List.replicate 256 0) ++ (bs (List.replicate 16 0) ++ (bs (List.replicate 16 0) ++ (.c (.int .i64 0) :: []))))), false⟩ := by simp only [← zeros_bs, ← zeros_blv]; rfl
theorem E27 : E 27 = some ⟨TypeDesc.struct #[{ name := "Field", type := 2, offset := 0, embedded := false, tag := "", pkgPath := "", byteOffset := 0 }, { name := "Box", type := 22, offset := 1, embedded := false, tag := "", pkgPath := "", byteOffset := 8 }, { name := "Mix", type := 24, offset := 257, embedded := false, tag := "", pkgPath := "", byteOffset := 264 }, { name := "Places", type := 25, offset := 273, embedded := false, tag := "", pkgPath := "", byteOffset := 280 }, { name := "Rounds", type := 2, offset := 289, embedded := false, tag := "", pkgPath := "", byteOffset := 296 }], 290, 304, (.c (.int .i64 0) :: (bs (List.replicate 256 0) ++ (bs (List.replicate 16 0) ++ (bs (List.replicate 16 0) ++ (.c (.int .i64 0) :: []))))), false⟩ := by simp only [← zeros_bs, ← zeros_blv]; rfl
theorem E28 : E 28 = some ⟨TypeDesc.slice 5, 1, 24, (.c (.slice none 0 0) :: []), false⟩ := rfl
theorem E31 : E 31 = some ⟨TypeDesc.array 256 5, 256, 256, (bs (List.replicate 256 0)), false⟩ := by simp only [← zeros_bs, ← zeros_blv]; rfl
theorem E32 : E 32 = some ⟨TypeDesc.array 4 23, 16, 16, (bs (List.replicate 16 0)), false⟩ := by simp only [← zeros_bs, ← zeros_blv]; rfl
theorem E33 : E 33 = some ⟨TypeDesc.array 16 5, 16, 16, (bs (List.replicate 16 0)), false⟩ := by simp only [← zeros_bs, ← zeros_blv]; rfl
theorem E34 : E 34 = some ⟨TypeDesc.struct #[{ name := "Field", type := 2, offset := 0, embedded := false, tag := "", pkgPath := "", byteOffset := 0 }, { name := "Box", type := 31, offset := 1, embedded := false, tag := "", pkgPath := "", byteOffset := 8 }, { name := "Mix", type := 32, offset := 257, embedded := false, tag := "", pkgPath := "", byteOffset := 264 }, { name := "Places", type := 33, offset := 273, embedded := false, tag := "", pkgPath := "", byteOffset := 280 }, { name := "Rounds", type := 2, offset := 289, embedded := false, tag := "", pkgPath := "", byteOffset := 296 }], 290, 304, (.c (.int .i64 0) :: (bs (List.replicate 256 0) ++ (bs (List.replicate 16 0) ++ (bs (List.replicate 16 0) ++ (.c (.int .i64 0) :: []))))), false⟩ := by simp only [← zeros_bs, ← zeros_blv]; rfl
theorem E35 : E 35 = some ⟨TypeDesc.struct #[{ name := "Field", type := 2, offset := 0, embedded := false, tag := "", pkgPath := "", byteOffset := 0 }, { name := "Box", type := 31, offset := 1, embedded := false, tag := "", pkgPath := "", byteOffset := 8 }, { name := "Mix", type := 32, offset := 257, embedded := false, tag := "", pkgPath := "", byteOffset := 264 }, { name := "Places", type := 33, offset := 273, embedded := false, tag := "", pkgPath := "", byteOffset := 280 }, { name := "Rounds", type := 2, offset := 289, embedded := false, tag := "", pkgPath := "", byteOffset := 296 }], 290, 304, (.c (.int .i64 0) :: (bs (List.replicate 256 0) ++ (bs (List.replicate 16 0) ++ (bs (List.replicate 16 0) ++ (.c (.int .i64 0) :: []))))), false⟩ := by simp only [← zeros_bs, ← zeros_blv]; rfl
theorem E37 : E 37 = some ⟨TypeDesc.array 16 5, 16, 16, (bs (List.replicate 16 0)), false⟩ := by simp only [← zeros_bs, ← zeros_blv]; rfl
theorem E43 : E 43 = some ⟨TypeDesc.slice 2, 1, 24, (.c (.slice none 0 0) :: []), false⟩ := rfl
theorem E57 : E 57 = some ⟨TypeDesc.pointer 109, 1, 8, (.c (.pointer none) :: []), false⟩ := rfl
theorem E58 : E 58 = some ⟨TypeDesc.slice 37, 1, 24, (.c (.slice none 0 0) :: []), false⟩ := rfl
theorem E59 : E 59 = some ⟨TypeDesc.struct #[{ name := "engine", type := 57, offset := 0, embedded := false, tag := "", pkgPath := "loop.example/g01182/impl", byteOffset := 0 }, { name := "keys", type := 58, offset := 1, embedded := false, tag := "", pkgPath := "loop.example/g01182/impl", byteOffset := 8 }], 2, 32, (.c (.pointer none) :: (.c (.slice none 0 0) :: [])), false⟩ := rfl
theorem E60 : E 60 = some ⟨TypeDesc.struct #[{ name := "engine", type := 57, offset := 0, embedded := false, tag := "", pkgPath := "loop.example/g01182/impl", byteOffset := 0 }, { name := "keys", type := 58, offset := 1, embedded := false, tag := "", pkgPath := "loop.example/g01182/impl", byteOffset := 8 }], 2, 32, (.c (.pointer none) :: (.c (.slice none 0 0) :: [])), false⟩ := rfl
theorem E84 : E 84 = some ⟨TypeDesc.int IntKind.u64, 1, 8, (.c (.int .u64 0) :: []), false⟩ := rfl
theorem E85 : E 85 = some ⟨TypeDesc.int IntKind.u64, 1, 8, (.c (.int .u64 0) :: []), false⟩ := rfl
theorem E87 : E 87 = some ⟨TypeDesc.slice 28, 1, 24, (.c (.slice none 0 0) :: []), false⟩ := rfl
theorem E102 : E 102 = some ⟨TypeDesc.int IntKind.i64, 1, 8, (.c (.int .i64 0) :: []), false⟩ := rfl
theorem E106 : E 106 = some ⟨TypeDesc.pointer 128, 1, 8, (.c (.pointer none) :: []), false⟩ := rfl
theorem E108 : E 108 = some ⟨TypeDesc.struct #[{ name := "box", type := 31, offset := 0, embedded := false, tag := "", pkgPath := "loop.example/g01182/impl", byteOffset := 0 }, { name := "backBox", type := 31, offset := 256, embedded := false, tag := "", pkgPath := "loop.example/g01182/impl", byteOffset := 256 }, { name := "places", type := 33, offset := 512, embedded := false, tag := "", pkgPath := "loop.example/g01182/impl", byteOffset := 512 }, { name := "backPlaces", type := 33, offset := 528, embedded := false, tag := "", pkgPath := "loop.example/g01182/impl", byteOffset := 528 }, { name := "mixer", type := 106, offset := 544, embedded := false, tag := "", pkgPath := "loop.example/g01182/impl", byteOffset := 544 }, { name := "backMixer", type := 106, offset := 545, embedded := false, tag := "", pkgPath := "loop.example/g01182/impl", byteOffset := 552 }, { name := "rounds", type := 2, offset := 546, embedded := false, tag := "", pkgPath := "loop.example/g01182/impl", byteOffset := 560 }], 547, 568, (bs (List.replicate 256 0) ++ (bs (List.replicate 256 0) ++ (bs (List.replicate 16 0) ++ (bs (List.replicate 16 0) ++ (.c (.pointer none) :: (.c (.pointer none) :: (.c (.int .i64 0) :: []))))))), false⟩ := by simp only [← zeros_bs, ← zeros_blv]; rfl
theorem E109 : E 109 = some ⟨TypeDesc.struct #[{ name := "box", type := 31, offset := 0, embedded := false, tag := "", pkgPath := "loop.example/g01182/impl", byteOffset := 0 }, { name := "backBox", type := 31, offset := 256, embedded := false, tag := "", pkgPath := "loop.example/g01182/impl", byteOffset := 256 }, { name := "places", type := 33, offset := 512, embedded := false, tag := "", pkgPath := "loop.example/g01182/impl", byteOffset := 512 }, { name := "backPlaces", type := 33, offset := 528, embedded := false, tag := "", pkgPath := "loop.example/g01182/impl", byteOffset := 528 }, { name := "mixer", type := 106, offset := 544, embedded := false, tag := "", pkgPath := "loop.example/g01182/impl", byteOffset := 544 }, { name := "backMixer", type := 106, offset := 545, embedded := false, tag := "", pkgPath := "loop.example/g01182/impl", byteOffset := 552 }, { name := "rounds", type := 2, offset := 546, embedded := false, tag := "", pkgPath := "loop.example/g01182/impl", byteOffset := 560 }], 547, 568, (bs (List.replicate 256 0) ++ (bs (List.replicate 256 0) ++ (bs (List.replicate 16 0) ++ (bs (List.replicate 16 0) ++ (.c (.pointer none) :: (.c (.pointer none) :: (.c (.int .i64 0) :: []))))))), false⟩ := by simp only [← zeros_bs, ← zeros_blv]; rfl
theorem E117 : E 117 = some ⟨TypeDesc.array 256 4, 256, 256, (blv (List.replicate 256 false)), false⟩ := by simp only [← zeros_bs, ← zeros_blv]; rfl
theorem E118 : E 118 = some ⟨TypeDesc.array 16 4, 16, 16, (blv (List.replicate 16 false)), false⟩ := by simp only [← zeros_bs, ← zeros_blv]; rfl
theorem E121 : E 121 = some ⟨TypeDesc.slice 4, 1, 24, (.c (.slice none 0 0) :: []), false⟩ := rfl
theorem E126 : E 126 = some ⟨TypeDesc.array 4 22, 1024, 1024, (bs (List.replicate 1024 0)), false⟩ := by simp only [← zeros_bs, ← zeros_blv]; rfl
theorem E127 : E 127 = some ⟨TypeDesc.array 4 126, 4096, 4096, (bs (List.replicate 4096 0)), false⟩ := by simp only [← zeros_bs, ← zeros_blv]; rfl
theorem E128 : E 128 = some ⟨TypeDesc.array 4 126, 4096, 4096, (bs (List.replicate 4096 0)), false⟩ := by simp only [← zeros_bs, ← zeros_blv]; rfl
theorem E141 : E 141 = some ⟨TypeDesc.int IntKind.u32, 1, 4, (.c (.int .u32 0) :: []), false⟩ := rfl
theorem E154 : E 154 = some ⟨TypeDesc.array 32 5, 32, 32, (bs (List.replicate 32 0)), false⟩ := by simp only [← zeros_bs, ← zeros_blv]; rfl
theorem E155 : E 155 = some ⟨TypeDesc.array 32 5, 32, 32, (bs (List.replicate 32 0)), false⟩ := by simp only [← zeros_bs, ← zeros_blv]; rfl
noncomputable def XX (ord : Nat → Tr) (flt : Nat → Flt) (mu : List FuncId) (m : Nat) : Cx := ⟨E, Try.prog, ord, flt, mu, m⟩
/-- The type facts, bundled. -/
theorem TT : type_of% (
  And.intro E2 <|
  And.intro E3 <|
  And.intro E4 <|
  And.intro E5 <|
  And.intro E9 <|
  And.intro E12 <|
  And.intro E13 <|
  And.intro E21 <|
  And.intro E22 <|
  And.intro E23 <|
  And.intro E24 <|
  And.intro E25 <|
  And.intro E26 <|
  And.intro E27 <|
  And.intro E28 <|
  And.intro E31 <|
  And.intro E32 <|
  And.intro E33 <|
  And.intro E34 <|
  And.intro E35 <|
  And.intro E37 <|
  And.intro E43 <|
  And.intro E57 <|
  And.intro E58 <|
  And.intro E59 <|
  And.intro E60 <|
  And.intro E84 <|
  And.intro E85 <|
  And.intro E87 <|
  And.intro E102 <|
  And.intro E106 <|
  And.intro E108 <|
  And.intro E109 <|
  And.intro E117 <|
  And.intro E118 <|
  And.intro E121 <|
  And.intro E126 <|
  And.intro E127 <|
  And.intro E128 <|
  And.intro E141 <|
  And.intro E154 <|
  E155) :=
  And.intro E2 <|
  And.intro E3 <|
  And.intro E4 <|
  And.intro E5 <|
  And.intro E9 <|
  And.intro E12 <|
  And.intro E13 <|
  And.intro E21 <|
  And.intro E22 <|
  And.intro E23 <|
  And.intro E24 <|
  And.intro E25 <|
  And.intro E26 <|
  And.intro E27 <|
  And.intro E28 <|
  And.intro E31 <|
  And.intro E32 <|
  And.intro E33 <|
  And.intro E34 <|
  And.intro E35 <|
  And.intro E37 <|
  And.intro E43 <|
  And.intro E57 <|
  And.intro E58 <|
  And.intro E59 <|
  And.intro E60 <|
  And.intro E84 <|
  And.intro E85 <|
  And.intro E87 <|
  And.intro E102 <|
  And.intro E106 <|
  And.intro E108 <|
  And.intro E109 <|
  And.intro E117 <|
  And.intro E118 <|
  And.intro E121 <|
  And.intro E126 <|
  And.intro E127 <|
  And.intro E128 <|
  And.intro E141 <|
  And.intro E154 <|
  E155
end Go.Proofs.Ytpapocmoielldaa

import Derived.Test.YtgdkpnchkalggaaVcgQ
import Derived.Test.YtgdkpnchkalggaaChecked
/- The types of this seat as my verification conditions see them: underlying type, size, bytes, zero cells; each checked against the program's own table. -/
set_option linter.unusedSimpArgs false
set_option linter.unusedVariables false
namespace Go.Proofs.Ytgdkpnchkalggaa
open Go Go.Vc
def T2 : TD := ⟨TypeDesc.int IntKind.i64, 1, 8, (.c (.int .i64 0) :: []), false⟩
def T3 : TD := ⟨TypeDesc.int IntKind.i64, 1, 8, (.c (.int .i64 0) :: []), false⟩
def T4 : TD := ⟨TypeDesc.bool, 1, 1, (.c (.bool false) :: []), false⟩
def T5 : TD := ⟨TypeDesc.int IntKind.u8, 1, 1, (.c (.int .u8 0) :: []), false⟩
def T9 : TD := ⟨TypeDesc.string, 1, 16, (.c (.string ⟨#[]⟩) :: []), false⟩
def T12 : TD := ⟨TypeDesc.int IntKind.u64, 1, 8, (.c (.int .u64 0) :: []), false⟩
def T13 : TD := ⟨TypeDesc.struct #[{ name := "msg", type := 9, offset := 0, embedded := false, tag := "", pkgPath := "runtime", byteOffset := 0 }, { name := "addr", type := 12, offset := 1, embedded := false, tag := "", pkgPath := "runtime", byteOffset := 16 }], 2, 24, (.c (.string ⟨#[]⟩) :: (.c (.int .u64 0) :: [])), false⟩
def T21 : TD := ⟨TypeDesc.int IntKind.i32, 1, 4, (.c (.int .i32 0) :: []), false⟩
def T22 : TD := ⟨TypeDesc.array 32 5, 32, 32, (List.replicate 32 (.c (.int .u8 0))), false⟩
def T23 : TD := ⟨TypeDesc.slice 22, 1, 24, (.c (.slice none 0 0) :: []), false⟩
def T26 : TD := ⟨TypeDesc.array 32 5, 32, 32, (List.replicate 32 (.c (.int .u8 0))), false⟩
def T28 : TD := ⟨TypeDesc.slice 26, 1, 24, (.c (.slice none 0 0) :: []), false⟩
def T38 : TD := ⟨TypeDesc.slice 60, 1, 24, (.c (.slice none 0 0) :: []), false⟩
def T39 : TD := ⟨TypeDesc.slice 2, 1, 24, (.c (.slice none 0 0) :: []), false⟩
def T40 : TD := ⟨TypeDesc.struct #[{ name := "Keys", type := 23, offset := 0, embedded := false, tag := "", pkgPath := "", byteOffset := 0 }, { name := "Data", type := 38, offset := 1, embedded := false, tag := "", pkgPath := "", byteOffset := 24 }, { name := "Counts", type := 39, offset := 2, embedded := false, tag := "", pkgPath := "", byteOffset := 48 }], 3, 72, (.c (.slice none 0 0) :: (.c (.slice none 0 0) :: (.c (.slice none 0 0) :: []))), false⟩
def T41 : TD := ⟨TypeDesc.struct #[{ name := "Keys", type := 23, offset := 0, embedded := false, tag := "", pkgPath := "", byteOffset := 0 }, { name := "Data", type := 38, offset := 1, embedded := false, tag := "", pkgPath := "", byteOffset := 24 }, { name := "Counts", type := 39, offset := 2, embedded := false, tag := "", pkgPath := "", byteOffset := 48 }], 3, 72, (.c (.slice none 0 0) :: (.c (.slice none 0 0) :: (.c (.slice none 0 0) :: []))), false⟩
def T44 : TD := ⟨TypeDesc.struct #[{ name := "Keys", type := 28, offset := 0, embedded := false, tag := "", pkgPath := "", byteOffset := 0 }, { name := "Data", type := 38, offset := 1, embedded := false, tag := "", pkgPath := "", byteOffset := 24 }, { name := "Counts", type := 39, offset := 2, embedded := false, tag := "", pkgPath := "", byteOffset := 48 }], 3, 72, (.c (.slice none 0 0) :: (.c (.slice none 0 0) :: (.c (.slice none 0 0) :: []))), false⟩
def T45 : TD := ⟨TypeDesc.struct #[{ name := "Keys", type := 28, offset := 0, embedded := false, tag := "", pkgPath := "", byteOffset := 0 }, { name := "Data", type := 38, offset := 1, embedded := false, tag := "", pkgPath := "", byteOffset := 24 }, { name := "Counts", type := 39, offset := 2, embedded := false, tag := "", pkgPath := "", byteOffset := 48 }], 3, 72, (.c (.slice none 0 0) :: (.c (.slice none 0 0) :: (.c (.slice none 0 0) :: []))), false⟩
def T49 : TD := ⟨TypeDesc.slice 23, 1, 24, (.c (.slice none 0 0) :: []), false⟩
def T50 : TD := ⟨TypeDesc.struct #[{ name := "Place", type := 2, offset := 0, embedded := false, tag := "", pkgPath := "", byteOffset := 0 }, { name := "Neighbours", type := 23, offset := 1, embedded := false, tag := "", pkgPath := "", byteOffset := 8 }, { name := "Proofs", type := 49, offset := 2, embedded := false, tag := "", pkgPath := "", byteOffset := 32 }], 3, 56, (.c (.int .i64 0) :: (.c (.slice none 0 0) :: (.c (.slice none 0 0) :: []))), false⟩
def T51 : TD := ⟨TypeDesc.struct #[{ name := "Place", type := 2, offset := 0, embedded := false, tag := "", pkgPath := "", byteOffset := 0 }, { name := "Neighbours", type := 23, offset := 1, embedded := false, tag := "", pkgPath := "", byteOffset := 8 }, { name := "Proofs", type := 49, offset := 2, embedded := false, tag := "", pkgPath := "", byteOffset := 32 }], 3, 56, (.c (.int .i64 0) :: (.c (.slice none 0 0) :: (.c (.slice none 0 0) :: []))), false⟩
def T54 : TD := ⟨TypeDesc.slice 28, 1, 24, (.c (.slice none 0 0) :: []), false⟩
def T55 : TD := ⟨TypeDesc.struct #[{ name := "Place", type := 2, offset := 0, embedded := false, tag := "", pkgPath := "", byteOffset := 0 }, { name := "Neighbours", type := 28, offset := 1, embedded := false, tag := "", pkgPath := "", byteOffset := 8 }, { name := "Proofs", type := 54, offset := 2, embedded := false, tag := "", pkgPath := "", byteOffset := 32 }], 3, 56, (.c (.int .i64 0) :: (.c (.slice none 0 0) :: (.c (.slice none 0 0) :: []))), false⟩
def T56 : TD := ⟨TypeDesc.struct #[{ name := "Place", type := 2, offset := 0, embedded := false, tag := "", pkgPath := "", byteOffset := 0 }, { name := "Neighbours", type := 28, offset := 1, embedded := false, tag := "", pkgPath := "", byteOffset := 8 }, { name := "Proofs", type := 54, offset := 2, embedded := false, tag := "", pkgPath := "", byteOffset := 32 }], 3, 56, (.c (.int .i64 0) :: (.c (.slice none 0 0) :: (.c (.slice none 0 0) :: []))), false⟩
def T60 : TD := ⟨TypeDesc.slice 5, 1, 24, (.c (.slice none 0 0) :: []), false⟩
def T69 : TD := ⟨TypeDesc.int IntKind.u64, 1, 8, (.c (.int .u64 0) :: []), false⟩
def T87 : TD := ⟨TypeDesc.pointer 170, 1, 8, (.c (.pointer none) :: []), false⟩
def T88 : TD := ⟨TypeDesc.struct #[{ name := "engine", type := 87, offset := 0, embedded := false, tag := "", pkgPath := "loop.example/g01182/impl", byteOffset := 0 }], 1, 8, (.c (.pointer none) :: []), false⟩
def T89 : TD := ⟨TypeDesc.struct #[{ name := "engine", type := 87, offset := 0, embedded := false, tag := "", pkgPath := "loop.example/g01182/impl", byteOffset := 0 }], 1, 8, (.c (.pointer none) :: []), false⟩
def T109 : TD := ⟨TypeDesc.array 2 2, 2, 16, (.c (.int .i64 0) :: .c (.int .i64 0) :: []), false⟩
def T117 : TD := ⟨TypeDesc.struct #[{ name := "b", type := 60, offset := 0, embedded := false, tag := "", pkgPath := "loop.example/g01182/laws", byteOffset := 0 }, { name := "i", type := 3, offset := 1, embedded := false, tag := "", pkgPath := "loop.example/g01182/laws", byteOffset := 24 }, { name := "h", type := 69, offset := 2, embedded := false, tag := "", pkgPath := "loop.example/g01182/laws", byteOffset := 32 }], 3, 40, (.c (.slice none 0 0) :: (.c (.int .i64 0) :: (.c (.int .u64 0) :: []))), false⟩
def T118 : TD := ⟨TypeDesc.struct #[{ name := "b", type := 60, offset := 0, embedded := false, tag := "", pkgPath := "loop.example/g01182/laws", byteOffset := 0 }, { name := "i", type := 3, offset := 1, embedded := false, tag := "", pkgPath := "loop.example/g01182/laws", byteOffset := 24 }, { name := "h", type := 69, offset := 2, embedded := false, tag := "", pkgPath := "loop.example/g01182/laws", byteOffset := 32 }], 3, 40, (.c (.slice none 0 0) :: (.c (.int .i64 0) :: (.c (.int .u64 0) :: []))), false⟩
def T119 : TD := ⟨TypeDesc.int IntKind.u64, 1, 8, (.c (.int .u64 0) :: []), false⟩
def T125 : TD := ⟨TypeDesc.array 2 3, 2, 16, (.c (.int .i64 0) :: .c (.int .i64 0) :: []), false⟩
def T135 : TD := ⟨TypeDesc.array 256 5, 256, 256, (List.replicate 256 (.c (.int .u8 0))), false⟩
def T136 : TD := ⟨TypeDesc.array 256 5, 256, 256, (List.replicate 256 (.c (.int .u8 0))), false⟩
def T137 : TD := ⟨TypeDesc.array 4 5, 4, 4, (.c (.int .u8 0) :: .c (.int .u8 0) :: .c (.int .u8 0) :: .c (.int .u8 0) :: []), false⟩
def T138 : TD := ⟨TypeDesc.array 4 137, 16, 16, (List.replicate 16 (.c (.int .u8 0))), false⟩
def T139 : TD := ⟨TypeDesc.array 4 137, 16, 16, (List.replicate 16 (.c (.int .u8 0))), false⟩
def T140 : TD := ⟨TypeDesc.array 16 5, 16, 16, (List.replicate 16 (.c (.int .u8 0))), false⟩
def T141 : TD := ⟨TypeDesc.array 16 5, 16, 16, (List.replicate 16 (.c (.int .u8 0))), false⟩
def T142 : TD := ⟨TypeDesc.struct #[{ name := "Field", type := 2, offset := 0, embedded := false, tag := "", pkgPath := "", byteOffset := 0 }, { name := "Box", type := 136, offset := 1, embedded := false, tag := "", pkgPath := "", byteOffset := 8 }, { name := "Mix", type := 139, offset := 257, embedded := false, tag := "", pkgPath := "", byteOffset := 264 }, { name := "Places", type := 141, offset := 273, embedded := false, tag := "", pkgPath := "", byteOffset := 280 }, { name := "Rounds", type := 2, offset := 289, embedded := false, tag := "", pkgPath := "", byteOffset := 296 }], 290, 304, (.c (.int .i64 0) :: (List.replicate 256 (.c (.int .u8 0)) ++ (List.replicate 16 (.c (.int .u8 0)) ++ (List.replicate 16 (.c (.int .u8 0)) ++ (.c (.int .i64 0) :: []))))), false⟩
def T143 : TD := ⟨TypeDesc.struct #[{ name := "Field", type := 2, offset := 0, embedded := false, tag := "", pkgPath := "", byteOffset := 0 }, { name := "Box", type := 136, offset := 1, embedded := false, tag := "", pkgPath := "", byteOffset := 8 }, { name := "Mix", type := 139, offset := 257, embedded := false, tag := "", pkgPath := "", byteOffset := 264 }, { name := "Places", type := 141, offset := 273, embedded := false, tag := "", pkgPath := "", byteOffset := 280 }, { name := "Rounds", type := 2, offset := 289, embedded := false, tag := "", pkgPath := "", byteOffset := 296 }], 290, 304, (.c (.int .i64 0) :: (List.replicate 256 (.c (.int .u8 0)) ++ (List.replicate 16 (.c (.int .u8 0)) ++ (List.replicate 16 (.c (.int .u8 0)) ++ (.c (.int .i64 0) :: []))))), false⟩
def T146 : TD := ⟨TypeDesc.struct #[{ name := "code", type := 60, offset := 0, embedded := false, tag := "", pkgPath := "loop.example/g01182/spec", byteOffset := 0 }, { name := "at", type := 3, offset := 1, embedded := false, tag := "", pkgPath := "loop.example/g01182/spec", byteOffset := 24 }, { name := "hash", type := 69, offset := 2, embedded := false, tag := "", pkgPath := "loop.example/g01182/spec", byteOffset := 32 }], 3, 40, (.c (.slice none 0 0) :: (.c (.int .i64 0) :: (.c (.int .u64 0) :: []))), false⟩
def T147 : TD := ⟨TypeDesc.struct #[{ name := "code", type := 60, offset := 0, embedded := false, tag := "", pkgPath := "loop.example/g01182/spec", byteOffset := 0 }, { name := "at", type := 3, offset := 1, embedded := false, tag := "", pkgPath := "loop.example/g01182/spec", byteOffset := 24 }, { name := "hash", type := 69, offset := 2, embedded := false, tag := "", pkgPath := "loop.example/g01182/spec", byteOffset := 32 }], 3, 40, (.c (.slice none 0 0) :: (.c (.int .i64 0) :: (.c (.int .u64 0) :: []))), false⟩
def T152 : TD := ⟨TypeDesc.slice 155, 1, 24, (.c (.slice none 0 0) :: []), false⟩
def T155 : TD := ⟨TypeDesc.array 16 5, 16, 16, (List.replicate 16 (.c (.int .u8 0))), false⟩
def T163 : TD := ⟨TypeDesc.int IntKind.i64, 1, 8, (.c (.int .i64 0) :: []), false⟩
def T167 : TD := ⟨TypeDesc.pointer 186, 1, 8, (.c (.pointer none) :: []), false⟩
def T169 : TD := ⟨TypeDesc.struct #[{ name := "box", type := 136, offset := 0, embedded := false, tag := "", pkgPath := "loop.example/g01182/impl", byteOffset := 0 }, { name := "backBox", type := 136, offset := 256, embedded := false, tag := "", pkgPath := "loop.example/g01182/impl", byteOffset := 256 }, { name := "places", type := 141, offset := 512, embedded := false, tag := "", pkgPath := "loop.example/g01182/impl", byteOffset := 512 }, { name := "backPlaces", type := 141, offset := 528, embedded := false, tag := "", pkgPath := "loop.example/g01182/impl", byteOffset := 528 }, { name := "mixer", type := 167, offset := 544, embedded := false, tag := "", pkgPath := "loop.example/g01182/impl", byteOffset := 544 }, { name := "backMixer", type := 167, offset := 545, embedded := false, tag := "", pkgPath := "loop.example/g01182/impl", byteOffset := 552 }, { name := "rounds", type := 2, offset := 546, embedded := false, tag := "", pkgPath := "loop.example/g01182/impl", byteOffset := 560 }], 547, 568, (List.replicate 256 (.c (.int .u8 0)) ++ (List.replicate 256 (.c (.int .u8 0)) ++ (List.replicate 16 (.c (.int .u8 0)) ++ (List.replicate 16 (.c (.int .u8 0)) ++ (.c (.pointer none) :: (.c (.pointer none) :: (.c (.int .i64 0) :: []))))))), false⟩
def T170 : TD := ⟨TypeDesc.struct #[{ name := "box", type := 136, offset := 0, embedded := false, tag := "", pkgPath := "loop.example/g01182/impl", byteOffset := 0 }, { name := "backBox", type := 136, offset := 256, embedded := false, tag := "", pkgPath := "loop.example/g01182/impl", byteOffset := 256 }, { name := "places", type := 141, offset := 512, embedded := false, tag := "", pkgPath := "loop.example/g01182/impl", byteOffset := 512 }, { name := "backPlaces", type := 141, offset := 528, embedded := false, tag := "", pkgPath := "loop.example/g01182/impl", byteOffset := 528 }, { name := "mixer", type := 167, offset := 544, embedded := false, tag := "", pkgPath := "loop.example/g01182/impl", byteOffset := 544 }, { name := "backMixer", type := 167, offset := 545, embedded := false, tag := "", pkgPath := "loop.example/g01182/impl", byteOffset := 552 }, { name := "rounds", type := 2, offset := 546, embedded := false, tag := "", pkgPath := "loop.example/g01182/impl", byteOffset := 560 }], 547, 568, (List.replicate 256 (.c (.int .u8 0)) ++ (List.replicate 256 (.c (.int .u8 0)) ++ (List.replicate 16 (.c (.int .u8 0)) ++ (List.replicate 16 (.c (.int .u8 0)) ++ (.c (.pointer none) :: (.c (.pointer none) :: (.c (.int .i64 0) :: []))))))), false⟩
def T184 : TD := ⟨TypeDesc.array 4 135, 1024, 1024, (List.replicate 1024 (.c (.int .u8 0))), false⟩
def T185 : TD := ⟨TypeDesc.array 4 184, 4096, 4096, (List.replicate 4096 (.c (.int .u8 0))), false⟩
def T186 : TD := ⟨TypeDesc.array 4 184, 4096, 4096, (List.replicate 4096 (.c (.int .u8 0))), false⟩
def T205 : TD := ⟨TypeDesc.int IntKind.u32, 1, 4, (.c (.int .u32 0) :: []), false⟩
def E : Env := fun t => match t with
  | 2 => some T2
  | 3 => some T3
  | 4 => some T4
  | 5 => some T5
  | 9 => some T9
  | 12 => some T12
  | 13 => some T13
  | 21 => some T21
  | 22 => some T22
  | 23 => some T23
  | 26 => some T26
  | 28 => some T28
  | 38 => some T38
  | 39 => some T39
  | 40 => some T40
  | 41 => some T41
  | 44 => some T44
  | 45 => some T45
  | 49 => some T49
  | 50 => some T50
  | 51 => some T51
  | 54 => some T54
  | 55 => some T55
  | 56 => some T56
  | 60 => some T60
  | 69 => some T69
  | 87 => some T87
  | 88 => some T88
  | 89 => some T89
  | 109 => some T109
  | 117 => some T117
  | 118 => some T118
  | 119 => some T119
  | 125 => some T125
  | 135 => some T135
  | 136 => some T136
  | 137 => some T137
  | 138 => some T138
  | 139 => some T139
  | 140 => some T140
  | 141 => some T141
  | 142 => some T142
  | 143 => some T143
  | 146 => some T146
  | 147 => some T147
  | 152 => some T152
  | 155 => some T155
  | 163 => some T163
  | 167 => some T167
  | 169 => some T169
  | 170 => some T170
  | 184 => some T184
  | 185 => some T185
  | 186 => some T186
  | 205 => some T205
  | _ => none
theorem i2 : ∃ i z, Try.prog.info? 2 = some i ∧ i.size = T2.size ∧ i.bytes = T2.bytes ∧ i.zero = some z ∧ z.cells.toList.map V.c = T2.zero ∧ (∀ c ∈ z.cells.toList, c.oneCell' = true) ∧ T2.zero.length = T2.size := ⟨Try.t2, _, by kernel_rfl, by kernel_rfl, by kernel_rfl, rfl, by kernel_rfl, List.all_eq_true.1 (by kernel_rfl), by kernel_rfl⟩
theorem i3 : ∃ i z, Try.prog.info? 3 = some i ∧ i.size = T3.size ∧ i.bytes = T3.bytes ∧ i.zero = some z ∧ z.cells.toList.map V.c = T3.zero ∧ (∀ c ∈ z.cells.toList, c.oneCell' = true) ∧ T3.zero.length = T3.size := ⟨Try.t3, _, by kernel_rfl, by kernel_rfl, by kernel_rfl, rfl, by kernel_rfl, List.all_eq_true.1 (by kernel_rfl), by kernel_rfl⟩
theorem i4 : ∃ i z, Try.prog.info? 4 = some i ∧ i.size = T4.size ∧ i.bytes = T4.bytes ∧ i.zero = some z ∧ z.cells.toList.map V.c = T4.zero ∧ (∀ c ∈ z.cells.toList, c.oneCell' = true) ∧ T4.zero.length = T4.size := ⟨Try.t4, _, by kernel_rfl, by kernel_rfl, by kernel_rfl, rfl, by kernel_rfl, List.all_eq_true.1 (by kernel_rfl), by kernel_rfl⟩
theorem i5 : ∃ i z, Try.prog.info? 5 = some i ∧ i.size = T5.size ∧ i.bytes = T5.bytes ∧ i.zero = some z ∧ z.cells.toList.map V.c = T5.zero ∧ (∀ c ∈ z.cells.toList, c.oneCell' = true) ∧ T5.zero.length = T5.size := ⟨Try.t5, _, by kernel_rfl, by kernel_rfl, by kernel_rfl, rfl, by kernel_rfl, List.all_eq_true.1 (by kernel_rfl), by kernel_rfl⟩
theorem i9 : ∃ i z, Try.prog.info? 9 = some i ∧ i.size = T9.size ∧ i.bytes = T9.bytes ∧ i.zero = some z ∧ z.cells.toList.map V.c = T9.zero ∧ (∀ c ∈ z.cells.toList, c.oneCell' = true) ∧ T9.zero.length = T9.size := ⟨Try.t9, _, by kernel_rfl, by kernel_rfl, by kernel_rfl, rfl, by kernel_rfl, List.all_eq_true.1 (by kernel_rfl), by kernel_rfl⟩
theorem i12 : ∃ i z, Try.prog.info? 12 = some i ∧ i.size = T12.size ∧ i.bytes = T12.bytes ∧ i.zero = some z ∧ z.cells.toList.map V.c = T12.zero ∧ (∀ c ∈ z.cells.toList, c.oneCell' = true) ∧ T12.zero.length = T12.size := ⟨Try.t12, _, by kernel_rfl, by kernel_rfl, by kernel_rfl, rfl, by kernel_rfl, List.all_eq_true.1 (by kernel_rfl), by kernel_rfl⟩
theorem i13 : ∃ i z, Try.prog.info? 13 = some i ∧ i.size = T13.size ∧ i.bytes = T13.bytes ∧ i.zero = some z ∧ z.cells.toList.map V.c = T13.zero ∧ (∀ c ∈ z.cells.toList, c.oneCell' = true) ∧ T13.zero.length = T13.size := ⟨Try.t13, _, by kernel_rfl, by kernel_rfl, by kernel_rfl, rfl, by kernel_rfl, List.all_eq_true.1 (by kernel_rfl), by kernel_rfl⟩
theorem i21 : ∃ i z, Try.prog.info? 21 = some i ∧ i.size = T21.size ∧ i.bytes = T21.bytes ∧ i.zero = some z ∧ z.cells.toList.map V.c = T21.zero ∧ (∀ c ∈ z.cells.toList, c.oneCell' = true) ∧ T21.zero.length = T21.size := ⟨Try.t21, _, by kernel_rfl, by kernel_rfl, by kernel_rfl, rfl, by kernel_rfl, List.all_eq_true.1 (by kernel_rfl), by kernel_rfl⟩
theorem i22 : ∃ i z, Try.prog.info? 22 = some i ∧ i.size = T22.size ∧ i.bytes = T22.bytes ∧ i.zero = some z ∧ z.cells.toList.map V.c = T22.zero ∧ (∀ c ∈ z.cells.toList, c.oneCell' = true) ∧ T22.zero.length = T22.size := ⟨Try.t22, _, by kernel_rfl, by kernel_rfl, by kernel_rfl, rfl, by kernel_rfl, List.all_eq_true.1 (by kernel_rfl), by kernel_rfl⟩
theorem i23 : ∃ i z, Try.prog.info? 23 = some i ∧ i.size = T23.size ∧ i.bytes = T23.bytes ∧ i.zero = some z ∧ z.cells.toList.map V.c = T23.zero ∧ (∀ c ∈ z.cells.toList, c.oneCell' = true) ∧ T23.zero.length = T23.size := ⟨Try.t23, _, by kernel_rfl, by kernel_rfl, by kernel_rfl, rfl, by kernel_rfl, List.all_eq_true.1 (by kernel_rfl), by kernel_rfl⟩
theorem i26 : ∃ i z, Try.prog.info? 26 = some i ∧ i.size = T26.size ∧ i.bytes = T26.bytes ∧ i.zero = some z ∧ z.cells.toList.map V.c = T26.zero ∧ (∀ c ∈ z.cells.toList, c.oneCell' = true) ∧ T26.zero.length = T26.size := ⟨Try.t26, _, by kernel_rfl, by kernel_rfl, by kernel_rfl, rfl, by kernel_rfl, List.all_eq_true.1 (by kernel_rfl), by kernel_rfl⟩
theorem i28 : ∃ i z, Try.prog.info? 28 = some i ∧ i.size = T28.size ∧ i.bytes = T28.bytes ∧ i.zero = some z ∧ z.cells.toList.map V.c = T28.zero ∧ (∀ c ∈ z.cells.toList, c.oneCell' = true) ∧ T28.zero.length = T28.size := ⟨Try.t28, _, by kernel_rfl, by kernel_rfl, by kernel_rfl, rfl, by kernel_rfl, List.all_eq_true.1 (by kernel_rfl), by kernel_rfl⟩
theorem i38 : ∃ i z, Try.prog.info? 38 = some i ∧ i.size = T38.size ∧ i.bytes = T38.bytes ∧ i.zero = some z ∧ z.cells.toList.map V.c = T38.zero ∧ (∀ c ∈ z.cells.toList, c.oneCell' = true) ∧ T38.zero.length = T38.size := ⟨Try.t38, _, by kernel_rfl, by kernel_rfl, by kernel_rfl, rfl, by kernel_rfl, List.all_eq_true.1 (by kernel_rfl), by kernel_rfl⟩
theorem i39 : ∃ i z, Try.prog.info? 39 = some i ∧ i.size = T39.size ∧ i.bytes = T39.bytes ∧ i.zero = some z ∧ z.cells.toList.map V.c = T39.zero ∧ (∀ c ∈ z.cells.toList, c.oneCell' = true) ∧ T39.zero.length = T39.size := ⟨Try.t39, _, by kernel_rfl, by kernel_rfl, by kernel_rfl, rfl, by kernel_rfl, List.all_eq_true.1 (by kernel_rfl), by kernel_rfl⟩
theorem i40 : ∃ i z, Try.prog.info? 40 = some i ∧ i.size = T40.size ∧ i.bytes = T40.bytes ∧ i.zero = some z ∧ z.cells.toList.map V.c = T40.zero ∧ (∀ c ∈ z.cells.toList, c.oneCell' = true) ∧ T40.zero.length = T40.size := ⟨Try.t40, _, by kernel_rfl, by kernel_rfl, by kernel_rfl, rfl, by kernel_rfl, List.all_eq_true.1 (by kernel_rfl), by kernel_rfl⟩
theorem i41 : ∃ i z, Try.prog.info? 41 = some i ∧ i.size = T41.size ∧ i.bytes = T41.bytes ∧ i.zero = some z ∧ z.cells.toList.map V.c = T41.zero ∧ (∀ c ∈ z.cells.toList, c.oneCell' = true) ∧ T41.zero.length = T41.size := ⟨Try.t41, _, by kernel_rfl, by kernel_rfl, by kernel_rfl, rfl, by kernel_rfl, List.all_eq_true.1 (by kernel_rfl), by kernel_rfl⟩
theorem i44 : ∃ i z, Try.prog.info? 44 = some i ∧ i.size = T44.size ∧ i.bytes = T44.bytes ∧ i.zero = some z ∧ z.cells.toList.map V.c = T44.zero ∧ (∀ c ∈ z.cells.toList, c.oneCell' = true) ∧ T44.zero.length = T44.size := ⟨Try.t44, _, by kernel_rfl, by kernel_rfl, by kernel_rfl, rfl, by kernel_rfl, List.all_eq_true.1 (by kernel_rfl), by kernel_rfl⟩
theorem i45 : ∃ i z, Try.prog.info? 45 = some i ∧ i.size = T45.size ∧ i.bytes = T45.bytes ∧ i.zero = some z ∧ z.cells.toList.map V.c = T45.zero ∧ (∀ c ∈ z.cells.toList, c.oneCell' = true) ∧ T45.zero.length = T45.size := ⟨Try.t45, _, by kernel_rfl, by kernel_rfl, by kernel_rfl, rfl, by kernel_rfl, List.all_eq_true.1 (by kernel_rfl), by kernel_rfl⟩
theorem i49 : ∃ i z, Try.prog.info? 49 = some i ∧ i.size = T49.size ∧ i.bytes = T49.bytes ∧ i.zero = some z ∧ z.cells.toList.map V.c = T49.zero ∧ (∀ c ∈ z.cells.toList, c.oneCell' = true) ∧ T49.zero.length = T49.size := ⟨Try.t49, _, by kernel_rfl, by kernel_rfl, by kernel_rfl, rfl, by kernel_rfl, List.all_eq_true.1 (by kernel_rfl), by kernel_rfl⟩
theorem i50 : ∃ i z, Try.prog.info? 50 = some i ∧ i.size = T50.size ∧ i.bytes = T50.bytes ∧ i.zero = some z ∧ z.cells.toList.map V.c = T50.zero ∧ (∀ c ∈ z.cells.toList, c.oneCell' = true) ∧ T50.zero.length = T50.size := ⟨Try.t50, _, by kernel_rfl, by kernel_rfl, by kernel_rfl, rfl, by kernel_rfl, List.all_eq_true.1 (by kernel_rfl), by kernel_rfl⟩
theorem i51 : ∃ i z, Try.prog.info? 51 = some i ∧ i.size = T51.size ∧ i.bytes = T51.bytes ∧ i.zero = some z ∧ z.cells.toList.map V.c = T51.zero ∧ (∀ c ∈ z.cells.toList, c.oneCell' = true) ∧ T51.zero.length = T51.size := ⟨Try.t51, _, by kernel_rfl, by kernel_rfl, by kernel_rfl, rfl, by kernel_rfl, List.all_eq_true.1 (by kernel_rfl), by kernel_rfl⟩
theorem i54 : ∃ i z, Try.prog.info? 54 = some i ∧ i.size = T54.size ∧ i.bytes = T54.bytes ∧ i.zero = some z ∧ z.cells.toList.map V.c = T54.zero ∧ (∀ c ∈ z.cells.toList, c.oneCell' = true) ∧ T54.zero.length = T54.size := ⟨Try.t54, _, by kernel_rfl, by kernel_rfl, by kernel_rfl, rfl, by kernel_rfl, List.all_eq_true.1 (by kernel_rfl), by kernel_rfl⟩
theorem i55 : ∃ i z, Try.prog.info? 55 = some i ∧ i.size = T55.size ∧ i.bytes = T55.bytes ∧ i.zero = some z ∧ z.cells.toList.map V.c = T55.zero ∧ (∀ c ∈ z.cells.toList, c.oneCell' = true) ∧ T55.zero.length = T55.size := ⟨Try.t55, _, by kernel_rfl, by kernel_rfl, by kernel_rfl, rfl, by kernel_rfl, List.all_eq_true.1 (by kernel_rfl), by kernel_rfl⟩
theorem i56 : ∃ i z, Try.prog.info? 56 = some i ∧ i.size = T56.size ∧ i.bytes = T56.bytes ∧ i.zero = some z ∧ z.cells.toList.map V.c = T56.zero ∧ (∀ c ∈ z.cells.toList, c.oneCell' = true) ∧ T56.zero.length = T56.size := ⟨Try.t56, _, by kernel_rfl, by kernel_rfl, by kernel_rfl, rfl, by kernel_rfl, List.all_eq_true.1 (by kernel_rfl), by kernel_rfl⟩
theorem i60 : ∃ i z, Try.prog.info? 60 = some i ∧ i.size = T60.size ∧ i.bytes = T60.bytes ∧ i.zero = some z ∧ z.cells.toList.map V.c = T60.zero ∧ (∀ c ∈ z.cells.toList, c.oneCell' = true) ∧ T60.zero.length = T60.size := ⟨Try.t60, _, by kernel_rfl, by kernel_rfl, by kernel_rfl, rfl, by kernel_rfl, List.all_eq_true.1 (by kernel_rfl), by kernel_rfl⟩
theorem i69 : ∃ i z, Try.prog.info? 69 = some i ∧ i.size = T69.size ∧ i.bytes = T69.bytes ∧ i.zero = some z ∧ z.cells.toList.map V.c = T69.zero ∧ (∀ c ∈ z.cells.toList, c.oneCell' = true) ∧ T69.zero.length = T69.size := ⟨Try.t69, _, by kernel_rfl, by kernel_rfl, by kernel_rfl, rfl, by kernel_rfl, List.all_eq_true.1 (by kernel_rfl), by kernel_rfl⟩
theorem i87 : ∃ i z, Try.prog.info? 87 = some i ∧ i.size = T87.size ∧ i.bytes = T87.bytes ∧ i.zero = some z ∧ z.cells.toList.map V.c = T87.zero ∧ (∀ c ∈ z.cells.toList, c.oneCell' = true) ∧ T87.zero.length = T87.size := ⟨Try.t87, _, by kernel_rfl, by kernel_rfl, by kernel_rfl, rfl, by kernel_rfl, List.all_eq_true.1 (by kernel_rfl), by kernel_rfl⟩
theorem i88 : ∃ i z, Try.prog.info? 88 = some i ∧ i.size = T88.size ∧ i.bytes = T88.bytes ∧ i.zero = some z ∧ z.cells.toList.map V.c = T88.zero ∧ (∀ c ∈ z.cells.toList, c.oneCell' = true) ∧ T88.zero.length = T88.size := ⟨Try.t88, _, by kernel_rfl, by kernel_rfl, by kernel_rfl, rfl, by kernel_rfl, List.all_eq_true.1 (by kernel_rfl), by kernel_rfl⟩
theorem i89 : ∃ i z, Try.prog.info? 89 = some i ∧ i.size = T89.size ∧ i.bytes = T89.bytes ∧ i.zero = some z ∧ z.cells.toList.map V.c = T89.zero ∧ (∀ c ∈ z.cells.toList, c.oneCell' = true) ∧ T89.zero.length = T89.size := ⟨Try.t89, _, by kernel_rfl, by kernel_rfl, by kernel_rfl, rfl, by kernel_rfl, List.all_eq_true.1 (by kernel_rfl), by kernel_rfl⟩
theorem i109 : ∃ i z, Try.prog.info? 109 = some i ∧ i.size = T109.size ∧ i.bytes = T109.bytes ∧ i.zero = some z ∧ z.cells.toList.map V.c = T109.zero ∧ (∀ c ∈ z.cells.toList, c.oneCell' = true) ∧ T109.zero.length = T109.size := ⟨Try.t109, _, by kernel_rfl, by kernel_rfl, by kernel_rfl, rfl, by kernel_rfl, List.all_eq_true.1 (by kernel_rfl), by kernel_rfl⟩
theorem i117 : ∃ i z, Try.prog.info? 117 = some i ∧ i.size = T117.size ∧ i.bytes = T117.bytes ∧ i.zero = some z ∧ z.cells.toList.map V.c = T117.zero ∧ (∀ c ∈ z.cells.toList, c.oneCell' = true) ∧ T117.zero.length = T117.size := ⟨Try.t117, _, by kernel_rfl, by kernel_rfl, by kernel_rfl, rfl, by kernel_rfl, List.all_eq_true.1 (by kernel_rfl), by kernel_rfl⟩
theorem i118 : ∃ i z, Try.prog.info? 118 = some i ∧ i.size = T118.size ∧ i.bytes = T118.bytes ∧ i.zero = some z ∧ z.cells.toList.map V.c = T118.zero ∧ (∀ c ∈ z.cells.toList, c.oneCell' = true) ∧ T118.zero.length = T118.size := ⟨Try.t118, _, by kernel_rfl, by kernel_rfl, by kernel_rfl, rfl, by kernel_rfl, List.all_eq_true.1 (by kernel_rfl), by kernel_rfl⟩
theorem i119 : ∃ i z, Try.prog.info? 119 = some i ∧ i.size = T119.size ∧ i.bytes = T119.bytes ∧ i.zero = some z ∧ z.cells.toList.map V.c = T119.zero ∧ (∀ c ∈ z.cells.toList, c.oneCell' = true) ∧ T119.zero.length = T119.size := ⟨Try.t119, _, by kernel_rfl, by kernel_rfl, by kernel_rfl, rfl, by kernel_rfl, List.all_eq_true.1 (by kernel_rfl), by kernel_rfl⟩
theorem i125 : ∃ i z, Try.prog.info? 125 = some i ∧ i.size = T125.size ∧ i.bytes = T125.bytes ∧ i.zero = some z ∧ z.cells.toList.map V.c = T125.zero ∧ (∀ c ∈ z.cells.toList, c.oneCell' = true) ∧ T125.zero.length = T125.size := ⟨Try.t125, _, by kernel_rfl, by kernel_rfl, by kernel_rfl, rfl, by kernel_rfl, List.all_eq_true.1 (by kernel_rfl), by kernel_rfl⟩
theorem i135 : ∃ i z, Try.prog.info? 135 = some i ∧ i.size = T135.size ∧ i.bytes = T135.bytes ∧ i.zero = some z ∧ z.cells.toList.map V.c = T135.zero ∧ (∀ c ∈ z.cells.toList, c.oneCell' = true) ∧ T135.zero.length = T135.size := ⟨Try.t135, _, by kernel_rfl, by kernel_rfl, by kernel_rfl, rfl, by kernel_rfl, List.all_eq_true.1 (by kernel_rfl), by kernel_rfl⟩
theorem i136 : ∃ i z, Try.prog.info? 136 = some i ∧ i.size = T136.size ∧ i.bytes = T136.bytes ∧ i.zero = some z ∧ z.cells.toList.map V.c = T136.zero ∧ (∀ c ∈ z.cells.toList, c.oneCell' = true) ∧ T136.zero.length = T136.size := ⟨Try.t136, _, by kernel_rfl, by kernel_rfl, by kernel_rfl, rfl, by kernel_rfl, List.all_eq_true.1 (by kernel_rfl), by kernel_rfl⟩
theorem i137 : ∃ i z, Try.prog.info? 137 = some i ∧ i.size = T137.size ∧ i.bytes = T137.bytes ∧ i.zero = some z ∧ z.cells.toList.map V.c = T137.zero ∧ (∀ c ∈ z.cells.toList, c.oneCell' = true) ∧ T137.zero.length = T137.size := ⟨Try.t137, _, by kernel_rfl, by kernel_rfl, by kernel_rfl, rfl, by kernel_rfl, List.all_eq_true.1 (by kernel_rfl), by kernel_rfl⟩
theorem i138 : ∃ i z, Try.prog.info? 138 = some i ∧ i.size = T138.size ∧ i.bytes = T138.bytes ∧ i.zero = some z ∧ z.cells.toList.map V.c = T138.zero ∧ (∀ c ∈ z.cells.toList, c.oneCell' = true) ∧ T138.zero.length = T138.size := ⟨Try.t138, _, by kernel_rfl, by kernel_rfl, by kernel_rfl, rfl, by kernel_rfl, List.all_eq_true.1 (by kernel_rfl), by kernel_rfl⟩
theorem i139 : ∃ i z, Try.prog.info? 139 = some i ∧ i.size = T139.size ∧ i.bytes = T139.bytes ∧ i.zero = some z ∧ z.cells.toList.map V.c = T139.zero ∧ (∀ c ∈ z.cells.toList, c.oneCell' = true) ∧ T139.zero.length = T139.size := ⟨Try.t139, _, by kernel_rfl, by kernel_rfl, by kernel_rfl, rfl, by kernel_rfl, List.all_eq_true.1 (by kernel_rfl), by kernel_rfl⟩
theorem i140 : ∃ i z, Try.prog.info? 140 = some i ∧ i.size = T140.size ∧ i.bytes = T140.bytes ∧ i.zero = some z ∧ z.cells.toList.map V.c = T140.zero ∧ (∀ c ∈ z.cells.toList, c.oneCell' = true) ∧ T140.zero.length = T140.size := ⟨Try.t140, _, by kernel_rfl, by kernel_rfl, by kernel_rfl, rfl, by kernel_rfl, List.all_eq_true.1 (by kernel_rfl), by kernel_rfl⟩
theorem i141 : ∃ i z, Try.prog.info? 141 = some i ∧ i.size = T141.size ∧ i.bytes = T141.bytes ∧ i.zero = some z ∧ z.cells.toList.map V.c = T141.zero ∧ (∀ c ∈ z.cells.toList, c.oneCell' = true) ∧ T141.zero.length = T141.size := ⟨Try.t141, _, by kernel_rfl, by kernel_rfl, by kernel_rfl, rfl, by kernel_rfl, List.all_eq_true.1 (by kernel_rfl), by kernel_rfl⟩
theorem i142 : ∃ i z, Try.prog.info? 142 = some i ∧ i.size = T142.size ∧ i.bytes = T142.bytes ∧ i.zero = some z ∧ z.cells.toList.map V.c = T142.zero ∧ (∀ c ∈ z.cells.toList, c.oneCell' = true) ∧ T142.zero.length = T142.size := ⟨Try.t142, _, by kernel_rfl, by kernel_rfl, by kernel_rfl, rfl, by kernel_rfl, List.all_eq_true.1 (by kernel_rfl), by kernel_rfl⟩
theorem i143 : ∃ i z, Try.prog.info? 143 = some i ∧ i.size = T143.size ∧ i.bytes = T143.bytes ∧ i.zero = some z ∧ z.cells.toList.map V.c = T143.zero ∧ (∀ c ∈ z.cells.toList, c.oneCell' = true) ∧ T143.zero.length = T143.size := ⟨Try.t143, _, by kernel_rfl, by kernel_rfl, by kernel_rfl, rfl, by kernel_rfl, List.all_eq_true.1 (by kernel_rfl), by kernel_rfl⟩
theorem i146 : ∃ i z, Try.prog.info? 146 = some i ∧ i.size = T146.size ∧ i.bytes = T146.bytes ∧ i.zero = some z ∧ z.cells.toList.map V.c = T146.zero ∧ (∀ c ∈ z.cells.toList, c.oneCell' = true) ∧ T146.zero.length = T146.size := ⟨Try.t146, _, by kernel_rfl, by kernel_rfl, by kernel_rfl, rfl, by kernel_rfl, List.all_eq_true.1 (by kernel_rfl), by kernel_rfl⟩
theorem i147 : ∃ i z, Try.prog.info? 147 = some i ∧ i.size = T147.size ∧ i.bytes = T147.bytes ∧ i.zero = some z ∧ z.cells.toList.map V.c = T147.zero ∧ (∀ c ∈ z.cells.toList, c.oneCell' = true) ∧ T147.zero.length = T147.size := ⟨Try.t147, _, by kernel_rfl, by kernel_rfl, by kernel_rfl, rfl, by kernel_rfl, List.all_eq_true.1 (by kernel_rfl), by kernel_rfl⟩
theorem i152 : ∃ i z, Try.prog.info? 152 = some i ∧ i.size = T152.size ∧ i.bytes = T152.bytes ∧ i.zero = some z ∧ z.cells.toList.map V.c = T152.zero ∧ (∀ c ∈ z.cells.toList, c.oneCell' = true) ∧ T152.zero.length = T152.size := ⟨Try.t152, _, by kernel_rfl, by kernel_rfl, by kernel_rfl, rfl, by kernel_rfl, List.all_eq_true.1 (by kernel_rfl), by kernel_rfl⟩
theorem i155 : ∃ i z, Try.prog.info? 155 = some i ∧ i.size = T155.size ∧ i.bytes = T155.bytes ∧ i.zero = some z ∧ z.cells.toList.map V.c = T155.zero ∧ (∀ c ∈ z.cells.toList, c.oneCell' = true) ∧ T155.zero.length = T155.size := ⟨Try.t155, _, by kernel_rfl, by kernel_rfl, by kernel_rfl, rfl, by kernel_rfl, List.all_eq_true.1 (by kernel_rfl), by kernel_rfl⟩
theorem i163 : ∃ i z, Try.prog.info? 163 = some i ∧ i.size = T163.size ∧ i.bytes = T163.bytes ∧ i.zero = some z ∧ z.cells.toList.map V.c = T163.zero ∧ (∀ c ∈ z.cells.toList, c.oneCell' = true) ∧ T163.zero.length = T163.size := ⟨Try.t163, _, by kernel_rfl, by kernel_rfl, by kernel_rfl, rfl, by kernel_rfl, List.all_eq_true.1 (by kernel_rfl), by kernel_rfl⟩
theorem i167 : ∃ i z, Try.prog.info? 167 = some i ∧ i.size = T167.size ∧ i.bytes = T167.bytes ∧ i.zero = some z ∧ z.cells.toList.map V.c = T167.zero ∧ (∀ c ∈ z.cells.toList, c.oneCell' = true) ∧ T167.zero.length = T167.size := ⟨Try.t167, _, by kernel_rfl, by kernel_rfl, by kernel_rfl, rfl, by kernel_rfl, List.all_eq_true.1 (by kernel_rfl), by kernel_rfl⟩
theorem i169 : ∃ i z, Try.prog.info? 169 = some i ∧ i.size = T169.size ∧ i.bytes = T169.bytes ∧ i.zero = some z ∧ z.cells.toList.map V.c = T169.zero ∧ (∀ c ∈ z.cells.toList, c.oneCell' = true) ∧ T169.zero.length = T169.size := ⟨Try.t169, _, by kernel_rfl, by kernel_rfl, by kernel_rfl, rfl, by kernel_rfl, List.all_eq_true.1 (by kernel_rfl), by kernel_rfl⟩
theorem i170 : ∃ i z, Try.prog.info? 170 = some i ∧ i.size = T170.size ∧ i.bytes = T170.bytes ∧ i.zero = some z ∧ z.cells.toList.map V.c = T170.zero ∧ (∀ c ∈ z.cells.toList, c.oneCell' = true) ∧ T170.zero.length = T170.size := ⟨Try.t170, _, by kernel_rfl, by kernel_rfl, by kernel_rfl, rfl, by kernel_rfl, List.all_eq_true.1 (by kernel_rfl), by kernel_rfl⟩
theorem i184 : ∃ i z, Try.prog.info? 184 = some i ∧ i.size = T184.size ∧ i.bytes = T184.bytes ∧ i.zero = some z ∧ z.cells.toList.map V.c = T184.zero ∧ (∀ c ∈ z.cells.toList, c.oneCell' = true) ∧ T184.zero.length = T184.size := ⟨Try.t184, _, by kernel_rfl, by kernel_rfl, by kernel_rfl, rfl, by kernel_rfl, List.all_eq_true.1 (by kernel_rfl), by kernel_rfl⟩
theorem i185 : ∃ i z, Try.prog.info? 185 = some i ∧ i.size = T185.size ∧ i.bytes = T185.bytes ∧ i.zero = some z ∧ z.cells.toList.map V.c = T185.zero ∧ (∀ c ∈ z.cells.toList, c.oneCell' = true) ∧ T185.zero.length = T185.size := ⟨Try.t185, _, by kernel_rfl, by kernel_rfl, by kernel_rfl, rfl, by kernel_rfl, List.all_eq_true.1 (by kernel_rfl), by kernel_rfl⟩
theorem i186 : ∃ i z, Try.prog.info? 186 = some i ∧ i.size = T186.size ∧ i.bytes = T186.bytes ∧ i.zero = some z ∧ z.cells.toList.map V.c = T186.zero ∧ (∀ c ∈ z.cells.toList, c.oneCell' = true) ∧ T186.zero.length = T186.size := ⟨Try.t186, _, by kernel_rfl, by kernel_rfl, by kernel_rfl, rfl, by kernel_rfl, List.all_eq_true.1 (by kernel_rfl), by kernel_rfl⟩
theorem i205 : ∃ i z, Try.prog.info? 205 = some i ∧ i.size = T205.size ∧ i.bytes = T205.bytes ∧ i.zero = some z ∧ z.cells.toList.map V.c = T205.zero ∧ (∀ c ∈ z.cells.toList, c.oneCell' = true) ∧ T205.zero.length = T205.size := ⟨Try.t205, _, by kernel_rfl, by kernel_rfl, by kernel_rfl, rfl, by kernel_rfl, List.all_eq_true.1 (by kernel_rfl), by kernel_rfl⟩
theorem envOK : EnvOK Try.prog E := by
  refine ⟨fun {t d} h => ?_, fun {t d} h => ?_, fun {t d} h => ?_, by kernel_rfl⟩
  · unfold E at h; split at h <;> first | (cases h; kernel_rfl) | cases h
  · unfold E at h; split at h <;> first | cases h | skip
    · exact i2
    · exact i3
    · exact i4
    · exact i5
    · exact i9
    · exact i12
    · exact i13
    · exact i21
    · exact i22
    · exact i23
    · exact i26
    · exact i28
    · exact i38
    · exact i39
    · exact i40
    · exact i41
    · exact i44
    · exact i45
    · exact i49
    · exact i50
    · exact i51
    · exact i54
    · exact i55
    · exact i56
    · exact i60
    · exact i69
    · exact i87
    · exact i88
    · exact i89
    · exact i109
    · exact i117
    · exact i118
    · exact i119
    · exact i125
    · exact i135
    · exact i136
    · exact i137
    · exact i138
    · exact i139
    · exact i140
    · exact i141
    · exact i142
    · exact i143
    · exact i146
    · exact i147
    · exact i152
    · exact i155
    · exact i163
    · exact i167
    · exact i169
    · exact i170
    · exact i184
    · exact i185
    · exact i186
    · exact i205
  · unfold E at h; split at h <;> first | (cases h; kernel_rfl) | cases h
theorem E2 : E 2 = some ⟨TypeDesc.int IntKind.i64, 1, 8, (.c (.int .i64 0) :: []), false⟩ := rfl
theorem E3 : E 3 = some ⟨TypeDesc.int IntKind.i64, 1, 8, (.c (.int .i64 0) :: []), false⟩ := rfl
theorem E4 : E 4 = some ⟨TypeDesc.bool, 1, 1, (.c (.bool false) :: []), false⟩ := rfl
theorem E5 : E 5 = some ⟨TypeDesc.int IntKind.u8, 1, 1, (.c (.int .u8 0) :: []), false⟩ := rfl
theorem E9 : E 9 = some ⟨TypeDesc.string, 1, 16, (.c (.string ⟨#[]⟩) :: []), false⟩ := rfl
theorem E12 : E 12 = some ⟨TypeDesc.int IntKind.u64, 1, 8, (.c (.int .u64 0) :: []), false⟩ := rfl
theorem E13 : E 13 = some ⟨TypeDesc.struct #[{ name := "msg", type := 9, offset := 0, embedded := false, tag := "", pkgPath := "runtime", byteOffset := 0 }, { name := "addr", type := 12, offset := 1, embedded := false, tag := "", pkgPath := "runtime", byteOffset := 16 }], 2, 24, (.c (.string ⟨#[]⟩) :: (.c (.int .u64 0) :: [])), false⟩ := rfl
theorem E21 : E 21 = some ⟨TypeDesc.int IntKind.i32, 1, 4, (.c (.int .i32 0) :: []), false⟩ := rfl
theorem E22 : E 22 = some ⟨TypeDesc.array 32 5, 32, 32, (bs (List.replicate 32 0)), false⟩ := by simp only [← zeros_bs, ← zeros_blv]; rfl
theorem E23 : E 23 = some ⟨TypeDesc.slice 22, 1, 24, (.c (.slice none 0 0) :: []), false⟩ := rfl
theorem E26 : E 26 = some ⟨TypeDesc.array 32 5, 32, 32, (bs (List.replicate 32 0)), false⟩ := by simp only [← zeros_bs, ← zeros_blv]; rfl
theorem E28 : E 28 = some ⟨TypeDesc.slice 26, 1, 24, (.c (.slice none 0 0) :: []), false⟩ := rfl
theorem E38 : E 38 = some ⟨TypeDesc.slice 60, 1, 24, (.c (.slice none 0 0) :: []), false⟩ := rfl
theorem E39 : E 39 = some ⟨TypeDesc.slice 2, 1, 24, (.c (.slice none 0 0) :: []), false⟩ := rfl
theorem E40 : E 40 = some ⟨TypeDesc.struct #[{ name := "Keys", type := 23, offset := 0, embedded := false, tag := "", pkgPath := "", byteOffset := 0 }, { name := "Data", type := 38, offset := 1, embedded := false, tag := "", pkgPath := "", byteOffset := 24 }, { name := "Counts", type := 39, offset := 2, embedded := false, tag := "", pkgPath := "", byteOffset := 48 }], 3, 72, (.c (.slice none 0 0) :: (.c (.slice none 0 0) :: (.c (.slice none 0 0) :: []))), false⟩ := rfl
theorem E41 : E 41 = some ⟨TypeDesc.struct #[{ name := "Keys", type := 23, offset := 0, embedded := false, tag := "", pkgPath := "", byteOffset := 0 }, { name := "Data", type := 38, offset := 1, embedded := false, tag := "", pkgPath := "", byteOffset := 24 }, { name := "Counts", type := 39, offset := 2, embedded := false, tag := "", pkgPath := "", byteOffset := 48 }], 3, 72, (.c (.slice none 0 0) :: (.c (.slice none 0 0) :: (.c (.slice none 0 0) :: []))), false⟩ := rfl
theorem E44 : E 44 = some ⟨TypeDesc.struct #[{ name := "Keys", type := 28, offset := 0, embedded := false, tag := "", pkgPath := "", byteOffset := 0 }, { name := "Data", type := 38, offset := 1, embedded := false, tag := "", pkgPath := "", byteOffset := 24 }, { name := "Counts", type := 39, offset := 2, embedded := false, tag := "", pkgPath := "", byteOffset := 48 }], 3, 72, (.c (.slice none 0 0) :: (.c (.slice none 0 0) :: (.c (.slice none 0 0) :: []))), false⟩ := rfl
theorem E45 : E 45 = some ⟨TypeDesc.struct #[{ name := "Keys", type := 28, offset := 0, embedded := false, tag := "", pkgPath := "", byteOffset := 0 }, { name := "Data", type := 38, offset := 1, embedded := false, tag := "", pkgPath := "", byteOffset := 24 }, { name := "Counts", type := 39, offset := 2, embedded := false, tag := "", pkgPath := "", byteOffset := 48 }], 3, 72, (.c (.slice none 0 0) :: (.c (.slice none 0 0) :: (.c (.slice none 0 0) :: []))), false⟩ := rfl
theorem E49 : E 49 = some ⟨TypeDesc.slice 23, 1, 24, (.c (.slice none 0 0) :: []), false⟩ := rfl
theorem E50 : E 50 = some ⟨TypeDesc.struct #[{ name := "Place", type := 2, offset := 0, embedded := false, tag := "", pkgPath := "", byteOffset := 0 }, { name := "Neighbours", type := 23, offset := 1, embedded := false, tag := "", pkgPath := "", byteOffset := 8 }, { name := "Proofs", type := 49, offset := 2, embedded := false, tag := "", pkgPath := "", byteOffset := 32 }], 3, 56, (.c (.int .i64 0) :: (.c (.slice none 0 0) :: (.c (.slice none 0 0) :: []))), false⟩ := rfl
theorem E51 : E 51 = some ⟨TypeDesc.struct #[{ name := "Place", type := 2, offset := 0, embedded := false, tag := "", pkgPath := "", byteOffset := 0 }, { name := "Neighbours", type := 23, offset := 1, embedded := false, tag := "", pkgPath := "", byteOffset := 8 }, { name := "Proofs", type := 49, offset := 2, embedded := false, tag := "", pkgPath := "", byteOffset := 32 }], 3, 56, (.c (.int .i64 0) :: (.c (.slice none 0 0) :: (.c (.slice none 0 0) :: []))), false⟩ := rfl
theorem E54 : E 54 = some ⟨TypeDesc.slice 28, 1, 24, (.c (.slice none 0 0) :: []), false⟩ := rfl
theorem E55 : E 55 = some ⟨TypeDesc.struct #[{ name := "Place", type := 2, offset := 0, embedded := false, tag := "", pkgPath := "", byteOffset := 0 }, { name := "Neighbours", type := 28, offset := 1, embedded := false, tag := "", pkgPath := "", byteOffset := 8 }, { name := "Proofs", type := 54, offset := 2, embedded := false, tag := "", pkgPath := "", byteOffset := 32 }], 3, 56, (.c (.int .i64 0) :: (.c (.slice none 0 0) :: (.c (.slice none 0 0) :: []))), false⟩ := rfl
theorem E56 : E 56 = some ⟨TypeDesc.struct #[{ name := "Place", type := 2, offset := 0, embedded := false, tag := "", pkgPath := "", byteOffset := 0 }, { name := "Neighbours", type := 28, offset := 1, embedded := false, tag := "", pkgPath := "", byteOffset := 8 }, { name := "Proofs", type := 54, offset := 2, embedded := false, tag := "", pkgPath := "", byteOffset := 32 }], 3, 56, (.c (.int .i64 0) :: (.c (.slice none 0 0) :: (.c (.slice none 0 0) :: []))), false⟩ := rfl
theorem E60 : E 60 = some ⟨TypeDesc.slice 5, 1, 24, (.c (.slice none 0 0) :: []), false⟩ := rfl
theorem E69 : E 69 = some ⟨TypeDesc.int IntKind.u64, 1, 8, (.c (.int .u64 0) :: []), false⟩ := rfl
theorem E87 : E 87 = some ⟨TypeDesc.pointer 170, 1, 8, (.c (.pointer none) :: []), false⟩ := rfl
theorem E88 : E 88 = some ⟨TypeDesc.struct #[{ name := "engine", type := 87, offset := 0, embedded := false, tag := "", pkgPath := "loop.example/g01182/impl", byteOffset := 0 }], 1, 8, (.c (.pointer none) :: []), false⟩ := rfl
theorem E89 : E 89 = some ⟨TypeDesc.struct #[{ name := "engine", type := 87, offset := 0, embedded := false, tag := "", pkgPath := "loop.example/g01182/impl", byteOffset := 0 }], 1, 8, (.c (.pointer none) :: []), false⟩ := rfl
theorem E109 : E 109 = some ⟨TypeDesc.array 2 2, 2, 16, (.c (.int .i64 0) :: .c (.int .i64 0) :: []), false⟩ := rfl
theorem E117 : E 117 = some ⟨TypeDesc.struct #[{ name := "b", type := 60, offset := 0, embedded := false, tag := "", pkgPath := "loop.example/g01182/laws", byteOffset := 0 }, { name := "i", type := 3, offset := 1, embedded := false, tag := "", pkgPath := "loop.example/g01182/laws", byteOffset := 24 }, { name := "h", type := 69, offset := 2, embedded := false, tag := "", pkgPath := "loop.example/g01182/laws", byteOffset := 32 }], 3, 40, (.c (.slice none 0 0) :: (.c (.int .i64 0) :: (.c (.int .u64 0) :: []))), false⟩ := rfl
theorem E118 : E 118 = some ⟨TypeDesc.struct #[{ name := "b", type := 60, offset := 0, embedded := false, tag := "", pkgPath := "loop.example/g01182/laws", byteOffset := 0 }, { name := "i", type := 3, offset := 1, embedded := false, tag := "", pkgPath := "loop.example/g01182/laws", byteOffset := 24 }, { name := "h", type := 69, offset := 2, embedded := false, tag := "", pkgPath := "loop.example/g01182/laws", byteOffset := 32 }], 3, 40, (.c (.slice none 0 0) :: (.c (.int .i64 0) :: (.c (.int .u64 0) :: []))), false⟩ := rfl
theorem E119 : E 119 = some ⟨TypeDesc.int IntKind.u64, 1, 8, (.c (.int .u64 0) :: []), false⟩ := rfl
theorem E125 : E 125 = some ⟨TypeDesc.array 2 3, 2, 16, (.c (.int .i64 0) :: .c (.int .i64 0) :: []), false⟩ := rfl
theorem E135 : E 135 = some ⟨TypeDesc.array 256 5, 256, 256, (bs (List.replicate 256 0)), false⟩ := by simp only [← zeros_bs, ← zeros_blv]; rfl
theorem E136 : E 136 = some ⟨TypeDesc.array 256 5, 256, 256, (bs (List.replicate 256 0)), false⟩ := by simp only [← zeros_bs, ← zeros_blv]; rfl
theorem E137 : E 137 = some ⟨TypeDesc.array 4 5, 4, 4, (bs (List.replicate 4 0)), false⟩ := by simp only [← zeros_bs, ← zeros_blv]; rfl
theorem E138 : E 138 = some ⟨TypeDesc.array 4 137, 16, 16, (bs (List.replicate 16 0)), false⟩ := by simp only [← zeros_bs, ← zeros_blv]; rfl
theorem E139 : E 139 = some ⟨TypeDesc.array 4 137, 16, 16, (bs (List.replicate 16 0)), false⟩ := by simp only [← zeros_bs, ← zeros_blv]; rfl
theorem E140 : E 140 = some ⟨TypeDesc.array 16 5, 16, 16, (bs (List.replicate 16 0)), false⟩ := by simp only [← zeros_bs, ← zeros_blv]; rfl
theorem E141 : E 141 = some ⟨TypeDesc.array 16 5, 16, 16, (bs (List.replicate 16 0)), false⟩ := by simp only [← zeros_bs, ← zeros_blv]; rfl
theorem E142 : E 142 = some ⟨TypeDesc.struct #[{ name := "Field", type := 2, offset := 0, embedded := false, tag := "", pkgPath := "", byteOffset := 0 }, { name := "Box", type := 136, offset := 1, embedded := false, tag := "", pkgPath := "", byteOffset := 8 }, { name := "Mix", type := 139, offset := 257, embedded := false, tag := "", pkgPath := "", byteOffset := 264 }, { name := "Places", type := 141, offset := 273, embedded := false, tag := "", pkgPath := "", byteOffset := 280 }, { name := "Rounds", type := 2, offset := 289, embedded := false, tag := "", pkgPath := "", byteOffset := 296 }], 290, 304, (.c (.int .i64 0) :: (bs (List.replicate 256 0) ++ (bs (List.replicate 16 0) ++ (bs (List.replicate 16 0) ++ (.c (.int .i64 0) :: []))))), false⟩ := by simp only [← zeros_bs, ← zeros_blv]; rfl
theorem E143 : E 143 = some ⟨TypeDesc.struct #[{ name := "Field", type := 2, offset := 0, embedded := false, tag := "", pkgPath := "", byteOffset := 0 }, { name := "Box", type := 136, offset := 1, embedded := false, tag := "", pkgPath := "", byteOffset := 8 }, { name := "Mix", type := 139, offset := 257, embedded := false, tag := "", pkgPath := "", byteOffset := 264 }, { name := "Places", type := 141, offset := 273, embedded := false, tag := "", pkgPath := "", byteOffset := 280 }, { name := "Rounds", type := 2, offset := 289, embedded := false, tag := "", pkgPath := "", byteOffset := 296 }], 290, 304, (.c (.int .i64 0) :: (bs (List.replicate 256 0) ++ (bs (List.replicate 16 0) ++ (bs (List.replicate 16 0) ++ (.c (.int .i64 0) :: []))))), false⟩ := by simp only [← zeros_bs, ← zeros_blv]; rfl
theorem E146 : E 146 = some ⟨TypeDesc.struct #[{ name := "code", type := 60, offset := 0, embedded := false, tag := "", pkgPath := "loop.example/g01182/spec", byteOffset := 0 }, { name := "at", type := 3, offset := 1, embedded := false, tag := "", pkgPath := "loop.example/g01182/spec", byteOffset := 24 }, { name := "hash", type := 69, offset := 2, embedded := false, tag := "", pkgPath := "loop.example/g01182/spec", byteOffset := 32 }], 3, 40, (.c (.slice none 0 0) :: (.c (.int .i64 0) :: (.c (.int .u64 0) :: []))), false⟩ := rfl
theorem E147 : E 147 = some ⟨TypeDesc.struct #[{ name := "code", type := 60, offset := 0, embedded := false, tag := "", pkgPath := "loop.example/g01182/spec", byteOffset := 0 }, { name := "at", type := 3, offset := 1, embedded := false, tag := "", pkgPath := "loop.example/g01182/spec", byteOffset := 24 }, { name := "hash", type := 69, offset := 2, embedded := false, tag := "", pkgPath := "loop.example/g01182/spec", byteOffset := 32 }], 3, 40, (.c (.slice none 0 0) :: (.c (.int .i64 0) :: (.c (.int .u64 0) :: []))), false⟩ := rfl
theorem E152 : E 152 = some ⟨TypeDesc.slice 155, 1, 24, (.c (.slice none 0 0) :: []), false⟩ := rfl
theorem E155 : E 155 = some ⟨TypeDesc.array 16 5, 16, 16, (bs (List.replicate 16 0)), false⟩ := by simp only [← zeros_bs, ← zeros_blv]; rfl
theorem E163 : E 163 = some ⟨TypeDesc.int IntKind.i64, 1, 8, (.c (.int .i64 0) :: []), false⟩ := rfl
theorem E167 : E 167 = some ⟨TypeDesc.pointer 186, 1, 8, (.c (.pointer none) :: []), false⟩ := rfl
theorem E169 : E 169 = some ⟨TypeDesc.struct #[{ name := "box", type := 136, offset := 0, embedded := false, tag := "", pkgPath := "loop.example/g01182/impl", byteOffset := 0 }, { name := "backBox", type := 136, offset := 256, embedded := false, tag := "", pkgPath := "loop.example/g01182/impl", byteOffset := 256 }, { name := "places", type := 141, offset := 512, embedded := false, tag := "", pkgPath := "loop.example/g01182/impl", byteOffset := 512 }, { name := "backPlaces", type := 141, offset := 528, embedded := false, tag := "", pkgPath := "loop.example/g01182/impl", byteOffset := 528 }, { name := "mixer", type := 167, offset := 544, embedded := false, tag := "", pkgPath := "loop.example/g01182/impl", byteOffset := 544 }, { name := "backMixer", type := 167, offset := 545, embedded := false, tag := "", pkgPath := "loop.example/g01182/impl", byteOffset := 552 }, { name := "rounds", type := 2, offset := 546, embedded := false, tag := "", pkgPath := "loop.example/g01182/impl", byteOffset := 560 }], 547, 568, (bs (List.replicate 256 0) ++ (bs (List.replicate 256 0) ++ (bs (List.replicate 16 0) ++ (bs (List.replicate 16 0) ++ (.c (.pointer none) :: (.c (.pointer none) :: (.c (.int .i64 0) :: []))))))), false⟩ := by simp only [← zeros_bs, ← zeros_blv]; rfl
theorem E170 : E 170 = some ⟨TypeDesc.struct #[{ name := "box", type := 136, offset := 0, embedded := false, tag := "", pkgPath := "loop.example/g01182/impl", byteOffset := 0 }, { name := "backBox", type := 136, offset := 256, embedded := false, tag := "", pkgPath := "loop.example/g01182/impl", byteOffset := 256 }, { name := "places", type := 141, offset := 512, embedded := false, tag := "", pkgPath := "loop.example/g01182/impl", byteOffset := 512 }, { name := "backPlaces", type := 141, offset := 528, embedded := false, tag := "", pkgPath := "loop.example/g01182/impl", byteOffset := 528 }, { name := "mixer", type := 167, offset := 544, embedded := false, tag := "", pkgPath := "loop.example/g01182/impl", byteOffset := 544 }, { name := "backMixer", type := 167, offset := 545, embedded := false, tag := "", pkgPath := "loop.example/g01182/impl", byteOffset := 552 }, { name := "rounds", type := 2, offset := 546, embedded := false, tag := "", pkgPath := "loop.example/g01182/impl", byteOffset := 560 }], 547, 568, (bs (List.replicate 256 0) ++ (bs (List.replicate 256 0) ++ (bs (List.replicate 16 0) ++ (bs (List.replicate 16 0) ++ (.c (.pointer none) :: (.c (.pointer none) :: (.c (.int .i64 0) :: []))))))), false⟩ := by simp only [← zeros_bs, ← zeros_blv]; rfl
theorem E184 : E 184 = some ⟨TypeDesc.array 4 135, 1024, 1024, (bs (List.replicate 1024 0)), false⟩ := by simp only [← zeros_bs, ← zeros_blv]; rfl
theorem E185 : E 185 = some ⟨TypeDesc.array 4 184, 4096, 4096, (bs (List.replicate 4096 0)), false⟩ := by simp only [← zeros_bs, ← zeros_blv]; rfl
theorem E186 : E 186 = some ⟨TypeDesc.array 4 184, 4096, 4096, (bs (List.replicate 4096 0)), false⟩ := by simp only [← zeros_bs, ← zeros_blv]; rfl
theorem E205 : E 205 = some ⟨TypeDesc.int IntKind.u32, 1, 4, (.c (.int .u32 0) :: []), false⟩ := rfl
noncomputable def XX (ord : Nat → Tr) (flt : Nat → Flt) (mu : List FuncId) (m : Nat) : Cx := ⟨E, Try.prog, ord, flt, mu, m⟩
/-- The type facts, bundled. -/
theorem TT : type_of% (
  And.intro E2 <|
  And.intro E3 <|
  And.intro E4 <|
  And.intro E5 <|
  And.intro E9 <|
  And.intro E12 <|
  And.intro E13 <|
  And.intro E21 <|
  And.intro E22 <|
  And.intro E23 <|
  And.intro E26 <|
  And.intro E28 <|
  And.intro E38 <|
  And.intro E39 <|
  And.intro E40 <|
  And.intro E41 <|
  And.intro E44 <|
  And.intro E45 <|
  And.intro E49 <|
  And.intro E50 <|
  And.intro E51 <|
  And.intro E54 <|
  And.intro E55 <|
  And.intro E56 <|
  And.intro E60 <|
  And.intro E69 <|
  And.intro E87 <|
  And.intro E88 <|
  And.intro E89 <|
  And.intro E109 <|
  And.intro E117 <|
  And.intro E118 <|
  And.intro E119 <|
  And.intro E125 <|
  And.intro E135 <|
  And.intro E136 <|
  And.intro E137 <|
  And.intro E138 <|
  And.intro E139 <|
  And.intro E140 <|
  And.intro E141 <|
  And.intro E142 <|
  And.intro E143 <|
  And.intro E146 <|
  And.intro E147 <|
  And.intro E152 <|
  And.intro E155 <|
  And.intro E163 <|
  And.intro E167 <|
  And.intro E169 <|
  And.intro E170 <|
  And.intro E184 <|
  And.intro E185 <|
  And.intro E186 <|
  E205) :=
  And.intro E2 <|
  And.intro E3 <|
  And.intro E4 <|
  And.intro E5 <|
  And.intro E9 <|
  And.intro E12 <|
  And.intro E13 <|
  And.intro E21 <|
  And.intro E22 <|
  And.intro E23 <|
  And.intro E26 <|
  And.intro E28 <|
  And.intro E38 <|
  And.intro E39 <|
  And.intro E40 <|
  And.intro E41 <|
  And.intro E44 <|
  And.intro E45 <|
  And.intro E49 <|
  And.intro E50 <|
  And.intro E51 <|
  And.intro E54 <|
  And.intro E55 <|
  And.intro E56 <|
  And.intro E60 <|
  And.intro E69 <|
  And.intro E87 <|
  And.intro E88 <|
  And.intro E89 <|
  And.intro E109 <|
  And.intro E117 <|
  And.intro E118 <|
  And.intro E119 <|
  And.intro E125 <|
  And.intro E135 <|
  And.intro E136 <|
  And.intro E137 <|
  And.intro E138 <|
  And.intro E139 <|
  And.intro E140 <|
  And.intro E141 <|
  And.intro E142 <|
  And.intro E143 <|
  And.intro E146 <|
  And.intro E147 <|
  And.intro E152 <|
  And.intro E155 <|
  And.intro E163 <|
  And.intro E167 <|
  And.intro E169 <|
  And.intro E170 <|
  And.intro E184 <|
  And.intro E185 <|
  And.intro E186 <|
  E205
end Go.Proofs.Ytgdkpnchkalggaa

import Derived.Test.YtcfhdogmkbfnhaaVcgQ
import Derived.Test.YtcfhdogmkbfnhaaChecked
/- The types of this seat as my verification conditions see them: underlying type, size, bytes, zero cells; each checked against the program's own table. -/
set_option linter.unusedSimpArgs false
set_option linter.unusedVariables false
namespace Go.Proofs.Ytcfhdogmkbfnhaa
open Go Go.Vc
def T2 : TD := ⟨TypeDesc.int IntKind.i64, 1, 8, (.c (.int .i64 0) :: []), false⟩
def T3 : TD := ⟨TypeDesc.int IntKind.i64, 1, 8, (.c (.int .i64 0) :: []), false⟩
def T4 : TD := ⟨TypeDesc.bool, 1, 1, (.c (.bool false) :: []), false⟩
def T5 : TD := ⟨TypeDesc.int IntKind.u8, 1, 1, (.c (.int .u8 0) :: []), false⟩
def T9 : TD := ⟨TypeDesc.string, 1, 16, (.c (.string ⟨#[]⟩) :: []), false⟩
def T12 : TD := ⟨TypeDesc.int IntKind.u64, 1, 8, (.c (.int .u64 0) :: []), false⟩
def T13 : TD := ⟨TypeDesc.struct #[{ name := "msg", type := 9, offset := 0, embedded := false, tag := "", pkgPath := "runtime", byteOffset := 0 }, { name := "addr", type := 12, offset := 1, embedded := false, tag := "", pkgPath := "runtime", byteOffset := 16 }], 2, 24, (.c (.string ⟨#[]⟩) :: (.c (.int .u64 0) :: [])), false⟩
def T21 : TD := ⟨TypeDesc.int IntKind.i32, 1, 4, (.c (.int .i32 0) :: []), false⟩
def T22 : TD := ⟨TypeDesc.array 256 5, 256, 256, (List.replicate 256 (.c (.int .u8 0))), false⟩
def T23 : TD := ⟨TypeDesc.array 4 5, 4, 4, (.c (.int .u8 0) :: .c (.int .u8 0) :: .c (.int .u8 0) :: .c (.int .u8 0) :: []), false⟩
def T24 : TD := ⟨TypeDesc.array 4 23, 16, 16, (List.replicate 16 (.c (.int .u8 0))), false⟩
def T25 : TD := ⟨TypeDesc.array 16 5, 16, 16, (List.replicate 16 (.c (.int .u8 0))), false⟩
def T26 : TD := ⟨TypeDesc.struct #[{ name := "Field", type := 2, offset := 0, embedded := false, tag := "", pkgPath := "", byteOffset := 0 }, { name := "Box", type := 22, offset := 1, embedded := false, tag := "", pkgPath := "", byteOffset := 8 }, { name := "Mix", type := 24, offset := 257, embedded := false, tag := "", pkgPath := "", byteOffset := 264 }, { name := "Places", type := 25, offset := 273, embedded := false, tag := "", pkgPath := "", byteOffset := 280 }, { name := "Rounds", type := 2, offset := 289, embedded := false, tag := "", pkgPath := "", byteOffset := 296 }], 290, 304, (.c (.int .i64 0) :: (List.replicate 256 (.c (.int .u8 0)) ++ (List.replicate 16 (.c (.int .u8 0)) ++ (List.replicate 16 (.c (.int .u8 0)) ++ (.c (.int .i64 0) :: []))))), false⟩
def T27 : TD := ⟨TypeDesc.struct #[{ name := "Field", type := 2, offset := 0, embedded := false, tag := "", pkgPath := "", byteOffset := 0 }, { name := "Box", type := 22, offset := 1, embedded := false, tag := "", pkgPath := "", byteOffset := 8 }, { name := "Mix", type := 24, offset := 257, embedded := false, tag := "", pkgPath := "", byteOffset := 264 }, { name := "Places", type := 25, offset := 273, embedded := false, tag := "", pkgPath := "", byteOffset := 280 }, { name := "Rounds", type := 2, offset := 289, embedded := false, tag := "", pkgPath := "", byteOffset := 296 }], 290, 304, (.c (.int .i64 0) :: (List.replicate 256 (.c (.int .u8 0)) ++ (List.replicate 16 (.c (.int .u8 0)) ++ (List.replicate 16 (.c (.int .u8 0)) ++ (.c (.int .i64 0) :: []))))), false⟩
def T28 : TD := ⟨TypeDesc.slice 113, 1, 24, (.c (.slice none 0 0) :: []), false⟩
def T30 : TD := ⟨TypeDesc.slice 63, 1, 24, (.c (.slice none 0 0) :: []), false⟩
def T33 : TD := ⟨TypeDesc.array 256 5, 256, 256, (List.replicate 256 (.c (.int .u8 0))), false⟩
def T34 : TD := ⟨TypeDesc.array 4 23, 16, 16, (List.replicate 16 (.c (.int .u8 0))), false⟩
def T35 : TD := ⟨TypeDesc.array 16 5, 16, 16, (List.replicate 16 (.c (.int .u8 0))), false⟩
def T36 : TD := ⟨TypeDesc.struct #[{ name := "Field", type := 2, offset := 0, embedded := false, tag := "", pkgPath := "", byteOffset := 0 }, { name := "Box", type := 33, offset := 1, embedded := false, tag := "", pkgPath := "", byteOffset := 8 }, { name := "Mix", type := 34, offset := 257, embedded := false, tag := "", pkgPath := "", byteOffset := 264 }, { name := "Places", type := 35, offset := 273, embedded := false, tag := "", pkgPath := "", byteOffset := 280 }, { name := "Rounds", type := 2, offset := 289, embedded := false, tag := "", pkgPath := "", byteOffset := 296 }], 290, 304, (.c (.int .i64 0) :: (List.replicate 256 (.c (.int .u8 0)) ++ (List.replicate 16 (.c (.int .u8 0)) ++ (List.replicate 16 (.c (.int .u8 0)) ++ (.c (.int .i64 0) :: []))))), false⟩
def T37 : TD := ⟨TypeDesc.struct #[{ name := "Field", type := 2, offset := 0, embedded := false, tag := "", pkgPath := "", byteOffset := 0 }, { name := "Box", type := 33, offset := 1, embedded := false, tag := "", pkgPath := "", byteOffset := 8 }, { name := "Mix", type := 34, offset := 257, embedded := false, tag := "", pkgPath := "", byteOffset := 264 }, { name := "Places", type := 35, offset := 273, embedded := false, tag := "", pkgPath := "", byteOffset := 280 }, { name := "Rounds", type := 2, offset := 289, embedded := false, tag := "", pkgPath := "", byteOffset := 296 }], 290, 304, (.c (.int .i64 0) :: (List.replicate 256 (.c (.int .u8 0)) ++ (List.replicate 16 (.c (.int .u8 0)) ++ (List.replicate 16 (.c (.int .u8 0)) ++ (.c (.int .i64 0) :: []))))), false⟩
def T39 : TD := ⟨TypeDesc.array 16 5, 16, 16, (List.replicate 16 (.c (.int .u8 0))), false⟩
def T46 : TD := ⟨TypeDesc.slice 62, 1, 24, (.c (.slice none 0 0) :: []), false⟩
def T52 : TD := ⟨TypeDesc.slice 2, 1, 24, (.c (.slice none 0 0) :: []), false⟩
def T53 : TD := ⟨TypeDesc.struct #[{ name := "Keys", type := 46, offset := 0, embedded := false, tag := "", pkgPath := "", byteOffset := 0 }, { name := "Data", type := 28, offset := 1, embedded := false, tag := "", pkgPath := "", byteOffset := 24 }, { name := "Counts", type := 52, offset := 2, embedded := false, tag := "", pkgPath := "", byteOffset := 48 }], 3, 72, (.c (.slice none 0 0) :: (.c (.slice none 0 0) :: (.c (.slice none 0 0) :: []))), false⟩
def T54 : TD := ⟨TypeDesc.struct #[{ name := "Keys", type := 46, offset := 0, embedded := false, tag := "", pkgPath := "", byteOffset := 0 }, { name := "Data", type := 28, offset := 1, embedded := false, tag := "", pkgPath := "", byteOffset := 24 }, { name := "Counts", type := 52, offset := 2, embedded := false, tag := "", pkgPath := "", byteOffset := 48 }], 3, 72, (.c (.slice none 0 0) :: (.c (.slice none 0 0) :: (.c (.slice none 0 0) :: []))), false⟩
def T57 : TD := ⟨TypeDesc.struct #[{ name := "Keys", type := 30, offset := 0, embedded := false, tag := "", pkgPath := "", byteOffset := 0 }, { name := "Data", type := 28, offset := 1, embedded := false, tag := "", pkgPath := "", byteOffset := 24 }, { name := "Counts", type := 52, offset := 2, embedded := false, tag := "", pkgPath := "", byteOffset := 48 }], 3, 72, (.c (.slice none 0 0) :: (.c (.slice none 0 0) :: (.c (.slice none 0 0) :: []))), false⟩
def T58 : TD := ⟨TypeDesc.struct #[{ name := "Keys", type := 30, offset := 0, embedded := false, tag := "", pkgPath := "", byteOffset := 0 }, { name := "Data", type := 28, offset := 1, embedded := false, tag := "", pkgPath := "", byteOffset := 24 }, { name := "Counts", type := 52, offset := 2, embedded := false, tag := "", pkgPath := "", byteOffset := 48 }], 3, 72, (.c (.slice none 0 0) :: (.c (.slice none 0 0) :: (.c (.slice none 0 0) :: []))), false⟩
def T62 : TD := ⟨TypeDesc.array 32 5, 32, 32, (List.replicate 32 (.c (.int .u8 0))), false⟩
def T63 : TD := ⟨TypeDesc.array 32 5, 32, 32, (List.replicate 32 (.c (.int .u8 0))), false⟩
def T67 : TD := ⟨TypeDesc.struct #[{ name := "Field", type := 2, offset := 0, embedded := false, tag := "", pkgPath := "", byteOffset := 0 }, { name := "Box", type := 22, offset := 1, embedded := false, tag := "", pkgPath := "", byteOffset := 8 }, { name := "Mix", type := 24, offset := 257, embedded := false, tag := "", pkgPath := "", byteOffset := 264 }, { name := "Kind", type := 2, offset := 273, embedded := false, tag := "", pkgPath := "", byteOffset := 280 }, { name := "Rounds", type := 2, offset := 274, embedded := false, tag := "", pkgPath := "", byteOffset := 288 }], 275, 296, (.c (.int .i64 0) :: (List.replicate 256 (.c (.int .u8 0)) ++ (List.replicate 16 (.c (.int .u8 0)) ++ (.c (.int .i64 0) :: (.c (.int .i64 0) :: []))))), false⟩
def T68 : TD := ⟨TypeDesc.struct #[{ name := "Field", type := 2, offset := 0, embedded := false, tag := "", pkgPath := "", byteOffset := 0 }, { name := "Box", type := 22, offset := 1, embedded := false, tag := "", pkgPath := "", byteOffset := 8 }, { name := "Mix", type := 24, offset := 257, embedded := false, tag := "", pkgPath := "", byteOffset := 264 }, { name := "Kind", type := 2, offset := 273, embedded := false, tag := "", pkgPath := "", byteOffset := 280 }, { name := "Rounds", type := 2, offset := 274, embedded := false, tag := "", pkgPath := "", byteOffset := 288 }], 275, 296, (.c (.int .i64 0) :: (List.replicate 256 (.c (.int .u8 0)) ++ (List.replicate 16 (.c (.int .u8 0)) ++ (.c (.int .i64 0) :: (.c (.int .i64 0) :: []))))), false⟩
def T69 : TD := ⟨TypeDesc.slice 81, 1, 24, (.c (.slice none 0 0) :: []), false⟩
def T73 : TD := ⟨TypeDesc.struct #[{ name := "Field", type := 2, offset := 0, embedded := false, tag := "", pkgPath := "", byteOffset := 0 }, { name := "Box", type := 33, offset := 1, embedded := false, tag := "", pkgPath := "", byteOffset := 8 }, { name := "Mix", type := 34, offset := 257, embedded := false, tag := "", pkgPath := "", byteOffset := 264 }, { name := "Kind", type := 2, offset := 273, embedded := false, tag := "", pkgPath := "", byteOffset := 280 }, { name := "Rounds", type := 2, offset := 274, embedded := false, tag := "", pkgPath := "", byteOffset := 288 }], 275, 296, (.c (.int .i64 0) :: (List.replicate 256 (.c (.int .u8 0)) ++ (List.replicate 16 (.c (.int .u8 0)) ++ (.c (.int .i64 0) :: (.c (.int .i64 0) :: []))))), false⟩
def T74 : TD := ⟨TypeDesc.struct #[{ name := "Field", type := 2, offset := 0, embedded := false, tag := "", pkgPath := "", byteOffset := 0 }, { name := "Box", type := 33, offset := 1, embedded := false, tag := "", pkgPath := "", byteOffset := 8 }, { name := "Mix", type := 34, offset := 257, embedded := false, tag := "", pkgPath := "", byteOffset := 264 }, { name := "Kind", type := 2, offset := 273, embedded := false, tag := "", pkgPath := "", byteOffset := 280 }, { name := "Rounds", type := 2, offset := 274, embedded := false, tag := "", pkgPath := "", byteOffset := 288 }], 275, 296, (.c (.int .i64 0) :: (List.replicate 256 (.c (.int .u8 0)) ++ (List.replicate 16 (.c (.int .u8 0)) ++ (.c (.int .i64 0) :: (.c (.int .i64 0) :: []))))), false⟩
def T76 : TD := ⟨TypeDesc.slice 87, 1, 24, (.c (.slice none 0 0) :: []), false⟩
def T81 : TD := ⟨TypeDesc.array 8 5, 8, 8, (List.replicate 8 (.c (.int .u8 0))), false⟩
def T82 : TD := ⟨TypeDesc.slice 25, 1, 24, (.c (.slice none 0 0) :: []), false⟩
def T84 : TD := ⟨TypeDesc.slice 52, 1, 24, (.c (.slice none 0 0) :: []), false⟩
def T87 : TD := ⟨TypeDesc.array 8 5, 8, 8, (List.replicate 8 (.c (.int .u8 0))), false⟩
def T89 : TD := ⟨TypeDesc.slice 39, 1, 24, (.c (.slice none 0 0) :: []), false⟩
def T96 : TD := ⟨TypeDesc.slice 46, 1, 24, (.c (.slice none 0 0) :: []), false⟩
def T97 : TD := ⟨TypeDesc.struct #[{ name := "Place", type := 2, offset := 0, embedded := false, tag := "", pkgPath := "", byteOffset := 0 }, { name := "Neighbours", type := 46, offset := 1, embedded := false, tag := "", pkgPath := "", byteOffset := 8 }, { name := "Proofs", type := 96, offset := 2, embedded := false, tag := "", pkgPath := "", byteOffset := 32 }], 3, 56, (.c (.int .i64 0) :: (.c (.slice none 0 0) :: (.c (.slice none 0 0) :: []))), false⟩
def T98 : TD := ⟨TypeDesc.struct #[{ name := "Place", type := 2, offset := 0, embedded := false, tag := "", pkgPath := "", byteOffset := 0 }, { name := "Neighbours", type := 46, offset := 1, embedded := false, tag := "", pkgPath := "", byteOffset := 8 }, { name := "Proofs", type := 96, offset := 2, embedded := false, tag := "", pkgPath := "", byteOffset := 32 }], 3, 56, (.c (.int .i64 0) :: (.c (.slice none 0 0) :: (.c (.slice none 0 0) :: []))), false⟩
def T102 : TD := ⟨TypeDesc.slice 30, 1, 24, (.c (.slice none 0 0) :: []), false⟩
def T103 : TD := ⟨TypeDesc.struct #[{ name := "Place", type := 2, offset := 0, embedded := false, tag := "", pkgPath := "", byteOffset := 0 }, { name := "Neighbours", type := 30, offset := 1, embedded := false, tag := "", pkgPath := "", byteOffset := 8 }, { name := "Proofs", type := 102, offset := 2, embedded := false, tag := "", pkgPath := "", byteOffset := 32 }], 3, 56, (.c (.int .i64 0) :: (.c (.slice none 0 0) :: (.c (.slice none 0 0) :: []))), false⟩
def T104 : TD := ⟨TypeDesc.struct #[{ name := "Place", type := 2, offset := 0, embedded := false, tag := "", pkgPath := "", byteOffset := 0 }, { name := "Neighbours", type := 30, offset := 1, embedded := false, tag := "", pkgPath := "", byteOffset := 8 }, { name := "Proofs", type := 102, offset := 2, embedded := false, tag := "", pkgPath := "", byteOffset := 32 }], 3, 56, (.c (.int .i64 0) :: (.c (.slice none 0 0) :: (.c (.slice none 0 0) :: []))), false⟩
def T113 : TD := ⟨TypeDesc.slice 5, 1, 24, (.c (.slice none 0 0) :: []), false⟩
def T121 : TD := ⟨TypeDesc.pointer 177, 1, 8, (.c (.pointer none) :: []), false⟩
def T128 : TD := ⟨TypeDesc.struct #[{ name := "engine", type := 121, offset := 0, embedded := false, tag := "", pkgPath := "loop.example/g01182/impl", byteOffset := 0 }], 1, 8, (.c (.pointer none) :: []), false⟩
def T129 : TD := ⟨TypeDesc.struct #[{ name := "engine", type := 121, offset := 0, embedded := false, tag := "", pkgPath := "loop.example/g01182/impl", byteOffset := 0 }], 1, 8, (.c (.pointer none) :: []), false⟩
def T135 : TD := ⟨TypeDesc.pointer 193, 1, 8, (.c (.pointer none) :: []), false⟩
def T148 : TD := ⟨TypeDesc.array 2 2, 2, 16, (.c (.int .i64 0) :: .c (.int .i64 0) :: []), false⟩
def T159 : TD := ⟨TypeDesc.array 2 3, 2, 16, (.c (.int .i64 0) :: .c (.int .i64 0) :: []), false⟩
def T170 : TD := ⟨TypeDesc.int IntKind.i64, 1, 8, (.c (.int .i64 0) :: []), false⟩
def T174 : TD := ⟨TypeDesc.pointer 212, 1, 8, (.c (.pointer none) :: []), false⟩
def T176 : TD := ⟨TypeDesc.struct #[{ name := "box", type := 33, offset := 0, embedded := false, tag := "", pkgPath := "loop.example/g01182/impl", byteOffset := 0 }, { name := "backBox", type := 33, offset := 256, embedded := false, tag := "", pkgPath := "loop.example/g01182/impl", byteOffset := 256 }, { name := "places", type := 35, offset := 512, embedded := false, tag := "", pkgPath := "loop.example/g01182/impl", byteOffset := 512 }, { name := "backPlaces", type := 35, offset := 528, embedded := false, tag := "", pkgPath := "loop.example/g01182/impl", byteOffset := 528 }, { name := "mixer", type := 174, offset := 544, embedded := false, tag := "", pkgPath := "loop.example/g01182/impl", byteOffset := 544 }, { name := "backMixer", type := 174, offset := 545, embedded := false, tag := "", pkgPath := "loop.example/g01182/impl", byteOffset := 552 }, { name := "rounds", type := 2, offset := 546, embedded := false, tag := "", pkgPath := "loop.example/g01182/impl", byteOffset := 560 }], 547, 568, (List.replicate 256 (.c (.int .u8 0)) ++ (List.replicate 256 (.c (.int .u8 0)) ++ (List.replicate 16 (.c (.int .u8 0)) ++ (List.replicate 16 (.c (.int .u8 0)) ++ (.c (.pointer none) :: (.c (.pointer none) :: (.c (.int .i64 0) :: []))))))), false⟩
def T177 : TD := ⟨TypeDesc.struct #[{ name := "box", type := 33, offset := 0, embedded := false, tag := "", pkgPath := "loop.example/g01182/impl", byteOffset := 0 }, { name := "backBox", type := 33, offset := 256, embedded := false, tag := "", pkgPath := "loop.example/g01182/impl", byteOffset := 256 }, { name := "places", type := 35, offset := 512, embedded := false, tag := "", pkgPath := "loop.example/g01182/impl", byteOffset := 512 }, { name := "backPlaces", type := 35, offset := 528, embedded := false, tag := "", pkgPath := "loop.example/g01182/impl", byteOffset := 528 }, { name := "mixer", type := 174, offset := 544, embedded := false, tag := "", pkgPath := "loop.example/g01182/impl", byteOffset := 544 }, { name := "backMixer", type := 174, offset := 545, embedded := false, tag := "", pkgPath := "loop.example/g01182/impl", byteOffset := 552 }, { name := "rounds", type := 2, offset := 546, embedded := false, tag := "", pkgPath := "loop.example/g01182/impl", byteOffset := 560 }], 547, 568, (List.replicate 256 (.c (.int .u8 0)) ++ (List.replicate 256 (.c (.int .u8 0)) ++ (List.replicate 16 (.c (.int .u8 0)) ++ (List.replicate 16 (.c (.int .u8 0)) ++ (.c (.pointer none) :: (.c (.pointer none) :: (.c (.int .i64 0) :: []))))))), false⟩
def T192 : TD := ⟨TypeDesc.struct #[{ name := "box", type := 33, offset := 0, embedded := false, tag := "", pkgPath := "loop.example/g01182/impl", byteOffset := 0 }, { name := "backBox", type := 33, offset := 256, embedded := false, tag := "", pkgPath := "loop.example/g01182/impl", byteOffset := 256 }, { name := "mixer", type := 174, offset := 512, embedded := false, tag := "", pkgPath := "loop.example/g01182/impl", byteOffset := 512 }, { name := "backMixer", type := 174, offset := 513, embedded := false, tag := "", pkgPath := "loop.example/g01182/impl", byteOffset := 520 }, { name := "kind", type := 2, offset := 514, embedded := false, tag := "", pkgPath := "loop.example/g01182/impl", byteOffset := 528 }], 515, 536, (List.replicate 256 (.c (.int .u8 0)) ++ (List.replicate 256 (.c (.int .u8 0)) ++ (.c (.pointer none) :: (.c (.pointer none) :: (.c (.int .i64 0) :: []))))), false⟩
def T193 : TD := ⟨TypeDesc.struct #[{ name := "box", type := 33, offset := 0, embedded := false, tag := "", pkgPath := "loop.example/g01182/impl", byteOffset := 0 }, { name := "backBox", type := 33, offset := 256, embedded := false, tag := "", pkgPath := "loop.example/g01182/impl", byteOffset := 256 }, { name := "mixer", type := 174, offset := 512, embedded := false, tag := "", pkgPath := "loop.example/g01182/impl", byteOffset := 512 }, { name := "backMixer", type := 174, offset := 513, embedded := false, tag := "", pkgPath := "loop.example/g01182/impl", byteOffset := 520 }, { name := "kind", type := 2, offset := 514, embedded := false, tag := "", pkgPath := "loop.example/g01182/impl", byteOffset := 528 }], 515, 536, (List.replicate 256 (.c (.int .u8 0)) ++ (List.replicate 256 (.c (.int .u8 0)) ++ (.c (.pointer none) :: (.c (.pointer none) :: (.c (.int .i64 0) :: []))))), false⟩
def T202 : TD := ⟨TypeDesc.int IntKind.u64, 1, 8, (.c (.int .u64 0) :: []), false⟩
def T210 : TD := ⟨TypeDesc.array 4 22, 1024, 1024, (List.replicate 1024 (.c (.int .u8 0))), false⟩
def T211 : TD := ⟨TypeDesc.array 4 210, 4096, 4096, (List.replicate 4096 (.c (.int .u8 0))), false⟩
def T212 : TD := ⟨TypeDesc.array 4 210, 4096, 4096, (List.replicate 4096 (.c (.int .u8 0))), false⟩
def T221 : TD := ⟨TypeDesc.array 256 4, 256, 256, (List.replicate 256 (.c (.bool false))), false⟩
def T225 : TD := ⟨TypeDesc.slice 4, 1, 24, (.c (.slice none 0 0) :: []), false⟩
def T231 : TD := ⟨TypeDesc.array 16 4, 16, 16, (List.replicate 16 (.c (.bool false))), false⟩
def T237 : TD := ⟨TypeDesc.int IntKind.u64, 1, 8, (.c (.int .u64 0) :: []), false⟩
def T260 : TD := ⟨TypeDesc.int IntKind.u32, 1, 4, (.c (.int .u32 0) :: []), false⟩
def E : Env := fun t => match t with
  | 2 => some T2
  | 3 => some T3
  | 4 => some T4
  | 5 => some T5
  | 9 => some T9
  | 12 => some T12
  | 13 => some T13
  | 21 => some T21
  | 22 => some T22
  | 23 => some T23
  | 24 => some T24
  | 25 => some T25
  | 26 => some T26
  | 27 => some T27
  | 28 => some T28
  | 30 => some T30
  | 33 => some T33
  | 34 => some T34
  | 35 => some T35
  | 36 => some T36
  | 37 => some T37
  | 39 => some T39
  | 46 => some T46
  | 52 => some T52
  | 53 => some T53
  | 54 => some T54
  | 57 => some T57
  | 58 => some T58
  | 62 => some T62
  | 63 => some T63
  | 67 => some T67
  | 68 => some T68
  | 69 => some T69
  | 73 => some T73
  | 74 => some T74
  | 76 => some T76
  | 81 => some T81
  | 82 => some T82
  | 84 => some T84
  | 87 => some T87
  | 89 => some T89
  | 96 => some T96
  | 97 => some T97
  | 98 => some T98
  | 102 => some T102
  | 103 => some T103
  | 104 => some T104
  | 113 => some T113
  | 121 => some T121
  | 128 => some T128
  | 129 => some T129
  | 135 => some T135
  | 148 => some T148
  | 159 => some T159
  | 170 => some T170
  | 174 => some T174
  | 176 => some T176
  | 177 => some T177
  | 192 => some T192
  | 193 => some T193
  | 202 => some T202
  | 210 => some T210
  | 211 => some T211
  | 212 => some T212
  | 221 => some T221
  | 225 => some T225
  | 231 => some T231
  | 237 => some T237
  | 260 => some T260
  | _ => none
theorem i2 : ∃ i z, Try.prog.info? 2 = some i ∧ i.size = T2.size ∧ i.bytes = T2.bytes ∧ i.zero = some z ∧ z.cells.toList.map V.c = T2.zero ∧ (∀ c ∈ z.cells.toList, c.oneCell' = true) ∧ T2.zero.length = T2.size := ⟨Try.t2, _, by kernel_rfl, by kernel_rfl, by kernel_rfl, rfl, by kernel_rfl, List.all_eq_true.1 (by kernel_rfl), by kernel_rfl⟩
theorem i3 : ∃ i z, Try.prog.info? 3 = some i ∧ i.size = T3.size ∧ i.bytes = T3.bytes ∧ i.zero = some z ∧ z.cells.toList.map V.c = T3.zero ∧ (∀ c ∈ z.cells.toList, c.oneCell' = true) ∧ T3.zero.length = T3.size := ⟨Try.t3, _, by kernel_rfl, by kernel_rfl, by kernel_rfl, rfl, by kernel_rfl, List.all_eq_true.1 (by kernel_rfl), by kernel_rfl⟩
theorem i4 : ∃ i z, Try.prog.info? 4 = some i ∧ i.size = T4.size ∧ i.bytes = T4.bytes ∧ i.zero = some z ∧ z.cells.toList.map V.c = T4.zero ∧ (∀ c ∈ z.cells.toList, c.oneCell' = true) ∧ T4.zero.length = T4.size := ⟨Try.t4, _, by kernel_rfl, by kernel_rfl, by kernel_rfl, rfl, by kernel_rfl, List.all_eq_true.1 (by kernel_rfl), by kernel_rfl⟩
theorem i5 : ∃ i z, Try.prog.info? 5 = some i ∧ i.size = T5.size ∧ i.bytes = T5.bytes ∧ i.zero = some z ∧ z.cells.toList.map V.c = T5.zero ∧ (∀ c ∈ z.cells.toList, c.oneCell' = true) ∧ T5.zero.length = T5.size := ⟨Try.t5, _, by kernel_rfl, by kernel_rfl, by kernel_rfl, rfl, by kernel_rfl, List.all_eq_true.1 (by kernel_rfl), by kernel_rfl⟩
theorem i9 : ∃ i z, Try.prog.info? 9 = some i ∧ i.size = T9.size ∧ i.bytes = T9.bytes ∧ i.zero = some z ∧ z.cells.toList.map V.c = T9.zero ∧ (∀ c ∈ z.cells.toList, c.oneCell' = true) ∧ T9.zero.length = T9.size := ⟨Try.t9, _, by kernel_rfl, by kernel_rfl, by kernel_rfl, rfl, by kernel_rfl, List.all_eq_true.1 (by kernel_rfl), by kernel_rfl⟩
theorem i12 : ∃ i z, Try.prog.info? 12 = some i ∧ i.size = T12.size ∧ i.bytes = T12.bytes ∧ i.zero = some z ∧ z.cells.toList.map V.c = T12.zero ∧ (∀ c ∈ z.cells.toList, c.oneCell' = true) ∧ T12.zero.length = T12.size := ⟨Try.t12, _, by kernel_rfl, by kernel_rfl, by kernel_rfl, rfl, by kernel_rfl, List.all_eq_true.1 (by kernel_rfl), by kernel_rfl⟩
theorem i13 : ∃ i z, Try.prog.info? 13 = some i ∧ i.size = T13.size ∧ i.bytes = T13.bytes ∧ i.zero = some z ∧ z.cells.toList.map V.c = T13.zero ∧ (∀ c ∈ z.cells.toList, c.oneCell' = true) ∧ T13.zero.length = T13.size := ⟨Try.t13, _, by kernel_rfl, by kernel_rfl, by kernel_rfl, rfl, by kernel_rfl, List.all_eq_true.1 (by kernel_rfl), by kernel_rfl⟩
theorem i21 : ∃ i z, Try.prog.info? 21 = some i ∧ i.size = T21.size ∧ i.bytes = T21.bytes ∧ i.zero = some z ∧ z.cells.toList.map V.c = T21.zero ∧ (∀ c ∈ z.cells.toList, c.oneCell' = true) ∧ T21.zero.length = T21.size := ⟨Try.t21, _, by kernel_rfl, by kernel_rfl, by kernel_rfl, rfl, by kernel_rfl, List.all_eq_true.1 (by kernel_rfl), by kernel_rfl⟩
theorem i22 : ∃ i z, Try.prog.info? 22 = some i ∧ i.size = T22.size ∧ i.bytes = T22.bytes ∧ i.zero = some z ∧ z.cells.toList.map V.c = T22.zero ∧ (∀ c ∈ z.cells.toList, c.oneCell' = true) ∧ T22.zero.length = T22.size := ⟨Try.t22, _, by kernel_rfl, by kernel_rfl, by kernel_rfl, rfl, by kernel_rfl, List.all_eq_true.1 (by kernel_rfl), by kernel_rfl⟩
theorem i23 : ∃ i z, Try.prog.info? 23 = some i ∧ i.size = T23.size ∧ i.bytes = T23.bytes ∧ i.zero = some z ∧ z.cells.toList.map V.c = T23.zero ∧ (∀ c ∈ z.cells.toList, c.oneCell' = true) ∧ T23.zero.length = T23.size := ⟨Try.t23, _, by kernel_rfl, by kernel_rfl, by kernel_rfl, rfl, by kernel_rfl, List.all_eq_true.1 (by kernel_rfl), by kernel_rfl⟩
theorem i24 : ∃ i z, Try.prog.info? 24 = some i ∧ i.size = T24.size ∧ i.bytes = T24.bytes ∧ i.zero = some z ∧ z.cells.toList.map V.c = T24.zero ∧ (∀ c ∈ z.cells.toList, c.oneCell' = true) ∧ T24.zero.length = T24.size := ⟨Try.t24, _, by kernel_rfl, by kernel_rfl, by kernel_rfl, rfl, by kernel_rfl, List.all_eq_true.1 (by kernel_rfl), by kernel_rfl⟩
theorem i25 : ∃ i z, Try.prog.info? 25 = some i ∧ i.size = T25.size ∧ i.bytes = T25.bytes ∧ i.zero = some z ∧ z.cells.toList.map V.c = T25.zero ∧ (∀ c ∈ z.cells.toList, c.oneCell' = true) ∧ T25.zero.length = T25.size := ⟨Try.t25, _, by kernel_rfl, by kernel_rfl, by kernel_rfl, rfl, by kernel_rfl, List.all_eq_true.1 (by kernel_rfl), by kernel_rfl⟩
theorem i26 : ∃ i z, Try.prog.info? 26 = some i ∧ i.size = T26.size ∧ i.bytes = T26.bytes ∧ i.zero = some z ∧ z.cells.toList.map V.c = T26.zero ∧ (∀ c ∈ z.cells.toList, c.oneCell' = true) ∧ T26.zero.length = T26.size := ⟨Try.t26, _, by kernel_rfl, by kernel_rfl, by kernel_rfl, rfl, by kernel_rfl, List.all_eq_true.1 (by kernel_rfl), by kernel_rfl⟩
theorem i27 : ∃ i z, Try.prog.info? 27 = some i ∧ i.size = T27.size ∧ i.bytes = T27.bytes ∧ i.zero = some z ∧ z.cells.toList.map V.c = T27.zero ∧ (∀ c ∈ z.cells.toList, c.oneCell' = true) ∧ T27.zero.length = T27.size := ⟨Try.t27, _, by kernel_rfl, by kernel_rfl, by kernel_rfl, rfl, by kernel_rfl, List.all_eq_true.1 (by kernel_rfl), by kernel_rfl⟩
theorem i28 : ∃ i z, Try.prog.info? 28 = some i ∧ i.size = T28.size ∧ i.bytes = T28.bytes ∧ i.zero = some z ∧ z.cells.toList.map V.c = T28.zero ∧ (∀ c ∈ z.cells.toList, c.oneCell' = true) ∧ T28.zero.length = T28.size := ⟨Try.t28, _, by kernel_rfl, by kernel_rfl, by kernel_rfl, rfl, by kernel_rfl, List.all_eq_true.1 (by kernel_rfl), by kernel_rfl⟩
theorem i30 : ∃ i z, Try.prog.info? 30 = some i ∧ i.size = T30.size ∧ i.bytes = T30.bytes ∧ i.zero = some z ∧ z.cells.toList.map V.c = T30.zero ∧ (∀ c ∈ z.cells.toList, c.oneCell' = true) ∧ T30.zero.length = T30.size := ⟨Try.t30, _, by kernel_rfl, by kernel_rfl, by kernel_rfl, rfl, by kernel_rfl, List.all_eq_true.1 (by kernel_rfl), by kernel_rfl⟩
theorem i33 : ∃ i z, Try.prog.info? 33 = some i ∧ i.size = T33.size ∧ i.bytes = T33.bytes ∧ i.zero = some z ∧ z.cells.toList.map V.c = T33.zero ∧ (∀ c ∈ z.cells.toList, c.oneCell' = true) ∧ T33.zero.length = T33.size := ⟨Try.t33, _, by kernel_rfl, by kernel_rfl, by kernel_rfl, rfl, by kernel_rfl, List.all_eq_true.1 (by kernel_rfl), by kernel_rfl⟩
theorem i34 : ∃ i z, Try.prog.info? 34 = some i ∧ i.size = T34.size ∧ i.bytes = T34.bytes ∧ i.zero = some z ∧ z.cells.toList.map V.c = T34.zero ∧ (∀ c ∈ z.cells.toList, c.oneCell' = true) ∧ T34.zero.length = T34.size := ⟨Try.t34, _, by kernel_rfl, by kernel_rfl, by kernel_rfl, rfl, by kernel_rfl, List.all_eq_true.1 (by kernel_rfl), by kernel_rfl⟩
theorem i35 : ∃ i z, Try.prog.info? 35 = some i ∧ i.size = T35.size ∧ i.bytes = T35.bytes ∧ i.zero = some z ∧ z.cells.toList.map V.c = T35.zero ∧ (∀ c ∈ z.cells.toList, c.oneCell' = true) ∧ T35.zero.length = T35.size := ⟨Try.t35, _, by kernel_rfl, by kernel_rfl, by kernel_rfl, rfl, by kernel_rfl, List.all_eq_true.1 (by kernel_rfl), by kernel_rfl⟩
theorem i36 : ∃ i z, Try.prog.info? 36 = some i ∧ i.size = T36.size ∧ i.bytes = T36.bytes ∧ i.zero = some z ∧ z.cells.toList.map V.c = T36.zero ∧ (∀ c ∈ z.cells.toList, c.oneCell' = true) ∧ T36.zero.length = T36.size := ⟨Try.t36, _, by kernel_rfl, by kernel_rfl, by kernel_rfl, rfl, by kernel_rfl, List.all_eq_true.1 (by kernel_rfl), by kernel_rfl⟩
theorem i37 : ∃ i z, Try.prog.info? 37 = some i ∧ i.size = T37.size ∧ i.bytes = T37.bytes ∧ i.zero = some z ∧ z.cells.toList.map V.c = T37.zero ∧ (∀ c ∈ z.cells.toList, c.oneCell' = true) ∧ T37.zero.length = T37.size := ⟨Try.t37, _, by kernel_rfl, by kernel_rfl, by kernel_rfl, rfl, by kernel_rfl, List.all_eq_true.1 (by kernel_rfl), by kernel_rfl⟩
theorem i39 : ∃ i z, Try.prog.info? 39 = some i ∧ i.size = T39.size ∧ i.bytes = T39.bytes ∧ i.zero = some z ∧ z.cells.toList.map V.c = T39.zero ∧ (∀ c ∈ z.cells.toList, c.oneCell' = true) ∧ T39.zero.length = T39.size := ⟨Try.t39, _, by kernel_rfl, by kernel_rfl, by kernel_rfl, rfl, by kernel_rfl, List.all_eq_true.1 (by kernel_rfl), by kernel_rfl⟩
theorem i46 : ∃ i z, Try.prog.info? 46 = some i ∧ i.size = T46.size ∧ i.bytes = T46.bytes ∧ i.zero = some z ∧ z.cells.toList.map V.c = T46.zero ∧ (∀ c ∈ z.cells.toList, c.oneCell' = true) ∧ T46.zero.length = T46.size := ⟨Try.t46, _, by kernel_rfl, by kernel_rfl, by kernel_rfl, rfl, by kernel_rfl, List.all_eq_true.1 (by kernel_rfl), by kernel_rfl⟩
theorem i52 : ∃ i z, Try.prog.info? 52 = some i ∧ i.size = T52.size ∧ i.bytes = T52.bytes ∧ i.zero = some z ∧ z.cells.toList.map V.c = T52.zero ∧ (∀ c ∈ z.cells.toList, c.oneCell' = true) ∧ T52.zero.length = T52.size := ⟨Try.t52, _, by kernel_rfl, by kernel_rfl, by kernel_rfl, rfl, by kernel_rfl, List.all_eq_true.1 (by kernel_rfl), by kernel_rfl⟩
theorem i53 : ∃ i z, Try.prog.info? 53 = some i ∧ i.size = T53.size ∧ i.bytes = T53.bytes ∧ i.zero = some z ∧ z.cells.toList.map V.c = T53.zero ∧ (∀ c ∈ z.cells.toList, c.oneCell' = true) ∧ T53.zero.length = T53.size := ⟨Try.t53, _, by kernel_rfl, by kernel_rfl, by kernel_rfl, rfl, by kernel_rfl, List.all_eq_true.1 (by kernel_rfl), by kernel_rfl⟩
theorem i54 : ∃ i z, Try.prog.info? 54 = some i ∧ i.size = T54.size ∧ i.bytes = T54.bytes ∧ i.zero = some z ∧ z.cells.toList.map V.c = T54.zero ∧ (∀ c ∈ z.cells.toList, c.oneCell' = true) ∧ T54.zero.length = T54.size := ⟨Try.t54, _, by kernel_rfl, by kernel_rfl, by kernel_rfl, rfl, by kernel_rfl, List.all_eq_true.1 (by kernel_rfl), by kernel_rfl⟩
theorem i57 : ∃ i z, Try.prog.info? 57 = some i ∧ i.size = T57.size ∧ i.bytes = T57.bytes ∧ i.zero = some z ∧ z.cells.toList.map V.c = T57.zero ∧ (∀ c ∈ z.cells.toList, c.oneCell' = true) ∧ T57.zero.length = T57.size := ⟨Try.t57, _, by kernel_rfl, by kernel_rfl, by kernel_rfl, rfl, by kernel_rfl, List.all_eq_true.1 (by kernel_rfl), by kernel_rfl⟩
theorem i58 : ∃ i z, Try.prog.info? 58 = some i ∧ i.size = T58.size ∧ i.bytes = T58.bytes ∧ i.zero = some z ∧ z.cells.toList.map V.c = T58.zero ∧ (∀ c ∈ z.cells.toList, c.oneCell' = true) ∧ T58.zero.length = T58.size := ⟨Try.t58, _, by kernel_rfl, by kernel_rfl, by kernel_rfl, rfl, by kernel_rfl, List.all_eq_true.1 (by kernel_rfl), by kernel_rfl⟩
theorem i62 : ∃ i z, Try.prog.info? 62 = some i ∧ i.size = T62.size ∧ i.bytes = T62.bytes ∧ i.zero = some z ∧ z.cells.toList.map V.c = T62.zero ∧ (∀ c ∈ z.cells.toList, c.oneCell' = true) ∧ T62.zero.length = T62.size := ⟨Try.t62, _, by kernel_rfl, by kernel_rfl, by kernel_rfl, rfl, by kernel_rfl, List.all_eq_true.1 (by kernel_rfl), by kernel_rfl⟩
theorem i63 : ∃ i z, Try.prog.info? 63 = some i ∧ i.size = T63.size ∧ i.bytes = T63.bytes ∧ i.zero = some z ∧ z.cells.toList.map V.c = T63.zero ∧ (∀ c ∈ z.cells.toList, c.oneCell' = true) ∧ T63.zero.length = T63.size := ⟨Try.t63, _, by kernel_rfl, by kernel_rfl, by kernel_rfl, rfl, by kernel_rfl, List.all_eq_true.1 (by kernel_rfl), by kernel_rfl⟩
theorem i67 : ∃ i z, Try.prog.info? 67 = some i ∧ i.size = T67.size ∧ i.bytes = T67.bytes ∧ i.zero = some z ∧ z.cells.toList.map V.c = T67.zero ∧ (∀ c ∈ z.cells.toList, c.oneCell' = true) ∧ T67.zero.length = T67.size := ⟨Try.t67, _, by kernel_rfl, by kernel_rfl, by kernel_rfl, rfl, by kernel_rfl, List.all_eq_true.1 (by kernel_rfl), by kernel_rfl⟩
theorem i68 : ∃ i z, Try.prog.info? 68 = some i ∧ i.size = T68.size ∧ i.bytes = T68.bytes ∧ i.zero = some z ∧ z.cells.toList.map V.c = T68.zero ∧ (∀ c ∈ z.cells.toList, c.oneCell' = true) ∧ T68.zero.length = T68.size := ⟨Try.t68, _, by kernel_rfl, by kernel_rfl, by kernel_rfl, rfl, by kernel_rfl, List.all_eq_true.1 (by kernel_rfl), by kernel_rfl⟩
theorem i69 : ∃ i z, Try.prog.info? 69 = some i ∧ i.size = T69.size ∧ i.bytes = T69.bytes ∧ i.zero = some z ∧ z.cells.toList.map V.c = T69.zero ∧ (∀ c ∈ z.cells.toList, c.oneCell' = true) ∧ T69.zero.length = T69.size := ⟨Try.t69, _, by kernel_rfl, by kernel_rfl, by kernel_rfl, rfl, by kernel_rfl, List.all_eq_true.1 (by kernel_rfl), by kernel_rfl⟩
theorem i73 : ∃ i z, Try.prog.info? 73 = some i ∧ i.size = T73.size ∧ i.bytes = T73.bytes ∧ i.zero = some z ∧ z.cells.toList.map V.c = T73.zero ∧ (∀ c ∈ z.cells.toList, c.oneCell' = true) ∧ T73.zero.length = T73.size := ⟨Try.t73, _, by kernel_rfl, by kernel_rfl, by kernel_rfl, rfl, by kernel_rfl, List.all_eq_true.1 (by kernel_rfl), by kernel_rfl⟩
theorem i74 : ∃ i z, Try.prog.info? 74 = some i ∧ i.size = T74.size ∧ i.bytes = T74.bytes ∧ i.zero = some z ∧ z.cells.toList.map V.c = T74.zero ∧ (∀ c ∈ z.cells.toList, c.oneCell' = true) ∧ T74.zero.length = T74.size := ⟨Try.t74, _, by kernel_rfl, by kernel_rfl, by kernel_rfl, rfl, by kernel_rfl, List.all_eq_true.1 (by kernel_rfl), by kernel_rfl⟩
theorem i76 : ∃ i z, Try.prog.info? 76 = some i ∧ i.size = T76.size ∧ i.bytes = T76.bytes ∧ i.zero = some z ∧ z.cells.toList.map V.c = T76.zero ∧ (∀ c ∈ z.cells.toList, c.oneCell' = true) ∧ T76.zero.length = T76.size := ⟨Try.t76, _, by kernel_rfl, by kernel_rfl, by kernel_rfl, rfl, by kernel_rfl, List.all_eq_true.1 (by kernel_rfl), by kernel_rfl⟩
theorem i81 : ∃ i z, Try.prog.info? 81 = some i ∧ i.size = T81.size ∧ i.bytes = T81.bytes ∧ i.zero = some z ∧ z.cells.toList.map V.c = T81.zero ∧ (∀ c ∈ z.cells.toList, c.oneCell' = true) ∧ T81.zero.length = T81.size := ⟨Try.t81, _, by kernel_rfl, by kernel_rfl, by kernel_rfl, rfl, by kernel_rfl, List.all_eq_true.1 (by kernel_rfl), by kernel_rfl⟩
theorem i82 : ∃ i z, Try.prog.info? 82 = some i ∧ i.size = T82.size ∧ i.bytes = T82.bytes ∧ i.zero = some z ∧ z.cells.toList.map V.c = T82.zero ∧ (∀ c ∈ z.cells.toList, c.oneCell' = true) ∧ T82.zero.length = T82.size := ⟨Try.t82, _, by kernel_rfl, by kernel_rfl, by kernel_rfl, rfl, by kernel_rfl, List.all_eq_true.1 (by kernel_rfl), by kernel_rfl⟩
theorem i84 : ∃ i z, Try.prog.info? 84 = some i ∧ i.size = T84.size ∧ i.bytes = T84.bytes ∧ i.zero = some z ∧ z.cells.toList.map V.c = T84.zero ∧ (∀ c ∈ z.cells.toList, c.oneCell' = true) ∧ T84.zero.length = T84.size := ⟨Try.t84, _, by kernel_rfl, by kernel_rfl, by kernel_rfl, rfl, by kernel_rfl, List.all_eq_true.1 (by kernel_rfl), by kernel_rfl⟩
theorem i87 : ∃ i z, Try.prog.info? 87 = some i ∧ i.size = T87.size ∧ i.bytes = T87.bytes ∧ i.zero = some z ∧ z.cells.toList.map V.c = T87.zero ∧ (∀ c ∈ z.cells.toList, c.oneCell' = true) ∧ T87.zero.length = T87.size := ⟨Try.t87, _, by kernel_rfl, by kernel_rfl, by kernel_rfl, rfl, by kernel_rfl, List.all_eq_true.1 (by kernel_rfl), by kernel_rfl⟩
theorem i89 : ∃ i z, Try.prog.info? 89 = some i ∧ i.size = T89.size ∧ i.bytes = T89.bytes ∧ i.zero = some z ∧ z.cells.toList.map V.c = T89.zero ∧ (∀ c ∈ z.cells.toList, c.oneCell' = true) ∧ T89.zero.length = T89.size := ⟨Try.t89, _, by kernel_rfl, by kernel_rfl, by kernel_rfl, rfl, by kernel_rfl, List.all_eq_true.1 (by kernel_rfl), by kernel_rfl⟩
theorem i96 : ∃ i z, Try.prog.info? 96 = some i ∧ i.size = T96.size ∧ i.bytes = T96.bytes ∧ i.zero = some z ∧ z.cells.toList.map V.c = T96.zero ∧ (∀ c ∈ z.cells.toList, c.oneCell' = true) ∧ T96.zero.length = T96.size := ⟨Try.t96, _, by kernel_rfl, by kernel_rfl, by kernel_rfl, rfl, by kernel_rfl, List.all_eq_true.1 (by kernel_rfl), by kernel_rfl⟩
theorem i97 : ∃ i z, Try.prog.info? 97 = some i ∧ i.size = T97.size ∧ i.bytes = T97.bytes ∧ i.zero = some z ∧ z.cells.toList.map V.c = T97.zero ∧ (∀ c ∈ z.cells.toList, c.oneCell' = true) ∧ T97.zero.length = T97.size := ⟨Try.t97, _, by kernel_rfl, by kernel_rfl, by kernel_rfl, rfl, by kernel_rfl, List.all_eq_true.1 (by kernel_rfl), by kernel_rfl⟩
theorem i98 : ∃ i z, Try.prog.info? 98 = some i ∧ i.size = T98.size ∧ i.bytes = T98.bytes ∧ i.zero = some z ∧ z.cells.toList.map V.c = T98.zero ∧ (∀ c ∈ z.cells.toList, c.oneCell' = true) ∧ T98.zero.length = T98.size := ⟨Try.t98, _, by kernel_rfl, by kernel_rfl, by kernel_rfl, rfl, by kernel_rfl, List.all_eq_true.1 (by kernel_rfl), by kernel_rfl⟩
theorem i102 : ∃ i z, Try.prog.info? 102 = some i ∧ i.size = T102.size ∧ i.bytes = T102.bytes ∧ i.zero = some z ∧ z.cells.toList.map V.c = T102.zero ∧ (∀ c ∈ z.cells.toList, c.oneCell' = true) ∧ T102.zero.length = T102.size := ⟨Try.t102, _, by kernel_rfl, by kernel_rfl, by kernel_rfl, rfl, by kernel_rfl, List.all_eq_true.1 (by kernel_rfl), by kernel_rfl⟩
theorem i103 : ∃ i z, Try.prog.info? 103 = some i ∧ i.size = T103.size ∧ i.bytes = T103.bytes ∧ i.zero = some z ∧ z.cells.toList.map V.c = T103.zero ∧ (∀ c ∈ z.cells.toList, c.oneCell' = true) ∧ T103.zero.length = T103.size := ⟨Try.t103, _, by kernel_rfl, by kernel_rfl, by kernel_rfl, rfl, by kernel_rfl, List.all_eq_true.1 (by kernel_rfl), by kernel_rfl⟩
theorem i104 : ∃ i z, Try.prog.info? 104 = some i ∧ i.size = T104.size ∧ i.bytes = T104.bytes ∧ i.zero = some z ∧ z.cells.toList.map V.c = T104.zero ∧ (∀ c ∈ z.cells.toList, c.oneCell' = true) ∧ T104.zero.length = T104.size := ⟨Try.t104, _, by kernel_rfl, by kernel_rfl, by kernel_rfl, rfl, by kernel_rfl, List.all_eq_true.1 (by kernel_rfl), by kernel_rfl⟩
theorem i113 : ∃ i z, Try.prog.info? 113 = some i ∧ i.size = T113.size ∧ i.bytes = T113.bytes ∧ i.zero = some z ∧ z.cells.toList.map V.c = T113.zero ∧ (∀ c ∈ z.cells.toList, c.oneCell' = true) ∧ T113.zero.length = T113.size := ⟨Try.t113, _, by kernel_rfl, by kernel_rfl, by kernel_rfl, rfl, by kernel_rfl, List.all_eq_true.1 (by kernel_rfl), by kernel_rfl⟩
theorem i121 : ∃ i z, Try.prog.info? 121 = some i ∧ i.size = T121.size ∧ i.bytes = T121.bytes ∧ i.zero = some z ∧ z.cells.toList.map V.c = T121.zero ∧ (∀ c ∈ z.cells.toList, c.oneCell' = true) ∧ T121.zero.length = T121.size := ⟨Try.t121, _, by kernel_rfl, by kernel_rfl, by kernel_rfl, rfl, by kernel_rfl, List.all_eq_true.1 (by kernel_rfl), by kernel_rfl⟩
theorem i128 : ∃ i z, Try.prog.info? 128 = some i ∧ i.size = T128.size ∧ i.bytes = T128.bytes ∧ i.zero = some z ∧ z.cells.toList.map V.c = T128.zero ∧ (∀ c ∈ z.cells.toList, c.oneCell' = true) ∧ T128.zero.length = T128.size := ⟨Try.t128, _, by kernel_rfl, by kernel_rfl, by kernel_rfl, rfl, by kernel_rfl, List.all_eq_true.1 (by kernel_rfl), by kernel_rfl⟩
theorem i129 : ∃ i z, Try.prog.info? 129 = some i ∧ i.size = T129.size ∧ i.bytes = T129.bytes ∧ i.zero = some z ∧ z.cells.toList.map V.c = T129.zero ∧ (∀ c ∈ z.cells.toList, c.oneCell' = true) ∧ T129.zero.length = T129.size := ⟨Try.t129, _, by kernel_rfl, by kernel_rfl, by kernel_rfl, rfl, by kernel_rfl, List.all_eq_true.1 (by kernel_rfl), by kernel_rfl⟩
theorem i135 : ∃ i z, Try.prog.info? 135 = some i ∧ i.size = T135.size ∧ i.bytes = T135.bytes ∧ i.zero = some z ∧ z.cells.toList.map V.c = T135.zero ∧ (∀ c ∈ z.cells.toList, c.oneCell' = true) ∧ T135.zero.length = T135.size := ⟨Try.t135, _, by kernel_rfl, by kernel_rfl, by kernel_rfl, rfl, by kernel_rfl, List.all_eq_true.1 (by kernel_rfl), by kernel_rfl⟩
theorem i148 : ∃ i z, Try.prog.info? 148 = some i ∧ i.size = T148.size ∧ i.bytes = T148.bytes ∧ i.zero = some z ∧ z.cells.toList.map V.c = T148.zero ∧ (∀ c ∈ z.cells.toList, c.oneCell' = true) ∧ T148.zero.length = T148.size := ⟨Try.t148, _, by kernel_rfl, by kernel_rfl, by kernel_rfl, rfl, by kernel_rfl, List.all_eq_true.1 (by kernel_rfl), by kernel_rfl⟩
theorem i159 : ∃ i z, Try.prog.info? 159 = some i ∧ i.size = T159.size ∧ i.bytes = T159.bytes ∧ i.zero = some z ∧ z.cells.toList.map V.c = T159.zero ∧ (∀ c ∈ z.cells.toList, c.oneCell' = true) ∧ T159.zero.length = T159.size := ⟨Try.t159, _, by kernel_rfl, by kernel_rfl, by kernel_rfl, rfl, by kernel_rfl, List.all_eq_true.1 (by kernel_rfl), by kernel_rfl⟩
theorem i170 : ∃ i z, Try.prog.info? 170 = some i ∧ i.size = T170.size ∧ i.bytes = T170.bytes ∧ i.zero = some z ∧ z.cells.toList.map V.c = T170.zero ∧ (∀ c ∈ z.cells.toList, c.oneCell' = true) ∧ T170.zero.length = T170.size := ⟨Try.t170, _, by kernel_rfl, by kernel_rfl, by kernel_rfl, rfl, by kernel_rfl, List.all_eq_true.1 (by kernel_rfl), by kernel_rfl⟩
theorem i174 : ∃ i z, Try.prog.info? 174 = some i ∧ i.size = T174.size ∧ i.bytes = T174.bytes ∧ i.zero = some z ∧ z.cells.toList.map V.c = T174.zero ∧ (∀ c ∈ z.cells.toList, c.oneCell' = true) ∧ T174.zero.length = T174.size := ⟨Try.t174, _, by kernel_rfl, by kernel_rfl, by kernel_rfl, rfl, by kernel_rfl, List.all_eq_true.1 (by kernel_rfl), by kernel_rfl⟩
theorem i176 : ∃ i z, Try.prog.info? 176 = some i ∧ i.size = T176.size ∧ i.bytes = T176.bytes ∧ i.zero = some z ∧ z.cells.toList.map V.c = T176.zero ∧ (∀ c ∈ z.cells.toList, c.oneCell' = true) ∧ T176.zero.length = T176.size := ⟨Try.t176, _, by kernel_rfl, by kernel_rfl, by kernel_rfl, rfl, by kernel_rfl, List.all_eq_true.1 (by kernel_rfl), by kernel_rfl⟩
theorem i177 : ∃ i z, Try.prog.info? 177 = some i ∧ i.size = T177.size ∧ i.bytes = T177.bytes ∧ i.zero = some z ∧ z.cells.toList.map V.c = T177.zero ∧ (∀ c ∈ z.cells.toList, c.oneCell' = true) ∧ T177.zero.length = T177.size := ⟨Try.t177, _, by kernel_rfl, by kernel_rfl, by kernel_rfl, rfl, by kernel_rfl, List.all_eq_true.1 (by kernel_rfl), by kernel_rfl⟩
theorem i192 : ∃ i z, Try.prog.info? 192 = some i ∧ i.size = T192.size ∧ i.bytes = T192.bytes ∧ i.zero = some z ∧ z.cells.toList.map V.c = T192.zero ∧ (∀ c ∈ z.cells.toList, c.oneCell' = true) ∧ T192.zero.length = T192.size := ⟨Try.t192, _, by kernel_rfl, by kernel_rfl, by kernel_rfl, rfl, by kernel_rfl, List.all_eq_true.1 (by kernel_rfl), by kernel_rfl⟩
theorem i193 : ∃ i z, Try.prog.info? 193 = some i ∧ i.size = T193.size ∧ i.bytes = T193.bytes ∧ i.zero = some z ∧ z.cells.toList.map V.c = T193.zero ∧ (∀ c ∈ z.cells.toList, c.oneCell' = true) ∧ T193.zero.length = T193.size := ⟨Try.t193, _, by kernel_rfl, by kernel_rfl, by kernel_rfl, rfl, by kernel_rfl, List.all_eq_true.1 (by kernel_rfl), by kernel_rfl⟩
theorem i202 : ∃ i z, Try.prog.info? 202 = some i ∧ i.size = T202.size ∧ i.bytes = T202.bytes ∧ i.zero = some z ∧ z.cells.toList.map V.c = T202.zero ∧ (∀ c ∈ z.cells.toList, c.oneCell' = true) ∧ T202.zero.length = T202.size := ⟨Try.t202, _, by kernel_rfl, by kernel_rfl, by kernel_rfl, rfl, by kernel_rfl, List.all_eq_true.1 (by kernel_rfl), by kernel_rfl⟩
theorem i210 : ∃ i z, Try.prog.info? 210 = some i ∧ i.size = T210.size ∧ i.bytes = T210.bytes ∧ i.zero = some z ∧ z.cells.toList.map V.c = T210.zero ∧ (∀ c ∈ z.cells.toList, c.oneCell' = true) ∧ T210.zero.length = T210.size := ⟨Try.t210, _, by kernel_rfl, by kernel_rfl, by kernel_rfl, rfl, by kernel_rfl, List.all_eq_true.1 (by kernel_rfl), by kernel_rfl⟩
theorem i211 : ∃ i z, Try.prog.info? 211 = some i ∧ i.size = T211.size ∧ i.bytes = T211.bytes ∧ i.zero = some z ∧ z.cells.toList.map V.c = T211.zero ∧ (∀ c ∈ z.cells.toList, c.oneCell' = true) ∧ T211.zero.length = T211.size := ⟨Try.t211, _, by kernel_rfl, by kernel_rfl, by kernel_rfl, rfl, by kernel_rfl, List.all_eq_true.1 (by kernel_rfl), by kernel_rfl⟩
theorem i212 : ∃ i z, Try.prog.info? 212 = some i ∧ i.size = T212.size ∧ i.bytes = T212.bytes ∧ i.zero = some z ∧ z.cells.toList.map V.c = T212.zero ∧ (∀ c ∈ z.cells.toList, c.oneCell' = true) ∧ T212.zero.length = T212.size := ⟨Try.t212, _, by kernel_rfl, by kernel_rfl, by kernel_rfl, rfl, by kernel_rfl, List.all_eq_true.1 (by kernel_rfl), by kernel_rfl⟩
theorem i221 : ∃ i z, Try.prog.info? 221 = some i ∧ i.size = T221.size ∧ i.bytes = T221.bytes ∧ i.zero = some z ∧ z.cells.toList.map V.c = T221.zero ∧ (∀ c ∈ z.cells.toList, c.oneCell' = true) ∧ T221.zero.length = T221.size := ⟨Try.t221, _, by kernel_rfl, by kernel_rfl, by kernel_rfl, rfl, by kernel_rfl, List.all_eq_true.1 (by kernel_rfl), by kernel_rfl⟩
theorem i225 : ∃ i z, Try.prog.info? 225 = some i ∧ i.size = T225.size ∧ i.bytes = T225.bytes ∧ i.zero = some z ∧ z.cells.toList.map V.c = T225.zero ∧ (∀ c ∈ z.cells.toList, c.oneCell' = true) ∧ T225.zero.length = T225.size := ⟨Try.t225, _, by kernel_rfl, by kernel_rfl, by kernel_rfl, rfl, by kernel_rfl, List.all_eq_true.1 (by kernel_rfl), by kernel_rfl⟩
theorem i231 : ∃ i z, Try.prog.info? 231 = some i ∧ i.size = T231.size ∧ i.bytes = T231.bytes ∧ i.zero = some z ∧ z.cells.toList.map V.c = T231.zero ∧ (∀ c ∈ z.cells.toList, c.oneCell' = true) ∧ T231.zero.length = T231.size := ⟨Try.t231, _, by kernel_rfl, by kernel_rfl, by kernel_rfl, rfl, by kernel_rfl, List.all_eq_true.1 (by kernel_rfl), by kernel_rfl⟩
theorem i237 : ∃ i z, Try.prog.info? 237 = some i ∧ i.size = T237.size ∧ i.bytes = T237.bytes ∧ i.zero = some z ∧ z.cells.toList.map V.c = T237.zero ∧ (∀ c ∈ z.cells.toList, c.oneCell' = true) ∧ T237.zero.length = T237.size := ⟨Try.t237, _, by kernel_rfl, by kernel_rfl, by kernel_rfl, rfl, by kernel_rfl, List.all_eq_true.1 (by kernel_rfl), by kernel_rfl⟩
theorem i260 : ∃ i z, Try.prog.info? 260 = some i ∧ i.size = T260.size ∧ i.bytes = T260.bytes ∧ i.zero = some z ∧ z.cells.toList.map V.c = T260.zero ∧ (∀ c ∈ z.cells.toList, c.oneCell' = true) ∧ T260.zero.length = T260.size := ⟨Try.t260, _, by kernel_rfl, by kernel_rfl, by kernel_rfl, rfl, by kernel_rfl, List.all_eq_true.1 (by kernel_rfl), by kernel_rfl⟩
theorem envOK : EnvOK Try.prog E := by
  refine ⟨fun {t d} h => ?_, fun {t d} h => ?_, fun {t d} h => ?_, by kernel_rfl⟩
  · unfold E at h; split at h <;> first | (cases h; kernel_rfl) | cases h
  · unfold E at h; split at h <;> first | cases h | skip
    · exact i2
    · exact i3
    · exact i4
    · exact i5
    · exact i9
    · exact i12
    · exact i13
    · exact i21
    · exact i22
    · exact i23
    · exact i24
    · exact i25
    · exact i26
    · exact i27
    · exact i28
    · exact i30
    · exact i33
    · exact i34
    · exact i35
    · exact i36
    · exact i37
    · exact i39
    · exact i46
    · exact i52
    · exact i53
    · exact i54
    · exact i57
    · exact i58
    · exact i62
    · exact i63
    · exact i67
    · exact i68
    · exact i69
    · exact i73
    · exact i74
    · exact i76
    · exact i81
    · exact i82
    · exact i84
    · exact i87
    · exact i89
    · exact i96
    · exact i97
    · exact i98
    · exact i102
    · exact i103
    · exact i104
    · exact i113
    · exact i121
    · exact i128
    · exact i129
    · exact i135
    · exact i148
    · exact i159
    · exact i170
    · exact i174
    · exact i176
    · exact i177
    · exact i192
    · exact i193
    · exact i202
    · exact i210
    · exact i211
    · exact i212
    · exact i221
    · exact i225
    · exact i231
    · exact i237
    · exact i260
  · unfold E at h; split at h <;> first | (cases h; kernel_rfl) | cases h
theorem E2 : E 2 = some ⟨TypeDesc.int IntKind.i64, 1, 8, (.c (.int .i64 0) :: []), false⟩ := rfl
theorem E3 : E 3 = some ⟨TypeDesc.int IntKind.i64, 1, 8, (.c (.int .i64 0) :: []), false⟩ := rfl
theorem E4 : E 4 = some ⟨TypeDesc.bool, 1, 1, (.c (.bool false) :: []), false⟩ := rfl
theorem E5 : E 5 = some ⟨TypeDesc.int IntKind.u8, 1, 1, (.c (.int .u8 0) :: []), false⟩ := rfl
theorem E9 : E 9 = some ⟨TypeDesc.string, 1, 16, (.c (.string ⟨#[]⟩) :: []), false⟩ := rfl
theorem E12 : E 12 = some ⟨TypeDesc.int IntKind.u64, 1, 8, (.c (.int .u64 0) :: []), false⟩ := rfl
theorem E13 : E 13 = some ⟨TypeDesc.struct #[{ name := "msg", type := 9, offset := 0, embedded := false, tag := "", pkgPath := "runtime", byteOffset := 0 }, { name := "addr", type := 12, offset := 1, embedded := false, tag := "", pkgPath := "runtime", byteOffset := 16 }], 2, 24, (.c (.string ⟨#[]⟩) :: (.c (.int .u64 0) :: [])), false⟩ := rfl
theorem E21 : E 21 = some ⟨TypeDesc.int IntKind.i32, 1, 4, (.c (.int .i32 0) :: []), false⟩ := rfl
theorem E22 : E 22 = some ⟨TypeDesc.array 256 5, 256, 256, (bs (List.replicate 256 0)), false⟩ := by simp only [← zeros_bs, ← zeros_blv]; rfl
theorem E23 : E 23 = some ⟨TypeDesc.array 4 5, 4, 4, (bs (List.replicate 4 0)), false⟩ := by simp only [← zeros_bs, ← zeros_blv]; rfl
theorem E24 : E 24 = some ⟨TypeDesc.array 4 23, 16, 16, (bs (List.replicate 16 0)), false⟩ := by simp only [← zeros_bs, ← zeros_blv]; rfl
theorem E25 : E 25 = some ⟨TypeDesc.array 16 5, 16, 16, (bs (List.replicate 16 0)), false⟩ := by simp only [← zeros_bs, ← zeros_blv]; rfl
theorem E26 : E 26 = some ⟨TypeDesc.struct #[{ name := "Field", type := 2, offset := 0, embedded := false, tag := "", pkgPath := "", byteOffset := 0 }, { name := "Box", type := 22, offset := 1, embedded := false, tag := "", pkgPath := "", byteOffset := 8 }, { name := "Mix", type := 24, offset := 257, embedded := false, tag := "", pkgPath := "", byteOffset := 264 }, { name := "Places", type := 25, offset := 273, embedded := false, tag := "", pkgPath := "", byteOffset := 280 }, { name := "Rounds", type := 2, offset := 289, embedded := false, tag := "", pkgPath := "", byteOffset := 296 }], 290, 304, (.c (.int .i64 0) :: (bs (List.replicate 256 0) ++ (bs (List.replicate 16 0) ++ (bs (List.replicate 16 0) ++ (.c (.int .i64 0) :: []))))), false⟩ := by simp only [← zeros_bs, ← zeros_blv]; rfl
theorem E27 : E 27 = some ⟨TypeDesc.struct #[{ name := "Field", type := 2, offset := 0, embedded := false, tag := "", pkgPath := "", byteOffset := 0 }, { name := "Box", type := 22, offset := 1, embedded := false, tag := "", pkgPath := "", byteOffset := 8 }, { name := "Mix", type := 24, offset := 257, embedded := false, tag := "", pkgPath := "", byteOffset := 264 }, { name := "Places", type := 25, offset := 273, embedded := false, tag := "", pkgPath := "", byteOffset := 280 }, { name := "Rounds", type := 2, offset := 289, embedded := false, tag := "", pkgPath := "", byteOffset := 296 }], 290, 304, (.c (.int .i64 0) :: (bs (List.replicate 256 0) ++ (bs (List.replicate 16 0) ++ (bs (List.replicate 16 0) ++ (.c (.int .i64 0) :: []))))), false⟩ := by simp only [← zeros_bs, ← zeros_blv]; rfl
theorem E28 : E 28 = some ⟨TypeDesc.slice 113, 1, 24, (.c (.slice none 0 0) :: []), false⟩ := rfl
theorem E30 : E 30 = some ⟨TypeDesc.slice 63, 1, 24, (.c (.slice none 0 0) :: []), false⟩ := rfl
theorem E33 : E 33 = some ⟨TypeDesc.array 256 5, 256, 256, (bs (List.replicate 256 0)), false⟩ := by simp only [← zeros_bs, ← zeros_blv]; rfl
theorem E34 : E 34 = some ⟨TypeDesc.array 4 23, 16, 16, (bs (List.replicate 16 0)), false⟩ := by simp only [← zeros_bs, ← zeros_blv]; rfl
theorem E35 : E 35 = some ⟨TypeDesc.array 16 5, 16, 16, (bs (List.replicate 16 0)), false⟩ := by simp only [← zeros_bs, ← zeros_blv]; rfl
theorem E36 : E 36 = some ⟨TypeDesc.struct #[{ name := "Field", type := 2, offset := 0, embedded := false, tag := "", pkgPath := "", byteOffset := 0 }, { name := "Box", type := 33, offset := 1, embedded := false, tag := "", pkgPath := "", byteOffset := 8 }, { name := "Mix", type := 34, offset := 257, embedded := false, tag := "", pkgPath := "", byteOffset := 264 }, { name := "Places", type := 35, offset := 273, embedded := false, tag := "", pkgPath := "", byteOffset := 280 }, { name := "Rounds", type := 2, offset := 289, embedded := false, tag := "", pkgPath := "", byteOffset := 296 }], 290, 304, (.c (.int .i64 0) :: (bs (List.replicate 256 0) ++ (bs (List.replicate 16 0) ++ (bs (List.replicate 16 0) ++ (.c (.int .i64 0) :: []))))), false⟩ := by simp only [← zeros_bs, ← zeros_blv]; rfl
theorem E37 : E 37 = some ⟨TypeDesc.struct #[{ name := "Field", type := 2, offset := 0, embedded := false, tag := "", pkgPath := "", byteOffset := 0 }, { name := "Box", type := 33, offset := 1, embedded := false, tag := "", pkgPath := "", byteOffset := 8 }, { name := "Mix", type := 34, offset := 257, embedded := false, tag := "", pkgPath := "", byteOffset := 264 }, { name := "Places", type := 35, offset := 273, embedded := false, tag := "", pkgPath := "", byteOffset := 280 }, { name := "Rounds", type := 2, offset := 289, embedded := false, tag := "", pkgPath := "", byteOffset := 296 }], 290, 304, (.c (.int .i64 0) :: (bs (List.replicate 256 0) ++ (bs (List.replicate 16 0) ++ (bs (List.replicate 16 0) ++ (.c (.int .i64 0) :: []))))), false⟩ := by simp only [← zeros_bs, ← zeros_blv]; rfl
theorem E39 : E 39 = some ⟨TypeDesc.array 16 5, 16, 16, (bs (List.replicate 16 0)), false⟩ := by simp only [← zeros_bs, ← zeros_blv]; rfl
theorem E46 : E 46 = some ⟨TypeDesc.slice 62, 1, 24, (.c (.slice none 0 0) :: []), false⟩ := rfl
theorem E52 : E 52 = some ⟨TypeDesc.slice 2, 1, 24, (.c (.slice none 0 0) :: []), false⟩ := rfl
theorem E53 : E 53 = some ⟨TypeDesc.struct #[{ name := "Keys", type := 46, offset := 0, embedded := false, tag := "", pkgPath := "", byteOffset := 0 }, { name := "Data", type := 28, offset := 1, embedded := false, tag := "", pkgPath := "", byteOffset := 24 }, { name := "Counts", type := 52, offset := 2, embedded := false, tag := "", pkgPath := "", byteOffset := 48 }], 3, 72, (.c (.slice none 0 0) :: (.c (.slice none 0 0) :: (.c (.slice none 0 0) :: []))), false⟩ := rfl
theorem E54 : E 54 = some ⟨TypeDesc.struct #[{ name := "Keys", type := 46, offset := 0, embedded := false, tag := "", pkgPath := "", byteOffset := 0 }, { name := "Data", type := 28, offset := 1, embedded := false, tag := "", pkgPath := "", byteOffset := 24 }, { name := "Counts", type := 52, offset := 2, embedded := false, tag := "", pkgPath := "", byteOffset := 48 }], 3, 72, (.c (.slice none 0 0) :: (.c (.slice none 0 0) :: (.c (.slice none 0 0) :: []))), false⟩ := rfl
theorem E57 : E 57 = some ⟨TypeDesc.struct #[{ name := "Keys", type := 30, offset := 0, embedded := false, tag := "", pkgPath := "", byteOffset := 0 }, { name := "Data", type := 28, offset := 1, embedded := false, tag := "", pkgPath := "", byteOffset := 24 }, { name := "Counts", type := 52, offset := 2, embedded := false, tag := "", pkgPath := "", byteOffset := 48 }], 3, 72, (.c (.slice none 0 0) :: (.c (.slice none 0 0) :: (.c (.slice none 0 0) :: []))), false⟩ := rfl
theorem E58 : E 58 = some ⟨TypeDesc.struct #[{ name := "Keys", type := 30, offset := 0, embedded := false, tag := "", pkgPath := "", byteOffset := 0 }, { name := "Data", type := 28, offset := 1, embedded := false, tag := "", pkgPath := "", byteOffset := 24 }, { name := "Counts", type := 52, offset := 2, embedded := false, tag := "", pkgPath := "", byteOffset := 48 }], 3, 72, (.c (.slice none 0 0) :: (.c (.slice none 0 0) :: (.c (.slice none 0 0) :: []))), false⟩ := rfl
theorem E62 : E 62 = some ⟨TypeDesc.array 32 5, 32, 32, (bs (List.replicate 32 0)), false⟩ := by simp only [← zeros_bs, ← zeros_blv]; rfl
theorem E63 : E 63 = some ⟨TypeDesc.array 32 5, 32, 32, (bs (List.replicate 32 0)), false⟩ := by simp only [← zeros_bs, ← zeros_blv]; rfl
theorem E67 : E 67 = some ⟨TypeDesc.struct #[{ name := "Field", type := 2, offset := 0, embedded := false, tag := "", pkgPath := "", byteOffset := 0 }, { name := "Box", type := 22, offset := 1, embedded := false, tag := "", pkgPath := "", byteOffset := 8 }, { name := "Mix", type := 24, offset := 257, embedded := false, tag := "", pkgPath := "", byteOffset := 264 }, { name := "Kind", type := 2, offset := 273, embedded := false, tag := "", pkgPath := "", byteOffset := 280 }, { name := "Rounds", type := 2, offset := 274, embedded := false, tag := "", pkgPath := "", byteOffset := 288 }], 275, 296, (.c (.int .i64 0) :: (bs (List.replicate 256 0) ++ (bs (List.replicate 16 0) ++ (.c (.int .i64 0) :: (.c (.int .i64 0) :: []))))), false⟩ := by simp only [← zeros_bs, ← zeros_blv]; rfl
theorem E68 : E 68 = some ⟨TypeDesc.struct #[{ name := "Field", type := 2, offset := 0, embedded := false, tag := "", pkgPath := "", byteOffset := 0 }, { name := "Box", type := 22, offset := 1, embedded := false, tag := "", pkgPath := "", byteOffset := 8 }, { name := "Mix", type := 24, offset := 257, embedded := false, tag := "", pkgPath := "", byteOffset := 264 }, { name := "Kind", type := 2, offset := 273, embedded := false, tag := "", pkgPath := "", byteOffset := 280 }, { name := "Rounds", type := 2, offset := 274, embedded := false, tag := "", pkgPath := "", byteOffset := 288 }], 275, 296, (.c (.int .i64 0) :: (bs (List.replicate 256 0) ++ (bs (List.replicate 16 0) ++ (.c (.int .i64 0) :: (.c (.int .i64 0) :: []))))), false⟩ := by simp only [← zeros_bs, ← zeros_blv]; rfl
theorem E69 : E 69 = some ⟨TypeDesc.slice 81, 1, 24, (.c (.slice none 0 0) :: []), false⟩ := rfl
theorem E73 : E 73 = some ⟨TypeDesc.struct #[{ name := "Field", type := 2, offset := 0, embedded := false, tag := "", pkgPath := "", byteOffset := 0 }, { name := "Box", type := 33, offset := 1, embedded := false, tag := "", pkgPath := "", byteOffset := 8 }, { name := "Mix", type := 34, offset := 257, embedded := false, tag := "", pkgPath := "", byteOffset := 264 }, { name := "Kind", type := 2, offset := 273, embedded := false, tag := "", pkgPath := "", byteOffset := 280 }, { name := "Rounds", type := 2, offset := 274, embedded := false, tag := "", pkgPath := "", byteOffset := 288 }], 275, 296, (.c (.int .i64 0) :: (bs (List.replicate 256 0) ++ (bs (List.replicate 16 0) ++ (.c (.int .i64 0) :: (.c (.int .i64 0) :: []))))), false⟩ := by simp only [← zeros_bs, ← zeros_blv]; rfl
theorem E74 : E 74 = some ⟨TypeDesc.struct #[{ name := "Field", type := 2, offset := 0, embedded := false, tag := "", pkgPath := "", byteOffset := 0 }, { name := "Box", type := 33, offset := 1, embedded := false, tag := "", pkgPath := "", byteOffset := 8 }, { name := "Mix", type := 34, offset := 257, embedded := false, tag := "", pkgPath := "", byteOffset := 264 }, { name := "Kind", type := 2, offset := 273, embedded := false, tag := "", pkgPath := "", byteOffset := 280 }, { name := "Rounds", type := 2, offset := 274, embedded := false, tag := "", pkgPath := "", byteOffset := 288 }], 275, 296, (.c (.int .i64 0) :: (bs (List.replicate 256 0) ++ (bs (List.replicate 16 0) ++ (.c (.int .i64 0) :: (.c (.int .i64 0) :: []))))), false⟩ := by simp only [← zeros_bs, ← zeros_blv]; rfl
theorem E76 : E 76 = some ⟨TypeDesc.slice 87, 1, 24, (.c (.slice none 0 0) :: []), false⟩ := rfl
theorem E81 : E 81 = some ⟨TypeDesc.array 8 5, 8, 8, (bs (List.replicate 8 0)), false⟩ := by simp only [← zeros_bs, ← zeros_blv]; rfl
theorem E82 : E 82 = some ⟨TypeDesc.slice 25, 1, 24, (.c (.slice none 0 0) :: []), false⟩ := rfl
theorem E84 : E 84 = some ⟨TypeDesc.slice 52, 1, 24, (.c (.slice none 0 0) :: []), false⟩ := rfl
theorem E87 : E 87 = some ⟨TypeDesc.array 8 5, 8, 8, (bs (List.replicate 8 0)), false⟩ := by simp only [← zeros_bs, ← zeros_blv]; rfl
theorem E89 : E 89 = some ⟨TypeDesc.slice 39, 1, 24, (.c (.slice none 0 0) :: []), false⟩ := rfl
theorem E96 : E 96 = some ⟨TypeDesc.slice 46, 1, 24, (.c (.slice none 0 0) :: []), false⟩ := rfl
theorem E97 : E 97 = some ⟨TypeDesc.struct #[{ name := "Place", type := 2, offset := 0, embedded := false, tag := "", pkgPath := "", byteOffset := 0 }, { name := "Neighbours", type := 46, offset := 1, embedded := false, tag := "", pkgPath := "", byteOffset := 8 }, { name := "Proofs", type := 96, offset := 2, embedded := false, tag := "", pkgPath := "", byteOffset := 32 }], 3, 56, (.c (.int .i64 0) :: (.c (.slice none 0 0) :: (.c (.slice none 0 0) :: []))), false⟩ := rfl
theorem E98 : E 98 = some ⟨TypeDesc.struct #[{ name := "Place", type := 2, offset := 0, embedded := false, tag := "", pkgPath := "", byteOffset := 0 }, { name := "Neighbours", type := 46, offset := 1, embedded := false, tag := "", pkgPath := "", byteOffset := 8 }, { name := "Proofs", type := 96, offset := 2, embedded := false, tag := "", pkgPath := "", byteOffset := 32 }], 3, 56, (.c (.int .i64 0) :: (.c (.slice none 0 0) :: (.c (.slice none 0 0) :: []))), false⟩ := rfl
theorem E102 : E 102 = some ⟨TypeDesc.slice 30, 1, 24, (.c (.slice none 0 0) :: []), false⟩ := rfl
theorem E103 : E 103 = some ⟨TypeDesc.struct #[{ name := "Place", type := 2, offset := 0, embedded := false, tag := "", pkgPath := "", byteOffset := 0 }, { name := "Neighbours", type := 30, offset := 1, embedded := false, tag := "", pkgPath := "", byteOffset := 8 }, { name := "Proofs", type := 102, offset := 2, embedded := false, tag := "", pkgPath := "", byteOffset := 32 }], 3, 56, (.c (.int .i64 0) :: (.c (.slice none 0 0) :: (.c (.slice none 0 0) :: []))), false⟩ := rfl
theorem E104 : E 104 = some ⟨TypeDesc.struct #[{ name := "Place", type := 2, offset := 0, embedded := false, tag := "", pkgPath := "", byteOffset := 0 }, { name := "Neighbours", type := 30, offset := 1, embedded := false, tag := "", pkgPath := "", byteOffset := 8 }, { name := "Proofs", type := 102, offset := 2, embedded := false, tag := "", pkgPath := "", byteOffset := 32 }], 3, 56, (.c (.int .i64 0) :: (.c (.slice none 0 0) :: (.c (.slice none 0 0) :: []))), false⟩ := rfl
theorem E113 : E 113 = some ⟨TypeDesc.slice 5, 1, 24, (.c (.slice none 0 0) :: []), false⟩ := rfl
theorem E121 : E 121 = some ⟨TypeDesc.pointer 177, 1, 8, (.c (.pointer none) :: []), false⟩ := rfl
theorem E128 : E 128 = some ⟨TypeDesc.struct #[{ name := "engine", type := 121, offset := 0, embedded := false, tag := "", pkgPath := "loop.example/g01182/impl", byteOffset := 0 }], 1, 8, (.c (.pointer none) :: []), false⟩ := rfl
theorem E129 : E 129 = some ⟨TypeDesc.struct #[{ name := "engine", type := 121, offset := 0, embedded := false, tag := "", pkgPath := "loop.example/g01182/impl", byteOffset := 0 }], 1, 8, (.c (.pointer none) :: []), false⟩ := rfl
theorem E135 : E 135 = some ⟨TypeDesc.pointer 193, 1, 8, (.c (.pointer none) :: []), false⟩ := rfl
theorem E148 : E 148 = some ⟨TypeDesc.array 2 2, 2, 16, (.c (.int .i64 0) :: .c (.int .i64 0) :: []), false⟩ := rfl
theorem E159 : E 159 = some ⟨TypeDesc.array 2 3, 2, 16, (.c (.int .i64 0) :: .c (.int .i64 0) :: []), false⟩ := rfl
theorem E170 : E 170 = some ⟨TypeDesc.int IntKind.i64, 1, 8, (.c (.int .i64 0) :: []), false⟩ := rfl
theorem E174 : E 174 = some ⟨TypeDesc.pointer 212, 1, 8, (.c (.pointer none) :: []), false⟩ := rfl
theorem E176 : E 176 = some ⟨TypeDesc.struct #[{ name := "box", type := 33, offset := 0, embedded := false, tag := "", pkgPath := "loop.example/g01182/impl", byteOffset := 0 }, { name := "backBox", type := 33, offset := 256, embedded := false, tag := "", pkgPath := "loop.example/g01182/impl", byteOffset := 256 }, { name := "places", type := 35, offset := 512, embedded := false, tag := "", pkgPath := "loop.example/g01182/impl", byteOffset := 512 }, { name := "backPlaces", type := 35, offset := 528, embedded := false, tag := "", pkgPath := "loop.example/g01182/impl", byteOffset := 528 }, { name := "mixer", type := 174, offset := 544, embedded := false, tag := "", pkgPath := "loop.example/g01182/impl", byteOffset := 544 }, { name := "backMixer", type := 174, offset := 545, embedded := false, tag := "", pkgPath := "loop.example/g01182/impl", byteOffset := 552 }, { name := "rounds", type := 2, offset := 546, embedded := false, tag := "", pkgPath := "loop.example/g01182/impl", byteOffset := 560 }], 547, 568, (bs (List.replicate 256 0) ++ (bs (List.replicate 256 0) ++ (bs (List.replicate 16 0) ++ (bs (List.replicate 16 0) ++ (.c (.pointer none) :: (.c (.pointer none) :: (.c (.int .i64 0) :: []))))))), false⟩ := by simp only [← zeros_bs, ← zeros_blv]; rfl
theorem E177 : E 177 = some ⟨TypeDesc.struct #[{ name := "box", type := 33, offset := 0, embedded := false, tag := "", pkgPath := "loop.example/g01182/impl", byteOffset := 0 }, { name := "backBox", type := 33, offset := 256, embedded := false, tag := "", pkgPath := "loop.example/g01182/impl", byteOffset := 256 }, { name := "places", type := 35, offset := 512, embedded := false, tag := "", pkgPath := "loop.example/g01182/impl", byteOffset := 512 }, { name := "backPlaces", type := 35, offset := 528, embedded := false, tag := "", pkgPath := "loop.example/g01182/impl", byteOffset := 528 }, { name := "mixer", type := 174, offset := 544, embedded := false, tag := "", pkgPath := "loop.example/g01182/impl", byteOffset := 544 }, { name := "backMixer", type := 174, offset := 545, embedded := false, tag := "", pkgPath := "loop.example/g01182/impl", byteOffset := 552 }, { name := "rounds", type := 2, offset := 546, embedded := false, tag := "", pkgPath := "loop.example/g01182/impl", byteOffset := 560 }], 547, 568, (bs (List.replicate 256 0) ++ (bs (List.replicate 256 0) ++ (bs (List.replicate 16 0) ++ (bs (List.replicate 16 0) ++ (.c (.pointer none) :: (.c (.pointer none) :: (.c (.int .i64 0) :: []))))))), false⟩ := by simp only [← zeros_bs, ← zeros_blv]; rfl
theorem E192 : E 192 = some ⟨TypeDesc.struct #[{ name := "box", type := 33, offset := 0, embedded := false, tag := "", pkgPath := "loop.example/g01182/impl", byteOffset := 0 }, { name := "backBox", type := 33, offset := 256, embedded := false, tag := "", pkgPath := "loop.example/g01182/impl", byteOffset := 256 }, { name := "mixer", type := 174, offset := 512, embedded := false, tag := "", pkgPath := "loop.example/g01182/impl", byteOffset := 512 }, { name := "backMixer", type := 174, offset := 513, embedded := false, tag := "", pkgPath := "loop.example/g01182/impl", byteOffset := 520 }, { name := "kind", type := 2, offset := 514, embedded := false, tag := "", pkgPath := "loop.example/g01182/impl", byteOffset := 528 }], 515, 536, (bs (List.replicate 256 0) ++ (bs (List.replicate 256 0) ++ (.c (.pointer none) :: (.c (.pointer none) :: (.c (.int .i64 0) :: []))))), false⟩ := by simp only [← zeros_bs, ← zeros_blv]; rfl
theorem E193 : E 193 = some ⟨TypeDesc.struct #[{ name := "box", type := 33, offset := 0, embedded := false, tag := "", pkgPath := "loop.example/g01182/impl", byteOffset := 0 }, { name := "backBox", type := 33, offset := 256, embedded := false, tag := "", pkgPath := "loop.example/g01182/impl", byteOffset := 256 }, { name := "mixer", type := 174, offset := 512, embedded := false, tag := "", pkgPath := "loop.example/g01182/impl", byteOffset := 512 }, { name := "backMixer", type := 174, offset := 513, embedded := false, tag := "", pkgPath := "loop.example/g01182/impl", byteOffset := 520 }, { name := "kind", type := 2, offset := 514, embedded := false, tag := "", pkgPath := "loop.example/g01182/impl", byteOffset := 528 }], 515, 536, (bs (List.replicate 256 0) ++ (bs (List.replicate 256 0) ++ (.c (.pointer none) :: (.c (.pointer none) :: (.c (.int .i64 0) :: []))))), false⟩ := by simp only [← zeros_bs, ← zeros_blv]; rfl
theorem E202 : E 202 = some ⟨TypeDesc.int IntKind.u64, 1, 8, (.c (.int .u64 0) :: []), false⟩ := rfl
theorem E210 : E 210 = some ⟨TypeDesc.array 4 22, 1024, 1024, (bs (List.replicate 1024 0)), false⟩ := by simp only [← zeros_bs, ← zeros_blv]; rfl
theorem E211 : E 211 = some ⟨TypeDesc.array 4 210, 4096, 4096, (bs (List.replicate 4096 0)), false⟩ := by simp only [← zeros_bs, ← zeros_blv]; rfl
theorem E212 : E 212 = some ⟨TypeDesc.array 4 210, 4096, 4096, (bs (List.replicate 4096 0)), false⟩ := by simp only [← zeros_bs, ← zeros_blv]; rfl
theorem E221 : E 221 = some ⟨TypeDesc.array 256 4, 256, 256, (blv (List.replicate 256 false)), false⟩ := by simp only [← zeros_bs, ← zeros_blv]; rfl
theorem E225 : E 225 = some ⟨TypeDesc.slice 4, 1, 24, (.c (.slice none 0 0) :: []), false⟩ := rfl
theorem E231 : E 231 = some ⟨TypeDesc.array 16 4, 16, 16, (blv (List.replicate 16 false)), false⟩ := by simp only [← zeros_bs, ← zeros_blv]; rfl
theorem E237 : E 237 = some ⟨TypeDesc.int IntKind.u64, 1, 8, (.c (.int .u64 0) :: []), false⟩ := rfl
theorem E260 : E 260 = some ⟨TypeDesc.int IntKind.u32, 1, 4, (.c (.int .u32 0) :: []), false⟩ := rfl
noncomputable def XX (ord : Nat → Tr) (flt : Nat → Flt) (mu : List FuncId) (m : Nat) : Cx := ⟨E, Try.prog, ord, flt, mu, m⟩
/-- The type facts, bundled. -/
theorem TT : type_of% (
  And.intro E2 <|
  And.intro E3 <|
  And.intro E4 <|
  And.intro E5 <|
  And.intro E9 <|
  And.intro E12 <|
  And.intro E13 <|
  And.intro E21 <|
  And.intro E22 <|
  And.intro E23 <|
  And.intro E24 <|
  And.intro E25 <|
  And.intro E26 <|
  And.intro E27 <|
  And.intro E28 <|
  And.intro E30 <|
  And.intro E33 <|
  And.intro E34 <|
  And.intro E35 <|
  And.intro E36 <|
  And.intro E37 <|
  And.intro E39 <|
  And.intro E46 <|
  And.intro E52 <|
  And.intro E53 <|
  And.intro E54 <|
  And.intro E57 <|
  And.intro E58 <|
  And.intro E62 <|
  And.intro E63 <|
  And.intro E67 <|
  And.intro E68 <|
  And.intro E69 <|
  And.intro E73 <|
  And.intro E74 <|
  And.intro E76 <|
  And.intro E81 <|
  And.intro E82 <|
  And.intro E84 <|
  And.intro E87 <|
  And.intro E89 <|
  And.intro E96 <|
  And.intro E97 <|
  And.intro E98 <|
  And.intro E102 <|
  And.intro E103 <|
  And.intro E104 <|
  And.intro E113 <|
  And.intro E121 <|
  And.intro E128 <|
  And.intro E129 <|
  And.intro E135 <|
  And.intro E148 <|
  And.intro E159 <|
  And.intro E170 <|
  And.intro E174 <|
  And.intro E176 <|
  And.intro E177 <|
  And.intro E192 <|
  And.intro E193 <|
  And.intro E202 <|
  And.intro E210 <|
  And.intro E211 <|
  And.intro E212 <|
  And.intro E221 <|
  And.intro E225 <|
  And.intro E231 <|
  And.intro E237 <|
  E260) :=
  And.intro E2 <|
  And.intro E3 <|
  And.intro E4 <|
  And.intro E5 <|
  And.intro E9 <|
  And.intro E12 <|
  And.intro E13 <|
  And.intro E21 <|
  And.intro E22 <|
  And.intro E23 <|
  And.intro E24 <|
  And.intro E25 <|
  And.intro E26 <|
  And.intro E27 <|
  And.intro E28 <|
  And.intro E30 <|
  And.intro E33 <|
  And.intro E34 <|
  And.intro E35 <|
  And.intro E36 <|
  And.intro E37 <|
  And.intro E39 <|
  And.intro E46 <|
  And.intro E52 <|
  And.intro E53 <|
  And.intro E54 <|
  And.intro E57 <|
  And.intro E58 <|
  And.intro E62 <|
  And.intro E63 <|
  And.intro E67 <|
  And.intro E68 <|
  And.intro E69 <|
  And.intro E73 <|
  And.intro E74 <|
  And.intro E76 <|
  And.intro E81 <|
  And.intro E82 <|
  And.intro E84 <|
  And.intro E87 <|
  And.intro E89 <|
  And.intro E96 <|
  And.intro E97 <|
  And.intro E98 <|
  And.intro E102 <|
  And.intro E103 <|
  And.intro E104 <|
  And.intro E113 <|
  And.intro E121 <|
  And.intro E128 <|
  And.intro E129 <|
  And.intro E135 <|
  And.intro E148 <|
  And.intro E159 <|
  And.intro E170 <|
  And.intro E174 <|
  And.intro E176 <|
  And.intro E177 <|
  And.intro E192 <|
  And.intro E193 <|
  And.intro E202 <|
  And.intro E210 <|
  And.intro E211 <|
  And.intro E212 <|
  And.intro E221 <|
  And.intro E225 <|
  And.intro E231 <|
  And.intro E237 <|
  E260
end Go.Proofs.Ytcfhdogmkbfnhaa

/- Facts on the types and functions of this program, as rewrite rules. -/
import Derived.Test.YteklnhogokjkkaaBM
import Derived.Test.YteklnhogokjkkaaProg
namespace Go.Proofs.Yteklnhogokjkkaa.AE
open Go Go.RowKit Go.Proofs
theorem mixed : Try.prog.follows .mixedOrders = true := by kernel_rfl
theorem TF0 : kT Try.prog 2 = some (.int .i64) ∧
    sizeT Try.prog 2 = some 1 ∧
    byteT Try.prog 2 = some 8 ∧
    aggT Try.prog 2 = some false ∧
    zeroT Try.prog 2 = some [.int .i64 0] ∧
    Try.prog.concrete 2 = true ∧
    kT Try.prog 3 = some (.int .i64) ∧
    sizeT Try.prog 3 = some 1 ∧
    byteT Try.prog 3 = some 8 ∧
    aggT Try.prog 3 = some false ∧
    zeroT Try.prog 3 = some [.int .i64 0] ∧
    Try.prog.concrete 3 = true ∧
    kT Try.prog 4 = some .bool ∧
    sizeT Try.prog 4 = some 1 ∧
    byteT Try.prog 4 = some 1 ∧
    aggT Try.prog 4 = some false ∧
    zeroT Try.prog 4 = some [.bool false] ∧
    boolT Try.prog 4 = true ∧
    kT Try.prog 5 = some (.int .u8) ∧
    sizeT Try.prog 5 = some 1 :=
  ⟨by kernel_rfl, by kernel_rfl, by kernel_rfl, by kernel_rfl, by kernel_rfl, by kernel_rfl, by kernel_rfl, by kernel_rfl, by kernel_rfl, by kernel_rfl, by kernel_rfl, by kernel_rfl, by kernel_rfl, by kernel_rfl, by kernel_rfl, by kernel_rfl, by kernel_rfl, by kernel_rfl, by kernel_rfl, by kernel_rfl⟩
theorem TF1 : byteT Try.prog 5 = some 1 ∧
    aggT Try.prog 5 = some false ∧
    zeroT Try.prog 5 = some [.int .u8 0] ∧
    Try.prog.concrete 5 = true ∧
    kT Try.prog 9 = some .str ∧
    sizeT Try.prog 9 = some 1 ∧
    byteT Try.prog 9 = some 16 ∧
    aggT Try.prog 9 = some false ∧
    zeroT Try.prog 9 = some [.str []] ∧
    kT Try.prog 12 = some (.int .u64) ∧
    sizeT Try.prog 12 = some 1 ∧
    byteT Try.prog 12 = some 8 ∧
    aggT Try.prog 12 = some false ∧
    zeroT Try.prog 12 = some [.int .u64 0] ∧
    Try.prog.concrete 12 = true ∧
    kT Try.prog 17 = some (.ptr 106) ∧
    sizeT Try.prog 17 = some 1 ∧
    byteT Try.prog 17 = some 8 ∧
    aggT Try.prog 17 = some false ∧
    zeroT Try.prog 17 = some [.nilp] :=
  ⟨by kernel_rfl, by kernel_rfl, by kernel_rfl, by kernel_rfl, by kernel_rfl, by kernel_rfl, by kernel_rfl, by kernel_rfl, by kernel_rfl, by kernel_rfl, by kernel_rfl, by kernel_rfl, by kernel_rfl, by kernel_rfl, by kernel_rfl, by kernel_rfl, by kernel_rfl, by kernel_rfl, by kernel_rfl, by kernel_rfl⟩
theorem TF2 : kT Try.prog 21 = some (.int .i32) ∧
    sizeT Try.prog 21 = some 1 ∧
    byteT Try.prog 21 = some 4 ∧
    aggT Try.prog 21 = some false ∧
    zeroT Try.prog 21 = some [.int .i32 0] ∧
    Try.prog.concrete 21 = true ∧
    kT Try.prog 22 = some (.slice 58) ∧
    sizeT Try.prog 22 = some 1 ∧
    byteT Try.prog 22 = some 24 ∧
    aggT Try.prog 22 = some false ∧
    zeroT Try.prog 22 = some [.zs] ∧
    kT Try.prog 23 = some .strct ∧
    sizeT Try.prog 23 = some 4 ∧
    byteT Try.prog 23 = some 48 ∧
    aggT Try.prog 23 = some true ∧
    zeroT Try.prog 23 = some [.int .i64 0, .int .i64 0, .int .i64 0, .zs] ∧
    offT Try.prog 23 0 = some 0 ∧
    partT Try.prog 23 0 = some (0, 1, false) ∧
    offT Try.prog 23 1 = some 1 ∧
    partT Try.prog 23 1 = some (1, 1, false) :=
  ⟨by kernel_rfl, by kernel_rfl, by kernel_rfl, by kernel_rfl, by kernel_rfl, by kernel_rfl, by kernel_rfl, by kernel_rfl, by kernel_rfl, by kernel_rfl, by kernel_rfl, by kernel_rfl, by kernel_rfl, by kernel_rfl, by kernel_rfl, by kernel_rfl, by kernel_rfl, by kernel_rfl, by kernel_rfl, by kernel_rfl⟩
theorem TF3 : offT Try.prog 23 2 = some 2 ∧
    partT Try.prog 23 2 = some (2, 1, false) ∧
    offT Try.prog 23 3 = some 3 ∧
    partT Try.prog 23 3 = some (3, 1, false) ∧
    placesT Try.prog 23 = some [(0, 1), (1, 1), (2, 1), (3, 1)] ∧
    kT Try.prog 24 = some .strct ∧
    sizeT Try.prog 24 = some 4 ∧
    byteT Try.prog 24 = some 48 ∧
    aggT Try.prog 24 = some true ∧
    zeroT Try.prog 24 = some [.int .i64 0, .int .i64 0, .int .i64 0, .zs] ∧
    offT Try.prog 24 0 = some 0 ∧
    partT Try.prog 24 0 = some (0, 1, false) ∧
    offT Try.prog 24 1 = some 1 ∧
    partT Try.prog 24 1 = some (1, 1, false) ∧
    offT Try.prog 24 2 = some 2 ∧
    partT Try.prog 24 2 = some (2, 1, false) ∧
    offT Try.prog 24 3 = some 3 ∧
    partT Try.prog 24 3 = some (3, 1, false) ∧
    placesT Try.prog 24 = some [(0, 1), (1, 1), (2, 1), (3, 1)] ∧
    kT Try.prog 25 = some (.slice 5) :=
  ⟨by kernel_rfl, by kernel_rfl, by kernel_rfl, by kernel_rfl, by kernel_rfl, by kernel_rfl, by kernel_rfl, by kernel_rfl, by kernel_rfl, by kernel_rfl, by kernel_rfl, by kernel_rfl, by kernel_rfl, by kernel_rfl, by kernel_rfl, by kernel_rfl, by kernel_rfl, by kernel_rfl, by kernel_rfl, by kernel_rfl⟩
theorem TF4 : sizeT Try.prog 25 = some 1 ∧
    byteT Try.prog 25 = some 24 ∧
    aggT Try.prog 25 = some false ∧
    zeroT Try.prog 25 = some [.zs] ∧
    kT Try.prog 26 = some .strct ∧
    sizeT Try.prog 26 = some 4 ∧
    byteT Try.prog 26 = some 48 ∧
    aggT Try.prog 26 = some true ∧
    zeroT Try.prog 26 = some [.int .i64 0, .int .i64 0, .int .i64 0, .zs] ∧
    offT Try.prog 26 0 = some 0 ∧
    partT Try.prog 26 0 = some (0, 1, false) ∧
    offT Try.prog 26 1 = some 1 ∧
    partT Try.prog 26 1 = some (1, 1, false) ∧
    offT Try.prog 26 2 = some 2 ∧
    partT Try.prog 26 2 = some (2, 1, false) ∧
    offT Try.prog 26 3 = some 3 ∧
    partT Try.prog 26 3 = some (3, 1, false) ∧
    placesT Try.prog 26 = some [(0, 1), (1, 1), (2, 1), (3, 1)] ∧
    kT Try.prog 29 = some (.int .i64) ∧
    sizeT Try.prog 29 = some 1 :=
  ⟨by kernel_rfl, by kernel_rfl, by kernel_rfl, by kernel_rfl, by kernel_rfl, by kernel_rfl, by kernel_rfl, by kernel_rfl, by kernel_rfl, by kernel_rfl, by kernel_rfl, by kernel_rfl, by kernel_rfl, by kernel_rfl, by kernel_rfl, by kernel_rfl, by kernel_rfl, by kernel_rfl, by kernel_rfl, by kernel_rfl⟩
theorem TF5 : byteT Try.prog 29 = some 8 ∧
    aggT Try.prog 29 = some false ∧
    zeroT Try.prog 29 = some [.int .i64 0] ∧
    Try.prog.concrete 29 = true ∧
    kT Try.prog 38 = some (.slice 26) ∧
    sizeT Try.prog 38 = some 1 ∧
    byteT Try.prog 38 = some 24 ∧
    aggT Try.prog 38 = some false ∧
    zeroT Try.prog 38 = some [.zs] ∧
    kT Try.prog 41 = some (.slice 24) ∧
    sizeT Try.prog 41 = some 1 ∧
    byteT Try.prog 41 = some 24 ∧
    aggT Try.prog 41 = some false ∧
    zeroT Try.prog 41 = some [.zs] ∧
    kT Try.prog 53 = some (.slice 3) ∧
    sizeT Try.prog 53 = some 1 ∧
    byteT Try.prog 53 = some 24 ∧
    aggT Try.prog 53 = some false ∧
    zeroT Try.prog 53 = some [.zs] ∧
    kT Try.prog 57 = some .strct :=
  ⟨by kernel_rfl, by kernel_rfl, by kernel_rfl, by kernel_rfl, by kernel_rfl, by kernel_rfl, by kernel_rfl, by kernel_rfl, by kernel_rfl, by kernel_rfl, by kernel_rfl, by kernel_rfl, by kernel_rfl, by kernel_rfl, by kernel_rfl, by kernel_rfl, by kernel_rfl, by kernel_rfl, by kernel_rfl, by kernel_rfl⟩
theorem TF6 : sizeT Try.prog 57 = some 2 ∧
    byteT Try.prog 57 = some 32 ∧
    aggT Try.prog 57 = some true ∧
    zeroT Try.prog 57 = some [.int .i64 0, .zs] ∧
    offT Try.prog 57 0 = some 0 ∧
    partT Try.prog 57 0 = some (0, 1, false) ∧
    offT Try.prog 57 1 = some 1 ∧
    partT Try.prog 57 1 = some (1, 1, false) ∧
    placesT Try.prog 57 = some [(0, 1), (1, 1)] ∧
    kT Try.prog 58 = some .strct ∧
    sizeT Try.prog 58 = some 2 ∧
    byteT Try.prog 58 = some 32 ∧
    aggT Try.prog 58 = some true ∧
    zeroT Try.prog 58 = some [.int .i64 0, .zs] ∧
    offT Try.prog 58 0 = some 0 ∧
    partT Try.prog 58 0 = some (0, 1, false) ∧
    offT Try.prog 58 1 = some 1 ∧
    partT Try.prog 58 1 = some (1, 1, false) ∧
    placesT Try.prog 58 = some [(0, 1), (1, 1)] ∧
    kT Try.prog 62 = some (.int .u64) :=
  ⟨by kernel_rfl, by kernel_rfl, by kernel_rfl, by kernel_rfl, by kernel_rfl, by kernel_rfl, by kernel_rfl, by kernel_rfl, by kernel_rfl, by kernel_rfl, by kernel_rfl, by kernel_rfl, by kernel_rfl, by kernel_rfl, by kernel_rfl, by kernel_rfl, by kernel_rfl, by kernel_rfl, by kernel_rfl, by kernel_rfl⟩
theorem TF7 : sizeT Try.prog 62 = some 1 ∧
    byteT Try.prog 62 = some 8 ∧
    aggT Try.prog 62 = some false ∧
    zeroT Try.prog 62 = some [.int .u64 0] ∧
    Try.prog.concrete 62 = true ∧
    kT Try.prog 63 = some (.slice 62) ∧
    sizeT Try.prog 63 = some 1 ∧
    byteT Try.prog 63 = some 24 ∧
    aggT Try.prog 63 = some false ∧
    zeroT Try.prog 63 = some [.zs] ∧
    kT Try.prog 70 = some (.ptr 72) ∧
    sizeT Try.prog 70 = some 1 ∧
    byteT Try.prog 70 = some 8 ∧
    aggT Try.prog 70 = some false ∧
    zeroT Try.prog 70 = some [.nilp] ∧
    kT Try.prog 71 = some .strct ∧
    sizeT Try.prog 71 = some 2 ∧
    byteT Try.prog 71 = some 32 ∧
    aggT Try.prog 71 = some true ∧
    zeroT Try.prog 71 = some [.zs, .int .i64 0] :=
  ⟨by kernel_rfl, by kernel_rfl, by kernel_rfl, by kernel_rfl, by kernel_rfl, by kernel_rfl, by kernel_rfl, by kernel_rfl, by kernel_rfl, by kernel_rfl, by kernel_rfl, by kernel_rfl, by kernel_rfl, by kernel_rfl, by kernel_rfl, by kernel_rfl, by kernel_rfl, by kernel_rfl, by kernel_rfl, by kernel_rfl⟩
theorem TF8 : offT Try.prog 71 0 = some 0 ∧
    partT Try.prog 71 0 = some (0, 1, false) ∧
    offT Try.prog 71 1 = some 1 ∧
    partT Try.prog 71 1 = some (1, 1, false) ∧
    placesT Try.prog 71 = some [(0, 1), (1, 1)] ∧
    kT Try.prog 72 = some .strct ∧
    sizeT Try.prog 72 = some 2 ∧
    byteT Try.prog 72 = some 32 ∧
    aggT Try.prog 72 = some true ∧
    zeroT Try.prog 72 = some [.zs, .int .i64 0] ∧
    offT Try.prog 72 0 = some 0 ∧
    partT Try.prog 72 0 = some (0, 1, false) ∧
    offT Try.prog 72 1 = some 1 ∧
    partT Try.prog 72 1 = some (1, 1, false) ∧
    placesT Try.prog 72 = some [(0, 1), (1, 1)] ∧
    kT Try.prog 78 = some (.int .u32) ∧
    sizeT Try.prog 78 = some 1 ∧
    byteT Try.prog 78 = some 4 ∧
    aggT Try.prog 78 = some false ∧
    zeroT Try.prog 78 = some [.int .u32 0] :=
  ⟨by kernel_rfl, by kernel_rfl, by kernel_rfl, by kernel_rfl, by kernel_rfl, by kernel_rfl, by kernel_rfl, by kernel_rfl, by kernel_rfl, by kernel_rfl, by kernel_rfl, by kernel_rfl, by kernel_rfl, by kernel_rfl, by kernel_rfl, by kernel_rfl, by kernel_rfl, by kernel_rfl, by kernel_rfl, by kernel_rfl⟩
theorem TF9 : Try.prog.concrete 78 = true ∧
    kT Try.prog 82 = some (.int .u64) ∧
    sizeT Try.prog 82 = some 1 ∧
    byteT Try.prog 82 = some 8 ∧
    aggT Try.prog 82 = some false ∧
    zeroT Try.prog 82 = some [.int .u64 0] ∧
    Try.prog.concrete 82 = true ∧
    kT Try.prog 88 = some (.slice 25) ∧
    sizeT Try.prog 88 = some 1 ∧
    byteT Try.prog 88 = some 24 ∧
    aggT Try.prog 88 = some false ∧
    zeroT Try.prog 88 = some [.zs] ∧
    kT Try.prog 90 = some (.arr 16 78) ∧
    sizeT Try.prog 90 = some 16 ∧
    byteT Try.prog 90 = some 64 ∧
    aggT Try.prog 90 = some true ∧
    zeroT Try.prog 90 = some [.int .u32 0, .int .u32 0, .int .u32 0, .int .u32 0, .int .u32 0, .int .u32 0, .int .u32 0, .int .u32 0, .int .u32 0, .int .u32 0, .int .u32 0, .int .u32 0, .int .u32 0, .int .u32 0, .int .u32 0, .int .u32 0] ∧
    placesT Try.prog 90 = some [(0, 1), (1, 1), (2, 1), (3, 1), (4, 1), (5, 1), (6, 1), (7, 1), (8, 1), (9, 1), (10, 1), (11, 1), (12, 1), (13, 1), (14, 1), (15, 1)] ∧
    kT Try.prog 102 = some (.ptr 5) ∧
    sizeT Try.prog 102 = some 1 :=
  ⟨by kernel_rfl, by kernel_rfl, by kernel_rfl, by kernel_rfl, by kernel_rfl, by kernel_rfl, by kernel_rfl, by kernel_rfl, by kernel_rfl, by kernel_rfl, by kernel_rfl, by kernel_rfl, by kernel_rfl, by kernel_rfl, by kernel_rfl, by kernel_rfl, by kernel_rfl, by kernel_rfl, by kernel_rfl, by kernel_rfl⟩
theorem TF10 : byteT Try.prog 102 = some 8 ∧
    aggT Try.prog 102 = some false ∧
    zeroT Try.prog 102 = some [.nilp] ∧
    kT Try.prog 105 = some .strct ∧
    sizeT Try.prog 105 = some 11 ∧
    byteT Try.prog 105 = some 48 ∧
    aggT Try.prog 105 = some true ∧
    zeroT Try.prog 105 = some [.int .u64 0, .int .u64 0, .int .u32 0, .int .u8 0, .int .u8 0, .int .u8 0, .int .u8 0, .nilf, .nilp, .int .i32 0, .int .i32 0] ∧
    offT Try.prog 105 0 = some 0 ∧
    partT Try.prog 105 0 = some (0, 1, false) ∧
    offT Try.prog 105 1 = some 1 ∧
    partT Try.prog 105 1 = some (1, 1, false) ∧
    offT Try.prog 105 2 = some 2 ∧
    partT Try.prog 105 2 = some (2, 1, false) ∧
    offT Try.prog 105 3 = some 3 ∧
    partT Try.prog 105 3 = some (3, 1, false) ∧
    offT Try.prog 105 4 = some 4 ∧
    partT Try.prog 105 4 = some (4, 1, false) ∧
    offT Try.prog 105 5 = some 5 ∧
    partT Try.prog 105 5 = some (5, 1, false) :=
  ⟨by kernel_rfl, by kernel_rfl, by kernel_rfl, by kernel_rfl, by kernel_rfl, by kernel_rfl, by kernel_rfl, by kernel_rfl, by kernel_rfl, by kernel_rfl, by kernel_rfl, by kernel_rfl, by kernel_rfl, by kernel_rfl, by kernel_rfl, by kernel_rfl, by kernel_rfl, by kernel_rfl, by kernel_rfl, by kernel_rfl⟩
theorem TF11 : offT Try.prog 105 6 = some 6 ∧
    partT Try.prog 105 6 = some (6, 1, false) ∧
    offT Try.prog 105 7 = some 7 ∧
    partT Try.prog 105 7 = some (7, 1, false) ∧
    offT Try.prog 105 8 = some 8 ∧
    partT Try.prog 105 8 = some (8, 1, false) ∧
    offT Try.prog 105 9 = some 9 ∧
    partT Try.prog 105 9 = some (9, 1, false) ∧
    offT Try.prog 105 10 = some 10 ∧
    partT Try.prog 105 10 = some (10, 1, false) ∧
    placesT Try.prog 105 = some [(0, 1), (1, 1), (2, 1), (3, 1), (4, 1), (5, 1), (6, 1), (7, 1), (8, 1), (9, 1), (10, 1)] ∧
    callable Try.prog 3 = true ∧
    callable Try.prog 4 = true ∧
    callable Try.prog 5 = true ∧
    callable Try.prog 6 = true ∧
    callable Try.prog 7 = true ∧
    callable Try.prog 8 = true ∧
    callable Try.prog 9 = true ∧
    callable Try.prog 10 = true ∧
    callable Try.prog 11 = true :=
  ⟨by kernel_rfl, by kernel_rfl, by kernel_rfl, by kernel_rfl, by kernel_rfl, by kernel_rfl, by kernel_rfl, by kernel_rfl, by kernel_rfl, by kernel_rfl, by kernel_rfl, by kernel_rfl, by kernel_rfl, by kernel_rfl, by kernel_rfl, by kernel_rfl, by kernel_rfl, by kernel_rfl, by kernel_rfl, by kernel_rfl⟩
theorem TF12 : callable Try.prog 12 = true ∧
    callable Try.prog 13 = true ∧
    callable Try.prog 14 = true ∧
    callable Try.prog 15 = true ∧
    callable Try.prog 16 = true ∧
    callable Try.prog 17 = true ∧
    callable Try.prog 18 = true ∧
    callable Try.prog 19 = true ∧
    callable Try.prog 20 = true ∧
    callable Try.prog 21 = true ∧
    callable Try.prog 22 = true ∧
    callable Try.prog 23 = true ∧
    callable Try.prog 24 = true ∧
    callable Try.prog 25 = true ∧
    callable Try.prog 26 = true ∧
    callable Try.prog 27 = true ∧
    callable Try.prog 28 = true ∧
    callable Try.prog 29 = true ∧
    callable Try.prog 30 = true ∧
    callable Try.prog 31 = true :=
  ⟨by kernel_rfl, by kernel_rfl, by kernel_rfl, by kernel_rfl, by kernel_rfl, by kernel_rfl, by kernel_rfl, by kernel_rfl, by kernel_rfl, by kernel_rfl, by kernel_rfl, by kernel_rfl, by kernel_rfl, by kernel_rfl, by kernel_rfl, by kernel_rfl, by kernel_rfl, by kernel_rfl, by kernel_rfl, by kernel_rfl⟩
theorem TF13 : callable Try.prog 32 = true ∧
    callable Try.prog 33 = true ∧
    callable Try.prog 34 = true ∧
    callable Try.prog 35 = true ∧
    callable Try.prog 36 = true ∧
    callable Try.prog 37 = true ∧
    callable Try.prog 38 = true ∧
    callable Try.prog 39 = true ∧
    callable Try.prog 40 = true ∧
    callable Try.prog 41 = true ∧
    callable Try.prog 42 = true ∧
    callable Try.prog 43 = true ∧
    callable Try.prog 44 = true ∧
    callable Try.prog 45 = true ∧
    callable Try.prog 46 = true ∧
    callable Try.prog 47 = true ∧
    callable Try.prog 48 = true ∧
    callable Try.prog 49 = true ∧
    callable Try.prog 50 = true ∧
    callable Try.prog 51 = true :=
  ⟨by kernel_rfl, by kernel_rfl, by kernel_rfl, by kernel_rfl, by kernel_rfl, by kernel_rfl, by kernel_rfl, by kernel_rfl, by kernel_rfl, by kernel_rfl, by kernel_rfl, by kernel_rfl, by kernel_rfl, by kernel_rfl, by kernel_rfl, by kernel_rfl, by kernel_rfl, by kernel_rfl, by kernel_rfl, by kernel_rfl⟩
theorem TF14 : callable Try.prog 52 = true := by kernel_rfl
theorem WS : type_of% (And.intro AW0 <| And.intro AW1 <| And.intro AW2 <| And.intro AW3 <| And.intro AW4 <| And.intro AW5 <| And.intro AW6 <| And.intro AW7 <| And.intro AW8 <| And.intro AW9 <| And.intro AW10 <| And.intro TF0 <| And.intro TF1 <| And.intro TF2 <| And.intro TF3 <| And.intro TF4 <| And.intro TF5 <| And.intro TF6 <| And.intro TF7 <| And.intro TF8 <| And.intro TF9 <| And.intro TF10 <| And.intro TF11 <| And.intro TF12 <| And.intro TF13 <| TF14) :=
  And.intro AW0 <| And.intro AW1 <| And.intro AW2 <| And.intro AW3 <| And.intro AW4 <| And.intro AW5 <| And.intro AW6 <| And.intro AW7 <| And.intro AW8 <| And.intro AW9 <| And.intro AW10 <| And.intro TF0 <| And.intro TF1 <| And.intro TF2 <| And.intro TF3 <| And.intro TF4 <| And.intro TF5 <| And.intro TF6 <| And.intro TF7 <| And.intro TF8 <| And.intro TF9 <| And.intro TF10 <| And.intro TF11 <| And.intro TF12 <| And.intro TF13 <| TF14
end Go.Proofs.Yteklnhogokjkkaa.AE

/- Facts on the types and functions of this program, as rewrite rules. -/
import Derived.Test.YtijmldjghhndoaaBM
import Derived.Test.YtijmldjghhndoaaProg
namespace Go.Proofs.Ytijmldjghhndoaa.AE
open Go Go.RowKit Go.Proofs
theorem mixed : Try.prog.follows .mixedOrders = true := by kernel_rfl
theorem TF0 : kT Try.prog 2 = some (.int .i64) ∧
    sizeT Try.prog 2 = some 1 ∧
    byteT Try.prog 2 = some 8 ∧
    aggT Try.prog 2 = some false ∧
    zeroT Try.prog 2 = some [.int .i64 0] ∧
    Try.prog.concrete 2 = true ∧
    kT Try.prog 3 = some (.int .i64) ∧
    sizeT Try.prog 3 = some 1 ∧
    byteT Try.prog 3 = some 8 ∧
    aggT Try.prog 3 = some false ∧
    zeroT Try.prog 3 = some [.int .i64 0] ∧
    Try.prog.concrete 3 = true ∧
    kT Try.prog 4 = some .bool ∧
    sizeT Try.prog 4 = some 1 ∧
    byteT Try.prog 4 = some 1 ∧
    aggT Try.prog 4 = some false ∧
    zeroT Try.prog 4 = some [.bool false] ∧
    boolT Try.prog 4 = true ∧
    kT Try.prog 5 = some (.int .u8) ∧
    sizeT Try.prog 5 = some 1 :=
  ⟨by kernel_rfl, by kernel_rfl, by kernel_rfl, by kernel_rfl, by kernel_rfl, by kernel_rfl, by kernel_rfl, by kernel_rfl, by kernel_rfl, by kernel_rfl, by kernel_rfl, by kernel_rfl, by kernel_rfl, by kernel_rfl, by kernel_rfl, by kernel_rfl, by kernel_rfl, by kernel_rfl, by kernel_rfl, by kernel_rfl⟩
theorem TF1 : byteT Try.prog 5 = some 1 ∧
    aggT Try.prog 5 = some false ∧
    zeroT Try.prog 5 = some [.int .u8 0] ∧
    Try.prog.concrete 5 = true ∧
    kT Try.prog 9 = some .str ∧
    sizeT Try.prog 9 = some 1 ∧
    byteT Try.prog 9 = some 16 ∧
    aggT Try.prog 9 = some false ∧
    zeroT Try.prog 9 = some [.str []] ∧
    kT Try.prog 12 = some (.int .u64) ∧
    sizeT Try.prog 12 = some 1 ∧
    byteT Try.prog 12 = some 8 ∧
    aggT Try.prog 12 = some false ∧
    zeroT Try.prog 12 = some [.int .u64 0] ∧
    Try.prog.concrete 12 = true ∧
    kT Try.prog 17 = some (.ptr 112) ∧
    sizeT Try.prog 17 = some 1 ∧
    byteT Try.prog 17 = some 8 ∧
    aggT Try.prog 17 = some false ∧
    zeroT Try.prog 17 = some [.nilp] :=
  ⟨by kernel_rfl, by kernel_rfl, by kernel_rfl, by kernel_rfl, by kernel_rfl, by kernel_rfl, by kernel_rfl, by kernel_rfl, by kernel_rfl, by kernel_rfl, by kernel_rfl, by kernel_rfl, by kernel_rfl, by kernel_rfl, by kernel_rfl, by kernel_rfl, by kernel_rfl, by kernel_rfl, by kernel_rfl, by kernel_rfl⟩
theorem TF2 : kT Try.prog 21 = some (.int .i32) ∧
    sizeT Try.prog 21 = some 1 ∧
    byteT Try.prog 21 = some 4 ∧
    aggT Try.prog 21 = some false ∧
    zeroT Try.prog 21 = some [.int .i32 0] ∧
    Try.prog.concrete 21 = true ∧
    kT Try.prog 22 = some (.slice 26) ∧
    sizeT Try.prog 22 = some 1 ∧
    byteT Try.prog 22 = some 24 ∧
    aggT Try.prog 22 = some false ∧
    zeroT Try.prog 22 = some [.zs] ∧
    kT Try.prog 23 = some (.slice 46) ∧
    sizeT Try.prog 23 = some 1 ∧
    byteT Try.prog 23 = some 24 ∧
    aggT Try.prog 23 = some false ∧
    zeroT Try.prog 23 = some [.zs] ∧
    kT Try.prog 24 = some .strct ∧
    sizeT Try.prog 24 = some 3 ∧
    byteT Try.prog 24 = some 56 ∧
    aggT Try.prog 24 = some true :=
  ⟨by kernel_rfl, by kernel_rfl, by kernel_rfl, by kernel_rfl, by kernel_rfl, by kernel_rfl, by kernel_rfl, by kernel_rfl, by kernel_rfl, by kernel_rfl, by kernel_rfl, by kernel_rfl, by kernel_rfl, by kernel_rfl, by kernel_rfl, by kernel_rfl, by kernel_rfl, by kernel_rfl, by kernel_rfl, by kernel_rfl⟩
theorem TF3 : zeroT Try.prog 24 = some [.zs, .zs, .int .i64 0] ∧
    offT Try.prog 24 0 = some 0 ∧
    partT Try.prog 24 0 = some (0, 1, false) ∧
    offT Try.prog 24 1 = some 1 ∧
    partT Try.prog 24 1 = some (1, 1, false) ∧
    offT Try.prog 24 2 = some 2 ∧
    partT Try.prog 24 2 = some (2, 1, false) ∧
    placesT Try.prog 24 = some [(0, 1), (1, 1), (2, 1)] ∧
    kT Try.prog 25 = some .strct ∧
    sizeT Try.prog 25 = some 3 ∧
    byteT Try.prog 25 = some 56 ∧
    aggT Try.prog 25 = some true ∧
    zeroT Try.prog 25 = some [.zs, .zs, .int .i64 0] ∧
    offT Try.prog 25 0 = some 0 ∧
    partT Try.prog 25 0 = some (0, 1, false) ∧
    offT Try.prog 25 1 = some 1 ∧
    partT Try.prog 25 1 = some (1, 1, false) ∧
    offT Try.prog 25 2 = some 2 ∧
    partT Try.prog 25 2 = some (2, 1, false) ∧
    placesT Try.prog 25 = some [(0, 1), (1, 1), (2, 1)] :=
  ⟨by kernel_rfl, by kernel_rfl, by kernel_rfl, by kernel_rfl, by kernel_rfl, by kernel_rfl, by kernel_rfl, by kernel_rfl, by kernel_rfl, by kernel_rfl, by kernel_rfl, by kernel_rfl, by kernel_rfl, by kernel_rfl, by kernel_rfl, by kernel_rfl, by kernel_rfl, by kernel_rfl, by kernel_rfl, by kernel_rfl⟩
theorem TF4 : kT Try.prog 26 = some (.slice 5) ∧
    sizeT Try.prog 26 = some 1 ∧
    byteT Try.prog 26 = some 24 ∧
    aggT Try.prog 26 = some false ∧
    zeroT Try.prog 26 = some [.zs] ∧
    kT Try.prog 28 = some (.slice 55) ∧
    sizeT Try.prog 28 = some 1 ∧
    byteT Try.prog 28 = some 24 ∧
    aggT Try.prog 28 = some false ∧
    zeroT Try.prog 28 = some [.zs] ∧
    kT Try.prog 29 = some .strct ∧
    sizeT Try.prog 29 = some 3 ∧
    byteT Try.prog 29 = some 56 ∧
    aggT Try.prog 29 = some true ∧
    zeroT Try.prog 29 = some [.zs, .zs, .int .i64 0] ∧
    offT Try.prog 29 0 = some 0 ∧
    partT Try.prog 29 0 = some (0, 1, false) ∧
    offT Try.prog 29 1 = some 1 ∧
    partT Try.prog 29 1 = some (1, 1, false) ∧
    offT Try.prog 29 2 = some 2 :=
  ⟨by kernel_rfl, by kernel_rfl, by kernel_rfl, by kernel_rfl, by kernel_rfl, by kernel_rfl, by kernel_rfl, by kernel_rfl, by kernel_rfl, by kernel_rfl, by kernel_rfl, by kernel_rfl, by kernel_rfl, by kernel_rfl, by kernel_rfl, by kernel_rfl, by kernel_rfl, by kernel_rfl, by kernel_rfl, by kernel_rfl⟩
theorem TF5 : partT Try.prog 29 2 = some (2, 1, false) ∧
    placesT Try.prog 29 = some [(0, 1), (1, 1), (2, 1)] ∧
    kT Try.prog 30 = some .strct ∧
    sizeT Try.prog 30 = some 3 ∧
    byteT Try.prog 30 = some 56 ∧
    aggT Try.prog 30 = some true ∧
    zeroT Try.prog 30 = some [.zs, .zs, .int .i64 0] ∧
    offT Try.prog 30 0 = some 0 ∧
    partT Try.prog 30 0 = some (0, 1, false) ∧
    offT Try.prog 30 1 = some 1 ∧
    partT Try.prog 30 1 = some (1, 1, false) ∧
    offT Try.prog 30 2 = some 2 ∧
    partT Try.prog 30 2 = some (2, 1, false) ∧
    placesT Try.prog 30 = some [(0, 1), (1, 1), (2, 1)] ∧
    kT Try.prog 31 = some (.int .i64) ∧
    sizeT Try.prog 31 = some 1 ∧
    byteT Try.prog 31 = some 8 ∧
    aggT Try.prog 31 = some false ∧
    zeroT Try.prog 31 = some [.int .i64 0] ∧
    Try.prog.concrete 31 = true :=
  ⟨by kernel_rfl, by kernel_rfl, by kernel_rfl, by kernel_rfl, by kernel_rfl, by kernel_rfl, by kernel_rfl, by kernel_rfl, by kernel_rfl, by kernel_rfl, by kernel_rfl, by kernel_rfl, by kernel_rfl, by kernel_rfl, by kernel_rfl, by kernel_rfl, by kernel_rfl, by kernel_rfl, by kernel_rfl, by kernel_rfl⟩
theorem TF6 : kT Try.prog 41 = some (.slice 4) ∧
    sizeT Try.prog 41 = some 1 ∧
    byteT Try.prog 41 = some 24 ∧
    aggT Try.prog 41 = some false ∧
    zeroT Try.prog 41 = some [.zs] ∧
    kT Try.prog 45 = some .strct ∧
    sizeT Try.prog 45 = some 3 ∧
    byteT Try.prog 45 = some 40 ∧
    aggT Try.prog 45 = some true ∧
    zeroT Try.prog 45 = some [.int .i64 0, .int .i64 0, .zs] ∧
    offT Try.prog 45 0 = some 0 ∧
    partT Try.prog 45 0 = some (0, 1, false) ∧
    offT Try.prog 45 1 = some 1 ∧
    partT Try.prog 45 1 = some (1, 1, false) ∧
    offT Try.prog 45 2 = some 2 ∧
    partT Try.prog 45 2 = some (2, 1, false) ∧
    placesT Try.prog 45 = some [(0, 1), (1, 1), (2, 1)] ∧
    kT Try.prog 46 = some .strct ∧
    sizeT Try.prog 46 = some 3 ∧
    byteT Try.prog 46 = some 40 :=
  ⟨by kernel_rfl, by kernel_rfl, by kernel_rfl, by kernel_rfl, by kernel_rfl, by kernel_rfl, by kernel_rfl, by kernel_rfl, by kernel_rfl, by kernel_rfl, by kernel_rfl, by kernel_rfl, by kernel_rfl, by kernel_rfl, by kernel_rfl, by kernel_rfl, by kernel_rfl, by kernel_rfl, by kernel_rfl, by kernel_rfl⟩
theorem TF7 : aggT Try.prog 46 = some true ∧
    zeroT Try.prog 46 = some [.int .i64 0, .int .i64 0, .zs] ∧
    offT Try.prog 46 0 = some 0 ∧
    partT Try.prog 46 0 = some (0, 1, false) ∧
    offT Try.prog 46 1 = some 1 ∧
    partT Try.prog 46 1 = some (1, 1, false) ∧
    offT Try.prog 46 2 = some 2 ∧
    partT Try.prog 46 2 = some (2, 1, false) ∧
    placesT Try.prog 46 = some [(0, 1), (1, 1), (2, 1)] ∧
    kT Try.prog 55 = some .strct ∧
    sizeT Try.prog 55 = some 3 ∧
    byteT Try.prog 55 = some 40 ∧
    aggT Try.prog 55 = some true ∧
    zeroT Try.prog 55 = some [.int .i64 0, .int .i64 0, .zs] ∧
    offT Try.prog 55 0 = some 0 ∧
    partT Try.prog 55 0 = some (0, 1, false) ∧
    offT Try.prog 55 1 = some 1 ∧
    partT Try.prog 55 1 = some (1, 1, false) ∧
    offT Try.prog 55 2 = some 2 ∧
    partT Try.prog 55 2 = some (2, 1, false) :=
  ⟨by kernel_rfl, by kernel_rfl, by kernel_rfl, by kernel_rfl, by kernel_rfl, by kernel_rfl, by kernel_rfl, by kernel_rfl, by kernel_rfl, by kernel_rfl, by kernel_rfl, by kernel_rfl, by kernel_rfl, by kernel_rfl, by kernel_rfl, by kernel_rfl, by kernel_rfl, by kernel_rfl, by kernel_rfl, by kernel_rfl⟩
theorem TF8 : placesT Try.prog 55 = some [(0, 1), (1, 1), (2, 1)] ∧
    kT Try.prog 85 = some (.int .u64) ∧
    sizeT Try.prog 85 = some 1 ∧
    byteT Try.prog 85 = some 8 ∧
    aggT Try.prog 85 = some false ∧
    zeroT Try.prog 85 = some [.int .u64 0] ∧
    Try.prog.concrete 85 = true ∧
    kT Try.prog 89 = some (.ptr 30) ∧
    sizeT Try.prog 89 = some 1 ∧
    byteT Try.prog 89 = some 8 ∧
    aggT Try.prog 89 = some false ∧
    zeroT Try.prog 89 = some [.nilp] ∧
    kT Try.prog 93 = some (.int .u32) ∧
    sizeT Try.prog 93 = some 1 ∧
    byteT Try.prog 93 = some 4 ∧
    aggT Try.prog 93 = some false ∧
    zeroT Try.prog 93 = some [.int .u32 0] ∧
    Try.prog.concrete 93 = true ∧
    kT Try.prog 96 = some (.int .u64) ∧
    sizeT Try.prog 96 = some 1 :=
  ⟨by kernel_rfl, by kernel_rfl, by kernel_rfl, by kernel_rfl, by kernel_rfl, by kernel_rfl, by kernel_rfl, by kernel_rfl, by kernel_rfl, by kernel_rfl, by kernel_rfl, by kernel_rfl, by kernel_rfl, by kernel_rfl, by kernel_rfl, by kernel_rfl, by kernel_rfl, by kernel_rfl, by kernel_rfl, by kernel_rfl⟩
theorem TF9 : byteT Try.prog 96 = some 8 ∧
    aggT Try.prog 96 = some false ∧
    zeroT Try.prog 96 = some [.int .u64 0] ∧
    Try.prog.concrete 96 = true ∧
    kT Try.prog 108 = some (.ptr 5) ∧
    sizeT Try.prog 108 = some 1 ∧
    byteT Try.prog 108 = some 8 ∧
    aggT Try.prog 108 = some false ∧
    zeroT Try.prog 108 = some [.nilp] ∧
    kT Try.prog 111 = some .strct ∧
    sizeT Try.prog 111 = some 11 ∧
    byteT Try.prog 111 = some 48 ∧
    aggT Try.prog 111 = some true ∧
    zeroT Try.prog 111 = some [.int .u64 0, .int .u64 0, .int .u32 0, .int .u8 0, .int .u8 0, .int .u8 0, .int .u8 0, .nilf, .nilp, .int .i32 0, .int .i32 0] ∧
    offT Try.prog 111 0 = some 0 ∧
    partT Try.prog 111 0 = some (0, 1, false) ∧
    offT Try.prog 111 1 = some 1 ∧
    partT Try.prog 111 1 = some (1, 1, false) ∧
    offT Try.prog 111 2 = some 2 ∧
    partT Try.prog 111 2 = some (2, 1, false) :=
  ⟨by kernel_rfl, by kernel_rfl, by kernel_rfl, by kernel_rfl, by kernel_rfl, by kernel_rfl, by kernel_rfl, by kernel_rfl, by kernel_rfl, by kernel_rfl, by kernel_rfl, by kernel_rfl, by kernel_rfl, by kernel_rfl, by kernel_rfl, by kernel_rfl, by kernel_rfl, by kernel_rfl, by kernel_rfl, by kernel_rfl⟩
theorem TF10 : offT Try.prog 111 3 = some 3 ∧
    partT Try.prog 111 3 = some (3, 1, false) ∧
    offT Try.prog 111 4 = some 4 ∧
    partT Try.prog 111 4 = some (4, 1, false) ∧
    offT Try.prog 111 5 = some 5 ∧
    partT Try.prog 111 5 = some (5, 1, false) ∧
    offT Try.prog 111 6 = some 6 ∧
    partT Try.prog 111 6 = some (6, 1, false) ∧
    offT Try.prog 111 7 = some 7 ∧
    partT Try.prog 111 7 = some (7, 1, false) ∧
    offT Try.prog 111 8 = some 8 ∧
    partT Try.prog 111 8 = some (8, 1, false) ∧
    offT Try.prog 111 9 = some 9 ∧
    partT Try.prog 111 9 = some (9, 1, false) ∧
    offT Try.prog 111 10 = some 10 ∧
    partT Try.prog 111 10 = some (10, 1, false) ∧
    placesT Try.prog 111 = some [(0, 1), (1, 1), (2, 1), (3, 1), (4, 1), (5, 1), (6, 1), (7, 1), (8, 1), (9, 1), (10, 1)] ∧
    callable Try.prog 3 = true ∧
    callable Try.prog 4 = true ∧
    callable Try.prog 5 = true :=
  ⟨by kernel_rfl, by kernel_rfl, by kernel_rfl, by kernel_rfl, by kernel_rfl, by kernel_rfl, by kernel_rfl, by kernel_rfl, by kernel_rfl, by kernel_rfl, by kernel_rfl, by kernel_rfl, by kernel_rfl, by kernel_rfl, by kernel_rfl, by kernel_rfl, by kernel_rfl, by kernel_rfl, by kernel_rfl, by kernel_rfl⟩
theorem TF11 : callable Try.prog 6 = true ∧
    callable Try.prog 7 = true ∧
    callable Try.prog 8 = true ∧
    callable Try.prog 9 = true ∧
    callable Try.prog 10 = true ∧
    callable Try.prog 11 = true ∧
    callable Try.prog 12 = true ∧
    callable Try.prog 13 = true ∧
    callable Try.prog 14 = true ∧
    callable Try.prog 15 = true ∧
    callable Try.prog 16 = true ∧
    callable Try.prog 17 = true ∧
    callable Try.prog 18 = true ∧
    callable Try.prog 19 = true ∧
    callable Try.prog 20 = true ∧
    callable Try.prog 21 = true ∧
    callable Try.prog 22 = true ∧
    callable Try.prog 23 = true ∧
    callable Try.prog 24 = true ∧
    callable Try.prog 25 = true :=
  ⟨by kernel_rfl, by kernel_rfl, by kernel_rfl, by kernel_rfl, by kernel_rfl, by kernel_rfl, by kernel_rfl, by kernel_rfl, by kernel_rfl, by kernel_rfl, by kernel_rfl, by kernel_rfl, by kernel_rfl, by kernel_rfl, by kernel_rfl, by kernel_rfl, by kernel_rfl, by kernel_rfl, by kernel_rfl, by kernel_rfl⟩
theorem TF12 : callable Try.prog 26 = true ∧
    callable Try.prog 27 = true ∧
    callable Try.prog 28 = true ∧
    callable Try.prog 29 = true ∧
    callable Try.prog 30 = true ∧
    callable Try.prog 31 = true ∧
    callable Try.prog 32 = true ∧
    callable Try.prog 33 = true ∧
    callable Try.prog 34 = true ∧
    callable Try.prog 35 = true ∧
    callable Try.prog 36 = true ∧
    callable Try.prog 37 = true ∧
    callable Try.prog 38 = true ∧
    callable Try.prog 39 = true ∧
    callable Try.prog 40 = true ∧
    callable Try.prog 41 = true ∧
    callable Try.prog 42 = true ∧
    callable Try.prog 43 = true ∧
    callable Try.prog 44 = true ∧
    callable Try.prog 45 = true :=
  ⟨by kernel_rfl, by kernel_rfl, by kernel_rfl, by kernel_rfl, by kernel_rfl, by kernel_rfl, by kernel_rfl, by kernel_rfl, by kernel_rfl, by kernel_rfl, by kernel_rfl, by kernel_rfl, by kernel_rfl, by kernel_rfl, by kernel_rfl, by kernel_rfl, by kernel_rfl, by kernel_rfl, by kernel_rfl, by kernel_rfl⟩
theorem TF13 : callable Try.prog 46 = true ∧
    callable Try.prog 47 = true ∧
    callable Try.prog 48 = true ∧
    callable Try.prog 49 = true ∧
    callable Try.prog 50 = true ∧
    callable Try.prog 51 = true ∧
    callable Try.prog 52 = true ∧
    callable Try.prog 53 = true ∧
    callable Try.prog 54 = true ∧
    callable Try.prog 55 = true ∧
    callable Try.prog 56 = true ∧
    callable Try.prog 57 = true :=
  ⟨by kernel_rfl, by kernel_rfl, by kernel_rfl, by kernel_rfl, by kernel_rfl, by kernel_rfl, by kernel_rfl, by kernel_rfl, by kernel_rfl, by kernel_rfl, by kernel_rfl, by kernel_rfl⟩
theorem WS : type_of% (And.intro AW0 <| And.intro AW1 <| And.intro AW2 <| And.intro AW3 <| And.intro AW4 <| And.intro AW5 <| And.intro AW6 <| And.intro AW7 <| And.intro AW8 <| And.intro AW9 <| And.intro AW10 <| And.intro TF0 <| And.intro TF1 <| And.intro TF2 <| And.intro TF3 <| And.intro TF4 <| And.intro TF5 <| And.intro TF6 <| And.intro TF7 <| And.intro TF8 <| And.intro TF9 <| And.intro TF10 <| And.intro TF11 <| And.intro TF12 <| TF13) :=
  And.intro AW0 <| And.intro AW1 <| And.intro AW2 <| And.intro AW3 <| And.intro AW4 <| And.intro AW5 <| And.intro AW6 <| And.intro AW7 <| And.intro AW8 <| And.intro AW9 <| And.intro AW10 <| And.intro TF0 <| And.intro TF1 <| And.intro TF2 <| And.intro TF3 <| And.intro TF4 <| And.intro TF5 <| And.intro TF6 <| And.intro TF7 <| And.intro TF8 <| And.intro TF9 <| And.intro TF10 <| And.intro TF11 <| And.intro TF12 <| TF13
end Go.Proofs.Ytijmldjghhndoaa.AE

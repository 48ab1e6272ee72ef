/- Facts on the types and functions of this program, as rewrite rules. -/
import Derived.Test.YtcnofpoffdjbpaaBM
import Derived.Test.YtcnofpoffdjbpaaProg
namespace Go.Proofs.Ytcnofpoffdjbpaa.AE
open Go Go.RowKit Go.Proofs
theorem mixed : Try.prog.follows .mixedOrders = true := by kernel_rfl
theorem TF0 : kT Try.prog 2 = some (.int .i64) ∧
    sizeT Try.prog 2 = some 1 ∧
    byteT Try.prog 2 = some 8 ∧
    aggT Try.prog 2 = some false ∧
    zeroT Try.prog 2 = some [.int .i64 0] ∧
    Try.prog.concrete 2 = true ∧
    kT Try.prog 3 = some (.int .i64) ∧
    sizeT Try.prog 3 = some 1 ∧
    byteT Try.prog 3 = some 8 ∧
    aggT Try.prog 3 = some false ∧
    zeroT Try.prog 3 = some [.int .i64 0] ∧
    Try.prog.concrete 3 = true ∧
    kT Try.prog 4 = some .bool ∧
    sizeT Try.prog 4 = some 1 ∧
    byteT Try.prog 4 = some 1 ∧
    aggT Try.prog 4 = some false ∧
    zeroT Try.prog 4 = some [.bool false] ∧
    boolT Try.prog 4 = true ∧
    kT Try.prog 5 = some (.int .u8) ∧
    sizeT Try.prog 5 = some 1 :=
  ⟨by kernel_rfl, by kernel_rfl, by kernel_rfl, by kernel_rfl, by kernel_rfl, by kernel_rfl, by kernel_rfl, by kernel_rfl, by kernel_rfl, by kernel_rfl, by kernel_rfl, by kernel_rfl, by kernel_rfl, by kernel_rfl, by kernel_rfl, by kernel_rfl, by kernel_rfl, by kernel_rfl, by kernel_rfl, by kernel_rfl⟩
theorem TF1 : byteT Try.prog 5 = some 1 ∧
    aggT Try.prog 5 = some false ∧
    zeroT Try.prog 5 = some [.int .u8 0] ∧
    Try.prog.concrete 5 = true ∧
    kT Try.prog 9 = some .str ∧
    sizeT Try.prog 9 = some 1 ∧
    byteT Try.prog 9 = some 16 ∧
    aggT Try.prog 9 = some false ∧
    zeroT Try.prog 9 = some [.str []] ∧
    kT Try.prog 12 = some (.int .u64) ∧
    sizeT Try.prog 12 = some 1 ∧
    byteT Try.prog 12 = some 8 ∧
    aggT Try.prog 12 = some false ∧
    zeroT Try.prog 12 = some [.int .u64 0] ∧
    Try.prog.concrete 12 = true ∧
    kT Try.prog 17 = some (.ptr 107) ∧
    sizeT Try.prog 17 = some 1 ∧
    byteT Try.prog 17 = some 8 ∧
    aggT Try.prog 17 = some false ∧
    zeroT Try.prog 17 = some [.nilp] :=
  ⟨by kernel_rfl, by kernel_rfl, by kernel_rfl, by kernel_rfl, by kernel_rfl, by kernel_rfl, by kernel_rfl, by kernel_rfl, by kernel_rfl, by kernel_rfl, by kernel_rfl, by kernel_rfl, by kernel_rfl, by kernel_rfl, by kernel_rfl, by kernel_rfl, by kernel_rfl, by kernel_rfl, by kernel_rfl, by kernel_rfl⟩
theorem TF2 : kT Try.prog 21 = some (.int .i32) ∧
    sizeT Try.prog 21 = some 1 ∧
    byteT Try.prog 21 = some 4 ∧
    aggT Try.prog 21 = some false ∧
    zeroT Try.prog 21 = some [.int .i32 0] ∧
    Try.prog.concrete 21 = true ∧
    kT Try.prog 22 = some (.slice 42) ∧
    sizeT Try.prog 22 = some 1 ∧
    byteT Try.prog 22 = some 24 ∧
    aggT Try.prog 22 = some false ∧
    zeroT Try.prog 22 = some [.zs] ∧
    kT Try.prog 23 = some (.slice 3) ∧
    sizeT Try.prog 23 = some 1 ∧
    byteT Try.prog 23 = some 24 ∧
    aggT Try.prog 23 = some false ∧
    zeroT Try.prog 23 = some [.zs] ∧
    kT Try.prog 24 = some .strct ∧
    sizeT Try.prog 24 = some 2 ∧
    byteT Try.prog 24 = some 48 ∧
    aggT Try.prog 24 = some true :=
  ⟨by kernel_rfl, by kernel_rfl, by kernel_rfl, by kernel_rfl, by kernel_rfl, by kernel_rfl, by kernel_rfl, by kernel_rfl, by kernel_rfl, by kernel_rfl, by kernel_rfl, by kernel_rfl, by kernel_rfl, by kernel_rfl, by kernel_rfl, by kernel_rfl, by kernel_rfl, by kernel_rfl, by kernel_rfl, by kernel_rfl⟩
theorem TF3 : zeroT Try.prog 24 = some [.zs, .zs] ∧
    offT Try.prog 24 0 = some 0 ∧
    partT Try.prog 24 0 = some (0, 1, false) ∧
    offT Try.prog 24 1 = some 1 ∧
    partT Try.prog 24 1 = some (1, 1, false) ∧
    placesT Try.prog 24 = some [(0, 1), (1, 1)] ∧
    kT Try.prog 25 = some .strct ∧
    sizeT Try.prog 25 = some 2 ∧
    byteT Try.prog 25 = some 48 ∧
    aggT Try.prog 25 = some true ∧
    zeroT Try.prog 25 = some [.zs, .zs] ∧
    offT Try.prog 25 0 = some 0 ∧
    partT Try.prog 25 0 = some (0, 1, false) ∧
    offT Try.prog 25 1 = some 1 ∧
    partT Try.prog 25 1 = some (1, 1, false) ∧
    placesT Try.prog 25 = some [(0, 1), (1, 1)] ∧
    kT Try.prog 27 = some (.slice 5) ∧
    sizeT Try.prog 27 = some 1 ∧
    byteT Try.prog 27 = some 24 ∧
    aggT Try.prog 27 = some false :=
  ⟨by kernel_rfl, by kernel_rfl, by kernel_rfl, by kernel_rfl, by kernel_rfl, by kernel_rfl, by kernel_rfl, by kernel_rfl, by kernel_rfl, by kernel_rfl, by kernel_rfl, by kernel_rfl, by kernel_rfl, by kernel_rfl, by kernel_rfl, by kernel_rfl, by kernel_rfl, by kernel_rfl, by kernel_rfl, by kernel_rfl⟩
theorem TF4 : zeroT Try.prog 27 = some [.zs] ∧
    kT Try.prog 28 = some (.int .i64) ∧
    sizeT Try.prog 28 = some 1 ∧
    byteT Try.prog 28 = some 8 ∧
    aggT Try.prog 28 = some false ∧
    zeroT Try.prog 28 = some [.int .i64 0] ∧
    Try.prog.concrete 28 = true ∧
    kT Try.prog 31 = some .strct ∧
    sizeT Try.prog 31 = some 2 ∧
    byteT Try.prog 31 = some 48 ∧
    aggT Try.prog 31 = some true ∧
    zeroT Try.prog 31 = some [.zs, .zs] ∧
    offT Try.prog 31 0 = some 0 ∧
    partT Try.prog 31 0 = some (0, 1, false) ∧
    offT Try.prog 31 1 = some 1 ∧
    partT Try.prog 31 1 = some (1, 1, false) ∧
    placesT Try.prog 31 = some [(0, 1), (1, 1)] ∧
    kT Try.prog 37 = some (.int .u64) ∧
    sizeT Try.prog 37 = some 1 ∧
    byteT Try.prog 37 = some 8 :=
  ⟨by kernel_rfl, by kernel_rfl, by kernel_rfl, by kernel_rfl, by kernel_rfl, by kernel_rfl, by kernel_rfl, by kernel_rfl, by kernel_rfl, by kernel_rfl, by kernel_rfl, by kernel_rfl, by kernel_rfl, by kernel_rfl, by kernel_rfl, by kernel_rfl, by kernel_rfl, by kernel_rfl, by kernel_rfl, by kernel_rfl⟩
theorem TF5 : aggT Try.prog 37 = some false ∧
    zeroT Try.prog 37 = some [.int .u64 0] ∧
    Try.prog.concrete 37 = true ∧
    kT Try.prog 41 = some .strct ∧
    sizeT Try.prog 41 = some 2 ∧
    byteT Try.prog 41 = some 16 ∧
    aggT Try.prog 41 = some true ∧
    zeroT Try.prog 41 = some [.int .u64 0, .int .u64 0] ∧
    offT Try.prog 41 0 = some 0 ∧
    partT Try.prog 41 0 = some (0, 1, false) ∧
    offT Try.prog 41 1 = some 1 ∧
    partT Try.prog 41 1 = some (1, 1, false) ∧
    placesT Try.prog 41 = some [(0, 1), (1, 1)] ∧
    eqT Try.prog 41 = some [(0, 0), (1, 0)] ∧
    kT Try.prog 42 = some .strct ∧
    sizeT Try.prog 42 = some 2 ∧
    byteT Try.prog 42 = some 16 ∧
    aggT Try.prog 42 = some true ∧
    zeroT Try.prog 42 = some [.int .u64 0, .int .u64 0] ∧
    offT Try.prog 42 0 = some 0 :=
  ⟨by kernel_rfl, by kernel_rfl, by kernel_rfl, by kernel_rfl, by kernel_rfl, by kernel_rfl, by kernel_rfl, by kernel_rfl, by kernel_rfl, by kernel_rfl, by kernel_rfl, by kernel_rfl, by kernel_rfl, by kernel_rfl, by kernel_rfl, by kernel_rfl, by kernel_rfl, by kernel_rfl, by kernel_rfl, by kernel_rfl⟩
theorem TF6 : partT Try.prog 42 0 = some (0, 1, false) ∧
    offT Try.prog 42 1 = some 1 ∧
    partT Try.prog 42 1 = some (1, 1, false) ∧
    placesT Try.prog 42 = some [(0, 1), (1, 1)] ∧
    eqT Try.prog 42 = some [(0, 0), (1, 0)] ∧
    kT Try.prog 57 = some (.slice 37) ∧
    sizeT Try.prog 57 = some 1 ∧
    byteT Try.prog 57 = some 24 ∧
    aggT Try.prog 57 = some false ∧
    zeroT Try.prog 57 = some [.zs] ∧
    kT Try.prog 71 = some (.int .u32) ∧
    sizeT Try.prog 71 = some 1 ∧
    byteT Try.prog 71 = some 4 ∧
    aggT Try.prog 71 = some false ∧
    zeroT Try.prog 71 = some [.int .u32 0] ∧
    Try.prog.concrete 71 = true ∧
    kT Try.prog 78 = some (.int .u64) ∧
    sizeT Try.prog 78 = some 1 ∧
    byteT Try.prog 78 = some 8 ∧
    aggT Try.prog 78 = some false :=
  ⟨by kernel_rfl, by kernel_rfl, by kernel_rfl, by kernel_rfl, by kernel_rfl, by kernel_rfl, by kernel_rfl, by kernel_rfl, by kernel_rfl, by kernel_rfl, by kernel_rfl, by kernel_rfl, by kernel_rfl, by kernel_rfl, by kernel_rfl, by kernel_rfl, by kernel_rfl, by kernel_rfl, by kernel_rfl, by kernel_rfl⟩
theorem TF7 : zeroT Try.prog 78 = some [.int .u64 0] ∧
    Try.prog.concrete 78 = true ∧
    kT Try.prog 81 = some (.slice 23) ∧
    sizeT Try.prog 81 = some 1 ∧
    byteT Try.prog 81 = some 24 ∧
    aggT Try.prog 81 = some false ∧
    zeroT Try.prog 81 = some [.zs] ∧
    kT Try.prog 85 = some (.slice 27) ∧
    sizeT Try.prog 85 = some 1 ∧
    byteT Try.prog 85 = some 24 ∧
    aggT Try.prog 85 = some false ∧
    zeroT Try.prog 85 = some [.zs] ∧
    kT Try.prog 91 = some (.arr 16 71) ∧
    sizeT Try.prog 91 = some 16 ∧
    byteT Try.prog 91 = some 64 ∧
    aggT Try.prog 91 = some true ∧
    zeroT Try.prog 91 = some [.int .u32 0, .int .u32 0, .int .u32 0, .int .u32 0, .int .u32 0, .int .u32 0, .int .u32 0, .int .u32 0, .int .u32 0, .int .u32 0, .int .u32 0, .int .u32 0, .int .u32 0, .int .u32 0, .int .u32 0, .int .u32 0] ∧
    kT Try.prog 103 = some (.ptr 5) ∧
    sizeT Try.prog 103 = some 1 ∧
    byteT Try.prog 103 = some 8 :=
  ⟨by kernel_rfl, by kernel_rfl, by kernel_rfl, by kernel_rfl, by kernel_rfl, by kernel_rfl, by kernel_rfl, by kernel_rfl, by kernel_rfl, by kernel_rfl, by kernel_rfl, by kernel_rfl, by kernel_rfl, by kernel_rfl, by kernel_rfl, by kernel_rfl, by kernel_rfl, by kernel_rfl, by kernel_rfl, by kernel_rfl⟩
theorem TF8 : aggT Try.prog 103 = some false ∧
    zeroT Try.prog 103 = some [.nilp] ∧
    kT Try.prog 106 = some .strct ∧
    sizeT Try.prog 106 = some 11 ∧
    byteT Try.prog 106 = some 48 ∧
    aggT Try.prog 106 = some true ∧
    zeroT Try.prog 106 = some [.int .u64 0, .int .u64 0, .int .u32 0, .int .u8 0, .int .u8 0, .int .u8 0, .int .u8 0, .nilf, .nilp, .int .i32 0, .int .i32 0] ∧
    offT Try.prog 106 0 = some 0 ∧
    partT Try.prog 106 0 = some (0, 1, false) ∧
    offT Try.prog 106 1 = some 1 ∧
    partT Try.prog 106 1 = some (1, 1, false) ∧
    offT Try.prog 106 2 = some 2 ∧
    partT Try.prog 106 2 = some (2, 1, false) ∧
    offT Try.prog 106 3 = some 3 ∧
    partT Try.prog 106 3 = some (3, 1, false) ∧
    offT Try.prog 106 4 = some 4 ∧
    partT Try.prog 106 4 = some (4, 1, false) ∧
    offT Try.prog 106 5 = some 5 ∧
    partT Try.prog 106 5 = some (5, 1, false) ∧
    offT Try.prog 106 6 = some 6 :=
  ⟨by kernel_rfl, by kernel_rfl, by kernel_rfl, by kernel_rfl, by kernel_rfl, by kernel_rfl, by kernel_rfl, by kernel_rfl, by kernel_rfl, by kernel_rfl, by kernel_rfl, by kernel_rfl, by kernel_rfl, by kernel_rfl, by kernel_rfl, by kernel_rfl, by kernel_rfl, by kernel_rfl, by kernel_rfl, by kernel_rfl⟩
theorem TF9 : partT Try.prog 106 6 = some (6, 1, false) ∧
    offT Try.prog 106 7 = some 7 ∧
    partT Try.prog 106 7 = some (7, 1, false) ∧
    offT Try.prog 106 8 = some 8 ∧
    partT Try.prog 106 8 = some (8, 1, false) ∧
    offT Try.prog 106 9 = some 9 ∧
    partT Try.prog 106 9 = some (9, 1, false) ∧
    offT Try.prog 106 10 = some 10 ∧
    partT Try.prog 106 10 = some (10, 1, false) ∧
    placesT Try.prog 106 = some [(0, 1), (1, 1), (2, 1), (3, 1), (4, 1), (5, 1), (6, 1), (7, 1), (8, 1), (9, 1), (10, 1)] ∧
    callable Try.prog 3 = true ∧
    callable Try.prog 4 = true ∧
    callable Try.prog 5 = true ∧
    callable Try.prog 6 = true ∧
    callable Try.prog 7 = true ∧
    callable Try.prog 8 = true ∧
    callable Try.prog 9 = true ∧
    callable Try.prog 10 = true ∧
    callable Try.prog 11 = true ∧
    callable Try.prog 12 = true :=
  ⟨by kernel_rfl, by kernel_rfl, by kernel_rfl, by kernel_rfl, by kernel_rfl, by kernel_rfl, by kernel_rfl, by kernel_rfl, by kernel_rfl, by kernel_rfl, by kernel_rfl, by kernel_rfl, by kernel_rfl, by kernel_rfl, by kernel_rfl, by kernel_rfl, by kernel_rfl, by kernel_rfl, by kernel_rfl, by kernel_rfl⟩
theorem TF10 : callable Try.prog 13 = true ∧
    callable Try.prog 14 = true ∧
    callable Try.prog 15 = true ∧
    callable Try.prog 16 = true ∧
    callable Try.prog 17 = true ∧
    callable Try.prog 18 = true ∧
    callable Try.prog 19 = true ∧
    callable Try.prog 20 = true ∧
    callable Try.prog 21 = true ∧
    callable Try.prog 22 = true ∧
    callable Try.prog 23 = true ∧
    callable Try.prog 24 = true ∧
    callable Try.prog 25 = true ∧
    callable Try.prog 26 = true ∧
    callable Try.prog 27 = true ∧
    callable Try.prog 28 = true ∧
    callable Try.prog 29 = true ∧
    callable Try.prog 30 = true ∧
    callable Try.prog 31 = true ∧
    callable Try.prog 32 = true :=
  ⟨by kernel_rfl, by kernel_rfl, by kernel_rfl, by kernel_rfl, by kernel_rfl, by kernel_rfl, by kernel_rfl, by kernel_rfl, by kernel_rfl, by kernel_rfl, by kernel_rfl, by kernel_rfl, by kernel_rfl, by kernel_rfl, by kernel_rfl, by kernel_rfl, by kernel_rfl, by kernel_rfl, by kernel_rfl, by kernel_rfl⟩
theorem TF11 : callable Try.prog 33 = true ∧
    callable Try.prog 34 = true ∧
    callable Try.prog 35 = true ∧
    callable Try.prog 36 = true ∧
    callable Try.prog 37 = true ∧
    callable Try.prog 38 = true ∧
    callable Try.prog 39 = true ∧
    callable Try.prog 40 = true ∧
    callable Try.prog 41 = true ∧
    callable Try.prog 42 = true ∧
    callable Try.prog 43 = true ∧
    callable Try.prog 44 = true ∧
    callable Try.prog 45 = true ∧
    callable Try.prog 46 = true ∧
    callable Try.prog 47 = true ∧
    callable Try.prog 48 = true ∧
    callable Try.prog 49 = true ∧
    callable Try.prog 50 = true ∧
    callable Try.prog 51 = true ∧
    callable Try.prog 52 = true :=
  ⟨by kernel_rfl, by kernel_rfl, by kernel_rfl, by kernel_rfl, by kernel_rfl, by kernel_rfl, by kernel_rfl, by kernel_rfl, by kernel_rfl, by kernel_rfl, by kernel_rfl, by kernel_rfl, by kernel_rfl, by kernel_rfl, by kernel_rfl, by kernel_rfl, by kernel_rfl, by kernel_rfl, by kernel_rfl, by kernel_rfl⟩
theorem TF12 : callable Try.prog 53 = true ∧
    callable Try.prog 54 = true ∧
    callable Try.prog 55 = true ∧
    callable Try.prog 56 = true ∧
    callable Try.prog 57 = true :=
  ⟨by kernel_rfl, by kernel_rfl, by kernel_rfl, by kernel_rfl, by kernel_rfl⟩
theorem WS : type_of% (And.intro AW0 <| And.intro AW1 <| And.intro AW2 <| And.intro AW3 <| And.intro AW4 <| And.intro AW5 <| And.intro AW6 <| And.intro AW7 <| And.intro AW8 <| And.intro AW9 <| And.intro AW10 <| And.intro TF0 <| And.intro TF1 <| And.intro TF2 <| And.intro TF3 <| And.intro TF4 <| And.intro TF5 <| And.intro TF6 <| And.intro TF7 <| And.intro TF8 <| And.intro TF9 <| And.intro TF10 <| And.intro TF11 <| TF12) :=
  And.intro AW0 <| And.intro AW1 <| And.intro AW2 <| And.intro AW3 <| And.intro AW4 <| And.intro AW5 <| And.intro AW6 <| And.intro AW7 <| And.intro AW8 <| And.intro AW9 <| And.intro AW10 <| And.intro TF0 <| And.intro TF1 <| And.intro TF2 <| And.intro TF3 <| And.intro TF4 <| And.intro TF5 <| And.intro TF6 <| And.intro TF7 <| And.intro TF8 <| And.intro TF9 <| And.intro TF10 <| And.intro TF11 <| TF12
end Go.Proofs.Ytcnofpoffdjbpaa.AE

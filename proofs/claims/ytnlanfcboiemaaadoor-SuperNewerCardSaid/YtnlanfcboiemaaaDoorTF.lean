/- Facts on the types and functions of this program, as rewrite rules. -/
import Derived.Test.YtnlanfcboiemaaaDoorBM
import Derived.Test.YtnlanfcboiemaaaDoorProg
namespace Go.Proofs.YtnlanfcboiemaaaDoor.AE
open Go Go.RowKit Go.Proofs
theorem mixed : Tryd.prog.follows .mixedOrders = true := by kernel_rfl
theorem TF0 : kT Tryd.prog 2 = some (.int .i64) ∧
    sizeT Tryd.prog 2 = some 1 ∧
    byteT Tryd.prog 2 = some 8 ∧
    aggT Tryd.prog 2 = some false ∧
    zeroT Tryd.prog 2 = some [.int .i64 0] ∧
    Tryd.prog.concrete 2 = true ∧
    kT Tryd.prog 3 = some (.int .i64) ∧
    sizeT Tryd.prog 3 = some 1 ∧
    byteT Tryd.prog 3 = some 8 ∧
    aggT Tryd.prog 3 = some false ∧
    zeroT Tryd.prog 3 = some [.int .i64 0] ∧
    Tryd.prog.concrete 3 = true ∧
    kT Tryd.prog 4 = some .bool ∧
    sizeT Tryd.prog 4 = some 1 ∧
    byteT Tryd.prog 4 = some 1 ∧
    aggT Tryd.prog 4 = some false ∧
    zeroT Tryd.prog 4 = some [.bool false] ∧
    boolT Tryd.prog 4 = true ∧
    kT Tryd.prog 5 = some (.int .u8) ∧
    sizeT Tryd.prog 5 = some 1 :=
  ⟨by kernel_rfl, by kernel_rfl, by kernel_rfl, by kernel_rfl, by kernel_rfl, by kernel_rfl, by kernel_rfl, by kernel_rfl, by kernel_rfl, by kernel_rfl, by kernel_rfl, by kernel_rfl, by kernel_rfl, by kernel_rfl, by kernel_rfl, by kernel_rfl, by kernel_rfl, by kernel_rfl, by kernel_rfl, by kernel_rfl⟩
theorem TF1 : byteT Tryd.prog 5 = some 1 ∧
    aggT Tryd.prog 5 = some false ∧
    zeroT Tryd.prog 5 = some [.int .u8 0] ∧
    Tryd.prog.concrete 5 = true ∧
    kT Tryd.prog 9 = some .str ∧
    sizeT Tryd.prog 9 = some 1 ∧
    byteT Tryd.prog 9 = some 16 ∧
    aggT Tryd.prog 9 = some false ∧
    zeroT Tryd.prog 9 = some [.str []] ∧
    kT Tryd.prog 12 = some (.int .u64) ∧
    sizeT Tryd.prog 12 = some 1 ∧
    byteT Tryd.prog 12 = some 8 ∧
    aggT Tryd.prog 12 = some false ∧
    zeroT Tryd.prog 12 = some [.int .u64 0] ∧
    Tryd.prog.concrete 12 = true ∧
    kT Tryd.prog 17 = some (.ptr 118) ∧
    sizeT Tryd.prog 17 = some 1 ∧
    byteT Tryd.prog 17 = some 8 ∧
    aggT Tryd.prog 17 = some false ∧
    zeroT Tryd.prog 17 = some [.nilp] :=
  ⟨by kernel_rfl, by kernel_rfl, by kernel_rfl, by kernel_rfl, by kernel_rfl, by kernel_rfl, by kernel_rfl, by kernel_rfl, by kernel_rfl, by kernel_rfl, by kernel_rfl, by kernel_rfl, by kernel_rfl, by kernel_rfl, by kernel_rfl, by kernel_rfl, by kernel_rfl, by kernel_rfl, by kernel_rfl, by kernel_rfl⟩
theorem TF2 : kT Tryd.prog 21 = some (.int .i32) ∧
    sizeT Tryd.prog 21 = some 1 ∧
    byteT Tryd.prog 21 = some 4 ∧
    aggT Tryd.prog 21 = some false ∧
    zeroT Tryd.prog 21 = some [.int .i32 0] ∧
    Tryd.prog.concrete 21 = true ∧
    kT Tryd.prog 22 = some .strct ∧
    sizeT Tryd.prog 22 = some 7 ∧
    byteT Tryd.prog 22 = some 56 ∧
    aggT Tryd.prog 22 = some true ∧
    zeroT Tryd.prog 22 = some [.int .i64 0, .int .i64 0, .int .i64 0, .int .i64 0, .int .i64 0, .int .i64 0, .int .i64 0] ∧
    offT Tryd.prog 22 0 = some 0 ∧
    partT Tryd.prog 22 0 = some (0, 1, false) ∧
    offT Tryd.prog 22 1 = some 1 ∧
    partT Tryd.prog 22 1 = some (1, 1, false) ∧
    offT Tryd.prog 22 2 = some 2 ∧
    partT Tryd.prog 22 2 = some (2, 1, false) ∧
    offT Tryd.prog 22 3 = some 3 ∧
    partT Tryd.prog 22 3 = some (3, 1, false) ∧
    offT Tryd.prog 22 4 = some 4 :=
  ⟨by kernel_rfl, by kernel_rfl, by kernel_rfl, by kernel_rfl, by kernel_rfl, by kernel_rfl, by kernel_rfl, by kernel_rfl, by kernel_rfl, by kernel_rfl, by kernel_rfl, by kernel_rfl, by kernel_rfl, by kernel_rfl, by kernel_rfl, by kernel_rfl, by kernel_rfl, by kernel_rfl, by kernel_rfl, by kernel_rfl⟩
theorem TF3 : partT Tryd.prog 22 4 = some (4, 1, false) ∧
    offT Tryd.prog 22 5 = some 5 ∧
    partT Tryd.prog 22 5 = some (5, 1, false) ∧
    offT Tryd.prog 22 6 = some 6 ∧
    partT Tryd.prog 22 6 = some (6, 1, false) ∧
    placesT Tryd.prog 22 = some [(0, 1), (1, 1), (2, 1), (3, 1), (4, 1), (5, 1), (6, 1)] ∧
    eqT Tryd.prog 22 = some [(0, 0), (1, 0), (2, 0), (3, 0), (4, 0), (5, 0), (6, 0)] ∧
    kT Tryd.prog 23 = some .strct ∧
    sizeT Tryd.prog 23 = some 7 ∧
    byteT Tryd.prog 23 = some 56 ∧
    aggT Tryd.prog 23 = some true ∧
    zeroT Tryd.prog 23 = some [.int .i64 0, .int .i64 0, .int .i64 0, .int .i64 0, .int .i64 0, .int .i64 0, .int .i64 0] ∧
    offT Tryd.prog 23 0 = some 0 ∧
    partT Tryd.prog 23 0 = some (0, 1, false) ∧
    offT Tryd.prog 23 1 = some 1 ∧
    partT Tryd.prog 23 1 = some (1, 1, false) ∧
    offT Tryd.prog 23 2 = some 2 ∧
    partT Tryd.prog 23 2 = some (2, 1, false) ∧
    offT Tryd.prog 23 3 = some 3 ∧
    partT Tryd.prog 23 3 = some (3, 1, false) :=
  ⟨by kernel_rfl, by kernel_rfl, by kernel_rfl, by kernel_rfl, by kernel_rfl, by kernel_rfl, by kernel_rfl, by kernel_rfl, by kernel_rfl, by kernel_rfl, by kernel_rfl, by kernel_rfl, by kernel_rfl, by kernel_rfl, by kernel_rfl, by kernel_rfl, by kernel_rfl, by kernel_rfl, by kernel_rfl, by kernel_rfl⟩
theorem TF4 : offT Tryd.prog 23 4 = some 4 ∧
    partT Tryd.prog 23 4 = some (4, 1, false) ∧
    offT Tryd.prog 23 5 = some 5 ∧
    partT Tryd.prog 23 5 = some (5, 1, false) ∧
    offT Tryd.prog 23 6 = some 6 ∧
    partT Tryd.prog 23 6 = some (6, 1, false) ∧
    placesT Tryd.prog 23 = some [(0, 1), (1, 1), (2, 1), (3, 1), (4, 1), (5, 1), (6, 1)] ∧
    eqT Tryd.prog 23 = some [(0, 0), (1, 0), (2, 0), (3, 0), (4, 0), (5, 0), (6, 0)] ∧
    kT Tryd.prog 26 = some .strct ∧
    sizeT Tryd.prog 26 = some 7 ∧
    byteT Tryd.prog 26 = some 56 ∧
    aggT Tryd.prog 26 = some true ∧
    zeroT Tryd.prog 26 = some [.int .i64 0, .int .i64 0, .int .i64 0, .int .i64 0, .int .i64 0, .int .i64 0, .int .i64 0] ∧
    offT Tryd.prog 26 0 = some 0 ∧
    partT Tryd.prog 26 0 = some (0, 1, false) ∧
    offT Tryd.prog 26 1 = some 1 ∧
    partT Tryd.prog 26 1 = some (1, 1, false) ∧
    offT Tryd.prog 26 2 = some 2 ∧
    partT Tryd.prog 26 2 = some (2, 1, false) ∧
    offT Tryd.prog 26 3 = some 3 :=
  ⟨by kernel_rfl, by kernel_rfl, by kernel_rfl, by kernel_rfl, by kernel_rfl, by kernel_rfl, by kernel_rfl, by kernel_rfl, by kernel_rfl, by kernel_rfl, by kernel_rfl, by kernel_rfl, by kernel_rfl, by kernel_rfl, by kernel_rfl, by kernel_rfl, by kernel_rfl, by kernel_rfl, by kernel_rfl, by kernel_rfl⟩
theorem TF5 : partT Tryd.prog 26 3 = some (3, 1, false) ∧
    offT Tryd.prog 26 4 = some 4 ∧
    partT Tryd.prog 26 4 = some (4, 1, false) ∧
    offT Tryd.prog 26 5 = some 5 ∧
    partT Tryd.prog 26 5 = some (5, 1, false) ∧
    offT Tryd.prog 26 6 = some 6 ∧
    partT Tryd.prog 26 6 = some (6, 1, false) ∧
    placesT Tryd.prog 26 = some [(0, 1), (1, 1), (2, 1), (3, 1), (4, 1), (5, 1), (6, 1)] ∧
    eqT Tryd.prog 26 = some [(0, 0), (1, 0), (2, 0), (3, 0), (4, 0), (5, 0), (6, 0)] ∧
    kT Tryd.prog 31 = some (.slice 5) ∧
    sizeT Tryd.prog 31 = some 1 ∧
    byteT Tryd.prog 31 = some 24 ∧
    aggT Tryd.prog 31 = some false ∧
    zeroT Tryd.prog 31 = some [.zs] ∧
    kT Tryd.prog 32 = some (.int .i64) ∧
    sizeT Tryd.prog 32 = some 1 ∧
    byteT Tryd.prog 32 = some 8 ∧
    aggT Tryd.prog 32 = some false ∧
    zeroT Tryd.prog 32 = some [.int .i64 0] ∧
    Tryd.prog.concrete 32 = true :=
  ⟨by kernel_rfl, by kernel_rfl, by kernel_rfl, by kernel_rfl, by kernel_rfl, by kernel_rfl, by kernel_rfl, by kernel_rfl, by kernel_rfl, by kernel_rfl, by kernel_rfl, by kernel_rfl, by kernel_rfl, by kernel_rfl, by kernel_rfl, by kernel_rfl, by kernel_rfl, by kernel_rfl, by kernel_rfl, by kernel_rfl⟩
theorem TF6 : kT Tryd.prog 56 = some (.slice 60) ∧
    sizeT Tryd.prog 56 = some 1 ∧
    byteT Tryd.prog 56 = some 24 ∧
    aggT Tryd.prog 56 = some false ∧
    zeroT Tryd.prog 56 = some [.zs] ∧
    kT Tryd.prog 58 = some (.ptr 3) ∧
    sizeT Tryd.prog 58 = some 1 ∧
    byteT Tryd.prog 58 = some 8 ∧
    aggT Tryd.prog 58 = some false ∧
    zeroT Tryd.prog 58 = some [.nilp] ∧
    kT Tryd.prog 59 = some .strct ∧
    sizeT Tryd.prog 59 = some 4 ∧
    byteT Tryd.prog 59 = some 32 ∧
    aggT Tryd.prog 59 = some true ∧
    zeroT Tryd.prog 59 = some [.nilp, .int .i64 0, .int .i64 0, .int .i64 0] ∧
    offT Tryd.prog 59 0 = some 0 ∧
    partT Tryd.prog 59 0 = some (0, 1, false) ∧
    offT Tryd.prog 59 1 = some 1 ∧
    partT Tryd.prog 59 1 = some (1, 1, false) ∧
    offT Tryd.prog 59 2 = some 2 :=
  ⟨by kernel_rfl, by kernel_rfl, by kernel_rfl, by kernel_rfl, by kernel_rfl, by kernel_rfl, by kernel_rfl, by kernel_rfl, by kernel_rfl, by kernel_rfl, by kernel_rfl, by kernel_rfl, by kernel_rfl, by kernel_rfl, by kernel_rfl, by kernel_rfl, by kernel_rfl, by kernel_rfl, by kernel_rfl, by kernel_rfl⟩
theorem TF7 : partT Tryd.prog 59 2 = some (2, 1, false) ∧
    offT Tryd.prog 59 3 = some 3 ∧
    partT Tryd.prog 59 3 = some (3, 1, false) ∧
    placesT Tryd.prog 59 = some [(0, 1), (1, 1), (2, 1), (3, 1)] ∧
    kT Tryd.prog 60 = some .strct ∧
    sizeT Tryd.prog 60 = some 4 ∧
    byteT Tryd.prog 60 = some 32 ∧
    aggT Tryd.prog 60 = some true ∧
    zeroT Tryd.prog 60 = some [.nilp, .int .i64 0, .int .i64 0, .int .i64 0] ∧
    offT Tryd.prog 60 0 = some 0 ∧
    partT Tryd.prog 60 0 = some (0, 1, false) ∧
    offT Tryd.prog 60 1 = some 1 ∧
    partT Tryd.prog 60 1 = some (1, 1, false) ∧
    offT Tryd.prog 60 2 = some 2 ∧
    partT Tryd.prog 60 2 = some (2, 1, false) ∧
    offT Tryd.prog 60 3 = some 3 ∧
    partT Tryd.prog 60 3 = some (3, 1, false) ∧
    placesT Tryd.prog 60 = some [(0, 1), (1, 1), (2, 1), (3, 1)] ∧
    kT Tryd.prog 62 = some (.int .u64) ∧
    sizeT Tryd.prog 62 = some 1 :=
  ⟨by kernel_rfl, by kernel_rfl, by kernel_rfl, by kernel_rfl, by kernel_rfl, by kernel_rfl, by kernel_rfl, by kernel_rfl, by kernel_rfl, by kernel_rfl, by kernel_rfl, by kernel_rfl, by kernel_rfl, by kernel_rfl, by kernel_rfl, by kernel_rfl, by kernel_rfl, by kernel_rfl, by kernel_rfl, by kernel_rfl⟩
theorem TF8 : byteT Tryd.prog 62 = some 8 ∧
    aggT Tryd.prog 62 = some false ∧
    zeroT Tryd.prog 62 = some [.int .u64 0] ∧
    Tryd.prog.concrete 62 = true ∧
    kT Tryd.prog 68 = some (.slice 3) ∧
    sizeT Tryd.prog 68 = some 1 ∧
    byteT Tryd.prog 68 = some 24 ∧
    aggT Tryd.prog 68 = some false ∧
    zeroT Tryd.prog 68 = some [.zs] ∧
    kT Tryd.prog 70 = some (.slice 62) ∧
    sizeT Tryd.prog 70 = some 1 ∧
    byteT Tryd.prog 70 = some 24 ∧
    aggT Tryd.prog 70 = some false ∧
    zeroT Tryd.prog 70 = some [.zs] ∧
    kT Tryd.prog 75 = some (.arr 2 31) ∧
    sizeT Tryd.prog 75 = some 2 ∧
    byteT Tryd.prog 75 = some 48 ∧
    aggT Tryd.prog 75 = some true ∧
    zeroT Tryd.prog 75 = some [.zs, .zs] ∧
    placesT Tryd.prog 75 = some [(0, 1), (1, 1)] :=
  ⟨by kernel_rfl, by kernel_rfl, by kernel_rfl, by kernel_rfl, by kernel_rfl, by kernel_rfl, by kernel_rfl, by kernel_rfl, by kernel_rfl, by kernel_rfl, by kernel_rfl, by kernel_rfl, by kernel_rfl, by kernel_rfl, by kernel_rfl, by kernel_rfl, by kernel_rfl, by kernel_rfl, by kernel_rfl, by kernel_rfl⟩
theorem TF9 : kT Tryd.prog 76 = some (.ptr 26) ∧
    sizeT Tryd.prog 76 = some 1 ∧
    byteT Tryd.prog 76 = some 8 ∧
    aggT Tryd.prog 76 = some false ∧
    zeroT Tryd.prog 76 = some [.nilp] ∧
    kT Tryd.prog 77 = some (.int .u32) ∧
    sizeT Tryd.prog 77 = some 1 ∧
    byteT Tryd.prog 77 = some 4 ∧
    aggT Tryd.prog 77 = some false ∧
    zeroT Tryd.prog 77 = some [.int .u32 0] ∧
    Tryd.prog.concrete 77 = true ∧
    kT Tryd.prog 81 = some (.arr 256 4) ∧
    sizeT Tryd.prog 81 = some 256 ∧
    byteT Tryd.prog 81 = some 256 ∧
    aggT Tryd.prog 81 = some true ∧
    kT Tryd.prog 82 = some (.arr 256 4) ∧
    sizeT Tryd.prog 82 = some 256 ∧
    byteT Tryd.prog 82 = some 256 ∧
    aggT Tryd.prog 82 = some true ∧
    kT Tryd.prog 86 = some (.ptr 82) :=
  ⟨by kernel_rfl, by kernel_rfl, by kernel_rfl, by kernel_rfl, by kernel_rfl, by kernel_rfl, by kernel_rfl, by kernel_rfl, by kernel_rfl, by kernel_rfl, by kernel_rfl, by kernel_rfl, by kernel_rfl, by kernel_rfl, by kernel_rfl, by kernel_rfl, by kernel_rfl, by kernel_rfl, by kernel_rfl, by kernel_rfl⟩
theorem TF10 : sizeT Tryd.prog 86 = some 1 ∧
    byteT Tryd.prog 86 = some 8 ∧
    aggT Tryd.prog 86 = some false ∧
    zeroT Tryd.prog 86 = some [.nilp] ∧
    kT Tryd.prog 88 = some (.int .u64) ∧
    sizeT Tryd.prog 88 = some 1 ∧
    byteT Tryd.prog 88 = some 8 ∧
    aggT Tryd.prog 88 = some false ∧
    zeroT Tryd.prog 88 = some [.int .u64 0] ∧
    Tryd.prog.concrete 88 = true ∧
    kT Tryd.prog 92 = some (.slice 31) ∧
    sizeT Tryd.prog 92 = some 1 ∧
    byteT Tryd.prog 92 = some 24 ∧
    aggT Tryd.prog 92 = some false ∧
    zeroT Tryd.prog 92 = some [.zs] ∧
    kT Tryd.prog 98 = some (.arr 16 77) ∧
    sizeT Tryd.prog 98 = some 16 ∧
    byteT Tryd.prog 98 = some 64 ∧
    aggT Tryd.prog 98 = some true ∧
    zeroT Tryd.prog 98 = some [.int .u32 0, .int .u32 0, .int .u32 0, .int .u32 0, .int .u32 0, .int .u32 0, .int .u32 0, .int .u32 0, .int .u32 0, .int .u32 0, .int .u32 0, .int .u32 0, .int .u32 0, .int .u32 0, .int .u32 0, .int .u32 0] :=
  ⟨by kernel_rfl, by kernel_rfl, by kernel_rfl, by kernel_rfl, by kernel_rfl, by kernel_rfl, by kernel_rfl, by kernel_rfl, by kernel_rfl, by kernel_rfl, by kernel_rfl, by kernel_rfl, by kernel_rfl, by kernel_rfl, by kernel_rfl, by kernel_rfl, by kernel_rfl, by kernel_rfl, by kernel_rfl, by kernel_rfl⟩
theorem TF11 : placesT Tryd.prog 98 = some [(0, 1), (1, 1), (2, 1), (3, 1), (4, 1), (5, 1), (6, 1), (7, 1), (8, 1), (9, 1), (10, 1), (11, 1), (12, 1), (13, 1), (14, 1), (15, 1)] ∧
    kT Tryd.prog 100 = some (.arr 256 5) ∧
    sizeT Tryd.prog 100 = some 256 ∧
    byteT Tryd.prog 100 = some 256 ∧
    aggT Tryd.prog 100 = some true ∧
    kT Tryd.prog 101 = some .strct ∧
    sizeT Tryd.prog 101 = some 2 ∧
    byteT Tryd.prog 101 = some 2 ∧
    aggT Tryd.prog 101 = some true ∧
    zeroT Tryd.prog 101 = some [.int .u8 0, .int .u8 0] ∧
    offT Tryd.prog 101 0 = some 0 ∧
    partT Tryd.prog 101 0 = some (0, 1, false) ∧
    offT Tryd.prog 101 1 = some 1 ∧
    partT Tryd.prog 101 1 = some (1, 1, false) ∧
    placesT Tryd.prog 101 = some [(0, 1), (1, 1)] ∧
    eqT Tryd.prog 101 = some [(0, 0), (1, 0)] ∧
    kT Tryd.prog 102 = some .strct ∧
    sizeT Tryd.prog 102 = some 2 ∧
    byteT Tryd.prog 102 = some 2 ∧
    aggT Tryd.prog 102 = some true :=
  ⟨by kernel_rfl, by kernel_rfl, by kernel_rfl, by kernel_rfl, by kernel_rfl, by kernel_rfl, by kernel_rfl, by kernel_rfl, by kernel_rfl, by kernel_rfl, by kernel_rfl, by kernel_rfl, by kernel_rfl, by kernel_rfl, by kernel_rfl, by kernel_rfl, by kernel_rfl, by kernel_rfl, by kernel_rfl, by kernel_rfl⟩
theorem TF12 : zeroT Tryd.prog 102 = some [.int .u8 0, .int .u8 0] ∧
    offT Tryd.prog 102 0 = some 0 ∧
    partT Tryd.prog 102 0 = some (0, 1, false) ∧
    offT Tryd.prog 102 1 = some 1 ∧
    partT Tryd.prog 102 1 = some (1, 1, false) ∧
    placesT Tryd.prog 102 = some [(0, 1), (1, 1)] ∧
    eqT Tryd.prog 102 = some [(0, 0), (1, 0)] ∧
    kT Tryd.prog 103 = some (.arr 16 102) ∧
    sizeT Tryd.prog 103 = some 32 ∧
    byteT Tryd.prog 103 = some 32 ∧
    aggT Tryd.prog 103 = some true ∧
    zeroT Tryd.prog 103 = some [.int .u8 0, .int .u8 0, .int .u8 0, .int .u8 0, .int .u8 0, .int .u8 0, .int .u8 0, .int .u8 0, .int .u8 0, .int .u8 0, .int .u8 0, .int .u8 0, .int .u8 0, .int .u8 0, .int .u8 0, .int .u8 0, .int .u8 0, .int .u8 0, .int .u8 0, .int .u8 0, .int .u8 0, .int .u8 0, .int .u8 0, .int .u8 0, .int .u8 0, .int .u8 0, .int .u8 0, .int .u8 0, .int .u8 0, .int .u8 0, .int .u8 0, .int .u8 0] ∧
    placesT Tryd.prog 103 = some [(0, 2), (2, 2), (4, 2), (6, 2), (8, 2), (10, 2), (12, 2), (14, 2), (16, 2), (18, 2), (20, 2), (22, 2), (24, 2), (26, 2), (28, 2), (30, 2)] ∧
    kT Tryd.prog 114 = some (.ptr 5) ∧
    sizeT Tryd.prog 114 = some 1 ∧
    byteT Tryd.prog 114 = some 8 ∧
    aggT Tryd.prog 114 = some false ∧
    zeroT Tryd.prog 114 = some [.nilp] ∧
    kT Tryd.prog 117 = some .strct ∧
    sizeT Tryd.prog 117 = some 11 :=
  ⟨by kernel_rfl, by kernel_rfl, by kernel_rfl, by kernel_rfl, by kernel_rfl, by kernel_rfl, by kernel_rfl, by kernel_rfl, by kernel_rfl, by kernel_rfl, by kernel_rfl, by kernel_rfl, by kernel_rfl, by kernel_rfl, by kernel_rfl, by kernel_rfl, by kernel_rfl, by kernel_rfl, by kernel_rfl, by kernel_rfl⟩
theorem TF13 : byteT Tryd.prog 117 = some 48 ∧
    aggT Tryd.prog 117 = some true ∧
    zeroT Tryd.prog 117 = some [.int .u64 0, .int .u64 0, .int .u32 0, .int .u8 0, .int .u8 0, .int .u8 0, .int .u8 0, .nilf, .nilp, .int .i32 0, .int .i32 0] ∧
    offT Tryd.prog 117 0 = some 0 ∧
    partT Tryd.prog 117 0 = some (0, 1, false) ∧
    offT Tryd.prog 117 1 = some 1 ∧
    partT Tryd.prog 117 1 = some (1, 1, false) ∧
    offT Tryd.prog 117 2 = some 2 ∧
    partT Tryd.prog 117 2 = some (2, 1, false) ∧
    offT Tryd.prog 117 3 = some 3 ∧
    partT Tryd.prog 117 3 = some (3, 1, false) ∧
    offT Tryd.prog 117 4 = some 4 ∧
    partT Tryd.prog 117 4 = some (4, 1, false) ∧
    offT Tryd.prog 117 5 = some 5 ∧
    partT Tryd.prog 117 5 = some (5, 1, false) ∧
    offT Tryd.prog 117 6 = some 6 ∧
    partT Tryd.prog 117 6 = some (6, 1, false) ∧
    offT Tryd.prog 117 7 = some 7 ∧
    partT Tryd.prog 117 7 = some (7, 1, false) ∧
    offT Tryd.prog 117 8 = some 8 :=
  ⟨by kernel_rfl, by kernel_rfl, by kernel_rfl, by kernel_rfl, by kernel_rfl, by kernel_rfl, by kernel_rfl, by kernel_rfl, by kernel_rfl, by kernel_rfl, by kernel_rfl, by kernel_rfl, by kernel_rfl, by kernel_rfl, by kernel_rfl, by kernel_rfl, by kernel_rfl, by kernel_rfl, by kernel_rfl, by kernel_rfl⟩
theorem TF14 : partT Tryd.prog 117 8 = some (8, 1, false) ∧
    offT Tryd.prog 117 9 = some 9 ∧
    partT Tryd.prog 117 9 = some (9, 1, false) ∧
    offT Tryd.prog 117 10 = some 10 ∧
    partT Tryd.prog 117 10 = some (10, 1, false) ∧
    placesT Tryd.prog 117 = some [(0, 1), (1, 1), (2, 1), (3, 1), (4, 1), (5, 1), (6, 1), (7, 1), (8, 1), (9, 1), (10, 1)] ∧
    callable Tryd.prog 3 = true ∧
    callable Tryd.prog 4 = true ∧
    callable Tryd.prog 5 = true ∧
    callable Tryd.prog 6 = true ∧
    callable Tryd.prog 7 = true ∧
    callable Tryd.prog 8 = true ∧
    callable Tryd.prog 9 = true ∧
    callable Tryd.prog 10 = true ∧
    callable Tryd.prog 11 = true ∧
    callable Tryd.prog 12 = true ∧
    callable Tryd.prog 13 = true ∧
    callable Tryd.prog 14 = true ∧
    callable Tryd.prog 15 = true ∧
    callable Tryd.prog 16 = true :=
  ⟨by kernel_rfl, by kernel_rfl, by kernel_rfl, by kernel_rfl, by kernel_rfl, by kernel_rfl, by kernel_rfl, by kernel_rfl, by kernel_rfl, by kernel_rfl, by kernel_rfl, by kernel_rfl, by kernel_rfl, by kernel_rfl, by kernel_rfl, by kernel_rfl, by kernel_rfl, by kernel_rfl, by kernel_rfl, by kernel_rfl⟩
theorem TF15 : callable Tryd.prog 17 = true ∧
    callable Tryd.prog 18 = true ∧
    callable Tryd.prog 19 = true ∧
    callable Tryd.prog 20 = true ∧
    callable Tryd.prog 21 = true ∧
    callable Tryd.prog 22 = true ∧
    callable Tryd.prog 23 = true ∧
    callable Tryd.prog 24 = true ∧
    callable Tryd.prog 25 = true ∧
    callable Tryd.prog 26 = true ∧
    callable Tryd.prog 27 = true ∧
    callable Tryd.prog 28 = true ∧
    callable Tryd.prog 29 = true ∧
    callable Tryd.prog 30 = true ∧
    callable Tryd.prog 31 = true ∧
    callable Tryd.prog 32 = true ∧
    callable Tryd.prog 33 = true ∧
    callable Tryd.prog 34 = true ∧
    callable Tryd.prog 35 = true ∧
    callable Tryd.prog 36 = true :=
  ⟨by kernel_rfl, by kernel_rfl, by kernel_rfl, by kernel_rfl, by kernel_rfl, by kernel_rfl, by kernel_rfl, by kernel_rfl, by kernel_rfl, by kernel_rfl, by kernel_rfl, by kernel_rfl, by kernel_rfl, by kernel_rfl, by kernel_rfl, by kernel_rfl, by kernel_rfl, by kernel_rfl, by kernel_rfl, by kernel_rfl⟩
theorem TF16 : callable Tryd.prog 37 = true ∧
    callable Tryd.prog 38 = true ∧
    callable Tryd.prog 39 = true ∧
    callable Tryd.prog 40 = true ∧
    callable Tryd.prog 41 = true ∧
    callable Tryd.prog 42 = true ∧
    callable Tryd.prog 43 = true ∧
    callable Tryd.prog 44 = true ∧
    callable Tryd.prog 45 = true ∧
    callable Tryd.prog 46 = true ∧
    callable Tryd.prog 47 = true ∧
    callable Tryd.prog 48 = true ∧
    callable Tryd.prog 49 = true ∧
    callable Tryd.prog 50 = true ∧
    callable Tryd.prog 51 = true ∧
    callable Tryd.prog 52 = true ∧
    callable Tryd.prog 53 = true ∧
    callable Tryd.prog 54 = true ∧
    callable Tryd.prog 55 = true ∧
    callable Tryd.prog 56 = true :=
  ⟨by kernel_rfl, by kernel_rfl, by kernel_rfl, by kernel_rfl, by kernel_rfl, by kernel_rfl, by kernel_rfl, by kernel_rfl, by kernel_rfl, by kernel_rfl, by kernel_rfl, by kernel_rfl, by kernel_rfl, by kernel_rfl, by kernel_rfl, by kernel_rfl, by kernel_rfl, by kernel_rfl, by kernel_rfl, by kernel_rfl⟩
theorem TF17 : callable Tryd.prog 57 = true ∧
    callable Tryd.prog 58 = true ∧
    callable Tryd.prog 59 = true ∧
    callable Tryd.prog 60 = true ∧
    callable Tryd.prog 61 = true ∧
    callable Tryd.prog 62 = true :=
  ⟨by kernel_rfl, by kernel_rfl, by kernel_rfl, by kernel_rfl, by kernel_rfl, by kernel_rfl⟩
theorem WS : type_of% (And.intro AW0 <| And.intro AW1 <| And.intro AW2 <| And.intro AW3 <| And.intro AW4 <| And.intro AW5 <| And.intro AW6 <| And.intro AW7 <| And.intro AW8 <| And.intro AW9 <| And.intro AW10 <| And.intro TF0 <| And.intro TF1 <| And.intro TF2 <| And.intro TF3 <| And.intro TF4 <| And.intro TF5 <| And.intro TF6 <| And.intro TF7 <| And.intro TF8 <| And.intro TF9 <| And.intro TF10 <| And.intro TF11 <| And.intro TF12 <| And.intro TF13 <| And.intro TF14 <| And.intro TF15 <| And.intro TF16 <| TF17) :=
  And.intro AW0 <| And.intro AW1 <| And.intro AW2 <| And.intro AW3 <| And.intro AW4 <| And.intro AW5 <| And.intro AW6 <| And.intro AW7 <| And.intro AW8 <| And.intro AW9 <| And.intro AW10 <| And.intro TF0 <| And.intro TF1 <| And.intro TF2 <| And.intro TF3 <| And.intro TF4 <| And.intro TF5 <| And.intro TF6 <| And.intro TF7 <| And.intro TF8 <| And.intro TF9 <| And.intro TF10 <| And.intro TF11 <| And.intro TF12 <| And.intro TF13 <| And.intro TF14 <| And.intro TF15 <| And.intro TF16 <| TF17
end Go.Proofs.YtnlanfcboiemaaaDoor.AE

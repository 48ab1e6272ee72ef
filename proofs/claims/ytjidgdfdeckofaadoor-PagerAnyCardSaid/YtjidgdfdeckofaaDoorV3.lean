/- Texts TF, MW. -/
import Derived.Test.YtjidgdfdeckofaaDoorBM
import Derived.Test.YtjidgdfdeckofaaDoorProg
import Derived.RowKit
import Derived.Tactics
import Derived.WalkKit
import Derived.Laws.Cells
/- Facts on the types and functions of this program, as rewrite rules. -/
namespace Go.Proofs.YtjidgdfdeckofaaDoor.AE
open Go Go.RowKit Go.Proofs
theorem mixed : Tryd.prog.follows .mixedOrders = true := by kernel_rfl
theorem TF0 : kT Tryd.prog 2 = some (.int .i64) ∧
    sizeT Tryd.prog 2 = some 1 ∧
    byteT Tryd.prog 2 = some 8 ∧
    aggT Tryd.prog 2 = some false ∧
    zeroT Tryd.prog 2 = some [.int .i64 0] ∧
    Tryd.prog.concrete 2 = true ∧
    kT Tryd.prog 3 = some (.int .i64) ∧
    sizeT Tryd.prog 3 = some 1 ∧
    byteT Tryd.prog 3 = some 8 ∧
    aggT Tryd.prog 3 = some false ∧
    zeroT Tryd.prog 3 = some [.int .i64 0] ∧
    Tryd.prog.concrete 3 = true ∧
    kT Tryd.prog 4 = some .bool ∧
    sizeT Tryd.prog 4 = some 1 ∧
    byteT Tryd.prog 4 = some 1 ∧
    aggT Tryd.prog 4 = some false ∧
    zeroT Tryd.prog 4 = some [.bool false] ∧
    boolT Tryd.prog 4 = true ∧
    kT Tryd.prog 5 = some (.int .u8) ∧
    sizeT Tryd.prog 5 = some 1 :=
  ⟨by kernel_rfl, by kernel_rfl, by kernel_rfl, by kernel_rfl, by kernel_rfl, by kernel_rfl, by kernel_rfl, by kernel_rfl, by kernel_rfl, by kernel_rfl, by kernel_rfl, by kernel_rfl, by kernel_rfl, by kernel_rfl, by kernel_rfl, by kernel_rfl, by kernel_rfl, by kernel_rfl, by kernel_rfl, by kernel_rfl⟩
theorem TF1 : byteT Tryd.prog 5 = some 1 ∧
    aggT Tryd.prog 5 = some false ∧
    zeroT Tryd.prog 5 = some [.int .u8 0] ∧
    Tryd.prog.concrete 5 = true ∧
    kT Tryd.prog 9 = some .str ∧
    sizeT Tryd.prog 9 = some 1 ∧
    byteT Tryd.prog 9 = some 16 ∧
    aggT Tryd.prog 9 = some false ∧
    zeroT Tryd.prog 9 = some [.str []] ∧
    kT Tryd.prog 12 = some (.int .u64) ∧
    sizeT Tryd.prog 12 = some 1 ∧
    byteT Tryd.prog 12 = some 8 ∧
    aggT Tryd.prog 12 = some false ∧
    zeroT Tryd.prog 12 = some [.int .u64 0] ∧
    Tryd.prog.concrete 12 = true ∧
    kT Tryd.prog 17 = some (.ptr 178) ∧
    sizeT Tryd.prog 17 = some 1 ∧
    byteT Tryd.prog 17 = some 8 ∧
    aggT Tryd.prog 17 = some false ∧
    zeroT Tryd.prog 17 = some [.nilp] :=
  ⟨by kernel_rfl, by kernel_rfl, by kernel_rfl, by kernel_rfl, by kernel_rfl, by kernel_rfl, by kernel_rfl, by kernel_rfl, by kernel_rfl, by kernel_rfl, by kernel_rfl, by kernel_rfl, by kernel_rfl, by kernel_rfl, by kernel_rfl, by kernel_rfl, by kernel_rfl, by kernel_rfl, by kernel_rfl, by kernel_rfl⟩
theorem TF2 : kT Tryd.prog 21 = some (.int .i32) ∧
    sizeT Tryd.prog 21 = some 1 ∧
    byteT Tryd.prog 21 = some 4 ∧
    aggT Tryd.prog 21 = some false ∧
    zeroT Tryd.prog 21 = some [.int .i32 0] ∧
    Tryd.prog.concrete 21 = true ∧
    kT Tryd.prog 22 = some (.slice 40) ∧
    sizeT Tryd.prog 22 = some 1 ∧
    byteT Tryd.prog 22 = some 24 ∧
    aggT Tryd.prog 22 = some false ∧
    zeroT Tryd.prog 22 = some [.zs] ∧
    kT Tryd.prog 23 = some (.slice 57) ∧
    sizeT Tryd.prog 23 = some 1 ∧
    byteT Tryd.prog 23 = some 24 ∧
    aggT Tryd.prog 23 = some false ∧
    zeroT Tryd.prog 23 = some [.zs] ∧
    kT Tryd.prog 24 = some .strct ∧
    sizeT Tryd.prog 24 = some 3 ∧
    byteT Tryd.prog 24 = some 56 ∧
    aggT Tryd.prog 24 = some true :=
  ⟨by kernel_rfl, by kernel_rfl, by kernel_rfl, by kernel_rfl, by kernel_rfl, by kernel_rfl, by kernel_rfl, by kernel_rfl, by kernel_rfl, by kernel_rfl, by kernel_rfl, by kernel_rfl, by kernel_rfl, by kernel_rfl, by kernel_rfl, by kernel_rfl, by kernel_rfl, by kernel_rfl, by kernel_rfl, by kernel_rfl⟩
theorem TF3 : zeroT Tryd.prog 24 = some [.zs, .zs, .int .i64 0] ∧
    offT Tryd.prog 24 0 = some 0 ∧
    partT Tryd.prog 24 0 = some (0, 1, false) ∧
    offT Tryd.prog 24 1 = some 1 ∧
    partT Tryd.prog 24 1 = some (1, 1, false) ∧
    offT Tryd.prog 24 2 = some 2 ∧
    partT Tryd.prog 24 2 = some (2, 1, false) ∧
    placesT Tryd.prog 24 = some [(0, 1), (1, 1), (2, 1)] ∧
    kT Tryd.prog 25 = some .strct ∧
    sizeT Tryd.prog 25 = some 3 ∧
    byteT Tryd.prog 25 = some 56 ∧
    aggT Tryd.prog 25 = some true ∧
    zeroT Tryd.prog 25 = some [.zs, .zs, .int .i64 0] ∧
    offT Tryd.prog 25 0 = some 0 ∧
    partT Tryd.prog 25 0 = some (0, 1, false) ∧
    offT Tryd.prog 25 1 = some 1 ∧
    partT Tryd.prog 25 1 = some (1, 1, false) ∧
    offT Tryd.prog 25 2 = some 2 ∧
    partT Tryd.prog 25 2 = some (2, 1, false) ∧
    placesT Tryd.prog 25 = some [(0, 1), (1, 1), (2, 1)] :=
  ⟨by kernel_rfl, by kernel_rfl, by kernel_rfl, by kernel_rfl, by kernel_rfl, by kernel_rfl, by kernel_rfl, by kernel_rfl, by kernel_rfl, by kernel_rfl, by kernel_rfl, by kernel_rfl, by kernel_rfl, by kernel_rfl, by kernel_rfl, by kernel_rfl, by kernel_rfl, by kernel_rfl, by kernel_rfl, by kernel_rfl⟩
theorem TF4 : kT Tryd.prog 27 = some .strct ∧
    sizeT Tryd.prog 27 = some 7 ∧
    byteT Tryd.prog 27 = some 56 ∧
    aggT Tryd.prog 27 = some true ∧
    zeroT Tryd.prog 27 = some [.int .i64 0, .int .i64 0, .int .i64 0, .int .i64 0, .int .i64 0, .int .i64 0, .int .i64 0] ∧
    offT Tryd.prog 27 0 = some 0 ∧
    partT Tryd.prog 27 0 = some (0, 1, false) ∧
    offT Tryd.prog 27 1 = some 1 ∧
    partT Tryd.prog 27 1 = some (1, 1, false) ∧
    offT Tryd.prog 27 2 = some 2 ∧
    partT Tryd.prog 27 2 = some (2, 1, false) ∧
    offT Tryd.prog 27 3 = some 3 ∧
    partT Tryd.prog 27 3 = some (3, 1, false) ∧
    offT Tryd.prog 27 4 = some 4 ∧
    partT Tryd.prog 27 4 = some (4, 1, false) ∧
    offT Tryd.prog 27 5 = some 5 ∧
    partT Tryd.prog 27 5 = some (5, 1, false) ∧
    offT Tryd.prog 27 6 = some 6 ∧
    partT Tryd.prog 27 6 = some (6, 1, false) ∧
    placesT Tryd.prog 27 = some [(0, 1), (1, 1), (2, 1), (3, 1), (4, 1), (5, 1), (6, 1)] :=
  ⟨by kernel_rfl, by kernel_rfl, by kernel_rfl, by kernel_rfl, by kernel_rfl, by kernel_rfl, by kernel_rfl, by kernel_rfl, by kernel_rfl, by kernel_rfl, by kernel_rfl, by kernel_rfl, by kernel_rfl, by kernel_rfl, by kernel_rfl, by kernel_rfl, by kernel_rfl, by kernel_rfl, by kernel_rfl, by kernel_rfl⟩
theorem TF5 : eqT Tryd.prog 27 = some [(0, 0), (1, 0), (2, 0), (3, 0), (4, 0), (5, 0), (6, 0)] ∧
    kT Tryd.prog 28 = some .strct ∧
    sizeT Tryd.prog 28 = some 7 ∧
    byteT Tryd.prog 28 = some 56 ∧
    aggT Tryd.prog 28 = some true ∧
    zeroT Tryd.prog 28 = some [.int .i64 0, .int .i64 0, .int .i64 0, .int .i64 0, .int .i64 0, .int .i64 0, .int .i64 0] ∧
    offT Tryd.prog 28 0 = some 0 ∧
    partT Tryd.prog 28 0 = some (0, 1, false) ∧
    offT Tryd.prog 28 1 = some 1 ∧
    partT Tryd.prog 28 1 = some (1, 1, false) ∧
    offT Tryd.prog 28 2 = some 2 ∧
    partT Tryd.prog 28 2 = some (2, 1, false) ∧
    offT Tryd.prog 28 3 = some 3 ∧
    partT Tryd.prog 28 3 = some (3, 1, false) ∧
    offT Tryd.prog 28 4 = some 4 ∧
    partT Tryd.prog 28 4 = some (4, 1, false) ∧
    offT Tryd.prog 28 5 = some 5 ∧
    partT Tryd.prog 28 5 = some (5, 1, false) ∧
    offT Tryd.prog 28 6 = some 6 ∧
    partT Tryd.prog 28 6 = some (6, 1, false) :=
  ⟨by kernel_rfl, by kernel_rfl, by kernel_rfl, by kernel_rfl, by kernel_rfl, by kernel_rfl, by kernel_rfl, by kernel_rfl, by kernel_rfl, by kernel_rfl, by kernel_rfl, by kernel_rfl, by kernel_rfl, by kernel_rfl, by kernel_rfl, by kernel_rfl, by kernel_rfl, by kernel_rfl, by kernel_rfl, by kernel_rfl⟩
theorem TF6 : placesT Tryd.prog 28 = some [(0, 1), (1, 1), (2, 1), (3, 1), (4, 1), (5, 1), (6, 1)] ∧
    eqT Tryd.prog 28 = some [(0, 0), (1, 0), (2, 0), (3, 0), (4, 0), (5, 0), (6, 0)] ∧
    kT Tryd.prog 29 = some .strct ∧
    sizeT Tryd.prog 29 = some 15 ∧
    byteT Tryd.prog 29 = some 168 ∧
    aggT Tryd.prog 29 = some true ∧
    zeroT Tryd.prog 29 = some [.zs, .zs, .int .i64 0, .int .i64 0, .int .i64 0, .int .i64 0, .int .i64 0, .int .i64 0, .int .i64 0, .int .i64 0, .zs, .int .i64 0, .int .i64 0, .int .i64 0, .int .i64 0] ∧
    offT Tryd.prog 29 0 = some 0 ∧
    partT Tryd.prog 29 0 = some (0, 3, true) ∧
    offT Tryd.prog 29 1 = some 3 ∧
    partT Tryd.prog 29 1 = some (3, 7, true) ∧
    offT Tryd.prog 29 2 = some 10 ∧
    partT Tryd.prog 29 2 = some (10, 1, false) ∧
    offT Tryd.prog 29 3 = some 11 ∧
    partT Tryd.prog 29 3 = some (11, 1, false) ∧
    offT Tryd.prog 29 4 = some 12 ∧
    partT Tryd.prog 29 4 = some (12, 1, false) ∧
    offT Tryd.prog 29 5 = some 13 ∧
    partT Tryd.prog 29 5 = some (13, 1, false) ∧
    offT Tryd.prog 29 6 = some 14 :=
  ⟨by kernel_rfl, by kernel_rfl, by kernel_rfl, by kernel_rfl, by kernel_rfl, by kernel_rfl, by kernel_rfl, by kernel_rfl, by kernel_rfl, by kernel_rfl, by kernel_rfl, by kernel_rfl, by kernel_rfl, by kernel_rfl, by kernel_rfl, by kernel_rfl, by kernel_rfl, by kernel_rfl, by kernel_rfl, by kernel_rfl⟩
theorem TF7 : partT Tryd.prog 29 6 = some (14, 1, false) ∧
    placesT Tryd.prog 29 = some [(0, 3), (3, 7), (10, 1), (11, 1), (12, 1), (13, 1), (14, 1)] ∧
    kT Tryd.prog 30 = some .strct ∧
    sizeT Tryd.prog 30 = some 15 ∧
    byteT Tryd.prog 30 = some 168 ∧
    aggT Tryd.prog 30 = some true ∧
    zeroT Tryd.prog 30 = some [.zs, .zs, .int .i64 0, .int .i64 0, .int .i64 0, .int .i64 0, .int .i64 0, .int .i64 0, .int .i64 0, .int .i64 0, .zs, .int .i64 0, .int .i64 0, .int .i64 0, .int .i64 0] ∧
    offT Tryd.prog 30 0 = some 0 ∧
    partT Tryd.prog 30 0 = some (0, 3, true) ∧
    offT Tryd.prog 30 1 = some 3 ∧
    partT Tryd.prog 30 1 = some (3, 7, true) ∧
    offT Tryd.prog 30 2 = some 10 ∧
    partT Tryd.prog 30 2 = some (10, 1, false) ∧
    offT Tryd.prog 30 3 = some 11 ∧
    partT Tryd.prog 30 3 = some (11, 1, false) ∧
    offT Tryd.prog 30 4 = some 12 ∧
    partT Tryd.prog 30 4 = some (12, 1, false) ∧
    offT Tryd.prog 30 5 = some 13 ∧
    partT Tryd.prog 30 5 = some (13, 1, false) ∧
    offT Tryd.prog 30 6 = some 14 :=
  ⟨by kernel_rfl, by kernel_rfl, by kernel_rfl, by kernel_rfl, by kernel_rfl, by kernel_rfl, by kernel_rfl, by kernel_rfl, by kernel_rfl, by kernel_rfl, by kernel_rfl, by kernel_rfl, by kernel_rfl, by kernel_rfl, by kernel_rfl, by kernel_rfl, by kernel_rfl, by kernel_rfl, by kernel_rfl, by kernel_rfl⟩
theorem TF8 : partT Tryd.prog 30 6 = some (14, 1, false) ∧
    placesT Tryd.prog 30 = some [(0, 3), (3, 7), (10, 1), (11, 1), (12, 1), (13, 1), (14, 1)] ∧
    kT Tryd.prog 31 = some (.int .i64) ∧
    sizeT Tryd.prog 31 = some 1 ∧
    byteT Tryd.prog 31 = some 8 ∧
    aggT Tryd.prog 31 = some false ∧
    zeroT Tryd.prog 31 = some [.int .i64 0] ∧
    Tryd.prog.concrete 31 = true ∧
    kT Tryd.prog 40 = some (.slice 5) ∧
    sizeT Tryd.prog 40 = some 1 ∧
    byteT Tryd.prog 40 = some 24 ∧
    aggT Tryd.prog 40 = some false ∧
    zeroT Tryd.prog 40 = some [.zs] ∧
    kT Tryd.prog 50 = some (.ptr 52) ∧
    sizeT Tryd.prog 50 = some 1 ∧
    byteT Tryd.prog 50 = some 8 ∧
    aggT Tryd.prog 50 = some false ∧
    zeroT Tryd.prog 50 = some [.nilp] ∧
    kT Tryd.prog 51 = some .strct ∧
    sizeT Tryd.prog 51 = some 16 :=
  ⟨by kernel_rfl, by kernel_rfl, by kernel_rfl, by kernel_rfl, by kernel_rfl, by kernel_rfl, by kernel_rfl, by kernel_rfl, by kernel_rfl, by kernel_rfl, by kernel_rfl, by kernel_rfl, by kernel_rfl, by kernel_rfl, by kernel_rfl, by kernel_rfl, by kernel_rfl, by kernel_rfl, by kernel_rfl, by kernel_rfl⟩
theorem TF9 : byteT Tryd.prog 51 = some 192 ∧
    aggT Tryd.prog 51 = some true ∧
    zeroT Tryd.prog 51 = some [.zs, .zs, .int .i64 0, .int .i64 0, .int .i64 0, .int .i64 0, .int .i64 0, .int .i64 0, .int .i64 0, .int .i64 0, .zs, .int .i64 0, .int .i64 0, .int .i64 0, .int .i64 0, .zs] ∧
    offT Tryd.prog 51 0 = some 0 ∧
    partT Tryd.prog 51 0 = some (0, 15, true) ∧
    offT Tryd.prog 51 1 = some 15 ∧
    partT Tryd.prog 51 1 = some (15, 1, false) ∧
    placesT Tryd.prog 51 = some [(0, 15), (15, 1)] ∧
    kT Tryd.prog 52 = some .strct ∧
    sizeT Tryd.prog 52 = some 16 ∧
    byteT Tryd.prog 52 = some 192 ∧
    aggT Tryd.prog 52 = some true ∧
    zeroT Tryd.prog 52 = some [.zs, .zs, .int .i64 0, .int .i64 0, .int .i64 0, .int .i64 0, .int .i64 0, .int .i64 0, .int .i64 0, .int .i64 0, .zs, .int .i64 0, .int .i64 0, .int .i64 0, .int .i64 0, .zs] ∧
    offT Tryd.prog 52 0 = some 0 ∧
    partT Tryd.prog 52 0 = some (0, 15, true) ∧
    offT Tryd.prog 52 1 = some 15 ∧
    partT Tryd.prog 52 1 = some (15, 1, false) ∧
    placesT Tryd.prog 52 = some [(0, 15), (15, 1)] ∧
    kT Tryd.prog 56 = some .strct ∧
    sizeT Tryd.prog 56 = some 3 :=
  ⟨by kernel_rfl, by kernel_rfl, by kernel_rfl, by kernel_rfl, by kernel_rfl, by kernel_rfl, by kernel_rfl, by kernel_rfl, by kernel_rfl, by kernel_rfl, by kernel_rfl, by kernel_rfl, by kernel_rfl, by kernel_rfl, by kernel_rfl, by kernel_rfl, by kernel_rfl, by kernel_rfl, by kernel_rfl, by kernel_rfl⟩
theorem TF10 : byteT Tryd.prog 56 = some 40 ∧
    aggT Tryd.prog 56 = some true ∧
    zeroT Tryd.prog 56 = some [.int .i64 0, .int .i64 0, .zs] ∧
    offT Tryd.prog 56 0 = some 0 ∧
    partT Tryd.prog 56 0 = some (0, 1, false) ∧
    offT Tryd.prog 56 1 = some 1 ∧
    partT Tryd.prog 56 1 = some (1, 1, false) ∧
    offT Tryd.prog 56 2 = some 2 ∧
    partT Tryd.prog 56 2 = some (2, 1, false) ∧
    placesT Tryd.prog 56 = some [(0, 1), (1, 1), (2, 1)] ∧
    kT Tryd.prog 57 = some .strct ∧
    sizeT Tryd.prog 57 = some 3 ∧
    byteT Tryd.prog 57 = some 40 ∧
    aggT Tryd.prog 57 = some true ∧
    zeroT Tryd.prog 57 = some [.int .i64 0, .int .i64 0, .zs] ∧
    offT Tryd.prog 57 0 = some 0 ∧
    partT Tryd.prog 57 0 = some (0, 1, false) ∧
    offT Tryd.prog 57 1 = some 1 ∧
    partT Tryd.prog 57 1 = some (1, 1, false) ∧
    offT Tryd.prog 57 2 = some 2 :=
  ⟨by kernel_rfl, by kernel_rfl, by kernel_rfl, by kernel_rfl, by kernel_rfl, by kernel_rfl, by kernel_rfl, by kernel_rfl, by kernel_rfl, by kernel_rfl, by kernel_rfl, by kernel_rfl, by kernel_rfl, by kernel_rfl, by kernel_rfl, by kernel_rfl, by kernel_rfl, by kernel_rfl, by kernel_rfl, by kernel_rfl⟩
theorem TF11 : partT Tryd.prog 57 2 = some (2, 1, false) ∧
    placesT Tryd.prog 57 = some [(0, 1), (1, 1), (2, 1)] ∧
    kT Tryd.prog 72 = some (.slice 91) ∧
    sizeT Tryd.prog 72 = some 1 ∧
    byteT Tryd.prog 72 = some 24 ∧
    aggT Tryd.prog 72 = some false ∧
    zeroT Tryd.prog 72 = some [.zs] ∧
    kT Tryd.prog 76 = some .strct ∧
    sizeT Tryd.prog 76 = some 4 ∧
    byteT Tryd.prog 76 = some 48 ∧
    aggT Tryd.prog 76 = some true ∧
    zeroT Tryd.prog 76 = some [.int .i64 0, .int .i64 0, .int .i64 0, .zs] ∧
    offT Tryd.prog 76 0 = some 0 ∧
    partT Tryd.prog 76 0 = some (0, 1, false) ∧
    offT Tryd.prog 76 1 = some 1 ∧
    partT Tryd.prog 76 1 = some (1, 1, false) ∧
    offT Tryd.prog 76 2 = some 2 ∧
    partT Tryd.prog 76 2 = some (2, 1, false) ∧
    offT Tryd.prog 76 3 = some 3 ∧
    partT Tryd.prog 76 3 = some (3, 1, false) :=
  ⟨by kernel_rfl, by kernel_rfl, by kernel_rfl, by kernel_rfl, by kernel_rfl, by kernel_rfl, by kernel_rfl, by kernel_rfl, by kernel_rfl, by kernel_rfl, by kernel_rfl, by kernel_rfl, by kernel_rfl, by kernel_rfl, by kernel_rfl, by kernel_rfl, by kernel_rfl, by kernel_rfl, by kernel_rfl, by kernel_rfl⟩
theorem TF12 : placesT Tryd.prog 76 = some [(0, 1), (1, 1), (2, 1), (3, 1)] ∧
    kT Tryd.prog 77 = some .strct ∧
    sizeT Tryd.prog 77 = some 4 ∧
    byteT Tryd.prog 77 = some 48 ∧
    aggT Tryd.prog 77 = some true ∧
    zeroT Tryd.prog 77 = some [.int .i64 0, .int .i64 0, .int .i64 0, .zs] ∧
    offT Tryd.prog 77 0 = some 0 ∧
    partT Tryd.prog 77 0 = some (0, 1, false) ∧
    offT Tryd.prog 77 1 = some 1 ∧
    partT Tryd.prog 77 1 = some (1, 1, false) ∧
    offT Tryd.prog 77 2 = some 2 ∧
    partT Tryd.prog 77 2 = some (2, 1, false) ∧
    offT Tryd.prog 77 3 = some 3 ∧
    partT Tryd.prog 77 3 = some (3, 1, false) ∧
    placesT Tryd.prog 77 = some [(0, 1), (1, 1), (2, 1), (3, 1)] ∧
    kT Tryd.prog 80 = some (.slice 4) ∧
    sizeT Tryd.prog 80 = some 1 ∧
    byteT Tryd.prog 80 = some 24 ∧
    aggT Tryd.prog 80 = some false ∧
    zeroT Tryd.prog 80 = some [.zs] :=
  ⟨by kernel_rfl, by kernel_rfl, by kernel_rfl, by kernel_rfl, by kernel_rfl, by kernel_rfl, by kernel_rfl, by kernel_rfl, by kernel_rfl, by kernel_rfl, by kernel_rfl, by kernel_rfl, by kernel_rfl, by kernel_rfl, by kernel_rfl, by kernel_rfl, by kernel_rfl, by kernel_rfl, by kernel_rfl, by kernel_rfl⟩
theorem TF13 : kT Tryd.prog 83 = some (.arr 2 40) ∧
    sizeT Tryd.prog 83 = some 2 ∧
    byteT Tryd.prog 83 = some 48 ∧
    aggT Tryd.prog 83 = some true ∧
    zeroT Tryd.prog 83 = some [.zs, .zs] ∧
    placesT Tryd.prog 83 = some [(0, 1), (1, 1)] ∧
    kT Tryd.prog 86 = some (.slice 77) ∧
    sizeT Tryd.prog 86 = some 1 ∧
    byteT Tryd.prog 86 = some 24 ∧
    aggT Tryd.prog 86 = some false ∧
    zeroT Tryd.prog 86 = some [.zs] ∧
    kT Tryd.prog 90 = some .strct ∧
    sizeT Tryd.prog 90 = some 2 ∧
    byteT Tryd.prog 90 = some 32 ∧
    aggT Tryd.prog 90 = some true ∧
    zeroT Tryd.prog 90 = some [.int .i64 0, .zs] ∧
    offT Tryd.prog 90 0 = some 0 ∧
    partT Tryd.prog 90 0 = some (0, 1, false) ∧
    offT Tryd.prog 90 1 = some 1 ∧
    partT Tryd.prog 90 1 = some (1, 1, false) :=
  ⟨by kernel_rfl, by kernel_rfl, by kernel_rfl, by kernel_rfl, by kernel_rfl, by kernel_rfl, by kernel_rfl, by kernel_rfl, by kernel_rfl, by kernel_rfl, by kernel_rfl, by kernel_rfl, by kernel_rfl, by kernel_rfl, by kernel_rfl, by kernel_rfl, by kernel_rfl, by kernel_rfl, by kernel_rfl, by kernel_rfl⟩
theorem TF14 : placesT Tryd.prog 90 = some [(0, 1), (1, 1)] ∧
    kT Tryd.prog 91 = some .strct ∧
    sizeT Tryd.prog 91 = some 2 ∧
    byteT Tryd.prog 91 = some 32 ∧
    aggT Tryd.prog 91 = some true ∧
    zeroT Tryd.prog 91 = some [.int .i64 0, .zs] ∧
    offT Tryd.prog 91 0 = some 0 ∧
    partT Tryd.prog 91 0 = some (0, 1, false) ∧
    offT Tryd.prog 91 1 = some 1 ∧
    partT Tryd.prog 91 1 = some (1, 1, false) ∧
    placesT Tryd.prog 91 = some [(0, 1), (1, 1)] ∧
    kT Tryd.prog 98 = some (.slice 102) ∧
    sizeT Tryd.prog 98 = some 1 ∧
    byteT Tryd.prog 98 = some 24 ∧
    aggT Tryd.prog 98 = some false ∧
    zeroT Tryd.prog 98 = some [.zs] ∧
    kT Tryd.prog 100 = some (.ptr 3) ∧
    sizeT Tryd.prog 100 = some 1 ∧
    byteT Tryd.prog 100 = some 8 ∧
    aggT Tryd.prog 100 = some false :=
  ⟨by kernel_rfl, by kernel_rfl, by kernel_rfl, by kernel_rfl, by kernel_rfl, by kernel_rfl, by kernel_rfl, by kernel_rfl, by kernel_rfl, by kernel_rfl, by kernel_rfl, by kernel_rfl, by kernel_rfl, by kernel_rfl, by kernel_rfl, by kernel_rfl, by kernel_rfl, by kernel_rfl, by kernel_rfl, by kernel_rfl⟩
theorem TF15 : zeroT Tryd.prog 100 = some [.nilp] ∧
    kT Tryd.prog 101 = some .strct ∧
    sizeT Tryd.prog 101 = some 4 ∧
    byteT Tryd.prog 101 = some 32 ∧
    aggT Tryd.prog 101 = some true ∧
    zeroT Tryd.prog 101 = some [.nilp, .int .i64 0, .int .i64 0, .int .i64 0] ∧
    offT Tryd.prog 101 0 = some 0 ∧
    partT Tryd.prog 101 0 = some (0, 1, false) ∧
    offT Tryd.prog 101 1 = some 1 ∧
    partT Tryd.prog 101 1 = some (1, 1, false) ∧
    offT Tryd.prog 101 2 = some 2 ∧
    partT Tryd.prog 101 2 = some (2, 1, false) ∧
    offT Tryd.prog 101 3 = some 3 ∧
    partT Tryd.prog 101 3 = some (3, 1, false) ∧
    placesT Tryd.prog 101 = some [(0, 1), (1, 1), (2, 1), (3, 1)] ∧
    kT Tryd.prog 102 = some .strct ∧
    sizeT Tryd.prog 102 = some 4 ∧
    byteT Tryd.prog 102 = some 32 ∧
    aggT Tryd.prog 102 = some true ∧
    zeroT Tryd.prog 102 = some [.nilp, .int .i64 0, .int .i64 0, .int .i64 0] :=
  ⟨by kernel_rfl, by kernel_rfl, by kernel_rfl, by kernel_rfl, by kernel_rfl, by kernel_rfl, by kernel_rfl, by kernel_rfl, by kernel_rfl, by kernel_rfl, by kernel_rfl, by kernel_rfl, by kernel_rfl, by kernel_rfl, by kernel_rfl, by kernel_rfl, by kernel_rfl, by kernel_rfl, by kernel_rfl, by kernel_rfl⟩
theorem TF16 : offT Tryd.prog 102 0 = some 0 ∧
    partT Tryd.prog 102 0 = some (0, 1, false) ∧
    offT Tryd.prog 102 1 = some 1 ∧
    partT Tryd.prog 102 1 = some (1, 1, false) ∧
    offT Tryd.prog 102 2 = some 2 ∧
    partT Tryd.prog 102 2 = some (2, 1, false) ∧
    offT Tryd.prog 102 3 = some 3 ∧
    partT Tryd.prog 102 3 = some (3, 1, false) ∧
    placesT Tryd.prog 102 = some [(0, 1), (1, 1), (2, 1), (3, 1)] ∧
    kT Tryd.prog 112 = some (.slice 3) ∧
    sizeT Tryd.prog 112 = some 1 ∧
    byteT Tryd.prog 112 = some 24 ∧
    aggT Tryd.prog 112 = some false ∧
    zeroT Tryd.prog 112 = some [.zs] ∧
    kT Tryd.prog 113 = some (.int .u64) ∧
    sizeT Tryd.prog 113 = some 1 ∧
    byteT Tryd.prog 113 = some 8 ∧
    aggT Tryd.prog 113 = some false ∧
    zeroT Tryd.prog 113 = some [.int .u64 0] ∧
    Tryd.prog.concrete 113 = true :=
  ⟨by kernel_rfl, by kernel_rfl, by kernel_rfl, by kernel_rfl, by kernel_rfl, by kernel_rfl, by kernel_rfl, by kernel_rfl, by kernel_rfl, by kernel_rfl, by kernel_rfl, by kernel_rfl, by kernel_rfl, by kernel_rfl, by kernel_rfl, by kernel_rfl, by kernel_rfl, by kernel_rfl, by kernel_rfl, by kernel_rfl⟩
theorem TF17 : kT Tryd.prog 114 = some (.slice 113) ∧
    sizeT Tryd.prog 114 = some 1 ∧
    byteT Tryd.prog 114 = some 24 ∧
    aggT Tryd.prog 114 = some false ∧
    zeroT Tryd.prog 114 = some [.zs] ∧
    kT Tryd.prog 121 = some (.ptr 25) ∧
    sizeT Tryd.prog 121 = some 1 ∧
    byteT Tryd.prog 121 = some 8 ∧
    aggT Tryd.prog 121 = some false ∧
    zeroT Tryd.prog 121 = some [.nilp] ∧
    kT Tryd.prog 129 = some (.arr 256 4) ∧
    sizeT Tryd.prog 129 = some 256 ∧
    byteT Tryd.prog 129 = some 256 ∧
    aggT Tryd.prog 129 = some true ∧
    kT Tryd.prog 130 = some (.arr 256 4) ∧
    sizeT Tryd.prog 130 = some 256 ∧
    byteT Tryd.prog 130 = some 256 ∧
    aggT Tryd.prog 130 = some true ∧
    kT Tryd.prog 134 = some (.ptr 130) ∧
    sizeT Tryd.prog 134 = some 1 :=
  ⟨by kernel_rfl, by kernel_rfl, by kernel_rfl, by kernel_rfl, by kernel_rfl, by kernel_rfl, by kernel_rfl, by kernel_rfl, by kernel_rfl, by kernel_rfl, by kernel_rfl, by kernel_rfl, by kernel_rfl, by kernel_rfl, by kernel_rfl, by kernel_rfl, by kernel_rfl, by kernel_rfl, by kernel_rfl, by kernel_rfl⟩
theorem TF18 : byteT Tryd.prog 134 = some 8 ∧
    aggT Tryd.prog 134 = some false ∧
    zeroT Tryd.prog 134 = some [.nilp] ∧
    kT Tryd.prog 136 = some (.ptr 28) ∧
    sizeT Tryd.prog 136 = some 1 ∧
    byteT Tryd.prog 136 = some 8 ∧
    aggT Tryd.prog 136 = some false ∧
    zeroT Tryd.prog 136 = some [.nilp] ∧
    kT Tryd.prog 138 = some (.int .u32) ∧
    sizeT Tryd.prog 138 = some 1 ∧
    byteT Tryd.prog 138 = some 4 ∧
    aggT Tryd.prog 138 = some false ∧
    zeroT Tryd.prog 138 = some [.int .u32 0] ∧
    Tryd.prog.concrete 138 = true ∧
    kT Tryd.prog 142 = some (.ptr 144) ∧
    sizeT Tryd.prog 142 = some 1 ∧
    byteT Tryd.prog 142 = some 8 ∧
    aggT Tryd.prog 142 = some false ∧
    zeroT Tryd.prog 142 = some [.nilp] ∧
    kT Tryd.prog 143 = some .strct :=
  ⟨by kernel_rfl, by kernel_rfl, by kernel_rfl, by kernel_rfl, by kernel_rfl, by kernel_rfl, by kernel_rfl, by kernel_rfl, by kernel_rfl, by kernel_rfl, by kernel_rfl, by kernel_rfl, by kernel_rfl, by kernel_rfl, by kernel_rfl, by kernel_rfl, by kernel_rfl, by kernel_rfl, by kernel_rfl, by kernel_rfl⟩
theorem TF19 : sizeT Tryd.prog 143 = some 2 ∧
    byteT Tryd.prog 143 = some 32 ∧
    aggT Tryd.prog 143 = some true ∧
    zeroT Tryd.prog 143 = some [.zs, .int .i64 0] ∧
    offT Tryd.prog 143 0 = some 0 ∧
    partT Tryd.prog 143 0 = some (0, 1, false) ∧
    offT Tryd.prog 143 1 = some 1 ∧
    partT Tryd.prog 143 1 = some (1, 1, false) ∧
    placesT Tryd.prog 143 = some [(0, 1), (1, 1)] ∧
    kT Tryd.prog 144 = some .strct ∧
    sizeT Tryd.prog 144 = some 2 ∧
    byteT Tryd.prog 144 = some 32 ∧
    aggT Tryd.prog 144 = some true ∧
    zeroT Tryd.prog 144 = some [.zs, .int .i64 0] ∧
    offT Tryd.prog 144 0 = some 0 ∧
    partT Tryd.prog 144 0 = some (0, 1, false) ∧
    offT Tryd.prog 144 1 = some 1 ∧
    partT Tryd.prog 144 1 = some (1, 1, false) ∧
    placesT Tryd.prog 144 = some [(0, 1), (1, 1)] ∧
    kT Tryd.prog 151 = some (.int .u64) :=
  ⟨by kernel_rfl, by kernel_rfl, by kernel_rfl, by kernel_rfl, by kernel_rfl, by kernel_rfl, by kernel_rfl, by kernel_rfl, by kernel_rfl, by kernel_rfl, by kernel_rfl, by kernel_rfl, by kernel_rfl, by kernel_rfl, by kernel_rfl, by kernel_rfl, by kernel_rfl, by kernel_rfl, by kernel_rfl, by kernel_rfl⟩
theorem TF20 : sizeT Tryd.prog 151 = some 1 ∧
    byteT Tryd.prog 151 = some 8 ∧
    aggT Tryd.prog 151 = some false ∧
    zeroT Tryd.prog 151 = some [.int .u64 0] ∧
    Tryd.prog.concrete 151 = true ∧
    kT Tryd.prog 159 = some (.arr 16 138) ∧
    sizeT Tryd.prog 159 = some 16 ∧
    byteT Tryd.prog 159 = some 64 ∧
    aggT Tryd.prog 159 = some true ∧
    zeroT Tryd.prog 159 = some [.int .u32 0, .int .u32 0, .int .u32 0, .int .u32 0, .int .u32 0, .int .u32 0, .int .u32 0, .int .u32 0, .int .u32 0, .int .u32 0, .int .u32 0, .int .u32 0, .int .u32 0, .int .u32 0, .int .u32 0, .int .u32 0] ∧
    placesT Tryd.prog 159 = some [(0, 1), (1, 1), (2, 1), (3, 1), (4, 1), (5, 1), (6, 1), (7, 1), (8, 1), (9, 1), (10, 1), (11, 1), (12, 1), (13, 1), (14, 1), (15, 1)] ∧
    kT Tryd.prog 161 = some (.arr 256 5) ∧
    sizeT Tryd.prog 161 = some 256 ∧
    byteT Tryd.prog 161 = some 256 ∧
    aggT Tryd.prog 161 = some true ∧
    kT Tryd.prog 162 = some .strct ∧
    sizeT Tryd.prog 162 = some 2 ∧
    byteT Tryd.prog 162 = some 2 ∧
    aggT Tryd.prog 162 = some true ∧
    zeroT Tryd.prog 162 = some [.int .u8 0, .int .u8 0] :=
  ⟨by kernel_rfl, by kernel_rfl, by kernel_rfl, by kernel_rfl, by kernel_rfl, by kernel_rfl, by kernel_rfl, by kernel_rfl, by kernel_rfl, by kernel_rfl, by kernel_rfl, by kernel_rfl, by kernel_rfl, by kernel_rfl, by kernel_rfl, by kernel_rfl, by kernel_rfl, by kernel_rfl, by kernel_rfl, by kernel_rfl⟩
theorem TF21 : offT Tryd.prog 162 0 = some 0 ∧
    partT Tryd.prog 162 0 = some (0, 1, false) ∧
    offT Tryd.prog 162 1 = some 1 ∧
    partT Tryd.prog 162 1 = some (1, 1, false) ∧
    placesT Tryd.prog 162 = some [(0, 1), (1, 1)] ∧
    eqT Tryd.prog 162 = some [(0, 0), (1, 0)] ∧
    kT Tryd.prog 163 = some .strct ∧
    sizeT Tryd.prog 163 = some 2 ∧
    byteT Tryd.prog 163 = some 2 ∧
    aggT Tryd.prog 163 = some true ∧
    zeroT Tryd.prog 163 = some [.int .u8 0, .int .u8 0] ∧
    offT Tryd.prog 163 0 = some 0 ∧
    partT Tryd.prog 163 0 = some (0, 1, false) ∧
    offT Tryd.prog 163 1 = some 1 ∧
    partT Tryd.prog 163 1 = some (1, 1, false) ∧
    placesT Tryd.prog 163 = some [(0, 1), (1, 1)] ∧
    eqT Tryd.prog 163 = some [(0, 0), (1, 0)] ∧
    kT Tryd.prog 164 = some (.arr 16 163) ∧
    sizeT Tryd.prog 164 = some 32 ∧
    byteT Tryd.prog 164 = some 32 :=
  ⟨by kernel_rfl, by kernel_rfl, by kernel_rfl, by kernel_rfl, by kernel_rfl, by kernel_rfl, by kernel_rfl, by kernel_rfl, by kernel_rfl, by kernel_rfl, by kernel_rfl, by kernel_rfl, by kernel_rfl, by kernel_rfl, by kernel_rfl, by kernel_rfl, by kernel_rfl, by kernel_rfl, by kernel_rfl, by kernel_rfl⟩
theorem TF22 : aggT Tryd.prog 164 = some true ∧
    zeroT Tryd.prog 164 = some [.int .u8 0, .int .u8 0, .int .u8 0, .int .u8 0, .int .u8 0, .int .u8 0, .int .u8 0, .int .u8 0, .int .u8 0, .int .u8 0, .int .u8 0, .int .u8 0, .int .u8 0, .int .u8 0, .int .u8 0, .int .u8 0, .int .u8 0, .int .u8 0, .int .u8 0, .int .u8 0, .int .u8 0, .int .u8 0, .int .u8 0, .int .u8 0, .int .u8 0, .int .u8 0, .int .u8 0, .int .u8 0, .int .u8 0, .int .u8 0, .int .u8 0, .int .u8 0] ∧
    placesT Tryd.prog 164 = some [(0, 2), (2, 2), (4, 2), (6, 2), (8, 2), (10, 2), (12, 2), (14, 2), (16, 2), (18, 2), (20, 2), (22, 2), (24, 2), (26, 2), (28, 2), (30, 2)] ∧
    kT Tryd.prog 174 = some (.ptr 5) ∧
    sizeT Tryd.prog 174 = some 1 ∧
    byteT Tryd.prog 174 = some 8 ∧
    aggT Tryd.prog 174 = some false ∧
    zeroT Tryd.prog 174 = some [.nilp] ∧
    kT Tryd.prog 177 = some .strct ∧
    sizeT Tryd.prog 177 = some 11 ∧
    byteT Tryd.prog 177 = some 48 ∧
    aggT Tryd.prog 177 = some true ∧
    zeroT Tryd.prog 177 = some [.int .u64 0, .int .u64 0, .int .u32 0, .int .u8 0, .int .u8 0, .int .u8 0, .int .u8 0, .nilf, .nilp, .int .i32 0, .int .i32 0] ∧
    offT Tryd.prog 177 0 = some 0 ∧
    partT Tryd.prog 177 0 = some (0, 1, false) ∧
    offT Tryd.prog 177 1 = some 1 ∧
    partT Tryd.prog 177 1 = some (1, 1, false) ∧
    offT Tryd.prog 177 2 = some 2 ∧
    partT Tryd.prog 177 2 = some (2, 1, false) ∧
    offT Tryd.prog 177 3 = some 3 :=
  ⟨by kernel_rfl, by kernel_rfl, by kernel_rfl, by kernel_rfl, by kernel_rfl, by kernel_rfl, by kernel_rfl, by kernel_rfl, by kernel_rfl, by kernel_rfl, by kernel_rfl, by kernel_rfl, by kernel_rfl, by kernel_rfl, by kernel_rfl, by kernel_rfl, by kernel_rfl, by kernel_rfl, by kernel_rfl, by kernel_rfl⟩
theorem TF23 : partT Tryd.prog 177 3 = some (3, 1, false) ∧
    offT Tryd.prog 177 4 = some 4 ∧
    partT Tryd.prog 177 4 = some (4, 1, false) ∧
    offT Tryd.prog 177 5 = some 5 ∧
    partT Tryd.prog 177 5 = some (5, 1, false) ∧
    offT Tryd.prog 177 6 = some 6 ∧
    partT Tryd.prog 177 6 = some (6, 1, false) ∧
    offT Tryd.prog 177 7 = some 7 ∧
    partT Tryd.prog 177 7 = some (7, 1, false) ∧
    offT Tryd.prog 177 8 = some 8 ∧
    partT Tryd.prog 177 8 = some (8, 1, false) ∧
    offT Tryd.prog 177 9 = some 9 ∧
    partT Tryd.prog 177 9 = some (9, 1, false) ∧
    offT Tryd.prog 177 10 = some 10 ∧
    partT Tryd.prog 177 10 = some (10, 1, false) ∧
    placesT Tryd.prog 177 = some [(0, 1), (1, 1), (2, 1), (3, 1), (4, 1), (5, 1), (6, 1), (7, 1), (8, 1), (9, 1), (10, 1)] ∧
    callable Tryd.prog 3 = true ∧
    callable Tryd.prog 4 = true ∧
    callable Tryd.prog 5 = true ∧
    callable Tryd.prog 6 = true :=
  ⟨by kernel_rfl, by kernel_rfl, by kernel_rfl, by kernel_rfl, by kernel_rfl, by kernel_rfl, by kernel_rfl, by kernel_rfl, by kernel_rfl, by kernel_rfl, by kernel_rfl, by kernel_rfl, by kernel_rfl, by kernel_rfl, by kernel_rfl, by kernel_rfl, by kernel_rfl, by kernel_rfl, by kernel_rfl, by kernel_rfl⟩
theorem TF24 : callable Tryd.prog 7 = true ∧
    callable Tryd.prog 8 = true ∧
    callable Tryd.prog 9 = true ∧
    callable Tryd.prog 10 = true ∧
    callable Tryd.prog 11 = true ∧
    callable Tryd.prog 12 = true ∧
    callable Tryd.prog 13 = true ∧
    callable Tryd.prog 14 = true ∧
    callable Tryd.prog 15 = true ∧
    callable Tryd.prog 16 = true ∧
    callable Tryd.prog 17 = true ∧
    callable Tryd.prog 18 = true ∧
    callable Tryd.prog 19 = true ∧
    callable Tryd.prog 20 = true ∧
    callable Tryd.prog 21 = true ∧
    callable Tryd.prog 22 = true ∧
    callable Tryd.prog 23 = true ∧
    callable Tryd.prog 24 = true ∧
    callable Tryd.prog 25 = true ∧
    callable Tryd.prog 26 = true :=
  ⟨by kernel_rfl, by kernel_rfl, by kernel_rfl, by kernel_rfl, by kernel_rfl, by kernel_rfl, by kernel_rfl, by kernel_rfl, by kernel_rfl, by kernel_rfl, by kernel_rfl, by kernel_rfl, by kernel_rfl, by kernel_rfl, by kernel_rfl, by kernel_rfl, by kernel_rfl, by kernel_rfl, by kernel_rfl, by kernel_rfl⟩
theorem TF25 : callable Tryd.prog 27 = true ∧
    callable Tryd.prog 28 = true ∧
    callable Tryd.prog 29 = true ∧
    callable Tryd.prog 30 = true ∧
    callable Tryd.prog 31 = true ∧
    callable Tryd.prog 32 = true ∧
    callable Tryd.prog 33 = true ∧
    callable Tryd.prog 34 = true ∧
    callable Tryd.prog 35 = true ∧
    callable Tryd.prog 36 = true ∧
    callable Tryd.prog 37 = true ∧
    callable Tryd.prog 38 = true ∧
    callable Tryd.prog 39 = true ∧
    callable Tryd.prog 40 = true ∧
    callable Tryd.prog 41 = true ∧
    callable Tryd.prog 42 = true ∧
    callable Tryd.prog 43 = true ∧
    callable Tryd.prog 44 = true ∧
    callable Tryd.prog 45 = true ∧
    callable Tryd.prog 46 = true :=
  ⟨by kernel_rfl, by kernel_rfl, by kernel_rfl, by kernel_rfl, by kernel_rfl, by kernel_rfl, by kernel_rfl, by kernel_rfl, by kernel_rfl, by kernel_rfl, by kernel_rfl, by kernel_rfl, by kernel_rfl, by kernel_rfl, by kernel_rfl, by kernel_rfl, by kernel_rfl, by kernel_rfl, by kernel_rfl, by kernel_rfl⟩
theorem TF26 : callable Tryd.prog 47 = true ∧
    callable Tryd.prog 48 = true ∧
    callable Tryd.prog 49 = true ∧
    callable Tryd.prog 50 = true ∧
    callable Tryd.prog 51 = true ∧
    callable Tryd.prog 52 = true ∧
    callable Tryd.prog 53 = true ∧
    callable Tryd.prog 54 = true ∧
    callable Tryd.prog 55 = true ∧
    callable Tryd.prog 56 = true ∧
    callable Tryd.prog 57 = true ∧
    callable Tryd.prog 58 = true ∧
    callable Tryd.prog 59 = true ∧
    callable Tryd.prog 60 = true ∧
    callable Tryd.prog 61 = true ∧
    callable Tryd.prog 62 = true ∧
    callable Tryd.prog 63 = true ∧
    callable Tryd.prog 64 = true ∧
    callable Tryd.prog 65 = true ∧
    callable Tryd.prog 66 = true :=
  ⟨by kernel_rfl, by kernel_rfl, by kernel_rfl, by kernel_rfl, by kernel_rfl, by kernel_rfl, by kernel_rfl, by kernel_rfl, by kernel_rfl, by kernel_rfl, by kernel_rfl, by kernel_rfl, by kernel_rfl, by kernel_rfl, by kernel_rfl, by kernel_rfl, by kernel_rfl, by kernel_rfl, by kernel_rfl, by kernel_rfl⟩
theorem TF27 : callable Tryd.prog 67 = true ∧
    callable Tryd.prog 68 = true ∧
    callable Tryd.prog 69 = true ∧
    callable Tryd.prog 70 = true ∧
    callable Tryd.prog 71 = true ∧
    callable Tryd.prog 72 = true ∧
    callable Tryd.prog 73 = true ∧
    callable Tryd.prog 74 = true ∧
    callable Tryd.prog 75 = true ∧
    callable Tryd.prog 76 = true ∧
    callable Tryd.prog 77 = true ∧
    callable Tryd.prog 78 = true ∧
    callable Tryd.prog 79 = true ∧
    callable Tryd.prog 80 = true ∧
    callable Tryd.prog 81 = true ∧
    callable Tryd.prog 82 = true ∧
    callable Tryd.prog 83 = true ∧
    callable Tryd.prog 84 = true ∧
    callable Tryd.prog 85 = true ∧
    callable Tryd.prog 86 = true :=
  ⟨by kernel_rfl, by kernel_rfl, by kernel_rfl, by kernel_rfl, by kernel_rfl, by kernel_rfl, by kernel_rfl, by kernel_rfl, by kernel_rfl, by kernel_rfl, by kernel_rfl, by kernel_rfl, by kernel_rfl, by kernel_rfl, by kernel_rfl, by kernel_rfl, by kernel_rfl, by kernel_rfl, by kernel_rfl, by kernel_rfl⟩
theorem TF28 : callable Tryd.prog 87 = true ∧
    callable Tryd.prog 88 = true ∧
    callable Tryd.prog 89 = true ∧
    callable Tryd.prog 90 = true ∧
    callable Tryd.prog 91 = true ∧
    callable Tryd.prog 92 = true ∧
    callable Tryd.prog 93 = true ∧
    callable Tryd.prog 94 = true ∧
    callable Tryd.prog 95 = true ∧
    callable Tryd.prog 96 = true ∧
    callable Tryd.prog 97 = true ∧
    callable Tryd.prog 98 = true ∧
    callable Tryd.prog 99 = true ∧
    callable Tryd.prog 100 = true :=
  ⟨by kernel_rfl, by kernel_rfl, by kernel_rfl, by kernel_rfl, by kernel_rfl, by kernel_rfl, by kernel_rfl, by kernel_rfl, by kernel_rfl, by kernel_rfl, by kernel_rfl, by kernel_rfl, by kernel_rfl, by kernel_rfl⟩
theorem WS : type_of% (And.intro AW0 <| And.intro AW1 <| And.intro AW2 <| And.intro AW3 <| And.intro AW4 <| And.intro AW5 <| And.intro AW6 <| And.intro AW7 <| And.intro AW8 <| And.intro AW9 <| And.intro AW10 <| And.intro TF0 <| And.intro TF1 <| And.intro TF2 <| And.intro TF3 <| And.intro TF4 <| And.intro TF5 <| And.intro TF6 <| And.intro TF7 <| And.intro TF8 <| And.intro TF9 <| And.intro TF10 <| And.intro TF11 <| And.intro TF12 <| And.intro TF13 <| And.intro TF14 <| And.intro TF15 <| And.intro TF16 <| And.intro TF17 <| And.intro TF18 <| And.intro TF19 <| And.intro TF20 <| And.intro TF21 <| And.intro TF22 <| And.intro TF23 <| And.intro TF24 <| And.intro TF25 <| And.intro TF26 <| And.intro TF27 <| TF28) :=
  And.intro AW0 <| And.intro AW1 <| And.intro AW2 <| And.intro AW3 <| And.intro AW4 <| And.intro AW5 <| And.intro AW6 <| And.intro AW7 <| And.intro AW8 <| And.intro AW9 <| And.intro AW10 <| And.intro TF0 <| And.intro TF1 <| And.intro TF2 <| And.intro TF3 <| And.intro TF4 <| And.intro TF5 <| And.intro TF6 <| And.intro TF7 <| And.intro TF8 <| And.intro TF9 <| And.intro TF10 <| And.intro TF11 <| And.intro TF12 <| And.intro TF13 <| And.intro TF14 <| And.intro TF15 <| And.intro TF16 <| And.intro TF17 <| And.intro TF18 <| And.intro TF19 <| And.intro TF20 <| And.intro TF21 <| And.intro TF22 <| And.intro TF23 <| And.intro TF24 <| And.intro TF25 <| And.intro TF26 <| And.intro TF27 <| TF28
end Go.Proofs.YtjidgdfdeckofaaDoor.AE

/- Words for lists of whole numbers. -/
namespace Go.Proofs.YtjidgdfdeckofaaDoorW.PrintWords
open Go Go.RowKit
def rd (xs : List Int) (i : Int) : Int := xs.getD i.toNat 0
def bytesOf (s : ByteArray) : List Int := s.data.toList.map fun b => (b.toNat : Int)
end Go.Proofs.YtjidgdfdeckofaaDoorW.PrintWords
namespace Go.Proofs.YtjidgdfdeckofaaDoorW.PrintMore
open Go Go.RowKit
def shl (k : IntKind) (x y : Int) : Int := k.wrap (x * 2 ^ min y.toNat k.bits)
def shr (k : IntKind) (x y : Int) : Int := x / 2 ^ min y.toNat k.bits
end Go.Proofs.YtjidgdfdeckofaaDoorW.PrintMore

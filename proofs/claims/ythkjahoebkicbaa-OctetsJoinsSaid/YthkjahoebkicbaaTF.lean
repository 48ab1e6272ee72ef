/- Facts on the types and functions of this program, as rewrite rules. -/
import Derived.Test.YthkjahoebkicbaaBM
import Derived.Test.YthkjahoebkicbaaProg
namespace Go.Proofs.Ythkjahoebkicbaa.AE
open Go Go.RowKit Go.Proofs
theorem mixed : Try.prog.follows .mixedOrders = true := by kernel_rfl
theorem TF0 : kT Try.prog 2 = some (.int .i64) ∧
    sizeT Try.prog 2 = some 1 ∧
    byteT Try.prog 2 = some 8 ∧
    aggT Try.prog 2 = some false ∧
    zeroT Try.prog 2 = some [.int .i64 0] ∧
    Try.prog.concrete 2 = true ∧
    kT Try.prog 3 = some (.int .i64) ∧
    sizeT Try.prog 3 = some 1 ∧
    byteT Try.prog 3 = some 8 ∧
    aggT Try.prog 3 = some false ∧
    zeroT Try.prog 3 = some [.int .i64 0] ∧
    Try.prog.concrete 3 = true ∧
    kT Try.prog 4 = some .bool ∧
    sizeT Try.prog 4 = some 1 ∧
    byteT Try.prog 4 = some 1 ∧
    aggT Try.prog 4 = some false ∧
    zeroT Try.prog 4 = some [.bool false] ∧
    boolT Try.prog 4 = true ∧
    kT Try.prog 5 = some (.int .u8) ∧
    sizeT Try.prog 5 = some 1 :=
  ⟨by kernel_rfl, by kernel_rfl, by kernel_rfl, by kernel_rfl, by kernel_rfl, by kernel_rfl, by kernel_rfl, by kernel_rfl, by kernel_rfl, by kernel_rfl, by kernel_rfl, by kernel_rfl, by kernel_rfl, by kernel_rfl, by kernel_rfl, by kernel_rfl, by kernel_rfl, by kernel_rfl, by kernel_rfl, by kernel_rfl⟩
theorem TF1 : byteT Try.prog 5 = some 1 ∧
    aggT Try.prog 5 = some false ∧
    zeroT Try.prog 5 = some [.int .u8 0] ∧
    Try.prog.concrete 5 = true ∧
    kT Try.prog 9 = some .str ∧
    sizeT Try.prog 9 = some 1 ∧
    byteT Try.prog 9 = some 16 ∧
    aggT Try.prog 9 = some false ∧
    zeroT Try.prog 9 = some [.str []] ∧
    kT Try.prog 12 = some (.int .u64) ∧
    sizeT Try.prog 12 = some 1 ∧
    byteT Try.prog 12 = some 8 ∧
    aggT Try.prog 12 = some false ∧
    zeroT Try.prog 12 = some [.int .u64 0] ∧
    Try.prog.concrete 12 = true ∧
    kT Try.prog 17 = some (.ptr 76) ∧
    sizeT Try.prog 17 = some 1 ∧
    byteT Try.prog 17 = some 8 ∧
    aggT Try.prog 17 = some false ∧
    zeroT Try.prog 17 = some [.nilp] :=
  ⟨by kernel_rfl, by kernel_rfl, by kernel_rfl, by kernel_rfl, by kernel_rfl, by kernel_rfl, by kernel_rfl, by kernel_rfl, by kernel_rfl, by kernel_rfl, by kernel_rfl, by kernel_rfl, by kernel_rfl, by kernel_rfl, by kernel_rfl, by kernel_rfl, by kernel_rfl, by kernel_rfl, by kernel_rfl, by kernel_rfl⟩
theorem TF2 : kT Try.prog 21 = some (.int .i32) ∧
    sizeT Try.prog 21 = some 1 ∧
    byteT Try.prog 21 = some 4 ∧
    aggT Try.prog 21 = some false ∧
    zeroT Try.prog 21 = some [.int .i32 0] ∧
    Try.prog.concrete 21 = true ∧
    kT Try.prog 22 = some (.int .u64) ∧
    sizeT Try.prog 22 = some 1 ∧
    byteT Try.prog 22 = some 8 ∧
    aggT Try.prog 22 = some false ∧
    zeroT Try.prog 22 = some [.int .u64 0] ∧
    Try.prog.concrete 22 = true ∧
    kT Try.prog 24 = some (.slice 5) ∧
    sizeT Try.prog 24 = some 1 ∧
    byteT Try.prog 24 = some 24 ∧
    aggT Try.prog 24 = some false ∧
    zeroT Try.prog 24 = some [.zs] ∧
    kT Try.prog 25 = some (.int .i64) ∧
    sizeT Try.prog 25 = some 1 ∧
    byteT Try.prog 25 = some 8 :=
  ⟨by kernel_rfl, by kernel_rfl, by kernel_rfl, by kernel_rfl, by kernel_rfl, by kernel_rfl, by kernel_rfl, by kernel_rfl, by kernel_rfl, by kernel_rfl, by kernel_rfl, by kernel_rfl, by kernel_rfl, by kernel_rfl, by kernel_rfl, by kernel_rfl, by kernel_rfl, by kernel_rfl, by kernel_rfl, by kernel_rfl⟩
theorem TF3 : aggT Try.prog 25 = some false ∧
    zeroT Try.prog 25 = some [.int .i64 0] ∧
    Try.prog.concrete 25 = true ∧
    kT Try.prog 46 = some (.slice 3) ∧
    sizeT Try.prog 46 = some 1 ∧
    byteT Try.prog 46 = some 24 ∧
    aggT Try.prog 46 = some false ∧
    zeroT Try.prog 46 = some [.zs] ∧
    kT Try.prog 47 = some (.slice 22) ∧
    sizeT Try.prog 47 = some 1 ∧
    byteT Try.prog 47 = some 24 ∧
    aggT Try.prog 47 = some false ∧
    zeroT Try.prog 47 = some [.zs] ∧
    kT Try.prog 68 = some (.int .u32) ∧
    sizeT Try.prog 68 = some 1 ∧
    byteT Try.prog 68 = some 4 ∧
    aggT Try.prog 68 = some false ∧
    zeroT Try.prog 68 = some [.int .u32 0] ∧
    Try.prog.concrete 68 = true ∧
    kT Try.prog 72 = some (.ptr 5) :=
  ⟨by kernel_rfl, by kernel_rfl, by kernel_rfl, by kernel_rfl, by kernel_rfl, by kernel_rfl, by kernel_rfl, by kernel_rfl, by kernel_rfl, by kernel_rfl, by kernel_rfl, by kernel_rfl, by kernel_rfl, by kernel_rfl, by kernel_rfl, by kernel_rfl, by kernel_rfl, by kernel_rfl, by kernel_rfl, by kernel_rfl⟩
theorem TF4 : sizeT Try.prog 72 = some 1 ∧
    byteT Try.prog 72 = some 8 ∧
    aggT Try.prog 72 = some false ∧
    zeroT Try.prog 72 = some [.nilp] ∧
    kT Try.prog 75 = some .strct ∧
    sizeT Try.prog 75 = some 11 ∧
    byteT Try.prog 75 = some 48 ∧
    aggT Try.prog 75 = some true ∧
    zeroT Try.prog 75 = some [.int .u64 0, .int .u64 0, .int .u32 0, .int .u8 0, .int .u8 0, .int .u8 0, .int .u8 0, .nilf, .nilp, .int .i32 0, .int .i32 0] ∧
    offT Try.prog 75 0 = some 0 ∧
    partT Try.prog 75 0 = some (0, 1, false) ∧
    offT Try.prog 75 1 = some 1 ∧
    partT Try.prog 75 1 = some (1, 1, false) ∧
    offT Try.prog 75 2 = some 2 ∧
    partT Try.prog 75 2 = some (2, 1, false) ∧
    offT Try.prog 75 3 = some 3 ∧
    partT Try.prog 75 3 = some (3, 1, false) ∧
    offT Try.prog 75 4 = some 4 ∧
    partT Try.prog 75 4 = some (4, 1, false) ∧
    offT Try.prog 75 5 = some 5 :=
  ⟨by kernel_rfl, by kernel_rfl, by kernel_rfl, by kernel_rfl, by kernel_rfl, by kernel_rfl, by kernel_rfl, by kernel_rfl, by kernel_rfl, by kernel_rfl, by kernel_rfl, by kernel_rfl, by kernel_rfl, by kernel_rfl, by kernel_rfl, by kernel_rfl, by kernel_rfl, by kernel_rfl, by kernel_rfl, by kernel_rfl⟩
theorem TF5 : partT Try.prog 75 5 = some (5, 1, false) ∧
    offT Try.prog 75 6 = some 6 ∧
    partT Try.prog 75 6 = some (6, 1, false) ∧
    offT Try.prog 75 7 = some 7 ∧
    partT Try.prog 75 7 = some (7, 1, false) ∧
    offT Try.prog 75 8 = some 8 ∧
    partT Try.prog 75 8 = some (8, 1, false) ∧
    offT Try.prog 75 9 = some 9 ∧
    partT Try.prog 75 9 = some (9, 1, false) ∧
    offT Try.prog 75 10 = some 10 ∧
    partT Try.prog 75 10 = some (10, 1, false) ∧
    placesT Try.prog 75 = some [(0, 1), (1, 1), (2, 1), (3, 1), (4, 1), (5, 1), (6, 1), (7, 1), (8, 1), (9, 1), (10, 1)] ∧
    callable Try.prog 3 = true ∧
    callable Try.prog 4 = true ∧
    callable Try.prog 5 = true ∧
    callable Try.prog 6 = true ∧
    callable Try.prog 7 = true ∧
    callable Try.prog 8 = true ∧
    callable Try.prog 9 = true ∧
    callable Try.prog 10 = true :=
  ⟨by kernel_rfl, by kernel_rfl, by kernel_rfl, by kernel_rfl, by kernel_rfl, by kernel_rfl, by kernel_rfl, by kernel_rfl, by kernel_rfl, by kernel_rfl, by kernel_rfl, by kernel_rfl, by kernel_rfl, by kernel_rfl, by kernel_rfl, by kernel_rfl, by kernel_rfl, by kernel_rfl, by kernel_rfl, by kernel_rfl⟩
theorem TF6 : callable Try.prog 11 = true ∧
    callable Try.prog 12 = true ∧
    callable Try.prog 13 = true ∧
    callable Try.prog 14 = true ∧
    callable Try.prog 15 = true ∧
    callable Try.prog 16 = true ∧
    callable Try.prog 17 = true ∧
    callable Try.prog 18 = true ∧
    callable Try.prog 19 = true ∧
    callable Try.prog 20 = true ∧
    callable Try.prog 21 = true ∧
    callable Try.prog 22 = true ∧
    callable Try.prog 23 = true ∧
    callable Try.prog 24 = true ∧
    callable Try.prog 25 = true ∧
    callable Try.prog 26 = true ∧
    callable Try.prog 27 = true ∧
    callable Try.prog 28 = true ∧
    callable Try.prog 29 = true :=
  ⟨by kernel_rfl, by kernel_rfl, by kernel_rfl, by kernel_rfl, by kernel_rfl, by kernel_rfl, by kernel_rfl, by kernel_rfl, by kernel_rfl, by kernel_rfl, by kernel_rfl, by kernel_rfl, by kernel_rfl, by kernel_rfl, by kernel_rfl, by kernel_rfl, by kernel_rfl, by kernel_rfl, by kernel_rfl⟩
theorem WS : type_of% (And.intro AW0 <| And.intro AW1 <| And.intro AW2 <| And.intro AW3 <| And.intro AW4 <| And.intro AW5 <| And.intro AW6 <| And.intro AW7 <| And.intro AW8 <| And.intro AW9 <| And.intro AW10 <| And.intro TF0 <| And.intro TF1 <| And.intro TF2 <| And.intro TF3 <| And.intro TF4 <| And.intro TF5 <| TF6) :=
  And.intro AW0 <| And.intro AW1 <| And.intro AW2 <| And.intro AW3 <| And.intro AW4 <| And.intro AW5 <| And.intro AW6 <| And.intro AW7 <| And.intro AW8 <| And.intro AW9 <| And.intro AW10 <| And.intro TF0 <| And.intro TF1 <| And.intro TF2 <| And.intro TF3 <| And.intro TF4 <| And.intro TF5 <| TF6
end Go.Proofs.Ythkjahoebkicbaa.AE

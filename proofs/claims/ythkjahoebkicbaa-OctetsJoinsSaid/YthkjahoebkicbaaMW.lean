/- Words for lists of whole numbers. -/
import Derived.RowKit
import Derived.Tactics
import Derived.WalkKit
import Derived.Laws.Cells
namespace Go.Proofs.YthkjahoebkicbaaW.PrintWords
open Go Go.RowKit
def rd (xs : List Int) (i : Int) : Int := xs.getD i.toNat 0
def bytesOf (s : ByteArray) : List Int := s.data.toList.map fun b => (b.toNat : Int)
end Go.Proofs.YthkjahoebkicbaaW.PrintWords
namespace Go.Proofs.YthkjahoebkicbaaW.PrintMore
open Go Go.RowKit
def shl (k : IntKind) (x y : Int) : Int := k.wrap (x * 2 ^ min y.toNat k.bits)
def shr (k : IntKind) (x y : Int) : Int := x / 2 ^ min y.toNat k.bits
end Go.Proofs.YthkjahoebkicbaaW.PrintMore

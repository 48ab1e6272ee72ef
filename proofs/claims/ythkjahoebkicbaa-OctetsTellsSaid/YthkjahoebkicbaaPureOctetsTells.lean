/- For every input OctetsTells returns true: any number as octets, any octets as a number, texts and back are as the reference says, and octets stay. Conditions: none beyond the row's own (each string, slice and map takes at most 2^47 - 4096 bytes). -/
import Derived.Test.YthkjahoebkicbaaLaws1
namespace Go.Proofs.Ythkjahoebkicbaa.Pure
theorem OctetsTells : Go.Proofs.Ythkjahoebkicbaa.Hy.flagstonelaw01_OctetsTells.Pure := Go.Proofs.Ythkjahoebkicbaa.Hy.pure_OctetsTells
end Go.Proofs.Ythkjahoebkicbaa.Pure

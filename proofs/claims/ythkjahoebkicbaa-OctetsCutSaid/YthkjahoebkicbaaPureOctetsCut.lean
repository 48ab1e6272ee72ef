/- For every input OctetsCut returns true: cut off anywhere octets end too early. Conditions: none beyond the row's own (each string, slice and map takes at most 2^47 - 4096 bytes). -/
import Derived.Test.YthkjahoebkicbaaLaws1
namespace Go.Proofs.Ythkjahoebkicbaa.Pure
theorem OctetsCut : Go.Proofs.Ythkjahoebkicbaa.Hy.flagstonelaw01_OctetsCut.Pure := Go.Proofs.Ythkjahoebkicbaa.Hy.pure_OctetsCut
end Go.Proofs.Ythkjahoebkicbaa.Pure

/- For every input OctetsUnpacks returns true: numbers come back from their octets, and octets that are read are made again of what was read. Conditions: none beyond the row's own (each string, slice and map takes at most 2^47 - 4096 bytes). -/
import Derived.Test.YthkjahoebkicbaaLaws1
namespace Go.Proofs.Ythkjahoebkicbaa.Pure
theorem OctetsUnpacks : Go.Proofs.Ythkjahoebkicbaa.Hy.flagstonelaw01_OctetsUnpacks.Pure := Go.Proofs.Ythkjahoebkicbaa.Hy.pure_OctetsUnpacks
end Go.Proofs.Ythkjahoebkicbaa.Pure

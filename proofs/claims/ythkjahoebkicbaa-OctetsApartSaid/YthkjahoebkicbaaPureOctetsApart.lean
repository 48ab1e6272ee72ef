/- For every input OctetsApart returns true: two unlike numbers that fit have unlike octets. Conditions: none beyond the row's own (each string, slice and map takes at most 2^47 - 4096 bytes). -/
import Derived.Test.YthkjahoebkicbaaLaws1
namespace Go.Proofs.Ythkjahoebkicbaa.Pure
theorem OctetsApart : Go.Proofs.Ythkjahoebkicbaa.Hy.flagstonelaw01_OctetsApart.Pure := Go.Proofs.Ythkjahoebkicbaa.Hy.pure_OctetsApart
end Go.Proofs.Ythkjahoebkicbaa.Pure

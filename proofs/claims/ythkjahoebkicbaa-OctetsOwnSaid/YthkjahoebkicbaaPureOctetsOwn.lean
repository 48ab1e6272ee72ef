/- For every input OctetsOwn returns true: what is answered shares nothing with what was handed in. Conditions: none beyond the row's own (each string, slice and map takes at most 2^47 - 4096 bytes). -/
import Derived.Test.YthkjahoebkicbaaLaws1
namespace Go.Proofs.Ythkjahoebkicbaa.Pure
theorem OctetsOwn : Go.Proofs.Ythkjahoebkicbaa.Hy.flagstonelaw01_OctetsOwn.Pure := Go.Proofs.Ythkjahoebkicbaa.Hy.pure_OctetsOwn
end Go.Proofs.Ythkjahoebkicbaa.Pure

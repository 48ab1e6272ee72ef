/- For every input OctetsBack returns true: what was put is got, and a text is read wherever it stands. Conditions: none beyond the row's own (each string, slice and map takes at most 2^47 - 4096 bytes). -/
import Derived.Test.YthkjahoebkicbaaLaws1
namespace Go.Proofs.Ythkjahoebkicbaa.Pure
theorem OctetsBack : Go.Proofs.Ythkjahoebkicbaa.Hy.flagstonelaw01_OctetsBack.Pure := Go.Proofs.Ythkjahoebkicbaa.Hy.pure_OctetsBack
end Go.Proofs.Ythkjahoebkicbaa.Pure

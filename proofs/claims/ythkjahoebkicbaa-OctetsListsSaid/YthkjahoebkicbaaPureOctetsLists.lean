/- For every input OctetsLists returns true: any lists of widths and numbers as octets, and back, are as the reference says, and what is handed in stays. Conditions: none beyond the row's own (each string, slice and map takes at most 2^47 - 4096 bytes). -/
import Derived.Test.YthkjahoebkicbaaLaws1
namespace Go.Proofs.Ythkjahoebkicbaa.Pure
theorem OctetsLists : Go.Proofs.Ythkjahoebkicbaa.Hy.flagstonelaw01_OctetsLists.Pure := Go.Proofs.Ythkjahoebkicbaa.Hy.pure_OctetsLists
end Go.Proofs.Ythkjahoebkicbaa.Pure

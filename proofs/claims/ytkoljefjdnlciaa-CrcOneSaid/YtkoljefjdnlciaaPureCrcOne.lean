/- For every input CrcOne returns true: two texts of one length that are unlike in up to 32 bits in a row have unlike sums. Conditions: none beyond the row's own (each string, slice and map takes at most 2^47 - 4096 bytes). -/
import Derived.Test.YtkoljefjdnlciaaLawsB
namespace Go.Proofs.Ytkoljefjdnlciaa.Pure
theorem CrcOne : Go.Proofs.Ytkoljefjdnlciaa.Hy.flagstonelaw02_CrcOne.Pure := Go.Proofs.Ytkoljefjdnlciaa.Hy.pure_CrcOne
end Go.Proofs.Ytkoljefjdnlciaa.Pure

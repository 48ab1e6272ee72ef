/- For every input CrcLinear returns true: the sums of three texts of one length, and of all three exclusive-ored, are linear. Conditions: none beyond the row's own (each string, slice and map takes at most 2^47 - 4096 bytes). -/
import Derived.Test.YtkoljefjdnlciaaLaws2
namespace Go.Proofs.Ytkoljefjdnlciaa.Pure
theorem CrcLinear : Go.Proofs.Ytkoljefjdnlciaa.Hy.flagstonelaw02_CrcLinear.Pure := Go.Proofs.Ytkoljefjdnlciaa.Hy.pure_CrcLinear
end Go.Proofs.Ytkoljefjdnlciaa.Pure

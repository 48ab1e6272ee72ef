/- For every input CrcTells returns true: the sum of any octets, what goes on from any sum, octets that bear theirs, and what any octets bear, are as the reference says; octets stay. Conditions: none beyond the row's own (each string, slice and map takes at most 2^47 - 4096 bytes). -/
import Derived.Test.YtkoljefjdnlciaaLawsT
namespace Go.Proofs.Ytkoljefjdnlciaa.Pure
theorem CrcTells : Go.Proofs.Ytkoljefjdnlciaa.Hy.flagstonelaw02_CrcTells.Pure := Go.Proofs.Ytkoljefjdnlciaa.Hy.pure_CrcTells
end Go.Proofs.Ytkoljefjdnlciaa.Pure

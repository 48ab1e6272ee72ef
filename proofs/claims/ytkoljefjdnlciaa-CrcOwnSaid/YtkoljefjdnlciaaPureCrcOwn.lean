/- For every input CrcOwn returns true: what is answered shares nothing with what was handed in. Conditions: none beyond the row's own (each string, slice and map takes at most 2^47 - 4096 bytes). -/
import Derived.Test.YtkoljefjdnlciaaLaws2
namespace Go.Proofs.Ytkoljefjdnlciaa.Pure
theorem CrcOwn : Go.Proofs.Ytkoljefjdnlciaa.Hy.flagstonelaw02_CrcOwn.Pure := Go.Proofs.Ytkoljefjdnlciaa.Hy.pure_CrcOwn
end Go.Proofs.Ytkoljefjdnlciaa.Pure

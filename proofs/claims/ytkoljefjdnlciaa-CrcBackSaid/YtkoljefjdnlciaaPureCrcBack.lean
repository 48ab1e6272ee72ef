/- For every input CrcBack returns true: octets come back from what bears their sum, and what bears it is four octets longer. Conditions: none beyond the row's own (each string, slice and map takes at most 2^47 - 4096 bytes). -/
import Derived.Test.YtkoljefjdnlciaaLaws2
namespace Go.Proofs.Ytkoljefjdnlciaa.Pure
theorem CrcBack : Go.Proofs.Ytkoljefjdnlciaa.Hy.flagstonelaw02_CrcBack.Pure := Go.Proofs.Ytkoljefjdnlciaa.Hy.pure_CrcBack
end Go.Proofs.Ytkoljefjdnlciaa.Pure

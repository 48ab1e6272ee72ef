/- For every input CrcGoesOn returns true: the sum of octets in two parts is the first part's that goes on over the second. Conditions: the arguments together of bulk at most 1048576 (the Upto form). -/
import Derived.Test.YtkoljefjdnlciaaLawsU
namespace Go.Proofs.Ytkoljefjdnlciaa.PureU
theorem CrcGoesOn : Go.Proofs.Ytkoljefjdnlciaa.Hy.flagstonelaw02_CrcGoesOn.PureU := Go.Proofs.Ytkoljefjdnlciaa.Hy.pure_CrcGoesOn
end Go.Proofs.Ytkoljefjdnlciaa.PureU

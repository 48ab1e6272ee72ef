/- For every input CrcBursts returns true: up to 32 bits in a row that are turned are told. Conditions: none beyond the row's own (each string, slice and map takes at most 2^47 - 4096 bytes). -/
import Derived.Test.YtkoljefjdnlciaaLawsB
namespace Go.Proofs.Ytkoljefjdnlciaa.Pure
theorem CrcBursts : Go.Proofs.Ytkoljefjdnlciaa.Hy.flagstonelaw02_CrcBursts.Pure := Go.Proofs.Ytkoljefjdnlciaa.Hy.pure_CrcBursts
end Go.Proofs.Ytkoljefjdnlciaa.Pure

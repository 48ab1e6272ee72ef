-- Laid by a program of this session's (wip/hprint.py) over the kit's print, with hand-made texts beside it. Lean checks it.
import Derived.Test.YtkoljefjdnlciaaH0
import Derived.Test.YtkoljefjdnlciaaH1
import Derived.Test.YtkoljefjdnlciaaH2
import Derived.Test.YtkoljefjdnlciaaH3
import Derived.Test.YtkoljefjdnlciaaH4
import Derived.Test.YtkoljefjdnlciaaH5
import Derived.Test.YtkoljefjdnlciaaH6
namespace Go.Proofs.Ytkoljefjdnlciaa.Hy
open Go.RowKit Go.Proofs.YtkoljefjdnlciaaW.PrintWords Go.Proofs.YtkoljefjdnlciaaW.PrintLast Go.Proofs.YtkoljefjdnlciaaW.PrintMore
attribute [local go_sem] max2_int min2_int max_two min_two max_three min_three max_four min_four   -- for this text's walks alone
set_option linter.unusedVariables false
set_option linter.unusedSimpArgs false

end Go.Proofs.Ytkoljefjdnlciaa.Hy

-- Laid by a program of this session's (wip/hprint.py) over the kit's print, with hand-made texts beside it. Lean checks it.
import Derived.Test.YthkjahoebkicbaaH0
import Derived.Test.YthkjahoebkicbaaH1
import Derived.Test.YthkjahoebkicbaaH2
import Derived.Test.YthkjahoebkicbaaH3
import Derived.Test.YthkjahoebkicbaaH4
import Derived.Test.YthkjahoebkicbaaH5
import Derived.Test.YthkjahoebkicbaaH6
import Derived.Test.YthkjahoebkicbaaH7
namespace Go.Proofs.Ythkjahoebkicbaa.Hy
open Go.RowKit Go.Proofs.YthkjahoebkicbaaW.PrintWords Go.Proofs.YthkjahoebkicbaaW.PrintLast Go.Proofs.YthkjahoebkicbaaW.PrintMore
attribute [local go_sem] max2_int min2_int max_two min_two max_three min_three max_four min_four   -- for this text's walks alone
set_option linter.unusedVariables false
set_option linter.unusedSimpArgs false

end Go.Proofs.Ythkjahoebkicbaa.Hy

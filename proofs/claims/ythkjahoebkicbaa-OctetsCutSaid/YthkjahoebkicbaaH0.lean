-- Laid by a program of this session's (wip/hprint.py) over the kit's print, with hand-made texts beside it. Lean checks it.
import Derived.Test.YthkjahoebkicbaaProg
import Derived.Below
import Derived.Deep.Draws
import Derived.Deep.AppendLies
import Derived.Maps.AppendAt
import Derived.OwnWalk
import Derived.Laws.BytesArg
import Derived.Laws.MakeOwn
import Derived.Laws.OwnMore
import Derived.Deep.OwnRows
import Derived.Tactics
import Derived.Lib.ConvBytes
import Derived.Laws.Slices
import Derived.WalkKit
import Derived.KernelRfl
import Derived.RowKit3
import Derived.Deep.LoopGhost
import Derived.Deep.QuietTactic
import Derived.BigQuiet
import Derived.WideLaws
import Derived.Deep.DeepCutAuto
import Derived.Deep.CutBlock
import Derived.Deep.RegionHeld3
import Derived.Laws.Rows
import Derived.Lib.AppendStr
import Derived.ArgAppend
import Derived.Laws.IdiomCopy
import Derived.OrdersHeld
import Derived.Laws.BitsLemmas
import Derived.RowKit
import Derived.Test.YthkjahoebkicbaaWWords
import Derived.Test.YthkjahoebkicbaaWLast
import Derived.Test.YthkjahoebkicbaaWTab
import Derived.Test.YthkjahoebkicbaaWFour
import Derived.Test.YthkjahoebkicbaaWQPut
import Derived.Test.YthkjahoebkicbaaWApart
import Derived.Test.YthkjahoebkicbaaWArr
import Derived.Test.YthkjahoebkicbaaWZeros
import Derived.Test.YthkjahoebkicbaaWFoot
import Derived.Test.YthkjahoebkicbaaWKept
import Derived.Test.YthkjahoebkicbaaWShare
import Derived.Test.YthkjahoebkicbaaWN
import Derived.Test.YthkjahoebkicbaaWFootNe
import Derived.Test.YthkjahoebkicbaaWAt
import Derived.Test.YthkjahoebkicbaaWEqStruct
import Derived.Test.YthkjahoebkicbaaWRepsOne
import Derived.Test.YthkjahoebkicbaaWInv
import Derived.Test.YthkjahoebkicbaaWInvWords
import Derived.Test.YthkjahoebkicbaaWGuard
import Derived.Test.YthkjahoebkicbaaWNEv
import Derived.Test.YthkjahoebkicbaaWMore
namespace Go.Proofs.Ythkjahoebkicbaa.Hy
open Go.RowKit Go.Proofs.YthkjahoebkicbaaW.PrintWords Go.Proofs.YthkjahoebkicbaaW.PrintLast Go.Proofs.YthkjahoebkicbaaW.PrintMore
attribute [local go_sem] max2_int min2_int max_two min_two max_three min_three max_four min_four   -- for this text's walks alone
set_option linter.unusedVariables false
set_option linter.unusedSimpArgs false



def errW : Option Int → Value
  | none => .nilIface
  | some c => .iface 0 (.int .i64 c)
theorem errW_none : errW none = .nilIface := rfl
theorem errW_some (c : Int) : errW (some c) = .iface 0 (.int .i64 c) := rfl

theorem info3 : (Try.prog.info? 3).map (fun i => (i.zero, i.size, i.bytes)) = some (some (.int .i64 0), 1, 8) := by kernel_rfl
theorem info5 : (Try.prog.info? 5).map (fun i => (i.zero, i.size, i.bytes)) = some (some (.int .u8 0), 1, 1) := by kernel_rfl
theorem info22 : (Try.prog.info? 22).map (fun i => (i.zero, i.size, i.bytes)) = some (some (.int .u64 0), 1, 8) := by kernel_rfl
-- the values' own types

end Go.Proofs.Ythkjahoebkicbaa.Hy

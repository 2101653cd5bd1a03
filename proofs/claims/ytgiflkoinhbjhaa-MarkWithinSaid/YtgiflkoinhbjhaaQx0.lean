-- Written by a program of this session (wip/tools/ppatch.py), function by function. Not trusted: Lean checks it.
import Derived.Test.YtgiflkoinhbjhaaProg
import Derived.Below
import Derived.Deep.Draws
import Derived.Deep.AppendLies
import Derived.Maps.AppendAt
import Derived.OwnWalk
import Derived.Laws.BytesArg
import Derived.Laws.MakeOwn
import Derived.Laws.OwnMore
import Derived.Deep.OwnRows
import Derived.Tactics
import Derived.Lib.ConvBytes
import Derived.Laws.Slices
import Derived.WalkKit
import Derived.KernelRfl
import Derived.RowKit3
import Derived.Deep.LoopGhost
import Derived.Deep.QuietTactic
import Derived.BigQuiet
import Derived.WideLaws
import Derived.Deep.DeepCutAuto
import Derived.Deep.CutBlock
import Derived.Deep.RegionHeld3
import Derived.Laws.Rows
import Derived.Lib.AppendStr
import Derived.ArgAppend
import Derived.Laws.IdiomCopy
import Derived.OrdersHeld
import Derived.Laws.BitsLemmas
import Derived.RowKit
import Derived.Test.YtgiflkoinhbjhaaWWords
import Derived.Test.YtgiflkoinhbjhaaWLast
import Derived.Test.YtgiflkoinhbjhaaWTab
import Derived.Test.YtgiflkoinhbjhaaWFour
import Derived.Test.YtgiflkoinhbjhaaWQPut
import Derived.Test.YtgiflkoinhbjhaaWApart
import Derived.Test.YtgiflkoinhbjhaaWArr
import Derived.Test.YtgiflkoinhbjhaaWZeros
import Derived.Test.YtgiflkoinhbjhaaWFoot
import Derived.Test.YtgiflkoinhbjhaaWKept
import Derived.Test.YtgiflkoinhbjhaaWShare
import Derived.Test.YtgiflkoinhbjhaaWN
import Derived.Test.YtgiflkoinhbjhaaWFootNe
import Derived.Test.YtgiflkoinhbjhaaWAt
import Derived.Test.YtgiflkoinhbjhaaWEqStruct
import Derived.Test.YtgiflkoinhbjhaaWRepsOne
import Derived.Test.YtgiflkoinhbjhaaWInv
import Derived.Test.YtgiflkoinhbjhaaWInvWords
import Derived.Test.YtgiflkoinhbjhaaWGuard
import Derived.Test.YtgiflkoinhbjhaaWNEv
import Derived.Test.YtgiflkoinhbjhaaWMore
namespace Go.Proofs.Ytgiflkoinhbjhaa.Q
open Go.RowKit Go.Proofs.YtgiflkoinhbjhaaW.PrintWords Go.Proofs.YtgiflkoinhbjhaaW.PrintLast Go.Proofs.YtgiflkoinhbjhaaW.PrintMore
attribute [local go_sem] max2_int min2_int max_two min_two max_three min_three max_four min_four   -- for this text's walks alone
set_option linter.unusedVariables false
set_option linter.unusedSimpArgs false



def errW : Option Int → Value
  | none => .nilIface
  | some c => .iface 0 (.int .i64 c)
theorem errW_none : errW none = .nilIface := rfl
theorem errW_some (c : Int) : errW (some c) = .iface 0 (.int .i64 c) := rfl

theorem info3 : (Try.prog.info? 3).map (fun i => (i.zero, i.size, i.bytes)) = some (some (.int .i64 0), 1, 8) := by kernel_rfl
-- the values' own types

end Go.Proofs.Ytgiflkoinhbjhaa.Q

-- Printed for this claim by gprint.py, a program of this session round the kit's printer. Lean checks it.
import Derived.Test.YtgifhfkpfgpagaaProg
import Derived.Below
import Derived.Deep.Draws
import Derived.Deep.AppendLies
import Derived.Maps.AppendAt
import Derived.OwnWalk
import Derived.Laws.BytesArg
import Derived.Laws.MakeOwn
import Derived.Laws.OwnMore
import Derived.Deep.OwnRows
import Derived.Tactics
import Derived.Lib.ConvBytes
import Derived.Laws.Slices
import Derived.WalkKit
import Derived.KernelRfl
import Derived.RowKit3
import Derived.Deep.LoopGhost
import Derived.Deep.QuietTactic
import Derived.BigQuiet
import Derived.WideLaws
import Derived.Deep.DeepCutAuto
import Derived.Deep.CutBlock
import Derived.Deep.RegionHeld3
import Derived.Laws.Rows
import Derived.Lib.AppendStr
import Derived.ArgAppend
import Derived.Laws.IdiomCopy
import Derived.OrdersHeld
import Derived.Laws.BitsLemmas
import Derived.RowKit
import Derived.StillTailTactics
import Derived.Deep.RegionWith
import Derived.Lib.OthersKept
import Derived.Test.YtgifhfkpfgpagaaShelf
import Derived.Test.YtgifhfkpfgpagaaWWords
import Derived.Test.YtgifhfkpfgpagaaWLast
import Derived.Test.YtgifhfkpfgpagaaWTab
import Derived.Test.YtgifhfkpfgpagaaWFour
import Derived.Test.YtgifhfkpfgpagaaWQPut
import Derived.Test.YtgifhfkpfgpagaaWApart
import Derived.Test.YtgifhfkpfgpagaaWArr
import Derived.Test.YtgifhfkpfgpagaaWZeros
import Derived.Test.YtgifhfkpfgpagaaWFoot
import Derived.Test.YtgifhfkpfgpagaaWKept
import Derived.Test.YtgifhfkpfgpagaaWShare
import Derived.Test.YtgifhfkpfgpagaaWN
import Derived.Test.YtgifhfkpfgpagaaWFootNe
import Derived.Test.YtgifhfkpfgpagaaWAt
import Derived.Test.YtgifhfkpfgpagaaWEqStruct
import Derived.Test.YtgifhfkpfgpagaaWRepsOne
import Derived.Test.YtgifhfkpfgpagaaWInv
import Derived.Test.YtgifhfkpfgpagaaWInvWords
import Derived.Test.YtgifhfkpfgpagaaWGuard
import Derived.Test.YtgifhfkpfgpagaaWNEv
import Derived.Test.YtgifhfkpfgpagaaWMore
namespace Go.Proofs.Ytgifhfkpfgpagaa.PL
open Go.RowKit Go.Proofs.YtgifhfkpfgpagaaW.PrintWords Go.Proofs.YtgifhfkpfgpagaaW.PrintLast Go.Proofs.YtgifhfkpfgpagaaW.PrintMore
attribute [local go_sem] max2_int min2_int max_two min_two max_three min_three max_four min_four   -- for this text's walks alone
set_option linter.unusedVariables false
set_option linter.unusedSimpArgs false



def errW : Option Int → Value
  | none => .nilIface
  | some c => .iface 0 (.int .i64 c)
theorem errW_none : errW none = .nilIface := rfl
theorem errW_some (c : Int) : errW (some c) = .iface 0 (.int .i64 c) := rfl

-- the values' own types

end Go.Proofs.Ytgifhfkpfgpagaa.PL

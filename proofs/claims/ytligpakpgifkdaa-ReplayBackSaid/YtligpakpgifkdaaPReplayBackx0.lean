/- Written by a program of this session (xprint.py, over the kit's print): Go functions told as Lean functions, each with the proof that a call answers just so. -/
import Derived.Test.YtligpakpgifkdaaProg
import Derived.Below
import Derived.Deep.Draws
import Derived.Deep.AppendLies
import Derived.Maps.AppendAt
import Derived.OwnWalk
import Derived.Laws.BytesArg
import Derived.Laws.MakeOwn
import Derived.Laws.OwnMore
import Derived.Deep.OwnRows
import Derived.Tactics
import Derived.Lib.ConvBytes
import Derived.Laws.Slices
import Derived.WalkKit
import Derived.KernelRfl
import Derived.RowKit3
import Derived.Deep.LoopGhost
import Derived.Deep.QuietTactic
import Derived.BigQuiet
import Derived.WideLaws
import Derived.Deep.DeepCutAuto
import Derived.Deep.CutBlock
import Derived.Deep.RegionHeld3
import Derived.Laws.Rows
import Derived.Lib.AppendStr
import Derived.ArgAppend
import Derived.Laws.IdiomCopy
import Derived.OrdersHeld
import Derived.Laws.BitsLemmas
import Derived.RowKit
import Derived.Test.YtligpakpgifkdaaConv
import Derived.LoopN
import Derived.BigRegion
import Derived.Test.YtligpakpgifkdaaWWords
import Derived.Test.YtligpakpgifkdaaWLast
import Derived.Test.YtligpakpgifkdaaWTab
import Derived.Test.YtligpakpgifkdaaWFour
import Derived.Test.YtligpakpgifkdaaWQPut
import Derived.Test.YtligpakpgifkdaaWApart
import Derived.Test.YtligpakpgifkdaaWArr
import Derived.Test.YtligpakpgifkdaaWZeros
import Derived.Test.YtligpakpgifkdaaWFoot
import Derived.Test.YtligpakpgifkdaaWKept
import Derived.Test.YtligpakpgifkdaaWShare
import Derived.Test.YtligpakpgifkdaaWN
import Derived.Test.YtligpakpgifkdaaWFootNe
import Derived.Test.YtligpakpgifkdaaWAt
import Derived.Test.YtligpakpgifkdaaWEqStruct
import Derived.Test.YtligpakpgifkdaaWRepsOne
import Derived.Test.YtligpakpgifkdaaWInv
import Derived.Test.YtligpakpgifkdaaWInvWords
import Derived.Test.YtligpakpgifkdaaWGuard
import Derived.Test.YtligpakpgifkdaaWNEv
import Derived.Test.YtligpakpgifkdaaWMore
namespace Go.Proofs.Ytligpakpgifkdaa.PReplayBack
open Go.Proofs.Ytligpakpgifkdaa.Hand
open Go.RowKit Go.Proofs.YtligpakpgifkdaaW.PrintWords Go.Proofs.YtligpakpgifkdaaW.PrintLast Go.Proofs.YtligpakpgifkdaaW.PrintMore
attribute [local go_sem] max2_int min2_int max_two min_two max_three min_three max_four min_four   -- for this text's walks alone
set_option linter.unusedVariables false
set_option linter.unusedSimpArgs false



def errW : Option Int → Value
  | none => .nilIface
  | some c => .iface 0 (.int .i64 c)
theorem errW_none : errW none = .nilIface := rfl
theorem errW_some (c : Int) : errW (some c) = .iface 0 (.int .i64 c) := rfl

-- the values' own types

end Go.Proofs.Ytligpakpgifkdaa.PReplayBack

/- Written by a program of this session (xprint.py, over the kit's print): Go functions told as Lean functions, each with the proof that a call answers just so. -/
import Derived.Test.YtmgepidjeddapaaProg
import Derived.Below
import Derived.Deep.Draws
import Derived.Deep.AppendLies
import Derived.Maps.AppendAt
import Derived.OwnWalk
import Derived.Laws.BytesArg
import Derived.Laws.MakeOwn
import Derived.Laws.OwnMore
import Derived.Deep.OwnRows
import Derived.Tactics
import Derived.Lib.ConvBytes
import Derived.Laws.Slices
import Derived.WalkKit
import Derived.KernelRfl
import Derived.RowKit3
import Derived.Deep.LoopGhost
import Derived.Deep.QuietTactic
import Derived.BigQuiet
import Derived.WideLaws
import Derived.Deep.DeepCutAuto
import Derived.Deep.CutBlock
import Derived.Deep.RegionHeld3
import Derived.Laws.Rows
import Derived.Lib.AppendStr
import Derived.ArgAppend
import Derived.Laws.IdiomCopy
import Derived.OrdersHeld
import Derived.Laws.BitsLemmas
import Derived.RowKit
import Derived.Test.YtmgepidjeddapaaConv
import Derived.LoopN
import Derived.Test.YtmgepidjeddapaaWWords
import Derived.Test.YtmgepidjeddapaaWLast
import Derived.Test.YtmgepidjeddapaaWTab
import Derived.Test.YtmgepidjeddapaaWFour
import Derived.Test.YtmgepidjeddapaaWQPut
import Derived.Test.YtmgepidjeddapaaWApart
import Derived.Test.YtmgepidjeddapaaWArr
import Derived.Test.YtmgepidjeddapaaWZeros
import Derived.Test.YtmgepidjeddapaaWFoot
import Derived.Test.YtmgepidjeddapaaWKept
import Derived.Test.YtmgepidjeddapaaWShare
import Derived.Test.YtmgepidjeddapaaWN
import Derived.Test.YtmgepidjeddapaaWFootNe
import Derived.Test.YtmgepidjeddapaaWAt
import Derived.Test.YtmgepidjeddapaaWEqStruct
import Derived.Test.YtmgepidjeddapaaWRepsOne
import Derived.Test.YtmgepidjeddapaaWInv
import Derived.Test.YtmgepidjeddapaaWInvWords
import Derived.Test.YtmgepidjeddapaaWGuard
import Derived.Test.YtmgepidjeddapaaWNEv
import Derived.Test.YtmgepidjeddapaaWMore
namespace Go.Proofs.Ytmgepidjeddapaa.PUdpTurned
open Go.Proofs.Ytmgepidjeddapaa.Hand
open Go.RowKit Go.Proofs.YtmgepidjeddapaaW.PrintWords Go.Proofs.YtmgepidjeddapaaW.PrintLast Go.Proofs.YtmgepidjeddapaaW.PrintMore
attribute [local go_sem] max2_int min2_int max_two min_two max_three min_three max_four min_four   -- for this text's walks alone
set_option linter.unusedVariables false
set_option linter.unusedSimpArgs false



def errW : Option Int → Value
  | none => .nilIface
  | some c => .iface 0 (.int .i64 c)
theorem errW_none : errW none = .nilIface := rfl
theorem errW_some (c : Int) : errW (some c) = .iface 0 (.int .i64 c) := rfl

theorem info5 : (Try.prog.info? 5).map (fun i => (i.zero, i.size, i.bytes)) = some (some (.int .u8 0), 1, 1) := by kernel_rfl
-- the values' own types

end Go.Proofs.Ytmgepidjeddapaa.PUdpTurned

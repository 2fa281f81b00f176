/- Written by a program of this session (xprint.py, over the kit's print): Go functions told as Lean functions, each with the proof that a call answers just so. -/
import Derived.Test.YtbbjeifbcijkcaaDoorProg
import Derived.Below
import Derived.Deep.Draws
import Derived.Deep.AppendLies
import Derived.Maps.AppendAt
import Derived.OwnWalk
import Derived.Laws.BytesArg
import Derived.Laws.MakeOwn
import Derived.Laws.OwnMore
import Derived.Deep.OwnRows
import Derived.Tactics
import Derived.Lib.ConvBytes
import Derived.Laws.Slices
import Derived.WalkKit
import Derived.KernelRfl
import Derived.RowKit3
import Derived.Deep.LoopGhost
import Derived.Deep.QuietTactic
import Derived.BigQuiet
import Derived.WideLaws
import Derived.Deep.DeepCutAuto
import Derived.Deep.CutBlock
import Derived.Deep.RegionHeld3
import Derived.Laws.Rows
import Derived.Lib.AppendStr
import Derived.ArgAppend
import Derived.Laws.IdiomCopy
import Derived.OrdersHeld
import Derived.Laws.BitsLemmas
import Derived.RowKit
import Derived.Test.YtbbjeifbcijkcaaDoorHand
import Derived.Test.YtbbjeifbcijkcaaDoorConv
import Derived.LoopN
import Derived.Test.YtbbjeifbcijkcaaDoorWWords
import Derived.Test.YtbbjeifbcijkcaaDoorWLast
import Derived.Test.YtbbjeifbcijkcaaDoorWTab
import Derived.Test.YtbbjeifbcijkcaaDoorWFour
import Derived.Test.YtbbjeifbcijkcaaDoorWQPut
import Derived.Test.YtbbjeifbcijkcaaDoorWApart
import Derived.Test.YtbbjeifbcijkcaaDoorWArr
import Derived.Test.YtbbjeifbcijkcaaDoorWZeros
import Derived.Test.YtbbjeifbcijkcaaDoorWFoot
import Derived.Test.YtbbjeifbcijkcaaDoorWKept
import Derived.Test.YtbbjeifbcijkcaaDoorWShare
import Derived.Test.YtbbjeifbcijkcaaDoorWN
import Derived.Test.YtbbjeifbcijkcaaDoorWFootNe
import Derived.Test.YtbbjeifbcijkcaaDoorWAt
import Derived.Test.YtbbjeifbcijkcaaDoorWEqStruct
import Derived.Test.YtbbjeifbcijkcaaDoorWRepsOne
import Derived.Test.YtbbjeifbcijkcaaDoorWInv
import Derived.Test.YtbbjeifbcijkcaaDoorWInvWords
import Derived.Test.YtbbjeifbcijkcaaDoorWGuard
import Derived.Test.YtbbjeifbcijkcaaDoorWNEv
import Derived.Test.YtbbjeifbcijkcaaDoorWMore
namespace Go.Proofs.YtbbjeifbcijkcaaDoor.PVarintLonger
open Go.Proofs.YtbbjeifbcijkcaaDoor.Hand
open Go.RowKit Go.Proofs.YtbbjeifbcijkcaaDoorW.PrintWords Go.Proofs.YtbbjeifbcijkcaaDoorW.PrintLast Go.Proofs.YtbbjeifbcijkcaaDoorW.PrintMore
attribute [local go_sem] max2_int min2_int max_two min_two max_three min_three max_four min_four   -- for this text's walks alone
set_option linter.unusedVariables false
set_option linter.unusedSimpArgs false



def errW : Option Int → Value
  | none => .nilIface
  | some c => .iface 0 (.int .i64 c)
theorem errW_none : errW none = .nilIface := rfl
theorem errW_some (c : Int) : errW (some c) = .iface 0 (.int .i64 c) := rfl

theorem info5 : (Tryd.prog.info? 5).map (fun i => (i.zero, i.size, i.bytes)) = some (some (.int .u8 0), 1, 1) := by kernel_rfl
-- the values' own types

end Go.Proofs.YtbbjeifbcijkcaaDoor.PVarintLonger

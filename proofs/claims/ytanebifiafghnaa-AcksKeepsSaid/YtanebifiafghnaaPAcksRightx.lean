/- Written by a program of this session (xprint.py, over the kit's print): Go functions told as Lean functions, each with the proof that a call answers just so. -/
import Derived.Test.YtanebifiafghnaaPAcksRightx0
import Derived.Test.YtanebifiafghnaaPAcksRightx1
import Derived.Test.YtanebifiafghnaaPAcksRightx2
namespace Go.Proofs.Ytanebifiafghnaa.PAcksRight
open Go.Proofs.Ytanebifiafghnaa.Hand
open Go.RowKit Go.Proofs.YtanebifiafghnaaW.PrintWords Go.Proofs.YtanebifiafghnaaW.PrintLast Go.Proofs.YtanebifiafghnaaW.PrintMore
attribute [local go_sem] max2_int min2_int max_two min_two max_three min_three max_four min_four   -- for this text's walks alone
set_option linter.unusedVariables false
set_option linter.unusedSimpArgs false

end Go.Proofs.Ytanebifiafghnaa.PAcksRight

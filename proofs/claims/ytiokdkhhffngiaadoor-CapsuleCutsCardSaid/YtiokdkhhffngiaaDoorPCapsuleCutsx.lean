/- Written by a program of this session (xprint.py, over the kit's print): Go functions told as Lean functions, each with the proof that a call answers just so. -/
import Derived.Test.YtiokdkhhffngiaaDoorPCapsuleCutsx0
import Derived.Test.YtiokdkhhffngiaaDoorPCapsuleCutsx1
namespace Go.Proofs.YtiokdkhhffngiaaDoor.PCapsuleCuts
open Go.Proofs.YtiokdkhhffngiaaDoor.Hand
open Go.RowKit Go.Proofs.YtiokdkhhffngiaaDoorW.PrintWords Go.Proofs.YtiokdkhhffngiaaDoorW.PrintLast Go.Proofs.YtiokdkhhffngiaaDoorW.PrintMore
attribute [local go_sem] max2_int min2_int max_two min_two max_three min_three max_four min_four   -- for this text's walks alone
set_option linter.unusedVariables false
set_option linter.unusedSimpArgs false

end Go.Proofs.YtiokdkhhffngiaaDoor.PCapsuleCuts

/- What the row of CapsuleGrams gives of its arguments. -/
import Derived.Test.YtiokdkhhffngiaaDoorRows
import Derived.Test.YtiokdkhhffngiaaDoorOpen
import Derived.Test.YtiokdkhhffngiaaDoorPCapsuleGramsx
namespace Go.Proofs.YtiokdkhhffngiaaDoor.PCapsuleGrams
open Go.RowKit Go.Proofs.YtiokdkhhffngiaaDoorW.PrintWords Go.Proofs.YtiokdkhhffngiaaDoor.Opening
set_option linter.unusedVariables false
end Go.Proofs.YtiokdkhhffngiaaDoor.PCapsuleGrams

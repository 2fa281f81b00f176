/-
  DERIVED. GIVEN WITH THE SEED: THE CARDS: each row of YtiokdkhhffngiaaDoorRows.lean that lists a variable, with what it lists TIED to the program's text (the seventh form; the later family's looks); each row that meets fmt, with fmt's text TOLD by the authors' own Lean function (tested against real Go, not proved from fmt's source: count such statements apart). THE CARD IS WHAT COUNTS. Prove the row's statement (the work); the ties are given (YtiokdkhhffngiaaDoorTie.lean); close each card by the builder's one call (the guide's Derived/Test/ToyasCard.lean, 'card_holds'). Laid BY PROGRAM, IN A SANDBOX (cutbox-door.mjs). By AI agents, Wed Nov 11 2026. No macro, syntax, notation, axiom, sorry.
-/
import Derived.Test.YtiokdkhhffngiaaDoorRows
import GoSem.ClaimSeven
namespace Go.Proofs.YtiokdkhhffngiaaDoor
namespace Rows

/-- THE TIED CARD OF 'vizardlaw16.CapsuleCuts'. -/
def capsuleCutsCard : Claim7 := { stood := { row := capsuleCutsRow, standIns := [], harness := (true, "365edf72ac8104699608e7d991dce2d752047eb87574adcdbc5791684f773397"), looks := false }, kinds := [], alts := [], laidByText := true, laidKinds := [.data], laidTests := true, laidLooks := .later }
def CapsuleCutsCardSaid : Prop := Claim7.holds Tryd.pinned (.plain (OpenSpec.ofChange capsuleCutsSpec)) capsuleCutsCard

/-- THE TIED CARD OF 'vizardlaw16.CapsuleGrams'. -/
def capsuleGramsCard : Claim7 := { stood := { row := capsuleGramsRow, standIns := [], harness := (true, "365edf72ac8104699608e7d991dce2d752047eb87574adcdbc5791684f773397"), looks := false }, kinds := [], alts := [], laidByText := true, laidKinds := [.data], laidTests := true, laidLooks := .later }
def CapsuleGramsCardSaid : Prop := Claim7.holds Tryd.pinned (.plain (OpenSpec.ofChange capsuleGramsSpec)) capsuleGramsCard

/-- THE TIED CARD OF 'vizardlaw16.CapsuleSays'. -/
def capsuleSaysCard : Claim7 := { stood := { row := capsuleSaysRow, standIns := [], harness := (true, "365edf72ac8104699608e7d991dce2d752047eb87574adcdbc5791684f773397"), looks := false }, kinds := [], alts := [], laidByText := true, laidKinds := [.data], laidTests := true, laidLooks := .later }
def CapsuleSaysCardSaid : Prop := Claim7.holds Tryd.pinned (.plain (OpenSpec.ofChange capsuleSaysSpec)) capsuleSaysCard

/-- THE TIED CARD OF 'vizardlaw16.CapsuleBack'. -/
def capsuleBackCard : Claim7 := { stood := { row := capsuleBackRow, standIns := [], harness := (true, "365edf72ac8104699608e7d991dce2d752047eb87574adcdbc5791684f773397"), looks := false }, kinds := [], alts := [], laidByText := true, laidKinds := [.data], laidTests := true, laidLooks := .later }
def CapsuleBackCardSaid : Prop := Claim7.holds Tryd.pinned (.plain (OpenSpec.ofChange capsuleBackSpec)) capsuleBackCard

/-- THE SECOND FORM's CARD OF 'vizardlaw16.CapsuleCuts'. -/
def capsuleCutsUptoCard : Claim7 := { stood := { row := capsuleCutsUptoRow, standIns := [], harness := (true, "365edf72ac8104699608e7d991dce2d752047eb87574adcdbc5791684f773397"), looks := false }, kinds := [], alts := [], laidByText := true, laidKinds := [.data], laidTests := true, laidLooks := .later }
def CapsuleCutsUptoCardSaid : Prop := Claim7.holds Tryd.pinned (.plain (OpenSpec.upto capsuleCutsSpec)) capsuleCutsUptoCard

/-- THE SECOND FORM's CARD OF 'vizardlaw16.CapsuleGrams'. -/
def capsuleGramsUptoCard : Claim7 := { stood := { row := capsuleGramsUptoRow, standIns := [], harness := (true, "365edf72ac8104699608e7d991dce2d752047eb87574adcdbc5791684f773397"), looks := false }, kinds := [], alts := [], laidByText := true, laidKinds := [.data], laidTests := true, laidLooks := .later }
def CapsuleGramsUptoCardSaid : Prop := Claim7.holds Tryd.pinned (.plain (OpenSpec.upto capsuleGramsSpec)) capsuleGramsUptoCard

/-- THE SECOND FORM's CARD OF 'vizardlaw16.CapsuleSays'. -/
def capsuleSaysUptoCard : Claim7 := { stood := { row := capsuleSaysUptoRow, standIns := [], harness := (true, "365edf72ac8104699608e7d991dce2d752047eb87574adcdbc5791684f773397"), looks := false }, kinds := [], alts := [], laidByText := true, laidKinds := [.data], laidTests := true, laidLooks := .later }
def CapsuleSaysUptoCardSaid : Prop := Claim7.holds Tryd.pinned (.plain (OpenSpec.upto capsuleSaysSpec)) capsuleSaysUptoCard

/-- THE SECOND FORM's CARD OF 'vizardlaw16.CapsuleBack'. -/
def capsuleBackUptoCard : Claim7 := { stood := { row := capsuleBackUptoRow, standIns := [], harness := (true, "365edf72ac8104699608e7d991dce2d752047eb87574adcdbc5791684f773397"), looks := false }, kinds := [], alts := [], laidByText := true, laidKinds := [.data], laidTests := true, laidLooks := .later }
def CapsuleBackUptoCardSaid : Prop := Claim7.holds Tryd.pinned (.plain (OpenSpec.upto capsuleBackSpec)) capsuleBackUptoCard
end Rows
end Go.Proofs.YtiokdkhhffngiaaDoor

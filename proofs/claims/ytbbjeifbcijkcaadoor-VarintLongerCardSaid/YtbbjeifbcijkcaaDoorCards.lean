/-
  DERIVED. GIVEN WITH THE SEED: THE CARDS: each row of YtbbjeifbcijkcaaDoorRows.lean that lists a variable, with what it lists TIED to the program's text (the seventh form; the later family's looks); each row that meets fmt, with fmt's text TOLD by the authors' own Lean function (tested against real Go, not proved from fmt's source: count such statements apart). THE CARD IS WHAT COUNTS. Prove the row's statement (the work); the ties are given (YtbbjeifbcijkcaaDoorTie.lean); close each card by the builder's one call (the guide's Derived/Test/ToyasCard.lean, 'card_holds'). Laid BY PROGRAM, IN A SANDBOX (cutbox-door.mjs). By AI agents, Wed Nov 11 2026. No macro, syntax, notation, axiom, sorry.
-/
import Derived.Test.YtbbjeifbcijkcaaDoorRows
import GoSem.ClaimSeven
namespace Go.Proofs.YtbbjeifbcijkcaaDoor
namespace Rows

/-- THE TIED CARD OF 'vizardlaw01.VarintGets'. -/
def varintGetsCard : Claim7 := { stood := { row := varintGetsRow, standIns := [], harness := (true, "287611b126caf45777c8ce4bcb6ffc3a40e2845966a7277acd672074a60ea4b9"), looks := false }, kinds := [], alts := [], laidByText := true, laidKinds := [.data], laidTests := true, laidLooks := .later }
def VarintGetsCardSaid : Prop := Claim7.holds Tryd.pinned (.plain (OpenSpec.ofChange varintGetsSpec)) varintGetsCard

/-- THE TIED CARD OF 'vizardlaw01.VarintPuts'. -/
def varintPutsCard : Claim7 := { stood := { row := varintPutsRow, standIns := [], harness := (true, "287611b126caf45777c8ce4bcb6ffc3a40e2845966a7277acd672074a60ea4b9"), looks := false }, kinds := [], alts := [], laidByText := true, laidKinds := [.data], laidTests := true, laidLooks := .later }
def VarintPutsCardSaid : Prop := Claim7.holds Tryd.pinned (.plain (OpenSpec.ofChange varintPutsSpec)) varintPutsCard

/-- THE TIED CARD OF 'vizardlaw01.VarintOrder'. -/
def varintOrderCard : Claim7 := { stood := { row := varintOrderRow, standIns := [], harness := (true, "287611b126caf45777c8ce4bcb6ffc3a40e2845966a7277acd672074a60ea4b9"), looks := false }, kinds := [], alts := [], laidByText := true, laidKinds := [.data], laidTests := true, laidLooks := .later }
def VarintOrderCardSaid : Prop := Claim7.holds Tryd.pinned (.plain (OpenSpec.ofChange varintOrderSpec)) varintOrderCard

/-- THE TIED CARD OF 'vizardlaw01.VarintLonger'. -/
def varintLongerCard : Claim7 := { stood := { row := varintLongerRow, standIns := [], harness := (true, "287611b126caf45777c8ce4bcb6ffc3a40e2845966a7277acd672074a60ea4b9"), looks := false }, kinds := [], alts := [], laidByText := true, laidKinds := [.data], laidTests := true, laidLooks := .later }
def VarintLongerCardSaid : Prop := Claim7.holds Tryd.pinned (.plain (OpenSpec.ofChange varintLongerSpec)) varintLongerCard

/-- THE TIED CARD OF 'vizardlaw01.VarintBack'. -/
def varintBackCard : Claim7 := { stood := { row := varintBackRow, standIns := [], harness := (true, "287611b126caf45777c8ce4bcb6ffc3a40e2845966a7277acd672074a60ea4b9"), looks := false }, kinds := [], alts := [], laidByText := true, laidKinds := [.data], laidTests := true, laidLooks := .later }
def VarintBackCardSaid : Prop := Claim7.holds Tryd.pinned (.plain (OpenSpec.ofChange varintBackSpec)) varintBackCard

/-- THE TIED CARD OF 'vizardlaw01.VarintTexts'. -/
def varintTextsCard : Claim7 := { stood := { row := varintTextsRow, standIns := [], harness := (true, "287611b126caf45777c8ce4bcb6ffc3a40e2845966a7277acd672074a60ea4b9"), looks := false }, kinds := [], alts := [], laidByText := true, laidKinds := [.data], laidTests := true, laidLooks := .later }
def VarintTextsCardSaid : Prop := Claim7.holds Tryd.pinned (.plain (OpenSpec.ofChange varintTextsSpec)) varintTextsCard

/-- THE SECOND FORM's CARD OF 'vizardlaw01.VarintGets'. -/
def varintGetsUptoCard : Claim7 := { stood := { row := varintGetsUptoRow, standIns := [], harness := (true, "287611b126caf45777c8ce4bcb6ffc3a40e2845966a7277acd672074a60ea4b9"), looks := false }, kinds := [], alts := [], laidByText := true, laidKinds := [.data], laidTests := true, laidLooks := .later }
def VarintGetsUptoCardSaid : Prop := Claim7.holds Tryd.pinned (.plain (OpenSpec.upto varintGetsSpec)) varintGetsUptoCard

/-- THE SECOND FORM's CARD OF 'vizardlaw01.VarintPuts'. -/
def varintPutsUptoCard : Claim7 := { stood := { row := varintPutsUptoRow, standIns := [], harness := (true, "287611b126caf45777c8ce4bcb6ffc3a40e2845966a7277acd672074a60ea4b9"), looks := false }, kinds := [], alts := [], laidByText := true, laidKinds := [.data], laidTests := true, laidLooks := .later }
def VarintPutsUptoCardSaid : Prop := Claim7.holds Tryd.pinned (.plain (OpenSpec.upto varintPutsSpec)) varintPutsUptoCard

/-- THE SECOND FORM's CARD OF 'vizardlaw01.VarintOrder'. -/
def varintOrderUptoCard : Claim7 := { stood := { row := varintOrderUptoRow, standIns := [], harness := (true, "287611b126caf45777c8ce4bcb6ffc3a40e2845966a7277acd672074a60ea4b9"), looks := false }, kinds := [], alts := [], laidByText := true, laidKinds := [.data], laidTests := true, laidLooks := .later }
def VarintOrderUptoCardSaid : Prop := Claim7.holds Tryd.pinned (.plain (OpenSpec.upto varintOrderSpec)) varintOrderUptoCard

/-- THE SECOND FORM's CARD OF 'vizardlaw01.VarintLonger'. -/
def varintLongerUptoCard : Claim7 := { stood := { row := varintLongerUptoRow, standIns := [], harness := (true, "287611b126caf45777c8ce4bcb6ffc3a40e2845966a7277acd672074a60ea4b9"), looks := false }, kinds := [], alts := [], laidByText := true, laidKinds := [.data], laidTests := true, laidLooks := .later }
def VarintLongerUptoCardSaid : Prop := Claim7.holds Tryd.pinned (.plain (OpenSpec.upto varintLongerSpec)) varintLongerUptoCard

/-- THE SECOND FORM's CARD OF 'vizardlaw01.VarintBack'. -/
def varintBackUptoCard : Claim7 := { stood := { row := varintBackUptoRow, standIns := [], harness := (true, "287611b126caf45777c8ce4bcb6ffc3a40e2845966a7277acd672074a60ea4b9"), looks := false }, kinds := [], alts := [], laidByText := true, laidKinds := [.data], laidTests := true, laidLooks := .later }
def VarintBackUptoCardSaid : Prop := Claim7.holds Tryd.pinned (.plain (OpenSpec.upto varintBackSpec)) varintBackUptoCard

/-- THE SECOND FORM's CARD OF 'vizardlaw01.VarintTexts'. -/
def varintTextsUptoCard : Claim7 := { stood := { row := varintTextsUptoRow, standIns := [], harness := (true, "287611b126caf45777c8ce4bcb6ffc3a40e2845966a7277acd672074a60ea4b9"), looks := false }, kinds := [], alts := [], laidByText := true, laidKinds := [.data], laidTests := true, laidLooks := .later }
def VarintTextsUptoCardSaid : Prop := Claim7.holds Tryd.pinned (.plain (OpenSpec.upto varintTextsSpec)) varintTextsUptoCard
end Rows
end Go.Proofs.YtbbjeifbcijkcaaDoor

/-
  DERIVED. GIVEN WITH THE SEED: THE CARDS: each row of YtnnmdocdiedgiaaDoorRows.lean that lists a variable, with what it lists TIED to the program's text (the seventh form; the later family's looks); each row that meets fmt, with fmt's text TOLD by the authors' own Lean function (tested against real Go, not proved from fmt's source: count such statements apart). THE CARD IS WHAT COUNTS. Prove the row's statement (the work); the ties are given (YtnnmdocdiedgiaaDoorTie.lean); close each card by the builder's one call (the guide's Derived/Test/ToyasCard.lean, 'card_holds'). Laid BY PROGRAM, IN A SANDBOX (cutbox-door.mjs). By AI agents, Wed Nov 11 2026. No macro, syntax, notation, axiom, sorry.
-/
import Derived.Test.YtnnmdocdiedgiaaDoorRows
import GoSem.ClaimSeven
namespace Go.Proofs.YtnnmdocdiedgiaaDoor
namespace Rows

/-- THE TIED CARD OF 'vizardlaw15.H3Writes'. -/
def h3WritesCard : Claim7 := { stood := { row := h3WritesRow, standIns := [], harness := (true, "af22a6d75e4c0e41a8b7d93a3e6f6713ccc676251b7263cf757d674dde0a4a61"), looks := false }, kinds := [], alts := [], laidByText := true, laidKinds := [.data], laidTests := true, laidLooks := .later }
def H3WritesCardSaid : Prop := Claim7.holds Tryd.pinned (.plain (OpenSpec.ofChange h3WritesSpec)) h3WritesCard

/-- THE TIED CARD OF 'vizardlaw15.H3Cuts'. -/
def h3CutsCard : Claim7 := { stood := { row := h3CutsRow, standIns := [], harness := (true, "af22a6d75e4c0e41a8b7d93a3e6f6713ccc676251b7263cf757d674dde0a4a61"), looks := false }, kinds := [], alts := [], laidByText := true, laidKinds := [.data], laidTests := true, laidLooks := .later }
def H3CutsCardSaid : Prop := Claim7.holds Tryd.pinned (.plain (OpenSpec.ofChange h3CutsSpec)) h3CutsCard

/-- THE TIED CARD OF 'vizardlaw15.H3Back'. -/
def h3BackCard : Claim7 := { stood := { row := h3BackRow, standIns := [], harness := (true, "af22a6d75e4c0e41a8b7d93a3e6f6713ccc676251b7263cf757d674dde0a4a61"), looks := false }, kinds := [], alts := [], laidByText := true, laidKinds := [.data], laidTests := true, laidLooks := .later }
def H3BackCardSaid : Prop := Claim7.holds Tryd.pinned (.plain (OpenSpec.ofChange h3BackSpec)) h3BackCard

/-- THE TIED CARD OF 'vizardlaw15.H3Strange'. -/
def h3StrangeCard : Claim7 := { stood := { row := h3StrangeRow, standIns := [], harness := (true, "af22a6d75e4c0e41a8b7d93a3e6f6713ccc676251b7263cf757d674dde0a4a61"), looks := false }, kinds := [], alts := [], laidByText := true, laidKinds := [.data], laidTests := true, laidLooks := .later }
def H3StrangeCardSaid : Prop := Claim7.holds Tryd.pinned (.plain (OpenSpec.ofChange h3StrangeSpec)) h3StrangeCard

/-- THE TIED CARD OF 'vizardlaw15.H3Faults'. -/
def h3FaultsCard : Claim7 := { stood := { row := h3FaultsRow, standIns := [], harness := (true, "af22a6d75e4c0e41a8b7d93a3e6f6713ccc676251b7263cf757d674dde0a4a61"), looks := false }, kinds := [], alts := [], laidByText := true, laidKinds := [.data], laidTests := true, laidLooks := .later }
def H3FaultsCardSaid : Prop := Claim7.holds Tryd.pinned (.plain (OpenSpec.ofChange h3FaultsSpec)) h3FaultsCard

/-- THE SECOND FORM's CARD OF 'vizardlaw15.H3Writes'. -/
def h3WritesUptoCard : Claim7 := { stood := { row := h3WritesUptoRow, standIns := [], harness := (true, "af22a6d75e4c0e41a8b7d93a3e6f6713ccc676251b7263cf757d674dde0a4a61"), looks := false }, kinds := [], alts := [], laidByText := true, laidKinds := [.data], laidTests := true, laidLooks := .later }
def H3WritesUptoCardSaid : Prop := Claim7.holds Tryd.pinned (.plain (OpenSpec.upto h3WritesSpec)) h3WritesUptoCard

/-- THE SECOND FORM's CARD OF 'vizardlaw15.H3Cuts'. -/
def h3CutsUptoCard : Claim7 := { stood := { row := h3CutsUptoRow, standIns := [], harness := (true, "af22a6d75e4c0e41a8b7d93a3e6f6713ccc676251b7263cf757d674dde0a4a61"), looks := false }, kinds := [], alts := [], laidByText := true, laidKinds := [.data], laidTests := true, laidLooks := .later }
def H3CutsUptoCardSaid : Prop := Claim7.holds Tryd.pinned (.plain (OpenSpec.upto h3CutsSpec)) h3CutsUptoCard

/-- THE SECOND FORM's CARD OF 'vizardlaw15.H3Back'. -/
def h3BackUptoCard : Claim7 := { stood := { row := h3BackUptoRow, standIns := [], harness := (true, "af22a6d75e4c0e41a8b7d93a3e6f6713ccc676251b7263cf757d674dde0a4a61"), looks := false }, kinds := [], alts := [], laidByText := true, laidKinds := [.data], laidTests := true, laidLooks := .later }
def H3BackUptoCardSaid : Prop := Claim7.holds Tryd.pinned (.plain (OpenSpec.upto h3BackSpec)) h3BackUptoCard

/-- THE SECOND FORM's CARD OF 'vizardlaw15.H3Strange'. -/
def h3StrangeUptoCard : Claim7 := { stood := { row := h3StrangeUptoRow, standIns := [], harness := (true, "af22a6d75e4c0e41a8b7d93a3e6f6713ccc676251b7263cf757d674dde0a4a61"), looks := false }, kinds := [], alts := [], laidByText := true, laidKinds := [.data], laidTests := true, laidLooks := .later }
def H3StrangeUptoCardSaid : Prop := Claim7.holds Tryd.pinned (.plain (OpenSpec.upto h3StrangeSpec)) h3StrangeUptoCard

/-- THE SECOND FORM's CARD OF 'vizardlaw15.H3Faults'. -/
def h3FaultsUptoCard : Claim7 := { stood := { row := h3FaultsUptoRow, standIns := [], harness := (true, "af22a6d75e4c0e41a8b7d93a3e6f6713ccc676251b7263cf757d674dde0a4a61"), looks := false }, kinds := [], alts := [], laidByText := true, laidKinds := [.data], laidTests := true, laidLooks := .later }
def H3FaultsUptoCardSaid : Prop := Claim7.holds Tryd.pinned (.plain (OpenSpec.upto h3FaultsSpec)) h3FaultsUptoCard
end Rows
end Go.Proofs.YtnnmdocdiedgiaaDoor

/-
  No cell of these rows narrows 'for every input' (looked for: loops, veiled, ifaces, maps, wideKeys, modest, calm, conditions, laid).
  DERIVED. THE GIVEN ROWS OF THIS SEAT. 4 by the template 'for every input the law returns true; each argument reads behind the call as it read before'; 0 by the template 'total and deterministic' (their statements: YtkadeigcblmcaaaTotals.lean).
  GIVEN WITH THE SEED: the statements are not yours to turn. If you find one false, say at which input.
  Laid BY PROGRAM, IN A SANDBOX (cutbox-rows.mjs): the forced cells as the released guide's own fill.sh prints them over the translation fd32c9fc66a751ea… (all of the seat's roots in one cut). By AI agents, Wed Nov 11 2026. No macro, syntax, notation, axiom, sorry.
-/
import Derived.Test.YtkadeigcblmcaaaChecked
import GoSem.Claim
import GoSem.ClaimJoined
import GoSem.ClaimMapViews
import Derived.JoinedTies
import Derived.KernelRfl
namespace Go.Proofs.Ytkadeigcblmcaaa
/- THE CELL 'sum', in the pinned program and in every row, IS THE sha256 OF THE DUMP (.gsa) THAT YtkadeigcblmcaaaProg.lean LOADS. Nothing in Lean hashes anything: it is a label: what it is worth is what the hold of that sum in a sandbox is worth. -/
noncomputable def Try.pinned : Pinned := { name := "ytkadeigcblmcaaa", sum := "fd32c9fc66a751ea64d9e8ac7d17280c2ad6b9f649353100569727944ff72bbd", checked := Try.checked }
namespace Rows
def none {H : Type} : Left H := { results := [], args := [] }

/-- 'vizardlaw21.SlotsTells': WHATEVER THE INPUT: true; the input reads as it did. -/
def slotsTellsSpec : ChangeSpec := { name := "slotsTells", fn := fun _ => fun
  | [d1, d2, d3, d4] => { results := [.lit (.bool true)], args := [d1, d2, d3, d4] }
  | _ => none }
def slotsTellsRow : OpenClaim := { program := "ytkadeigcblmcaaa", sum := "fd32c9fc66a751ea64d9e8ac7d17280c2ad6b9f649353100569727944ff72bbd", func := "vizard/vizardlaw21.SlotsTells", spec := "slotsTells", apart := false }
def SlotsTellsSaid : Prop := slotsTellsRow.holds Try.pinned (OpenSpec.ofChange slotsTellsSpec)

/-- ITS FALSE NEIGHBOUR: 'it returns false'. Refute it at one input. -/
def slotsTellsWrong : ChangeSpec := { name := "slotsTells", fn := fun _ => fun
  | [d1, d2, d3, d4] => { results := [.lit (.bool false)], args := [d1, d2, d3, d4] }
  | _ => none }
def SlotsTellsWrongFalsely : Prop := slotsTellsRow.holds Try.pinned (OpenSpec.ofChange slotsTellsWrong)

/-- 'vizardlaw21.SlotsWait': WHATEVER THE INPUT: true; the input reads as it did. -/
def slotsWaitSpec : ChangeSpec := { name := "slotsWait", fn := fun _ => fun
  | [d1, d2, d3] => { results := [.lit (.bool true)], args := [d1, d2, d3] }
  | _ => none }
def slotsWaitRow : OpenClaim := { program := "ytkadeigcblmcaaa", sum := "fd32c9fc66a751ea64d9e8ac7d17280c2ad6b9f649353100569727944ff72bbd", func := "vizard/vizardlaw21.SlotsWait", spec := "slotsWait", apart := false }
def SlotsWaitSaid : Prop := slotsWaitRow.holds Try.pinned (OpenSpec.ofChange slotsWaitSpec)

/-- ITS FALSE NEIGHBOUR: 'it returns false'. Refute it at one input. -/
def slotsWaitWrong : ChangeSpec := { name := "slotsWait", fn := fun _ => fun
  | [d1, d2, d3] => { results := [.lit (.bool false)], args := [d1, d2, d3] }
  | _ => none }
def SlotsWaitWrongFalsely : Prop := slotsWaitRow.holds Try.pinned (OpenSpec.ofChange slotsWaitWrong)

/-- 'vizardlaw21.SlotsClasses': WHATEVER THE INPUT: true; the input reads as it did. -/
def slotsClassesSpec : ChangeSpec := { name := "slotsClasses", fn := fun _ => fun
  | [d1, d2] => { results := [.lit (.bool true)], args := [d1, d2] }
  | _ => none }
def slotsClassesRow : OpenClaim := { program := "ytkadeigcblmcaaa", sum := "fd32c9fc66a751ea64d9e8ac7d17280c2ad6b9f649353100569727944ff72bbd", func := "vizard/vizardlaw21.SlotsClasses", spec := "slotsClasses", apart := false }
def SlotsClassesSaid : Prop := slotsClassesRow.holds Try.pinned (OpenSpec.ofChange slotsClassesSpec)

/-- ITS FALSE NEIGHBOUR: 'it returns false'. Refute it at one input. -/
def slotsClassesWrong : ChangeSpec := { name := "slotsClasses", fn := fun _ => fun
  | [d1, d2] => { results := [.lit (.bool false)], args := [d1, d2] }
  | _ => none }
def SlotsClassesWrongFalsely : Prop := slotsClassesRow.holds Try.pinned (OpenSpec.ofChange slotsClassesWrong)

/-- 'vizardlaw21.SlotsCounts': WHATEVER THE INPUT: true; the input reads as it did. -/
def slotsCountsSpec : ChangeSpec := { name := "slotsCounts", fn := fun _ => fun
  | [d1, d2, d3] => { results := [.lit (.bool true)], args := [d1, d2, d3] }
  | _ => none }
def slotsCountsRow : OpenClaim := { program := "ytkadeigcblmcaaa", sum := "fd32c9fc66a751ea64d9e8ac7d17280c2ad6b9f649353100569727944ff72bbd", func := "vizard/vizardlaw21.SlotsCounts", spec := "slotsCounts", apart := false }
def SlotsCountsSaid : Prop := slotsCountsRow.holds Try.pinned (OpenSpec.ofChange slotsCountsSpec)

/-- ITS FALSE NEIGHBOUR: 'it returns false'. Refute it at one input. -/
def slotsCountsWrong : ChangeSpec := { name := "slotsCounts", fn := fun _ => fun
  | [d1, d2, d3] => { results := [.lit (.bool false)], args := [d1, d2, d3] }
  | _ => none }
def SlotsCountsWrongFalsely : Prop := slotsCountsRow.holds Try.pinned (OpenSpec.ofChange slotsCountsWrong)

/- THE SECOND FORM. 'bulk': how many values and letters a reading holds, each counted each time it is reached (what is shared counts as often as it is met; a slice's spare places count too). A statement '..UptoSaid' is the law's where the arguments, and the package variables that the reading takes, are together of bulk at most 1048576: NARROWER than '..Said'. Prove '..Said' where nothing that the law and all that it calls make is longer than what came in: it says more and counts as full. Else prove '..UptoSaid'. A law counts once. -/
mutual
def uptoBulk {H : Type} : DataW H → Nat
  | .lit (.string bytes) => bytes.length + 1
  | .lit _ => 1
  | .nil => 1
  | .ptr d => uptoBulk d + 1
  | .slice elems spare => uptoBulkAll elems + uptoBulkAll spare + 1
  | .agg parts => uptoBulkAll parts + 1
  | .iface _ d => uptoBulk d + 1
  | .map entries => uptoBulkEntries entries + 1
  | .held _ => 1
def uptoBulkAll {H : Type} : List (DataW H) → Nat
  | [] => 0
  | d :: r => uptoBulk d + uptoBulkAll r
def uptoBulkEntries {H : Type} : List (Lit × DataW H) → Nat
  | [] => 0
  | x :: r => uptoBulkEntry x + uptoBulkEntries r
def uptoBulkEntry {H : Type} : Lit × DataW H → Nat
  | (.string bytes, d) => bytes.length + uptoBulk d + 1
  | (_, d) => uptoBulk d + 1
 end
def uptoSmall : (H : Type) → List (DataW H) → Bool := fun _ ds => decide (uptoBulkAll ds ≤ 1048576)
def OpenSpec.upto (s : _root_.Go.ChangeSpec) : _root_.Go.OpenSpec := { _root_.Go.OpenSpec.ofChange s with cond := some uptoSmall }

/-- 'vizardlaw21.SlotsTells', WHERE WHAT IT READS IS OF BULK AT MOST 1048576: true; the input reads as it did. -/
def slotsTellsUptoRow : OpenClaim := { program := "ytkadeigcblmcaaa", sum := "fd32c9fc66a751ea64d9e8ac7d17280c2ad6b9f649353100569727944ff72bbd", func := "vizard/vizardlaw21.SlotsTells", spec := "slotsTells", apart := false, narrowed := true }
def SlotsTellsUptoSaid : Prop := slotsTellsUptoRow.holds Try.pinned (OpenSpec.upto slotsTellsSpec)

/-- 'vizardlaw21.SlotsWait', WHERE WHAT IT READS IS OF BULK AT MOST 1048576: true; the input reads as it did. -/
def slotsWaitUptoRow : OpenClaim := { program := "ytkadeigcblmcaaa", sum := "fd32c9fc66a751ea64d9e8ac7d17280c2ad6b9f649353100569727944ff72bbd", func := "vizard/vizardlaw21.SlotsWait", spec := "slotsWait", apart := false, narrowed := true }
def SlotsWaitUptoSaid : Prop := slotsWaitUptoRow.holds Try.pinned (OpenSpec.upto slotsWaitSpec)

/-- 'vizardlaw21.SlotsClasses', WHERE WHAT IT READS IS OF BULK AT MOST 1048576: true; the input reads as it did. -/
def slotsClassesUptoRow : OpenClaim := { program := "ytkadeigcblmcaaa", sum := "fd32c9fc66a751ea64d9e8ac7d17280c2ad6b9f649353100569727944ff72bbd", func := "vizard/vizardlaw21.SlotsClasses", spec := "slotsClasses", apart := false, narrowed := true }
def SlotsClassesUptoSaid : Prop := slotsClassesUptoRow.holds Try.pinned (OpenSpec.upto slotsClassesSpec)

/-- 'vizardlaw21.SlotsCounts', WHERE WHAT IT READS IS OF BULK AT MOST 1048576: true; the input reads as it did. -/
def slotsCountsUptoRow : OpenClaim := { program := "ytkadeigcblmcaaa", sum := "fd32c9fc66a751ea64d9e8ac7d17280c2ad6b9f649353100569727944ff72bbd", func := "vizard/vizardlaw21.SlotsCounts", spec := "slotsCounts", apart := false, narrowed := true }
def SlotsCountsUptoSaid : Prop := slotsCountsUptoRow.holds Try.pinned (OpenSpec.upto slotsCountsSpec)

end Rows
end Go.Proofs.Ytkadeigcblmcaaa

/-
  NARROWER THAN 'FOR EVERY INPUT', by the rows' own cells (each row's printed sentence says how): CapsuleCuts: laid · CapsuleGrams: laid · CapsuleSays: laid · CapsuleBack: laid.
  DERIVED. THE GIVEN ROWS OF THIS SEAT. 4 by the template 'for every input the law returns true; each argument reads behind the call as it read before'; 0 by the template 'total and deterministic' (their statements: YtiokdkhhffngiaaDoorTotals.lean).
  GIVEN WITH THE SEED: the statements are not yours to turn. If you find one false, say at which input.
  Laid BY PROGRAM, IN A SANDBOX (cutbox-rows.mjs): the forced cells as the released guide's own fill.sh prints them over the translation a80903e0e241aa00… (all of the seat's roots in one cut). By AI agents, Wed Nov 11 2026. No macro, syntax, notation, axiom, sorry.
-/
import Derived.Test.YtiokdkhhffngiaaDoorChecked
import GoSem.Claim
import GoSem.ClaimJoined
import GoSem.ClaimMapViews
import Derived.JoinedTies
import Derived.KernelRfl
namespace Go.Proofs.YtiokdkhhffngiaaDoor
/- THE CELL 'sum', in the pinned program and in every row, IS THE sha256 OF THE DUMP (.gsa) THAT YtiokdkhhffngiaaDoorProg.lean LOADS. Nothing in Lean hashes anything: it is a label: what it is worth is what the hold of that sum in a sandbox is worth. -/
noncomputable def Tryd.pinned : Pinned := { name := "ytiokdkhhffngiaadoor", sum := "a80903e0e241aa00332e400b5f8c8962a0ccdf20176f03108982060d22e5fa8e", checked := Tryd.checked }
namespace Rows
def none {H : Type} : Left H := { results := [], args := [] }

/- WHAT THE LISTED PACKAGE-LEVEL VARIABLES READ AS WHEN THE CALL BEGINS. Each datum BY PROGRAM (the guide's laid-datum.mjs) off the statement by which the dump's own 'gosem.cut.vars' lays the variable. In a bare row this is a premise. The card (YtiokdkhhffngiaaDoorCards.lean) ties it to the program's text. -/
def laid_vizard_varint_sizes {H : Type} : DataW H := .agg [.lit (.int .i64 1), .lit (.int .i64 2), .lit (.int .i64 4), .lit (.int .i64 8)]

/-- 'vizardlaw16.CapsuleCuts': WHATEVER THE INPUT: true; the input reads as it did. -/
def capsuleCutsSpec : ChangeSpec := { name := "capsuleCuts", fn := fun _ => fun
  | [d1, d2] => { results := [.lit (.bool true)], args := [d1, d2] }
  | _ => none }
def capsuleCutsRow : OpenClaim := { program := "ytiokdkhhffngiaadoor", sum := "a80903e0e241aa00332e400b5f8c8962a0ccdf20176f03108982060d22e5fa8e", func := "vizard/vizardlaw16.CapsuleCuts", spec := "capsuleCuts", named := ["vizard/varint.sizes"], apart := false, laid := [("vizard/varint.sizes", laid_vizard_varint_sizes)] }
def CapsuleCutsSaid : Prop := capsuleCutsRow.holds Tryd.pinned (OpenSpec.ofChange capsuleCutsSpec)

/-- ITS FALSE NEIGHBOUR: 'it returns false'. Refute it at one input. -/
def capsuleCutsWrong : ChangeSpec := { name := "capsuleCuts", fn := fun _ => fun
  | [d1, d2] => { results := [.lit (.bool false)], args := [d1, d2] }
  | _ => none }
def CapsuleCutsWrongFalsely : Prop := capsuleCutsRow.holds Tryd.pinned (OpenSpec.ofChange capsuleCutsWrong)

/-- 'vizardlaw16.CapsuleGrams': WHATEVER THE INPUT: true; the input reads as it did. -/
def capsuleGramsSpec : ChangeSpec := { name := "capsuleGrams", fn := fun _ => fun
  | [d1, d2, d3] => { results := [.lit (.bool true)], args := [d1, d2, d3] }
  | _ => none }
def capsuleGramsRow : OpenClaim := { program := "ytiokdkhhffngiaadoor", sum := "a80903e0e241aa00332e400b5f8c8962a0ccdf20176f03108982060d22e5fa8e", func := "vizard/vizardlaw16.CapsuleGrams", spec := "capsuleGrams", named := ["vizard/varint.sizes"], apart := false, laid := [("vizard/varint.sizes", laid_vizard_varint_sizes)] }
def CapsuleGramsSaid : Prop := capsuleGramsRow.holds Tryd.pinned (OpenSpec.ofChange capsuleGramsSpec)

/-- ITS FALSE NEIGHBOUR: 'it returns false'. Refute it at one input. -/
def capsuleGramsWrong : ChangeSpec := { name := "capsuleGrams", fn := fun _ => fun
  | [d1, d2, d3] => { results := [.lit (.bool false)], args := [d1, d2, d3] }
  | _ => none }
def CapsuleGramsWrongFalsely : Prop := capsuleGramsRow.holds Tryd.pinned (OpenSpec.ofChange capsuleGramsWrong)

/-- 'vizardlaw16.CapsuleSays': WHATEVER THE INPUT: true; the input reads as it did. -/
def capsuleSaysSpec : ChangeSpec := { name := "capsuleSays", fn := fun _ => fun
  | [d1, d2, d3, d4, d5] => { results := [.lit (.bool true)], args := [d1, d2, d3, d4, d5] }
  | _ => none }
def capsuleSaysRow : OpenClaim := { program := "ytiokdkhhffngiaadoor", sum := "a80903e0e241aa00332e400b5f8c8962a0ccdf20176f03108982060d22e5fa8e", func := "vizard/vizardlaw16.CapsuleSays", spec := "capsuleSays", inPlace := ["internal/abi.NoEscape"], unfollowed := true, recurses := true, named := ["vizard/varint.sizes"], apart := false, laid := [("vizard/varint.sizes", laid_vizard_varint_sizes)] }
def CapsuleSaysSaid : Prop := capsuleSaysRow.holds Tryd.pinned (OpenSpec.ofChange capsuleSaysSpec)

/-- ITS FALSE NEIGHBOUR: 'it returns false'. Refute it at one input. -/
def capsuleSaysWrong : ChangeSpec := { name := "capsuleSays", fn := fun _ => fun
  | [d1, d2, d3, d4, d5] => { results := [.lit (.bool false)], args := [d1, d2, d3, d4, d5] }
  | _ => none }
def CapsuleSaysWrongFalsely : Prop := capsuleSaysRow.holds Tryd.pinned (OpenSpec.ofChange capsuleSaysWrong)

/-- 'vizardlaw16.CapsuleBack': WHATEVER THE INPUT: true; the input reads as it did. -/
def capsuleBackSpec : ChangeSpec := { name := "capsuleBack", fn := fun _ => fun
  | [d1, d2, d3, d4, d5] => { results := [.lit (.bool true)], args := [d1, d2, d3, d4, d5] }
  | _ => none }
def capsuleBackRow : OpenClaim := { program := "ytiokdkhhffngiaadoor", sum := "a80903e0e241aa00332e400b5f8c8962a0ccdf20176f03108982060d22e5fa8e", func := "vizard/vizardlaw16.CapsuleBack", spec := "capsuleBack", inPlace := ["internal/abi.NoEscape"], unfollowed := true, recurses := true, named := ["vizard/varint.sizes"], apart := false, laid := [("vizard/varint.sizes", laid_vizard_varint_sizes)] }
def CapsuleBackSaid : Prop := capsuleBackRow.holds Tryd.pinned (OpenSpec.ofChange capsuleBackSpec)

/-- ITS FALSE NEIGHBOUR: 'it returns false'. Refute it at one input. -/
def capsuleBackWrong : ChangeSpec := { name := "capsuleBack", fn := fun _ => fun
  | [d1, d2, d3, d4, d5] => { results := [.lit (.bool false)], args := [d1, d2, d3, d4, d5] }
  | _ => none }
def CapsuleBackWrongFalsely : Prop := capsuleBackRow.holds Tryd.pinned (OpenSpec.ofChange capsuleBackWrong)

/- THE SECOND FORM. 'bulk': how many values and letters a reading holds, each counted each time it is reached (what is shared counts as often as it is met; a slice's spare places count too). A statement '..UptoSaid' is the law's where the arguments, and the package variables that the reading takes, are together of bulk at most 1048576: NARROWER than '..Said'. Prove '..Said' where nothing that the law and all that it calls make is longer than what came in: it says more and counts as full. Else prove '..UptoSaid'. A law counts once. -/
mutual
def uptoBulk {H : Type} : DataW H → Nat
  | .lit (.string bytes) => bytes.length + 1
  | .lit _ => 1
  | .nil => 1
  | .ptr d => uptoBulk d + 1
  | .slice elems spare => uptoBulkAll elems + uptoBulkAll spare + 1
  | .agg parts => uptoBulkAll parts + 1
  | .iface _ d => uptoBulk d + 1
  | .map entries => uptoBulkEntries entries + 1
  | .held _ => 1
def uptoBulkAll {H : Type} : List (DataW H) → Nat
  | [] => 0
  | d :: r => uptoBulk d + uptoBulkAll r
def uptoBulkEntries {H : Type} : List (Lit × DataW H) → Nat
  | [] => 0
  | x :: r => uptoBulkEntry x + uptoBulkEntries r
def uptoBulkEntry {H : Type} : Lit × DataW H → Nat
  | (.string bytes, d) => bytes.length + uptoBulk d + 1
  | (_, d) => uptoBulk d + 1
 end
def uptoSmall : (H : Type) → List (DataW H) → Bool := fun _ ds => decide (uptoBulkAll ds ≤ 1048576)
def OpenSpec.upto (s : _root_.Go.ChangeSpec) : _root_.Go.OpenSpec := { _root_.Go.OpenSpec.ofChange s with cond := some uptoSmall }

/-- 'vizardlaw16.CapsuleCuts', WHERE WHAT IT READS IS OF BULK AT MOST 1048576: true; the input reads as it did. -/
def capsuleCutsUptoRow : OpenClaim := { program := "ytiokdkhhffngiaadoor", sum := "a80903e0e241aa00332e400b5f8c8962a0ccdf20176f03108982060d22e5fa8e", func := "vizard/vizardlaw16.CapsuleCuts", spec := "capsuleCuts", named := ["vizard/varint.sizes"], apart := false, laid := [("vizard/varint.sizes", laid_vizard_varint_sizes)], narrowed := true }
def CapsuleCutsUptoSaid : Prop := capsuleCutsUptoRow.holds Tryd.pinned (OpenSpec.upto capsuleCutsSpec)

/-- 'vizardlaw16.CapsuleGrams', WHERE WHAT IT READS IS OF BULK AT MOST 1048576: true; the input reads as it did. -/
def capsuleGramsUptoRow : OpenClaim := { program := "ytiokdkhhffngiaadoor", sum := "a80903e0e241aa00332e400b5f8c8962a0ccdf20176f03108982060d22e5fa8e", func := "vizard/vizardlaw16.CapsuleGrams", spec := "capsuleGrams", named := ["vizard/varint.sizes"], apart := false, laid := [("vizard/varint.sizes", laid_vizard_varint_sizes)], narrowed := true }
def CapsuleGramsUptoSaid : Prop := capsuleGramsUptoRow.holds Tryd.pinned (OpenSpec.upto capsuleGramsSpec)

/-- 'vizardlaw16.CapsuleSays', WHERE WHAT IT READS IS OF BULK AT MOST 1048576: true; the input reads as it did. -/
def capsuleSaysUptoRow : OpenClaim := { program := "ytiokdkhhffngiaadoor", sum := "a80903e0e241aa00332e400b5f8c8962a0ccdf20176f03108982060d22e5fa8e", func := "vizard/vizardlaw16.CapsuleSays", spec := "capsuleSays", inPlace := ["internal/abi.NoEscape"], unfollowed := true, recurses := true, named := ["vizard/varint.sizes"], apart := false, laid := [("vizard/varint.sizes", laid_vizard_varint_sizes)], narrowed := true }
def CapsuleSaysUptoSaid : Prop := capsuleSaysUptoRow.holds Tryd.pinned (OpenSpec.upto capsuleSaysSpec)

/-- 'vizardlaw16.CapsuleBack', WHERE WHAT IT READS IS OF BULK AT MOST 1048576: true; the input reads as it did. -/
def capsuleBackUptoRow : OpenClaim := { program := "ytiokdkhhffngiaadoor", sum := "a80903e0e241aa00332e400b5f8c8962a0ccdf20176f03108982060d22e5fa8e", func := "vizard/vizardlaw16.CapsuleBack", spec := "capsuleBack", inPlace := ["internal/abi.NoEscape"], unfollowed := true, recurses := true, named := ["vizard/varint.sizes"], apart := false, laid := [("vizard/varint.sizes", laid_vizard_varint_sizes)], narrowed := true }
def CapsuleBackUptoSaid : Prop := capsuleBackUptoRow.holds Tryd.pinned (OpenSpec.upto capsuleBackSpec)

end Rows
end Go.Proofs.YtiokdkhhffngiaaDoor

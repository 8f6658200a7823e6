/-
  NARROWER THAN 'FOR EVERY INPUT', by the rows' own cells (each row's printed sentence says how): HeaderWhole: laid · HeaderCuts: laid.
  DERIVED. THE GIVEN ROWS OF THIS SEAT. 2 by the template 'for every input the law returns true; each argument reads behind the call as it read before'; 0 by the template 'total and deterministic' (their statements: YtanbicpkdkcpbaaDoorTotals.lean).
  GIVEN WITH THE SEED: the statements are not yours to turn. If you find one false, say at which input.
  Laid BY PROGRAM, IN A SANDBOX (cutbox-rows.mjs): the forced cells as the released guide's own fill.sh prints them over the translation 495e2deb93582837… (all of the seat's roots in one cut). By AI agents, Wed Nov 11 2026. No macro, syntax, notation, axiom, sorry.
-/
import Derived.Test.YtanbicpkdkcpbaaDoorChecked
import GoSem.Claim
import GoSem.ClaimJoined
import GoSem.ClaimMapViews
import Derived.JoinedTies
import Derived.KernelRfl
namespace Go.Proofs.YtanbicpkdkcpbaaDoor
/- THE CELL 'sum', in the pinned program and in every row, IS THE sha256 OF THE DUMP (.gsa) THAT YtanbicpkdkcpbaaDoorProg.lean LOADS. Nothing in Lean hashes anything: it is a label: what it is worth is what the hold of that sum in a sandbox is worth. -/
noncomputable def Tryd.pinned : Pinned := { name := "ytanbicpkdkcpbaadoor", sum := "495e2deb935828374672a6b3575219b0af7e1be28d21818fb235eb2623b7678d", checked := Tryd.checked }
namespace Rows
def none {H : Type} : Left H := { results := [], args := [] }

/- WHAT THE LISTED PACKAGE-LEVEL VARIABLES READ AS WHEN THE CALL BEGINS. Each datum BY PROGRAM (the guide's laid-datum.mjs) off the statement by which the dump's own 'gosem.cut.vars' lays the variable. In a bare row this is a premise. The card (YtanbicpkdkcpbaaDoorCards.lean) ties it to the program's text. -/
def laid_satchel_header_atName {H : Type} : DataW H := .agg [.lit (.int .i64 0), .lit (.int .i64 100)]
def laid_satchel_header_atPrefix {H : Type} : DataW H := .agg [.lit (.int .i64 345), .lit (.int .i64 155)]

/-- 'satchellaw13.HeaderWhole': WHATEVER THE INPUT: true; the input reads as it did. -/
def headerWholeSpec : ChangeSpec := { name := "headerWhole", fn := fun _ => fun
  | [d] => { results := [.lit (.bool true)], args := [d] }
  | _ => none }
def headerWholeRow : OpenClaim := { program := "ytanbicpkdkcpbaadoor", sum := "495e2deb935828374672a6b3575219b0af7e1be28d21818fb235eb2623b7678d", func := "satchel/satchellaw13.HeaderWhole", spec := "headerWhole", named := ["satchel/header.atName", "satchel/header.atPrefix"], apart := false, laid := [("satchel/header.atName", laid_satchel_header_atName), ("satchel/header.atPrefix", laid_satchel_header_atPrefix)] }
def HeaderWholeSaid : Prop := headerWholeRow.holds Tryd.pinned (OpenSpec.ofChange headerWholeSpec)

/-- ITS FALSE NEIGHBOUR: 'it returns false'. Refute it at one input. -/
def headerWholeWrong : ChangeSpec := { name := "headerWhole", fn := fun _ => fun
  | [d] => { results := [.lit (.bool false)], args := [d] }
  | _ => none }
def HeaderWholeWrongFalsely : Prop := headerWholeRow.holds Tryd.pinned (OpenSpec.ofChange headerWholeWrong)

/-- 'satchellaw13.HeaderCuts': WHATEVER THE INPUT: true; the input reads as it did. -/
def headerCutsSpec : ChangeSpec := { name := "headerCuts", fn := fun _ => fun
  | [d1, d2] => { results := [.lit (.bool true)], args := [d1, d2] }
  | _ => none }
def headerCutsRow : OpenClaim := { program := "ytanbicpkdkcpbaadoor", sum := "495e2deb935828374672a6b3575219b0af7e1be28d21818fb235eb2623b7678d", func := "satchel/satchellaw13.HeaderCuts", spec := "headerCuts", named := ["satchel/header.atName", "satchel/header.atPrefix"], apart := false, laid := [("satchel/header.atName", laid_satchel_header_atName), ("satchel/header.atPrefix", laid_satchel_header_atPrefix)] }
def HeaderCutsSaid : Prop := headerCutsRow.holds Tryd.pinned (OpenSpec.ofChange headerCutsSpec)

/-- ITS FALSE NEIGHBOUR: 'it returns false'. Refute it at one input. -/
def headerCutsWrong : ChangeSpec := { name := "headerCuts", fn := fun _ => fun
  | [d1, d2] => { results := [.lit (.bool false)], args := [d1, d2] }
  | _ => none }
def HeaderCutsWrongFalsely : Prop := headerCutsRow.holds Tryd.pinned (OpenSpec.ofChange headerCutsWrong)

/- THE SECOND FORM. 'bulk': how many values and letters a reading holds, each counted each time it is reached (what is shared counts as often as it is met; a slice's spare places count too). A statement '..UptoSaid' is the law's where the arguments, and the package variables that the reading takes, are together of bulk at most 1048576: NARROWER than '..Said'. Prove '..Said' where nothing that the law and all that it calls make is longer than what came in: it says more and counts as full. Else prove '..UptoSaid'. A law counts once. -/
mutual
def uptoBulk {H : Type} : DataW H → Nat
  | .lit (.string bytes) => bytes.length + 1
  | .lit _ => 1
  | .nil => 1
  | .ptr d => uptoBulk d + 1
  | .slice elems spare => uptoBulkAll elems + uptoBulkAll spare + 1
  | .agg parts => uptoBulkAll parts + 1
  | .iface _ d => uptoBulk d + 1
  | .map entries => uptoBulkEntries entries + 1
  | .held _ => 1
def uptoBulkAll {H : Type} : List (DataW H) → Nat
  | [] => 0
  | d :: r => uptoBulk d + uptoBulkAll r
def uptoBulkEntries {H : Type} : List (Lit × DataW H) → Nat
  | [] => 0
  | x :: r => uptoBulkEntry x + uptoBulkEntries r
def uptoBulkEntry {H : Type} : Lit × DataW H → Nat
  | (.string bytes, d) => bytes.length + uptoBulk d + 1
  | (_, d) => uptoBulk d + 1
 end
def uptoSmall : (H : Type) → List (DataW H) → Bool := fun _ ds => decide (uptoBulkAll ds ≤ 1048576)
def OpenSpec.upto (s : _root_.Go.ChangeSpec) : _root_.Go.OpenSpec := { _root_.Go.OpenSpec.ofChange s with cond := some uptoSmall }

/-- 'satchellaw13.HeaderWhole', WHERE WHAT IT READS IS OF BULK AT MOST 1048576: true; the input reads as it did. -/
def headerWholeUptoRow : OpenClaim := { program := "ytanbicpkdkcpbaadoor", sum := "495e2deb935828374672a6b3575219b0af7e1be28d21818fb235eb2623b7678d", func := "satchel/satchellaw13.HeaderWhole", spec := "headerWhole", named := ["satchel/header.atName", "satchel/header.atPrefix"], apart := false, laid := [("satchel/header.atName", laid_satchel_header_atName), ("satchel/header.atPrefix", laid_satchel_header_atPrefix)], narrowed := true }
def HeaderWholeUptoSaid : Prop := headerWholeUptoRow.holds Tryd.pinned (OpenSpec.upto headerWholeSpec)

/-- 'satchellaw13.HeaderCuts', WHERE WHAT IT READS IS OF BULK AT MOST 1048576: true; the input reads as it did. -/
def headerCutsUptoRow : OpenClaim := { program := "ytanbicpkdkcpbaadoor", sum := "495e2deb935828374672a6b3575219b0af7e1be28d21818fb235eb2623b7678d", func := "satchel/satchellaw13.HeaderCuts", spec := "headerCuts", named := ["satchel/header.atName", "satchel/header.atPrefix"], apart := false, laid := [("satchel/header.atName", laid_satchel_header_atName), ("satchel/header.atPrefix", laid_satchel_header_atPrefix)], narrowed := true }
def HeaderCutsUptoSaid : Prop := headerCutsUptoRow.holds Tryd.pinned (OpenSpec.upto headerCutsSpec)

end Rows
end Go.Proofs.YtanbicpkdkcpbaaDoor

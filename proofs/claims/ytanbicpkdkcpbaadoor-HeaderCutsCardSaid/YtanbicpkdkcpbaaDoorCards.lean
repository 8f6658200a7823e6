/-
  DERIVED. GIVEN WITH THE SEED: THE CARDS: each row of YtanbicpkdkcpbaaDoorRows.lean that lists a variable, with what it lists TIED to the program's text (the seventh form; the later family's looks); each row that meets fmt, with fmt's text TOLD by the authors' own Lean function (tested against real Go, not proved from fmt's source: count such statements apart). THE CARD IS WHAT COUNTS. Prove the row's statement (the work); the ties are given (YtanbicpkdkcpbaaDoorTie.lean); close each card by the builder's one call (the guide's Derived/Test/ToyasCard.lean, 'card_holds'). Laid BY PROGRAM, IN A SANDBOX (cutbox-door.mjs). By AI agents, Wed Nov 11 2026. No macro, syntax, notation, axiom, sorry.
-/
import Derived.Test.YtanbicpkdkcpbaaDoorRows
import GoSem.ClaimSeven
namespace Go.Proofs.YtanbicpkdkcpbaaDoor
namespace Rows

/-- THE TIED CARD OF 'satchellaw13.HeaderWhole'. -/
def headerWholeCard : Claim7 := { stood := { row := headerWholeRow, standIns := [], harness := (true, "5b588c939b1b6379d0cd39e1d365b1c9efd9f3cc49463b055b58b0aefe3675ef"), looks := false }, kinds := [], alts := [], laidByText := true, laidKinds := [.data, .data], laidTests := true, laidLooks := .later }
def HeaderWholeCardSaid : Prop := Claim7.holds Tryd.pinned (.plain (OpenSpec.ofChange headerWholeSpec)) headerWholeCard

/-- THE TIED CARD OF 'satchellaw13.HeaderCuts'. -/
def headerCutsCard : Claim7 := { stood := { row := headerCutsRow, standIns := [], harness := (true, "5b588c939b1b6379d0cd39e1d365b1c9efd9f3cc49463b055b58b0aefe3675ef"), looks := false }, kinds := [], alts := [], laidByText := true, laidKinds := [.data, .data], laidTests := true, laidLooks := .later }
def HeaderCutsCardSaid : Prop := Claim7.holds Tryd.pinned (.plain (OpenSpec.ofChange headerCutsSpec)) headerCutsCard

/-- THE SECOND FORM's CARD OF 'satchellaw13.HeaderWhole'. -/
def headerWholeUptoCard : Claim7 := { stood := { row := headerWholeUptoRow, standIns := [], harness := (true, "5b588c939b1b6379d0cd39e1d365b1c9efd9f3cc49463b055b58b0aefe3675ef"), looks := false }, kinds := [], alts := [], laidByText := true, laidKinds := [.data, .data], laidTests := true, laidLooks := .later }
def HeaderWholeUptoCardSaid : Prop := Claim7.holds Tryd.pinned (.plain (OpenSpec.upto headerWholeSpec)) headerWholeUptoCard

/-- THE SECOND FORM's CARD OF 'satchellaw13.HeaderCuts'. -/
def headerCutsUptoCard : Claim7 := { stood := { row := headerCutsUptoRow, standIns := [], harness := (true, "5b588c939b1b6379d0cd39e1d365b1c9efd9f3cc49463b055b58b0aefe3675ef"), looks := false }, kinds := [], alts := [], laidByText := true, laidKinds := [.data, .data], laidTests := true, laidLooks := .later }
def HeaderCutsUptoCardSaid : Prop := Claim7.holds Tryd.pinned (.plain (OpenSpec.upto headerCutsSpec)) headerCutsUptoCard
end Rows
end Go.Proofs.YtanbicpkdkcpbaaDoor

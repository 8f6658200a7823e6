/-
  No cell of these rows narrows 'for every input' (looked for: loops, veiled, ifaces, maps, wideKeys, modest, calm, conditions, laid).
  DERIVED. THE GIVEN ROWS OF THIS SEAT. 14 by the template 'for every input the law returns true; each argument reads behind the call as it read before'; 0 by the template 'total and deterministic' (their statements: YtnomebkdhjigjaaTotals.lean).
  GIVEN WITH THE SEED: the statements are not yours to turn. If you find one false, say at which input.
  Laid BY PROGRAM, IN A SANDBOX (cutbox-rows.mjs): the forced cells as the released guide's own fill.sh prints them over the translation 410cdf6bf0ea4a07… (all of the seat's roots in one cut). By AI agents, Wed Nov 11 2026. No macro, syntax, notation, axiom, sorry.
-/
import Derived.Test.YtnomebkdhjigjaaChecked
import GoSem.Claim
import GoSem.ClaimJoined
import GoSem.ClaimMapViews
import Derived.JoinedTies
import Derived.KernelRfl
namespace Go.Proofs.Ytnomebkdhjigjaa
/- THE CELL 'sum', in the pinned program and in every row, IS THE sha256 OF THE DUMP (.gsa) THAT YtnomebkdhjigjaaProg.lean LOADS. Nothing in Lean hashes anything: it is a label: what it is worth is what the hold of that sum in a sandbox is worth. -/
noncomputable def Try.pinned : Pinned := { name := "ytnomebkdhjigjaa", sum := "410cdf6bf0ea4a0720d4a7b9c9998847c73a94b7045771102c80091b820782d5", checked := Try.checked }
namespace Rows
def none {H : Type} : Left H := { results := [], args := [] }

/-- 'satchellaw04.FrameWhole': WHATEVER THE INPUT: true; the input reads as it did. -/
def frameWholeSpec : ChangeSpec := { name := "frameWhole", fn := fun _ => fun
  | [d] => { results := [.lit (.bool true)], args := [d] }
  | _ => none }
def frameWholeRow : OpenClaim := { program := "ytnomebkdhjigjaa", sum := "410cdf6bf0ea4a0720d4a7b9c9998847c73a94b7045771102c80091b820782d5", func := "satchel/satchellaw04.FrameWhole", spec := "frameWhole", unfollowed := true, recurses := true, plainKeys := false, apart := false }
def FrameWholeSaid : Prop := frameWholeRow.holds Try.pinned (OpenSpec.ofChange frameWholeSpec)

/-- ITS FALSE NEIGHBOUR: 'it returns false'. Refute it at one input. -/
def frameWholeWrong : ChangeSpec := { name := "frameWhole", fn := fun _ => fun
  | [d] => { results := [.lit (.bool false)], args := [d] }
  | _ => none }
def FrameWholeWrongFalsely : Prop := frameWholeRow.holds Try.pinned (OpenSpec.ofChange frameWholeWrong)

/-- 'satchellaw03.LzParses': WHATEVER THE INPUT: true; the input reads as it did. -/
def lzParsesSpec : ChangeSpec := { name := "lzParses", fn := fun _ => fun
  | [d] => { results := [.lit (.bool true)], args := [d] }
  | _ => none }
def lzParsesRow : OpenClaim := { program := "ytnomebkdhjigjaa", sum := "410cdf6bf0ea4a0720d4a7b9c9998847c73a94b7045771102c80091b820782d5", func := "satchel/satchellaw03.LzParses", spec := "lzParses", unfollowed := true, recurses := true, plainKeys := false, apart := false }
def LzParsesSaid : Prop := lzParsesRow.holds Try.pinned (OpenSpec.ofChange lzParsesSpec)

/-- ITS FALSE NEIGHBOUR: 'it returns false'. Refute it at one input. -/
def lzParsesWrong : ChangeSpec := { name := "lzParses", fn := fun _ => fun
  | [d] => { results := [.lit (.bool false)], args := [d] }
  | _ => none }
def LzParsesWrongFalsely : Prop := lzParsesRow.holds Try.pinned (OpenSpec.ofChange lzParsesWrong)

/-- 'satchellaw03.LzSmall': WHATEVER THE INPUT: true; the input reads as it did. -/
def lzSmallSpec : ChangeSpec := { name := "lzSmall", fn := fun _ => fun
  | [d1, d2] => { results := [.lit (.bool true)], args := [d1, d2] }
  | _ => none }
def lzSmallRow : OpenClaim := { program := "ytnomebkdhjigjaa", sum := "410cdf6bf0ea4a0720d4a7b9c9998847c73a94b7045771102c80091b820782d5", func := "satchel/satchellaw03.LzSmall", spec := "lzSmall", unfollowed := true, recurses := true, plainKeys := false, apart := false }
def LzSmallSaid : Prop := lzSmallRow.holds Try.pinned (OpenSpec.ofChange lzSmallSpec)

/-- ITS FALSE NEIGHBOUR: 'it returns false'. Refute it at one input. -/
def lzSmallWrong : ChangeSpec := { name := "lzSmall", fn := fun _ => fun
  | [d1, d2] => { results := [.lit (.bool false)], args := [d1, d2] }
  | _ => none }
def LzSmallWrongFalsely : Prop := lzSmallRow.holds Try.pinned (OpenSpec.ofChange lzSmallWrong)

/-- 'satchellaw04.FrameBack': WHATEVER THE INPUT: true; the input reads as it did. -/
def frameBackSpec : ChangeSpec := { name := "frameBack", fn := fun _ => fun
  | [d] => { results := [.lit (.bool true)], args := [d] }
  | _ => none }
def frameBackRow : OpenClaim := { program := "ytnomebkdhjigjaa", sum := "410cdf6bf0ea4a0720d4a7b9c9998847c73a94b7045771102c80091b820782d5", func := "satchel/satchellaw04.FrameBack", spec := "frameBack", unfollowed := true, recurses := true, plainKeys := false, apart := false }
def FrameBackSaid : Prop := frameBackRow.holds Try.pinned (OpenSpec.ofChange frameBackSpec)

/-- ITS FALSE NEIGHBOUR: 'it returns false'. Refute it at one input. -/
def frameBackWrong : ChangeSpec := { name := "frameBack", fn := fun _ => fun
  | [d] => { results := [.lit (.bool false)], args := [d] }
  | _ => none }
def FrameBackWrongFalsely : Prop := frameBackRow.holds Try.pinned (OpenSpec.ofChange frameBackWrong)

/-- 'satchellaw03.LzMakes': WHATEVER THE INPUT: true; the input reads as it did. -/
def lzMakesSpec : ChangeSpec := { name := "lzMakes", fn := fun _ => fun
  | [d1, d2, d3] => { results := [.lit (.bool true)], args := [d1, d2, d3] }
  | _ => none }
def lzMakesRow : OpenClaim := { program := "ytnomebkdhjigjaa", sum := "410cdf6bf0ea4a0720d4a7b9c9998847c73a94b7045771102c80091b820782d5", func := "satchel/satchellaw03.LzMakes", spec := "lzMakes", plainKeys := false, apart := false }
def LzMakesSaid : Prop := lzMakesRow.holds Try.pinned (OpenSpec.ofChange lzMakesSpec)

/-- ITS FALSE NEIGHBOUR: 'it returns false'. Refute it at one input. -/
def lzMakesWrong : ChangeSpec := { name := "lzMakes", fn := fun _ => fun
  | [d1, d2, d3] => { results := [.lit (.bool false)], args := [d1, d2, d3] }
  | _ => none }
def LzMakesWrongFalsely : Prop := lzMakesRow.holds Try.pinned (OpenSpec.ofChange lzMakesWrong)

/-- 'satchellaw03.LzDecodes': WHATEVER THE INPUT: true; the input reads as it did. -/
def lzDecodesSpec : ChangeSpec := { name := "lzDecodes", fn := fun _ => fun
  | [d1, d2, d3] => { results := [.lit (.bool true)], args := [d1, d2, d3] }
  | _ => none }
def lzDecodesRow : OpenClaim := { program := "ytnomebkdhjigjaa", sum := "410cdf6bf0ea4a0720d4a7b9c9998847c73a94b7045771102c80091b820782d5", func := "satchel/satchellaw03.LzDecodes", spec := "lzDecodes", unfollowed := true, recurses := true, plainKeys := false, apart := false }
def LzDecodesSaid : Prop := lzDecodesRow.holds Try.pinned (OpenSpec.ofChange lzDecodesSpec)

/-- ITS FALSE NEIGHBOUR: 'it returns false'. Refute it at one input. -/
def lzDecodesWrong : ChangeSpec := { name := "lzDecodes", fn := fun _ => fun
  | [d1, d2, d3] => { results := [.lit (.bool false)], args := [d1, d2, d3] }
  | _ => none }
def LzDecodesWrongFalsely : Prop := lzDecodesRow.holds Try.pinned (OpenSpec.ofChange lzDecodesWrong)

/-- 'satchellaw03.LzBounded': WHATEVER THE INPUT: true; the input reads as it did. -/
def lzBoundedSpec : ChangeSpec := { name := "lzBounded", fn := fun _ => fun
  | [d1, d2, d3] => { results := [.lit (.bool true)], args := [d1, d2, d3] }
  | _ => none }
def lzBoundedRow : OpenClaim := { program := "ytnomebkdhjigjaa", sum := "410cdf6bf0ea4a0720d4a7b9c9998847c73a94b7045771102c80091b820782d5", func := "satchel/satchellaw03.LzBounded", spec := "lzBounded", unfollowed := true, recurses := true, plainKeys := false, apart := false }
def LzBoundedSaid : Prop := lzBoundedRow.holds Try.pinned (OpenSpec.ofChange lzBoundedSpec)

/-- ITS FALSE NEIGHBOUR: 'it returns false'. Refute it at one input. -/
def lzBoundedWrong : ChangeSpec := { name := "lzBounded", fn := fun _ => fun
  | [d1, d2, d3] => { results := [.lit (.bool false)], args := [d1, d2, d3] }
  | _ => none }
def LzBoundedWrongFalsely : Prop := lzBoundedRow.holds Try.pinned (OpenSpec.ofChange lzBoundedWrong)

/-- 'satchellaw04.FrameEncodes': WHATEVER THE INPUT: true; the input reads as it did. -/
def frameEncodesSpec : ChangeSpec := { name := "frameEncodes", fn := fun _ => fun
  | [d1, d2, d3] => { results := [.lit (.bool true)], args := [d1, d2, d3] }
  | _ => none }
def frameEncodesRow : OpenClaim := { program := "ytnomebkdhjigjaa", sum := "410cdf6bf0ea4a0720d4a7b9c9998847c73a94b7045771102c80091b820782d5", func := "satchel/satchellaw04.FrameEncodes", spec := "frameEncodes", unfollowed := true, recurses := true, plainKeys := false, apart := false }
def FrameEncodesSaid : Prop := frameEncodesRow.holds Try.pinned (OpenSpec.ofChange frameEncodesSpec)

/-- ITS FALSE NEIGHBOUR: 'it returns false'. Refute it at one input. -/
def frameEncodesWrong : ChangeSpec := { name := "frameEncodes", fn := fun _ => fun
  | [d1, d2, d3] => { results := [.lit (.bool false)], args := [d1, d2, d3] }
  | _ => none }
def FrameEncodesWrongFalsely : Prop := frameEncodesRow.holds Try.pinned (OpenSpec.ofChange frameEncodesWrong)

/-- 'satchellaw03.LzWindow': WHATEVER THE INPUT: true; the input reads as it did. -/
def lzWindowSpec : ChangeSpec := { name := "lzWindow", fn := fun _ => fun
  | [d1, d2, d3] => { results := [.lit (.bool true)], args := [d1, d2, d3] }
  | _ => none }
def lzWindowRow : OpenClaim := { program := "ytnomebkdhjigjaa", sum := "410cdf6bf0ea4a0720d4a7b9c9998847c73a94b7045771102c80091b820782d5", func := "satchel/satchellaw03.LzWindow", spec := "lzWindow", unfollowed := true, recurses := true, plainKeys := false, apart := false }
def LzWindowSaid : Prop := lzWindowRow.holds Try.pinned (OpenSpec.ofChange lzWindowSpec)

/-- ITS FALSE NEIGHBOUR: 'it returns false'. Refute it at one input. -/
def lzWindowWrong : ChangeSpec := { name := "lzWindow", fn := fun _ => fun
  | [d1, d2, d3] => { results := [.lit (.bool false)], args := [d1, d2, d3] }
  | _ => none }
def LzWindowWrongFalsely : Prop := lzWindowRow.holds Try.pinned (OpenSpec.ofChange lzWindowWrong)

/-- 'satchellaw03.LzOneForm': WHATEVER THE INPUT: true; the input reads as it did. -/
def lzOneFormSpec : ChangeSpec := { name := "lzOneForm", fn := fun _ => fun
  | [d] => { results := [.lit (.bool true)], args := [d] }
  | _ => none }
def lzOneFormRow : OpenClaim := { program := "ytnomebkdhjigjaa", sum := "410cdf6bf0ea4a0720d4a7b9c9998847c73a94b7045771102c80091b820782d5", func := "satchel/satchellaw03.LzOneForm", spec := "lzOneForm", unfollowed := true, recurses := true, plainKeys := false, apart := false }
def LzOneFormSaid : Prop := lzOneFormRow.holds Try.pinned (OpenSpec.ofChange lzOneFormSpec)

/-- ITS FALSE NEIGHBOUR: 'it returns false'. Refute it at one input. -/
def lzOneFormWrong : ChangeSpec := { name := "lzOneForm", fn := fun _ => fun
  | [d] => { results := [.lit (.bool false)], args := [d] }
  | _ => none }
def LzOneFormWrongFalsely : Prop := lzOneFormRow.holds Try.pinned (OpenSpec.ofChange lzOneFormWrong)

/-- 'satchellaw03.LzRound': WHATEVER THE INPUT: true; the input reads as it did. -/
def lzRoundSpec : ChangeSpec := { name := "lzRound", fn := fun _ => fun
  | [d1, d2] => { results := [.lit (.bool true)], args := [d1, d2] }
  | _ => none }
def lzRoundRow : OpenClaim := { program := "ytnomebkdhjigjaa", sum := "410cdf6bf0ea4a0720d4a7b9c9998847c73a94b7045771102c80091b820782d5", func := "satchel/satchellaw03.LzRound", spec := "lzRound", unfollowed := true, recurses := true, plainKeys := false, apart := false }
def LzRoundSaid : Prop := lzRoundRow.holds Try.pinned (OpenSpec.ofChange lzRoundSpec)

/-- ITS FALSE NEIGHBOUR: 'it returns false'. Refute it at one input. -/
def lzRoundWrong : ChangeSpec := { name := "lzRound", fn := fun _ => fun
  | [d1, d2] => { results := [.lit (.bool false)], args := [d1, d2] }
  | _ => none }
def LzRoundWrongFalsely : Prop := lzRoundRow.holds Try.pinned (OpenSpec.ofChange lzRoundWrong)

/-- 'satchellaw04.FrameDecodes': WHATEVER THE INPUT: true; the input reads as it did. -/
def frameDecodesSpec : ChangeSpec := { name := "frameDecodes", fn := fun _ => fun
  | [d1, d2] => { results := [.lit (.bool true)], args := [d1, d2] }
  | _ => none }
def frameDecodesRow : OpenClaim := { program := "ytnomebkdhjigjaa", sum := "410cdf6bf0ea4a0720d4a7b9c9998847c73a94b7045771102c80091b820782d5", func := "satchel/satchellaw04.FrameDecodes", spec := "frameDecodes", unfollowed := true, recurses := true, plainKeys := false, apart := false }
def FrameDecodesSaid : Prop := frameDecodesRow.holds Try.pinned (OpenSpec.ofChange frameDecodesSpec)

/-- ITS FALSE NEIGHBOUR: 'it returns false'. Refute it at one input. -/
def frameDecodesWrong : ChangeSpec := { name := "frameDecodes", fn := fun _ => fun
  | [d1, d2] => { results := [.lit (.bool false)], args := [d1, d2] }
  | _ => none }
def FrameDecodesWrongFalsely : Prop := frameDecodesRow.holds Try.pinned (OpenSpec.ofChange frameDecodesWrong)

/-- 'satchellaw04.FrameBounded': WHATEVER THE INPUT: true; the input reads as it did. -/
def frameBoundedSpec : ChangeSpec := { name := "frameBounded", fn := fun _ => fun
  | [d1, d2] => { results := [.lit (.bool true)], args := [d1, d2] }
  | _ => none }
def frameBoundedRow : OpenClaim := { program := "ytnomebkdhjigjaa", sum := "410cdf6bf0ea4a0720d4a7b9c9998847c73a94b7045771102c80091b820782d5", func := "satchel/satchellaw04.FrameBounded", spec := "frameBounded", unfollowed := true, recurses := true, plainKeys := false, apart := false }
def FrameBoundedSaid : Prop := frameBoundedRow.holds Try.pinned (OpenSpec.ofChange frameBoundedSpec)

/-- ITS FALSE NEIGHBOUR: 'it returns false'. Refute it at one input. -/
def frameBoundedWrong : ChangeSpec := { name := "frameBounded", fn := fun _ => fun
  | [d1, d2] => { results := [.lit (.bool false)], args := [d1, d2] }
  | _ => none }
def FrameBoundedWrongFalsely : Prop := frameBoundedRow.holds Try.pinned (OpenSpec.ofChange frameBoundedWrong)

/-- 'satchellaw04.FrameBit': WHATEVER THE INPUT: true; the input reads as it did. -/
def frameBitSpec : ChangeSpec := { name := "frameBit", fn := fun _ => fun
  | [d1, d2, d3] => { results := [.lit (.bool true)], args := [d1, d2, d3] }
  | _ => none }
def frameBitRow : OpenClaim := { program := "ytnomebkdhjigjaa", sum := "410cdf6bf0ea4a0720d4a7b9c9998847c73a94b7045771102c80091b820782d5", func := "satchel/satchellaw04.FrameBit", spec := "frameBit", unfollowed := true, recurses := true, plainKeys := false, apart := false }
def FrameBitSaid : Prop := frameBitRow.holds Try.pinned (OpenSpec.ofChange frameBitSpec)

/-- ITS FALSE NEIGHBOUR: 'it returns false'. Refute it at one input. -/
def frameBitWrong : ChangeSpec := { name := "frameBit", fn := fun _ => fun
  | [d1, d2, d3] => { results := [.lit (.bool false)], args := [d1, d2, d3] }
  | _ => none }
def FrameBitWrongFalsely : Prop := frameBitRow.holds Try.pinned (OpenSpec.ofChange frameBitWrong)

/- THE SECOND FORM. 'bulk': how many values and letters a reading holds, each counted each time it is reached (what is shared counts as often as it is met; a slice's spare places count too). A statement '..UptoSaid' is the law's where the arguments, and the package variables that the reading takes, are together of bulk at most 1048576: NARROWER than '..Said'. Prove '..Said' where nothing that the law and all that it calls make is longer than what came in: it says more and counts as full. Else prove '..UptoSaid'. A law counts once. -/
mutual
def uptoBulk {H : Type} : DataW H → Nat
  | .lit (.string bytes) => bytes.length + 1
  | .lit _ => 1
  | .nil => 1
  | .ptr d => uptoBulk d + 1
  | .slice elems spare => uptoBulkAll elems + uptoBulkAll spare + 1
  | .agg parts => uptoBulkAll parts + 1
  | .iface _ d => uptoBulk d + 1
  | .map entries => uptoBulkEntries entries + 1
  | .held _ => 1
def uptoBulkAll {H : Type} : List (DataW H) → Nat
  | [] => 0
  | d :: r => uptoBulk d + uptoBulkAll r
def uptoBulkEntries {H : Type} : List (Lit × DataW H) → Nat
  | [] => 0
  | x :: r => uptoBulkEntry x + uptoBulkEntries r
def uptoBulkEntry {H : Type} : Lit × DataW H → Nat
  | (.string bytes, d) => bytes.length + uptoBulk d + 1
  | (_, d) => uptoBulk d + 1
 end
def uptoSmall : (H : Type) → List (DataW H) → Bool := fun _ ds => decide (uptoBulkAll ds ≤ 1048576)
def OpenSpec.upto (s : _root_.Go.ChangeSpec) : _root_.Go.OpenSpec := { _root_.Go.OpenSpec.ofChange s with cond := some uptoSmall }

/-- 'satchellaw04.FrameWhole', WHERE WHAT IT READS IS OF BULK AT MOST 1048576: true; the input reads as it did. -/
def frameWholeUptoRow : OpenClaim := { program := "ytnomebkdhjigjaa", sum := "410cdf6bf0ea4a0720d4a7b9c9998847c73a94b7045771102c80091b820782d5", func := "satchel/satchellaw04.FrameWhole", spec := "frameWhole", unfollowed := true, recurses := true, plainKeys := false, apart := false, narrowed := true }
def FrameWholeUptoSaid : Prop := frameWholeUptoRow.holds Try.pinned (OpenSpec.upto frameWholeSpec)

/-- 'satchellaw03.LzParses', WHERE WHAT IT READS IS OF BULK AT MOST 1048576: true; the input reads as it did. -/
def lzParsesUptoRow : OpenClaim := { program := "ytnomebkdhjigjaa", sum := "410cdf6bf0ea4a0720d4a7b9c9998847c73a94b7045771102c80091b820782d5", func := "satchel/satchellaw03.LzParses", spec := "lzParses", unfollowed := true, recurses := true, plainKeys := false, apart := false, narrowed := true }
def LzParsesUptoSaid : Prop := lzParsesUptoRow.holds Try.pinned (OpenSpec.upto lzParsesSpec)

/-- 'satchellaw03.LzSmall', WHERE WHAT IT READS IS OF BULK AT MOST 1048576: true; the input reads as it did. -/
def lzSmallUptoRow : OpenClaim := { program := "ytnomebkdhjigjaa", sum := "410cdf6bf0ea4a0720d4a7b9c9998847c73a94b7045771102c80091b820782d5", func := "satchel/satchellaw03.LzSmall", spec := "lzSmall", unfollowed := true, recurses := true, plainKeys := false, apart := false, narrowed := true }
def LzSmallUptoSaid : Prop := lzSmallUptoRow.holds Try.pinned (OpenSpec.upto lzSmallSpec)

/-- 'satchellaw04.FrameBack', WHERE WHAT IT READS IS OF BULK AT MOST 1048576: true; the input reads as it did. -/
def frameBackUptoRow : OpenClaim := { program := "ytnomebkdhjigjaa", sum := "410cdf6bf0ea4a0720d4a7b9c9998847c73a94b7045771102c80091b820782d5", func := "satchel/satchellaw04.FrameBack", spec := "frameBack", unfollowed := true, recurses := true, plainKeys := false, apart := false, narrowed := true }
def FrameBackUptoSaid : Prop := frameBackUptoRow.holds Try.pinned (OpenSpec.upto frameBackSpec)

/-- 'satchellaw03.LzMakes', WHERE WHAT IT READS IS OF BULK AT MOST 1048576: true; the input reads as it did. -/
def lzMakesUptoRow : OpenClaim := { program := "ytnomebkdhjigjaa", sum := "410cdf6bf0ea4a0720d4a7b9c9998847c73a94b7045771102c80091b820782d5", func := "satchel/satchellaw03.LzMakes", spec := "lzMakes", plainKeys := false, apart := false, narrowed := true }
def LzMakesUptoSaid : Prop := lzMakesUptoRow.holds Try.pinned (OpenSpec.upto lzMakesSpec)

/-- 'satchellaw03.LzDecodes', WHERE WHAT IT READS IS OF BULK AT MOST 1048576: true; the input reads as it did. -/
def lzDecodesUptoRow : OpenClaim := { program := "ytnomebkdhjigjaa", sum := "410cdf6bf0ea4a0720d4a7b9c9998847c73a94b7045771102c80091b820782d5", func := "satchel/satchellaw03.LzDecodes", spec := "lzDecodes", unfollowed := true, recurses := true, plainKeys := false, apart := false, narrowed := true }
def LzDecodesUptoSaid : Prop := lzDecodesUptoRow.holds Try.pinned (OpenSpec.upto lzDecodesSpec)

/-- 'satchellaw03.LzBounded', WHERE WHAT IT READS IS OF BULK AT MOST 1048576: true; the input reads as it did. -/
def lzBoundedUptoRow : OpenClaim := { program := "ytnomebkdhjigjaa", sum := "410cdf6bf0ea4a0720d4a7b9c9998847c73a94b7045771102c80091b820782d5", func := "satchel/satchellaw03.LzBounded", spec := "lzBounded", unfollowed := true, recurses := true, plainKeys := false, apart := false, narrowed := true }
def LzBoundedUptoSaid : Prop := lzBoundedUptoRow.holds Try.pinned (OpenSpec.upto lzBoundedSpec)

/-- 'satchellaw04.FrameEncodes', WHERE WHAT IT READS IS OF BULK AT MOST 1048576: true; the input reads as it did. -/
def frameEncodesUptoRow : OpenClaim := { program := "ytnomebkdhjigjaa", sum := "410cdf6bf0ea4a0720d4a7b9c9998847c73a94b7045771102c80091b820782d5", func := "satchel/satchellaw04.FrameEncodes", spec := "frameEncodes", unfollowed := true, recurses := true, plainKeys := false, apart := false, narrowed := true }
def FrameEncodesUptoSaid : Prop := frameEncodesUptoRow.holds Try.pinned (OpenSpec.upto frameEncodesSpec)

/-- 'satchellaw03.LzWindow', WHERE WHAT IT READS IS OF BULK AT MOST 1048576: true; the input reads as it did. -/
def lzWindowUptoRow : OpenClaim := { program := "ytnomebkdhjigjaa", sum := "410cdf6bf0ea4a0720d4a7b9c9998847c73a94b7045771102c80091b820782d5", func := "satchel/satchellaw03.LzWindow", spec := "lzWindow", unfollowed := true, recurses := true, plainKeys := false, apart := false, narrowed := true }
def LzWindowUptoSaid : Prop := lzWindowUptoRow.holds Try.pinned (OpenSpec.upto lzWindowSpec)

/-- 'satchellaw03.LzOneForm', WHERE WHAT IT READS IS OF BULK AT MOST 1048576: true; the input reads as it did. -/
def lzOneFormUptoRow : OpenClaim := { program := "ytnomebkdhjigjaa", sum := "410cdf6bf0ea4a0720d4a7b9c9998847c73a94b7045771102c80091b820782d5", func := "satchel/satchellaw03.LzOneForm", spec := "lzOneForm", unfollowed := true, recurses := true, plainKeys := false, apart := false, narrowed := true }
def LzOneFormUptoSaid : Prop := lzOneFormUptoRow.holds Try.pinned (OpenSpec.upto lzOneFormSpec)

/-- 'satchellaw03.LzRound', WHERE WHAT IT READS IS OF BULK AT MOST 1048576: true; the input reads as it did. -/
def lzRoundUptoRow : OpenClaim := { program := "ytnomebkdhjigjaa", sum := "410cdf6bf0ea4a0720d4a7b9c9998847c73a94b7045771102c80091b820782d5", func := "satchel/satchellaw03.LzRound", spec := "lzRound", unfollowed := true, recurses := true, plainKeys := false, apart := false, narrowed := true }
def LzRoundUptoSaid : Prop := lzRoundUptoRow.holds Try.pinned (OpenSpec.upto lzRoundSpec)

/-- 'satchellaw04.FrameDecodes', WHERE WHAT IT READS IS OF BULK AT MOST 1048576: true; the input reads as it did. -/
def frameDecodesUptoRow : OpenClaim := { program := "ytnomebkdhjigjaa", sum := "410cdf6bf0ea4a0720d4a7b9c9998847c73a94b7045771102c80091b820782d5", func := "satchel/satchellaw04.FrameDecodes", spec := "frameDecodes", unfollowed := true, recurses := true, plainKeys := false, apart := false, narrowed := true }
def FrameDecodesUptoSaid : Prop := frameDecodesUptoRow.holds Try.pinned (OpenSpec.upto frameDecodesSpec)

/-- 'satchellaw04.FrameBounded', WHERE WHAT IT READS IS OF BULK AT MOST 1048576: true; the input reads as it did. -/
def frameBoundedUptoRow : OpenClaim := { program := "ytnomebkdhjigjaa", sum := "410cdf6bf0ea4a0720d4a7b9c9998847c73a94b7045771102c80091b820782d5", func := "satchel/satchellaw04.FrameBounded", spec := "frameBounded", unfollowed := true, recurses := true, plainKeys := false, apart := false, narrowed := true }
def FrameBoundedUptoSaid : Prop := frameBoundedUptoRow.holds Try.pinned (OpenSpec.upto frameBoundedSpec)

/-- 'satchellaw04.FrameBit', WHERE WHAT IT READS IS OF BULK AT MOST 1048576: true; the input reads as it did. -/
def frameBitUptoRow : OpenClaim := { program := "ytnomebkdhjigjaa", sum := "410cdf6bf0ea4a0720d4a7b9c9998847c73a94b7045771102c80091b820782d5", func := "satchel/satchellaw04.FrameBit", spec := "frameBit", unfollowed := true, recurses := true, plainKeys := false, apart := false, narrowed := true }
def FrameBitUptoSaid : Prop := frameBitUptoRow.holds Try.pinned (OpenSpec.upto frameBitSpec)

end Rows
end Go.Proofs.Ytnomebkdhjigjaa

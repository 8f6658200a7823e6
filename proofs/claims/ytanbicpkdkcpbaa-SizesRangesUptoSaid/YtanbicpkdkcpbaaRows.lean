/-
  No cell of these rows narrows 'for every input' (looked for: loops, veiled, ifaces, maps, wideKeys, modest, calm, conditions, laid).
  DERIVED. THE GIVEN ROWS OF THIS SEAT. 7 by the template 'for every input the law returns true; each argument reads behind the call as it read before'; 0 by the template 'total and deterministic' (their statements: YtanbicpkdkcpbaaTotals.lean).
  GIVEN WITH THE SEED: the statements are not yours to turn. If you find one false, say at which input.
  Laid BY PROGRAM, IN A SANDBOX (cutbox-rows.mjs): the forced cells as the released guide's own fill.sh prints them over the translation da80d3e459d7ffaf… (all of the seat's roots in one cut). By AI agents, Wed Nov 11 2026. No macro, syntax, notation, axiom, sorry.
-/
import Derived.Test.YtanbicpkdkcpbaaChecked
import GoSem.Claim
import GoSem.ClaimJoined
import GoSem.ClaimMapViews
import Derived.JoinedTies
import Derived.KernelRfl
namespace Go.Proofs.Ytanbicpkdkcpbaa
/- THE CELL 'sum', in the pinned program and in every row, IS THE sha256 OF THE DUMP (.gsa) THAT YtanbicpkdkcpbaaProg.lean LOADS. Nothing in Lean hashes anything: it is a label: what it is worth is what the hold of that sum in a sandbox is worth. -/
noncomputable def Try.pinned : Pinned := { name := "ytanbicpkdkcpbaa", sum := "da80d3e459d7ffaf9c9f4c6cf48b8fee943950e5eee957319d5e5ed95efee1e0", checked := Try.checked }
namespace Rows
def none {H : Type} : Left H := { results := [], args := [] }

/-- 'satchellaw01.SizesSums': WHATEVER THE INPUT: true; the input reads as it did. -/
def sizesSumsSpec : ChangeSpec := { name := "sizesSums", fn := fun _ => fun
  | [d1, d2] => { results := [.lit (.bool true)], args := [d1, d2] }
  | _ => none }
def sizesSumsRow : OpenClaim := { program := "ytanbicpkdkcpbaa", sum := "da80d3e459d7ffaf9c9f4c6cf48b8fee943950e5eee957319d5e5ed95efee1e0", func := "satchel/satchellaw01.SizesSums", spec := "sizesSums", apart := false }
def SizesSumsSaid : Prop := sizesSumsRow.holds Try.pinned (OpenSpec.ofChange sizesSumsSpec)

/-- ITS FALSE NEIGHBOUR: 'it returns false'. Refute it at one input. -/
def sizesSumsWrong : ChangeSpec := { name := "sizesSums", fn := fun _ => fun
  | [d1, d2] => { results := [.lit (.bool false)], args := [d1, d2] }
  | _ => none }
def SizesSumsWrongFalsely : Prop := sizesSumsRow.holds Try.pinned (OpenSpec.ofChange sizesSumsWrong)

/-- 'satchellaw01.SizesLeast': WHATEVER THE INPUT: true; the input reads as it did. -/
def sizesLeastSpec : ChangeSpec := { name := "sizesLeast", fn := fun _ => fun
  | [d1, d2, d3] => { results := [.lit (.bool true)], args := [d1, d2, d3] }
  | _ => none }
def sizesLeastRow : OpenClaim := { program := "ytanbicpkdkcpbaa", sum := "da80d3e459d7ffaf9c9f4c6cf48b8fee943950e5eee957319d5e5ed95efee1e0", func := "satchel/satchellaw01.SizesLeast", spec := "sizesLeast", apart := false }
def SizesLeastSaid : Prop := sizesLeastRow.holds Try.pinned (OpenSpec.ofChange sizesLeastSpec)

/-- ITS FALSE NEIGHBOUR: 'it returns false'. Refute it at one input. -/
def sizesLeastWrong : ChangeSpec := { name := "sizesLeast", fn := fun _ => fun
  | [d1, d2, d3] => { results := [.lit (.bool false)], args := [d1, d2, d3] }
  | _ => none }
def SizesLeastWrongFalsely : Prop := sizesLeastRow.holds Try.pinned (OpenSpec.ofChange sizesLeastWrong)

/-- 'satchellaw01.SizesMany': WHATEVER THE INPUT: true; the input reads as it did. -/
def sizesManySpec : ChangeSpec := { name := "sizesMany", fn := fun _ => fun
  | [d1, d2] => { results := [.lit (.bool true)], args := [d1, d2] }
  | _ => none }
def sizesManyRow : OpenClaim := { program := "ytanbicpkdkcpbaa", sum := "da80d3e459d7ffaf9c9f4c6cf48b8fee943950e5eee957319d5e5ed95efee1e0", func := "satchel/satchellaw01.SizesMany", spec := "sizesMany", inPlace := ["(*internal/sync.Mutex).Lock", "internal/race.Disable", "sync/atomic.CompareAndSwapInt32", "internal/race.Enable", "internal/race.Acquire", "(*internal/sync.Mutex).lockSlow", "internal/sync.runtime_canSpin", "internal/sync.runtime_doSpin", "internal/sync.throw", "internal/sync.runtime_nanotime", "internal/sync.runtime_SemacquireMutex", "sync/atomic.AddInt32", "(*internal/sync.Mutex).Unlock", "internal/race.ReleaseMerge", "(*internal/sync.Mutex).unlockSlow", "internal/sync.fatal", "internal/sync.runtime_Semrelease"], apart := false }
def SizesManySaid : Prop := sizesManyRow.holds Try.pinned (OpenSpec.ofChange sizesManySpec)

/-- ITS FALSE NEIGHBOUR: 'it returns false'. Refute it at one input. -/
def sizesManyWrong : ChangeSpec := { name := "sizesMany", fn := fun _ => fun
  | [d1, d2] => { results := [.lit (.bool false)], args := [d1, d2] }
  | _ => none }
def SizesManyWrongFalsely : Prop := sizesManyRow.holds Try.pinned (OpenSpec.ofChange sizesManyWrong)

/-- 'satchellaw16.ReaderContents': WHATEVER THE INPUT: true; the input reads as it did. -/
def readerContentsSpec : ChangeSpec := { name := "readerContents", fn := fun _ => fun
  | [d1, d2] => { results := [.lit (.bool true)], args := [d1, d2] }
  | _ => none }
def readerContentsRow : OpenClaim := { program := "ytanbicpkdkcpbaa", sum := "da80d3e459d7ffaf9c9f4c6cf48b8fee943950e5eee957319d5e5ed95efee1e0", func := "satchel/satchellaw16.ReaderContents", spec := "readerContents", apart := false }
def ReaderContentsSaid : Prop := readerContentsRow.holds Try.pinned (OpenSpec.ofChange readerContentsSpec)

/-- ITS FALSE NEIGHBOUR: 'it returns false'. Refute it at one input. -/
def readerContentsWrong : ChangeSpec := { name := "readerContents", fn := fun _ => fun
  | [d1, d2] => { results := [.lit (.bool false)], args := [d1, d2] }
  | _ => none }
def ReaderContentsWrongFalsely : Prop := readerContentsRow.holds Try.pinned (OpenSpec.ofChange readerContentsWrong)

/-- 'satchellaw01.SizesBudgets': WHATEVER THE INPUT: true; the input reads as it did. -/
def sizesBudgetsSpec : ChangeSpec := { name := "sizesBudgets", fn := fun _ => fun
  | [d1, d2] => { results := [.lit (.bool true)], args := [d1, d2] }
  | _ => none }
def sizesBudgetsRow : OpenClaim := { program := "ytanbicpkdkcpbaa", sum := "da80d3e459d7ffaf9c9f4c6cf48b8fee943950e5eee957319d5e5ed95efee1e0", func := "satchel/satchellaw01.SizesBudgets", spec := "sizesBudgets", inPlace := ["(*internal/sync.Mutex).Lock", "internal/race.Disable", "sync/atomic.CompareAndSwapInt32", "internal/race.Enable", "internal/race.Acquire", "(*internal/sync.Mutex).lockSlow", "internal/sync.runtime_canSpin", "internal/sync.runtime_doSpin", "internal/sync.throw", "internal/sync.runtime_nanotime", "internal/sync.runtime_SemacquireMutex", "sync/atomic.AddInt32", "(*internal/sync.Mutex).Unlock", "internal/race.ReleaseMerge", "(*internal/sync.Mutex).unlockSlow", "internal/sync.fatal", "internal/sync.runtime_Semrelease"], apart := false }
def SizesBudgetsSaid : Prop := sizesBudgetsRow.holds Try.pinned (OpenSpec.ofChange sizesBudgetsSpec)

/-- ITS FALSE NEIGHBOUR: 'it returns false'. Refute it at one input. -/
def sizesBudgetsWrong : ChangeSpec := { name := "sizesBudgets", fn := fun _ => fun
  | [d1, d2] => { results := [.lit (.bool false)], args := [d1, d2] }
  | _ => none }
def SizesBudgetsWrongFalsely : Prop := sizesBudgetsRow.holds Try.pinned (OpenSpec.ofChange sizesBudgetsWrong)

/-- 'satchellaw01.SizesRanges': WHATEVER THE INPUT: true; the input reads as it did. -/
def sizesRangesSpec : ChangeSpec := { name := "sizesRanges", fn := fun _ => fun
  | [d] => { results := [.lit (.bool true)], args := [d] }
  | _ => none }
def sizesRangesRow : OpenClaim := { program := "ytanbicpkdkcpbaa", sum := "da80d3e459d7ffaf9c9f4c6cf48b8fee943950e5eee957319d5e5ed95efee1e0", func := "satchel/satchellaw01.SizesRanges", spec := "sizesRanges", apart := false }
def SizesRangesSaid : Prop := sizesRangesRow.holds Try.pinned (OpenSpec.ofChange sizesRangesSpec)

/-- ITS FALSE NEIGHBOUR: 'it returns false'. Refute it at one input. -/
def sizesRangesWrong : ChangeSpec := { name := "sizesRanges", fn := fun _ => fun
  | [d] => { results := [.lit (.bool false)], args := [d] }
  | _ => none }
def SizesRangesWrongFalsely : Prop := sizesRangesRow.holds Try.pinned (OpenSpec.ofChange sizesRangesWrong)

/-- 'satchellaw01.SizesSet': WHATEVER THE INPUT: true; the input reads as it did. -/
def sizesSetSpec : ChangeSpec := { name := "sizesSet", fn := fun _ => fun
  | [d1, d2, d3] => { results := [.lit (.bool true)], args := [d1, d2, d3] }
  | _ => none }
def sizesSetRow : OpenClaim := { program := "ytanbicpkdkcpbaa", sum := "da80d3e459d7ffaf9c9f4c6cf48b8fee943950e5eee957319d5e5ed95efee1e0", func := "satchel/satchellaw01.SizesSet", spec := "sizesSet", apart := false }
def SizesSetSaid : Prop := sizesSetRow.holds Try.pinned (OpenSpec.ofChange sizesSetSpec)

/-- ITS FALSE NEIGHBOUR: 'it returns false'. Refute it at one input. -/
def sizesSetWrong : ChangeSpec := { name := "sizesSet", fn := fun _ => fun
  | [d1, d2, d3] => { results := [.lit (.bool false)], args := [d1, d2, d3] }
  | _ => none }
def SizesSetWrongFalsely : Prop := sizesSetRow.holds Try.pinned (OpenSpec.ofChange sizesSetWrong)

/- THE SECOND FORM. 'bulk': how many values and letters a reading holds, each counted each time it is reached (what is shared counts as often as it is met; a slice's spare places count too). A statement '..UptoSaid' is the law's where the arguments, and the package variables that the reading takes, are together of bulk at most 1048576: NARROWER than '..Said'. Prove '..Said' where nothing that the law and all that it calls make is longer than what came in: it says more and counts as full. Else prove '..UptoSaid'. A law counts once. -/
mutual
def uptoBulk {H : Type} : DataW H → Nat
  | .lit (.string bytes) => bytes.length + 1
  | .lit _ => 1
  | .nil => 1
  | .ptr d => uptoBulk d + 1
  | .slice elems spare => uptoBulkAll elems + uptoBulkAll spare + 1
  | .agg parts => uptoBulkAll parts + 1
  | .iface _ d => uptoBulk d + 1
  | .map entries => uptoBulkEntries entries + 1
  | .held _ => 1
def uptoBulkAll {H : Type} : List (DataW H) → Nat
  | [] => 0
  | d :: r => uptoBulk d + uptoBulkAll r
def uptoBulkEntries {H : Type} : List (Lit × DataW H) → Nat
  | [] => 0
  | x :: r => uptoBulkEntry x + uptoBulkEntries r
def uptoBulkEntry {H : Type} : Lit × DataW H → Nat
  | (.string bytes, d) => bytes.length + uptoBulk d + 1
  | (_, d) => uptoBulk d + 1
 end
def uptoSmall : (H : Type) → List (DataW H) → Bool := fun _ ds => decide (uptoBulkAll ds ≤ 1048576)
def OpenSpec.upto (s : _root_.Go.ChangeSpec) : _root_.Go.OpenSpec := { _root_.Go.OpenSpec.ofChange s with cond := some uptoSmall }

/-- 'satchellaw01.SizesSums', WHERE WHAT IT READS IS OF BULK AT MOST 1048576: true; the input reads as it did. -/
def sizesSumsUptoRow : OpenClaim := { program := "ytanbicpkdkcpbaa", sum := "da80d3e459d7ffaf9c9f4c6cf48b8fee943950e5eee957319d5e5ed95efee1e0", func := "satchel/satchellaw01.SizesSums", spec := "sizesSums", apart := false, narrowed := true }
def SizesSumsUptoSaid : Prop := sizesSumsUptoRow.holds Try.pinned (OpenSpec.upto sizesSumsSpec)

/-- 'satchellaw01.SizesLeast', WHERE WHAT IT READS IS OF BULK AT MOST 1048576: true; the input reads as it did. -/
def sizesLeastUptoRow : OpenClaim := { program := "ytanbicpkdkcpbaa", sum := "da80d3e459d7ffaf9c9f4c6cf48b8fee943950e5eee957319d5e5ed95efee1e0", func := "satchel/satchellaw01.SizesLeast", spec := "sizesLeast", apart := false, narrowed := true }
def SizesLeastUptoSaid : Prop := sizesLeastUptoRow.holds Try.pinned (OpenSpec.upto sizesLeastSpec)

/-- 'satchellaw01.SizesMany', WHERE WHAT IT READS IS OF BULK AT MOST 1048576: true; the input reads as it did. -/
def sizesManyUptoRow : OpenClaim := { program := "ytanbicpkdkcpbaa", sum := "da80d3e459d7ffaf9c9f4c6cf48b8fee943950e5eee957319d5e5ed95efee1e0", func := "satchel/satchellaw01.SizesMany", spec := "sizesMany", inPlace := ["(*internal/sync.Mutex).Lock", "internal/race.Disable", "sync/atomic.CompareAndSwapInt32", "internal/race.Enable", "internal/race.Acquire", "(*internal/sync.Mutex).lockSlow", "internal/sync.runtime_canSpin", "internal/sync.runtime_doSpin", "internal/sync.throw", "internal/sync.runtime_nanotime", "internal/sync.runtime_SemacquireMutex", "sync/atomic.AddInt32", "(*internal/sync.Mutex).Unlock", "internal/race.ReleaseMerge", "(*internal/sync.Mutex).unlockSlow", "internal/sync.fatal", "internal/sync.runtime_Semrelease"], apart := false, narrowed := true }
def SizesManyUptoSaid : Prop := sizesManyUptoRow.holds Try.pinned (OpenSpec.upto sizesManySpec)

/-- 'satchellaw16.ReaderContents', WHERE WHAT IT READS IS OF BULK AT MOST 1048576: true; the input reads as it did. -/
def readerContentsUptoRow : OpenClaim := { program := "ytanbicpkdkcpbaa", sum := "da80d3e459d7ffaf9c9f4c6cf48b8fee943950e5eee957319d5e5ed95efee1e0", func := "satchel/satchellaw16.ReaderContents", spec := "readerContents", apart := false, narrowed := true }
def ReaderContentsUptoSaid : Prop := readerContentsUptoRow.holds Try.pinned (OpenSpec.upto readerContentsSpec)

/-- 'satchellaw01.SizesBudgets', WHERE WHAT IT READS IS OF BULK AT MOST 1048576: true; the input reads as it did. -/
def sizesBudgetsUptoRow : OpenClaim := { program := "ytanbicpkdkcpbaa", sum := "da80d3e459d7ffaf9c9f4c6cf48b8fee943950e5eee957319d5e5ed95efee1e0", func := "satchel/satchellaw01.SizesBudgets", spec := "sizesBudgets", inPlace := ["(*internal/sync.Mutex).Lock", "internal/race.Disable", "sync/atomic.CompareAndSwapInt32", "internal/race.Enable", "internal/race.Acquire", "(*internal/sync.Mutex).lockSlow", "internal/sync.runtime_canSpin", "internal/sync.runtime_doSpin", "internal/sync.throw", "internal/sync.runtime_nanotime", "internal/sync.runtime_SemacquireMutex", "sync/atomic.AddInt32", "(*internal/sync.Mutex).Unlock", "internal/race.ReleaseMerge", "(*internal/sync.Mutex).unlockSlow", "internal/sync.fatal", "internal/sync.runtime_Semrelease"], apart := false, narrowed := true }
def SizesBudgetsUptoSaid : Prop := sizesBudgetsUptoRow.holds Try.pinned (OpenSpec.upto sizesBudgetsSpec)

/-- 'satchellaw01.SizesRanges', WHERE WHAT IT READS IS OF BULK AT MOST 1048576: true; the input reads as it did. -/
def sizesRangesUptoRow : OpenClaim := { program := "ytanbicpkdkcpbaa", sum := "da80d3e459d7ffaf9c9f4c6cf48b8fee943950e5eee957319d5e5ed95efee1e0", func := "satchel/satchellaw01.SizesRanges", spec := "sizesRanges", apart := false, narrowed := true }
def SizesRangesUptoSaid : Prop := sizesRangesUptoRow.holds Try.pinned (OpenSpec.upto sizesRangesSpec)

/-- 'satchellaw01.SizesSet', WHERE WHAT IT READS IS OF BULK AT MOST 1048576: true; the input reads as it did. -/
def sizesSetUptoRow : OpenClaim := { program := "ytanbicpkdkcpbaa", sum := "da80d3e459d7ffaf9c9f4c6cf48b8fee943950e5eee957319d5e5ed95efee1e0", func := "satchel/satchellaw01.SizesSet", spec := "sizesSet", apart := false, narrowed := true }
def SizesSetUptoSaid : Prop := sizesSetUptoRow.holds Try.pinned (OpenSpec.upto sizesSetSpec)

end Rows
end Go.Proofs.Ytanbicpkdkcpbaa

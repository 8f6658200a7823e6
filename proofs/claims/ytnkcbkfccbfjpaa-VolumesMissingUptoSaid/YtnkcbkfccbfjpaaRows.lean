/-
  No cell of these rows narrows 'for every input' (looked for: loops, veiled, ifaces, maps, wideKeys, modest, calm, conditions, laid).
  DERIVED. THE GIVEN ROWS OF THIS SEAT. 11 by the template 'for every input the law returns true; each argument reads behind the call as it read before'; 0 by the template 'total and deterministic' (their statements: YtnkcbkfccbfjpaaTotals.lean).
  GIVEN WITH THE SEED: the statements are not yours to turn. If you find one false, say at which input.
  Laid BY PROGRAM, IN A SANDBOX (cutbox-rows.mjs): the forced cells as the released guide's own fill.sh prints them over the translation 50095fe0c5401359… (all of the seat's roots in one cut). By AI agents, Wed Nov 11 2026. No macro, syntax, notation, axiom, sorry.
-/
import Derived.Test.YtnkcbkfccbfjpaaChecked
import GoSem.Claim
import GoSem.ClaimJoined
import GoSem.ClaimMapViews
import Derived.JoinedTies
import Derived.KernelRfl
namespace Go.Proofs.Ytnkcbkfccbfjpaa
/- THE CELL 'sum', in the pinned program and in every row, IS THE sha256 OF THE DUMP (.gsa) THAT YtnkcbkfccbfjpaaProg.lean LOADS. Nothing in Lean hashes anything: it is a label: what it is worth is what the hold of that sum in a sandbox is worth. -/
noncomputable def Try.pinned : Pinned := { name := "ytnkcbkfccbfjpaa", sum := "50095fe0c54013597f92d93984176a17b657d8c53843dcb219844173292b5afc", checked := Try.checked }
namespace Rows
def none {H : Type} : Left H := { results := [], args := [] }

/-- 'satchellaw27.VolumesCuts': WHATEVER THE INPUT: true; the input reads as it did. -/
def volumesCutsSpec : ChangeSpec := { name := "volumesCuts", fn := fun _ => fun
  | [d] => { results := [.lit (.bool true)], args := [d] }
  | _ => none }
def volumesCutsRow : OpenClaim := { program := "ytnkcbkfccbfjpaa", sum := "50095fe0c54013597f92d93984176a17b657d8c53843dcb219844173292b5afc", func := "satchel/satchellaw27.VolumesCuts", spec := "volumesCuts", apart := false }
def VolumesCutsSaid : Prop := volumesCutsRow.holds Try.pinned (OpenSpec.ofChange volumesCutsSpec)

/-- ITS FALSE NEIGHBOUR: 'it returns false'. Refute it at one input. -/
def volumesCutsWrong : ChangeSpec := { name := "volumesCuts", fn := fun _ => fun
  | [d] => { results := [.lit (.bool false)], args := [d] }
  | _ => none }
def VolumesCutsWrongFalsely : Prop := volumesCutsRow.holds Try.pinned (OpenSpec.ofChange volumesCutsWrong)

/-- 'satchellaw02.XxhSums': WHATEVER THE INPUT: true; the input reads as it did. -/
def xxhSumsSpec : ChangeSpec := { name := "xxhSums", fn := fun _ => fun
  | [d1, d2, d3] => { results := [.lit (.bool true)], args := [d1, d2, d3] }
  | _ => none }
def xxhSumsRow : OpenClaim := { program := "ytnkcbkfccbfjpaa", sum := "50095fe0c54013597f92d93984176a17b657d8c53843dcb219844173292b5afc", func := "satchel/satchellaw02.XxhSums", spec := "xxhSums", unfollowed := true, recurses := true, apart := false }
def XxhSumsSaid : Prop := xxhSumsRow.holds Try.pinned (OpenSpec.ofChange xxhSumsSpec)

/-- ITS FALSE NEIGHBOUR: 'it returns false'. Refute it at one input. -/
def xxhSumsWrong : ChangeSpec := { name := "xxhSums", fn := fun _ => fun
  | [d1, d2, d3] => { results := [.lit (.bool false)], args := [d1, d2, d3] }
  | _ => none }
def XxhSumsWrongFalsely : Prop := xxhSumsRow.holds Try.pinned (OpenSpec.ofChange xxhSumsWrong)

/-- 'satchellaw02.XxhWord': WHATEVER THE INPUT: true; the input reads as it did. -/
def xxhWordSpec : ChangeSpec := { name := "xxhWord", fn := fun _ => fun
  | [d1, d2, d3, d4] => { results := [.lit (.bool true)], args := [d1, d2, d3, d4] }
  | _ => none }
def xxhWordRow : OpenClaim := { program := "ytnkcbkfccbfjpaa", sum := "50095fe0c54013597f92d93984176a17b657d8c53843dcb219844173292b5afc", func := "satchel/satchellaw02.XxhWord", spec := "xxhWord", unfollowed := true, recurses := true, apart := false }
def XxhWordSaid : Prop := xxhWordRow.holds Try.pinned (OpenSpec.ofChange xxhWordSpec)

/-- ITS FALSE NEIGHBOUR: 'it returns false'. Refute it at one input. -/
def xxhWordWrong : ChangeSpec := { name := "xxhWord", fn := fun _ => fun
  | [d1, d2, d3, d4] => { results := [.lit (.bool false)], args := [d1, d2, d3, d4] }
  | _ => none }
def XxhWordWrongFalsely : Prop := xxhWordRow.holds Try.pinned (OpenSpec.ofChange xxhWordWrong)

/-- 'satchellaw02.XxhLong': WHATEVER THE INPUT: true; the input reads as it did. -/
def xxhLongSpec : ChangeSpec := { name := "xxhLong", fn := fun _ => fun
  | [d1, d2, d3, d4] => { results := [.lit (.bool true)], args := [d1, d2, d3, d4] }
  | _ => none }
def xxhLongRow : OpenClaim := { program := "ytnkcbkfccbfjpaa", sum := "50095fe0c54013597f92d93984176a17b657d8c53843dcb219844173292b5afc", func := "satchel/satchellaw02.XxhLong", spec := "xxhLong", unfollowed := true, recurses := true, apart := false }
def XxhLongSaid : Prop := xxhLongRow.holds Try.pinned (OpenSpec.ofChange xxhLongSpec)

/-- ITS FALSE NEIGHBOUR: 'it returns false'. Refute it at one input. -/
def xxhLongWrong : ChangeSpec := { name := "xxhLong", fn := fun _ => fun
  | [d1, d2, d3, d4] => { results := [.lit (.bool false)], args := [d1, d2, d3, d4] }
  | _ => none }
def XxhLongWrongFalsely : Prop := xxhLongRow.holds Try.pinned (OpenSpec.ofChange xxhLongWrong)

/-- 'satchellaw02.XxhSeeds': WHATEVER THE INPUT: true; the input reads as it did. -/
def xxhSeedsSpec : ChangeSpec := { name := "xxhSeeds", fn := fun _ => fun
  | [d1, d2, d3] => { results := [.lit (.bool true)], args := [d1, d2, d3] }
  | _ => none }
def xxhSeedsRow : OpenClaim := { program := "ytnkcbkfccbfjpaa", sum := "50095fe0c54013597f92d93984176a17b657d8c53843dcb219844173292b5afc", func := "satchel/satchellaw02.XxhSeeds", spec := "xxhSeeds", unfollowed := true, recurses := true, apart := false }
def XxhSeedsSaid : Prop := xxhSeedsRow.holds Try.pinned (OpenSpec.ofChange xxhSeedsSpec)

/-- ITS FALSE NEIGHBOUR: 'it returns false'. Refute it at one input. -/
def xxhSeedsWrong : ChangeSpec := { name := "xxhSeeds", fn := fun _ => fun
  | [d1, d2, d3] => { results := [.lit (.bool false)], args := [d1, d2, d3] }
  | _ => none }
def XxhSeedsWrongFalsely : Prop := xxhSeedsRow.holds Try.pinned (OpenSpec.ofChange xxhSeedsWrong)

/-- 'satchellaw02.XxhPieces': WHATEVER THE INPUT: true; the input reads as it did. -/
def xxhPiecesSpec : ChangeSpec := { name := "xxhPieces", fn := fun _ => fun
  | [d1, d2, d3] => { results := [.lit (.bool true)], args := [d1, d2, d3] }
  | _ => none }
def xxhPiecesRow : OpenClaim := { program := "ytnkcbkfccbfjpaa", sum := "50095fe0c54013597f92d93984176a17b657d8c53843dcb219844173292b5afc", func := "satchel/satchellaw02.XxhPieces", spec := "xxhPieces", unfollowed := true, recurses := true, apart := false }
def XxhPiecesSaid : Prop := xxhPiecesRow.holds Try.pinned (OpenSpec.ofChange xxhPiecesSpec)

/-- ITS FALSE NEIGHBOUR: 'it returns false'. Refute it at one input. -/
def xxhPiecesWrong : ChangeSpec := { name := "xxhPieces", fn := fun _ => fun
  | [d1, d2, d3] => { results := [.lit (.bool false)], args := [d1, d2, d3] }
  | _ => none }
def XxhPiecesWrongFalsely : Prop := xxhPiecesRow.holds Try.pinned (OpenSpec.ofChange xxhPiecesWrong)

/-- 'satchellaw02.XxhDigests': WHATEVER THE INPUT: true; the input reads as it did. -/
def xxhDigestsSpec : ChangeSpec := { name := "xxhDigests", fn := fun _ => fun
  | [d1, d2, d3] => { results := [.lit (.bool true)], args := [d1, d2, d3] }
  | _ => none }
def xxhDigestsRow : OpenClaim := { program := "ytnkcbkfccbfjpaa", sum := "50095fe0c54013597f92d93984176a17b657d8c53843dcb219844173292b5afc", func := "satchel/satchellaw02.XxhDigests", spec := "xxhDigests", unfollowed := true, recurses := true, apart := false }
def XxhDigestsSaid : Prop := xxhDigestsRow.holds Try.pinned (OpenSpec.ofChange xxhDigestsSpec)

/-- ITS FALSE NEIGHBOUR: 'it returns false'. Refute it at one input. -/
def xxhDigestsWrong : ChangeSpec := { name := "xxhDigests", fn := fun _ => fun
  | [d1, d2, d3] => { results := [.lit (.bool false)], args := [d1, d2, d3] }
  | _ => none }
def XxhDigestsWrongFalsely : Prop := xxhDigestsRow.holds Try.pinned (OpenSpec.ofChange xxhDigestsWrong)

/-- 'satchellaw27.VolumesSpoilt': WHATEVER THE INPUT: true; the input reads as it did. -/
def volumesSpoiltSpec : ChangeSpec := { name := "volumesSpoilt", fn := fun _ => fun
  | [d1, d2] => { results := [.lit (.bool true)], args := [d1, d2] }
  | _ => none }
def volumesSpoiltRow : OpenClaim := { program := "ytnkcbkfccbfjpaa", sum := "50095fe0c54013597f92d93984176a17b657d8c53843dcb219844173292b5afc", func := "satchel/satchellaw27.VolumesSpoilt", spec := "volumesSpoilt", apart := false }
def VolumesSpoiltSaid : Prop := volumesSpoiltRow.holds Try.pinned (OpenSpec.ofChange volumesSpoiltSpec)

/-- ITS FALSE NEIGHBOUR: 'it returns false'. Refute it at one input. -/
def volumesSpoiltWrong : ChangeSpec := { name := "volumesSpoilt", fn := fun _ => fun
  | [d1, d2] => { results := [.lit (.bool false)], args := [d1, d2] }
  | _ => none }
def VolumesSpoiltWrongFalsely : Prop := volumesSpoiltRow.holds Try.pinned (OpenSpec.ofChange volumesSpoiltWrong)

/-- 'satchellaw27.VolumesJoined': WHATEVER THE INPUT: true; the input reads as it did. -/
def volumesJoinedSpec : ChangeSpec := { name := "volumesJoined", fn := fun _ => fun
  | [d1, d2, d3] => { results := [.lit (.bool true)], args := [d1, d2, d3] }
  | _ => none }
def volumesJoinedRow : OpenClaim := { program := "ytnkcbkfccbfjpaa", sum := "50095fe0c54013597f92d93984176a17b657d8c53843dcb219844173292b5afc", func := "satchel/satchellaw27.VolumesJoined", spec := "volumesJoined", apart := false }
def VolumesJoinedSaid : Prop := volumesJoinedRow.holds Try.pinned (OpenSpec.ofChange volumesJoinedSpec)

/-- ITS FALSE NEIGHBOUR: 'it returns false'. Refute it at one input. -/
def volumesJoinedWrong : ChangeSpec := { name := "volumesJoined", fn := fun _ => fun
  | [d1, d2, d3] => { results := [.lit (.bool false)], args := [d1, d2, d3] }
  | _ => none }
def VolumesJoinedWrongFalsely : Prop := volumesJoinedRow.holds Try.pinned (OpenSpec.ofChange volumesJoinedWrong)

/-- 'satchellaw27.VolumesMissing': WHATEVER THE INPUT: true; the input reads as it did. -/
def volumesMissingSpec : ChangeSpec := { name := "volumesMissing", fn := fun _ => fun
  | [d1, d2] => { results := [.lit (.bool true)], args := [d1, d2] }
  | _ => none }
def volumesMissingRow : OpenClaim := { program := "ytnkcbkfccbfjpaa", sum := "50095fe0c54013597f92d93984176a17b657d8c53843dcb219844173292b5afc", func := "satchel/satchellaw27.VolumesMissing", spec := "volumesMissing", apart := false }
def VolumesMissingSaid : Prop := volumesMissingRow.holds Try.pinned (OpenSpec.ofChange volumesMissingSpec)

/-- ITS FALSE NEIGHBOUR: 'it returns false'. Refute it at one input. -/
def volumesMissingWrong : ChangeSpec := { name := "volumesMissing", fn := fun _ => fun
  | [d1, d2] => { results := [.lit (.bool false)], args := [d1, d2] }
  | _ => none }
def VolumesMissingWrongFalsely : Prop := volumesMissingRow.holds Try.pinned (OpenSpec.ofChange volumesMissingWrong)

/-- 'satchellaw27.VolumesReads': WHATEVER THE INPUT: true; the input reads as it did. -/
def volumesReadsSpec : ChangeSpec := { name := "volumesReads", fn := fun _ => fun
  | [d] => { results := [.lit (.bool true)], args := [d] }
  | _ => none }
def volumesReadsRow : OpenClaim := { program := "ytnkcbkfccbfjpaa", sum := "50095fe0c54013597f92d93984176a17b657d8c53843dcb219844173292b5afc", func := "satchel/satchellaw27.VolumesReads", spec := "volumesReads", apart := false }
def VolumesReadsSaid : Prop := volumesReadsRow.holds Try.pinned (OpenSpec.ofChange volumesReadsSpec)

/-- ITS FALSE NEIGHBOUR: 'it returns false'. Refute it at one input. -/
def volumesReadsWrong : ChangeSpec := { name := "volumesReads", fn := fun _ => fun
  | [d] => { results := [.lit (.bool false)], args := [d] }
  | _ => none }
def VolumesReadsWrongFalsely : Prop := volumesReadsRow.holds Try.pinned (OpenSpec.ofChange volumesReadsWrong)

/- THE SECOND FORM. 'bulk': how many values and letters a reading holds, each counted each time it is reached (what is shared counts as often as it is met; a slice's spare places count too). A statement '..UptoSaid' is the law's where the arguments, and the package variables that the reading takes, are together of bulk at most 1048576: NARROWER than '..Said'. Prove '..Said' where nothing that the law and all that it calls make is longer than what came in: it says more and counts as full. Else prove '..UptoSaid'. A law counts once. -/
mutual
def uptoBulk {H : Type} : DataW H → Nat
  | .lit (.string bytes) => bytes.length + 1
  | .lit _ => 1
  | .nil => 1
  | .ptr d => uptoBulk d + 1
  | .slice elems spare => uptoBulkAll elems + uptoBulkAll spare + 1
  | .agg parts => uptoBulkAll parts + 1
  | .iface _ d => uptoBulk d + 1
  | .map entries => uptoBulkEntries entries + 1
  | .held _ => 1
def uptoBulkAll {H : Type} : List (DataW H) → Nat
  | [] => 0
  | d :: r => uptoBulk d + uptoBulkAll r
def uptoBulkEntries {H : Type} : List (Lit × DataW H) → Nat
  | [] => 0
  | x :: r => uptoBulkEntry x + uptoBulkEntries r
def uptoBulkEntry {H : Type} : Lit × DataW H → Nat
  | (.string bytes, d) => bytes.length + uptoBulk d + 1
  | (_, d) => uptoBulk d + 1
 end
def uptoSmall : (H : Type) → List (DataW H) → Bool := fun _ ds => decide (uptoBulkAll ds ≤ 1048576)
def OpenSpec.upto (s : _root_.Go.ChangeSpec) : _root_.Go.OpenSpec := { _root_.Go.OpenSpec.ofChange s with cond := some uptoSmall }

/-- 'satchellaw27.VolumesCuts', WHERE WHAT IT READS IS OF BULK AT MOST 1048576: true; the input reads as it did. -/
def volumesCutsUptoRow : OpenClaim := { program := "ytnkcbkfccbfjpaa", sum := "50095fe0c54013597f92d93984176a17b657d8c53843dcb219844173292b5afc", func := "satchel/satchellaw27.VolumesCuts", spec := "volumesCuts", apart := false, narrowed := true }
def VolumesCutsUptoSaid : Prop := volumesCutsUptoRow.holds Try.pinned (OpenSpec.upto volumesCutsSpec)

/-- 'satchellaw02.XxhSums', WHERE WHAT IT READS IS OF BULK AT MOST 1048576: true; the input reads as it did. -/
def xxhSumsUptoRow : OpenClaim := { program := "ytnkcbkfccbfjpaa", sum := "50095fe0c54013597f92d93984176a17b657d8c53843dcb219844173292b5afc", func := "satchel/satchellaw02.XxhSums", spec := "xxhSums", unfollowed := true, recurses := true, apart := false, narrowed := true }
def XxhSumsUptoSaid : Prop := xxhSumsUptoRow.holds Try.pinned (OpenSpec.upto xxhSumsSpec)

/-- 'satchellaw02.XxhWord', WHERE WHAT IT READS IS OF BULK AT MOST 1048576: true; the input reads as it did. -/
def xxhWordUptoRow : OpenClaim := { program := "ytnkcbkfccbfjpaa", sum := "50095fe0c54013597f92d93984176a17b657d8c53843dcb219844173292b5afc", func := "satchel/satchellaw02.XxhWord", spec := "xxhWord", unfollowed := true, recurses := true, apart := false, narrowed := true }
def XxhWordUptoSaid : Prop := xxhWordUptoRow.holds Try.pinned (OpenSpec.upto xxhWordSpec)

/-- 'satchellaw02.XxhLong', WHERE WHAT IT READS IS OF BULK AT MOST 1048576: true; the input reads as it did. -/
def xxhLongUptoRow : OpenClaim := { program := "ytnkcbkfccbfjpaa", sum := "50095fe0c54013597f92d93984176a17b657d8c53843dcb219844173292b5afc", func := "satchel/satchellaw02.XxhLong", spec := "xxhLong", unfollowed := true, recurses := true, apart := false, narrowed := true }
def XxhLongUptoSaid : Prop := xxhLongUptoRow.holds Try.pinned (OpenSpec.upto xxhLongSpec)

/-- 'satchellaw02.XxhSeeds', WHERE WHAT IT READS IS OF BULK AT MOST 1048576: true; the input reads as it did. -/
def xxhSeedsUptoRow : OpenClaim := { program := "ytnkcbkfccbfjpaa", sum := "50095fe0c54013597f92d93984176a17b657d8c53843dcb219844173292b5afc", func := "satchel/satchellaw02.XxhSeeds", spec := "xxhSeeds", unfollowed := true, recurses := true, apart := false, narrowed := true }
def XxhSeedsUptoSaid : Prop := xxhSeedsUptoRow.holds Try.pinned (OpenSpec.upto xxhSeedsSpec)

/-- 'satchellaw02.XxhPieces', WHERE WHAT IT READS IS OF BULK AT MOST 1048576: true; the input reads as it did. -/
def xxhPiecesUptoRow : OpenClaim := { program := "ytnkcbkfccbfjpaa", sum := "50095fe0c54013597f92d93984176a17b657d8c53843dcb219844173292b5afc", func := "satchel/satchellaw02.XxhPieces", spec := "xxhPieces", unfollowed := true, recurses := true, apart := false, narrowed := true }
def XxhPiecesUptoSaid : Prop := xxhPiecesUptoRow.holds Try.pinned (OpenSpec.upto xxhPiecesSpec)

/-- 'satchellaw02.XxhDigests', WHERE WHAT IT READS IS OF BULK AT MOST 1048576: true; the input reads as it did. -/
def xxhDigestsUptoRow : OpenClaim := { program := "ytnkcbkfccbfjpaa", sum := "50095fe0c54013597f92d93984176a17b657d8c53843dcb219844173292b5afc", func := "satchel/satchellaw02.XxhDigests", spec := "xxhDigests", unfollowed := true, recurses := true, apart := false, narrowed := true }
def XxhDigestsUptoSaid : Prop := xxhDigestsUptoRow.holds Try.pinned (OpenSpec.upto xxhDigestsSpec)

/-- 'satchellaw27.VolumesSpoilt', WHERE WHAT IT READS IS OF BULK AT MOST 1048576: true; the input reads as it did. -/
def volumesSpoiltUptoRow : OpenClaim := { program := "ytnkcbkfccbfjpaa", sum := "50095fe0c54013597f92d93984176a17b657d8c53843dcb219844173292b5afc", func := "satchel/satchellaw27.VolumesSpoilt", spec := "volumesSpoilt", apart := false, narrowed := true }
def VolumesSpoiltUptoSaid : Prop := volumesSpoiltUptoRow.holds Try.pinned (OpenSpec.upto volumesSpoiltSpec)

/-- 'satchellaw27.VolumesJoined', WHERE WHAT IT READS IS OF BULK AT MOST 1048576: true; the input reads as it did. -/
def volumesJoinedUptoRow : OpenClaim := { program := "ytnkcbkfccbfjpaa", sum := "50095fe0c54013597f92d93984176a17b657d8c53843dcb219844173292b5afc", func := "satchel/satchellaw27.VolumesJoined", spec := "volumesJoined", apart := false, narrowed := true }
def VolumesJoinedUptoSaid : Prop := volumesJoinedUptoRow.holds Try.pinned (OpenSpec.upto volumesJoinedSpec)

/-- 'satchellaw27.VolumesMissing', WHERE WHAT IT READS IS OF BULK AT MOST 1048576: true; the input reads as it did. -/
def volumesMissingUptoRow : OpenClaim := { program := "ytnkcbkfccbfjpaa", sum := "50095fe0c54013597f92d93984176a17b657d8c53843dcb219844173292b5afc", func := "satchel/satchellaw27.VolumesMissing", spec := "volumesMissing", apart := false, narrowed := true }
def VolumesMissingUptoSaid : Prop := volumesMissingUptoRow.holds Try.pinned (OpenSpec.upto volumesMissingSpec)

/-- 'satchellaw27.VolumesReads', WHERE WHAT IT READS IS OF BULK AT MOST 1048576: true; the input reads as it did. -/
def volumesReadsUptoRow : OpenClaim := { program := "ytnkcbkfccbfjpaa", sum := "50095fe0c54013597f92d93984176a17b657d8c53843dcb219844173292b5afc", func := "satchel/satchellaw27.VolumesReads", spec := "volumesReads", apart := false, narrowed := true }
def VolumesReadsUptoSaid : Prop := volumesReadsUptoRow.holds Try.pinned (OpenSpec.upto volumesReadsSpec)

end Rows
end Go.Proofs.Ytnkcbkfccbfjpaa

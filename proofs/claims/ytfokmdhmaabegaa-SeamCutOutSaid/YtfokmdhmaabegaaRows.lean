/-
  No cell of these rows narrows 'for every input' (looked for: loops, veiled, ifaces, maps, wideKeys, modest, calm, conditions, laid).
  DERIVED. THE GIVEN ROWS OF THIS SEAT. 12 by the template 'for every input the law returns true; each argument reads behind the call as it read before'; 0 by the template 'total and deterministic' (their statements: YtfokmdhmaabegaaTotals.lean).
  GIVEN WITH THE SEED: the statements are not yours to turn. If you find one false, say at which input.
  Laid BY PROGRAM, IN A SANDBOX (cutbox-rows.mjs): the forced cells as the released guide's own fill.sh prints them over the translation 3ca340d3c3d04cfe… (all of the seat's roots in one cut). By AI agents, Wed Nov 11 2026. No macro, syntax, notation, axiom, sorry.
-/
import Derived.Test.YtfokmdhmaabegaaChecked
import GoSem.Claim
import GoSem.ClaimJoined
import GoSem.ClaimMapViews
import Derived.JoinedTies
import Derived.KernelRfl
namespace Go.Proofs.Ytfokmdhmaabegaa
/- THE CELL 'sum', in the pinned program and in every row, IS THE sha256 OF THE DUMP (.gsa) THAT YtfokmdhmaabegaaProg.lean LOADS. Nothing in Lean hashes anything: it is a label: what it is worth is what the hold of that sum in a sandbox is worth. -/
noncomputable def Try.pinned : Pinned := { name := "ytfokmdhmaabegaa", sum := "3ca340d3c3d04cfeb50ab926e7f1b26d1a908ae13f207430dde3f4f569e6b62e", checked := Try.checked }
namespace Rows
def none {H : Type} : Left H := { results := [], args := [] }

/-- 'griffelaw07.SeamAheads': WHATEVER THE INPUT: true; the input reads as it did. -/
def seamAheadsSpec : ChangeSpec := { name := "seamAheads", fn := fun _ => fun
  | [d] => { results := [.lit (.bool true)], args := [d] }
  | _ => none }
def seamAheadsRow : OpenClaim := { program := "ytfokmdhmaabegaa", sum := "3ca340d3c3d04cfeb50ab926e7f1b26d1a908ae13f207430dde3f4f569e6b62e", func := "griffe/griffelaw07.SeamAheads", spec := "seamAheads", unfollowed := true, recurses := true, apart := false }
def SeamAheadsSaid : Prop := seamAheadsRow.holds Try.pinned (OpenSpec.ofChange seamAheadsSpec)

/-- ITS FALSE NEIGHBOUR: 'it returns false'. Refute it at one input. -/
def seamAheadsWrong : ChangeSpec := { name := "seamAheads", fn := fun _ => fun
  | [d] => { results := [.lit (.bool false)], args := [d] }
  | _ => none }
def SeamAheadsWrongFalsely : Prop := seamAheadsRow.holds Try.pinned (OpenSpec.ofChange seamAheadsWrong)

/-- 'griffelaw07.SeamParts': WHATEVER THE INPUT: true; the input reads as it did. -/
def seamPartsSpec : ChangeSpec := { name := "seamParts", fn := fun _ => fun
  | [d1, d2] => { results := [.lit (.bool true)], args := [d1, d2] }
  | _ => none }
def seamPartsRow : OpenClaim := { program := "ytfokmdhmaabegaa", sum := "3ca340d3c3d04cfeb50ab926e7f1b26d1a908ae13f207430dde3f4f569e6b62e", func := "griffe/griffelaw07.SeamParts", spec := "seamParts", unfollowed := true, recurses := true, apart := false }
def SeamPartsSaid : Prop := seamPartsRow.holds Try.pinned (OpenSpec.ofChange seamPartsSpec)

/-- ITS FALSE NEIGHBOUR: 'it returns false'. Refute it at one input. -/
def seamPartsWrong : ChangeSpec := { name := "seamParts", fn := fun _ => fun
  | [d1, d2] => { results := [.lit (.bool false)], args := [d1, d2] }
  | _ => none }
def SeamPartsWrongFalsely : Prop := seamPartsRow.holds Try.pinned (OpenSpec.ofChange seamPartsWrong)

/-- 'griffelaw07.SeamMarks': WHATEVER THE INPUT: true; the input reads as it did. -/
def seamMarksSpec : ChangeSpec := { name := "seamMarks", fn := fun _ => fun
  | [d1, d2] => { results := [.lit (.bool true)], args := [d1, d2] }
  | _ => none }
def seamMarksRow : OpenClaim := { program := "ytfokmdhmaabegaa", sum := "3ca340d3c3d04cfeb50ab926e7f1b26d1a908ae13f207430dde3f4f569e6b62e", func := "griffe/griffelaw07.SeamMarks", spec := "seamMarks", unfollowed := true, recurses := true, apart := false }
def SeamMarksSaid : Prop := seamMarksRow.holds Try.pinned (OpenSpec.ofChange seamMarksSpec)

/-- ITS FALSE NEIGHBOUR: 'it returns false'. Refute it at one input. -/
def seamMarksWrong : ChangeSpec := { name := "seamMarks", fn := fun _ => fun
  | [d1, d2] => { results := [.lit (.bool false)], args := [d1, d2] }
  | _ => none }
def SeamMarksWrongFalsely : Prop := seamMarksRow.holds Try.pinned (OpenSpec.ofChange seamMarksWrong)

/-- 'griffelaw07.SeamShows': WHATEVER THE INPUT: true; the input reads as it did. -/
def seamShowsSpec : ChangeSpec := { name := "seamShows", fn := fun _ => fun
  | [d1, d2, d3] => { results := [.lit (.bool true)], args := [d1, d2, d3] }
  | _ => none }
def seamShowsRow : OpenClaim := { program := "ytfokmdhmaabegaa", sum := "3ca340d3c3d04cfeb50ab926e7f1b26d1a908ae13f207430dde3f4f569e6b62e", func := "griffe/griffelaw07.SeamShows", spec := "seamShows", unfollowed := true, recurses := true, apart := false }
def SeamShowsSaid : Prop := seamShowsRow.holds Try.pinned (OpenSpec.ofChange seamShowsSpec)

/-- ITS FALSE NEIGHBOUR: 'it returns false'. Refute it at one input. -/
def seamShowsWrong : ChangeSpec := { name := "seamShows", fn := fun _ => fun
  | [d1, d2, d3] => { results := [.lit (.bool false)], args := [d1, d2, d3] }
  | _ => none }
def SeamShowsWrongFalsely : Prop := seamShowsRow.holds Try.pinned (OpenSpec.ofChange seamShowsWrong)

/-- 'griffelaw07.SeamCuts': WHATEVER THE INPUT: true; the input reads as it did. -/
def seamCutsSpec : ChangeSpec := { name := "seamCuts", fn := fun _ => fun
  | [d1, d2, d3] => { results := [.lit (.bool true)], args := [d1, d2, d3] }
  | _ => none }
def seamCutsRow : OpenClaim := { program := "ytfokmdhmaabegaa", sum := "3ca340d3c3d04cfeb50ab926e7f1b26d1a908ae13f207430dde3f4f569e6b62e", func := "griffe/griffelaw07.SeamCuts", spec := "seamCuts", unfollowed := true, recurses := true, apart := false }
def SeamCutsSaid : Prop := seamCutsRow.holds Try.pinned (OpenSpec.ofChange seamCutsSpec)

/-- ITS FALSE NEIGHBOUR: 'it returns false'. Refute it at one input. -/
def seamCutsWrong : ChangeSpec := { name := "seamCuts", fn := fun _ => fun
  | [d1, d2, d3] => { results := [.lit (.bool false)], args := [d1, d2, d3] }
  | _ => none }
def SeamCutsWrongFalsely : Prop := seamCutsRow.holds Try.pinned (OpenSpec.ofChange seamCutsWrong)

/-- 'griffelaw07.SeamPieces': WHATEVER THE INPUT: true; the input reads as it did. -/
def seamPiecesSpec : ChangeSpec := { name := "seamPieces", fn := fun _ => fun
  | [d1, d2, d3] => { results := [.lit (.bool true)], args := [d1, d2, d3] }
  | _ => none }
def seamPiecesRow : OpenClaim := { program := "ytfokmdhmaabegaa", sum := "3ca340d3c3d04cfeb50ab926e7f1b26d1a908ae13f207430dde3f4f569e6b62e", func := "griffe/griffelaw07.SeamPieces", spec := "seamPieces", unfollowed := true, recurses := true, apart := false }
def SeamPiecesSaid : Prop := seamPiecesRow.holds Try.pinned (OpenSpec.ofChange seamPiecesSpec)

/-- ITS FALSE NEIGHBOUR: 'it returns false'. Refute it at one input. -/
def seamPiecesWrong : ChangeSpec := { name := "seamPieces", fn := fun _ => fun
  | [d1, d2, d3] => { results := [.lit (.bool false)], args := [d1, d2, d3] }
  | _ => none }
def SeamPiecesWrongFalsely : Prop := seamPiecesRow.holds Try.pinned (OpenSpec.ofChange seamPiecesWrong)

/-- 'griffelaw07.SeamMatched': WHATEVER THE INPUT: true; the input reads as it did. -/
def seamMatchedSpec : ChangeSpec := { name := "seamMatched", fn := fun _ => fun
  | [d1, d2] => { results := [.lit (.bool true)], args := [d1, d2] }
  | _ => none }
def seamMatchedRow : OpenClaim := { program := "ytfokmdhmaabegaa", sum := "3ca340d3c3d04cfeb50ab926e7f1b26d1a908ae13f207430dde3f4f569e6b62e", func := "griffe/griffelaw07.SeamMatched", spec := "seamMatched", unfollowed := true, recurses := true, apart := false }
def SeamMatchedSaid : Prop := seamMatchedRow.holds Try.pinned (OpenSpec.ofChange seamMatchedSpec)

/-- ITS FALSE NEIGHBOUR: 'it returns false'. Refute it at one input. -/
def seamMatchedWrong : ChangeSpec := { name := "seamMatched", fn := fun _ => fun
  | [d1, d2] => { results := [.lit (.bool false)], args := [d1, d2] }
  | _ => none }
def SeamMatchedWrongFalsely : Prop := seamMatchedRow.holds Try.pinned (OpenSpec.ofChange seamMatchedWrong)

/-- 'griffelaw07.SeamMore': WHATEVER THE INPUT: true; the input reads as it did. -/
def seamMoreSpec : ChangeSpec := { name := "seamMore", fn := fun _ => fun
  | [d1, d2, d3] => { results := [.lit (.bool true)], args := [d1, d2, d3] }
  | _ => none }
def seamMoreRow : OpenClaim := { program := "ytfokmdhmaabegaa", sum := "3ca340d3c3d04cfeb50ab926e7f1b26d1a908ae13f207430dde3f4f569e6b62e", func := "griffe/griffelaw07.SeamMore", spec := "seamMore", unfollowed := true, recurses := true, apart := false }
def SeamMoreSaid : Prop := seamMoreRow.holds Try.pinned (OpenSpec.ofChange seamMoreSpec)

/-- ITS FALSE NEIGHBOUR: 'it returns false'. Refute it at one input. -/
def seamMoreWrong : ChangeSpec := { name := "seamMore", fn := fun _ => fun
  | [d1, d2, d3] => { results := [.lit (.bool false)], args := [d1, d2, d3] }
  | _ => none }
def SeamMoreWrongFalsely : Prop := seamMoreRow.holds Try.pinned (OpenSpec.ofChange seamMoreWrong)

/-- 'griffelaw07.SeamAlike': WHATEVER THE INPUT: true; the input reads as it did. -/
def seamAlikeSpec : ChangeSpec := { name := "seamAlike", fn := fun _ => fun
  | [d] => { results := [.lit (.bool true)], args := [d] }
  | _ => none }
def seamAlikeRow : OpenClaim := { program := "ytfokmdhmaabegaa", sum := "3ca340d3c3d04cfeb50ab926e7f1b26d1a908ae13f207430dde3f4f569e6b62e", func := "griffe/griffelaw07.SeamAlike", spec := "seamAlike", unfollowed := true, recurses := true, apart := false }
def SeamAlikeSaid : Prop := seamAlikeRow.holds Try.pinned (OpenSpec.ofChange seamAlikeSpec)

/-- ITS FALSE NEIGHBOUR: 'it returns false'. Refute it at one input. -/
def seamAlikeWrong : ChangeSpec := { name := "seamAlike", fn := fun _ => fun
  | [d] => { results := [.lit (.bool false)], args := [d] }
  | _ => none }
def SeamAlikeWrongFalsely : Prop := seamAlikeRow.holds Try.pinned (OpenSpec.ofChange seamAlikeWrong)

/-- 'griffelaw07.SeamCutOut': WHATEVER THE INPUT: true; the input reads as it did. -/
def seamCutOutSpec : ChangeSpec := { name := "seamCutOut", fn := fun _ => fun
  | [d1, d2, d3] => { results := [.lit (.bool true)], args := [d1, d2, d3] }
  | _ => none }
def seamCutOutRow : OpenClaim := { program := "ytfokmdhmaabegaa", sum := "3ca340d3c3d04cfeb50ab926e7f1b26d1a908ae13f207430dde3f4f569e6b62e", func := "griffe/griffelaw07.SeamCutOut", spec := "seamCutOut", unfollowed := true, recurses := true, apart := false }
def SeamCutOutSaid : Prop := seamCutOutRow.holds Try.pinned (OpenSpec.ofChange seamCutOutSpec)

/-- ITS FALSE NEIGHBOUR: 'it returns false'. Refute it at one input. -/
def seamCutOutWrong : ChangeSpec := { name := "seamCutOut", fn := fun _ => fun
  | [d1, d2, d3] => { results := [.lit (.bool false)], args := [d1, d2, d3] }
  | _ => none }
def SeamCutOutWrongFalsely : Prop := seamCutOutRow.holds Try.pinned (OpenSpec.ofChange seamCutOutWrong)

/-- 'griffelaw07.SeamRuns': WHATEVER THE INPUT: true; the input reads as it did. -/
def seamRunsSpec : ChangeSpec := { name := "seamRuns", fn := fun _ => fun
  | [d1, d2] => { results := [.lit (.bool true)], args := [d1, d2] }
  | _ => none }
def seamRunsRow : OpenClaim := { program := "ytfokmdhmaabegaa", sum := "3ca340d3c3d04cfeb50ab926e7f1b26d1a908ae13f207430dde3f4f569e6b62e", func := "griffe/griffelaw07.SeamRuns", spec := "seamRuns", unfollowed := true, recurses := true, apart := false }
def SeamRunsSaid : Prop := seamRunsRow.holds Try.pinned (OpenSpec.ofChange seamRunsSpec)

/-- ITS FALSE NEIGHBOUR: 'it returns false'. Refute it at one input. -/
def seamRunsWrong : ChangeSpec := { name := "seamRuns", fn := fun _ => fun
  | [d1, d2] => { results := [.lit (.bool false)], args := [d1, d2] }
  | _ => none }
def SeamRunsWrongFalsely : Prop := seamRunsRow.holds Try.pinned (OpenSpec.ofChange seamRunsWrong)

/-- 'griffelaw07.SeamStretch': WHATEVER THE INPUT: true; the input reads as it did. -/
def seamStretchSpec : ChangeSpec := { name := "seamStretch", fn := fun _ => fun
  | [d1, d2] => { results := [.lit (.bool true)], args := [d1, d2] }
  | _ => none }
def seamStretchRow : OpenClaim := { program := "ytfokmdhmaabegaa", sum := "3ca340d3c3d04cfeb50ab926e7f1b26d1a908ae13f207430dde3f4f569e6b62e", func := "griffe/griffelaw07.SeamStretch", spec := "seamStretch", unfollowed := true, recurses := true, apart := false }
def SeamStretchSaid : Prop := seamStretchRow.holds Try.pinned (OpenSpec.ofChange seamStretchSpec)

/-- ITS FALSE NEIGHBOUR: 'it returns false'. Refute it at one input. -/
def seamStretchWrong : ChangeSpec := { name := "seamStretch", fn := fun _ => fun
  | [d1, d2] => { results := [.lit (.bool false)], args := [d1, d2] }
  | _ => none }
def SeamStretchWrongFalsely : Prop := seamStretchRow.holds Try.pinned (OpenSpec.ofChange seamStretchWrong)

/- THE SECOND FORM. 'bulk': how many values and letters a reading holds, each counted each time it is reached (what is shared counts as often as it is met; a slice's spare places count too). A statement '..UptoSaid' is the law's where the arguments, and the package variables that the reading takes, are together of bulk at most 1048576: NARROWER than '..Said'. Prove '..Said' where nothing that the law and all that it calls make is longer than what came in: it says more and counts as full. Else prove '..UptoSaid'. A law counts once. -/
mutual
def uptoBulk {H : Type} : DataW H → Nat
  | .lit (.string bytes) => bytes.length + 1
  | .lit _ => 1
  | .nil => 1
  | .ptr d => uptoBulk d + 1
  | .slice elems spare => uptoBulkAll elems + uptoBulkAll spare + 1
  | .agg parts => uptoBulkAll parts + 1
  | .iface _ d => uptoBulk d + 1
  | .map entries => uptoBulkEntries entries + 1
  | .held _ => 1
def uptoBulkAll {H : Type} : List (DataW H) → Nat
  | [] => 0
  | d :: r => uptoBulk d + uptoBulkAll r
def uptoBulkEntries {H : Type} : List (Lit × DataW H) → Nat
  | [] => 0
  | x :: r => uptoBulkEntry x + uptoBulkEntries r
def uptoBulkEntry {H : Type} : Lit × DataW H → Nat
  | (.string bytes, d) => bytes.length + uptoBulk d + 1
  | (_, d) => uptoBulk d + 1
 end
def uptoSmall : (H : Type) → List (DataW H) → Bool := fun _ ds => decide (uptoBulkAll ds ≤ 1048576)
def OpenSpec.upto (s : _root_.Go.ChangeSpec) : _root_.Go.OpenSpec := { _root_.Go.OpenSpec.ofChange s with cond := some uptoSmall }

/-- 'griffelaw07.SeamAheads', WHERE WHAT IT READS IS OF BULK AT MOST 1048576: true; the input reads as it did. -/
def seamAheadsUptoRow : OpenClaim := { program := "ytfokmdhmaabegaa", sum := "3ca340d3c3d04cfeb50ab926e7f1b26d1a908ae13f207430dde3f4f569e6b62e", func := "griffe/griffelaw07.SeamAheads", spec := "seamAheads", unfollowed := true, recurses := true, apart := false, narrowed := true }
def SeamAheadsUptoSaid : Prop := seamAheadsUptoRow.holds Try.pinned (OpenSpec.upto seamAheadsSpec)

/-- 'griffelaw07.SeamParts', WHERE WHAT IT READS IS OF BULK AT MOST 1048576: true; the input reads as it did. -/
def seamPartsUptoRow : OpenClaim := { program := "ytfokmdhmaabegaa", sum := "3ca340d3c3d04cfeb50ab926e7f1b26d1a908ae13f207430dde3f4f569e6b62e", func := "griffe/griffelaw07.SeamParts", spec := "seamParts", unfollowed := true, recurses := true, apart := false, narrowed := true }
def SeamPartsUptoSaid : Prop := seamPartsUptoRow.holds Try.pinned (OpenSpec.upto seamPartsSpec)

/-- 'griffelaw07.SeamMarks', WHERE WHAT IT READS IS OF BULK AT MOST 1048576: true; the input reads as it did. -/
def seamMarksUptoRow : OpenClaim := { program := "ytfokmdhmaabegaa", sum := "3ca340d3c3d04cfeb50ab926e7f1b26d1a908ae13f207430dde3f4f569e6b62e", func := "griffe/griffelaw07.SeamMarks", spec := "seamMarks", unfollowed := true, recurses := true, apart := false, narrowed := true }
def SeamMarksUptoSaid : Prop := seamMarksUptoRow.holds Try.pinned (OpenSpec.upto seamMarksSpec)

/-- 'griffelaw07.SeamShows', WHERE WHAT IT READS IS OF BULK AT MOST 1048576: true; the input reads as it did. -/
def seamShowsUptoRow : OpenClaim := { program := "ytfokmdhmaabegaa", sum := "3ca340d3c3d04cfeb50ab926e7f1b26d1a908ae13f207430dde3f4f569e6b62e", func := "griffe/griffelaw07.SeamShows", spec := "seamShows", unfollowed := true, recurses := true, apart := false, narrowed := true }
def SeamShowsUptoSaid : Prop := seamShowsUptoRow.holds Try.pinned (OpenSpec.upto seamShowsSpec)

/-- 'griffelaw07.SeamCuts', WHERE WHAT IT READS IS OF BULK AT MOST 1048576: true; the input reads as it did. -/
def seamCutsUptoRow : OpenClaim := { program := "ytfokmdhmaabegaa", sum := "3ca340d3c3d04cfeb50ab926e7f1b26d1a908ae13f207430dde3f4f569e6b62e", func := "griffe/griffelaw07.SeamCuts", spec := "seamCuts", unfollowed := true, recurses := true, apart := false, narrowed := true }
def SeamCutsUptoSaid : Prop := seamCutsUptoRow.holds Try.pinned (OpenSpec.upto seamCutsSpec)

/-- 'griffelaw07.SeamPieces', WHERE WHAT IT READS IS OF BULK AT MOST 1048576: true; the input reads as it did. -/
def seamPiecesUptoRow : OpenClaim := { program := "ytfokmdhmaabegaa", sum := "3ca340d3c3d04cfeb50ab926e7f1b26d1a908ae13f207430dde3f4f569e6b62e", func := "griffe/griffelaw07.SeamPieces", spec := "seamPieces", unfollowed := true, recurses := true, apart := false, narrowed := true }
def SeamPiecesUptoSaid : Prop := seamPiecesUptoRow.holds Try.pinned (OpenSpec.upto seamPiecesSpec)

/-- 'griffelaw07.SeamMatched', WHERE WHAT IT READS IS OF BULK AT MOST 1048576: true; the input reads as it did. -/
def seamMatchedUptoRow : OpenClaim := { program := "ytfokmdhmaabegaa", sum := "3ca340d3c3d04cfeb50ab926e7f1b26d1a908ae13f207430dde3f4f569e6b62e", func := "griffe/griffelaw07.SeamMatched", spec := "seamMatched", unfollowed := true, recurses := true, apart := false, narrowed := true }
def SeamMatchedUptoSaid : Prop := seamMatchedUptoRow.holds Try.pinned (OpenSpec.upto seamMatchedSpec)

/-- 'griffelaw07.SeamMore', WHERE WHAT IT READS IS OF BULK AT MOST 1048576: true; the input reads as it did. -/
def seamMoreUptoRow : OpenClaim := { program := "ytfokmdhmaabegaa", sum := "3ca340d3c3d04cfeb50ab926e7f1b26d1a908ae13f207430dde3f4f569e6b62e", func := "griffe/griffelaw07.SeamMore", spec := "seamMore", unfollowed := true, recurses := true, apart := false, narrowed := true }
def SeamMoreUptoSaid : Prop := seamMoreUptoRow.holds Try.pinned (OpenSpec.upto seamMoreSpec)

/-- 'griffelaw07.SeamAlike', WHERE WHAT IT READS IS OF BULK AT MOST 1048576: true; the input reads as it did. -/
def seamAlikeUptoRow : OpenClaim := { program := "ytfokmdhmaabegaa", sum := "3ca340d3c3d04cfeb50ab926e7f1b26d1a908ae13f207430dde3f4f569e6b62e", func := "griffe/griffelaw07.SeamAlike", spec := "seamAlike", unfollowed := true, recurses := true, apart := false, narrowed := true }
def SeamAlikeUptoSaid : Prop := seamAlikeUptoRow.holds Try.pinned (OpenSpec.upto seamAlikeSpec)

/-- 'griffelaw07.SeamCutOut', WHERE WHAT IT READS IS OF BULK AT MOST 1048576: true; the input reads as it did. -/
def seamCutOutUptoRow : OpenClaim := { program := "ytfokmdhmaabegaa", sum := "3ca340d3c3d04cfeb50ab926e7f1b26d1a908ae13f207430dde3f4f569e6b62e", func := "griffe/griffelaw07.SeamCutOut", spec := "seamCutOut", unfollowed := true, recurses := true, apart := false, narrowed := true }
def SeamCutOutUptoSaid : Prop := seamCutOutUptoRow.holds Try.pinned (OpenSpec.upto seamCutOutSpec)

/-- 'griffelaw07.SeamRuns', WHERE WHAT IT READS IS OF BULK AT MOST 1048576: true; the input reads as it did. -/
def seamRunsUptoRow : OpenClaim := { program := "ytfokmdhmaabegaa", sum := "3ca340d3c3d04cfeb50ab926e7f1b26d1a908ae13f207430dde3f4f569e6b62e", func := "griffe/griffelaw07.SeamRuns", spec := "seamRuns", unfollowed := true, recurses := true, apart := false, narrowed := true }
def SeamRunsUptoSaid : Prop := seamRunsUptoRow.holds Try.pinned (OpenSpec.upto seamRunsSpec)

/-- 'griffelaw07.SeamStretch', WHERE WHAT IT READS IS OF BULK AT MOST 1048576: true; the input reads as it did. -/
def seamStretchUptoRow : OpenClaim := { program := "ytfokmdhmaabegaa", sum := "3ca340d3c3d04cfeb50ab926e7f1b26d1a908ae13f207430dde3f4f569e6b62e", func := "griffe/griffelaw07.SeamStretch", spec := "seamStretch", unfollowed := true, recurses := true, apart := false, narrowed := true }
def SeamStretchUptoSaid : Prop := seamStretchUptoRow.holds Try.pinned (OpenSpec.upto seamStretchSpec)

end Rows
end Go.Proofs.Ytfokmdhmaabegaa

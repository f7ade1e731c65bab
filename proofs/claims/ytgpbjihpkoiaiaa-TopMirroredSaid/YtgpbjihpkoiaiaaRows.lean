/-
  No cell of these rows narrows 'for every input' (looked for: loops, veiled, ifaces, maps, wideKeys, modest, calm, conditions, laid).
  DERIVED. THE GIVEN ROWS OF THIS SEAT. 6 by the template 'for every input the law returns true; each argument reads behind the call as it read before'; 0 by the template 'total and deterministic' (their statements: YtgpbjihpkoiaiaaTotals.lean).
  GIVEN WITH THE SEED: the statements are not yours to turn. If you find one false, say at which input.
  Laid BY PROGRAM, IN A SANDBOX (cutbox-rows.mjs): the forced cells as the released guide's own fill.sh prints them over the translation ff4eb8f7f0742040… (all of the seat's roots in one cut). By AI agents, Wed Nov 11 2026. No macro, syntax, notation, axiom, sorry.
-/
import Derived.Test.YtgpbjihpkoiaiaaChecked
import GoSem.Claim
import GoSem.ClaimJoined
import GoSem.ClaimMapViews
import Derived.JoinedTies
import Derived.KernelRfl
namespace Go.Proofs.Ytgpbjihpkoiaiaa
/- THE CELL 'sum', in the pinned program and in every row, IS THE sha256 OF THE DUMP (.gsa) THAT YtgpbjihpkoiaiaaProg.lean LOADS. Nothing in Lean hashes anything: it is a label: what it is worth is what the hold of that sum in a sandbox is worth. -/
noncomputable def Try.pinned : Pinned := { name := "ytgpbjihpkoiaiaa", sum := "ff4eb8f7f0742040555ded6620089bc13c4685028c2d25c2dfe1cd1d67306517", checked := Try.checked }
namespace Rows
def none {H : Type} : Left H := { results := [], args := [] }

/-- 'griffetop.TopMatched': WHATEVER THE INPUT: true; the input reads as it did. -/
def topMatchedSpec : ChangeSpec := { name := "topMatched", fn := fun _ => fun
  | [d1, d2, d3] => { results := [.lit (.bool true)], args := [d1, d2, d3] }
  | _ => none }
def topMatchedRow : OpenClaim := { program := "ytgpbjihpkoiaiaa", sum := "ff4eb8f7f0742040555ded6620089bc13c4685028c2d25c2dfe1cd1d67306517", func := "griffe/griffetop.TopMatched", spec := "topMatched", inPlace := ["internal/abi.NoEscape"], unfollowed := true, recurses := true, plainKeys := false, apart := false }
def TopMatchedSaid : Prop := topMatchedRow.holds Try.pinned (OpenSpec.ofChange topMatchedSpec)

/-- ITS FALSE NEIGHBOUR: 'it returns false'. Refute it at one input. -/
def topMatchedWrong : ChangeSpec := { name := "topMatched", fn := fun _ => fun
  | [d1, d2, d3] => { results := [.lit (.bool false)], args := [d1, d2, d3] }
  | _ => none }
def TopMatchedWrongFalsely : Prop := topMatchedRow.holds Try.pinned (OpenSpec.ofChange topMatchedWrong)

/-- 'griffetop.TopRepeats': WHATEVER THE INPUT: true; the input reads as it did. -/
def topRepeatsSpec : ChangeSpec := { name := "topRepeats", fn := fun _ => fun
  | [d1, d2, d3] => { results := [.lit (.bool true)], args := [d1, d2, d3] }
  | _ => none }
def topRepeatsRow : OpenClaim := { program := "ytgpbjihpkoiaiaa", sum := "ff4eb8f7f0742040555ded6620089bc13c4685028c2d25c2dfe1cd1d67306517", func := "griffe/griffetop.TopRepeats", spec := "topRepeats", inPlace := ["internal/abi.NoEscape"], unfollowed := true, recurses := true, plainKeys := false, apart := false }
def TopRepeatsSaid : Prop := topRepeatsRow.holds Try.pinned (OpenSpec.ofChange topRepeatsSpec)

/-- ITS FALSE NEIGHBOUR: 'it returns false'. Refute it at one input. -/
def topRepeatsWrong : ChangeSpec := { name := "topRepeats", fn := fun _ => fun
  | [d1, d2, d3] => { results := [.lit (.bool false)], args := [d1, d2, d3] }
  | _ => none }
def TopRepeatsWrongFalsely : Prop := topRepeatsRow.holds Try.pinned (OpenSpec.ofChange topRepeatsWrong)

/-- 'griffetop.TopRepeatCut': WHATEVER THE INPUT: true; the input reads as it did. -/
def topRepeatCutSpec : ChangeSpec := { name := "topRepeatCut", fn := fun _ => fun
  | [d1, d2, d3] => { results := [.lit (.bool true)], args := [d1, d2, d3] }
  | _ => none }
def topRepeatCutRow : OpenClaim := { program := "ytgpbjihpkoiaiaa", sum := "ff4eb8f7f0742040555ded6620089bc13c4685028c2d25c2dfe1cd1d67306517", func := "griffe/griffetop.TopRepeatCut", spec := "topRepeatCut", inPlace := ["internal/abi.NoEscape"], unfollowed := true, recurses := true, plainKeys := false, apart := false }
def TopRepeatCutSaid : Prop := topRepeatCutRow.holds Try.pinned (OpenSpec.ofChange topRepeatCutSpec)

/-- ITS FALSE NEIGHBOUR: 'it returns false'. Refute it at one input. -/
def topRepeatCutWrong : ChangeSpec := { name := "topRepeatCut", fn := fun _ => fun
  | [d1, d2, d3] => { results := [.lit (.bool false)], args := [d1, d2, d3] }
  | _ => none }
def TopRepeatCutWrongFalsely : Prop := topRepeatCutRow.holds Try.pinned (OpenSpec.ofChange topRepeatCutWrong)

/-- 'griffetop.TopTurnedOver': WHATEVER THE INPUT: true; the input reads as it did. -/
def topTurnedOverSpec : ChangeSpec := { name := "topTurnedOver", fn := fun _ => fun
  | [d] => { results := [.lit (.bool true)], args := [d] }
  | _ => none }
def topTurnedOverRow : OpenClaim := { program := "ytgpbjihpkoiaiaa", sum := "ff4eb8f7f0742040555ded6620089bc13c4685028c2d25c2dfe1cd1d67306517", func := "griffe/griffetop.TopTurnedOver", spec := "topTurnedOver", inPlace := ["internal/abi.NoEscape"], unfollowed := true, recurses := true, plainKeys := false, apart := false }
def TopTurnedOverSaid : Prop := topTurnedOverRow.holds Try.pinned (OpenSpec.ofChange topTurnedOverSpec)

/-- ITS FALSE NEIGHBOUR: 'it returns false'. Refute it at one input. -/
def topTurnedOverWrong : ChangeSpec := { name := "topTurnedOver", fn := fun _ => fun
  | [d] => { results := [.lit (.bool false)], args := [d] }
  | _ => none }
def TopTurnedOverWrongFalsely : Prop := topTurnedOverRow.holds Try.pinned (OpenSpec.ofChange topTurnedOverWrong)

/-- 'griffetop.TopMirrored': WHATEVER THE INPUT: true; the input reads as it did. -/
def topMirroredSpec : ChangeSpec := { name := "topMirrored", fn := fun _ => fun
  | [d1, d2] => { results := [.lit (.bool true)], args := [d1, d2] }
  | _ => none }
def topMirroredRow : OpenClaim := { program := "ytgpbjihpkoiaiaa", sum := "ff4eb8f7f0742040555ded6620089bc13c4685028c2d25c2dfe1cd1d67306517", func := "griffe/griffetop.TopMirrored", spec := "topMirrored", inPlace := ["internal/abi.NoEscape"], unfollowed := true, recurses := true, plainKeys := false, apart := false }
def TopMirroredSaid : Prop := topMirroredRow.holds Try.pinned (OpenSpec.ofChange topMirroredSpec)

/-- ITS FALSE NEIGHBOUR: 'it returns false'. Refute it at one input. -/
def topMirroredWrong : ChangeSpec := { name := "topMirrored", fn := fun _ => fun
  | [d1, d2] => { results := [.lit (.bool false)], args := [d1, d2] }
  | _ => none }
def TopMirroredWrongFalsely : Prop := topMirroredRow.holds Try.pinned (OpenSpec.ofChange topMirroredWrong)

/-- 'griffetop.TopEyeSeam': WHATEVER THE INPUT: true; the input reads as it did. -/
def topEyeSeamSpec : ChangeSpec := { name := "topEyeSeam", fn := fun _ => fun
  | [d1, d2] => { results := [.lit (.bool true)], args := [d1, d2] }
  | _ => none }
def topEyeSeamRow : OpenClaim := { program := "ytgpbjihpkoiaiaa", sum := "ff4eb8f7f0742040555ded6620089bc13c4685028c2d25c2dfe1cd1d67306517", func := "griffe/griffetop.TopEyeSeam", spec := "topEyeSeam", inPlace := ["internal/abi.NoEscape"], unfollowed := true, recurses := true, plainKeys := false, apart := false }
def TopEyeSeamSaid : Prop := topEyeSeamRow.holds Try.pinned (OpenSpec.ofChange topEyeSeamSpec)

/-- ITS FALSE NEIGHBOUR: 'it returns false'. Refute it at one input. -/
def topEyeSeamWrong : ChangeSpec := { name := "topEyeSeam", fn := fun _ => fun
  | [d1, d2] => { results := [.lit (.bool false)], args := [d1, d2] }
  | _ => none }
def TopEyeSeamWrongFalsely : Prop := topEyeSeamRow.holds Try.pinned (OpenSpec.ofChange topEyeSeamWrong)

/- THE SECOND FORM. 'bulk': how many values and letters a reading holds, each counted each time it is reached (what is shared counts as often as it is met; a slice's spare places count too). A statement '..UptoSaid' is the law's where the arguments, and the package variables that the reading takes, are together of bulk at most 1048576: NARROWER than '..Said'. Prove '..Said' where nothing that the law and all that it calls make is longer than what came in: it says more and counts as full. Else prove '..UptoSaid'. A law counts once. -/
mutual
def uptoBulk {H : Type} : DataW H → Nat
  | .lit (.string bytes) => bytes.length + 1
  | .lit _ => 1
  | .nil => 1
  | .ptr d => uptoBulk d + 1
  | .slice elems spare => uptoBulkAll elems + uptoBulkAll spare + 1
  | .agg parts => uptoBulkAll parts + 1
  | .iface _ d => uptoBulk d + 1
  | .map entries => uptoBulkEntries entries + 1
  | .held _ => 1
def uptoBulkAll {H : Type} : List (DataW H) → Nat
  | [] => 0
  | d :: r => uptoBulk d + uptoBulkAll r
def uptoBulkEntries {H : Type} : List (Lit × DataW H) → Nat
  | [] => 0
  | x :: r => uptoBulkEntry x + uptoBulkEntries r
def uptoBulkEntry {H : Type} : Lit × DataW H → Nat
  | (.string bytes, d) => bytes.length + uptoBulk d + 1
  | (_, d) => uptoBulk d + 1
 end
def uptoSmall : (H : Type) → List (DataW H) → Bool := fun _ ds => decide (uptoBulkAll ds ≤ 1048576)
def OpenSpec.upto (s : _root_.Go.ChangeSpec) : _root_.Go.OpenSpec := { _root_.Go.OpenSpec.ofChange s with cond := some uptoSmall }

/-- 'griffetop.TopMatched', WHERE WHAT IT READS IS OF BULK AT MOST 1048576: true; the input reads as it did. -/
def topMatchedUptoRow : OpenClaim := { program := "ytgpbjihpkoiaiaa", sum := "ff4eb8f7f0742040555ded6620089bc13c4685028c2d25c2dfe1cd1d67306517", func := "griffe/griffetop.TopMatched", spec := "topMatched", inPlace := ["internal/abi.NoEscape"], unfollowed := true, recurses := true, plainKeys := false, apart := false, narrowed := true }
def TopMatchedUptoSaid : Prop := topMatchedUptoRow.holds Try.pinned (OpenSpec.upto topMatchedSpec)

/-- 'griffetop.TopRepeats', WHERE WHAT IT READS IS OF BULK AT MOST 1048576: true; the input reads as it did. -/
def topRepeatsUptoRow : OpenClaim := { program := "ytgpbjihpkoiaiaa", sum := "ff4eb8f7f0742040555ded6620089bc13c4685028c2d25c2dfe1cd1d67306517", func := "griffe/griffetop.TopRepeats", spec := "topRepeats", inPlace := ["internal/abi.NoEscape"], unfollowed := true, recurses := true, plainKeys := false, apart := false, narrowed := true }
def TopRepeatsUptoSaid : Prop := topRepeatsUptoRow.holds Try.pinned (OpenSpec.upto topRepeatsSpec)

/-- 'griffetop.TopRepeatCut', WHERE WHAT IT READS IS OF BULK AT MOST 1048576: true; the input reads as it did. -/
def topRepeatCutUptoRow : OpenClaim := { program := "ytgpbjihpkoiaiaa", sum := "ff4eb8f7f0742040555ded6620089bc13c4685028c2d25c2dfe1cd1d67306517", func := "griffe/griffetop.TopRepeatCut", spec := "topRepeatCut", inPlace := ["internal/abi.NoEscape"], unfollowed := true, recurses := true, plainKeys := false, apart := false, narrowed := true }
def TopRepeatCutUptoSaid : Prop := topRepeatCutUptoRow.holds Try.pinned (OpenSpec.upto topRepeatCutSpec)

/-- 'griffetop.TopTurnedOver', WHERE WHAT IT READS IS OF BULK AT MOST 1048576: true; the input reads as it did. -/
def topTurnedOverUptoRow : OpenClaim := { program := "ytgpbjihpkoiaiaa", sum := "ff4eb8f7f0742040555ded6620089bc13c4685028c2d25c2dfe1cd1d67306517", func := "griffe/griffetop.TopTurnedOver", spec := "topTurnedOver", inPlace := ["internal/abi.NoEscape"], unfollowed := true, recurses := true, plainKeys := false, apart := false, narrowed := true }
def TopTurnedOverUptoSaid : Prop := topTurnedOverUptoRow.holds Try.pinned (OpenSpec.upto topTurnedOverSpec)

/-- 'griffetop.TopMirrored', WHERE WHAT IT READS IS OF BULK AT MOST 1048576: true; the input reads as it did. -/
def topMirroredUptoRow : OpenClaim := { program := "ytgpbjihpkoiaiaa", sum := "ff4eb8f7f0742040555ded6620089bc13c4685028c2d25c2dfe1cd1d67306517", func := "griffe/griffetop.TopMirrored", spec := "topMirrored", inPlace := ["internal/abi.NoEscape"], unfollowed := true, recurses := true, plainKeys := false, apart := false, narrowed := true }
def TopMirroredUptoSaid : Prop := topMirroredUptoRow.holds Try.pinned (OpenSpec.upto topMirroredSpec)

/-- 'griffetop.TopEyeSeam', WHERE WHAT IT READS IS OF BULK AT MOST 1048576: true; the input reads as it did. -/
def topEyeSeamUptoRow : OpenClaim := { program := "ytgpbjihpkoiaiaa", sum := "ff4eb8f7f0742040555ded6620089bc13c4685028c2d25c2dfe1cd1d67306517", func := "griffe/griffetop.TopEyeSeam", spec := "topEyeSeam", inPlace := ["internal/abi.NoEscape"], unfollowed := true, recurses := true, plainKeys := false, apart := false, narrowed := true }
def TopEyeSeamUptoSaid : Prop := topEyeSeamUptoRow.holds Try.pinned (OpenSpec.upto topEyeSeamSpec)

end Rows
end Go.Proofs.Ytgpbjihpkoiaiaa

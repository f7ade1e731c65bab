/-
  No cell of these rows narrows 'for every input' (looked for: loops, veiled, ifaces, maps, wideKeys, modest, calm, conditions, laid).
  DERIVED. THE GIVEN ROWS OF THIS SEAT. 11 by the template 'for every input the law returns true; each argument reads behind the call as it read before'; 0 by the template 'total and deterministic' (their statements: YtkjlmfabhejbnaaTotals.lean).
  GIVEN WITH THE SEED: the statements are not yours to turn. If you find one false, say at which input.
  Laid BY PROGRAM, IN A SANDBOX (cutbox-rows.mjs): the forced cells as the released guide's own fill.sh prints them over the translation f1a53b028c10bb1e… (all of the seat's roots in one cut). By AI agents, Wed Nov 11 2026. No macro, syntax, notation, axiom, sorry.
-/
import Derived.Test.YtkjlmfabhejbnaaChecked
import GoSem.Claim
import GoSem.ClaimJoined
import GoSem.ClaimMapViews
import Derived.JoinedTies
import Derived.KernelRfl
namespace Go.Proofs.Ytkjlmfabhejbnaa
/- THE CELL 'sum', in the pinned program and in every row, IS THE sha256 OF THE DUMP (.gsa) THAT YtkjlmfabhejbnaaProg.lean LOADS. Nothing in Lean hashes anything: it is a label: what it is worth is what the hold of that sum in a sandbox is worth. -/
noncomputable def Try.pinned : Pinned := { name := "ytkjlmfabhejbnaa", sum := "f1a53b028c10bb1e5ced2ae8b16bd62acd88c160e27f79fb6b0fb7b689075157", checked := Try.checked }
namespace Rows
def none {H : Type} : Left H := { results := [], args := [] }

/-- 'griffelaw01.PointFloats': WHATEVER THE INPUT: true; the input reads as it did. -/
def pointFloatsSpec : ChangeSpec := { name := "pointFloats", fn := fun _ => fun
  | [d1, d2, d3] => { results := [.lit (.bool true)], args := [d1, d2, d3] }
  | _ => none }
def pointFloatsRow : OpenClaim := { program := "ytkjlmfabhejbnaa", sum := "f1a53b028c10bb1e5ced2ae8b16bd62acd88c160e27f79fb6b0fb7b689075157", func := "griffe/griffelaw01.PointFloats", spec := "pointFloats", unfollowed := true, recurses := true, plainKeys := false, apart := false }
def PointFloatsSaid : Prop := pointFloatsRow.holds Try.pinned (OpenSpec.ofChange pointFloatsSpec)

/-- ITS FALSE NEIGHBOUR: 'it returns false'. Refute it at one input. -/
def pointFloatsWrong : ChangeSpec := { name := "pointFloats", fn := fun _ => fun
  | [d1, d2, d3] => { results := [.lit (.bool false)], args := [d1, d2, d3] }
  | _ => none }
def PointFloatsWrongFalsely : Prop := pointFloatsRow.holds Try.pinned (OpenSpec.ofChange pointFloatsWrong)

/-- 'griffelaw01.PointBinds': WHATEVER THE INPUT: true; the input reads as it did. -/
def pointBindsSpec : ChangeSpec := { name := "pointBinds", fn := fun _ => fun
  | [d1, d2, d3] => { results := [.lit (.bool true)], args := [d1, d2, d3] }
  | _ => none }
def pointBindsRow : OpenClaim := { program := "ytkjlmfabhejbnaa", sum := "f1a53b028c10bb1e5ced2ae8b16bd62acd88c160e27f79fb6b0fb7b689075157", func := "griffe/griffelaw01.PointBinds", spec := "pointBinds", unfollowed := true, recurses := true, plainKeys := false, apart := false }
def PointBindsSaid : Prop := pointBindsRow.holds Try.pinned (OpenSpec.ofChange pointBindsSpec)

/-- ITS FALSE NEIGHBOUR: 'it returns false'. Refute it at one input. -/
def pointBindsWrong : ChangeSpec := { name := "pointBinds", fn := fun _ => fun
  | [d1, d2, d3] => { results := [.lit (.bool false)], args := [d1, d2, d3] }
  | _ => none }
def PointBindsWrongFalsely : Prop := pointBindsRow.holds Try.pinned (OpenSpec.ofChange pointBindsWrong)

/-- 'griffelaw01.PointProofs': WHATEVER THE INPUT: true; the input reads as it did. -/
def pointProofsSpec : ChangeSpec := { name := "pointProofs", fn := fun _ => fun
  | [d1, d2] => { results := [.lit (.bool true)], args := [d1, d2] }
  | _ => none }
def pointProofsRow : OpenClaim := { program := "ytkjlmfabhejbnaa", sum := "f1a53b028c10bb1e5ced2ae8b16bd62acd88c160e27f79fb6b0fb7b689075157", func := "griffe/griffelaw01.PointProofs", spec := "pointProofs", unfollowed := true, recurses := true, plainKeys := false, apart := false }
def PointProofsSaid : Prop := pointProofsRow.holds Try.pinned (OpenSpec.ofChange pointProofsSpec)

/-- ITS FALSE NEIGHBOUR: 'it returns false'. Refute it at one input. -/
def pointProofsWrong : ChangeSpec := { name := "pointProofs", fn := fun _ => fun
  | [d1, d2] => { results := [.lit (.bool false)], args := [d1, d2] }
  | _ => none }
def PointProofsWrongFalsely : Prop := pointProofsRow.holds Try.pinned (OpenSpec.ofChange pointProofsWrong)

/-- 'griffelaw01.PointLeasts': WHATEVER THE INPUT: true; the input reads as it did. -/
def pointLeastsSpec : ChangeSpec := { name := "pointLeasts", fn := fun _ => fun
  | [d] => { results := [.lit (.bool true)], args := [d] }
  | _ => none }
def pointLeastsRow : OpenClaim := { program := "ytkjlmfabhejbnaa", sum := "f1a53b028c10bb1e5ced2ae8b16bd62acd88c160e27f79fb6b0fb7b689075157", func := "griffe/griffelaw01.PointLeasts", spec := "pointLeasts", unfollowed := true, recurses := true, plainKeys := false, apart := false }
def PointLeastsSaid : Prop := pointLeastsRow.holds Try.pinned (OpenSpec.ofChange pointLeastsSpec)

/-- ITS FALSE NEIGHBOUR: 'it returns false'. Refute it at one input. -/
def pointLeastsWrong : ChangeSpec := { name := "pointLeasts", fn := fun _ => fun
  | [d] => { results := [.lit (.bool false)], args := [d] }
  | _ => none }
def PointLeastsWrongFalsely : Prop := pointLeastsRow.holds Try.pinned (OpenSpec.ofChange pointLeastsWrong)

/-- 'griffelaw01.PointBound': WHATEVER THE INPUT: true; the input reads as it did. -/
def pointBoundSpec : ChangeSpec := { name := "pointBound", fn := fun _ => fun
  | [d1, d2, d3] => { results := [.lit (.bool true)], args := [d1, d2, d3] }
  | _ => none }
def pointBoundRow : OpenClaim := { program := "ytkjlmfabhejbnaa", sum := "f1a53b028c10bb1e5ced2ae8b16bd62acd88c160e27f79fb6b0fb7b689075157", func := "griffe/griffelaw01.PointBound", spec := "pointBound", unfollowed := true, recurses := true, plainKeys := false, apart := false }
def PointBoundSaid : Prop := pointBoundRow.holds Try.pinned (OpenSpec.ofChange pointBoundSpec)

/-- ITS FALSE NEIGHBOUR: 'it returns false'. Refute it at one input. -/
def pointBoundWrong : ChangeSpec := { name := "pointBound", fn := fun _ => fun
  | [d1, d2, d3] => { results := [.lit (.bool false)], args := [d1, d2, d3] }
  | _ => none }
def PointBoundWrongFalsely : Prop := pointBoundRow.holds Try.pinned (OpenSpec.ofChange pointBoundWrong)

/-- 'griffelaw01.PointProved': WHATEVER THE INPUT: true; the input reads as it did. -/
def pointProvedSpec : ChangeSpec := { name := "pointProved", fn := fun _ => fun
  | [d1, d2] => { results := [.lit (.bool true)], args := [d1, d2] }
  | _ => none }
def pointProvedRow : OpenClaim := { program := "ytkjlmfabhejbnaa", sum := "f1a53b028c10bb1e5ced2ae8b16bd62acd88c160e27f79fb6b0fb7b689075157", func := "griffe/griffelaw01.PointProved", spec := "pointProved", unfollowed := true, recurses := true, plainKeys := false, apart := false }
def PointProvedSaid : Prop := pointProvedRow.holds Try.pinned (OpenSpec.ofChange pointProvedSpec)

/-- ITS FALSE NEIGHBOUR: 'it returns false'. Refute it at one input. -/
def pointProvedWrong : ChangeSpec := { name := "pointProved", fn := fun _ => fun
  | [d1, d2] => { results := [.lit (.bool false)], args := [d1, d2] }
  | _ => none }
def PointProvedWrongFalsely : Prop := pointProvedRow.holds Try.pinned (OpenSpec.ofChange pointProvedWrong)

/-- 'griffelaw01.PointLayers': WHATEVER THE INPUT: true; the input reads as it did. -/
def pointLayersSpec : ChangeSpec := { name := "pointLayers", fn := fun _ => fun
  | [d1, d2, d3] => { results := [.lit (.bool true)], args := [d1, d2, d3] }
  | _ => none }
def pointLayersRow : OpenClaim := { program := "ytkjlmfabhejbnaa", sum := "f1a53b028c10bb1e5ced2ae8b16bd62acd88c160e27f79fb6b0fb7b689075157", func := "griffe/griffelaw01.PointLayers", spec := "pointLayers", unfollowed := true, recurses := true, plainKeys := false, apart := false }
def PointLayersSaid : Prop := pointLayersRow.holds Try.pinned (OpenSpec.ofChange pointLayersSpec)

/-- ITS FALSE NEIGHBOUR: 'it returns false'. Refute it at one input. -/
def pointLayersWrong : ChangeSpec := { name := "pointLayers", fn := fun _ => fun
  | [d1, d2, d3] => { results := [.lit (.bool false)], args := [d1, d2, d3] }
  | _ => none }
def PointLayersWrongFalsely : Prop := pointLayersRow.holds Try.pinned (OpenSpec.ofChange pointLayersWrong)

/-- 'griffelaw01.PointMoves': WHATEVER THE INPUT: true; the input reads as it did. -/
def pointMovesSpec : ChangeSpec := { name := "pointMoves", fn := fun _ => fun
  | [d1, d2, d3] => { results := [.lit (.bool true)], args := [d1, d2, d3] }
  | _ => none }
def pointMovesRow : OpenClaim := { program := "ytkjlmfabhejbnaa", sum := "f1a53b028c10bb1e5ced2ae8b16bd62acd88c160e27f79fb6b0fb7b689075157", func := "griffe/griffelaw01.PointMoves", spec := "pointMoves", unfollowed := true, recurses := true, plainKeys := false, apart := false }
def PointMovesSaid : Prop := pointMovesRow.holds Try.pinned (OpenSpec.ofChange pointMovesSpec)

/-- ITS FALSE NEIGHBOUR: 'it returns false'. Refute it at one input. -/
def pointMovesWrong : ChangeSpec := { name := "pointMoves", fn := fun _ => fun
  | [d1, d2, d3] => { results := [.lit (.bool false)], args := [d1, d2, d3] }
  | _ => none }
def PointMovesWrongFalsely : Prop := pointMovesRow.holds Try.pinned (OpenSpec.ofChange pointMovesWrong)

/-- 'griffelaw01.PointSides': WHATEVER THE INPUT: true; the input reads as it did. -/
def pointSidesSpec : ChangeSpec := { name := "pointSides", fn := fun _ => fun
  | [d1, d2, d3] => { results := [.lit (.bool true)], args := [d1, d2, d3] }
  | _ => none }
def pointSidesRow : OpenClaim := { program := "ytkjlmfabhejbnaa", sum := "f1a53b028c10bb1e5ced2ae8b16bd62acd88c160e27f79fb6b0fb7b689075157", func := "griffe/griffelaw01.PointSides", spec := "pointSides", unfollowed := true, recurses := true, plainKeys := false, apart := false }
def PointSidesSaid : Prop := pointSidesRow.holds Try.pinned (OpenSpec.ofChange pointSidesSpec)

/-- ITS FALSE NEIGHBOUR: 'it returns false'. Refute it at one input. -/
def pointSidesWrong : ChangeSpec := { name := "pointSides", fn := fun _ => fun
  | [d1, d2, d3] => { results := [.lit (.bool false)], args := [d1, d2, d3] }
  | _ => none }
def PointSidesWrongFalsely : Prop := pointSidesRow.holds Try.pinned (OpenSpec.ofChange pointSidesWrong)

/-- 'griffelaw01.PointJoins': WHATEVER THE INPUT: true; the input reads as it did. -/
def pointJoinsSpec : ChangeSpec := { name := "pointJoins", fn := fun _ => fun
  | [d1, d2] => { results := [.lit (.bool true)], args := [d1, d2] }
  | _ => none }
def pointJoinsRow : OpenClaim := { program := "ytkjlmfabhejbnaa", sum := "f1a53b028c10bb1e5ced2ae8b16bd62acd88c160e27f79fb6b0fb7b689075157", func := "griffe/griffelaw01.PointJoins", spec := "pointJoins", unfollowed := true, recurses := true, plainKeys := false, apart := false }
def PointJoinsSaid : Prop := pointJoinsRow.holds Try.pinned (OpenSpec.ofChange pointJoinsSpec)

/-- ITS FALSE NEIGHBOUR: 'it returns false'. Refute it at one input. -/
def pointJoinsWrong : ChangeSpec := { name := "pointJoins", fn := fun _ => fun
  | [d1, d2] => { results := [.lit (.bool false)], args := [d1, d2] }
  | _ => none }
def PointJoinsWrongFalsely : Prop := pointJoinsRow.holds Try.pinned (OpenSpec.ofChange pointJoinsWrong)

/-- 'griffelaw01.PointEdges': WHATEVER THE INPUT: true; the input reads as it did. -/
def pointEdgesSpec : ChangeSpec := { name := "pointEdges", fn := fun _ => fun
  | [d] => { results := [.lit (.bool true)], args := [d] }
  | _ => none }
def pointEdgesRow : OpenClaim := { program := "ytkjlmfabhejbnaa", sum := "f1a53b028c10bb1e5ced2ae8b16bd62acd88c160e27f79fb6b0fb7b689075157", func := "griffe/griffelaw01.PointEdges", spec := "pointEdges", unfollowed := true, recurses := true, plainKeys := false, apart := false }
def PointEdgesSaid : Prop := pointEdgesRow.holds Try.pinned (OpenSpec.ofChange pointEdgesSpec)

/-- ITS FALSE NEIGHBOUR: 'it returns false'. Refute it at one input. -/
def pointEdgesWrong : ChangeSpec := { name := "pointEdges", fn := fun _ => fun
  | [d] => { results := [.lit (.bool false)], args := [d] }
  | _ => none }
def PointEdgesWrongFalsely : Prop := pointEdgesRow.holds Try.pinned (OpenSpec.ofChange pointEdgesWrong)

/- THE SECOND FORM. 'bulk': how many values and letters a reading holds, each counted each time it is reached (what is shared counts as often as it is met; a slice's spare places count too). A statement '..UptoSaid' is the law's where the arguments, and the package variables that the reading takes, are together of bulk at most 1048576: NARROWER than '..Said'. Prove '..Said' where nothing that the law and all that it calls make is longer than what came in: it says more and counts as full. Else prove '..UptoSaid'. A law counts once. -/
mutual
def uptoBulk {H : Type} : DataW H → Nat
  | .lit (.string bytes) => bytes.length + 1
  | .lit _ => 1
  | .nil => 1
  | .ptr d => uptoBulk d + 1
  | .slice elems spare => uptoBulkAll elems + uptoBulkAll spare + 1
  | .agg parts => uptoBulkAll parts + 1
  | .iface _ d => uptoBulk d + 1
  | .map entries => uptoBulkEntries entries + 1
  | .held _ => 1
def uptoBulkAll {H : Type} : List (DataW H) → Nat
  | [] => 0
  | d :: r => uptoBulk d + uptoBulkAll r
def uptoBulkEntries {H : Type} : List (Lit × DataW H) → Nat
  | [] => 0
  | x :: r => uptoBulkEntry x + uptoBulkEntries r
def uptoBulkEntry {H : Type} : Lit × DataW H → Nat
  | (.string bytes, d) => bytes.length + uptoBulk d + 1
  | (_, d) => uptoBulk d + 1
 end
def uptoSmall : (H : Type) → List (DataW H) → Bool := fun _ ds => decide (uptoBulkAll ds ≤ 1048576)
def OpenSpec.upto (s : _root_.Go.ChangeSpec) : _root_.Go.OpenSpec := { _root_.Go.OpenSpec.ofChange s with cond := some uptoSmall }

/-- 'griffelaw01.PointFloats', WHERE WHAT IT READS IS OF BULK AT MOST 1048576: true; the input reads as it did. -/
def pointFloatsUptoRow : OpenClaim := { program := "ytkjlmfabhejbnaa", sum := "f1a53b028c10bb1e5ced2ae8b16bd62acd88c160e27f79fb6b0fb7b689075157", func := "griffe/griffelaw01.PointFloats", spec := "pointFloats", unfollowed := true, recurses := true, plainKeys := false, apart := false, narrowed := true }
def PointFloatsUptoSaid : Prop := pointFloatsUptoRow.holds Try.pinned (OpenSpec.upto pointFloatsSpec)

/-- 'griffelaw01.PointBinds', WHERE WHAT IT READS IS OF BULK AT MOST 1048576: true; the input reads as it did. -/
def pointBindsUptoRow : OpenClaim := { program := "ytkjlmfabhejbnaa", sum := "f1a53b028c10bb1e5ced2ae8b16bd62acd88c160e27f79fb6b0fb7b689075157", func := "griffe/griffelaw01.PointBinds", spec := "pointBinds", unfollowed := true, recurses := true, plainKeys := false, apart := false, narrowed := true }
def PointBindsUptoSaid : Prop := pointBindsUptoRow.holds Try.pinned (OpenSpec.upto pointBindsSpec)

/-- 'griffelaw01.PointProofs', WHERE WHAT IT READS IS OF BULK AT MOST 1048576: true; the input reads as it did. -/
def pointProofsUptoRow : OpenClaim := { program := "ytkjlmfabhejbnaa", sum := "f1a53b028c10bb1e5ced2ae8b16bd62acd88c160e27f79fb6b0fb7b689075157", func := "griffe/griffelaw01.PointProofs", spec := "pointProofs", unfollowed := true, recurses := true, plainKeys := false, apart := false, narrowed := true }
def PointProofsUptoSaid : Prop := pointProofsUptoRow.holds Try.pinned (OpenSpec.upto pointProofsSpec)

/-- 'griffelaw01.PointLeasts', WHERE WHAT IT READS IS OF BULK AT MOST 1048576: true; the input reads as it did. -/
def pointLeastsUptoRow : OpenClaim := { program := "ytkjlmfabhejbnaa", sum := "f1a53b028c10bb1e5ced2ae8b16bd62acd88c160e27f79fb6b0fb7b689075157", func := "griffe/griffelaw01.PointLeasts", spec := "pointLeasts", unfollowed := true, recurses := true, plainKeys := false, apart := false, narrowed := true }
def PointLeastsUptoSaid : Prop := pointLeastsUptoRow.holds Try.pinned (OpenSpec.upto pointLeastsSpec)

/-- 'griffelaw01.PointBound', WHERE WHAT IT READS IS OF BULK AT MOST 1048576: true; the input reads as it did. -/
def pointBoundUptoRow : OpenClaim := { program := "ytkjlmfabhejbnaa", sum := "f1a53b028c10bb1e5ced2ae8b16bd62acd88c160e27f79fb6b0fb7b689075157", func := "griffe/griffelaw01.PointBound", spec := "pointBound", unfollowed := true, recurses := true, plainKeys := false, apart := false, narrowed := true }
def PointBoundUptoSaid : Prop := pointBoundUptoRow.holds Try.pinned (OpenSpec.upto pointBoundSpec)

/-- 'griffelaw01.PointProved', WHERE WHAT IT READS IS OF BULK AT MOST 1048576: true; the input reads as it did. -/
def pointProvedUptoRow : OpenClaim := { program := "ytkjlmfabhejbnaa", sum := "f1a53b028c10bb1e5ced2ae8b16bd62acd88c160e27f79fb6b0fb7b689075157", func := "griffe/griffelaw01.PointProved", spec := "pointProved", unfollowed := true, recurses := true, plainKeys := false, apart := false, narrowed := true }
def PointProvedUptoSaid : Prop := pointProvedUptoRow.holds Try.pinned (OpenSpec.upto pointProvedSpec)

/-- 'griffelaw01.PointLayers', WHERE WHAT IT READS IS OF BULK AT MOST 1048576: true; the input reads as it did. -/
def pointLayersUptoRow : OpenClaim := { program := "ytkjlmfabhejbnaa", sum := "f1a53b028c10bb1e5ced2ae8b16bd62acd88c160e27f79fb6b0fb7b689075157", func := "griffe/griffelaw01.PointLayers", spec := "pointLayers", unfollowed := true, recurses := true, plainKeys := false, apart := false, narrowed := true }
def PointLayersUptoSaid : Prop := pointLayersUptoRow.holds Try.pinned (OpenSpec.upto pointLayersSpec)

/-- 'griffelaw01.PointMoves', WHERE WHAT IT READS IS OF BULK AT MOST 1048576: true; the input reads as it did. -/
def pointMovesUptoRow : OpenClaim := { program := "ytkjlmfabhejbnaa", sum := "f1a53b028c10bb1e5ced2ae8b16bd62acd88c160e27f79fb6b0fb7b689075157", func := "griffe/griffelaw01.PointMoves", spec := "pointMoves", unfollowed := true, recurses := true, plainKeys := false, apart := false, narrowed := true }
def PointMovesUptoSaid : Prop := pointMovesUptoRow.holds Try.pinned (OpenSpec.upto pointMovesSpec)

/-- 'griffelaw01.PointSides', WHERE WHAT IT READS IS OF BULK AT MOST 1048576: true; the input reads as it did. -/
def pointSidesUptoRow : OpenClaim := { program := "ytkjlmfabhejbnaa", sum := "f1a53b028c10bb1e5ced2ae8b16bd62acd88c160e27f79fb6b0fb7b689075157", func := "griffe/griffelaw01.PointSides", spec := "pointSides", unfollowed := true, recurses := true, plainKeys := false, apart := false, narrowed := true }
def PointSidesUptoSaid : Prop := pointSidesUptoRow.holds Try.pinned (OpenSpec.upto pointSidesSpec)

/-- 'griffelaw01.PointJoins', WHERE WHAT IT READS IS OF BULK AT MOST 1048576: true; the input reads as it did. -/
def pointJoinsUptoRow : OpenClaim := { program := "ytkjlmfabhejbnaa", sum := "f1a53b028c10bb1e5ced2ae8b16bd62acd88c160e27f79fb6b0fb7b689075157", func := "griffe/griffelaw01.PointJoins", spec := "pointJoins", unfollowed := true, recurses := true, plainKeys := false, apart := false, narrowed := true }
def PointJoinsUptoSaid : Prop := pointJoinsUptoRow.holds Try.pinned (OpenSpec.upto pointJoinsSpec)

/-- 'griffelaw01.PointEdges', WHERE WHAT IT READS IS OF BULK AT MOST 1048576: true; the input reads as it did. -/
def pointEdgesUptoRow : OpenClaim := { program := "ytkjlmfabhejbnaa", sum := "f1a53b028c10bb1e5ced2ae8b16bd62acd88c160e27f79fb6b0fb7b689075157", func := "griffe/griffelaw01.PointEdges", spec := "pointEdges", unfollowed := true, recurses := true, plainKeys := false, apart := false, narrowed := true }
def PointEdgesUptoSaid : Prop := pointEdgesUptoRow.holds Try.pinned (OpenSpec.upto pointEdgesSpec)

end Rows
end Go.Proofs.Ytkjlmfabhejbnaa

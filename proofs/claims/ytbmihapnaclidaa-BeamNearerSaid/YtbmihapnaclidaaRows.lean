/-
  No cell of these rows narrows 'for every input' (looked for: loops, veiled, ifaces, maps, wideKeys, modest, calm, conditions, laid).
  DERIVED. THE GIVEN ROWS OF THIS SEAT. 10 by the template 'for every input the law returns true; each argument reads behind the call as it read before'; 0 by the template 'total and deterministic' (their statements: YtbmihapnaclidaaTotals.lean).
  GIVEN WITH THE SEED: the statements are not yours to turn. If you find one false, say at which input.
  Laid BY PROGRAM, IN A SANDBOX (cutbox-rows.mjs): the forced cells as the released guide's own fill.sh prints them over the translation 4b4f85becfedba9b… (all of the seat's roots in one cut). By AI agents, Wed Nov 11 2026. No macro, syntax, notation, axiom, sorry.
-/
import Derived.Test.YtbmihapnaclidaaChecked
import GoSem.Claim
import GoSem.ClaimJoined
import GoSem.ClaimMapViews
import Derived.JoinedTies
import Derived.KernelRfl
namespace Go.Proofs.Ytbmihapnaclidaa
/- THE CELL 'sum', in the pinned program and in every row, IS THE sha256 OF THE DUMP (.gsa) THAT YtbmihapnaclidaaProg.lean LOADS. Nothing in Lean hashes anything: it is a label: what it is worth is what the hold of that sum in a sandbox is worth. -/
noncomputable def Try.pinned : Pinned := { name := "ytbmihapnaclidaa", sum := "4b4f85becfedba9bb517fa8481b3f3310cc42218424af97474a6ee31538608a5", checked := Try.checked }
namespace Rows
def none {H : Type} : Left H := { results := [], args := [] }

/-- 'griffelaw06.BeamTakes': WHATEVER THE INPUT: true; the input reads as it did. -/
def beamTakesSpec : ChangeSpec := { name := "beamTakes", fn := fun _ => fun
  | [d1, d2] => { results := [.lit (.bool true)], args := [d1, d2] }
  | _ => none }
def beamTakesRow : OpenClaim := { program := "ytbmihapnaclidaa", sum := "4b4f85becfedba9bb517fa8481b3f3310cc42218424af97474a6ee31538608a5", func := "griffe/griffelaw06.BeamTakes", spec := "beamTakes", unfollowed := true, recurses := true, apart := false }
def BeamTakesSaid : Prop := beamTakesRow.holds Try.pinned (OpenSpec.ofChange beamTakesSpec)

/-- ITS FALSE NEIGHBOUR: 'it returns false'. Refute it at one input. -/
def beamTakesWrong : ChangeSpec := { name := "beamTakes", fn := fun _ => fun
  | [d1, d2] => { results := [.lit (.bool false)], args := [d1, d2] }
  | _ => none }
def BeamTakesWrongFalsely : Prop := beamTakesRow.holds Try.pinned (OpenSpec.ofChange beamTakesWrong)

/-- 'griffelaw06.BeamNearests': WHATEVER THE INPUT: true; the input reads as it did. -/
def beamNearestsSpec : ChangeSpec := { name := "beamNearests", fn := fun _ => fun
  | [d1, d2] => { results := [.lit (.bool true)], args := [d1, d2] }
  | _ => none }
def beamNearestsRow : OpenClaim := { program := "ytbmihapnaclidaa", sum := "4b4f85becfedba9bb517fa8481b3f3310cc42218424af97474a6ee31538608a5", func := "griffe/griffelaw06.BeamNearests", spec := "beamNearests", unfollowed := true, recurses := true, apart := false }
def BeamNearestsSaid : Prop := beamNearestsRow.holds Try.pinned (OpenSpec.ofChange beamNearestsSpec)

/-- ITS FALSE NEIGHBOUR: 'it returns false'. Refute it at one input. -/
def beamNearestsWrong : ChangeSpec := { name := "beamNearests", fn := fun _ => fun
  | [d1, d2] => { results := [.lit (.bool false)], args := [d1, d2] }
  | _ => none }
def BeamNearestsWrongFalsely : Prop := beamNearestsRow.holds Try.pinned (OpenSpec.ofChange beamNearestsWrong)

/-- 'griffelaw06.BeamFigures': WHATEVER THE INPUT: true; the input reads as it did. -/
def beamFiguresSpec : ChangeSpec := { name := "beamFigures", fn := fun _ => fun
  | [d1, d2] => { results := [.lit (.bool true)], args := [d1, d2] }
  | _ => none }
def beamFiguresRow : OpenClaim := { program := "ytbmihapnaclidaa", sum := "4b4f85becfedba9bb517fa8481b3f3310cc42218424af97474a6ee31538608a5", func := "griffe/griffelaw06.BeamFigures", spec := "beamFigures", unfollowed := true, recurses := true, apart := false }
def BeamFiguresSaid : Prop := beamFiguresRow.holds Try.pinned (OpenSpec.ofChange beamFiguresSpec)

/-- ITS FALSE NEIGHBOUR: 'it returns false'. Refute it at one input. -/
def beamFiguresWrong : ChangeSpec := { name := "beamFigures", fn := fun _ => fun
  | [d1, d2] => { results := [.lit (.bool false)], args := [d1, d2] }
  | _ => none }
def BeamFiguresWrongFalsely : Prop := beamFiguresRow.holds Try.pinned (OpenSpec.ofChange beamFiguresWrong)

/-- 'griffelaw06.BeamGives': WHATEVER THE INPUT: true; the input reads as it did. -/
def beamGivesSpec : ChangeSpec := { name := "beamGives", fn := fun _ => fun
  | [d1, d2] => { results := [.lit (.bool true)], args := [d1, d2] }
  | _ => none }
def beamGivesRow : OpenClaim := { program := "ytbmihapnaclidaa", sum := "4b4f85becfedba9bb517fa8481b3f3310cc42218424af97474a6ee31538608a5", func := "griffe/griffelaw06.BeamGives", spec := "beamGives", unfollowed := true, recurses := true, apart := false }
def BeamGivesSaid : Prop := beamGivesRow.holds Try.pinned (OpenSpec.ofChange beamGivesSpec)

/-- ITS FALSE NEIGHBOUR: 'it returns false'. Refute it at one input. -/
def beamGivesWrong : ChangeSpec := { name := "beamGives", fn := fun _ => fun
  | [d1, d2] => { results := [.lit (.bool false)], args := [d1, d2] }
  | _ => none }
def BeamGivesWrongFalsely : Prop := beamGivesRow.holds Try.pinned (OpenSpec.ofChange beamGivesWrong)

/-- 'griffelaw06.BeamRolls': WHATEVER THE INPUT: true; the input reads as it did. -/
def beamRollsSpec : ChangeSpec := { name := "beamRolls", fn := fun _ => fun
  | [d1, d2, d3] => { results := [.lit (.bool true)], args := [d1, d2, d3] }
  | _ => none }
def beamRollsRow : OpenClaim := { program := "ytbmihapnaclidaa", sum := "4b4f85becfedba9bb517fa8481b3f3310cc42218424af97474a6ee31538608a5", func := "griffe/griffelaw06.BeamRolls", spec := "beamRolls", unfollowed := true, recurses := true, apart := false }
def BeamRollsSaid : Prop := beamRollsRow.holds Try.pinned (OpenSpec.ofChange beamRollsSpec)

/-- ITS FALSE NEIGHBOUR: 'it returns false'. Refute it at one input. -/
def beamRollsWrong : ChangeSpec := { name := "beamRolls", fn := fun _ => fun
  | [d1, d2, d3] => { results := [.lit (.bool false)], args := [d1, d2, d3] }
  | _ => none }
def BeamRollsWrongFalsely : Prop := beamRollsRow.holds Try.pinned (OpenSpec.ofChange beamRollsWrong)

/-- 'griffelaw06.BeamExact': WHATEVER THE INPUT: true; the input reads as it did. -/
def beamExactSpec : ChangeSpec := { name := "beamExact", fn := fun _ => fun
  | [d1, d2] => { results := [.lit (.bool true)], args := [d1, d2] }
  | _ => none }
def beamExactRow : OpenClaim := { program := "ytbmihapnaclidaa", sum := "4b4f85becfedba9bb517fa8481b3f3310cc42218424af97474a6ee31538608a5", func := "griffe/griffelaw06.BeamExact", spec := "beamExact", unfollowed := true, recurses := true, apart := false }
def BeamExactSaid : Prop := beamExactRow.holds Try.pinned (OpenSpec.ofChange beamExactSpec)

/-- ITS FALSE NEIGHBOUR: 'it returns false'. Refute it at one input. -/
def beamExactWrong : ChangeSpec := { name := "beamExact", fn := fun _ => fun
  | [d1, d2] => { results := [.lit (.bool false)], args := [d1, d2] }
  | _ => none }
def BeamExactWrongFalsely : Prop := beamExactRow.holds Try.pinned (OpenSpec.ofChange beamExactWrong)

/-- 'griffelaw06.BeamNearer': WHATEVER THE INPUT: true; the input reads as it did. -/
def beamNearerSpec : ChangeSpec := { name := "beamNearer", fn := fun _ => fun
  | [d1, d2, d3] => { results := [.lit (.bool true)], args := [d1, d2, d3] }
  | _ => none }
def beamNearerRow : OpenClaim := { program := "ytbmihapnaclidaa", sum := "4b4f85becfedba9bb517fa8481b3f3310cc42218424af97474a6ee31538608a5", func := "griffe/griffelaw06.BeamNearer", spec := "beamNearer", unfollowed := true, recurses := true, apart := false }
def BeamNearerSaid : Prop := beamNearerRow.holds Try.pinned (OpenSpec.ofChange beamNearerSpec)

/-- ITS FALSE NEIGHBOUR: 'it returns false'. Refute it at one input. -/
def beamNearerWrong : ChangeSpec := { name := "beamNearer", fn := fun _ => fun
  | [d1, d2, d3] => { results := [.lit (.bool false)], args := [d1, d2, d3] }
  | _ => none }
def BeamNearerWrongFalsely : Prop := beamNearerRow.holds Try.pinned (OpenSpec.ofChange beamNearerWrong)

/-- 'griffelaw06.BeamTruth': WHATEVER THE INPUT: true; the input reads as it did. -/
def beamTruthSpec : ChangeSpec := { name := "beamTruth", fn := fun _ => fun
  | [d1, d2, d3] => { results := [.lit (.bool true)], args := [d1, d2, d3] }
  | _ => none }
def beamTruthRow : OpenClaim := { program := "ytbmihapnaclidaa", sum := "4b4f85becfedba9bb517fa8481b3f3310cc42218424af97474a6ee31538608a5", func := "griffe/griffelaw06.BeamTruth", spec := "beamTruth", unfollowed := true, recurses := true, apart := false }
def BeamTruthSaid : Prop := beamTruthRow.holds Try.pinned (OpenSpec.ofChange beamTruthSpec)

/-- ITS FALSE NEIGHBOUR: 'it returns false'. Refute it at one input. -/
def beamTruthWrong : ChangeSpec := { name := "beamTruth", fn := fun _ => fun
  | [d1, d2, d3] => { results := [.lit (.bool false)], args := [d1, d2, d3] }
  | _ => none }
def BeamTruthWrongFalsely : Prop := beamTruthRow.holds Try.pinned (OpenSpec.ofChange beamTruthWrong)

/-- 'griffelaw06.BeamYards': WHATEVER THE INPUT: true; the input reads as it did. -/
def beamYardsSpec : ChangeSpec := { name := "beamYards", fn := fun _ => fun
  | [d1, d2, d3] => { results := [.lit (.bool true)], args := [d1, d2, d3] }
  | _ => none }
def beamYardsRow : OpenClaim := { program := "ytbmihapnaclidaa", sum := "4b4f85becfedba9bb517fa8481b3f3310cc42218424af97474a6ee31538608a5", func := "griffe/griffelaw06.BeamYards", spec := "beamYards", unfollowed := true, recurses := true, apart := false }
def BeamYardsSaid : Prop := beamYardsRow.holds Try.pinned (OpenSpec.ofChange beamYardsSpec)

/-- ITS FALSE NEIGHBOUR: 'it returns false'. Refute it at one input. -/
def beamYardsWrong : ChangeSpec := { name := "beamYards", fn := fun _ => fun
  | [d1, d2, d3] => { results := [.lit (.bool false)], args := [d1, d2, d3] }
  | _ => none }
def BeamYardsWrongFalsely : Prop := beamYardsRow.holds Try.pinned (OpenSpec.ofChange beamYardsWrong)

/-- 'griffelaw06.BeamHeld': WHATEVER THE INPUT: true; the input reads as it did. -/
def beamHeldSpec : ChangeSpec := { name := "beamHeld", fn := fun _ => fun
  | [d1, d2, d3] => { results := [.lit (.bool true)], args := [d1, d2, d3] }
  | _ => none }
def beamHeldRow : OpenClaim := { program := "ytbmihapnaclidaa", sum := "4b4f85becfedba9bb517fa8481b3f3310cc42218424af97474a6ee31538608a5", func := "griffe/griffelaw06.BeamHeld", spec := "beamHeld", unfollowed := true, recurses := true, apart := false }
def BeamHeldSaid : Prop := beamHeldRow.holds Try.pinned (OpenSpec.ofChange beamHeldSpec)

/-- ITS FALSE NEIGHBOUR: 'it returns false'. Refute it at one input. -/
def beamHeldWrong : ChangeSpec := { name := "beamHeld", fn := fun _ => fun
  | [d1, d2, d3] => { results := [.lit (.bool false)], args := [d1, d2, d3] }
  | _ => none }
def BeamHeldWrongFalsely : Prop := beamHeldRow.holds Try.pinned (OpenSpec.ofChange beamHeldWrong)

/- THE SECOND FORM. 'bulk': how many values and letters a reading holds, each counted each time it is reached (what is shared counts as often as it is met; a slice's spare places count too). A statement '..UptoSaid' is the law's where the arguments, and the package variables that the reading takes, are together of bulk at most 1048576: NARROWER than '..Said'. Prove '..Said' where nothing that the law and all that it calls make is longer than what came in: it says more and counts as full. Else prove '..UptoSaid'. A law counts once. -/
mutual
def uptoBulk {H : Type} : DataW H → Nat
  | .lit (.string bytes) => bytes.length + 1
  | .lit _ => 1
  | .nil => 1
  | .ptr d => uptoBulk d + 1
  | .slice elems spare => uptoBulkAll elems + uptoBulkAll spare + 1
  | .agg parts => uptoBulkAll parts + 1
  | .iface _ d => uptoBulk d + 1
  | .map entries => uptoBulkEntries entries + 1
  | .held _ => 1
def uptoBulkAll {H : Type} : List (DataW H) → Nat
  | [] => 0
  | d :: r => uptoBulk d + uptoBulkAll r
def uptoBulkEntries {H : Type} : List (Lit × DataW H) → Nat
  | [] => 0
  | x :: r => uptoBulkEntry x + uptoBulkEntries r
def uptoBulkEntry {H : Type} : Lit × DataW H → Nat
  | (.string bytes, d) => bytes.length + uptoBulk d + 1
  | (_, d) => uptoBulk d + 1
 end
def uptoSmall : (H : Type) → List (DataW H) → Bool := fun _ ds => decide (uptoBulkAll ds ≤ 1048576)
def OpenSpec.upto (s : _root_.Go.ChangeSpec) : _root_.Go.OpenSpec := { _root_.Go.OpenSpec.ofChange s with cond := some uptoSmall }

/-- 'griffelaw06.BeamTakes', WHERE WHAT IT READS IS OF BULK AT MOST 1048576: true; the input reads as it did. -/
def beamTakesUptoRow : OpenClaim := { program := "ytbmihapnaclidaa", sum := "4b4f85becfedba9bb517fa8481b3f3310cc42218424af97474a6ee31538608a5", func := "griffe/griffelaw06.BeamTakes", spec := "beamTakes", unfollowed := true, recurses := true, apart := false, narrowed := true }
def BeamTakesUptoSaid : Prop := beamTakesUptoRow.holds Try.pinned (OpenSpec.upto beamTakesSpec)

/-- 'griffelaw06.BeamNearests', WHERE WHAT IT READS IS OF BULK AT MOST 1048576: true; the input reads as it did. -/
def beamNearestsUptoRow : OpenClaim := { program := "ytbmihapnaclidaa", sum := "4b4f85becfedba9bb517fa8481b3f3310cc42218424af97474a6ee31538608a5", func := "griffe/griffelaw06.BeamNearests", spec := "beamNearests", unfollowed := true, recurses := true, apart := false, narrowed := true }
def BeamNearestsUptoSaid : Prop := beamNearestsUptoRow.holds Try.pinned (OpenSpec.upto beamNearestsSpec)

/-- 'griffelaw06.BeamFigures', WHERE WHAT IT READS IS OF BULK AT MOST 1048576: true; the input reads as it did. -/
def beamFiguresUptoRow : OpenClaim := { program := "ytbmihapnaclidaa", sum := "4b4f85becfedba9bb517fa8481b3f3310cc42218424af97474a6ee31538608a5", func := "griffe/griffelaw06.BeamFigures", spec := "beamFigures", unfollowed := true, recurses := true, apart := false, narrowed := true }
def BeamFiguresUptoSaid : Prop := beamFiguresUptoRow.holds Try.pinned (OpenSpec.upto beamFiguresSpec)

/-- 'griffelaw06.BeamGives', WHERE WHAT IT READS IS OF BULK AT MOST 1048576: true; the input reads as it did. -/
def beamGivesUptoRow : OpenClaim := { program := "ytbmihapnaclidaa", sum := "4b4f85becfedba9bb517fa8481b3f3310cc42218424af97474a6ee31538608a5", func := "griffe/griffelaw06.BeamGives", spec := "beamGives", unfollowed := true, recurses := true, apart := false, narrowed := true }
def BeamGivesUptoSaid : Prop := beamGivesUptoRow.holds Try.pinned (OpenSpec.upto beamGivesSpec)

/-- 'griffelaw06.BeamRolls', WHERE WHAT IT READS IS OF BULK AT MOST 1048576: true; the input reads as it did. -/
def beamRollsUptoRow : OpenClaim := { program := "ytbmihapnaclidaa", sum := "4b4f85becfedba9bb517fa8481b3f3310cc42218424af97474a6ee31538608a5", func := "griffe/griffelaw06.BeamRolls", spec := "beamRolls", unfollowed := true, recurses := true, apart := false, narrowed := true }
def BeamRollsUptoSaid : Prop := beamRollsUptoRow.holds Try.pinned (OpenSpec.upto beamRollsSpec)

/-- 'griffelaw06.BeamExact', WHERE WHAT IT READS IS OF BULK AT MOST 1048576: true; the input reads as it did. -/
def beamExactUptoRow : OpenClaim := { program := "ytbmihapnaclidaa", sum := "4b4f85becfedba9bb517fa8481b3f3310cc42218424af97474a6ee31538608a5", func := "griffe/griffelaw06.BeamExact", spec := "beamExact", unfollowed := true, recurses := true, apart := false, narrowed := true }
def BeamExactUptoSaid : Prop := beamExactUptoRow.holds Try.pinned (OpenSpec.upto beamExactSpec)

/-- 'griffelaw06.BeamNearer', WHERE WHAT IT READS IS OF BULK AT MOST 1048576: true; the input reads as it did. -/
def beamNearerUptoRow : OpenClaim := { program := "ytbmihapnaclidaa", sum := "4b4f85becfedba9bb517fa8481b3f3310cc42218424af97474a6ee31538608a5", func := "griffe/griffelaw06.BeamNearer", spec := "beamNearer", unfollowed := true, recurses := true, apart := false, narrowed := true }
def BeamNearerUptoSaid : Prop := beamNearerUptoRow.holds Try.pinned (OpenSpec.upto beamNearerSpec)

/-- 'griffelaw06.BeamTruth', WHERE WHAT IT READS IS OF BULK AT MOST 1048576: true; the input reads as it did. -/
def beamTruthUptoRow : OpenClaim := { program := "ytbmihapnaclidaa", sum := "4b4f85becfedba9bb517fa8481b3f3310cc42218424af97474a6ee31538608a5", func := "griffe/griffelaw06.BeamTruth", spec := "beamTruth", unfollowed := true, recurses := true, apart := false, narrowed := true }
def BeamTruthUptoSaid : Prop := beamTruthUptoRow.holds Try.pinned (OpenSpec.upto beamTruthSpec)

/-- 'griffelaw06.BeamYards', WHERE WHAT IT READS IS OF BULK AT MOST 1048576: true; the input reads as it did. -/
def beamYardsUptoRow : OpenClaim := { program := "ytbmihapnaclidaa", sum := "4b4f85becfedba9bb517fa8481b3f3310cc42218424af97474a6ee31538608a5", func := "griffe/griffelaw06.BeamYards", spec := "beamYards", unfollowed := true, recurses := true, apart := false, narrowed := true }
def BeamYardsUptoSaid : Prop := beamYardsUptoRow.holds Try.pinned (OpenSpec.upto beamYardsSpec)

/-- 'griffelaw06.BeamHeld', WHERE WHAT IT READS IS OF BULK AT MOST 1048576: true; the input reads as it did. -/
def beamHeldUptoRow : OpenClaim := { program := "ytbmihapnaclidaa", sum := "4b4f85becfedba9bb517fa8481b3f3310cc42218424af97474a6ee31538608a5", func := "griffe/griffelaw06.BeamHeld", spec := "beamHeld", unfollowed := true, recurses := true, apart := false, narrowed := true }
def BeamHeldUptoSaid : Prop := beamHeldUptoRow.holds Try.pinned (OpenSpec.upto beamHeldSpec)

end Rows
end Go.Proofs.Ytbmihapnaclidaa

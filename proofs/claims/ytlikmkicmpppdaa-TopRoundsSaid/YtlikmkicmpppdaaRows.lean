/-
  No cell of these rows narrows 'for every input' (looked for: loops, veiled, ifaces, maps, wideKeys, modest, calm, conditions, laid).
  DERIVED. THE GIVEN ROWS OF THIS SEAT. 5 by the template 'for every input the law returns true; each argument reads behind the call as it read before'; 0 by the template 'total and deterministic' (their statements: YtlikmkicmpppdaaTotals.lean).
  GIVEN WITH THE SEED: the statements are not yours to turn. If you find one false, say at which input.
  Laid BY PROGRAM, IN A SANDBOX (cutbox-rows.mjs): the forced cells as the released guide's own fill.sh prints them over the translation a0f258dd646386d2… (all of the seat's roots in one cut). By AI agents, Wed Nov 11 2026. No macro, syntax, notation, axiom, sorry.
-/
import Derived.Test.YtlikmkicmpppdaaChecked
import GoSem.Claim
import GoSem.ClaimJoined
import GoSem.ClaimMapViews
import Derived.JoinedTies
import Derived.KernelRfl
namespace Go.Proofs.Ytlikmkicmpppdaa
/- THE CELL 'sum', in the pinned program and in every row, IS THE sha256 OF THE DUMP (.gsa) THAT YtlikmkicmpppdaaProg.lean LOADS. Nothing in Lean hashes anything: it is a label: what it is worth is what the hold of that sum in a sandbox is worth. -/
noncomputable def Try.pinned : Pinned := { name := "ytlikmkicmpppdaa", sum := "a0f258dd646386d2d0e7834dc12461115844f1ed34455ba6bd6bd679de631f31", checked := Try.checked }
namespace Rows
def none {H : Type} : Left H := { results := [], args := [] }

/-- 'griffetop.TopWoven': WHATEVER THE INPUT: true; the input reads as it did. -/
def topWovenSpec : ChangeSpec := { name := "topWoven", fn := fun _ => fun
  | [d1, d2, d3] => { results := [.lit (.bool true)], args := [d1, d2, d3] }
  | _ => none }
def topWovenRow : OpenClaim := { program := "ytlikmkicmpppdaa", sum := "a0f258dd646386d2d0e7834dc12461115844f1ed34455ba6bd6bd679de631f31", func := "griffe/griffetop.TopWoven", spec := "topWoven", unfollowed := true, recurses := true, plainKeys := false, apart := false }
def TopWovenSaid : Prop := topWovenRow.holds Try.pinned (OpenSpec.ofChange topWovenSpec)

/-- ITS FALSE NEIGHBOUR: 'it returns false'. Refute it at one input. -/
def topWovenWrong : ChangeSpec := { name := "topWoven", fn := fun _ => fun
  | [d1, d2, d3] => { results := [.lit (.bool false)], args := [d1, d2, d3] }
  | _ => none }
def TopWovenWrongFalsely : Prop := topWovenRow.holds Try.pinned (OpenSpec.ofChange topWovenWrong)

/-- 'griffetop.TopSkipped': WHATEVER THE INPUT: true; the input reads as it did. -/
def topSkippedSpec : ChangeSpec := { name := "topSkipped", fn := fun _ => fun
  | [d1, d2] => { results := [.lit (.bool true)], args := [d1, d2] }
  | _ => none }
def topSkippedRow : OpenClaim := { program := "ytlikmkicmpppdaa", sum := "a0f258dd646386d2d0e7834dc12461115844f1ed34455ba6bd6bd679de631f31", func := "griffe/griffetop.TopSkipped", spec := "topSkipped", unfollowed := true, recurses := true, plainKeys := false, apart := false }
def TopSkippedSaid : Prop := topSkippedRow.holds Try.pinned (OpenSpec.ofChange topSkippedSpec)

/-- ITS FALSE NEIGHBOUR: 'it returns false'. Refute it at one input. -/
def topSkippedWrong : ChangeSpec := { name := "topSkipped", fn := fun _ => fun
  | [d1, d2] => { results := [.lit (.bool false)], args := [d1, d2] }
  | _ => none }
def TopSkippedWrongFalsely : Prop := topSkippedRow.holds Try.pinned (OpenSpec.ofChange topSkippedWrong)

/-- 'griffetop.TopTurned': WHATEVER THE INPUT: true; the input reads as it did. -/
def topTurnedSpec : ChangeSpec := { name := "topTurned", fn := fun _ => fun
  | [d1, d2] => { results := [.lit (.bool true)], args := [d1, d2] }
  | _ => none }
def topTurnedRow : OpenClaim := { program := "ytlikmkicmpppdaa", sum := "a0f258dd646386d2d0e7834dc12461115844f1ed34455ba6bd6bd679de631f31", func := "griffe/griffetop.TopTurned", spec := "topTurned", unfollowed := true, recurses := true, plainKeys := false, apart := false }
def TopTurnedSaid : Prop := topTurnedRow.holds Try.pinned (OpenSpec.ofChange topTurnedSpec)

/-- ITS FALSE NEIGHBOUR: 'it returns false'. Refute it at one input. -/
def topTurnedWrong : ChangeSpec := { name := "topTurned", fn := fun _ => fun
  | [d1, d2] => { results := [.lit (.bool false)], args := [d1, d2] }
  | _ => none }
def TopTurnedWrongFalsely : Prop := topTurnedRow.holds Try.pinned (OpenSpec.ofChange topTurnedWrong)

/-- 'griffetop.TopRounds': WHATEVER THE INPUT: true; the input reads as it did. -/
def topRoundsSpec : ChangeSpec := { name := "topRounds", fn := fun _ => fun
  | [d1, d2, d3] => { results := [.lit (.bool true)], args := [d1, d2, d3] }
  | _ => none }
def topRoundsRow : OpenClaim := { program := "ytlikmkicmpppdaa", sum := "a0f258dd646386d2d0e7834dc12461115844f1ed34455ba6bd6bd679de631f31", func := "griffe/griffetop.TopRounds", spec := "topRounds", unfollowed := true, recurses := true, plainKeys := false, apart := false }
def TopRoundsSaid : Prop := topRoundsRow.holds Try.pinned (OpenSpec.ofChange topRoundsSpec)

/-- ITS FALSE NEIGHBOUR: 'it returns false'. Refute it at one input. -/
def topRoundsWrong : ChangeSpec := { name := "topRounds", fn := fun _ => fun
  | [d1, d2, d3] => { results := [.lit (.bool false)], args := [d1, d2, d3] }
  | _ => none }
def TopRoundsWrongFalsely : Prop := topRoundsRow.holds Try.pinned (OpenSpec.ofChange topRoundsWrong)

/-- 'griffetop.TopOutMoved': WHATEVER THE INPUT: true; the input reads as it did. -/
def topOutMovedSpec : ChangeSpec := { name := "topOutMoved", fn := fun _ => fun
  | [d1, d2] => { results := [.lit (.bool true)], args := [d1, d2] }
  | _ => none }
def topOutMovedRow : OpenClaim := { program := "ytlikmkicmpppdaa", sum := "a0f258dd646386d2d0e7834dc12461115844f1ed34455ba6bd6bd679de631f31", func := "griffe/griffetop.TopOutMoved", spec := "topOutMoved", unfollowed := true, recurses := true, plainKeys := false, apart := false }
def TopOutMovedSaid : Prop := topOutMovedRow.holds Try.pinned (OpenSpec.ofChange topOutMovedSpec)

/-- ITS FALSE NEIGHBOUR: 'it returns false'. Refute it at one input. -/
def topOutMovedWrong : ChangeSpec := { name := "topOutMoved", fn := fun _ => fun
  | [d1, d2] => { results := [.lit (.bool false)], args := [d1, d2] }
  | _ => none }
def TopOutMovedWrongFalsely : Prop := topOutMovedRow.holds Try.pinned (OpenSpec.ofChange topOutMovedWrong)

/- THE SECOND FORM. 'bulk': how many values and letters a reading holds, each counted each time it is reached (what is shared counts as often as it is met; a slice's spare places count too). A statement '..UptoSaid' is the law's where the arguments, and the package variables that the reading takes, are together of bulk at most 1048576: NARROWER than '..Said'. Prove '..Said' where nothing that the law and all that it calls make is longer than what came in: it says more and counts as full. Else prove '..UptoSaid'. A law counts once. -/
mutual
def uptoBulk {H : Type} : DataW H → Nat
  | .lit (.string bytes) => bytes.length + 1
  | .lit _ => 1
  | .nil => 1
  | .ptr d => uptoBulk d + 1
  | .slice elems spare => uptoBulkAll elems + uptoBulkAll spare + 1
  | .agg parts => uptoBulkAll parts + 1
  | .iface _ d => uptoBulk d + 1
  | .map entries => uptoBulkEntries entries + 1
  | .held _ => 1
def uptoBulkAll {H : Type} : List (DataW H) → Nat
  | [] => 0
  | d :: r => uptoBulk d + uptoBulkAll r
def uptoBulkEntries {H : Type} : List (Lit × DataW H) → Nat
  | [] => 0
  | x :: r => uptoBulkEntry x + uptoBulkEntries r
def uptoBulkEntry {H : Type} : Lit × DataW H → Nat
  | (.string bytes, d) => bytes.length + uptoBulk d + 1
  | (_, d) => uptoBulk d + 1
 end
def uptoSmall : (H : Type) → List (DataW H) → Bool := fun _ ds => decide (uptoBulkAll ds ≤ 1048576)
def OpenSpec.upto (s : _root_.Go.ChangeSpec) : _root_.Go.OpenSpec := { _root_.Go.OpenSpec.ofChange s with cond := some uptoSmall }

/-- 'griffetop.TopWoven', WHERE WHAT IT READS IS OF BULK AT MOST 1048576: true; the input reads as it did. -/
def topWovenUptoRow : OpenClaim := { program := "ytlikmkicmpppdaa", sum := "a0f258dd646386d2d0e7834dc12461115844f1ed34455ba6bd6bd679de631f31", func := "griffe/griffetop.TopWoven", spec := "topWoven", unfollowed := true, recurses := true, plainKeys := false, apart := false, narrowed := true }
def TopWovenUptoSaid : Prop := topWovenUptoRow.holds Try.pinned (OpenSpec.upto topWovenSpec)

/-- 'griffetop.TopSkipped', WHERE WHAT IT READS IS OF BULK AT MOST 1048576: true; the input reads as it did. -/
def topSkippedUptoRow : OpenClaim := { program := "ytlikmkicmpppdaa", sum := "a0f258dd646386d2d0e7834dc12461115844f1ed34455ba6bd6bd679de631f31", func := "griffe/griffetop.TopSkipped", spec := "topSkipped", unfollowed := true, recurses := true, plainKeys := false, apart := false, narrowed := true }
def TopSkippedUptoSaid : Prop := topSkippedUptoRow.holds Try.pinned (OpenSpec.upto topSkippedSpec)

/-- 'griffetop.TopTurned', WHERE WHAT IT READS IS OF BULK AT MOST 1048576: true; the input reads as it did. -/
def topTurnedUptoRow : OpenClaim := { program := "ytlikmkicmpppdaa", sum := "a0f258dd646386d2d0e7834dc12461115844f1ed34455ba6bd6bd679de631f31", func := "griffe/griffetop.TopTurned", spec := "topTurned", unfollowed := true, recurses := true, plainKeys := false, apart := false, narrowed := true }
def TopTurnedUptoSaid : Prop := topTurnedUptoRow.holds Try.pinned (OpenSpec.upto topTurnedSpec)

/-- 'griffetop.TopRounds', WHERE WHAT IT READS IS OF BULK AT MOST 1048576: true; the input reads as it did. -/
def topRoundsUptoRow : OpenClaim := { program := "ytlikmkicmpppdaa", sum := "a0f258dd646386d2d0e7834dc12461115844f1ed34455ba6bd6bd679de631f31", func := "griffe/griffetop.TopRounds", spec := "topRounds", unfollowed := true, recurses := true, plainKeys := false, apart := false, narrowed := true }
def TopRoundsUptoSaid : Prop := topRoundsUptoRow.holds Try.pinned (OpenSpec.upto topRoundsSpec)

/-- 'griffetop.TopOutMoved', WHERE WHAT IT READS IS OF BULK AT MOST 1048576: true; the input reads as it did. -/
def topOutMovedUptoRow : OpenClaim := { program := "ytlikmkicmpppdaa", sum := "a0f258dd646386d2d0e7834dc12461115844f1ed34455ba6bd6bd679de631f31", func := "griffe/griffetop.TopOutMoved", spec := "topOutMoved", unfollowed := true, recurses := true, plainKeys := false, apart := false, narrowed := true }
def TopOutMovedUptoSaid : Prop := topOutMovedUptoRow.holds Try.pinned (OpenSpec.upto topOutMovedSpec)

end Rows
end Go.Proofs.Ytlikmkicmpppdaa

/-
  No cell of these rows narrows 'for every input' (looked for: loops, veiled, ifaces, maps, wideKeys, modest, calm, conditions, laid).
  DERIVED. THE GIVEN ROWS OF THIS SEAT. 4 by the template 'for every input the law returns true; each argument reads behind the call as it read before'; 0 by the template 'total and deterministic' (their statements: YtlcikiobkmajbaaTotals.lean).
  GIVEN WITH THE SEED: the statements are not yours to turn. If you find one false, say at which input.
  Laid BY PROGRAM, IN A SANDBOX (cutbox-rows.mjs): the forced cells as the released guide's own fill.sh prints them over the translation 650bee3987522338… (all of the seat's roots in one cut). By AI agents, Wed Nov 11 2026. No macro, syntax, notation, axiom, sorry.
-/
import Derived.Test.YtlcikiobkmajbaaChecked
import GoSem.Claim
import GoSem.ClaimJoined
import GoSem.ClaimMapViews
import Derived.JoinedTies
import Derived.KernelRfl
namespace Go.Proofs.Ytlcikiobkmajbaa
/- THE CELL 'sum', in the pinned program and in every row, IS THE sha256 OF THE DUMP (.gsa) THAT YtlcikiobkmajbaaProg.lean LOADS. Nothing in Lean hashes anything: it is a label: what it is worth is what the hold of that sum in a sandbox is worth. -/
noncomputable def Try.pinned : Pinned := { name := "ytlcikiobkmajbaa", sum := "650bee3987522338940493bb9b46bc58367065399532625408e90f53e928556f", checked := Try.checked }
namespace Rows
def none {H : Type} : Left H := { results := [], args := [] }

/-- 'griffetop.TopDays': WHATEVER THE INPUT: true; the input reads as it did. -/
def topDaysSpec : ChangeSpec := { name := "topDays", fn := fun _ => fun
  | [d1, d2, d3] => { results := [.lit (.bool true)], args := [d1, d2, d3] }
  | _ => none }
def topDaysRow : OpenClaim := { program := "ytlcikiobkmajbaa", sum := "650bee3987522338940493bb9b46bc58367065399532625408e90f53e928556f", func := "griffe/griffetop.TopDays", spec := "topDays", unfollowed := true, recurses := true, plainKeys := false, apart := false }
def TopDaysSaid : Prop := topDaysRow.holds Try.pinned (OpenSpec.ofChange topDaysSpec)

/-- ITS FALSE NEIGHBOUR: 'it returns false'. Refute it at one input. -/
def topDaysWrong : ChangeSpec := { name := "topDays", fn := fun _ => fun
  | [d1, d2, d3] => { results := [.lit (.bool false)], args := [d1, d2, d3] }
  | _ => none }
def TopDaysWrongFalsely : Prop := topDaysRow.holds Try.pinned (OpenSpec.ofChange topDaysWrong)

/-- 'griffetop.TopSeamDays': WHATEVER THE INPUT: true; the input reads as it did. -/
def topSeamDaysSpec : ChangeSpec := { name := "topSeamDays", fn := fun _ => fun
  | [d1, d2, d3] => { results := [.lit (.bool true)], args := [d1, d2, d3] }
  | _ => none }
def topSeamDaysRow : OpenClaim := { program := "ytlcikiobkmajbaa", sum := "650bee3987522338940493bb9b46bc58367065399532625408e90f53e928556f", func := "griffe/griffetop.TopSeamDays", spec := "topSeamDays", unfollowed := true, recurses := true, plainKeys := false, apart := false }
def TopSeamDaysSaid : Prop := topSeamDaysRow.holds Try.pinned (OpenSpec.ofChange topSeamDaysSpec)

/-- ITS FALSE NEIGHBOUR: 'it returns false'. Refute it at one input. -/
def topSeamDaysWrong : ChangeSpec := { name := "topSeamDays", fn := fun _ => fun
  | [d1, d2, d3] => { results := [.lit (.bool false)], args := [d1, d2, d3] }
  | _ => none }
def TopSeamDaysWrongFalsely : Prop := topSeamDaysRow.holds Try.pinned (OpenSpec.ofChange topSeamDaysWrong)

/-- 'griffetop.TopReadyChain': WHATEVER THE INPUT: true; the input reads as it did. -/
def topReadyChainSpec : ChangeSpec := { name := "topReadyChain", fn := fun _ => fun
  | [d1, d2, d3] => { results := [.lit (.bool true)], args := [d1, d2, d3] }
  | _ => none }
def topReadyChainRow : OpenClaim := { program := "ytlcikiobkmajbaa", sum := "650bee3987522338940493bb9b46bc58367065399532625408e90f53e928556f", func := "griffe/griffetop.TopReadyChain", spec := "topReadyChain", unfollowed := true, recurses := true, plainKeys := false, apart := false }
def TopReadyChainSaid : Prop := topReadyChainRow.holds Try.pinned (OpenSpec.ofChange topReadyChainSpec)

/-- ITS FALSE NEIGHBOUR: 'it returns false'. Refute it at one input. -/
def topReadyChainWrong : ChangeSpec := { name := "topReadyChain", fn := fun _ => fun
  | [d1, d2, d3] => { results := [.lit (.bool false)], args := [d1, d2, d3] }
  | _ => none }
def TopReadyChainWrongFalsely : Prop := topReadyChainRow.holds Try.pinned (OpenSpec.ofChange topReadyChainWrong)

/-- 'griffetop.TopDense': WHATEVER THE INPUT: true; the input reads as it did. -/
def topDenseSpec : ChangeSpec := { name := "topDense", fn := fun _ => fun
  | [d1, d2, d3] => { results := [.lit (.bool true)], args := [d1, d2, d3] }
  | _ => none }
def topDenseRow : OpenClaim := { program := "ytlcikiobkmajbaa", sum := "650bee3987522338940493bb9b46bc58367065399532625408e90f53e928556f", func := "griffe/griffetop.TopDense", spec := "topDense", unfollowed := true, recurses := true, plainKeys := false, apart := false }
def TopDenseSaid : Prop := topDenseRow.holds Try.pinned (OpenSpec.ofChange topDenseSpec)

/-- ITS FALSE NEIGHBOUR: 'it returns false'. Refute it at one input. -/
def topDenseWrong : ChangeSpec := { name := "topDense", fn := fun _ => fun
  | [d1, d2, d3] => { results := [.lit (.bool false)], args := [d1, d2, d3] }
  | _ => none }
def TopDenseWrongFalsely : Prop := topDenseRow.holds Try.pinned (OpenSpec.ofChange topDenseWrong)

/- THE SECOND FORM. 'bulk': how many values and letters a reading holds, each counted each time it is reached (what is shared counts as often as it is met; a slice's spare places count too). A statement '..UptoSaid' is the law's where the arguments, and the package variables that the reading takes, are together of bulk at most 1048576: NARROWER than '..Said'. Prove '..Said' where nothing that the law and all that it calls make is longer than what came in: it says more and counts as full. Else prove '..UptoSaid'. A law counts once. -/
mutual
def uptoBulk {H : Type} : DataW H → Nat
  | .lit (.string bytes) => bytes.length + 1
  | .lit _ => 1
  | .nil => 1
  | .ptr d => uptoBulk d + 1
  | .slice elems spare => uptoBulkAll elems + uptoBulkAll spare + 1
  | .agg parts => uptoBulkAll parts + 1
  | .iface _ d => uptoBulk d + 1
  | .map entries => uptoBulkEntries entries + 1
  | .held _ => 1
def uptoBulkAll {H : Type} : List (DataW H) → Nat
  | [] => 0
  | d :: r => uptoBulk d + uptoBulkAll r
def uptoBulkEntries {H : Type} : List (Lit × DataW H) → Nat
  | [] => 0
  | x :: r => uptoBulkEntry x + uptoBulkEntries r
def uptoBulkEntry {H : Type} : Lit × DataW H → Nat
  | (.string bytes, d) => bytes.length + uptoBulk d + 1
  | (_, d) => uptoBulk d + 1
 end
def uptoSmall : (H : Type) → List (DataW H) → Bool := fun _ ds => decide (uptoBulkAll ds ≤ 1048576)
def OpenSpec.upto (s : _root_.Go.ChangeSpec) : _root_.Go.OpenSpec := { _root_.Go.OpenSpec.ofChange s with cond := some uptoSmall }

/-- 'griffetop.TopDays', WHERE WHAT IT READS IS OF BULK AT MOST 1048576: true; the input reads as it did. -/
def topDaysUptoRow : OpenClaim := { program := "ytlcikiobkmajbaa", sum := "650bee3987522338940493bb9b46bc58367065399532625408e90f53e928556f", func := "griffe/griffetop.TopDays", spec := "topDays", unfollowed := true, recurses := true, plainKeys := false, apart := false, narrowed := true }
def TopDaysUptoSaid : Prop := topDaysUptoRow.holds Try.pinned (OpenSpec.upto topDaysSpec)

/-- 'griffetop.TopSeamDays', WHERE WHAT IT READS IS OF BULK AT MOST 1048576: true; the input reads as it did. -/
def topSeamDaysUptoRow : OpenClaim := { program := "ytlcikiobkmajbaa", sum := "650bee3987522338940493bb9b46bc58367065399532625408e90f53e928556f", func := "griffe/griffetop.TopSeamDays", spec := "topSeamDays", unfollowed := true, recurses := true, plainKeys := false, apart := false, narrowed := true }
def TopSeamDaysUptoSaid : Prop := topSeamDaysUptoRow.holds Try.pinned (OpenSpec.upto topSeamDaysSpec)

/-- 'griffetop.TopReadyChain', WHERE WHAT IT READS IS OF BULK AT MOST 1048576: true; the input reads as it did. -/
def topReadyChainUptoRow : OpenClaim := { program := "ytlcikiobkmajbaa", sum := "650bee3987522338940493bb9b46bc58367065399532625408e90f53e928556f", func := "griffe/griffetop.TopReadyChain", spec := "topReadyChain", unfollowed := true, recurses := true, plainKeys := false, apart := false, narrowed := true }
def TopReadyChainUptoSaid : Prop := topReadyChainUptoRow.holds Try.pinned (OpenSpec.upto topReadyChainSpec)

/-- 'griffetop.TopDense', WHERE WHAT IT READS IS OF BULK AT MOST 1048576: true; the input reads as it did. -/
def topDenseUptoRow : OpenClaim := { program := "ytlcikiobkmajbaa", sum := "650bee3987522338940493bb9b46bc58367065399532625408e90f53e928556f", func := "griffe/griffetop.TopDense", spec := "topDense", unfollowed := true, recurses := true, plainKeys := false, apart := false, narrowed := true }
def TopDenseUptoSaid : Prop := topDenseUptoRow.holds Try.pinned (OpenSpec.upto topDenseSpec)

end Rows
end Go.Proofs.Ytlcikiobkmajbaa

/-
  NARROWER THAN 'FOR EVERY INPUT', by the rows' own cells (each row's printed sentence says how): CopyMades: laid · CopyTrees: laid · CopyOriginals: laid · CopyKeys: laid · CopyRestores: laid · CopyTruth: laid · CopyOrder: laid · CopyEnough: laid · CopyKeyed: laid · CopyTurned: laid.
  DERIVED. THE GIVEN ROWS OF THIS SEAT. 10 by the template 'for every input the law returns true; each argument reads behind the call as it read before'; 0 by the template 'total and deterministic' (their statements: YtodpkfillohplaaDoorTotals.lean).
  GIVEN WITH THE SEED: the statements are not yours to turn. If you find one false, say at which input.
  Laid BY PROGRAM, IN A SANDBOX (cutbox-rows.mjs): the forced cells as the released guide's own fill.sh prints them over the translation 517278b11cb4255d… (all of the seat's roots in one cut). By AI agents, Wed Nov 11 2026. No macro, syntax, notation, axiom, sorry.
-/
import Derived.Test.YtodpkfillohplaaDoorChecked
import GoSem.Claim
import GoSem.ClaimJoined
import GoSem.ClaimMapViews
import Derived.JoinedTies
import Derived.KernelRfl
namespace Go.Proofs.YtodpkfillohplaaDoor
/- THE CELL 'sum', in the pinned program and in every row, IS THE sha256 OF THE DUMP (.gsa) THAT YtodpkfillohplaaDoorProg.lean LOADS. Nothing in Lean hashes anything: it is a label: what it is worth is what the hold of that sum in a sandbox is worth. -/
noncomputable def Tryd.pinned : Pinned := { name := "ytodpkfillohplaadoor", sum := "517278b11cb4255d9d85801b18be6fb5a10ea4e5996c44bec87678bbba7f2adf", checked := Tryd.checked }
namespace Rows
def none {H : Type} : Left H := { results := [], args := [] }

/- WHAT THE LISTED PACKAGE-LEVEL VARIABLES READ AS WHEN THE CALL BEGINS. Each datum BY PROGRAM (the guide's laid-datum.mjs) off the statement by which the dump's own 'gosem.cut.vars' lays the variable. In a bare row this is a premise. The card (YtodpkfillohplaaDoorCards.lean) ties it to the program's text. -/
def laid_math_bits_deBruijn64tab {H : Type} : DataW H := .agg [.lit (.int .u8 0), .lit (.int .u8 1), .lit (.int .u8 56), .lit (.int .u8 2), .lit (.int .u8 57), .lit (.int .u8 49), .lit (.int .u8 28), .lit (.int .u8 3), .lit (.int .u8 61), .lit (.int .u8 58), .lit (.int .u8 42), .lit (.int .u8 50), .lit (.int .u8 38), .lit (.int .u8 29), .lit (.int .u8 17), .lit (.int .u8 4), .lit (.int .u8 62), .lit (.int .u8 47), .lit (.int .u8 59), .lit (.int .u8 36), .lit (.int .u8 45), .lit (.int .u8 43), .lit (.int .u8 51), .lit (.int .u8 22), .lit (.int .u8 53), .lit (.int .u8 39), .lit (.int .u8 33), .lit (.int .u8 30), .lit (.int .u8 24), .lit (.int .u8 18), .lit (.int .u8 12), .lit (.int .u8 5), .lit (.int .u8 63), .lit (.int .u8 55), .lit (.int .u8 48), .lit (.int .u8 27), .lit (.int .u8 60), .lit (.int .u8 41), .lit (.int .u8 37), .lit (.int .u8 16), .lit (.int .u8 46), .lit (.int .u8 35), .lit (.int .u8 44), .lit (.int .u8 21), .lit (.int .u8 52), .lit (.int .u8 32), .lit (.int .u8 23), .lit (.int .u8 11), .lit (.int .u8 54), .lit (.int .u8 26), .lit (.int .u8 40), .lit (.int .u8 15), .lit (.int .u8 34), .lit (.int .u8 20), .lit (.int .u8 31), .lit (.int .u8 10), .lit (.int .u8 25), .lit (.int .u8 14), .lit (.int .u8 19), .lit (.int .u8 9), .lit (.int .u8 13), .lit (.int .u8 8), .lit (.int .u8 7), .lit (.int .u8 6)]

/-- 'griffelaw12.CopyMades': WHATEVER THE INPUT: true; the input reads as it did. -/
def copyMadesSpec : ChangeSpec := { name := "copyMades", fn := fun _ => fun
  | [d1, d2, d3] => { results := [.lit (.bool true)], args := [d1, d2, d3] }
  | _ => none }
def copyMadesRow : OpenClaim := { program := "ytodpkfillohplaadoor", sum := "517278b11cb4255d9d85801b18be6fb5a10ea4e5996c44bec87678bbba7f2adf", func := "griffe/griffelaw12.CopyMades", spec := "copyMades", unfollowed := true, recurses := true, named := ["math/bits.deBruijn64tab"], apart := false, laid := [("math/bits.deBruijn64tab", laid_math_bits_deBruijn64tab)] }
def CopyMadesSaid : Prop := copyMadesRow.holds Tryd.pinned (OpenSpec.ofChange copyMadesSpec)

/-- ITS FALSE NEIGHBOUR: 'it returns false'. Refute it at one input. -/
def copyMadesWrong : ChangeSpec := { name := "copyMades", fn := fun _ => fun
  | [d1, d2, d3] => { results := [.lit (.bool false)], args := [d1, d2, d3] }
  | _ => none }
def CopyMadesWrongFalsely : Prop := copyMadesRow.holds Tryd.pinned (OpenSpec.ofChange copyMadesWrong)

/-- 'griffelaw12.CopyTrees': WHATEVER THE INPUT: true; the input reads as it did. -/
def copyTreesSpec : ChangeSpec := { name := "copyTrees", fn := fun _ => fun
  | [d1, d2] => { results := [.lit (.bool true)], args := [d1, d2] }
  | _ => none }
def copyTreesRow : OpenClaim := { program := "ytodpkfillohplaadoor", sum := "517278b11cb4255d9d85801b18be6fb5a10ea4e5996c44bec87678bbba7f2adf", func := "griffe/griffelaw12.CopyTrees", spec := "copyTrees", unfollowed := true, recurses := true, named := ["math/bits.deBruijn64tab"], apart := false, laid := [("math/bits.deBruijn64tab", laid_math_bits_deBruijn64tab)] }
def CopyTreesSaid : Prop := copyTreesRow.holds Tryd.pinned (OpenSpec.ofChange copyTreesSpec)

/-- ITS FALSE NEIGHBOUR: 'it returns false'. Refute it at one input. -/
def copyTreesWrong : ChangeSpec := { name := "copyTrees", fn := fun _ => fun
  | [d1, d2] => { results := [.lit (.bool false)], args := [d1, d2] }
  | _ => none }
def CopyTreesWrongFalsely : Prop := copyTreesRow.holds Tryd.pinned (OpenSpec.ofChange copyTreesWrong)

/-- 'griffelaw12.CopyOriginals': WHATEVER THE INPUT: true; the input reads as it did. -/
def copyOriginalsSpec : ChangeSpec := { name := "copyOriginals", fn := fun _ => fun
  | [d1, d2, d3] => { results := [.lit (.bool true)], args := [d1, d2, d3] }
  | _ => none }
def copyOriginalsRow : OpenClaim := { program := "ytodpkfillohplaadoor", sum := "517278b11cb4255d9d85801b18be6fb5a10ea4e5996c44bec87678bbba7f2adf", func := "griffe/griffelaw12.CopyOriginals", spec := "copyOriginals", unfollowed := true, recurses := true, named := ["math/bits.deBruijn64tab"], apart := false, laid := [("math/bits.deBruijn64tab", laid_math_bits_deBruijn64tab)] }
def CopyOriginalsSaid : Prop := copyOriginalsRow.holds Tryd.pinned (OpenSpec.ofChange copyOriginalsSpec)

/-- ITS FALSE NEIGHBOUR: 'it returns false'. Refute it at one input. -/
def copyOriginalsWrong : ChangeSpec := { name := "copyOriginals", fn := fun _ => fun
  | [d1, d2, d3] => { results := [.lit (.bool false)], args := [d1, d2, d3] }
  | _ => none }
def CopyOriginalsWrongFalsely : Prop := copyOriginalsRow.holds Tryd.pinned (OpenSpec.ofChange copyOriginalsWrong)

/-- 'griffelaw12.CopyKeys': WHATEVER THE INPUT: true; the input reads as it did. -/
def copyKeysSpec : ChangeSpec := { name := "copyKeys", fn := fun _ => fun
  | [d1, d2] => { results := [.lit (.bool true)], args := [d1, d2] }
  | _ => none }
def copyKeysRow : OpenClaim := { program := "ytodpkfillohplaadoor", sum := "517278b11cb4255d9d85801b18be6fb5a10ea4e5996c44bec87678bbba7f2adf", func := "griffe/griffelaw12.CopyKeys", spec := "copyKeys", unfollowed := true, recurses := true, named := ["math/bits.deBruijn64tab"], apart := false, laid := [("math/bits.deBruijn64tab", laid_math_bits_deBruijn64tab)] }
def CopyKeysSaid : Prop := copyKeysRow.holds Tryd.pinned (OpenSpec.ofChange copyKeysSpec)

/-- ITS FALSE NEIGHBOUR: 'it returns false'. Refute it at one input. -/
def copyKeysWrong : ChangeSpec := { name := "copyKeys", fn := fun _ => fun
  | [d1, d2] => { results := [.lit (.bool false)], args := [d1, d2] }
  | _ => none }
def CopyKeysWrongFalsely : Prop := copyKeysRow.holds Tryd.pinned (OpenSpec.ofChange copyKeysWrong)

/-- 'griffelaw12.CopyRestores': WHATEVER THE INPUT: true; the input reads as it did. -/
def copyRestoresSpec : ChangeSpec := { name := "copyRestores", fn := fun _ => fun
  | [d1, d2, d3] => { results := [.lit (.bool true)], args := [d1, d2, d3] }
  | _ => none }
def copyRestoresRow : OpenClaim := { program := "ytodpkfillohplaadoor", sum := "517278b11cb4255d9d85801b18be6fb5a10ea4e5996c44bec87678bbba7f2adf", func := "griffe/griffelaw12.CopyRestores", spec := "copyRestores", unfollowed := true, recurses := true, named := ["math/bits.deBruijn64tab"], apart := false, laid := [("math/bits.deBruijn64tab", laid_math_bits_deBruijn64tab)] }
def CopyRestoresSaid : Prop := copyRestoresRow.holds Tryd.pinned (OpenSpec.ofChange copyRestoresSpec)

/-- ITS FALSE NEIGHBOUR: 'it returns false'. Refute it at one input. -/
def copyRestoresWrong : ChangeSpec := { name := "copyRestores", fn := fun _ => fun
  | [d1, d2, d3] => { results := [.lit (.bool false)], args := [d1, d2, d3] }
  | _ => none }
def CopyRestoresWrongFalsely : Prop := copyRestoresRow.holds Tryd.pinned (OpenSpec.ofChange copyRestoresWrong)

/-- 'griffelaw12.CopyTruth': WHATEVER THE INPUT: true; the input reads as it did. -/
def copyTruthSpec : ChangeSpec := { name := "copyTruth", fn := fun _ => fun
  | [d1, d2] => { results := [.lit (.bool true)], args := [d1, d2] }
  | _ => none }
def copyTruthRow : OpenClaim := { program := "ytodpkfillohplaadoor", sum := "517278b11cb4255d9d85801b18be6fb5a10ea4e5996c44bec87678bbba7f2adf", func := "griffe/griffelaw12.CopyTruth", spec := "copyTruth", unfollowed := true, recurses := true, named := ["math/bits.deBruijn64tab"], apart := false, laid := [("math/bits.deBruijn64tab", laid_math_bits_deBruijn64tab)] }
def CopyTruthSaid : Prop := copyTruthRow.holds Tryd.pinned (OpenSpec.ofChange copyTruthSpec)

/-- ITS FALSE NEIGHBOUR: 'it returns false'. Refute it at one input. -/
def copyTruthWrong : ChangeSpec := { name := "copyTruth", fn := fun _ => fun
  | [d1, d2] => { results := [.lit (.bool false)], args := [d1, d2] }
  | _ => none }
def CopyTruthWrongFalsely : Prop := copyTruthRow.holds Tryd.pinned (OpenSpec.ofChange copyTruthWrong)

/-- 'griffelaw12.CopyOrder': WHATEVER THE INPUT: true; the input reads as it did. -/
def copyOrderSpec : ChangeSpec := { name := "copyOrder", fn := fun _ => fun
  | [d] => { results := [.lit (.bool true)], args := [d] }
  | _ => none }
def copyOrderRow : OpenClaim := { program := "ytodpkfillohplaadoor", sum := "517278b11cb4255d9d85801b18be6fb5a10ea4e5996c44bec87678bbba7f2adf", func := "griffe/griffelaw12.CopyOrder", spec := "copyOrder", unfollowed := true, recurses := true, named := ["math/bits.deBruijn64tab"], apart := false, laid := [("math/bits.deBruijn64tab", laid_math_bits_deBruijn64tab)] }
def CopyOrderSaid : Prop := copyOrderRow.holds Tryd.pinned (OpenSpec.ofChange copyOrderSpec)

/-- ITS FALSE NEIGHBOUR: 'it returns false'. Refute it at one input. -/
def copyOrderWrong : ChangeSpec := { name := "copyOrder", fn := fun _ => fun
  | [d] => { results := [.lit (.bool false)], args := [d] }
  | _ => none }
def CopyOrderWrongFalsely : Prop := copyOrderRow.holds Tryd.pinned (OpenSpec.ofChange copyOrderWrong)

/-- 'griffelaw12.CopyEnough': WHATEVER THE INPUT: true; the input reads as it did. -/
def copyEnoughSpec : ChangeSpec := { name := "copyEnough", fn := fun _ => fun
  | [d1, d2] => { results := [.lit (.bool true)], args := [d1, d2] }
  | _ => none }
def copyEnoughRow : OpenClaim := { program := "ytodpkfillohplaadoor", sum := "517278b11cb4255d9d85801b18be6fb5a10ea4e5996c44bec87678bbba7f2adf", func := "griffe/griffelaw12.CopyEnough", spec := "copyEnough", unfollowed := true, recurses := true, named := ["math/bits.deBruijn64tab"], apart := false, laid := [("math/bits.deBruijn64tab", laid_math_bits_deBruijn64tab)] }
def CopyEnoughSaid : Prop := copyEnoughRow.holds Tryd.pinned (OpenSpec.ofChange copyEnoughSpec)

/-- ITS FALSE NEIGHBOUR: 'it returns false'. Refute it at one input. -/
def copyEnoughWrong : ChangeSpec := { name := "copyEnough", fn := fun _ => fun
  | [d1, d2] => { results := [.lit (.bool false)], args := [d1, d2] }
  | _ => none }
def CopyEnoughWrongFalsely : Prop := copyEnoughRow.holds Tryd.pinned (OpenSpec.ofChange copyEnoughWrong)

/-- 'griffelaw12.CopyKeyed': WHATEVER THE INPUT: true; the input reads as it did. -/
def copyKeyedSpec : ChangeSpec := { name := "copyKeyed", fn := fun _ => fun
  | [d1, d2, d3] => { results := [.lit (.bool true)], args := [d1, d2, d3] }
  | _ => none }
def copyKeyedRow : OpenClaim := { program := "ytodpkfillohplaadoor", sum := "517278b11cb4255d9d85801b18be6fb5a10ea4e5996c44bec87678bbba7f2adf", func := "griffe/griffelaw12.CopyKeyed", spec := "copyKeyed", unfollowed := true, recurses := true, named := ["math/bits.deBruijn64tab"], apart := false, laid := [("math/bits.deBruijn64tab", laid_math_bits_deBruijn64tab)] }
def CopyKeyedSaid : Prop := copyKeyedRow.holds Tryd.pinned (OpenSpec.ofChange copyKeyedSpec)

/-- ITS FALSE NEIGHBOUR: 'it returns false'. Refute it at one input. -/
def copyKeyedWrong : ChangeSpec := { name := "copyKeyed", fn := fun _ => fun
  | [d1, d2, d3] => { results := [.lit (.bool false)], args := [d1, d2, d3] }
  | _ => none }
def CopyKeyedWrongFalsely : Prop := copyKeyedRow.holds Tryd.pinned (OpenSpec.ofChange copyKeyedWrong)

/-- 'griffelaw12.CopyTurned': WHATEVER THE INPUT: true; the input reads as it did. -/
def copyTurnedSpec : ChangeSpec := { name := "copyTurned", fn := fun _ => fun
  | [d1, d2, d3] => { results := [.lit (.bool true)], args := [d1, d2, d3] }
  | _ => none }
def copyTurnedRow : OpenClaim := { program := "ytodpkfillohplaadoor", sum := "517278b11cb4255d9d85801b18be6fb5a10ea4e5996c44bec87678bbba7f2adf", func := "griffe/griffelaw12.CopyTurned", spec := "copyTurned", unfollowed := true, recurses := true, named := ["math/bits.deBruijn64tab"], apart := false, laid := [("math/bits.deBruijn64tab", laid_math_bits_deBruijn64tab)] }
def CopyTurnedSaid : Prop := copyTurnedRow.holds Tryd.pinned (OpenSpec.ofChange copyTurnedSpec)

/-- ITS FALSE NEIGHBOUR: 'it returns false'. Refute it at one input. -/
def copyTurnedWrong : ChangeSpec := { name := "copyTurned", fn := fun _ => fun
  | [d1, d2, d3] => { results := [.lit (.bool false)], args := [d1, d2, d3] }
  | _ => none }
def CopyTurnedWrongFalsely : Prop := copyTurnedRow.holds Tryd.pinned (OpenSpec.ofChange copyTurnedWrong)

/- THE SECOND FORM. 'bulk': how many values and letters a reading holds, each counted each time it is reached (what is shared counts as often as it is met; a slice's spare places count too). A statement '..UptoSaid' is the law's where the arguments, and the package variables that the reading takes, are together of bulk at most 1048576: NARROWER than '..Said'. Prove '..Said' where nothing that the law and all that it calls make is longer than what came in: it says more and counts as full. Else prove '..UptoSaid'. A law counts once. -/
mutual
def uptoBulk {H : Type} : DataW H → Nat
  | .lit (.string bytes) => bytes.length + 1
  | .lit _ => 1
  | .nil => 1
  | .ptr d => uptoBulk d + 1
  | .slice elems spare => uptoBulkAll elems + uptoBulkAll spare + 1
  | .agg parts => uptoBulkAll parts + 1
  | .iface _ d => uptoBulk d + 1
  | .map entries => uptoBulkEntries entries + 1
  | .held _ => 1
def uptoBulkAll {H : Type} : List (DataW H) → Nat
  | [] => 0
  | d :: r => uptoBulk d + uptoBulkAll r
def uptoBulkEntries {H : Type} : List (Lit × DataW H) → Nat
  | [] => 0
  | x :: r => uptoBulkEntry x + uptoBulkEntries r
def uptoBulkEntry {H : Type} : Lit × DataW H → Nat
  | (.string bytes, d) => bytes.length + uptoBulk d + 1
  | (_, d) => uptoBulk d + 1
 end
def uptoSmall : (H : Type) → List (DataW H) → Bool := fun _ ds => decide (uptoBulkAll ds ≤ 1048576)
def OpenSpec.upto (s : _root_.Go.ChangeSpec) : _root_.Go.OpenSpec := { _root_.Go.OpenSpec.ofChange s with cond := some uptoSmall }

/-- 'griffelaw12.CopyMades', WHERE WHAT IT READS IS OF BULK AT MOST 1048576: true; the input reads as it did. -/
def copyMadesUptoRow : OpenClaim := { program := "ytodpkfillohplaadoor", sum := "517278b11cb4255d9d85801b18be6fb5a10ea4e5996c44bec87678bbba7f2adf", func := "griffe/griffelaw12.CopyMades", spec := "copyMades", unfollowed := true, recurses := true, named := ["math/bits.deBruijn64tab"], apart := false, laid := [("math/bits.deBruijn64tab", laid_math_bits_deBruijn64tab)], narrowed := true }
def CopyMadesUptoSaid : Prop := copyMadesUptoRow.holds Tryd.pinned (OpenSpec.upto copyMadesSpec)

/-- 'griffelaw12.CopyTrees', WHERE WHAT IT READS IS OF BULK AT MOST 1048576: true; the input reads as it did. -/
def copyTreesUptoRow : OpenClaim := { program := "ytodpkfillohplaadoor", sum := "517278b11cb4255d9d85801b18be6fb5a10ea4e5996c44bec87678bbba7f2adf", func := "griffe/griffelaw12.CopyTrees", spec := "copyTrees", unfollowed := true, recurses := true, named := ["math/bits.deBruijn64tab"], apart := false, laid := [("math/bits.deBruijn64tab", laid_math_bits_deBruijn64tab)], narrowed := true }
def CopyTreesUptoSaid : Prop := copyTreesUptoRow.holds Tryd.pinned (OpenSpec.upto copyTreesSpec)

/-- 'griffelaw12.CopyOriginals', WHERE WHAT IT READS IS OF BULK AT MOST 1048576: true; the input reads as it did. -/
def copyOriginalsUptoRow : OpenClaim := { program := "ytodpkfillohplaadoor", sum := "517278b11cb4255d9d85801b18be6fb5a10ea4e5996c44bec87678bbba7f2adf", func := "griffe/griffelaw12.CopyOriginals", spec := "copyOriginals", unfollowed := true, recurses := true, named := ["math/bits.deBruijn64tab"], apart := false, laid := [("math/bits.deBruijn64tab", laid_math_bits_deBruijn64tab)], narrowed := true }
def CopyOriginalsUptoSaid : Prop := copyOriginalsUptoRow.holds Tryd.pinned (OpenSpec.upto copyOriginalsSpec)

/-- 'griffelaw12.CopyKeys', WHERE WHAT IT READS IS OF BULK AT MOST 1048576: true; the input reads as it did. -/
def copyKeysUptoRow : OpenClaim := { program := "ytodpkfillohplaadoor", sum := "517278b11cb4255d9d85801b18be6fb5a10ea4e5996c44bec87678bbba7f2adf", func := "griffe/griffelaw12.CopyKeys", spec := "copyKeys", unfollowed := true, recurses := true, named := ["math/bits.deBruijn64tab"], apart := false, laid := [("math/bits.deBruijn64tab", laid_math_bits_deBruijn64tab)], narrowed := true }
def CopyKeysUptoSaid : Prop := copyKeysUptoRow.holds Tryd.pinned (OpenSpec.upto copyKeysSpec)

/-- 'griffelaw12.CopyRestores', WHERE WHAT IT READS IS OF BULK AT MOST 1048576: true; the input reads as it did. -/
def copyRestoresUptoRow : OpenClaim := { program := "ytodpkfillohplaadoor", sum := "517278b11cb4255d9d85801b18be6fb5a10ea4e5996c44bec87678bbba7f2adf", func := "griffe/griffelaw12.CopyRestores", spec := "copyRestores", unfollowed := true, recurses := true, named := ["math/bits.deBruijn64tab"], apart := false, laid := [("math/bits.deBruijn64tab", laid_math_bits_deBruijn64tab)], narrowed := true }
def CopyRestoresUptoSaid : Prop := copyRestoresUptoRow.holds Tryd.pinned (OpenSpec.upto copyRestoresSpec)

/-- 'griffelaw12.CopyTruth', WHERE WHAT IT READS IS OF BULK AT MOST 1048576: true; the input reads as it did. -/
def copyTruthUptoRow : OpenClaim := { program := "ytodpkfillohplaadoor", sum := "517278b11cb4255d9d85801b18be6fb5a10ea4e5996c44bec87678bbba7f2adf", func := "griffe/griffelaw12.CopyTruth", spec := "copyTruth", unfollowed := true, recurses := true, named := ["math/bits.deBruijn64tab"], apart := false, laid := [("math/bits.deBruijn64tab", laid_math_bits_deBruijn64tab)], narrowed := true }
def CopyTruthUptoSaid : Prop := copyTruthUptoRow.holds Tryd.pinned (OpenSpec.upto copyTruthSpec)

/-- 'griffelaw12.CopyOrder', WHERE WHAT IT READS IS OF BULK AT MOST 1048576: true; the input reads as it did. -/
def copyOrderUptoRow : OpenClaim := { program := "ytodpkfillohplaadoor", sum := "517278b11cb4255d9d85801b18be6fb5a10ea4e5996c44bec87678bbba7f2adf", func := "griffe/griffelaw12.CopyOrder", spec := "copyOrder", unfollowed := true, recurses := true, named := ["math/bits.deBruijn64tab"], apart := false, laid := [("math/bits.deBruijn64tab", laid_math_bits_deBruijn64tab)], narrowed := true }
def CopyOrderUptoSaid : Prop := copyOrderUptoRow.holds Tryd.pinned (OpenSpec.upto copyOrderSpec)

/-- 'griffelaw12.CopyEnough', WHERE WHAT IT READS IS OF BULK AT MOST 1048576: true; the input reads as it did. -/
def copyEnoughUptoRow : OpenClaim := { program := "ytodpkfillohplaadoor", sum := "517278b11cb4255d9d85801b18be6fb5a10ea4e5996c44bec87678bbba7f2adf", func := "griffe/griffelaw12.CopyEnough", spec := "copyEnough", unfollowed := true, recurses := true, named := ["math/bits.deBruijn64tab"], apart := false, laid := [("math/bits.deBruijn64tab", laid_math_bits_deBruijn64tab)], narrowed := true }
def CopyEnoughUptoSaid : Prop := copyEnoughUptoRow.holds Tryd.pinned (OpenSpec.upto copyEnoughSpec)

/-- 'griffelaw12.CopyKeyed', WHERE WHAT IT READS IS OF BULK AT MOST 1048576: true; the input reads as it did. -/
def copyKeyedUptoRow : OpenClaim := { program := "ytodpkfillohplaadoor", sum := "517278b11cb4255d9d85801b18be6fb5a10ea4e5996c44bec87678bbba7f2adf", func := "griffe/griffelaw12.CopyKeyed", spec := "copyKeyed", unfollowed := true, recurses := true, named := ["math/bits.deBruijn64tab"], apart := false, laid := [("math/bits.deBruijn64tab", laid_math_bits_deBruijn64tab)], narrowed := true }
def CopyKeyedUptoSaid : Prop := copyKeyedUptoRow.holds Tryd.pinned (OpenSpec.upto copyKeyedSpec)

/-- 'griffelaw12.CopyTurned', WHERE WHAT IT READS IS OF BULK AT MOST 1048576: true; the input reads as it did. -/
def copyTurnedUptoRow : OpenClaim := { program := "ytodpkfillohplaadoor", sum := "517278b11cb4255d9d85801b18be6fb5a10ea4e5996c44bec87678bbba7f2adf", func := "griffe/griffelaw12.CopyTurned", spec := "copyTurned", unfollowed := true, recurses := true, named := ["math/bits.deBruijn64tab"], apart := false, laid := [("math/bits.deBruijn64tab", laid_math_bits_deBruijn64tab)], narrowed := true }
def CopyTurnedUptoSaid : Prop := copyTurnedUptoRow.holds Tryd.pinned (OpenSpec.upto copyTurnedSpec)

end Rows
end Go.Proofs.YtodpkfillohplaaDoor

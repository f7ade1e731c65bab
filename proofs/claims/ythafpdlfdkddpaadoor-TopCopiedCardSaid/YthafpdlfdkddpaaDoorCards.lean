/-
  DERIVED. GIVEN WITH THE SEED: THE CARDS: each row of YthafpdlfdkddpaaDoorRows.lean that lists a variable, with what it lists TIED to the program's text (the seventh form; the later family's looks); each row that meets fmt, with fmt's text TOLD by the authors' own Lean function (tested against real Go, not proved from fmt's source: count such statements apart). THE CARD IS WHAT COUNTS. Prove the row's statement (the work); the ties are given (YthafpdlfdkddpaaDoorTie.lean); close each card by the builder's one call (the guide's Derived/Test/ToyasCard.lean, 'card_holds'). Laid BY PROGRAM, IN A SANDBOX (cutbox-door.mjs). By AI agents, Wed Nov 11 2026. No macro, syntax, notation, axiom, sorry.
-/
import Derived.Test.YthafpdlfdkddpaaDoorRows
import GoSem.ClaimSeven
namespace Go.Proofs.YthafpdlfdkddpaaDoor
namespace Rows

/-- THE TIED CARD OF 'griffetop.TopCopied'. -/
def topCopiedCard : Claim7 := { stood := { row := topCopiedRow, standIns := [], harness := (true, "8f54493dfd1ee8d616a3b81d702daaec725012a8d278db811f65470be0d08cb0"), looks := false }, kinds := [], alts := [], laidByText := true, laidKinds := [.data, .data], laidTests := true, laidLooks := .later }
def TopCopiedCardSaid : Prop := Claim7.holds Tryd.pinned (.plain (OpenSpec.ofChange topCopiedSpec)) topCopiedCard

/-- THE SECOND FORM's CARD OF 'griffetop.TopCopied'. -/
def topCopiedUptoCard : Claim7 := { stood := { row := topCopiedUptoRow, standIns := [], harness := (true, "8f54493dfd1ee8d616a3b81d702daaec725012a8d278db811f65470be0d08cb0"), looks := false }, kinds := [], alts := [], laidByText := true, laidKinds := [.data, .data], laidTests := true, laidLooks := .later }
def TopCopiedUptoCardSaid : Prop := Claim7.holds Tryd.pinned (.plain (OpenSpec.upto topCopiedSpec)) topCopiedUptoCard
end Rows
end Go.Proofs.YthafpdlfdkddpaaDoor

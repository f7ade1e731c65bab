/-
  DERIVED. GIVEN WITH THE SEED: THE CARDS: each row of YtkjlmfabhejbnaaDoorRows.lean that lists a variable, with what it lists TIED to the program's text (the seventh form; the later family's looks); each row that meets fmt, with fmt's text TOLD by the authors' own Lean function (tested against real Go, not proved from fmt's source: count such statements apart). THE CARD IS WHAT COUNTS. Prove the row's statement (the work); the ties are given (YtkjlmfabhejbnaaDoorTie.lean); close each card by the builder's one call (the guide's Derived/Test/ToyasCard.lean, 'card_holds'). Laid BY PROGRAM, IN A SANDBOX (cutbox-door.mjs). By AI agents, Wed Nov 11 2026. No macro, syntax, notation, axiom, sorry.
-/
import Derived.Test.YtkjlmfabhejbnaaDoorRows
import GoSem.ClaimSeven
namespace Go.Proofs.YtkjlmfabhejbnaaDoor
namespace Rows

/-- THE TIED CARD OF 'griffelaw01.PointLays'. -/
def pointLaysCard : Claim7 := { stood := { row := pointLaysRow, standIns := [], harness := (true, "c40ba0ff903ad9b768505891dc84621beeb56d6fd059dac8af28a5c4c3d1bcdc"), looks := false }, kinds := [], alts := [], laidByText := true, laidKinds := [.data, .data], laidTests := true, laidLooks := .later }
def PointLaysCardSaid : Prop := Claim7.holds Tryd.pinned (.plain (OpenSpec.ofChange pointLaysSpec)) pointLaysCard

/-- THE TIED CARD OF 'griffelaw01.PointTwice'. -/
def pointTwiceCard : Claim7 := { stood := { row := pointTwiceRow, standIns := [], harness := (true, "c40ba0ff903ad9b768505891dc84621beeb56d6fd059dac8af28a5c4c3d1bcdc"), looks := false }, kinds := [], alts := [], laidByText := true, laidKinds := [.data, .data], laidTests := true, laidLooks := .later }
def PointTwiceCardSaid : Prop := Claim7.holds Tryd.pinned (.plain (OpenSpec.ofChange pointTwiceSpec)) pointTwiceCard

/-- THE SECOND FORM's CARD OF 'griffelaw01.PointLays'. -/
def pointLaysUptoCard : Claim7 := { stood := { row := pointLaysUptoRow, standIns := [], harness := (true, "c40ba0ff903ad9b768505891dc84621beeb56d6fd059dac8af28a5c4c3d1bcdc"), looks := false }, kinds := [], alts := [], laidByText := true, laidKinds := [.data, .data], laidTests := true, laidLooks := .later }
def PointLaysUptoCardSaid : Prop := Claim7.holds Tryd.pinned (.plain (OpenSpec.upto pointLaysSpec)) pointLaysUptoCard

/-- THE SECOND FORM's CARD OF 'griffelaw01.PointTwice'. -/
def pointTwiceUptoCard : Claim7 := { stood := { row := pointTwiceUptoRow, standIns := [], harness := (true, "c40ba0ff903ad9b768505891dc84621beeb56d6fd059dac8af28a5c4c3d1bcdc"), looks := false }, kinds := [], alts := [], laidByText := true, laidKinds := [.data, .data], laidTests := true, laidLooks := .later }
def PointTwiceUptoCardSaid : Prop := Claim7.holds Tryd.pinned (.plain (OpenSpec.upto pointTwiceSpec)) pointTwiceUptoCard
end Rows
end Go.Proofs.YtkjlmfabhejbnaaDoor

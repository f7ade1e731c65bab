/-
  DERIVED. GIVEN WITH THE SEED: THE CARDS: each row of YtodpkfillohplaaDoorRows.lean that lists a variable, with what it lists TIED to the program's text (the seventh form; the later family's looks); each row that meets fmt, with fmt's text TOLD by the authors' own Lean function (tested against real Go, not proved from fmt's source: count such statements apart). THE CARD IS WHAT COUNTS. Prove the row's statement (the work); the ties are given (YtodpkfillohplaaDoorTie.lean); close each card by the builder's one call (the guide's Derived/Test/ToyasCard.lean, 'card_holds'). Laid BY PROGRAM, IN A SANDBOX (cutbox-door.mjs). By AI agents, Wed Nov 11 2026. No macro, syntax, notation, axiom, sorry.
-/
import Derived.Test.YtodpkfillohplaaDoorRows
import GoSem.ClaimSeven
namespace Go.Proofs.YtodpkfillohplaaDoor
namespace Rows

/-- THE TIED CARD OF 'griffelaw12.CopyMades'. -/
def copyMadesCard : Claim7 := { stood := { row := copyMadesRow, standIns := [], harness := (true, "7101dca6d59890318b3da135f4a3e2fdcf497ad0542a35ab57e4126a7245be35"), looks := false }, kinds := [], alts := [], laidByText := true, laidKinds := [.data], laidTests := true, laidLooks := .later }
def CopyMadesCardSaid : Prop := Claim7.holds Tryd.pinned (.plain (OpenSpec.ofChange copyMadesSpec)) copyMadesCard

/-- THE TIED CARD OF 'griffelaw12.CopyTrees'. -/
def copyTreesCard : Claim7 := { stood := { row := copyTreesRow, standIns := [], harness := (true, "7101dca6d59890318b3da135f4a3e2fdcf497ad0542a35ab57e4126a7245be35"), looks := false }, kinds := [], alts := [], laidByText := true, laidKinds := [.data], laidTests := true, laidLooks := .later }
def CopyTreesCardSaid : Prop := Claim7.holds Tryd.pinned (.plain (OpenSpec.ofChange copyTreesSpec)) copyTreesCard

/-- THE TIED CARD OF 'griffelaw12.CopyOriginals'. -/
def copyOriginalsCard : Claim7 := { stood := { row := copyOriginalsRow, standIns := [], harness := (true, "7101dca6d59890318b3da135f4a3e2fdcf497ad0542a35ab57e4126a7245be35"), looks := false }, kinds := [], alts := [], laidByText := true, laidKinds := [.data], laidTests := true, laidLooks := .later }
def CopyOriginalsCardSaid : Prop := Claim7.holds Tryd.pinned (.plain (OpenSpec.ofChange copyOriginalsSpec)) copyOriginalsCard

/-- THE TIED CARD OF 'griffelaw12.CopyKeys'. -/
def copyKeysCard : Claim7 := { stood := { row := copyKeysRow, standIns := [], harness := (true, "7101dca6d59890318b3da135f4a3e2fdcf497ad0542a35ab57e4126a7245be35"), looks := false }, kinds := [], alts := [], laidByText := true, laidKinds := [.data], laidTests := true, laidLooks := .later }
def CopyKeysCardSaid : Prop := Claim7.holds Tryd.pinned (.plain (OpenSpec.ofChange copyKeysSpec)) copyKeysCard

/-- THE TIED CARD OF 'griffelaw12.CopyRestores'. -/
def copyRestoresCard : Claim7 := { stood := { row := copyRestoresRow, standIns := [], harness := (true, "7101dca6d59890318b3da135f4a3e2fdcf497ad0542a35ab57e4126a7245be35"), looks := false }, kinds := [], alts := [], laidByText := true, laidKinds := [.data], laidTests := true, laidLooks := .later }
def CopyRestoresCardSaid : Prop := Claim7.holds Tryd.pinned (.plain (OpenSpec.ofChange copyRestoresSpec)) copyRestoresCard

/-- THE TIED CARD OF 'griffelaw12.CopyTruth'. -/
def copyTruthCard : Claim7 := { stood := { row := copyTruthRow, standIns := [], harness := (true, "7101dca6d59890318b3da135f4a3e2fdcf497ad0542a35ab57e4126a7245be35"), looks := false }, kinds := [], alts := [], laidByText := true, laidKinds := [.data], laidTests := true, laidLooks := .later }
def CopyTruthCardSaid : Prop := Claim7.holds Tryd.pinned (.plain (OpenSpec.ofChange copyTruthSpec)) copyTruthCard

/-- THE TIED CARD OF 'griffelaw12.CopyOrder'. -/
def copyOrderCard : Claim7 := { stood := { row := copyOrderRow, standIns := [], harness := (true, "7101dca6d59890318b3da135f4a3e2fdcf497ad0542a35ab57e4126a7245be35"), looks := false }, kinds := [], alts := [], laidByText := true, laidKinds := [.data], laidTests := true, laidLooks := .later }
def CopyOrderCardSaid : Prop := Claim7.holds Tryd.pinned (.plain (OpenSpec.ofChange copyOrderSpec)) copyOrderCard

/-- THE TIED CARD OF 'griffelaw12.CopyEnough'. -/
def copyEnoughCard : Claim7 := { stood := { row := copyEnoughRow, standIns := [], harness := (true, "7101dca6d59890318b3da135f4a3e2fdcf497ad0542a35ab57e4126a7245be35"), looks := false }, kinds := [], alts := [], laidByText := true, laidKinds := [.data], laidTests := true, laidLooks := .later }
def CopyEnoughCardSaid : Prop := Claim7.holds Tryd.pinned (.plain (OpenSpec.ofChange copyEnoughSpec)) copyEnoughCard

/-- THE TIED CARD OF 'griffelaw12.CopyKeyed'. -/
def copyKeyedCard : Claim7 := { stood := { row := copyKeyedRow, standIns := [], harness := (true, "7101dca6d59890318b3da135f4a3e2fdcf497ad0542a35ab57e4126a7245be35"), looks := false }, kinds := [], alts := [], laidByText := true, laidKinds := [.data], laidTests := true, laidLooks := .later }
def CopyKeyedCardSaid : Prop := Claim7.holds Tryd.pinned (.plain (OpenSpec.ofChange copyKeyedSpec)) copyKeyedCard

/-- THE TIED CARD OF 'griffelaw12.CopyTurned'. -/
def copyTurnedCard : Claim7 := { stood := { row := copyTurnedRow, standIns := [], harness := (true, "7101dca6d59890318b3da135f4a3e2fdcf497ad0542a35ab57e4126a7245be35"), looks := false }, kinds := [], alts := [], laidByText := true, laidKinds := [.data], laidTests := true, laidLooks := .later }
def CopyTurnedCardSaid : Prop := Claim7.holds Tryd.pinned (.plain (OpenSpec.ofChange copyTurnedSpec)) copyTurnedCard

/-- THE SECOND FORM's CARD OF 'griffelaw12.CopyMades'. -/
def copyMadesUptoCard : Claim7 := { stood := { row := copyMadesUptoRow, standIns := [], harness := (true, "7101dca6d59890318b3da135f4a3e2fdcf497ad0542a35ab57e4126a7245be35"), looks := false }, kinds := [], alts := [], laidByText := true, laidKinds := [.data], laidTests := true, laidLooks := .later }
def CopyMadesUptoCardSaid : Prop := Claim7.holds Tryd.pinned (.plain (OpenSpec.upto copyMadesSpec)) copyMadesUptoCard

/-- THE SECOND FORM's CARD OF 'griffelaw12.CopyTrees'. -/
def copyTreesUptoCard : Claim7 := { stood := { row := copyTreesUptoRow, standIns := [], harness := (true, "7101dca6d59890318b3da135f4a3e2fdcf497ad0542a35ab57e4126a7245be35"), looks := false }, kinds := [], alts := [], laidByText := true, laidKinds := [.data], laidTests := true, laidLooks := .later }
def CopyTreesUptoCardSaid : Prop := Claim7.holds Tryd.pinned (.plain (OpenSpec.upto copyTreesSpec)) copyTreesUptoCard

/-- THE SECOND FORM's CARD OF 'griffelaw12.CopyOriginals'. -/
def copyOriginalsUptoCard : Claim7 := { stood := { row := copyOriginalsUptoRow, standIns := [], harness := (true, "7101dca6d59890318b3da135f4a3e2fdcf497ad0542a35ab57e4126a7245be35"), looks := false }, kinds := [], alts := [], laidByText := true, laidKinds := [.data], laidTests := true, laidLooks := .later }
def CopyOriginalsUptoCardSaid : Prop := Claim7.holds Tryd.pinned (.plain (OpenSpec.upto copyOriginalsSpec)) copyOriginalsUptoCard

/-- THE SECOND FORM's CARD OF 'griffelaw12.CopyKeys'. -/
def copyKeysUptoCard : Claim7 := { stood := { row := copyKeysUptoRow, standIns := [], harness := (true, "7101dca6d59890318b3da135f4a3e2fdcf497ad0542a35ab57e4126a7245be35"), looks := false }, kinds := [], alts := [], laidByText := true, laidKinds := [.data], laidTests := true, laidLooks := .later }
def CopyKeysUptoCardSaid : Prop := Claim7.holds Tryd.pinned (.plain (OpenSpec.upto copyKeysSpec)) copyKeysUptoCard

/-- THE SECOND FORM's CARD OF 'griffelaw12.CopyRestores'. -/
def copyRestoresUptoCard : Claim7 := { stood := { row := copyRestoresUptoRow, standIns := [], harness := (true, "7101dca6d59890318b3da135f4a3e2fdcf497ad0542a35ab57e4126a7245be35"), looks := false }, kinds := [], alts := [], laidByText := true, laidKinds := [.data], laidTests := true, laidLooks := .later }
def CopyRestoresUptoCardSaid : Prop := Claim7.holds Tryd.pinned (.plain (OpenSpec.upto copyRestoresSpec)) copyRestoresUptoCard

/-- THE SECOND FORM's CARD OF 'griffelaw12.CopyTruth'. -/
def copyTruthUptoCard : Claim7 := { stood := { row := copyTruthUptoRow, standIns := [], harness := (true, "7101dca6d59890318b3da135f4a3e2fdcf497ad0542a35ab57e4126a7245be35"), looks := false }, kinds := [], alts := [], laidByText := true, laidKinds := [.data], laidTests := true, laidLooks := .later }
def CopyTruthUptoCardSaid : Prop := Claim7.holds Tryd.pinned (.plain (OpenSpec.upto copyTruthSpec)) copyTruthUptoCard

/-- THE SECOND FORM's CARD OF 'griffelaw12.CopyOrder'. -/
def copyOrderUptoCard : Claim7 := { stood := { row := copyOrderUptoRow, standIns := [], harness := (true, "7101dca6d59890318b3da135f4a3e2fdcf497ad0542a35ab57e4126a7245be35"), looks := false }, kinds := [], alts := [], laidByText := true, laidKinds := [.data], laidTests := true, laidLooks := .later }
def CopyOrderUptoCardSaid : Prop := Claim7.holds Tryd.pinned (.plain (OpenSpec.upto copyOrderSpec)) copyOrderUptoCard

/-- THE SECOND FORM's CARD OF 'griffelaw12.CopyEnough'. -/
def copyEnoughUptoCard : Claim7 := { stood := { row := copyEnoughUptoRow, standIns := [], harness := (true, "7101dca6d59890318b3da135f4a3e2fdcf497ad0542a35ab57e4126a7245be35"), looks := false }, kinds := [], alts := [], laidByText := true, laidKinds := [.data], laidTests := true, laidLooks := .later }
def CopyEnoughUptoCardSaid : Prop := Claim7.holds Tryd.pinned (.plain (OpenSpec.upto copyEnoughSpec)) copyEnoughUptoCard

/-- THE SECOND FORM's CARD OF 'griffelaw12.CopyKeyed'. -/
def copyKeyedUptoCard : Claim7 := { stood := { row := copyKeyedUptoRow, standIns := [], harness := (true, "7101dca6d59890318b3da135f4a3e2fdcf497ad0542a35ab57e4126a7245be35"), looks := false }, kinds := [], alts := [], laidByText := true, laidKinds := [.data], laidTests := true, laidLooks := .later }
def CopyKeyedUptoCardSaid : Prop := Claim7.holds Tryd.pinned (.plain (OpenSpec.upto copyKeyedSpec)) copyKeyedUptoCard

/-- THE SECOND FORM's CARD OF 'griffelaw12.CopyTurned'. -/
def copyTurnedUptoCard : Claim7 := { stood := { row := copyTurnedUptoRow, standIns := [], harness := (true, "7101dca6d59890318b3da135f4a3e2fdcf497ad0542a35ab57e4126a7245be35"), looks := false }, kinds := [], alts := [], laidByText := true, laidKinds := [.data], laidTests := true, laidLooks := .later }
def CopyTurnedUptoCardSaid : Prop := Claim7.holds Tryd.pinned (.plain (OpenSpec.upto copyTurnedSpec)) copyTurnedUptoCard
end Rows
end Go.Proofs.YtodpkfillohplaaDoor

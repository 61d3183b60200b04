/-
  DERIVED. GIVEN WITH THE SEED: THE CARDS: each row of YtlcjeomefjmhgaaGreatDoorRows.lean that lists a variable, with what it lists TIED to the program's text (the seventh form; the later family's looks); each row that meets fmt, with fmt's text TOLD by the authors' own Lean function (tested against real Go, not proved from fmt's source: count such statements apart). THE CARD IS WHAT COUNTS. Prove the row's statement (the work); the ties are given (YtlcjeomefjmhgaaGreatDoorTie.lean); close each card by the builder's one call (the guide's Derived/Test/ToyasCard.lean, 'card_holds'). Laid BY PROGRAM, IN A SANDBOX (cutbox-door.mjs). By AI agents, Wed Nov 11 2026. No macro, syntax, notation, axiom, sorry.
-/
import Derived.Test.YtlcjeomefjmhgaaGreatDoorRows
import GoSem.ClaimSeven
namespace Go.Proofs.YtlcjeomefjmhgaaGreatDoor
namespace Rows

/-- THE TIED CARD OF 'unicodetextlaw48.KeypackKeys'. -/
def keypackKeysCard : Claim7 := { stood := { row := keypackKeysRow, standIns := [], harness := (true, "f71c83ed2d7214a5ef2cd7f0fe9b7edf2c3a21666316f92d2e2cfe56710357e8"), looks := false }, kinds := [], alts := [], laidByText := true, laidKinds := [.data], laidTests := true, laidLooks := .later }
def KeypackKeysCardSaid : Prop := Claim7.holds Tryz.pinned (.plain (OpenSpec.ofChange keypackKeysSpec)) keypackKeysCard

/-- THE TIED CARD OF 'unicodetextlaw38.CasefoldFolds'. -/
def casefoldFoldsCard : Claim7 := { stood := { row := casefoldFoldsRow, standIns := [], harness := (true, "f71c83ed2d7214a5ef2cd7f0fe9b7edf2c3a21666316f92d2e2cfe56710357e8"), looks := false }, kinds := [], alts := [], laidByText := true, laidKinds := [.data], laidTests := true, laidLooks := .later }
def CasefoldFoldsCardSaid : Prop := Claim7.holds Tryz.pinned (.plain (OpenSpec.ofChange casefoldFoldsSpec)) casefoldFoldsCard

/-- THE TIED CARD OF 'unicodetextlaw38.CasefoldOrbits'. -/
def casefoldOrbitsCard : Claim7 := { stood := { row := casefoldOrbitsRow, standIns := [], harness := (true, "f71c83ed2d7214a5ef2cd7f0fe9b7edf2c3a21666316f92d2e2cfe56710357e8"), looks := false }, kinds := [], alts := [], laidByText := true, laidKinds := [.data], laidTests := true, laidLooks := .later }
def CasefoldOrbitsCardSaid : Prop := Claim7.holds Tryz.pinned (.plain (OpenSpec.ofChange casefoldOrbitsSpec)) casefoldOrbitsCard

/-- THE TIED CARD OF 'unicodetextlaw38.CasefoldClosed'. -/
def casefoldClosedCard : Claim7 := { stood := { row := casefoldClosedRow, standIns := [], harness := (true, "f71c83ed2d7214a5ef2cd7f0fe9b7edf2c3a21666316f92d2e2cfe56710357e8"), looks := false }, kinds := [], alts := [], laidByText := true, laidKinds := [.data], laidTests := true, laidLooks := .later }
def CasefoldClosedCardSaid : Prop := Claim7.holds Tryz.pinned (.plain (OpenSpec.ofChange casefoldClosedSpec)) casefoldClosedCard

/-- THE TIED CARD OF 'unicodetextlaw38.CasefoldDivides'. -/
def casefoldDividesCard : Claim7 := { stood := { row := casefoldDividesRow, standIns := [], harness := (true, "f71c83ed2d7214a5ef2cd7f0fe9b7edf2c3a21666316f92d2e2cfe56710357e8"), looks := false }, kinds := [], alts := [], laidByText := true, laidKinds := [.data], laidTests := true, laidLooks := .later }
def CasefoldDividesCardSaid : Prop := Claim7.holds Tryz.pinned (.plain (OpenSpec.ofChange casefoldDividesSpec)) casefoldDividesCard

/-- THE SECOND FORM's CARD OF 'unicodetextlaw48.KeypackKeys'. -/
def keypackKeysUptoCard : Claim7 := { stood := { row := keypackKeysUptoRow, standIns := [], harness := (true, "f71c83ed2d7214a5ef2cd7f0fe9b7edf2c3a21666316f92d2e2cfe56710357e8"), looks := false }, kinds := [], alts := [], laidByText := true, laidKinds := [.data], laidTests := true, laidLooks := .later }
def KeypackKeysUptoCardSaid : Prop := Claim7.holds Tryz.pinned (.plain (OpenSpec.upto keypackKeysSpec)) keypackKeysUptoCard

/-- THE SECOND FORM's CARD OF 'unicodetextlaw38.CasefoldFolds'. -/
def casefoldFoldsUptoCard : Claim7 := { stood := { row := casefoldFoldsUptoRow, standIns := [], harness := (true, "f71c83ed2d7214a5ef2cd7f0fe9b7edf2c3a21666316f92d2e2cfe56710357e8"), looks := false }, kinds := [], alts := [], laidByText := true, laidKinds := [.data], laidTests := true, laidLooks := .later }
def CasefoldFoldsUptoCardSaid : Prop := Claim7.holds Tryz.pinned (.plain (OpenSpec.upto casefoldFoldsSpec)) casefoldFoldsUptoCard

/-- THE SECOND FORM's CARD OF 'unicodetextlaw38.CasefoldOrbits'. -/
def casefoldOrbitsUptoCard : Claim7 := { stood := { row := casefoldOrbitsUptoRow, standIns := [], harness := (true, "f71c83ed2d7214a5ef2cd7f0fe9b7edf2c3a21666316f92d2e2cfe56710357e8"), looks := false }, kinds := [], alts := [], laidByText := true, laidKinds := [.data], laidTests := true, laidLooks := .later }
def CasefoldOrbitsUptoCardSaid : Prop := Claim7.holds Tryz.pinned (.plain (OpenSpec.upto casefoldOrbitsSpec)) casefoldOrbitsUptoCard

/-- THE SECOND FORM's CARD OF 'unicodetextlaw38.CasefoldClosed'. -/
def casefoldClosedUptoCard : Claim7 := { stood := { row := casefoldClosedUptoRow, standIns := [], harness := (true, "f71c83ed2d7214a5ef2cd7f0fe9b7edf2c3a21666316f92d2e2cfe56710357e8"), looks := false }, kinds := [], alts := [], laidByText := true, laidKinds := [.data], laidTests := true, laidLooks := .later }
def CasefoldClosedUptoCardSaid : Prop := Claim7.holds Tryz.pinned (.plain (OpenSpec.upto casefoldClosedSpec)) casefoldClosedUptoCard

/-- THE SECOND FORM's CARD OF 'unicodetextlaw38.CasefoldDivides'. -/
def casefoldDividesUptoCard : Claim7 := { stood := { row := casefoldDividesUptoRow, standIns := [], harness := (true, "f71c83ed2d7214a5ef2cd7f0fe9b7edf2c3a21666316f92d2e2cfe56710357e8"), looks := false }, kinds := [], alts := [], laidByText := true, laidKinds := [.data], laidTests := true, laidLooks := .later }
def CasefoldDividesUptoCardSaid : Prop := Claim7.holds Tryz.pinned (.plain (OpenSpec.upto casefoldDividesSpec)) casefoldDividesUptoCard
end Rows
end Go.Proofs.YtlcjeomefjmhgaaGreatDoor

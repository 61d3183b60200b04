/-
  DERIVED. GIVEN WITH THE SEED: THE CARDS: each row of YtoekgplgehlpjaaGreatDoorRows.lean that lists a variable, with what it lists TIED to the program's text (the seventh form; the later family's looks); each row that meets fmt, with fmt's text TOLD by the authors' own Lean function (tested against real Go, not proved from fmt's source: count such statements apart). THE CARD IS WHAT COUNTS. Prove the row's statement (the work); the ties are given (YtoekgplgehlpjaaGreatDoorTie.lean); close each card by the builder's one call (the guide's Derived/Test/ToyasCard.lean, 'card_holds'). Laid BY PROGRAM, IN A SANDBOX (cutbox-door.mjs). By AI agents, Wed Nov 11 2026. No macro, syntax, notation, axiom, sorry.
-/
import Derived.Test.YtoekgplgehlpjaaGreatDoorRows
import GoSem.ClaimSeven
namespace Go.Proofs.YtoekgplgehlpjaaGreatDoor
namespace Rows

/-- THE TIED CARD OF 'unicodetextlaw45.CollateCompares'. -/
def collateComparesCard : Claim7 := { stood := { row := collateComparesRow, standIns := [], harness := (true, "52cce30a1621ff9c955e29da73868049470ce09d9da897c2343fd13d4d4e77dd"), looks := false }, kinds := [], alts := [], laidByText := true, laidKinds := [.data], laidTests := true, laidLooks := .later }
def CollateComparesCardSaid : Prop := Claim7.holds Tryz.pinned (.plain (OpenSpec.ofChange collateComparesSpec)) collateComparesCard

/-- THE TIED CARD OF 'unicodetextlaw45.CollateSorts'. -/
def collateSortsCard : Claim7 := { stood := { row := collateSortsRow, standIns := [], harness := (true, "52cce30a1621ff9c955e29da73868049470ce09d9da897c2343fd13d4d4e77dd"), looks := false }, kinds := [], alts := [], laidByText := true, laidKinds := [.data], laidTests := true, laidLooks := .later }
def CollateSortsCardSaid : Prop := Claim7.holds Tryz.pinned (.plain (OpenSpec.ofChange collateSortsSpec)) collateSortsCard

/-- THE TIED CARD OF 'unicodetextlaw45.CollateSearches'. -/
def collateSearchesCard : Claim7 := { stood := { row := collateSearchesRow, standIns := [], harness := (true, "52cce30a1621ff9c955e29da73868049470ce09d9da897c2343fd13d4d4e77dd"), looks := false }, kinds := [], alts := [], laidByText := true, laidKinds := [.data], laidTests := true, laidLooks := .later }
def CollateSearchesCardSaid : Prop := Claim7.holds Tryz.pinned (.plain (OpenSpec.ofChange collateSearchesSpec)) collateSearchesCard

/-- THE TIED CARD OF 'unicodetextlaw45.CollateStarts'. -/
def collateStartsCard : Claim7 := { stood := { row := collateStartsRow, standIns := [], harness := (true, "52cce30a1621ff9c955e29da73868049470ce09d9da897c2343fd13d4d4e77dd"), looks := false }, kinds := [], alts := [], laidByText := true, laidKinds := [.data], laidTests := true, laidLooks := .later }
def CollateStartsCardSaid : Prop := Claim7.holds Tryz.pinned (.plain (OpenSpec.ofChange collateStartsSpec)) collateStartsCard

/-- THE TIED CARD OF 'unicodetextlaw45.CollateOrders'. -/
def collateOrdersCard : Claim7 := { stood := { row := collateOrdersRow, standIns := [], harness := (true, "52cce30a1621ff9c955e29da73868049470ce09d9da897c2343fd13d4d4e77dd"), looks := false }, kinds := [], alts := [], laidByText := true, laidKinds := [.data], laidTests := true, laidLooks := .later }
def CollateOrdersCardSaid : Prop := Claim7.holds Tryz.pinned (.plain (OpenSpec.ofChange collateOrdersSpec)) collateOrdersCard

/-- THE TIED CARD OF 'unicodetextlaw45.CollateEquivalent'. -/
def collateEquivalentCard : Claim7 := { stood := { row := collateEquivalentRow, standIns := [], harness := (true, "52cce30a1621ff9c955e29da73868049470ce09d9da897c2343fd13d4d4e77dd"), looks := false }, kinds := [], alts := [], laidByText := true, laidKinds := [.data], laidTests := true, laidLooks := .later }
def CollateEquivalentCardSaid : Prop := Claim7.holds Tryz.pinned (.plain (OpenSpec.ofChange collateEquivalentSpec)) collateEquivalentCard

/-- THE TIED CARD OF 'unicodetextlaw45.CollateFinds'. -/
def collateFindsCard : Claim7 := { stood := { row := collateFindsRow, standIns := [], harness := (true, "52cce30a1621ff9c955e29da73868049470ce09d9da897c2343fd13d4d4e77dd"), looks := false }, kinds := [], alts := [], laidByText := true, laidKinds := [.data], laidTests := true, laidLooks := .later }
def CollateFindsCardSaid : Prop := Claim7.holds Tryz.pinned (.plain (OpenSpec.ofChange collateFindsSpec)) collateFindsCard

/-- THE TIED CARD OF 'unicodetextlaw45.CollateStrengths'. -/
def collateStrengthsCard : Claim7 := { stood := { row := collateStrengthsRow, standIns := [], harness := (true, "52cce30a1621ff9c955e29da73868049470ce09d9da897c2343fd13d4d4e77dd"), looks := false }, kinds := [], alts := [], laidByText := true, laidKinds := [.data], laidTests := true, laidLooks := .later }
def CollateStrengthsCardSaid : Prop := Claim7.holds Tryz.pinned (.plain (OpenSpec.ofChange collateStrengthsSpec)) collateStrengthsCard

/-- THE TIED CARD OF 'unicodetextlaw48.KeypackKeys'. -/
def keypackKeysCard : Claim7 := { stood := { row := keypackKeysRow, standIns := [], harness := (true, "52cce30a1621ff9c955e29da73868049470ce09d9da897c2343fd13d4d4e77dd"), looks := false }, kinds := [], alts := [], laidByText := true, laidKinds := [.data], laidTests := true, laidLooks := .later }
def KeypackKeysCardSaid : Prop := Claim7.holds Tryz.pinned (.plain (OpenSpec.ofChange keypackKeysSpec)) keypackKeysCard

/-- THE SECOND FORM's CARD OF 'unicodetextlaw45.CollateCompares'. -/
def collateComparesUptoCard : Claim7 := { stood := { row := collateComparesUptoRow, standIns := [], harness := (true, "52cce30a1621ff9c955e29da73868049470ce09d9da897c2343fd13d4d4e77dd"), looks := false }, kinds := [], alts := [], laidByText := true, laidKinds := [.data], laidTests := true, laidLooks := .later }
def CollateComparesUptoCardSaid : Prop := Claim7.holds Tryz.pinned (.plain (OpenSpec.upto collateComparesSpec)) collateComparesUptoCard

/-- THE SECOND FORM's CARD OF 'unicodetextlaw45.CollateSorts'. -/
def collateSortsUptoCard : Claim7 := { stood := { row := collateSortsUptoRow, standIns := [], harness := (true, "52cce30a1621ff9c955e29da73868049470ce09d9da897c2343fd13d4d4e77dd"), looks := false }, kinds := [], alts := [], laidByText := true, laidKinds := [.data], laidTests := true, laidLooks := .later }
def CollateSortsUptoCardSaid : Prop := Claim7.holds Tryz.pinned (.plain (OpenSpec.upto collateSortsSpec)) collateSortsUptoCard

/-- THE SECOND FORM's CARD OF 'unicodetextlaw45.CollateSearches'. -/
def collateSearchesUptoCard : Claim7 := { stood := { row := collateSearchesUptoRow, standIns := [], harness := (true, "52cce30a1621ff9c955e29da73868049470ce09d9da897c2343fd13d4d4e77dd"), looks := false }, kinds := [], alts := [], laidByText := true, laidKinds := [.data], laidTests := true, laidLooks := .later }
def CollateSearchesUptoCardSaid : Prop := Claim7.holds Tryz.pinned (.plain (OpenSpec.upto collateSearchesSpec)) collateSearchesUptoCard

/-- THE SECOND FORM's CARD OF 'unicodetextlaw45.CollateStarts'. -/
def collateStartsUptoCard : Claim7 := { stood := { row := collateStartsUptoRow, standIns := [], harness := (true, "52cce30a1621ff9c955e29da73868049470ce09d9da897c2343fd13d4d4e77dd"), looks := false }, kinds := [], alts := [], laidByText := true, laidKinds := [.data], laidTests := true, laidLooks := .later }
def CollateStartsUptoCardSaid : Prop := Claim7.holds Tryz.pinned (.plain (OpenSpec.upto collateStartsSpec)) collateStartsUptoCard

/-- THE SECOND FORM's CARD OF 'unicodetextlaw45.CollateOrders'. -/
def collateOrdersUptoCard : Claim7 := { stood := { row := collateOrdersUptoRow, standIns := [], harness := (true, "52cce30a1621ff9c955e29da73868049470ce09d9da897c2343fd13d4d4e77dd"), looks := false }, kinds := [], alts := [], laidByText := true, laidKinds := [.data], laidTests := true, laidLooks := .later }
def CollateOrdersUptoCardSaid : Prop := Claim7.holds Tryz.pinned (.plain (OpenSpec.upto collateOrdersSpec)) collateOrdersUptoCard

/-- THE SECOND FORM's CARD OF 'unicodetextlaw45.CollateEquivalent'. -/
def collateEquivalentUptoCard : Claim7 := { stood := { row := collateEquivalentUptoRow, standIns := [], harness := (true, "52cce30a1621ff9c955e29da73868049470ce09d9da897c2343fd13d4d4e77dd"), looks := false }, kinds := [], alts := [], laidByText := true, laidKinds := [.data], laidTests := true, laidLooks := .later }
def CollateEquivalentUptoCardSaid : Prop := Claim7.holds Tryz.pinned (.plain (OpenSpec.upto collateEquivalentSpec)) collateEquivalentUptoCard

/-- THE SECOND FORM's CARD OF 'unicodetextlaw45.CollateFinds'. -/
def collateFindsUptoCard : Claim7 := { stood := { row := collateFindsUptoRow, standIns := [], harness := (true, "52cce30a1621ff9c955e29da73868049470ce09d9da897c2343fd13d4d4e77dd"), looks := false }, kinds := [], alts := [], laidByText := true, laidKinds := [.data], laidTests := true, laidLooks := .later }
def CollateFindsUptoCardSaid : Prop := Claim7.holds Tryz.pinned (.plain (OpenSpec.upto collateFindsSpec)) collateFindsUptoCard

/-- THE SECOND FORM's CARD OF 'unicodetextlaw45.CollateStrengths'. -/
def collateStrengthsUptoCard : Claim7 := { stood := { row := collateStrengthsUptoRow, standIns := [], harness := (true, "52cce30a1621ff9c955e29da73868049470ce09d9da897c2343fd13d4d4e77dd"), looks := false }, kinds := [], alts := [], laidByText := true, laidKinds := [.data], laidTests := true, laidLooks := .later }
def CollateStrengthsUptoCardSaid : Prop := Claim7.holds Tryz.pinned (.plain (OpenSpec.upto collateStrengthsSpec)) collateStrengthsUptoCard

/-- THE SECOND FORM's CARD OF 'unicodetextlaw48.KeypackKeys'. -/
def keypackKeysUptoCard : Claim7 := { stood := { row := keypackKeysUptoRow, standIns := [], harness := (true, "52cce30a1621ff9c955e29da73868049470ce09d9da897c2343fd13d4d4e77dd"), looks := false }, kinds := [], alts := [], laidByText := true, laidKinds := [.data], laidTests := true, laidLooks := .later }
def KeypackKeysUptoCardSaid : Prop := Claim7.holds Tryz.pinned (.plain (OpenSpec.upto keypackKeysSpec)) keypackKeysUptoCard
end Rows
end Go.Proofs.YtoekgplgehlpjaaGreatDoor

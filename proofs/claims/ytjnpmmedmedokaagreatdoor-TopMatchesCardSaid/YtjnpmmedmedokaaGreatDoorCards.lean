/-
  DERIVED. GIVEN WITH THE SEED: THE CARDS: each row of YtjnpmmedmedokaaGreatDoorRows.lean that lists a variable, with what it lists TIED to the program's text (the seventh form; the later family's looks); each row that meets fmt, with fmt's text TOLD by the authors' own Lean function (tested against real Go, not proved from fmt's source: count such statements apart). THE CARD IS WHAT COUNTS. Prove the row's statement (the work); the ties are given (YtjnpmmedmedokaaGreatDoorTie.lean); close each card by the builder's one call (the guide's Derived/Test/ToyasCard.lean, 'card_holds'). Laid BY PROGRAM, IN A SANDBOX (cutbox-door.mjs). By AI agents, Wed Nov 11 2026. No macro, syntax, notation, axiom, sorry.
-/
import Derived.Test.YtjnpmmedmedokaaGreatDoorRows
import GoSem.ClaimSeven
namespace Go.Proofs.YtjnpmmedmedokaaGreatDoor
namespace Rows

/-- THE TIED CARD OF 'unicodetexttop.TopMatches'. -/
def topMatchesCard : Claim7 := { stood := { row := topMatchesRow, standIns := [], harness := (true, "db9bf375d85a957bb5d2823de4c7b3899c2d55efe17b344fb860ca3c07b0cce3"), looks := false }, kinds := [], alts := [], laidByText := true, laidKinds := [.data], laidTests := true, laidLooks := .later }
def TopMatchesCardSaid : Prop := Claim7.holds Tryz.pinned (.plain (OpenSpec.ofChange topMatchesSpec)) topMatchesCard

/-- THE TIED CARD OF 'unicodetextlaw49.SearchMatches'. -/
def searchMatchesCard : Claim7 := { stood := { row := searchMatchesRow, standIns := [], harness := (true, "db9bf375d85a957bb5d2823de4c7b3899c2d55efe17b344fb860ca3c07b0cce3"), looks := false }, kinds := [], alts := [], laidByText := true, laidKinds := [.data], laidTests := true, laidLooks := .later }
def SearchMatchesCardSaid : Prop := Claim7.holds Tryz.pinned (.plain (OpenSpec.ofChange searchMatchesSpec)) searchMatchesCard

/-- THE TIED CARD OF 'unicodetextlaw49.SearchAlls'. -/
def searchAllsCard : Claim7 := { stood := { row := searchAllsRow, standIns := [], harness := (true, "db9bf375d85a957bb5d2823de4c7b3899c2d55efe17b344fb860ca3c07b0cce3"), looks := false }, kinds := [], alts := [], laidByText := true, laidKinds := [.data], laidTests := true, laidLooks := .later }
def SearchAllsCardSaid : Prop := Claim7.holds Tryz.pinned (.plain (OpenSpec.ofChange searchAllsSpec)) searchAllsCard

/-- THE TIED CARD OF 'unicodetextlaw49.SearchFinds'. -/
def searchFindsCard : Claim7 := { stood := { row := searchFindsRow, standIns := [], harness := (true, "db9bf375d85a957bb5d2823de4c7b3899c2d55efe17b344fb860ca3c07b0cce3"), looks := false }, kinds := [], alts := [], laidByText := true, laidKinds := [.data], laidTests := true, laidLooks := .later }
def SearchFindsCardSaid : Prop := Claim7.holds Tryz.pinned (.plain (OpenSpec.ofChange searchFindsSpec)) searchFindsCard

/-- THE TIED CARD OF 'unicodetextlaw49.SearchReplaces'. -/
def searchReplacesCard : Claim7 := { stood := { row := searchReplacesRow, standIns := [], harness := (true, "db9bf375d85a957bb5d2823de4c7b3899c2d55efe17b344fb860ca3c07b0cce3"), looks := false }, kinds := [], alts := [], laidByText := true, laidKinds := [.data], laidTests := true, laidLooks := .later }
def SearchReplacesCardSaid : Prop := Claim7.holds Tryz.pinned (.plain (OpenSpec.ofChange searchReplacesSpec)) searchReplacesCard

/-- THE TIED CARD OF 'unicodetextlaw49.SearchShortest'. -/
def searchShortestCard : Claim7 := { stood := { row := searchShortestRow, standIns := [], harness := (true, "db9bf375d85a957bb5d2823de4c7b3899c2d55efe17b344fb860ca3c07b0cce3"), looks := false }, kinds := [], alts := [], laidByText := true, laidKinds := [.data], laidTests := true, laidLooks := .later }
def SearchShortestCardSaid : Prop := Claim7.holds Tryz.pinned (.plain (OpenSpec.ofChange searchShortestSpec)) searchShortestCard

/-- THE TIED CARD OF 'unicodetextlaw49.SearchEquivalent'. -/
def searchEquivalentCard : Claim7 := { stood := { row := searchEquivalentRow, standIns := [], harness := (true, "db9bf375d85a957bb5d2823de4c7b3899c2d55efe17b344fb860ca3c07b0cce3"), looks := false }, kinds := [], alts := [], laidByText := true, laidKinds := [.data], laidTests := true, laidLooks := .later }
def SearchEquivalentCardSaid : Prop := Claim7.holds Tryz.pinned (.plain (OpenSpec.ofChange searchEquivalentSpec)) searchEquivalentCard

/-- THE TIED CARD OF 'unicodetextlaw49.SearchSelf'. -/
def searchSelfCard : Claim7 := { stood := { row := searchSelfRow, standIns := [], harness := (true, "db9bf375d85a957bb5d2823de4c7b3899c2d55efe17b344fb860ca3c07b0cce3"), looks := false }, kinds := [], alts := [], laidByText := true, laidKinds := [.data], laidTests := true, laidLooks := .later }
def SearchSelfCardSaid : Prop := Claim7.holds Tryz.pinned (.plain (OpenSpec.ofChange searchSelfSpec)) searchSelfCard

/-- THE TIED CARD OF 'unicodetextlaw49.SearchDisjoint'. -/
def searchDisjointCard : Claim7 := { stood := { row := searchDisjointRow, standIns := [], harness := (true, "db9bf375d85a957bb5d2823de4c7b3899c2d55efe17b344fb860ca3c07b0cce3"), looks := false }, kinds := [], alts := [], laidByText := true, laidKinds := [.data], laidTests := true, laidLooks := .later }
def SearchDisjointCardSaid : Prop := Claim7.holds Tryz.pinned (.plain (OpenSpec.ofChange searchDisjointSpec)) searchDisjointCard

/-- THE SECOND FORM's CARD OF 'unicodetexttop.TopMatches'. -/
def topMatchesUptoCard : Claim7 := { stood := { row := topMatchesUptoRow, standIns := [], harness := (true, "db9bf375d85a957bb5d2823de4c7b3899c2d55efe17b344fb860ca3c07b0cce3"), looks := false }, kinds := [], alts := [], laidByText := true, laidKinds := [.data], laidTests := true, laidLooks := .later }
def TopMatchesUptoCardSaid : Prop := Claim7.holds Tryz.pinned (.plain (OpenSpec.upto topMatchesSpec)) topMatchesUptoCard

/-- THE SECOND FORM's CARD OF 'unicodetextlaw49.SearchMatches'. -/
def searchMatchesUptoCard : Claim7 := { stood := { row := searchMatchesUptoRow, standIns := [], harness := (true, "db9bf375d85a957bb5d2823de4c7b3899c2d55efe17b344fb860ca3c07b0cce3"), looks := false }, kinds := [], alts := [], laidByText := true, laidKinds := [.data], laidTests := true, laidLooks := .later }
def SearchMatchesUptoCardSaid : Prop := Claim7.holds Tryz.pinned (.plain (OpenSpec.upto searchMatchesSpec)) searchMatchesUptoCard

/-- THE SECOND FORM's CARD OF 'unicodetextlaw49.SearchAlls'. -/
def searchAllsUptoCard : Claim7 := { stood := { row := searchAllsUptoRow, standIns := [], harness := (true, "db9bf375d85a957bb5d2823de4c7b3899c2d55efe17b344fb860ca3c07b0cce3"), looks := false }, kinds := [], alts := [], laidByText := true, laidKinds := [.data], laidTests := true, laidLooks := .later }
def SearchAllsUptoCardSaid : Prop := Claim7.holds Tryz.pinned (.plain (OpenSpec.upto searchAllsSpec)) searchAllsUptoCard

/-- THE SECOND FORM's CARD OF 'unicodetextlaw49.SearchFinds'. -/
def searchFindsUptoCard : Claim7 := { stood := { row := searchFindsUptoRow, standIns := [], harness := (true, "db9bf375d85a957bb5d2823de4c7b3899c2d55efe17b344fb860ca3c07b0cce3"), looks := false }, kinds := [], alts := [], laidByText := true, laidKinds := [.data], laidTests := true, laidLooks := .later }
def SearchFindsUptoCardSaid : Prop := Claim7.holds Tryz.pinned (.plain (OpenSpec.upto searchFindsSpec)) searchFindsUptoCard

/-- THE SECOND FORM's CARD OF 'unicodetextlaw49.SearchReplaces'. -/
def searchReplacesUptoCard : Claim7 := { stood := { row := searchReplacesUptoRow, standIns := [], harness := (true, "db9bf375d85a957bb5d2823de4c7b3899c2d55efe17b344fb860ca3c07b0cce3"), looks := false }, kinds := [], alts := [], laidByText := true, laidKinds := [.data], laidTests := true, laidLooks := .later }
def SearchReplacesUptoCardSaid : Prop := Claim7.holds Tryz.pinned (.plain (OpenSpec.upto searchReplacesSpec)) searchReplacesUptoCard

/-- THE SECOND FORM's CARD OF 'unicodetextlaw49.SearchShortest'. -/
def searchShortestUptoCard : Claim7 := { stood := { row := searchShortestUptoRow, standIns := [], harness := (true, "db9bf375d85a957bb5d2823de4c7b3899c2d55efe17b344fb860ca3c07b0cce3"), looks := false }, kinds := [], alts := [], laidByText := true, laidKinds := [.data], laidTests := true, laidLooks := .later }
def SearchShortestUptoCardSaid : Prop := Claim7.holds Tryz.pinned (.plain (OpenSpec.upto searchShortestSpec)) searchShortestUptoCard

/-- THE SECOND FORM's CARD OF 'unicodetextlaw49.SearchEquivalent'. -/
def searchEquivalentUptoCard : Claim7 := { stood := { row := searchEquivalentUptoRow, standIns := [], harness := (true, "db9bf375d85a957bb5d2823de4c7b3899c2d55efe17b344fb860ca3c07b0cce3"), looks := false }, kinds := [], alts := [], laidByText := true, laidKinds := [.data], laidTests := true, laidLooks := .later }
def SearchEquivalentUptoCardSaid : Prop := Claim7.holds Tryz.pinned (.plain (OpenSpec.upto searchEquivalentSpec)) searchEquivalentUptoCard

/-- THE SECOND FORM's CARD OF 'unicodetextlaw49.SearchSelf'. -/
def searchSelfUptoCard : Claim7 := { stood := { row := searchSelfUptoRow, standIns := [], harness := (true, "db9bf375d85a957bb5d2823de4c7b3899c2d55efe17b344fb860ca3c07b0cce3"), looks := false }, kinds := [], alts := [], laidByText := true, laidKinds := [.data], laidTests := true, laidLooks := .later }
def SearchSelfUptoCardSaid : Prop := Claim7.holds Tryz.pinned (.plain (OpenSpec.upto searchSelfSpec)) searchSelfUptoCard

/-- THE SECOND FORM's CARD OF 'unicodetextlaw49.SearchDisjoint'. -/
def searchDisjointUptoCard : Claim7 := { stood := { row := searchDisjointUptoRow, standIns := [], harness := (true, "db9bf375d85a957bb5d2823de4c7b3899c2d55efe17b344fb860ca3c07b0cce3"), looks := false }, kinds := [], alts := [], laidByText := true, laidKinds := [.data], laidTests := true, laidLooks := .later }
def SearchDisjointUptoCardSaid : Prop := Claim7.holds Tryz.pinned (.plain (OpenSpec.upto searchDisjointSpec)) searchDisjointUptoCard
end Rows
end Go.Proofs.YtjnpmmedmedokaaGreatDoor

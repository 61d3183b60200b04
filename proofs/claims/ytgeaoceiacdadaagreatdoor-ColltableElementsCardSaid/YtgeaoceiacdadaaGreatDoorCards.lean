/-
  DERIVED. GIVEN WITH THE SEED: THE CARDS: each row of YtgeaoceiacdadaaGreatDoorRows.lean that lists a variable, with what it lists TIED to the program's text (the seventh form; the later family's looks); each row that meets fmt, with fmt's text TOLD by the authors' own Lean function (tested against real Go, not proved from fmt's source: count such statements apart). THE CARD IS WHAT COUNTS. Prove the row's statement (the work); the ties are given (YtgeaoceiacdadaaGreatDoorTie.lean); close each card by the builder's one call (the guide's Derived/Test/ToyasCard.lean, 'card_holds'). Laid BY PROGRAM, IN A SANDBOX (cutbox-door.mjs). By AI agents, Wed Nov 11 2026. No macro, syntax, notation, axiom, sorry.
-/
import Derived.Test.YtgeaoceiacdadaaGreatDoorRows
import GoSem.ClaimSeven
namespace Go.Proofs.YtgeaoceiacdadaaGreatDoor
namespace Rows

/-- THE TIED CARD OF 'unicodetextlaw43.ColltableSteps'. -/
def colltableStepsCard : Claim7 := { stood := { row := colltableStepsRow, standIns := [], harness := (true, "8e6fad5556b2c31df87500a6482bb05ed50da111ec89b8d77d98333f3b6f5c29"), looks := false }, kinds := [], alts := [], laidByText := true, laidKinds := [.data], laidTests := true, laidLooks := .later }
def ColltableStepsCardSaid : Prop := Claim7.holds Tryz.pinned (.plain (OpenSpec.ofChange colltableStepsSpec)) colltableStepsCard

/-- THE TIED CARD OF 'unicodetextlaw43.ColltableJoins'. -/
def colltableJoinsCard : Claim7 := { stood := { row := colltableJoinsRow, standIns := [], harness := (true, "8e6fad5556b2c31df87500a6482bb05ed50da111ec89b8d77d98333f3b6f5c29"), looks := false }, kinds := [], alts := [], laidByText := true, laidKinds := [.data], laidTests := true, laidLooks := .later }
def ColltableJoinsCardSaid : Prop := Claim7.holds Tryz.pinned (.plain (OpenSpec.ofChange colltableJoinsSpec)) colltableJoinsCard

/-- THE TIED CARD OF 'unicodetextlaw43.ColltableRefuses'. -/
def colltableRefusesCard : Claim7 := { stood := { row := colltableRefusesRow, standIns := [], harness := (true, "8e6fad5556b2c31df87500a6482bb05ed50da111ec89b8d77d98333f3b6f5c29"), looks := false }, kinds := [], alts := [], laidByText := true, laidKinds := [.data], laidTests := true, laidLooks := .later }
def ColltableRefusesCardSaid : Prop := Claim7.holds Tryz.pinned (.plain (OpenSpec.ofChange colltableRefusesSpec)) colltableRefusesCard

/-- THE TIED CARD OF 'unicodetextlaw43.ColltableElements'. -/
def colltableElementsCard : Claim7 := { stood := { row := colltableElementsRow, standIns := [], harness := (true, "8e6fad5556b2c31df87500a6482bb05ed50da111ec89b8d77d98333f3b6f5c29"), looks := false }, kinds := [], alts := [], laidByText := true, laidKinds := [.data], laidTests := true, laidLooks := .later }
def ColltableElementsCardSaid : Prop := Claim7.holds Tryz.pinned (.plain (OpenSpec.ofChange colltableElementsSpec)) colltableElementsCard

/-- THE SECOND FORM's CARD OF 'unicodetextlaw43.ColltableSteps'. -/
def colltableStepsUptoCard : Claim7 := { stood := { row := colltableStepsUptoRow, standIns := [], harness := (true, "8e6fad5556b2c31df87500a6482bb05ed50da111ec89b8d77d98333f3b6f5c29"), looks := false }, kinds := [], alts := [], laidByText := true, laidKinds := [.data], laidTests := true, laidLooks := .later }
def ColltableStepsUptoCardSaid : Prop := Claim7.holds Tryz.pinned (.plain (OpenSpec.upto colltableStepsSpec)) colltableStepsUptoCard

/-- THE SECOND FORM's CARD OF 'unicodetextlaw43.ColltableJoins'. -/
def colltableJoinsUptoCard : Claim7 := { stood := { row := colltableJoinsUptoRow, standIns := [], harness := (true, "8e6fad5556b2c31df87500a6482bb05ed50da111ec89b8d77d98333f3b6f5c29"), looks := false }, kinds := [], alts := [], laidByText := true, laidKinds := [.data], laidTests := true, laidLooks := .later }
def ColltableJoinsUptoCardSaid : Prop := Claim7.holds Tryz.pinned (.plain (OpenSpec.upto colltableJoinsSpec)) colltableJoinsUptoCard

/-- THE SECOND FORM's CARD OF 'unicodetextlaw43.ColltableRefuses'. -/
def colltableRefusesUptoCard : Claim7 := { stood := { row := colltableRefusesUptoRow, standIns := [], harness := (true, "8e6fad5556b2c31df87500a6482bb05ed50da111ec89b8d77d98333f3b6f5c29"), looks := false }, kinds := [], alts := [], laidByText := true, laidKinds := [.data], laidTests := true, laidLooks := .later }
def ColltableRefusesUptoCardSaid : Prop := Claim7.holds Tryz.pinned (.plain (OpenSpec.upto colltableRefusesSpec)) colltableRefusesUptoCard

/-- THE SECOND FORM's CARD OF 'unicodetextlaw43.ColltableElements'. -/
def colltableElementsUptoCard : Claim7 := { stood := { row := colltableElementsUptoRow, standIns := [], harness := (true, "8e6fad5556b2c31df87500a6482bb05ed50da111ec89b8d77d98333f3b6f5c29"), looks := false }, kinds := [], alts := [], laidByText := true, laidKinds := [.data], laidTests := true, laidLooks := .later }
def ColltableElementsUptoCardSaid : Prop := Claim7.holds Tryz.pinned (.plain (OpenSpec.upto colltableElementsSpec)) colltableElementsUptoCard
end Rows
end Go.Proofs.YtgeaoceiacdadaaGreatDoor

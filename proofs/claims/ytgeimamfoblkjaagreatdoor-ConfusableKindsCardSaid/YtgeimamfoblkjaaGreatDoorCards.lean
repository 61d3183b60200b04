/-
  DERIVED. GIVEN WITH THE SEED: THE CARDS: each row of YtgeimamfoblkjaaGreatDoorRows.lean that lists a variable, with what it lists TIED to the program's text (the seventh form; the later family's looks); each row that meets fmt, with fmt's text TOLD by the authors' own Lean function (tested against real Go, not proved from fmt's source: count such statements apart). THE CARD IS WHAT COUNTS. Prove the row's statement (the work); the ties are given (YtgeimamfoblkjaaGreatDoorTie.lean); close each card by the builder's one call (the guide's Derived/Test/ToyasCard.lean, 'card_holds'). Laid BY PROGRAM, IN A SANDBOX (cutbox-door.mjs). By AI agents, Wed Nov 11 2026. No macro, syntax, notation, axiom, sorry.
-/
import Derived.Test.YtgeimamfoblkjaaGreatDoorRows
import GoSem.ClaimSeven
namespace Go.Proofs.YtgeimamfoblkjaaGreatDoor
namespace Rows

/-- THE TIED CARD OF 'unicodetextlaw41.ConfusableSkeletons'. -/
def confusableSkeletonsCard : Claim7 := { stood := { row := confusableSkeletonsRow, standIns := [], harness := (true, "58ea63590c08078a3a14f5aa5de14fb3310417354f528ced94caf27bd942ecfd"), looks := false }, kinds := [], alts := [], laidByText := true, laidKinds := [.data, .data, .data, .data], laidTests := true, laidLooks := .later }
def ConfusableSkeletonsCardSaid : Prop := Claim7.holds Tryz.pinned (.plain (OpenSpec.ofChange confusableSkeletonsSpec)) confusableSkeletonsCard

/-- THE TIED CARD OF 'unicodetextlaw41.ConfusableKinds'. -/
def confusableKindsCard : Claim7 := { stood := { row := confusableKindsRow, standIns := [], harness := (true, "58ea63590c08078a3a14f5aa5de14fb3310417354f528ced94caf27bd942ecfd"), looks := false }, kinds := [], alts := [], laidByText := true, laidKinds := [.data, .data, .data, .data], laidTests := true, laidLooks := .later }
def ConfusableKindsCardSaid : Prop := Claim7.holds Tryz.pinned (.plain (OpenSpec.ofChange confusableKindsSpec)) confusableKindsCard

/-- THE TIED CARD OF 'unicodetextlaw41.ConfusableGroups'. -/
def confusableGroupsCard : Claim7 := { stood := { row := confusableGroupsRow, standIns := [], harness := (true, "58ea63590c08078a3a14f5aa5de14fb3310417354f528ced94caf27bd942ecfd"), looks := false }, kinds := [], alts := [], laidByText := true, laidKinds := [.data, .data, .data, .data], laidTests := true, laidLooks := .later }
def ConfusableGroupsCardSaid : Prop := Claim7.holds Tryz.pinned (.plain (OpenSpec.ofChange confusableGroupsSpec)) confusableGroupsCard

/-- THE TIED CARD OF 'unicodetextlaw41.ConfusableClosed'. -/
def confusableClosedCard : Claim7 := { stood := { row := confusableClosedRow, standIns := [], harness := (true, "58ea63590c08078a3a14f5aa5de14fb3310417354f528ced94caf27bd942ecfd"), looks := false }, kinds := [], alts := [], laidByText := true, laidKinds := [.data, .data, .data, .data], laidTests := true, laidLooks := .later }
def ConfusableClosedCardSaid : Prop := Claim7.holds Tryz.pinned (.plain (OpenSpec.ofChange confusableClosedSpec)) confusableClosedCard

/-- THE TIED CARD OF 'unicodetextlaw41.ConfusableJoins'. -/
def confusableJoinsCard : Claim7 := { stood := { row := confusableJoinsRow, standIns := [], harness := (true, "58ea63590c08078a3a14f5aa5de14fb3310417354f528ced94caf27bd942ecfd"), looks := false }, kinds := [], alts := [], laidByText := true, laidKinds := [.data, .data, .data, .data], laidTests := true, laidLooks := .later }
def ConfusableJoinsCardSaid : Prop := Claim7.holds Tryz.pinned (.plain (OpenSpec.ofChange confusableJoinsSpec)) confusableJoinsCard

/-- THE TIED CARD OF 'unicodetextlaw41.ConfusableNormal'. -/
def confusableNormalCard : Claim7 := { stood := { row := confusableNormalRow, standIns := [], harness := (true, "58ea63590c08078a3a14f5aa5de14fb3310417354f528ced94caf27bd942ecfd"), looks := false }, kinds := [], alts := [], laidByText := true, laidKinds := [.data, .data, .data, .data], laidTests := true, laidLooks := .later }
def ConfusableNormalCardSaid : Prop := Claim7.holds Tryz.pinned (.plain (OpenSpec.ofChange confusableNormalSpec)) confusableNormalCard

/-- THE TIED CARD OF 'unicodetextlaw41.ConfusablePlain'. -/
def confusablePlainCard : Claim7 := { stood := { row := confusablePlainRow, standIns := [], harness := (true, "58ea63590c08078a3a14f5aa5de14fb3310417354f528ced94caf27bd942ecfd"), looks := false }, kinds := [], alts := [], laidByText := true, laidKinds := [.data, .data, .data, .data], laidTests := true, laidLooks := .later }
def ConfusablePlainCardSaid : Prop := Claim7.holds Tryz.pinned (.plain (OpenSpec.ofChange confusablePlainSpec)) confusablePlainCard

/-- THE SECOND FORM's CARD OF 'unicodetextlaw41.ConfusableSkeletons'. -/
def confusableSkeletonsUptoCard : Claim7 := { stood := { row := confusableSkeletonsUptoRow, standIns := [], harness := (true, "58ea63590c08078a3a14f5aa5de14fb3310417354f528ced94caf27bd942ecfd"), looks := false }, kinds := [], alts := [], laidByText := true, laidKinds := [.data, .data, .data, .data], laidTests := true, laidLooks := .later }
def ConfusableSkeletonsUptoCardSaid : Prop := Claim7.holds Tryz.pinned (.plain (OpenSpec.upto confusableSkeletonsSpec)) confusableSkeletonsUptoCard

/-- THE SECOND FORM's CARD OF 'unicodetextlaw41.ConfusableKinds'. -/
def confusableKindsUptoCard : Claim7 := { stood := { row := confusableKindsUptoRow, standIns := [], harness := (true, "58ea63590c08078a3a14f5aa5de14fb3310417354f528ced94caf27bd942ecfd"), looks := false }, kinds := [], alts := [], laidByText := true, laidKinds := [.data, .data, .data, .data], laidTests := true, laidLooks := .later }
def ConfusableKindsUptoCardSaid : Prop := Claim7.holds Tryz.pinned (.plain (OpenSpec.upto confusableKindsSpec)) confusableKindsUptoCard

/-- THE SECOND FORM's CARD OF 'unicodetextlaw41.ConfusableGroups'. -/
def confusableGroupsUptoCard : Claim7 := { stood := { row := confusableGroupsUptoRow, standIns := [], harness := (true, "58ea63590c08078a3a14f5aa5de14fb3310417354f528ced94caf27bd942ecfd"), looks := false }, kinds := [], alts := [], laidByText := true, laidKinds := [.data, .data, .data, .data], laidTests := true, laidLooks := .later }
def ConfusableGroupsUptoCardSaid : Prop := Claim7.holds Tryz.pinned (.plain (OpenSpec.upto confusableGroupsSpec)) confusableGroupsUptoCard

/-- THE SECOND FORM's CARD OF 'unicodetextlaw41.ConfusableClosed'. -/
def confusableClosedUptoCard : Claim7 := { stood := { row := confusableClosedUptoRow, standIns := [], harness := (true, "58ea63590c08078a3a14f5aa5de14fb3310417354f528ced94caf27bd942ecfd"), looks := false }, kinds := [], alts := [], laidByText := true, laidKinds := [.data, .data, .data, .data], laidTests := true, laidLooks := .later }
def ConfusableClosedUptoCardSaid : Prop := Claim7.holds Tryz.pinned (.plain (OpenSpec.upto confusableClosedSpec)) confusableClosedUptoCard

/-- THE SECOND FORM's CARD OF 'unicodetextlaw41.ConfusableJoins'. -/
def confusableJoinsUptoCard : Claim7 := { stood := { row := confusableJoinsUptoRow, standIns := [], harness := (true, "58ea63590c08078a3a14f5aa5de14fb3310417354f528ced94caf27bd942ecfd"), looks := false }, kinds := [], alts := [], laidByText := true, laidKinds := [.data, .data, .data, .data], laidTests := true, laidLooks := .later }
def ConfusableJoinsUptoCardSaid : Prop := Claim7.holds Tryz.pinned (.plain (OpenSpec.upto confusableJoinsSpec)) confusableJoinsUptoCard

/-- THE SECOND FORM's CARD OF 'unicodetextlaw41.ConfusableNormal'. -/
def confusableNormalUptoCard : Claim7 := { stood := { row := confusableNormalUptoRow, standIns := [], harness := (true, "58ea63590c08078a3a14f5aa5de14fb3310417354f528ced94caf27bd942ecfd"), looks := false }, kinds := [], alts := [], laidByText := true, laidKinds := [.data, .data, .data, .data], laidTests := true, laidLooks := .later }
def ConfusableNormalUptoCardSaid : Prop := Claim7.holds Tryz.pinned (.plain (OpenSpec.upto confusableNormalSpec)) confusableNormalUptoCard

/-- THE SECOND FORM's CARD OF 'unicodetextlaw41.ConfusablePlain'. -/
def confusablePlainUptoCard : Claim7 := { stood := { row := confusablePlainUptoRow, standIns := [], harness := (true, "58ea63590c08078a3a14f5aa5de14fb3310417354f528ced94caf27bd942ecfd"), looks := false }, kinds := [], alts := [], laidByText := true, laidKinds := [.data, .data, .data, .data], laidTests := true, laidLooks := .later }
def ConfusablePlainUptoCardSaid : Prop := Claim7.holds Tryz.pinned (.plain (OpenSpec.upto confusablePlainSpec)) confusablePlainUptoCard
end Rows
end Go.Proofs.YtgeimamfoblkjaaGreatDoor

/-
  DERIVED. GIVEN WITH THE SEED: THE CARDS: each row of YtjcbhabmkcdcnaaGreatDoorRows.lean that lists a variable, with what it lists TIED to the program's text (the seventh form; the later family's looks); each row that meets fmt, with fmt's text TOLD by the authors' own Lean function (tested against real Go, not proved from fmt's source: count such statements apart). THE CARD IS WHAT COUNTS. Prove the row's statement (the work); the ties are given (YtjcbhabmkcdcnaaGreatDoorTie.lean); close each card by the builder's one call (the guide's Derived/Test/ToyasCard.lean, 'card_holds'). Laid BY PROGRAM, IN A SANDBOX (cutbox-door.mjs). By AI agents, Wed Nov 11 2026. No macro, syntax, notation, axiom, sorry.
-/
import Derived.Test.YtjcbhabmkcdcnaaGreatDoorRows
import GoSem.ClaimSeven
namespace Go.Proofs.YtjcbhabmkcdcnaaGreatDoor
namespace Rows

/-- THE TIED CARD OF 'unicodetextlaw43.ColltableJoins'. -/
def colltableJoinsCard : Claim7 := { stood := { row := colltableJoinsRow, standIns := [], harness := (true, "b58f74b20f2e0ddca91376bc68f9b2f9e2e0c0e160c9e882bfc8e0df68dd3d5e"), looks := false }, kinds := [], alts := [], laidByText := true, laidKinds := [.data], laidTests := true, laidLooks := .later }
def ColltableJoinsCardSaid : Prop := Claim7.holds Tryz.pinned (.plain (OpenSpec.ofChange colltableJoinsSpec)) colltableJoinsCard

/-- THE TIED CARD OF 'unicodetextlaw44.SortkeyEquivalent'. -/
def sortkeyEquivalentCard : Claim7 := { stood := { row := sortkeyEquivalentRow, standIns := [], harness := (true, "b58f74b20f2e0ddca91376bc68f9b2f9e2e0c0e160c9e882bfc8e0df68dd3d5e"), looks := false }, kinds := [], alts := [], laidByText := true, laidKinds := [.data], laidTests := true, laidLooks := .later }
def SortkeyEquivalentCardSaid : Prop := Claim7.holds Tryz.pinned (.plain (OpenSpec.ofChange sortkeyEquivalentSpec)) sortkeyEquivalentCard

/-- THE TIED CARD OF 'unicodetextlaw44.SortkeyKeys'. -/
def sortkeyKeysCard : Claim7 := { stood := { row := sortkeyKeysRow, standIns := [], harness := (true, "b58f74b20f2e0ddca91376bc68f9b2f9e2e0c0e160c9e882bfc8e0df68dd3d5e"), looks := false }, kinds := [], alts := [], laidByText := true, laidKinds := [.data], laidTests := true, laidLooks := .later }
def SortkeyKeysCardSaid : Prop := Claim7.holds Tryz.pinned (.plain (OpenSpec.ofChange sortkeyKeysSpec)) sortkeyKeysCard

/-- THE SECOND FORM's CARD OF 'unicodetextlaw43.ColltableJoins'. -/
def colltableJoinsUptoCard : Claim7 := { stood := { row := colltableJoinsUptoRow, standIns := [], harness := (true, "b58f74b20f2e0ddca91376bc68f9b2f9e2e0c0e160c9e882bfc8e0df68dd3d5e"), looks := false }, kinds := [], alts := [], laidByText := true, laidKinds := [.data], laidTests := true, laidLooks := .later }
def ColltableJoinsUptoCardSaid : Prop := Claim7.holds Tryz.pinned (.plain (OpenSpec.upto colltableJoinsSpec)) colltableJoinsUptoCard

/-- THE SECOND FORM's CARD OF 'unicodetextlaw44.SortkeyEquivalent'. -/
def sortkeyEquivalentUptoCard : Claim7 := { stood := { row := sortkeyEquivalentUptoRow, standIns := [], harness := (true, "b58f74b20f2e0ddca91376bc68f9b2f9e2e0c0e160c9e882bfc8e0df68dd3d5e"), looks := false }, kinds := [], alts := [], laidByText := true, laidKinds := [.data], laidTests := true, laidLooks := .later }
def SortkeyEquivalentUptoCardSaid : Prop := Claim7.holds Tryz.pinned (.plain (OpenSpec.upto sortkeyEquivalentSpec)) sortkeyEquivalentUptoCard

/-- THE SECOND FORM's CARD OF 'unicodetextlaw44.SortkeyKeys'. -/
def sortkeyKeysUptoCard : Claim7 := { stood := { row := sortkeyKeysUptoRow, standIns := [], harness := (true, "b58f74b20f2e0ddca91376bc68f9b2f9e2e0c0e160c9e882bfc8e0df68dd3d5e"), looks := false }, kinds := [], alts := [], laidByText := true, laidKinds := [.data], laidTests := true, laidLooks := .later }
def SortkeyKeysUptoCardSaid : Prop := Claim7.holds Tryz.pinned (.plain (OpenSpec.upto sortkeyKeysSpec)) sortkeyKeysUptoCard
end Rows
end Go.Proofs.YtjcbhabmkcdcnaaGreatDoor

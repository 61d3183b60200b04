/-
  DERIVED. GIVEN WITH THE SEED: THE CARDS: each row of YtgeaoceiacdadaaDoorRows.lean that lists a variable, with what it lists TIED to the program's text (the seventh form; the later family's looks); each row that meets fmt, with fmt's text TOLD by the authors' own Lean function (tested against real Go, not proved from fmt's source: count such statements apart). THE CARD IS WHAT COUNTS. Prove the row's statement (the work); the ties are given (YtgeaoceiacdadaaDoorTie.lean); close each card by the builder's one call (the guide's Derived/Test/ToyasCard.lean, 'card_holds'). Laid BY PROGRAM, IN A SANDBOX (cutbox-door.mjs). By AI agents, Wed Nov 11 2026. No macro, syntax, notation, axiom, sorry.
-/
import Derived.Test.YtgeaoceiacdadaaDoorRows
import GoSem.ClaimSeven
namespace Go.Proofs.YtgeaoceiacdadaaDoor
namespace Rows

/-- THE TIED CARD OF 'unicodetextlaw43.ColltableChecks'. -/
def colltableChecksCard : Claim7 := { stood := { row := colltableChecksRow, standIns := [], harness := (true, "7bd607595edfc58e655e9a094ae7a76d487557dedb7e73b32cb2057c0dc2bd14"), looks := false }, kinds := [], alts := [], laidByText := true, laidKinds := [.data], laidTests := true, laidLooks := .later }
def ColltableChecksCardSaid : Prop := Claim7.holds Tryd.pinned (.plain (OpenSpec.ofChange colltableChecksSpec)) colltableChecksCard

/-- THE TIED CARD OF 'unicodetextlaw43.ColltableFinds'. -/
def colltableFindsCard : Claim7 := { stood := { row := colltableFindsRow, standIns := [], harness := (true, "7bd607595edfc58e655e9a094ae7a76d487557dedb7e73b32cb2057c0dc2bd14"), looks := false }, kinds := [], alts := [], laidByText := true, laidKinds := [.data], laidTests := true, laidLooks := .later }
def ColltableFindsCardSaid : Prop := Claim7.holds Tryd.pinned (.plain (OpenSpec.ofChange colltableFindsSpec)) colltableFindsCard

/-- THE TIED CARD OF 'unicodetextlaw43.ColltableLongest'. -/
def colltableLongestCard : Claim7 := { stood := { row := colltableLongestRow, standIns := [], harness := (true, "7bd607595edfc58e655e9a094ae7a76d487557dedb7e73b32cb2057c0dc2bd14"), looks := false }, kinds := [], alts := [], laidByText := true, laidKinds := [.data], laidTests := true, laidLooks := .later }
def ColltableLongestCardSaid : Prop := Claim7.holds Tryd.pinned (.plain (OpenSpec.ofChange colltableLongestSpec)) colltableLongestCard

/-- THE TIED CARD OF 'unicodetextlaw43.ColltableWalks'. -/
def colltableWalksCard : Claim7 := { stood := { row := colltableWalksRow, standIns := [], harness := (true, "7bd607595edfc58e655e9a094ae7a76d487557dedb7e73b32cb2057c0dc2bd14"), looks := false }, kinds := [], alts := [], laidByText := true, laidKinds := [.data], laidTests := true, laidLooks := .later }
def ColltableWalksCardSaid : Prop := Claim7.holds Tryd.pinned (.plain (OpenSpec.ofChange colltableWalksSpec)) colltableWalksCard

/-- THE TIED CARD OF 'unicodetextlaw43.ColltableSame'. -/
def colltableSameCard : Claim7 := { stood := { row := colltableSameRow, standIns := [], harness := (true, "7bd607595edfc58e655e9a094ae7a76d487557dedb7e73b32cb2057c0dc2bd14"), looks := false }, kinds := [], alts := [], laidByText := true, laidKinds := [.data], laidTests := true, laidLooks := .later }
def ColltableSameCardSaid : Prop := Claim7.holds Tryd.pinned (.plain (OpenSpec.ofChange colltableSameSpec)) colltableSameCard

/-- THE SECOND FORM's CARD OF 'unicodetextlaw43.ColltableChecks'. -/
def colltableChecksUptoCard : Claim7 := { stood := { row := colltableChecksUptoRow, standIns := [], harness := (true, "7bd607595edfc58e655e9a094ae7a76d487557dedb7e73b32cb2057c0dc2bd14"), looks := false }, kinds := [], alts := [], laidByText := true, laidKinds := [.data], laidTests := true, laidLooks := .later }
def ColltableChecksUptoCardSaid : Prop := Claim7.holds Tryd.pinned (.plain (OpenSpec.upto colltableChecksSpec)) colltableChecksUptoCard

/-- THE SECOND FORM's CARD OF 'unicodetextlaw43.ColltableFinds'. -/
def colltableFindsUptoCard : Claim7 := { stood := { row := colltableFindsUptoRow, standIns := [], harness := (true, "7bd607595edfc58e655e9a094ae7a76d487557dedb7e73b32cb2057c0dc2bd14"), looks := false }, kinds := [], alts := [], laidByText := true, laidKinds := [.data], laidTests := true, laidLooks := .later }
def ColltableFindsUptoCardSaid : Prop := Claim7.holds Tryd.pinned (.plain (OpenSpec.upto colltableFindsSpec)) colltableFindsUptoCard

/-- THE SECOND FORM's CARD OF 'unicodetextlaw43.ColltableLongest'. -/
def colltableLongestUptoCard : Claim7 := { stood := { row := colltableLongestUptoRow, standIns := [], harness := (true, "7bd607595edfc58e655e9a094ae7a76d487557dedb7e73b32cb2057c0dc2bd14"), looks := false }, kinds := [], alts := [], laidByText := true, laidKinds := [.data], laidTests := true, laidLooks := .later }
def ColltableLongestUptoCardSaid : Prop := Claim7.holds Tryd.pinned (.plain (OpenSpec.upto colltableLongestSpec)) colltableLongestUptoCard

/-- THE SECOND FORM's CARD OF 'unicodetextlaw43.ColltableWalks'. -/
def colltableWalksUptoCard : Claim7 := { stood := { row := colltableWalksUptoRow, standIns := [], harness := (true, "7bd607595edfc58e655e9a094ae7a76d487557dedb7e73b32cb2057c0dc2bd14"), looks := false }, kinds := [], alts := [], laidByText := true, laidKinds := [.data], laidTests := true, laidLooks := .later }
def ColltableWalksUptoCardSaid : Prop := Claim7.holds Tryd.pinned (.plain (OpenSpec.upto colltableWalksSpec)) colltableWalksUptoCard

/-- THE SECOND FORM's CARD OF 'unicodetextlaw43.ColltableSame'. -/
def colltableSameUptoCard : Claim7 := { stood := { row := colltableSameUptoRow, standIns := [], harness := (true, "7bd607595edfc58e655e9a094ae7a76d487557dedb7e73b32cb2057c0dc2bd14"), looks := false }, kinds := [], alts := [], laidByText := true, laidKinds := [.data], laidTests := true, laidLooks := .later }
def ColltableSameUptoCardSaid : Prop := Claim7.holds Tryd.pinned (.plain (OpenSpec.upto colltableSameSpec)) colltableSameUptoCard
end Rows
end Go.Proofs.YtgeaoceiacdadaaDoor

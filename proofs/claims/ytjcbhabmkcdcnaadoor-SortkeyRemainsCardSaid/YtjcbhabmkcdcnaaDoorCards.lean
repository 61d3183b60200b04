/-
  DERIVED. GIVEN WITH THE SEED: THE CARDS: each row of YtjcbhabmkcdcnaaDoorRows.lean that lists a variable, with what it lists TIED to the program's text (the seventh form; the later family's looks); each row that meets fmt, with fmt's text TOLD by the authors' own Lean function (tested against real Go, not proved from fmt's source: count such statements apart). THE CARD IS WHAT COUNTS. Prove the row's statement (the work); the ties are given (YtjcbhabmkcdcnaaDoorTie.lean); close each card by the builder's one call (the guide's Derived/Test/ToyasCard.lean, 'card_holds'). Laid BY PROGRAM, IN A SANDBOX (cutbox-door.mjs). By AI agents, Wed Nov 11 2026. No macro, syntax, notation, axiom, sorry.
-/
import Derived.Test.YtjcbhabmkcdcnaaDoorRows
import GoSem.ClaimSeven
namespace Go.Proofs.YtjcbhabmkcdcnaaDoor
namespace Rows

/-- THE TIED CARD OF 'unicodetextlaw44.SortkeyWeights'. -/
def sortkeyWeightsCard : Claim7 := { stood := { row := sortkeyWeightsRow, standIns := [], harness := (true, "8a9de5937bed29970c1a53adbe119d9db7cbf054ac66ead985ffd5d4effb096f"), looks := false }, kinds := [], alts := [], laidByText := true, laidKinds := [.data], laidTests := true, laidLooks := .later }
def SortkeyWeightsCardSaid : Prop := Claim7.holds Tryd.pinned (.plain (OpenSpec.ofChange sortkeyWeightsSpec)) sortkeyWeightsCard

/-- THE TIED CARD OF 'unicodetextlaw44.SortkeyBytes'. -/
def sortkeyBytesCard : Claim7 := { stood := { row := sortkeyBytesRow, standIns := [], harness := (true, "8a9de5937bed29970c1a53adbe119d9db7cbf054ac66ead985ffd5d4effb096f"), looks := false }, kinds := [], alts := [], laidByText := true, laidKinds := [.data], laidTests := true, laidLooks := .later }
def SortkeyBytesCardSaid : Prop := Claim7.holds Tryd.pinned (.plain (OpenSpec.ofChange sortkeyBytesSpec)) sortkeyBytesCard

/-- THE TIED CARD OF 'unicodetextlaw44.SortkeyTreats'. -/
def sortkeyTreatsCard : Claim7 := { stood := { row := sortkeyTreatsRow, standIns := [], harness := (true, "8a9de5937bed29970c1a53adbe119d9db7cbf054ac66ead985ffd5d4effb096f"), looks := false }, kinds := [], alts := [], laidByText := true, laidKinds := [.data], laidTests := true, laidLooks := .later }
def SortkeyTreatsCardSaid : Prop := Claim7.holds Tryd.pinned (.plain (OpenSpec.ofChange sortkeyTreatsSpec)) sortkeyTreatsCard

/-- THE TIED CARD OF 'unicodetextlaw44.SortkeyLevels'. -/
def sortkeyLevelsCard : Claim7 := { stood := { row := sortkeyLevelsRow, standIns := [], harness := (true, "8a9de5937bed29970c1a53adbe119d9db7cbf054ac66ead985ffd5d4effb096f"), looks := false }, kinds := [], alts := [], laidByText := true, laidKinds := [.data], laidTests := true, laidLooks := .later }
def SortkeyLevelsCardSaid : Prop := Claim7.holds Tryd.pinned (.plain (OpenSpec.ofChange sortkeyLevelsSpec)) sortkeyLevelsCard

/-- THE TIED CARD OF 'unicodetextlaw44.SortkeyRemains'. -/
def sortkeyRemainsCard : Claim7 := { stood := { row := sortkeyRemainsRow, standIns := [], harness := (true, "8a9de5937bed29970c1a53adbe119d9db7cbf054ac66ead985ffd5d4effb096f"), looks := false }, kinds := [], alts := [], laidByText := true, laidKinds := [.data], laidTests := true, laidLooks := .later }
def SortkeyRemainsCardSaid : Prop := Claim7.holds Tryd.pinned (.plain (OpenSpec.ofChange sortkeyRemainsSpec)) sortkeyRemainsCard

/-- THE SECOND FORM's CARD OF 'unicodetextlaw44.SortkeyWeights'. -/
def sortkeyWeightsUptoCard : Claim7 := { stood := { row := sortkeyWeightsUptoRow, standIns := [], harness := (true, "8a9de5937bed29970c1a53adbe119d9db7cbf054ac66ead985ffd5d4effb096f"), looks := false }, kinds := [], alts := [], laidByText := true, laidKinds := [.data], laidTests := true, laidLooks := .later }
def SortkeyWeightsUptoCardSaid : Prop := Claim7.holds Tryd.pinned (.plain (OpenSpec.upto sortkeyWeightsSpec)) sortkeyWeightsUptoCard

/-- THE SECOND FORM's CARD OF 'unicodetextlaw44.SortkeyBytes'. -/
def sortkeyBytesUptoCard : Claim7 := { stood := { row := sortkeyBytesUptoRow, standIns := [], harness := (true, "8a9de5937bed29970c1a53adbe119d9db7cbf054ac66ead985ffd5d4effb096f"), looks := false }, kinds := [], alts := [], laidByText := true, laidKinds := [.data], laidTests := true, laidLooks := .later }
def SortkeyBytesUptoCardSaid : Prop := Claim7.holds Tryd.pinned (.plain (OpenSpec.upto sortkeyBytesSpec)) sortkeyBytesUptoCard

/-- THE SECOND FORM's CARD OF 'unicodetextlaw44.SortkeyTreats'. -/
def sortkeyTreatsUptoCard : Claim7 := { stood := { row := sortkeyTreatsUptoRow, standIns := [], harness := (true, "8a9de5937bed29970c1a53adbe119d9db7cbf054ac66ead985ffd5d4effb096f"), looks := false }, kinds := [], alts := [], laidByText := true, laidKinds := [.data], laidTests := true, laidLooks := .later }
def SortkeyTreatsUptoCardSaid : Prop := Claim7.holds Tryd.pinned (.plain (OpenSpec.upto sortkeyTreatsSpec)) sortkeyTreatsUptoCard

/-- THE SECOND FORM's CARD OF 'unicodetextlaw44.SortkeyLevels'. -/
def sortkeyLevelsUptoCard : Claim7 := { stood := { row := sortkeyLevelsUptoRow, standIns := [], harness := (true, "8a9de5937bed29970c1a53adbe119d9db7cbf054ac66ead985ffd5d4effb096f"), looks := false }, kinds := [], alts := [], laidByText := true, laidKinds := [.data], laidTests := true, laidLooks := .later }
def SortkeyLevelsUptoCardSaid : Prop := Claim7.holds Tryd.pinned (.plain (OpenSpec.upto sortkeyLevelsSpec)) sortkeyLevelsUptoCard

/-- THE SECOND FORM's CARD OF 'unicodetextlaw44.SortkeyRemains'. -/
def sortkeyRemainsUptoCard : Claim7 := { stood := { row := sortkeyRemainsUptoRow, standIns := [], harness := (true, "8a9de5937bed29970c1a53adbe119d9db7cbf054ac66ead985ffd5d4effb096f"), looks := false }, kinds := [], alts := [], laidByText := true, laidKinds := [.data], laidTests := true, laidLooks := .later }
def SortkeyRemainsUptoCardSaid : Prop := Claim7.holds Tryd.pinned (.plain (OpenSpec.upto sortkeyRemainsSpec)) sortkeyRemainsUptoCard
end Rows
end Go.Proofs.YtjcbhabmkcdcnaaDoor

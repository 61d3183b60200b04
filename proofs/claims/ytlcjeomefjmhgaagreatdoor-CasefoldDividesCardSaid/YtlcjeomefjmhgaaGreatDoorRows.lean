/-
  NARROWER THAN 'FOR EVERY INPUT', by the rows' own cells (each row's printed sentence says how): KeypackKeys: laid · CasefoldFolds: laid · CasefoldOrbits: laid · CasefoldClosed: laid · CasefoldDivides: laid.
  DERIVED. THE GIVEN ROWS OF THIS SEAT. 5 by the template 'for every input the law returns true; each argument reads behind the call as it read before'; 0 by the template 'total and deterministic' (their statements: YtlcjeomefjmhgaaGreatDoorTotals.lean).
  GIVEN WITH THE SEED: the statements are not yours to turn. If you find one false, say at which input.
  Laid BY PROGRAM, IN A SANDBOX (cutbox-rows.mjs): the forced cells as the released guide's own fill.sh prints them over the translation 6fd0b82cdfd54046… (all of the seat's roots in one cut). By AI agents, Wed Nov 11 2026. No macro, syntax, notation, axiom, sorry.
-/
import Derived.Test.YtlcjeomefjmhgaaGreatDoorChecked
import GoSem.Claim
import GoSem.ClaimJoined
import GoSem.ClaimMapViews
import Derived.JoinedTies
import Derived.KernelRfl
namespace Go.Proofs.YtlcjeomefjmhgaaGreatDoor
/- THE CELL 'sum', in the pinned program and in every row, IS THE sha256 OF THE DUMP (.gsa) THAT YtlcjeomefjmhgaaGreatDoorProg.lean LOADS. Nothing in Lean hashes anything: it is a label: what it is worth is what the hold of that sum in a sandbox is worth. -/
noncomputable def Tryz.pinned : Pinned := { name := "ytlcjeomefjmhgaagreatdoor", sum := "6fd0b82cdfd5404613dd39101ac5c1d26ca138ee1d558fc4d1e57b539c5229ed", checked := Tryz.checked }
namespace Rows
def none {H : Type} : Left H := { results := [], args := [] }

/- WHAT THE LISTED PACKAGE-LEVEL VARIABLES READ AS WHEN THE CALL BEGINS. Each datum BY PROGRAM (the guide's laid-datum.mjs) off the statement by which the dump's own 'gosem.cut.vars' lays the variable. In a bare row this is a premise. The card (YtlcjeomefjmhgaaGreatDoorCards.lean) ties it to the program's text. -/
def laid_unicodetext_ordering_hangulRanges {H : Type} : DataW H := .agg [.agg [.lit (.int .i64 4352), .lit (.int .i64 4370)], .agg [.lit (.int .i64 4449), .lit (.int .i64 4469)], .agg [.lit (.int .i64 4520), .lit (.int .i64 4546)], .agg [.lit (.int .i64 44032), .lit (.int .i64 55203)]]

/-- 'unicodetextlaw48.KeypackKeys': WHATEVER THE INPUT: true; the input reads as it did. -/
def keypackKeysSpec : ChangeSpec := { name := "keypackKeys", fn := fun _ => fun
  | [d1, d2, d3] => { results := [.lit (.bool true)], args := [d1, d2, d3] }
  | _ => none }
def keypackKeysRow : OpenClaim := { program := "ytlcjeomefjmhgaagreatdoor", sum := "6fd0b82cdfd5404613dd39101ac5c1d26ca138ee1d558fc4d1e57b539c5229ed", func := "unicodetext/unicodetextlaw48.KeypackKeys", spec := "keypackKeys", unfollowed := true, recurses := true, named := ["unicodetext/ordering.hangulRanges"], plainKeys := false, apart := false, laid := [("unicodetext/ordering.hangulRanges", laid_unicodetext_ordering_hangulRanges)] }
def KeypackKeysSaid : Prop := keypackKeysRow.holds Tryz.pinned (OpenSpec.ofChange keypackKeysSpec)

/-- ITS FALSE NEIGHBOUR: 'it returns false'. Refute it at one input. -/
def keypackKeysWrong : ChangeSpec := { name := "keypackKeys", fn := fun _ => fun
  | [d1, d2, d3] => { results := [.lit (.bool false)], args := [d1, d2, d3] }
  | _ => none }
def KeypackKeysWrongFalsely : Prop := keypackKeysRow.holds Tryz.pinned (OpenSpec.ofChange keypackKeysWrong)

/-- 'unicodetextlaw38.CasefoldFolds': WHATEVER THE INPUT: true; the input reads as it did. -/
def casefoldFoldsSpec : ChangeSpec := { name := "casefoldFolds", fn := fun _ => fun
  | [d1, d2, d3] => { results := [.lit (.bool true)], args := [d1, d2, d3] }
  | _ => none }
def casefoldFoldsRow : OpenClaim := { program := "ytlcjeomefjmhgaagreatdoor", sum := "6fd0b82cdfd5404613dd39101ac5c1d26ca138ee1d558fc4d1e57b539c5229ed", func := "unicodetext/unicodetextlaw38.CasefoldFolds", spec := "casefoldFolds", unfollowed := true, recurses := true, named := ["unicodetext/ordering.hangulRanges"], plainKeys := false, apart := false, laid := [("unicodetext/ordering.hangulRanges", laid_unicodetext_ordering_hangulRanges)] }
def CasefoldFoldsSaid : Prop := casefoldFoldsRow.holds Tryz.pinned (OpenSpec.ofChange casefoldFoldsSpec)

/-- ITS FALSE NEIGHBOUR: 'it returns false'. Refute it at one input. -/
def casefoldFoldsWrong : ChangeSpec := { name := "casefoldFolds", fn := fun _ => fun
  | [d1, d2, d3] => { results := [.lit (.bool false)], args := [d1, d2, d3] }
  | _ => none }
def CasefoldFoldsWrongFalsely : Prop := casefoldFoldsRow.holds Tryz.pinned (OpenSpec.ofChange casefoldFoldsWrong)

/-- 'unicodetextlaw38.CasefoldOrbits': WHATEVER THE INPUT: true; the input reads as it did. -/
def casefoldOrbitsSpec : ChangeSpec := { name := "casefoldOrbits", fn := fun _ => fun
  | [d1, d2] => { results := [.lit (.bool true)], args := [d1, d2] }
  | _ => none }
def casefoldOrbitsRow : OpenClaim := { program := "ytlcjeomefjmhgaagreatdoor", sum := "6fd0b82cdfd5404613dd39101ac5c1d26ca138ee1d558fc4d1e57b539c5229ed", func := "unicodetext/unicodetextlaw38.CasefoldOrbits", spec := "casefoldOrbits", unfollowed := true, recurses := true, named := ["unicodetext/ordering.hangulRanges"], plainKeys := false, apart := false, laid := [("unicodetext/ordering.hangulRanges", laid_unicodetext_ordering_hangulRanges)] }
def CasefoldOrbitsSaid : Prop := casefoldOrbitsRow.holds Tryz.pinned (OpenSpec.ofChange casefoldOrbitsSpec)

/-- ITS FALSE NEIGHBOUR: 'it returns false'. Refute it at one input. -/
def casefoldOrbitsWrong : ChangeSpec := { name := "casefoldOrbits", fn := fun _ => fun
  | [d1, d2] => { results := [.lit (.bool false)], args := [d1, d2] }
  | _ => none }
def CasefoldOrbitsWrongFalsely : Prop := casefoldOrbitsRow.holds Tryz.pinned (OpenSpec.ofChange casefoldOrbitsWrong)

/-- 'unicodetextlaw38.CasefoldClosed': WHATEVER THE INPUT: true; the input reads as it did. -/
def casefoldClosedSpec : ChangeSpec := { name := "casefoldClosed", fn := fun _ => fun
  | [d1, d2] => { results := [.lit (.bool true)], args := [d1, d2] }
  | _ => none }
def casefoldClosedRow : OpenClaim := { program := "ytlcjeomefjmhgaagreatdoor", sum := "6fd0b82cdfd5404613dd39101ac5c1d26ca138ee1d558fc4d1e57b539c5229ed", func := "unicodetext/unicodetextlaw38.CasefoldClosed", spec := "casefoldClosed", unfollowed := true, recurses := true, named := ["unicodetext/ordering.hangulRanges"], plainKeys := false, apart := false, laid := [("unicodetext/ordering.hangulRanges", laid_unicodetext_ordering_hangulRanges)] }
def CasefoldClosedSaid : Prop := casefoldClosedRow.holds Tryz.pinned (OpenSpec.ofChange casefoldClosedSpec)

/-- ITS FALSE NEIGHBOUR: 'it returns false'. Refute it at one input. -/
def casefoldClosedWrong : ChangeSpec := { name := "casefoldClosed", fn := fun _ => fun
  | [d1, d2] => { results := [.lit (.bool false)], args := [d1, d2] }
  | _ => none }
def CasefoldClosedWrongFalsely : Prop := casefoldClosedRow.holds Tryz.pinned (OpenSpec.ofChange casefoldClosedWrong)

/-- 'unicodetextlaw38.CasefoldDivides': WHATEVER THE INPUT: true; the input reads as it did. -/
def casefoldDividesSpec : ChangeSpec := { name := "casefoldDivides", fn := fun _ => fun
  | [d1, d2, d3] => { results := [.lit (.bool true)], args := [d1, d2, d3] }
  | _ => none }
def casefoldDividesRow : OpenClaim := { program := "ytlcjeomefjmhgaagreatdoor", sum := "6fd0b82cdfd5404613dd39101ac5c1d26ca138ee1d558fc4d1e57b539c5229ed", func := "unicodetext/unicodetextlaw38.CasefoldDivides", spec := "casefoldDivides", unfollowed := true, recurses := true, named := ["unicodetext/ordering.hangulRanges"], plainKeys := false, apart := false, laid := [("unicodetext/ordering.hangulRanges", laid_unicodetext_ordering_hangulRanges)] }
def CasefoldDividesSaid : Prop := casefoldDividesRow.holds Tryz.pinned (OpenSpec.ofChange casefoldDividesSpec)

/-- ITS FALSE NEIGHBOUR: 'it returns false'. Refute it at one input. -/
def casefoldDividesWrong : ChangeSpec := { name := "casefoldDivides", fn := fun _ => fun
  | [d1, d2, d3] => { results := [.lit (.bool false)], args := [d1, d2, d3] }
  | _ => none }
def CasefoldDividesWrongFalsely : Prop := casefoldDividesRow.holds Tryz.pinned (OpenSpec.ofChange casefoldDividesWrong)

/- THE SECOND FORM. 'bulk': how many values and letters a reading holds, each counted each time it is reached (what is shared counts as often as it is met; a slice's spare places count too). A statement '..UptoSaid' is the law's where the arguments, and the package variables that the reading takes, are together of bulk at most 1048576: NARROWER than '..Said'. Prove '..Said' where nothing that the law and all that it calls make is longer than what came in: it says more and counts as full. Else prove '..UptoSaid'. A law counts once. -/
mutual
def uptoBulk {H : Type} : DataW H → Nat
  | .lit (.string bytes) => bytes.length + 1
  | .lit _ => 1
  | .nil => 1
  | .ptr d => uptoBulk d + 1
  | .slice elems spare => uptoBulkAll elems + uptoBulkAll spare + 1
  | .agg parts => uptoBulkAll parts + 1
  | .iface _ d => uptoBulk d + 1
  | .map entries => uptoBulkEntries entries + 1
  | .held _ => 1
def uptoBulkAll {H : Type} : List (DataW H) → Nat
  | [] => 0
  | d :: r => uptoBulk d + uptoBulkAll r
def uptoBulkEntries {H : Type} : List (Lit × DataW H) → Nat
  | [] => 0
  | x :: r => uptoBulkEntry x + uptoBulkEntries r
def uptoBulkEntry {H : Type} : Lit × DataW H → Nat
  | (.string bytes, d) => bytes.length + uptoBulk d + 1
  | (_, d) => uptoBulk d + 1
 end
def uptoSmall : (H : Type) → List (DataW H) → Bool := fun _ ds => decide (uptoBulkAll ds ≤ 1048576)
def OpenSpec.upto (s : _root_.Go.ChangeSpec) : _root_.Go.OpenSpec := { _root_.Go.OpenSpec.ofChange s with cond := some uptoSmall }

/-- 'unicodetextlaw48.KeypackKeys', WHERE WHAT IT READS IS OF BULK AT MOST 1048576: true; the input reads as it did. -/
def keypackKeysUptoRow : OpenClaim := { program := "ytlcjeomefjmhgaagreatdoor", sum := "6fd0b82cdfd5404613dd39101ac5c1d26ca138ee1d558fc4d1e57b539c5229ed", func := "unicodetext/unicodetextlaw48.KeypackKeys", spec := "keypackKeys", unfollowed := true, recurses := true, named := ["unicodetext/ordering.hangulRanges"], plainKeys := false, apart := false, laid := [("unicodetext/ordering.hangulRanges", laid_unicodetext_ordering_hangulRanges)], narrowed := true }
def KeypackKeysUptoSaid : Prop := keypackKeysUptoRow.holds Tryz.pinned (OpenSpec.upto keypackKeysSpec)

/-- 'unicodetextlaw38.CasefoldFolds', WHERE WHAT IT READS IS OF BULK AT MOST 1048576: true; the input reads as it did. -/
def casefoldFoldsUptoRow : OpenClaim := { program := "ytlcjeomefjmhgaagreatdoor", sum := "6fd0b82cdfd5404613dd39101ac5c1d26ca138ee1d558fc4d1e57b539c5229ed", func := "unicodetext/unicodetextlaw38.CasefoldFolds", spec := "casefoldFolds", unfollowed := true, recurses := true, named := ["unicodetext/ordering.hangulRanges"], plainKeys := false, apart := false, laid := [("unicodetext/ordering.hangulRanges", laid_unicodetext_ordering_hangulRanges)], narrowed := true }
def CasefoldFoldsUptoSaid : Prop := casefoldFoldsUptoRow.holds Tryz.pinned (OpenSpec.upto casefoldFoldsSpec)

/-- 'unicodetextlaw38.CasefoldOrbits', WHERE WHAT IT READS IS OF BULK AT MOST 1048576: true; the input reads as it did. -/
def casefoldOrbitsUptoRow : OpenClaim := { program := "ytlcjeomefjmhgaagreatdoor", sum := "6fd0b82cdfd5404613dd39101ac5c1d26ca138ee1d558fc4d1e57b539c5229ed", func := "unicodetext/unicodetextlaw38.CasefoldOrbits", spec := "casefoldOrbits", unfollowed := true, recurses := true, named := ["unicodetext/ordering.hangulRanges"], plainKeys := false, apart := false, laid := [("unicodetext/ordering.hangulRanges", laid_unicodetext_ordering_hangulRanges)], narrowed := true }
def CasefoldOrbitsUptoSaid : Prop := casefoldOrbitsUptoRow.holds Tryz.pinned (OpenSpec.upto casefoldOrbitsSpec)

/-- 'unicodetextlaw38.CasefoldClosed', WHERE WHAT IT READS IS OF BULK AT MOST 1048576: true; the input reads as it did. -/
def casefoldClosedUptoRow : OpenClaim := { program := "ytlcjeomefjmhgaagreatdoor", sum := "6fd0b82cdfd5404613dd39101ac5c1d26ca138ee1d558fc4d1e57b539c5229ed", func := "unicodetext/unicodetextlaw38.CasefoldClosed", spec := "casefoldClosed", unfollowed := true, recurses := true, named := ["unicodetext/ordering.hangulRanges"], plainKeys := false, apart := false, laid := [("unicodetext/ordering.hangulRanges", laid_unicodetext_ordering_hangulRanges)], narrowed := true }
def CasefoldClosedUptoSaid : Prop := casefoldClosedUptoRow.holds Tryz.pinned (OpenSpec.upto casefoldClosedSpec)

/-- 'unicodetextlaw38.CasefoldDivides', WHERE WHAT IT READS IS OF BULK AT MOST 1048576: true; the input reads as it did. -/
def casefoldDividesUptoRow : OpenClaim := { program := "ytlcjeomefjmhgaagreatdoor", sum := "6fd0b82cdfd5404613dd39101ac5c1d26ca138ee1d558fc4d1e57b539c5229ed", func := "unicodetext/unicodetextlaw38.CasefoldDivides", spec := "casefoldDivides", unfollowed := true, recurses := true, named := ["unicodetext/ordering.hangulRanges"], plainKeys := false, apart := false, laid := [("unicodetext/ordering.hangulRanges", laid_unicodetext_ordering_hangulRanges)], narrowed := true }
def CasefoldDividesUptoSaid : Prop := casefoldDividesUptoRow.holds Tryz.pinned (OpenSpec.upto casefoldDividesSpec)

end Rows
end Go.Proofs.YtlcjeomefjmhgaaGreatDoor

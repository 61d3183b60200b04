/-
  NARROWER THAN 'FOR EVERY INPUT', by the rows' own cells (each row's printed sentence says how): CollateCompares: laid · CollateSorts: laid · CollateSearches: laid · CollateStarts: laid · CollateOrders: laid · CollateEquivalent: laid · CollateFinds: laid · CollateStrengths: laid · KeypackKeys: laid.
  DERIVED. THE GIVEN ROWS OF THIS SEAT. 9 by the template 'for every input the law returns true; each argument reads behind the call as it read before'; 0 by the template 'total and deterministic' (their statements: YtoekgplgehlpjaaGreatDoorTotals.lean).
  GIVEN WITH THE SEED: the statements are not yours to turn. If you find one false, say at which input.
  Laid BY PROGRAM, IN A SANDBOX (cutbox-rows.mjs): the forced cells as the released guide's own fill.sh prints them over the translation dd702362af1bfb4e… (all of the seat's roots in one cut). By AI agents, Wed Nov 11 2026. No macro, syntax, notation, axiom, sorry.
-/
import Derived.Test.YtoekgplgehlpjaaGreatDoorChecked
import GoSem.Claim
import GoSem.ClaimJoined
import GoSem.ClaimMapViews
import Derived.JoinedTies
import Derived.KernelRfl
namespace Go.Proofs.YtoekgplgehlpjaaGreatDoor
/- THE CELL 'sum', in the pinned program and in every row, IS THE sha256 OF THE DUMP (.gsa) THAT YtoekgplgehlpjaaGreatDoorProg.lean LOADS. Nothing in Lean hashes anything: it is a label: what it is worth is what the hold of that sum in a sandbox is worth. -/
noncomputable def Tryz.pinned : Pinned := { name := "ytoekgplgehlpjaagreatdoor", sum := "dd702362af1bfb4e98ad08eb7bc5517a120c546020b83faa81a547ddecf68a9c", checked := Tryz.checked }
namespace Rows
def none {H : Type} : Left H := { results := [], args := [] }

/- WHAT THE LISTED PACKAGE-LEVEL VARIABLES READ AS WHEN THE CALL BEGINS. Each datum BY PROGRAM (the guide's laid-datum.mjs) off the statement by which the dump's own 'gosem.cut.vars' lays the variable. In a bare row this is a premise. The card (YtoekgplgehlpjaaGreatDoorCards.lean) ties it to the program's text. -/
def laid_unicodetext_ordering_hangulRanges {H : Type} : DataW H := .agg [.agg [.lit (.int .i64 4352), .lit (.int .i64 4370)], .agg [.lit (.int .i64 4449), .lit (.int .i64 4469)], .agg [.lit (.int .i64 4520), .lit (.int .i64 4546)], .agg [.lit (.int .i64 44032), .lit (.int .i64 55203)]]

/-- 'unicodetextlaw45.CollateCompares': WHATEVER THE INPUT: true; the input reads as it did. -/
def collateComparesSpec : ChangeSpec := { name := "collateCompares", fn := fun _ => fun
  | [d1, d2, d3] => { results := [.lit (.bool true)], args := [d1, d2, d3] }
  | _ => none }
def collateComparesRow : OpenClaim := { program := "ytoekgplgehlpjaagreatdoor", sum := "dd702362af1bfb4e98ad08eb7bc5517a120c546020b83faa81a547ddecf68a9c", func := "unicodetext/unicodetextlaw45.CollateCompares", spec := "collateCompares", unfollowed := true, recurses := true, named := ["unicodetext/ordering.hangulRanges"], plainKeys := false, apart := false, laid := [("unicodetext/ordering.hangulRanges", laid_unicodetext_ordering_hangulRanges)] }
def CollateComparesSaid : Prop := collateComparesRow.holds Tryz.pinned (OpenSpec.ofChange collateComparesSpec)

/-- ITS FALSE NEIGHBOUR: 'it returns false'. Refute it at one input. -/
def collateComparesWrong : ChangeSpec := { name := "collateCompares", fn := fun _ => fun
  | [d1, d2, d3] => { results := [.lit (.bool false)], args := [d1, d2, d3] }
  | _ => none }
def CollateComparesWrongFalsely : Prop := collateComparesRow.holds Tryz.pinned (OpenSpec.ofChange collateComparesWrong)

/-- 'unicodetextlaw45.CollateSorts': WHATEVER THE INPUT: true; the input reads as it did. -/
def collateSortsSpec : ChangeSpec := { name := "collateSorts", fn := fun _ => fun
  | [d1, d2] => { results := [.lit (.bool true)], args := [d1, d2] }
  | _ => none }
def collateSortsRow : OpenClaim := { program := "ytoekgplgehlpjaagreatdoor", sum := "dd702362af1bfb4e98ad08eb7bc5517a120c546020b83faa81a547ddecf68a9c", func := "unicodetext/unicodetextlaw45.CollateSorts", spec := "collateSorts", unfollowed := true, recurses := true, named := ["unicodetext/ordering.hangulRanges"], plainKeys := false, apart := false, laid := [("unicodetext/ordering.hangulRanges", laid_unicodetext_ordering_hangulRanges)] }
def CollateSortsSaid : Prop := collateSortsRow.holds Tryz.pinned (OpenSpec.ofChange collateSortsSpec)

/-- ITS FALSE NEIGHBOUR: 'it returns false'. Refute it at one input. -/
def collateSortsWrong : ChangeSpec := { name := "collateSorts", fn := fun _ => fun
  | [d1, d2] => { results := [.lit (.bool false)], args := [d1, d2] }
  | _ => none }
def CollateSortsWrongFalsely : Prop := collateSortsRow.holds Tryz.pinned (OpenSpec.ofChange collateSortsWrong)

/-- 'unicodetextlaw45.CollateSearches': WHATEVER THE INPUT: true; the input reads as it did. -/
def collateSearchesSpec : ChangeSpec := { name := "collateSearches", fn := fun _ => fun
  | [d1, d2, d3] => { results := [.lit (.bool true)], args := [d1, d2, d3] }
  | _ => none }
def collateSearchesRow : OpenClaim := { program := "ytoekgplgehlpjaagreatdoor", sum := "dd702362af1bfb4e98ad08eb7bc5517a120c546020b83faa81a547ddecf68a9c", func := "unicodetext/unicodetextlaw45.CollateSearches", spec := "collateSearches", unfollowed := true, recurses := true, named := ["unicodetext/ordering.hangulRanges"], plainKeys := false, apart := false, laid := [("unicodetext/ordering.hangulRanges", laid_unicodetext_ordering_hangulRanges)] }
def CollateSearchesSaid : Prop := collateSearchesRow.holds Tryz.pinned (OpenSpec.ofChange collateSearchesSpec)

/-- ITS FALSE NEIGHBOUR: 'it returns false'. Refute it at one input. -/
def collateSearchesWrong : ChangeSpec := { name := "collateSearches", fn := fun _ => fun
  | [d1, d2, d3] => { results := [.lit (.bool false)], args := [d1, d2, d3] }
  | _ => none }
def CollateSearchesWrongFalsely : Prop := collateSearchesRow.holds Tryz.pinned (OpenSpec.ofChange collateSearchesWrong)

/-- 'unicodetextlaw45.CollateStarts': WHATEVER THE INPUT: true; the input reads as it did. -/
def collateStartsSpec : ChangeSpec := { name := "collateStarts", fn := fun _ => fun
  | [d1, d2, d3] => { results := [.lit (.bool true)], args := [d1, d2, d3] }
  | _ => none }
def collateStartsRow : OpenClaim := { program := "ytoekgplgehlpjaagreatdoor", sum := "dd702362af1bfb4e98ad08eb7bc5517a120c546020b83faa81a547ddecf68a9c", func := "unicodetext/unicodetextlaw45.CollateStarts", spec := "collateStarts", unfollowed := true, recurses := true, named := ["unicodetext/ordering.hangulRanges"], plainKeys := false, apart := false, laid := [("unicodetext/ordering.hangulRanges", laid_unicodetext_ordering_hangulRanges)] }
def CollateStartsSaid : Prop := collateStartsRow.holds Tryz.pinned (OpenSpec.ofChange collateStartsSpec)

/-- ITS FALSE NEIGHBOUR: 'it returns false'. Refute it at one input. -/
def collateStartsWrong : ChangeSpec := { name := "collateStarts", fn := fun _ => fun
  | [d1, d2, d3] => { results := [.lit (.bool false)], args := [d1, d2, d3] }
  | _ => none }
def CollateStartsWrongFalsely : Prop := collateStartsRow.holds Tryz.pinned (OpenSpec.ofChange collateStartsWrong)

/-- 'unicodetextlaw45.CollateOrders': WHATEVER THE INPUT: true; the input reads as it did. -/
def collateOrdersSpec : ChangeSpec := { name := "collateOrders", fn := fun _ => fun
  | [d1, d2] => { results := [.lit (.bool true)], args := [d1, d2] }
  | _ => none }
def collateOrdersRow : OpenClaim := { program := "ytoekgplgehlpjaagreatdoor", sum := "dd702362af1bfb4e98ad08eb7bc5517a120c546020b83faa81a547ddecf68a9c", func := "unicodetext/unicodetextlaw45.CollateOrders", spec := "collateOrders", unfollowed := true, recurses := true, named := ["unicodetext/ordering.hangulRanges"], plainKeys := false, apart := false, laid := [("unicodetext/ordering.hangulRanges", laid_unicodetext_ordering_hangulRanges)] }
def CollateOrdersSaid : Prop := collateOrdersRow.holds Tryz.pinned (OpenSpec.ofChange collateOrdersSpec)

/-- ITS FALSE NEIGHBOUR: 'it returns false'. Refute it at one input. -/
def collateOrdersWrong : ChangeSpec := { name := "collateOrders", fn := fun _ => fun
  | [d1, d2] => { results := [.lit (.bool false)], args := [d1, d2] }
  | _ => none }
def CollateOrdersWrongFalsely : Prop := collateOrdersRow.holds Tryz.pinned (OpenSpec.ofChange collateOrdersWrong)

/-- 'unicodetextlaw45.CollateEquivalent': WHATEVER THE INPUT: true; the input reads as it did. -/
def collateEquivalentSpec : ChangeSpec := { name := "collateEquivalent", fn := fun _ => fun
  | [d1, d2] => { results := [.lit (.bool true)], args := [d1, d2] }
  | _ => none }
def collateEquivalentRow : OpenClaim := { program := "ytoekgplgehlpjaagreatdoor", sum := "dd702362af1bfb4e98ad08eb7bc5517a120c546020b83faa81a547ddecf68a9c", func := "unicodetext/unicodetextlaw45.CollateEquivalent", spec := "collateEquivalent", unfollowed := true, recurses := true, named := ["unicodetext/ordering.hangulRanges"], plainKeys := false, apart := false, laid := [("unicodetext/ordering.hangulRanges", laid_unicodetext_ordering_hangulRanges)] }
def CollateEquivalentSaid : Prop := collateEquivalentRow.holds Tryz.pinned (OpenSpec.ofChange collateEquivalentSpec)

/-- ITS FALSE NEIGHBOUR: 'it returns false'. Refute it at one input. -/
def collateEquivalentWrong : ChangeSpec := { name := "collateEquivalent", fn := fun _ => fun
  | [d1, d2] => { results := [.lit (.bool false)], args := [d1, d2] }
  | _ => none }
def CollateEquivalentWrongFalsely : Prop := collateEquivalentRow.holds Tryz.pinned (OpenSpec.ofChange collateEquivalentWrong)

/-- 'unicodetextlaw45.CollateFinds': WHATEVER THE INPUT: true; the input reads as it did. -/
def collateFindsSpec : ChangeSpec := { name := "collateFinds", fn := fun _ => fun
  | [d1, d2] => { results := [.lit (.bool true)], args := [d1, d2] }
  | _ => none }
def collateFindsRow : OpenClaim := { program := "ytoekgplgehlpjaagreatdoor", sum := "dd702362af1bfb4e98ad08eb7bc5517a120c546020b83faa81a547ddecf68a9c", func := "unicodetext/unicodetextlaw45.CollateFinds", spec := "collateFinds", unfollowed := true, recurses := true, named := ["unicodetext/ordering.hangulRanges"], plainKeys := false, apart := false, laid := [("unicodetext/ordering.hangulRanges", laid_unicodetext_ordering_hangulRanges)] }
def CollateFindsSaid : Prop := collateFindsRow.holds Tryz.pinned (OpenSpec.ofChange collateFindsSpec)

/-- ITS FALSE NEIGHBOUR: 'it returns false'. Refute it at one input. -/
def collateFindsWrong : ChangeSpec := { name := "collateFinds", fn := fun _ => fun
  | [d1, d2] => { results := [.lit (.bool false)], args := [d1, d2] }
  | _ => none }
def CollateFindsWrongFalsely : Prop := collateFindsRow.holds Tryz.pinned (OpenSpec.ofChange collateFindsWrong)

/-- 'unicodetextlaw45.CollateStrengths': WHATEVER THE INPUT: true; the input reads as it did. -/
def collateStrengthsSpec : ChangeSpec := { name := "collateStrengths", fn := fun _ => fun
  | [d1, d2, d3] => { results := [.lit (.bool true)], args := [d1, d2, d3] }
  | _ => none }
def collateStrengthsRow : OpenClaim := { program := "ytoekgplgehlpjaagreatdoor", sum := "dd702362af1bfb4e98ad08eb7bc5517a120c546020b83faa81a547ddecf68a9c", func := "unicodetext/unicodetextlaw45.CollateStrengths", spec := "collateStrengths", unfollowed := true, recurses := true, named := ["unicodetext/ordering.hangulRanges"], plainKeys := false, apart := false, laid := [("unicodetext/ordering.hangulRanges", laid_unicodetext_ordering_hangulRanges)] }
def CollateStrengthsSaid : Prop := collateStrengthsRow.holds Tryz.pinned (OpenSpec.ofChange collateStrengthsSpec)

/-- ITS FALSE NEIGHBOUR: 'it returns false'. Refute it at one input. -/
def collateStrengthsWrong : ChangeSpec := { name := "collateStrengths", fn := fun _ => fun
  | [d1, d2, d3] => { results := [.lit (.bool false)], args := [d1, d2, d3] }
  | _ => none }
def CollateStrengthsWrongFalsely : Prop := collateStrengthsRow.holds Tryz.pinned (OpenSpec.ofChange collateStrengthsWrong)

/-- 'unicodetextlaw48.KeypackKeys': WHATEVER THE INPUT: true; the input reads as it did. -/
def keypackKeysSpec : ChangeSpec := { name := "keypackKeys", fn := fun _ => fun
  | [d1, d2, d3] => { results := [.lit (.bool true)], args := [d1, d2, d3] }
  | _ => none }
def keypackKeysRow : OpenClaim := { program := "ytoekgplgehlpjaagreatdoor", sum := "dd702362af1bfb4e98ad08eb7bc5517a120c546020b83faa81a547ddecf68a9c", func := "unicodetext/unicodetextlaw48.KeypackKeys", spec := "keypackKeys", unfollowed := true, recurses := true, named := ["unicodetext/ordering.hangulRanges"], plainKeys := false, apart := false, laid := [("unicodetext/ordering.hangulRanges", laid_unicodetext_ordering_hangulRanges)] }
def KeypackKeysSaid : Prop := keypackKeysRow.holds Tryz.pinned (OpenSpec.ofChange keypackKeysSpec)

/-- ITS FALSE NEIGHBOUR: 'it returns false'. Refute it at one input. -/
def keypackKeysWrong : ChangeSpec := { name := "keypackKeys", fn := fun _ => fun
  | [d1, d2, d3] => { results := [.lit (.bool false)], args := [d1, d2, d3] }
  | _ => none }
def KeypackKeysWrongFalsely : Prop := keypackKeysRow.holds Tryz.pinned (OpenSpec.ofChange keypackKeysWrong)

/- THE SECOND FORM. 'bulk': how many values and letters a reading holds, each counted each time it is reached (what is shared counts as often as it is met; a slice's spare places count too). A statement '..UptoSaid' is the law's where the arguments, and the package variables that the reading takes, are together of bulk at most 1048576: NARROWER than '..Said'. Prove '..Said' where nothing that the law and all that it calls make is longer than what came in: it says more and counts as full. Else prove '..UptoSaid'. A law counts once. -/
mutual
def uptoBulk {H : Type} : DataW H → Nat
  | .lit (.string bytes) => bytes.length + 1
  | .lit _ => 1
  | .nil => 1
  | .ptr d => uptoBulk d + 1
  | .slice elems spare => uptoBulkAll elems + uptoBulkAll spare + 1
  | .agg parts => uptoBulkAll parts + 1
  | .iface _ d => uptoBulk d + 1
  | .map entries => uptoBulkEntries entries + 1
  | .held _ => 1
def uptoBulkAll {H : Type} : List (DataW H) → Nat
  | [] => 0
  | d :: r => uptoBulk d + uptoBulkAll r
def uptoBulkEntries {H : Type} : List (Lit × DataW H) → Nat
  | [] => 0
  | x :: r => uptoBulkEntry x + uptoBulkEntries r
def uptoBulkEntry {H : Type} : Lit × DataW H → Nat
  | (.string bytes, d) => bytes.length + uptoBulk d + 1
  | (_, d) => uptoBulk d + 1
 end
def uptoSmall : (H : Type) → List (DataW H) → Bool := fun _ ds => decide (uptoBulkAll ds ≤ 1048576)
def OpenSpec.upto (s : _root_.Go.ChangeSpec) : _root_.Go.OpenSpec := { _root_.Go.OpenSpec.ofChange s with cond := some uptoSmall }

/-- 'unicodetextlaw45.CollateCompares', WHERE WHAT IT READS IS OF BULK AT MOST 1048576: true; the input reads as it did. -/
def collateComparesUptoRow : OpenClaim := { program := "ytoekgplgehlpjaagreatdoor", sum := "dd702362af1bfb4e98ad08eb7bc5517a120c546020b83faa81a547ddecf68a9c", func := "unicodetext/unicodetextlaw45.CollateCompares", spec := "collateCompares", unfollowed := true, recurses := true, named := ["unicodetext/ordering.hangulRanges"], plainKeys := false, apart := false, laid := [("unicodetext/ordering.hangulRanges", laid_unicodetext_ordering_hangulRanges)], narrowed := true }
def CollateComparesUptoSaid : Prop := collateComparesUptoRow.holds Tryz.pinned (OpenSpec.upto collateComparesSpec)

/-- 'unicodetextlaw45.CollateSorts', WHERE WHAT IT READS IS OF BULK AT MOST 1048576: true; the input reads as it did. -/
def collateSortsUptoRow : OpenClaim := { program := "ytoekgplgehlpjaagreatdoor", sum := "dd702362af1bfb4e98ad08eb7bc5517a120c546020b83faa81a547ddecf68a9c", func := "unicodetext/unicodetextlaw45.CollateSorts", spec := "collateSorts", unfollowed := true, recurses := true, named := ["unicodetext/ordering.hangulRanges"], plainKeys := false, apart := false, laid := [("unicodetext/ordering.hangulRanges", laid_unicodetext_ordering_hangulRanges)], narrowed := true }
def CollateSortsUptoSaid : Prop := collateSortsUptoRow.holds Tryz.pinned (OpenSpec.upto collateSortsSpec)

/-- 'unicodetextlaw45.CollateSearches', WHERE WHAT IT READS IS OF BULK AT MOST 1048576: true; the input reads as it did. -/
def collateSearchesUptoRow : OpenClaim := { program := "ytoekgplgehlpjaagreatdoor", sum := "dd702362af1bfb4e98ad08eb7bc5517a120c546020b83faa81a547ddecf68a9c", func := "unicodetext/unicodetextlaw45.CollateSearches", spec := "collateSearches", unfollowed := true, recurses := true, named := ["unicodetext/ordering.hangulRanges"], plainKeys := false, apart := false, laid := [("unicodetext/ordering.hangulRanges", laid_unicodetext_ordering_hangulRanges)], narrowed := true }
def CollateSearchesUptoSaid : Prop := collateSearchesUptoRow.holds Tryz.pinned (OpenSpec.upto collateSearchesSpec)

/-- 'unicodetextlaw45.CollateStarts', WHERE WHAT IT READS IS OF BULK AT MOST 1048576: true; the input reads as it did. -/
def collateStartsUptoRow : OpenClaim := { program := "ytoekgplgehlpjaagreatdoor", sum := "dd702362af1bfb4e98ad08eb7bc5517a120c546020b83faa81a547ddecf68a9c", func := "unicodetext/unicodetextlaw45.CollateStarts", spec := "collateStarts", unfollowed := true, recurses := true, named := ["unicodetext/ordering.hangulRanges"], plainKeys := false, apart := false, laid := [("unicodetext/ordering.hangulRanges", laid_unicodetext_ordering_hangulRanges)], narrowed := true }
def CollateStartsUptoSaid : Prop := collateStartsUptoRow.holds Tryz.pinned (OpenSpec.upto collateStartsSpec)

/-- 'unicodetextlaw45.CollateOrders', WHERE WHAT IT READS IS OF BULK AT MOST 1048576: true; the input reads as it did. -/
def collateOrdersUptoRow : OpenClaim := { program := "ytoekgplgehlpjaagreatdoor", sum := "dd702362af1bfb4e98ad08eb7bc5517a120c546020b83faa81a547ddecf68a9c", func := "unicodetext/unicodetextlaw45.CollateOrders", spec := "collateOrders", unfollowed := true, recurses := true, named := ["unicodetext/ordering.hangulRanges"], plainKeys := false, apart := false, laid := [("unicodetext/ordering.hangulRanges", laid_unicodetext_ordering_hangulRanges)], narrowed := true }
def CollateOrdersUptoSaid : Prop := collateOrdersUptoRow.holds Tryz.pinned (OpenSpec.upto collateOrdersSpec)

/-- 'unicodetextlaw45.CollateEquivalent', WHERE WHAT IT READS IS OF BULK AT MOST 1048576: true; the input reads as it did. -/
def collateEquivalentUptoRow : OpenClaim := { program := "ytoekgplgehlpjaagreatdoor", sum := "dd702362af1bfb4e98ad08eb7bc5517a120c546020b83faa81a547ddecf68a9c", func := "unicodetext/unicodetextlaw45.CollateEquivalent", spec := "collateEquivalent", unfollowed := true, recurses := true, named := ["unicodetext/ordering.hangulRanges"], plainKeys := false, apart := false, laid := [("unicodetext/ordering.hangulRanges", laid_unicodetext_ordering_hangulRanges)], narrowed := true }
def CollateEquivalentUptoSaid : Prop := collateEquivalentUptoRow.holds Tryz.pinned (OpenSpec.upto collateEquivalentSpec)

/-- 'unicodetextlaw45.CollateFinds', WHERE WHAT IT READS IS OF BULK AT MOST 1048576: true; the input reads as it did. -/
def collateFindsUptoRow : OpenClaim := { program := "ytoekgplgehlpjaagreatdoor", sum := "dd702362af1bfb4e98ad08eb7bc5517a120c546020b83faa81a547ddecf68a9c", func := "unicodetext/unicodetextlaw45.CollateFinds", spec := "collateFinds", unfollowed := true, recurses := true, named := ["unicodetext/ordering.hangulRanges"], plainKeys := false, apart := false, laid := [("unicodetext/ordering.hangulRanges", laid_unicodetext_ordering_hangulRanges)], narrowed := true }
def CollateFindsUptoSaid : Prop := collateFindsUptoRow.holds Tryz.pinned (OpenSpec.upto collateFindsSpec)

/-- 'unicodetextlaw45.CollateStrengths', WHERE WHAT IT READS IS OF BULK AT MOST 1048576: true; the input reads as it did. -/
def collateStrengthsUptoRow : OpenClaim := { program := "ytoekgplgehlpjaagreatdoor", sum := "dd702362af1bfb4e98ad08eb7bc5517a120c546020b83faa81a547ddecf68a9c", func := "unicodetext/unicodetextlaw45.CollateStrengths", spec := "collateStrengths", unfollowed := true, recurses := true, named := ["unicodetext/ordering.hangulRanges"], plainKeys := false, apart := false, laid := [("unicodetext/ordering.hangulRanges", laid_unicodetext_ordering_hangulRanges)], narrowed := true }
def CollateStrengthsUptoSaid : Prop := collateStrengthsUptoRow.holds Tryz.pinned (OpenSpec.upto collateStrengthsSpec)

/-- 'unicodetextlaw48.KeypackKeys', WHERE WHAT IT READS IS OF BULK AT MOST 1048576: true; the input reads as it did. -/
def keypackKeysUptoRow : OpenClaim := { program := "ytoekgplgehlpjaagreatdoor", sum := "dd702362af1bfb4e98ad08eb7bc5517a120c546020b83faa81a547ddecf68a9c", func := "unicodetext/unicodetextlaw48.KeypackKeys", spec := "keypackKeys", unfollowed := true, recurses := true, named := ["unicodetext/ordering.hangulRanges"], plainKeys := false, apart := false, laid := [("unicodetext/ordering.hangulRanges", laid_unicodetext_ordering_hangulRanges)], narrowed := true }
def KeypackKeysUptoSaid : Prop := keypackKeysUptoRow.holds Tryz.pinned (OpenSpec.upto keypackKeysSpec)

end Rows
end Go.Proofs.YtoekgplgehlpjaaGreatDoor

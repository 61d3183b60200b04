/-
  NARROWER THAN 'FOR EVERY INPUT', by the rows' own cells (each row's printed sentence says how): TopMatches: laid · SearchMatches: laid · SearchAlls: laid · SearchFinds: laid · SearchReplaces: laid · SearchShortest: laid · SearchEquivalent: laid · SearchSelf: laid · SearchDisjoint: laid.
  DERIVED. THE GIVEN ROWS OF THIS SEAT. 9 by the template 'for every input the law returns true; each argument reads behind the call as it read before'; 0 by the template 'total and deterministic' (their statements: YtjnpmmedmedokaaGreatDoorTotals.lean).
  GIVEN WITH THE SEED: the statements are not yours to turn. If you find one false, say at which input.
  Laid BY PROGRAM, IN A SANDBOX (cutbox-rows.mjs): the forced cells as the released guide's own fill.sh prints them over the translation 451529703727efac… (all of the seat's roots in one cut). By AI agents, Wed Nov 11 2026. No macro, syntax, notation, axiom, sorry.
-/
import Derived.Test.YtjnpmmedmedokaaGreatDoorChecked
import GoSem.Claim
import GoSem.ClaimJoined
import GoSem.ClaimMapViews
import Derived.JoinedTies
import Derived.KernelRfl
namespace Go.Proofs.YtjnpmmedmedokaaGreatDoor
/- THE CELL 'sum', in the pinned program and in every row, IS THE sha256 OF THE DUMP (.gsa) THAT YtjnpmmedmedokaaGreatDoorProg.lean LOADS. Nothing in Lean hashes anything: it is a label: what it is worth is what the hold of that sum in a sandbox is worth. -/
noncomputable def Tryz.pinned : Pinned := { name := "ytjnpmmedmedokaagreatdoor", sum := "451529703727efacf6117a2aa11413217e144f494ed0b9eb6b6d89be28cf4d28", checked := Tryz.checked }
namespace Rows
def none {H : Type} : Left H := { results := [], args := [] }

/- WHAT THE LISTED PACKAGE-LEVEL VARIABLES READ AS WHEN THE CALL BEGINS. Each datum BY PROGRAM (the guide's laid-datum.mjs) off the statement by which the dump's own 'gosem.cut.vars' lays the variable. In a bare row this is a premise. The card (YtjnpmmedmedokaaGreatDoorCards.lean) ties it to the program's text. -/
def laid_unicodetext_ordering_hangulRanges {H : Type} : DataW H := .agg [.agg [.lit (.int .i64 4352), .lit (.int .i64 4370)], .agg [.lit (.int .i64 4449), .lit (.int .i64 4469)], .agg [.lit (.int .i64 4520), .lit (.int .i64 4546)], .agg [.lit (.int .i64 44032), .lit (.int .i64 55203)]]

/-- 'unicodetexttop.TopMatches': WHATEVER THE INPUT: true; the input reads as it did. -/
def topMatchesSpec : ChangeSpec := { name := "topMatches", fn := fun _ => fun
  | [d1, d2, d3] => { results := [.lit (.bool true)], args := [d1, d2, d3] }
  | _ => none }
def topMatchesRow : OpenClaim := { program := "ytjnpmmedmedokaagreatdoor", sum := "451529703727efacf6117a2aa11413217e144f494ed0b9eb6b6d89be28cf4d28", func := "unicodetext/unicodetexttop.TopMatches", spec := "topMatches", unfollowed := true, recurses := true, named := ["unicodetext/ordering.hangulRanges"], plainKeys := false, apart := false, laid := [("unicodetext/ordering.hangulRanges", laid_unicodetext_ordering_hangulRanges)] }
def TopMatchesSaid : Prop := topMatchesRow.holds Tryz.pinned (OpenSpec.ofChange topMatchesSpec)

/-- ITS FALSE NEIGHBOUR: 'it returns false'. Refute it at one input. -/
def topMatchesWrong : ChangeSpec := { name := "topMatches", fn := fun _ => fun
  | [d1, d2, d3] => { results := [.lit (.bool false)], args := [d1, d2, d3] }
  | _ => none }
def TopMatchesWrongFalsely : Prop := topMatchesRow.holds Tryz.pinned (OpenSpec.ofChange topMatchesWrong)

/-- 'unicodetextlaw49.SearchMatches': WHATEVER THE INPUT: true; the input reads as it did. -/
def searchMatchesSpec : ChangeSpec := { name := "searchMatches", fn := fun _ => fun
  | [d] => { results := [.lit (.bool true)], args := [d] }
  | _ => none }
def searchMatchesRow : OpenClaim := { program := "ytjnpmmedmedokaagreatdoor", sum := "451529703727efacf6117a2aa11413217e144f494ed0b9eb6b6d89be28cf4d28", func := "unicodetext/unicodetextlaw49.SearchMatches", spec := "searchMatches", unfollowed := true, recurses := true, named := ["unicodetext/ordering.hangulRanges"], plainKeys := false, apart := false, laid := [("unicodetext/ordering.hangulRanges", laid_unicodetext_ordering_hangulRanges)] }
def SearchMatchesSaid : Prop := searchMatchesRow.holds Tryz.pinned (OpenSpec.ofChange searchMatchesSpec)

/-- ITS FALSE NEIGHBOUR: 'it returns false'. Refute it at one input. -/
def searchMatchesWrong : ChangeSpec := { name := "searchMatches", fn := fun _ => fun
  | [d] => { results := [.lit (.bool false)], args := [d] }
  | _ => none }
def SearchMatchesWrongFalsely : Prop := searchMatchesRow.holds Tryz.pinned (OpenSpec.ofChange searchMatchesWrong)

/-- 'unicodetextlaw49.SearchAlls': WHATEVER THE INPUT: true; the input reads as it did. -/
def searchAllsSpec : ChangeSpec := { name := "searchAlls", fn := fun _ => fun
  | [d] => { results := [.lit (.bool true)], args := [d] }
  | _ => none }
def searchAllsRow : OpenClaim := { program := "ytjnpmmedmedokaagreatdoor", sum := "451529703727efacf6117a2aa11413217e144f494ed0b9eb6b6d89be28cf4d28", func := "unicodetext/unicodetextlaw49.SearchAlls", spec := "searchAlls", unfollowed := true, recurses := true, named := ["unicodetext/ordering.hangulRanges"], plainKeys := false, apart := false, laid := [("unicodetext/ordering.hangulRanges", laid_unicodetext_ordering_hangulRanges)] }
def SearchAllsSaid : Prop := searchAllsRow.holds Tryz.pinned (OpenSpec.ofChange searchAllsSpec)

/-- ITS FALSE NEIGHBOUR: 'it returns false'. Refute it at one input. -/
def searchAllsWrong : ChangeSpec := { name := "searchAlls", fn := fun _ => fun
  | [d] => { results := [.lit (.bool false)], args := [d] }
  | _ => none }
def SearchAllsWrongFalsely : Prop := searchAllsRow.holds Tryz.pinned (OpenSpec.ofChange searchAllsWrong)

/-- 'unicodetextlaw49.SearchFinds': WHATEVER THE INPUT: true; the input reads as it did. -/
def searchFindsSpec : ChangeSpec := { name := "searchFinds", fn := fun _ => fun
  | [d] => { results := [.lit (.bool true)], args := [d] }
  | _ => none }
def searchFindsRow : OpenClaim := { program := "ytjnpmmedmedokaagreatdoor", sum := "451529703727efacf6117a2aa11413217e144f494ed0b9eb6b6d89be28cf4d28", func := "unicodetext/unicodetextlaw49.SearchFinds", spec := "searchFinds", unfollowed := true, recurses := true, named := ["unicodetext/ordering.hangulRanges"], plainKeys := false, apart := false, laid := [("unicodetext/ordering.hangulRanges", laid_unicodetext_ordering_hangulRanges)] }
def SearchFindsSaid : Prop := searchFindsRow.holds Tryz.pinned (OpenSpec.ofChange searchFindsSpec)

/-- ITS FALSE NEIGHBOUR: 'it returns false'. Refute it at one input. -/
def searchFindsWrong : ChangeSpec := { name := "searchFinds", fn := fun _ => fun
  | [d] => { results := [.lit (.bool false)], args := [d] }
  | _ => none }
def SearchFindsWrongFalsely : Prop := searchFindsRow.holds Tryz.pinned (OpenSpec.ofChange searchFindsWrong)

/-- 'unicodetextlaw49.SearchReplaces': WHATEVER THE INPUT: true; the input reads as it did. -/
def searchReplacesSpec : ChangeSpec := { name := "searchReplaces", fn := fun _ => fun
  | [d1, d2] => { results := [.lit (.bool true)], args := [d1, d2] }
  | _ => none }
def searchReplacesRow : OpenClaim := { program := "ytjnpmmedmedokaagreatdoor", sum := "451529703727efacf6117a2aa11413217e144f494ed0b9eb6b6d89be28cf4d28", func := "unicodetext/unicodetextlaw49.SearchReplaces", spec := "searchReplaces", unfollowed := true, recurses := true, named := ["unicodetext/ordering.hangulRanges"], plainKeys := false, apart := false, laid := [("unicodetext/ordering.hangulRanges", laid_unicodetext_ordering_hangulRanges)] }
def SearchReplacesSaid : Prop := searchReplacesRow.holds Tryz.pinned (OpenSpec.ofChange searchReplacesSpec)

/-- ITS FALSE NEIGHBOUR: 'it returns false'. Refute it at one input. -/
def searchReplacesWrong : ChangeSpec := { name := "searchReplaces", fn := fun _ => fun
  | [d1, d2] => { results := [.lit (.bool false)], args := [d1, d2] }
  | _ => none }
def SearchReplacesWrongFalsely : Prop := searchReplacesRow.holds Tryz.pinned (OpenSpec.ofChange searchReplacesWrong)

/-- 'unicodetextlaw49.SearchShortest': WHATEVER THE INPUT: true; the input reads as it did. -/
def searchShortestSpec : ChangeSpec := { name := "searchShortest", fn := fun _ => fun
  | [d] => { results := [.lit (.bool true)], args := [d] }
  | _ => none }
def searchShortestRow : OpenClaim := { program := "ytjnpmmedmedokaagreatdoor", sum := "451529703727efacf6117a2aa11413217e144f494ed0b9eb6b6d89be28cf4d28", func := "unicodetext/unicodetextlaw49.SearchShortest", spec := "searchShortest", unfollowed := true, recurses := true, named := ["unicodetext/ordering.hangulRanges"], plainKeys := false, apart := false, laid := [("unicodetext/ordering.hangulRanges", laid_unicodetext_ordering_hangulRanges)] }
def SearchShortestSaid : Prop := searchShortestRow.holds Tryz.pinned (OpenSpec.ofChange searchShortestSpec)

/-- ITS FALSE NEIGHBOUR: 'it returns false'. Refute it at one input. -/
def searchShortestWrong : ChangeSpec := { name := "searchShortest", fn := fun _ => fun
  | [d] => { results := [.lit (.bool false)], args := [d] }
  | _ => none }
def SearchShortestWrongFalsely : Prop := searchShortestRow.holds Tryz.pinned (OpenSpec.ofChange searchShortestWrong)

/-- 'unicodetextlaw49.SearchEquivalent': WHATEVER THE INPUT: true; the input reads as it did. -/
def searchEquivalentSpec : ChangeSpec := { name := "searchEquivalent", fn := fun _ => fun
  | [d] => { results := [.lit (.bool true)], args := [d] }
  | _ => none }
def searchEquivalentRow : OpenClaim := { program := "ytjnpmmedmedokaagreatdoor", sum := "451529703727efacf6117a2aa11413217e144f494ed0b9eb6b6d89be28cf4d28", func := "unicodetext/unicodetextlaw49.SearchEquivalent", spec := "searchEquivalent", unfollowed := true, recurses := true, named := ["unicodetext/ordering.hangulRanges"], plainKeys := false, apart := false, laid := [("unicodetext/ordering.hangulRanges", laid_unicodetext_ordering_hangulRanges)] }
def SearchEquivalentSaid : Prop := searchEquivalentRow.holds Tryz.pinned (OpenSpec.ofChange searchEquivalentSpec)

/-- ITS FALSE NEIGHBOUR: 'it returns false'. Refute it at one input. -/
def searchEquivalentWrong : ChangeSpec := { name := "searchEquivalent", fn := fun _ => fun
  | [d] => { results := [.lit (.bool false)], args := [d] }
  | _ => none }
def SearchEquivalentWrongFalsely : Prop := searchEquivalentRow.holds Tryz.pinned (OpenSpec.ofChange searchEquivalentWrong)

/-- 'unicodetextlaw49.SearchSelf': WHATEVER THE INPUT: true; the input reads as it did. -/
def searchSelfSpec : ChangeSpec := { name := "searchSelf", fn := fun _ => fun
  | [d] => { results := [.lit (.bool true)], args := [d] }
  | _ => none }
def searchSelfRow : OpenClaim := { program := "ytjnpmmedmedokaagreatdoor", sum := "451529703727efacf6117a2aa11413217e144f494ed0b9eb6b6d89be28cf4d28", func := "unicodetext/unicodetextlaw49.SearchSelf", spec := "searchSelf", unfollowed := true, recurses := true, named := ["unicodetext/ordering.hangulRanges"], plainKeys := false, apart := false, laid := [("unicodetext/ordering.hangulRanges", laid_unicodetext_ordering_hangulRanges)] }
def SearchSelfSaid : Prop := searchSelfRow.holds Tryz.pinned (OpenSpec.ofChange searchSelfSpec)

/-- ITS FALSE NEIGHBOUR: 'it returns false'. Refute it at one input. -/
def searchSelfWrong : ChangeSpec := { name := "searchSelf", fn := fun _ => fun
  | [d] => { results := [.lit (.bool false)], args := [d] }
  | _ => none }
def SearchSelfWrongFalsely : Prop := searchSelfRow.holds Tryz.pinned (OpenSpec.ofChange searchSelfWrong)

/-- 'unicodetextlaw49.SearchDisjoint': WHATEVER THE INPUT: true; the input reads as it did. -/
def searchDisjointSpec : ChangeSpec := { name := "searchDisjoint", fn := fun _ => fun
  | [d] => { results := [.lit (.bool true)], args := [d] }
  | _ => none }
def searchDisjointRow : OpenClaim := { program := "ytjnpmmedmedokaagreatdoor", sum := "451529703727efacf6117a2aa11413217e144f494ed0b9eb6b6d89be28cf4d28", func := "unicodetext/unicodetextlaw49.SearchDisjoint", spec := "searchDisjoint", unfollowed := true, recurses := true, named := ["unicodetext/ordering.hangulRanges"], plainKeys := false, apart := false, laid := [("unicodetext/ordering.hangulRanges", laid_unicodetext_ordering_hangulRanges)] }
def SearchDisjointSaid : Prop := searchDisjointRow.holds Tryz.pinned (OpenSpec.ofChange searchDisjointSpec)

/-- ITS FALSE NEIGHBOUR: 'it returns false'. Refute it at one input. -/
def searchDisjointWrong : ChangeSpec := { name := "searchDisjoint", fn := fun _ => fun
  | [d] => { results := [.lit (.bool false)], args := [d] }
  | _ => none }
def SearchDisjointWrongFalsely : Prop := searchDisjointRow.holds Tryz.pinned (OpenSpec.ofChange searchDisjointWrong)

/- THE SECOND FORM. 'bulk': how many values and letters a reading holds, each counted each time it is reached (what is shared counts as often as it is met; a slice's spare places count too). A statement '..UptoSaid' is the law's where the arguments, and the package variables that the reading takes, are together of bulk at most 1048576: NARROWER than '..Said'. Prove '..Said' where nothing that the law and all that it calls make is longer than what came in: it says more and counts as full. Else prove '..UptoSaid'. A law counts once. -/
mutual
def uptoBulk {H : Type} : DataW H → Nat
  | .lit (.string bytes) => bytes.length + 1
  | .lit _ => 1
  | .nil => 1
  | .ptr d => uptoBulk d + 1
  | .slice elems spare => uptoBulkAll elems + uptoBulkAll spare + 1
  | .agg parts => uptoBulkAll parts + 1
  | .iface _ d => uptoBulk d + 1
  | .map entries => uptoBulkEntries entries + 1
  | .held _ => 1
def uptoBulkAll {H : Type} : List (DataW H) → Nat
  | [] => 0
  | d :: r => uptoBulk d + uptoBulkAll r
def uptoBulkEntries {H : Type} : List (Lit × DataW H) → Nat
  | [] => 0
  | x :: r => uptoBulkEntry x + uptoBulkEntries r
def uptoBulkEntry {H : Type} : Lit × DataW H → Nat
  | (.string bytes, d) => bytes.length + uptoBulk d + 1
  | (_, d) => uptoBulk d + 1
 end
def uptoSmall : (H : Type) → List (DataW H) → Bool := fun _ ds => decide (uptoBulkAll ds ≤ 1048576)
def OpenSpec.upto (s : _root_.Go.ChangeSpec) : _root_.Go.OpenSpec := { _root_.Go.OpenSpec.ofChange s with cond := some uptoSmall }

/-- 'unicodetexttop.TopMatches', WHERE WHAT IT READS IS OF BULK AT MOST 1048576: true; the input reads as it did. -/
def topMatchesUptoRow : OpenClaim := { program := "ytjnpmmedmedokaagreatdoor", sum := "451529703727efacf6117a2aa11413217e144f494ed0b9eb6b6d89be28cf4d28", func := "unicodetext/unicodetexttop.TopMatches", spec := "topMatches", unfollowed := true, recurses := true, named := ["unicodetext/ordering.hangulRanges"], plainKeys := false, apart := false, laid := [("unicodetext/ordering.hangulRanges", laid_unicodetext_ordering_hangulRanges)], narrowed := true }
def TopMatchesUptoSaid : Prop := topMatchesUptoRow.holds Tryz.pinned (OpenSpec.upto topMatchesSpec)

/-- 'unicodetextlaw49.SearchMatches', WHERE WHAT IT READS IS OF BULK AT MOST 1048576: true; the input reads as it did. -/
def searchMatchesUptoRow : OpenClaim := { program := "ytjnpmmedmedokaagreatdoor", sum := "451529703727efacf6117a2aa11413217e144f494ed0b9eb6b6d89be28cf4d28", func := "unicodetext/unicodetextlaw49.SearchMatches", spec := "searchMatches", unfollowed := true, recurses := true, named := ["unicodetext/ordering.hangulRanges"], plainKeys := false, apart := false, laid := [("unicodetext/ordering.hangulRanges", laid_unicodetext_ordering_hangulRanges)], narrowed := true }
def SearchMatchesUptoSaid : Prop := searchMatchesUptoRow.holds Tryz.pinned (OpenSpec.upto searchMatchesSpec)

/-- 'unicodetextlaw49.SearchAlls', WHERE WHAT IT READS IS OF BULK AT MOST 1048576: true; the input reads as it did. -/
def searchAllsUptoRow : OpenClaim := { program := "ytjnpmmedmedokaagreatdoor", sum := "451529703727efacf6117a2aa11413217e144f494ed0b9eb6b6d89be28cf4d28", func := "unicodetext/unicodetextlaw49.SearchAlls", spec := "searchAlls", unfollowed := true, recurses := true, named := ["unicodetext/ordering.hangulRanges"], plainKeys := false, apart := false, laid := [("unicodetext/ordering.hangulRanges", laid_unicodetext_ordering_hangulRanges)], narrowed := true }
def SearchAllsUptoSaid : Prop := searchAllsUptoRow.holds Tryz.pinned (OpenSpec.upto searchAllsSpec)

/-- 'unicodetextlaw49.SearchFinds', WHERE WHAT IT READS IS OF BULK AT MOST 1048576: true; the input reads as it did. -/
def searchFindsUptoRow : OpenClaim := { program := "ytjnpmmedmedokaagreatdoor", sum := "451529703727efacf6117a2aa11413217e144f494ed0b9eb6b6d89be28cf4d28", func := "unicodetext/unicodetextlaw49.SearchFinds", spec := "searchFinds", unfollowed := true, recurses := true, named := ["unicodetext/ordering.hangulRanges"], plainKeys := false, apart := false, laid := [("unicodetext/ordering.hangulRanges", laid_unicodetext_ordering_hangulRanges)], narrowed := true }
def SearchFindsUptoSaid : Prop := searchFindsUptoRow.holds Tryz.pinned (OpenSpec.upto searchFindsSpec)

/-- 'unicodetextlaw49.SearchReplaces', WHERE WHAT IT READS IS OF BULK AT MOST 1048576: true; the input reads as it did. -/
def searchReplacesUptoRow : OpenClaim := { program := "ytjnpmmedmedokaagreatdoor", sum := "451529703727efacf6117a2aa11413217e144f494ed0b9eb6b6d89be28cf4d28", func := "unicodetext/unicodetextlaw49.SearchReplaces", spec := "searchReplaces", unfollowed := true, recurses := true, named := ["unicodetext/ordering.hangulRanges"], plainKeys := false, apart := false, laid := [("unicodetext/ordering.hangulRanges", laid_unicodetext_ordering_hangulRanges)], narrowed := true }
def SearchReplacesUptoSaid : Prop := searchReplacesUptoRow.holds Tryz.pinned (OpenSpec.upto searchReplacesSpec)

/-- 'unicodetextlaw49.SearchShortest', WHERE WHAT IT READS IS OF BULK AT MOST 1048576: true; the input reads as it did. -/
def searchShortestUptoRow : OpenClaim := { program := "ytjnpmmedmedokaagreatdoor", sum := "451529703727efacf6117a2aa11413217e144f494ed0b9eb6b6d89be28cf4d28", func := "unicodetext/unicodetextlaw49.SearchShortest", spec := "searchShortest", unfollowed := true, recurses := true, named := ["unicodetext/ordering.hangulRanges"], plainKeys := false, apart := false, laid := [("unicodetext/ordering.hangulRanges", laid_unicodetext_ordering_hangulRanges)], narrowed := true }
def SearchShortestUptoSaid : Prop := searchShortestUptoRow.holds Tryz.pinned (OpenSpec.upto searchShortestSpec)

/-- 'unicodetextlaw49.SearchEquivalent', WHERE WHAT IT READS IS OF BULK AT MOST 1048576: true; the input reads as it did. -/
def searchEquivalentUptoRow : OpenClaim := { program := "ytjnpmmedmedokaagreatdoor", sum := "451529703727efacf6117a2aa11413217e144f494ed0b9eb6b6d89be28cf4d28", func := "unicodetext/unicodetextlaw49.SearchEquivalent", spec := "searchEquivalent", unfollowed := true, recurses := true, named := ["unicodetext/ordering.hangulRanges"], plainKeys := false, apart := false, laid := [("unicodetext/ordering.hangulRanges", laid_unicodetext_ordering_hangulRanges)], narrowed := true }
def SearchEquivalentUptoSaid : Prop := searchEquivalentUptoRow.holds Tryz.pinned (OpenSpec.upto searchEquivalentSpec)

/-- 'unicodetextlaw49.SearchSelf', WHERE WHAT IT READS IS OF BULK AT MOST 1048576: true; the input reads as it did. -/
def searchSelfUptoRow : OpenClaim := { program := "ytjnpmmedmedokaagreatdoor", sum := "451529703727efacf6117a2aa11413217e144f494ed0b9eb6b6d89be28cf4d28", func := "unicodetext/unicodetextlaw49.SearchSelf", spec := "searchSelf", unfollowed := true, recurses := true, named := ["unicodetext/ordering.hangulRanges"], plainKeys := false, apart := false, laid := [("unicodetext/ordering.hangulRanges", laid_unicodetext_ordering_hangulRanges)], narrowed := true }
def SearchSelfUptoSaid : Prop := searchSelfUptoRow.holds Tryz.pinned (OpenSpec.upto searchSelfSpec)

/-- 'unicodetextlaw49.SearchDisjoint', WHERE WHAT IT READS IS OF BULK AT MOST 1048576: true; the input reads as it did. -/
def searchDisjointUptoRow : OpenClaim := { program := "ytjnpmmedmedokaagreatdoor", sum := "451529703727efacf6117a2aa11413217e144f494ed0b9eb6b6d89be28cf4d28", func := "unicodetext/unicodetextlaw49.SearchDisjoint", spec := "searchDisjoint", unfollowed := true, recurses := true, named := ["unicodetext/ordering.hangulRanges"], plainKeys := false, apart := false, laid := [("unicodetext/ordering.hangulRanges", laid_unicodetext_ordering_hangulRanges)], narrowed := true }
def SearchDisjointUptoSaid : Prop := searchDisjointUptoRow.holds Tryz.pinned (OpenSpec.upto searchDisjointSpec)

end Rows
end Go.Proofs.YtjnpmmedmedokaaGreatDoor

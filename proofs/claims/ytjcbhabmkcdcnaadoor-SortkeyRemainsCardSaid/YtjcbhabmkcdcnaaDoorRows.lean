/-
  NARROWER THAN 'FOR EVERY INPUT', by the rows' own cells (each row's printed sentence says how): SortkeyWeights: laid · SortkeyBytes: laid · SortkeyTreats: laid · SortkeyLevels: laid · SortkeyRemains: laid.
  DERIVED. THE GIVEN ROWS OF THIS SEAT. 5 by the template 'for every input the law returns true; each argument reads behind the call as it read before'; 0 by the template 'total and deterministic' (their statements: YtjcbhabmkcdcnaaDoorTotals.lean).
  GIVEN WITH THE SEED: the statements are not yours to turn. If you find one false, say at which input.
  Laid BY PROGRAM, IN A SANDBOX (cutbox-rows.mjs): the forced cells as the released guide's own fill.sh prints them over the translation e04d801166a93dcb… (all of the seat's roots in one cut). By AI agents, Wed Nov 11 2026. No macro, syntax, notation, axiom, sorry.
-/
import Derived.Test.YtjcbhabmkcdcnaaDoorChecked
import GoSem.Claim
import GoSem.ClaimJoined
import GoSem.ClaimMapViews
import Derived.JoinedTies
import Derived.KernelRfl
namespace Go.Proofs.YtjcbhabmkcdcnaaDoor
/- THE CELL 'sum', in the pinned program and in every row, IS THE sha256 OF THE DUMP (.gsa) THAT YtjcbhabmkcdcnaaDoorProg.lean LOADS. Nothing in Lean hashes anything: it is a label: what it is worth is what the hold of that sum in a sandbox is worth. -/
noncomputable def Tryd.pinned : Pinned := { name := "ytjcbhabmkcdcnaadoor", sum := "e04d801166a93dcbf29897254c8a3a21b2dc23cf461747a680733e05cac19b84", checked := Tryd.checked }
namespace Rows
def none {H : Type} : Left H := { results := [], args := [] }

/- WHAT THE LISTED PACKAGE-LEVEL VARIABLES READ AS WHEN THE CALL BEGINS. Each datum BY PROGRAM (the guide's laid-datum.mjs) off the statement by which the dump's own 'gosem.cut.vars' lays the variable. In a bare row this is a premise. The card (YtjcbhabmkcdcnaaDoorCards.lean) ties it to the program's text. -/
def laid_unicodetext_ordering_hangulRanges {H : Type} : DataW H := .agg [.agg [.lit (.int .i64 4352), .lit (.int .i64 4370)], .agg [.lit (.int .i64 4449), .lit (.int .i64 4469)], .agg [.lit (.int .i64 4520), .lit (.int .i64 4546)], .agg [.lit (.int .i64 44032), .lit (.int .i64 55203)]]

/-- 'unicodetextlaw44.SortkeyWeights': WHATEVER THE INPUT: true; the input reads as it did. -/
def sortkeyWeightsSpec : ChangeSpec := { name := "sortkeyWeights", fn := fun _ => fun
  | [d1, d2] => { results := [.lit (.bool true)], args := [d1, d2] }
  | _ => none }
def sortkeyWeightsRow : OpenClaim := { program := "ytjcbhabmkcdcnaadoor", sum := "e04d801166a93dcbf29897254c8a3a21b2dc23cf461747a680733e05cac19b84", func := "unicodetext/unicodetextlaw44.SortkeyWeights", spec := "sortkeyWeights", unfollowed := true, recurses := true, named := ["unicodetext/ordering.hangulRanges"], plainKeys := false, apart := false, laid := [("unicodetext/ordering.hangulRanges", laid_unicodetext_ordering_hangulRanges)] }
def SortkeyWeightsSaid : Prop := sortkeyWeightsRow.holds Tryd.pinned (OpenSpec.ofChange sortkeyWeightsSpec)

/-- ITS FALSE NEIGHBOUR: 'it returns false'. Refute it at one input. -/
def sortkeyWeightsWrong : ChangeSpec := { name := "sortkeyWeights", fn := fun _ => fun
  | [d1, d2] => { results := [.lit (.bool false)], args := [d1, d2] }
  | _ => none }
def SortkeyWeightsWrongFalsely : Prop := sortkeyWeightsRow.holds Tryd.pinned (OpenSpec.ofChange sortkeyWeightsWrong)

/-- 'unicodetextlaw44.SortkeyBytes': WHATEVER THE INPUT: true; the input reads as it did. -/
def sortkeyBytesSpec : ChangeSpec := { name := "sortkeyBytes", fn := fun _ => fun
  | [d1, d2] => { results := [.lit (.bool true)], args := [d1, d2] }
  | _ => none }
def sortkeyBytesRow : OpenClaim := { program := "ytjcbhabmkcdcnaadoor", sum := "e04d801166a93dcbf29897254c8a3a21b2dc23cf461747a680733e05cac19b84", func := "unicodetext/unicodetextlaw44.SortkeyBytes", spec := "sortkeyBytes", unfollowed := true, recurses := true, named := ["unicodetext/ordering.hangulRanges"], plainKeys := false, apart := false, laid := [("unicodetext/ordering.hangulRanges", laid_unicodetext_ordering_hangulRanges)] }
def SortkeyBytesSaid : Prop := sortkeyBytesRow.holds Tryd.pinned (OpenSpec.ofChange sortkeyBytesSpec)

/-- ITS FALSE NEIGHBOUR: 'it returns false'. Refute it at one input. -/
def sortkeyBytesWrong : ChangeSpec := { name := "sortkeyBytes", fn := fun _ => fun
  | [d1, d2] => { results := [.lit (.bool false)], args := [d1, d2] }
  | _ => none }
def SortkeyBytesWrongFalsely : Prop := sortkeyBytesRow.holds Tryd.pinned (OpenSpec.ofChange sortkeyBytesWrong)

/-- 'unicodetextlaw44.SortkeyTreats': WHATEVER THE INPUT: true; the input reads as it did. -/
def sortkeyTreatsSpec : ChangeSpec := { name := "sortkeyTreats", fn := fun _ => fun
  | [d1, d2] => { results := [.lit (.bool true)], args := [d1, d2] }
  | _ => none }
def sortkeyTreatsRow : OpenClaim := { program := "ytjcbhabmkcdcnaadoor", sum := "e04d801166a93dcbf29897254c8a3a21b2dc23cf461747a680733e05cac19b84", func := "unicodetext/unicodetextlaw44.SortkeyTreats", spec := "sortkeyTreats", unfollowed := true, recurses := true, named := ["unicodetext/ordering.hangulRanges"], plainKeys := false, apart := false, laid := [("unicodetext/ordering.hangulRanges", laid_unicodetext_ordering_hangulRanges)] }
def SortkeyTreatsSaid : Prop := sortkeyTreatsRow.holds Tryd.pinned (OpenSpec.ofChange sortkeyTreatsSpec)

/-- ITS FALSE NEIGHBOUR: 'it returns false'. Refute it at one input. -/
def sortkeyTreatsWrong : ChangeSpec := { name := "sortkeyTreats", fn := fun _ => fun
  | [d1, d2] => { results := [.lit (.bool false)], args := [d1, d2] }
  | _ => none }
def SortkeyTreatsWrongFalsely : Prop := sortkeyTreatsRow.holds Tryd.pinned (OpenSpec.ofChange sortkeyTreatsWrong)

/-- 'unicodetextlaw44.SortkeyLevels': WHATEVER THE INPUT: true; the input reads as it did. -/
def sortkeyLevelsSpec : ChangeSpec := { name := "sortkeyLevels", fn := fun _ => fun
  | [d1, d2, d3] => { results := [.lit (.bool true)], args := [d1, d2, d3] }
  | _ => none }
def sortkeyLevelsRow : OpenClaim := { program := "ytjcbhabmkcdcnaadoor", sum := "e04d801166a93dcbf29897254c8a3a21b2dc23cf461747a680733e05cac19b84", func := "unicodetext/unicodetextlaw44.SortkeyLevels", spec := "sortkeyLevels", unfollowed := true, recurses := true, named := ["unicodetext/ordering.hangulRanges"], plainKeys := false, apart := false, laid := [("unicodetext/ordering.hangulRanges", laid_unicodetext_ordering_hangulRanges)] }
def SortkeyLevelsSaid : Prop := sortkeyLevelsRow.holds Tryd.pinned (OpenSpec.ofChange sortkeyLevelsSpec)

/-- ITS FALSE NEIGHBOUR: 'it returns false'. Refute it at one input. -/
def sortkeyLevelsWrong : ChangeSpec := { name := "sortkeyLevels", fn := fun _ => fun
  | [d1, d2, d3] => { results := [.lit (.bool false)], args := [d1, d2, d3] }
  | _ => none }
def SortkeyLevelsWrongFalsely : Prop := sortkeyLevelsRow.holds Tryd.pinned (OpenSpec.ofChange sortkeyLevelsWrong)

/-- 'unicodetextlaw44.SortkeyRemains': WHATEVER THE INPUT: true; the input reads as it did. -/
def sortkeyRemainsSpec : ChangeSpec := { name := "sortkeyRemains", fn := fun _ => fun
  | [d1, d2] => { results := [.lit (.bool true)], args := [d1, d2] }
  | _ => none }
def sortkeyRemainsRow : OpenClaim := { program := "ytjcbhabmkcdcnaadoor", sum := "e04d801166a93dcbf29897254c8a3a21b2dc23cf461747a680733e05cac19b84", func := "unicodetext/unicodetextlaw44.SortkeyRemains", spec := "sortkeyRemains", unfollowed := true, recurses := true, named := ["unicodetext/ordering.hangulRanges"], plainKeys := false, apart := false, laid := [("unicodetext/ordering.hangulRanges", laid_unicodetext_ordering_hangulRanges)] }
def SortkeyRemainsSaid : Prop := sortkeyRemainsRow.holds Tryd.pinned (OpenSpec.ofChange sortkeyRemainsSpec)

/-- ITS FALSE NEIGHBOUR: 'it returns false'. Refute it at one input. -/
def sortkeyRemainsWrong : ChangeSpec := { name := "sortkeyRemains", fn := fun _ => fun
  | [d1, d2] => { results := [.lit (.bool false)], args := [d1, d2] }
  | _ => none }
def SortkeyRemainsWrongFalsely : Prop := sortkeyRemainsRow.holds Tryd.pinned (OpenSpec.ofChange sortkeyRemainsWrong)

/- THE SECOND FORM. 'bulk': how many values and letters a reading holds, each counted each time it is reached (what is shared counts as often as it is met; a slice's spare places count too). A statement '..UptoSaid' is the law's where the arguments, and the package variables that the reading takes, are together of bulk at most 1048576: NARROWER than '..Said'. Prove '..Said' where nothing that the law and all that it calls make is longer than what came in: it says more and counts as full. Else prove '..UptoSaid'. A law counts once. -/
mutual
def uptoBulk {H : Type} : DataW H → Nat
  | .lit (.string bytes) => bytes.length + 1
  | .lit _ => 1
  | .nil => 1
  | .ptr d => uptoBulk d + 1
  | .slice elems spare => uptoBulkAll elems + uptoBulkAll spare + 1
  | .agg parts => uptoBulkAll parts + 1
  | .iface _ d => uptoBulk d + 1
  | .map entries => uptoBulkEntries entries + 1
  | .held _ => 1
def uptoBulkAll {H : Type} : List (DataW H) → Nat
  | [] => 0
  | d :: r => uptoBulk d + uptoBulkAll r
def uptoBulkEntries {H : Type} : List (Lit × DataW H) → Nat
  | [] => 0
  | x :: r => uptoBulkEntry x + uptoBulkEntries r
def uptoBulkEntry {H : Type} : Lit × DataW H → Nat
  | (.string bytes, d) => bytes.length + uptoBulk d + 1
  | (_, d) => uptoBulk d + 1
 end
def uptoSmall : (H : Type) → List (DataW H) → Bool := fun _ ds => decide (uptoBulkAll ds ≤ 1048576)
def OpenSpec.upto (s : _root_.Go.ChangeSpec) : _root_.Go.OpenSpec := { _root_.Go.OpenSpec.ofChange s with cond := some uptoSmall }

/-- 'unicodetextlaw44.SortkeyWeights', WHERE WHAT IT READS IS OF BULK AT MOST 1048576: true; the input reads as it did. -/
def sortkeyWeightsUptoRow : OpenClaim := { program := "ytjcbhabmkcdcnaadoor", sum := "e04d801166a93dcbf29897254c8a3a21b2dc23cf461747a680733e05cac19b84", func := "unicodetext/unicodetextlaw44.SortkeyWeights", spec := "sortkeyWeights", unfollowed := true, recurses := true, named := ["unicodetext/ordering.hangulRanges"], plainKeys := false, apart := false, laid := [("unicodetext/ordering.hangulRanges", laid_unicodetext_ordering_hangulRanges)], narrowed := true }
def SortkeyWeightsUptoSaid : Prop := sortkeyWeightsUptoRow.holds Tryd.pinned (OpenSpec.upto sortkeyWeightsSpec)

/-- 'unicodetextlaw44.SortkeyBytes', WHERE WHAT IT READS IS OF BULK AT MOST 1048576: true; the input reads as it did. -/
def sortkeyBytesUptoRow : OpenClaim := { program := "ytjcbhabmkcdcnaadoor", sum := "e04d801166a93dcbf29897254c8a3a21b2dc23cf461747a680733e05cac19b84", func := "unicodetext/unicodetextlaw44.SortkeyBytes", spec := "sortkeyBytes", unfollowed := true, recurses := true, named := ["unicodetext/ordering.hangulRanges"], plainKeys := false, apart := false, laid := [("unicodetext/ordering.hangulRanges", laid_unicodetext_ordering_hangulRanges)], narrowed := true }
def SortkeyBytesUptoSaid : Prop := sortkeyBytesUptoRow.holds Tryd.pinned (OpenSpec.upto sortkeyBytesSpec)

/-- 'unicodetextlaw44.SortkeyTreats', WHERE WHAT IT READS IS OF BULK AT MOST 1048576: true; the input reads as it did. -/
def sortkeyTreatsUptoRow : OpenClaim := { program := "ytjcbhabmkcdcnaadoor", sum := "e04d801166a93dcbf29897254c8a3a21b2dc23cf461747a680733e05cac19b84", func := "unicodetext/unicodetextlaw44.SortkeyTreats", spec := "sortkeyTreats", unfollowed := true, recurses := true, named := ["unicodetext/ordering.hangulRanges"], plainKeys := false, apart := false, laid := [("unicodetext/ordering.hangulRanges", laid_unicodetext_ordering_hangulRanges)], narrowed := true }
def SortkeyTreatsUptoSaid : Prop := sortkeyTreatsUptoRow.holds Tryd.pinned (OpenSpec.upto sortkeyTreatsSpec)

/-- 'unicodetextlaw44.SortkeyLevels', WHERE WHAT IT READS IS OF BULK AT MOST 1048576: true; the input reads as it did. -/
def sortkeyLevelsUptoRow : OpenClaim := { program := "ytjcbhabmkcdcnaadoor", sum := "e04d801166a93dcbf29897254c8a3a21b2dc23cf461747a680733e05cac19b84", func := "unicodetext/unicodetextlaw44.SortkeyLevels", spec := "sortkeyLevels", unfollowed := true, recurses := true, named := ["unicodetext/ordering.hangulRanges"], plainKeys := false, apart := false, laid := [("unicodetext/ordering.hangulRanges", laid_unicodetext_ordering_hangulRanges)], narrowed := true }
def SortkeyLevelsUptoSaid : Prop := sortkeyLevelsUptoRow.holds Tryd.pinned (OpenSpec.upto sortkeyLevelsSpec)

/-- 'unicodetextlaw44.SortkeyRemains', WHERE WHAT IT READS IS OF BULK AT MOST 1048576: true; the input reads as it did. -/
def sortkeyRemainsUptoRow : OpenClaim := { program := "ytjcbhabmkcdcnaadoor", sum := "e04d801166a93dcbf29897254c8a3a21b2dc23cf461747a680733e05cac19b84", func := "unicodetext/unicodetextlaw44.SortkeyRemains", spec := "sortkeyRemains", unfollowed := true, recurses := true, named := ["unicodetext/ordering.hangulRanges"], plainKeys := false, apart := false, laid := [("unicodetext/ordering.hangulRanges", laid_unicodetext_ordering_hangulRanges)], narrowed := true }
def SortkeyRemainsUptoSaid : Prop := sortkeyRemainsUptoRow.holds Tryd.pinned (OpenSpec.upto sortkeyRemainsSpec)

end Rows
end Go.Proofs.YtjcbhabmkcdcnaaDoor

/-
  NARROWER THAN 'FOR EVERY INPUT', by the rows' own cells (each row's printed sentence says how): ColltableChecks: laid · ColltableFinds: laid · ColltableLongest: laid · ColltableWalks: laid · ColltableSame: laid.
  DERIVED. THE GIVEN ROWS OF THIS SEAT. 5 by the template 'for every input the law returns true; each argument reads behind the call as it read before'; 0 by the template 'total and deterministic' (their statements: YtgeaoceiacdadaaDoorTotals.lean).
  GIVEN WITH THE SEED: the statements are not yours to turn. If you find one false, say at which input.
  Laid BY PROGRAM, IN A SANDBOX (cutbox-rows.mjs): the forced cells as the released guide's own fill.sh prints them over the translation de4a100f3eee0308… (all of the seat's roots in one cut). By AI agents, Wed Nov 11 2026. No macro, syntax, notation, axiom, sorry.
-/
import Derived.Test.YtgeaoceiacdadaaDoorChecked
import GoSem.Claim
import GoSem.ClaimJoined
import GoSem.ClaimMapViews
import Derived.JoinedTies
import Derived.KernelRfl
namespace Go.Proofs.YtgeaoceiacdadaaDoor
/- THE CELL 'sum', in the pinned program and in every row, IS THE sha256 OF THE DUMP (.gsa) THAT YtgeaoceiacdadaaDoorProg.lean LOADS. Nothing in Lean hashes anything: it is a label: what it is worth is what the hold of that sum in a sandbox is worth. -/
noncomputable def Tryd.pinned : Pinned := { name := "ytgeaoceiacdadaadoor", sum := "de4a100f3eee03081dbbe80c642a07c9cca8e3385b0aa7ee744ad9cd6eef78b3", checked := Tryd.checked }
namespace Rows
def none {H : Type} : Left H := { results := [], args := [] }

/- WHAT THE LISTED PACKAGE-LEVEL VARIABLES READ AS WHEN THE CALL BEGINS. Each datum BY PROGRAM (the guide's laid-datum.mjs) off the statement by which the dump's own 'gosem.cut.vars' lays the variable. In a bare row this is a premise. The card (YtgeaoceiacdadaaDoorCards.lean) ties it to the program's text. -/
def laid_unicodetext_ordering_hangulRanges {H : Type} : DataW H := .agg [.agg [.lit (.int .i64 4352), .lit (.int .i64 4370)], .agg [.lit (.int .i64 4449), .lit (.int .i64 4469)], .agg [.lit (.int .i64 4520), .lit (.int .i64 4546)], .agg [.lit (.int .i64 44032), .lit (.int .i64 55203)]]

/-- 'unicodetextlaw43.ColltableChecks': WHATEVER THE INPUT: true; the input reads as it did. -/
def colltableChecksSpec : ChangeSpec := { name := "colltableChecks", fn := fun _ => fun
  | [d] => { results := [.lit (.bool true)], args := [d] }
  | _ => none }
def colltableChecksRow : OpenClaim := { program := "ytgeaoceiacdadaadoor", sum := "de4a100f3eee03081dbbe80c642a07c9cca8e3385b0aa7ee744ad9cd6eef78b3", func := "unicodetext/unicodetextlaw43.ColltableChecks", spec := "colltableChecks", unfollowed := true, recurses := true, named := ["unicodetext/ordering.hangulRanges"], plainKeys := false, apart := false, laid := [("unicodetext/ordering.hangulRanges", laid_unicodetext_ordering_hangulRanges)] }
def ColltableChecksSaid : Prop := colltableChecksRow.holds Tryd.pinned (OpenSpec.ofChange colltableChecksSpec)

/-- ITS FALSE NEIGHBOUR: 'it returns false'. Refute it at one input. -/
def colltableChecksWrong : ChangeSpec := { name := "colltableChecks", fn := fun _ => fun
  | [d] => { results := [.lit (.bool false)], args := [d] }
  | _ => none }
def ColltableChecksWrongFalsely : Prop := colltableChecksRow.holds Tryd.pinned (OpenSpec.ofChange colltableChecksWrong)

/-- 'unicodetextlaw43.ColltableFinds': WHATEVER THE INPUT: true; the input reads as it did. -/
def colltableFindsSpec : ChangeSpec := { name := "colltableFinds", fn := fun _ => fun
  | [d1, d2, d3] => { results := [.lit (.bool true)], args := [d1, d2, d3] }
  | _ => none }
def colltableFindsRow : OpenClaim := { program := "ytgeaoceiacdadaadoor", sum := "de4a100f3eee03081dbbe80c642a07c9cca8e3385b0aa7ee744ad9cd6eef78b3", func := "unicodetext/unicodetextlaw43.ColltableFinds", spec := "colltableFinds", unfollowed := true, recurses := true, named := ["unicodetext/ordering.hangulRanges"], plainKeys := false, apart := false, laid := [("unicodetext/ordering.hangulRanges", laid_unicodetext_ordering_hangulRanges)] }
def ColltableFindsSaid : Prop := colltableFindsRow.holds Tryd.pinned (OpenSpec.ofChange colltableFindsSpec)

/-- ITS FALSE NEIGHBOUR: 'it returns false'. Refute it at one input. -/
def colltableFindsWrong : ChangeSpec := { name := "colltableFinds", fn := fun _ => fun
  | [d1, d2, d3] => { results := [.lit (.bool false)], args := [d1, d2, d3] }
  | _ => none }
def ColltableFindsWrongFalsely : Prop := colltableFindsRow.holds Tryd.pinned (OpenSpec.ofChange colltableFindsWrong)

/-- 'unicodetextlaw43.ColltableLongest': WHATEVER THE INPUT: true; the input reads as it did. -/
def colltableLongestSpec : ChangeSpec := { name := "colltableLongest", fn := fun _ => fun
  | [d] => { results := [.lit (.bool true)], args := [d] }
  | _ => none }
def colltableLongestRow : OpenClaim := { program := "ytgeaoceiacdadaadoor", sum := "de4a100f3eee03081dbbe80c642a07c9cca8e3385b0aa7ee744ad9cd6eef78b3", func := "unicodetext/unicodetextlaw43.ColltableLongest", spec := "colltableLongest", unfollowed := true, recurses := true, named := ["unicodetext/ordering.hangulRanges"], plainKeys := false, apart := false, laid := [("unicodetext/ordering.hangulRanges", laid_unicodetext_ordering_hangulRanges)] }
def ColltableLongestSaid : Prop := colltableLongestRow.holds Tryd.pinned (OpenSpec.ofChange colltableLongestSpec)

/-- ITS FALSE NEIGHBOUR: 'it returns false'. Refute it at one input. -/
def colltableLongestWrong : ChangeSpec := { name := "colltableLongest", fn := fun _ => fun
  | [d] => { results := [.lit (.bool false)], args := [d] }
  | _ => none }
def ColltableLongestWrongFalsely : Prop := colltableLongestRow.holds Tryd.pinned (OpenSpec.ofChange colltableLongestWrong)

/-- 'unicodetextlaw43.ColltableWalks': WHATEVER THE INPUT: true; the input reads as it did. -/
def colltableWalksSpec : ChangeSpec := { name := "colltableWalks", fn := fun _ => fun
  | [d] => { results := [.lit (.bool true)], args := [d] }
  | _ => none }
def colltableWalksRow : OpenClaim := { program := "ytgeaoceiacdadaadoor", sum := "de4a100f3eee03081dbbe80c642a07c9cca8e3385b0aa7ee744ad9cd6eef78b3", func := "unicodetext/unicodetextlaw43.ColltableWalks", spec := "colltableWalks", unfollowed := true, recurses := true, named := ["unicodetext/ordering.hangulRanges"], plainKeys := false, apart := false, laid := [("unicodetext/ordering.hangulRanges", laid_unicodetext_ordering_hangulRanges)] }
def ColltableWalksSaid : Prop := colltableWalksRow.holds Tryd.pinned (OpenSpec.ofChange colltableWalksSpec)

/-- ITS FALSE NEIGHBOUR: 'it returns false'. Refute it at one input. -/
def colltableWalksWrong : ChangeSpec := { name := "colltableWalks", fn := fun _ => fun
  | [d] => { results := [.lit (.bool false)], args := [d] }
  | _ => none }
def ColltableWalksWrongFalsely : Prop := colltableWalksRow.holds Tryd.pinned (OpenSpec.ofChange colltableWalksWrong)

/-- 'unicodetextlaw43.ColltableSame': WHATEVER THE INPUT: true; the input reads as it did. -/
def colltableSameSpec : ChangeSpec := { name := "colltableSame", fn := fun _ => fun
  | [d1, d2] => { results := [.lit (.bool true)], args := [d1, d2] }
  | _ => none }
def colltableSameRow : OpenClaim := { program := "ytgeaoceiacdadaadoor", sum := "de4a100f3eee03081dbbe80c642a07c9cca8e3385b0aa7ee744ad9cd6eef78b3", func := "unicodetext/unicodetextlaw43.ColltableSame", spec := "colltableSame", unfollowed := true, recurses := true, named := ["unicodetext/ordering.hangulRanges"], plainKeys := false, apart := false, laid := [("unicodetext/ordering.hangulRanges", laid_unicodetext_ordering_hangulRanges)] }
def ColltableSameSaid : Prop := colltableSameRow.holds Tryd.pinned (OpenSpec.ofChange colltableSameSpec)

/-- ITS FALSE NEIGHBOUR: 'it returns false'. Refute it at one input. -/
def colltableSameWrong : ChangeSpec := { name := "colltableSame", fn := fun _ => fun
  | [d1, d2] => { results := [.lit (.bool false)], args := [d1, d2] }
  | _ => none }
def ColltableSameWrongFalsely : Prop := colltableSameRow.holds Tryd.pinned (OpenSpec.ofChange colltableSameWrong)

/- THE SECOND FORM. 'bulk': how many values and letters a reading holds, each counted each time it is reached (what is shared counts as often as it is met; a slice's spare places count too). A statement '..UptoSaid' is the law's where the arguments, and the package variables that the reading takes, are together of bulk at most 1048576: NARROWER than '..Said'. Prove '..Said' where nothing that the law and all that it calls make is longer than what came in: it says more and counts as full. Else prove '..UptoSaid'. A law counts once. -/
mutual
def uptoBulk {H : Type} : DataW H → Nat
  | .lit (.string bytes) => bytes.length + 1
  | .lit _ => 1
  | .nil => 1
  | .ptr d => uptoBulk d + 1
  | .slice elems spare => uptoBulkAll elems + uptoBulkAll spare + 1
  | .agg parts => uptoBulkAll parts + 1
  | .iface _ d => uptoBulk d + 1
  | .map entries => uptoBulkEntries entries + 1
  | .held _ => 1
def uptoBulkAll {H : Type} : List (DataW H) → Nat
  | [] => 0
  | d :: r => uptoBulk d + uptoBulkAll r
def uptoBulkEntries {H : Type} : List (Lit × DataW H) → Nat
  | [] => 0
  | x :: r => uptoBulkEntry x + uptoBulkEntries r
def uptoBulkEntry {H : Type} : Lit × DataW H → Nat
  | (.string bytes, d) => bytes.length + uptoBulk d + 1
  | (_, d) => uptoBulk d + 1
 end
def uptoSmall : (H : Type) → List (DataW H) → Bool := fun _ ds => decide (uptoBulkAll ds ≤ 1048576)
def OpenSpec.upto (s : _root_.Go.ChangeSpec) : _root_.Go.OpenSpec := { _root_.Go.OpenSpec.ofChange s with cond := some uptoSmall }

/-- 'unicodetextlaw43.ColltableChecks', WHERE WHAT IT READS IS OF BULK AT MOST 1048576: true; the input reads as it did. -/
def colltableChecksUptoRow : OpenClaim := { program := "ytgeaoceiacdadaadoor", sum := "de4a100f3eee03081dbbe80c642a07c9cca8e3385b0aa7ee744ad9cd6eef78b3", func := "unicodetext/unicodetextlaw43.ColltableChecks", spec := "colltableChecks", unfollowed := true, recurses := true, named := ["unicodetext/ordering.hangulRanges"], plainKeys := false, apart := false, laid := [("unicodetext/ordering.hangulRanges", laid_unicodetext_ordering_hangulRanges)], narrowed := true }
def ColltableChecksUptoSaid : Prop := colltableChecksUptoRow.holds Tryd.pinned (OpenSpec.upto colltableChecksSpec)

/-- 'unicodetextlaw43.ColltableFinds', WHERE WHAT IT READS IS OF BULK AT MOST 1048576: true; the input reads as it did. -/
def colltableFindsUptoRow : OpenClaim := { program := "ytgeaoceiacdadaadoor", sum := "de4a100f3eee03081dbbe80c642a07c9cca8e3385b0aa7ee744ad9cd6eef78b3", func := "unicodetext/unicodetextlaw43.ColltableFinds", spec := "colltableFinds", unfollowed := true, recurses := true, named := ["unicodetext/ordering.hangulRanges"], plainKeys := false, apart := false, laid := [("unicodetext/ordering.hangulRanges", laid_unicodetext_ordering_hangulRanges)], narrowed := true }
def ColltableFindsUptoSaid : Prop := colltableFindsUptoRow.holds Tryd.pinned (OpenSpec.upto colltableFindsSpec)

/-- 'unicodetextlaw43.ColltableLongest', WHERE WHAT IT READS IS OF BULK AT MOST 1048576: true; the input reads as it did. -/
def colltableLongestUptoRow : OpenClaim := { program := "ytgeaoceiacdadaadoor", sum := "de4a100f3eee03081dbbe80c642a07c9cca8e3385b0aa7ee744ad9cd6eef78b3", func := "unicodetext/unicodetextlaw43.ColltableLongest", spec := "colltableLongest", unfollowed := true, recurses := true, named := ["unicodetext/ordering.hangulRanges"], plainKeys := false, apart := false, laid := [("unicodetext/ordering.hangulRanges", laid_unicodetext_ordering_hangulRanges)], narrowed := true }
def ColltableLongestUptoSaid : Prop := colltableLongestUptoRow.holds Tryd.pinned (OpenSpec.upto colltableLongestSpec)

/-- 'unicodetextlaw43.ColltableWalks', WHERE WHAT IT READS IS OF BULK AT MOST 1048576: true; the input reads as it did. -/
def colltableWalksUptoRow : OpenClaim := { program := "ytgeaoceiacdadaadoor", sum := "de4a100f3eee03081dbbe80c642a07c9cca8e3385b0aa7ee744ad9cd6eef78b3", func := "unicodetext/unicodetextlaw43.ColltableWalks", spec := "colltableWalks", unfollowed := true, recurses := true, named := ["unicodetext/ordering.hangulRanges"], plainKeys := false, apart := false, laid := [("unicodetext/ordering.hangulRanges", laid_unicodetext_ordering_hangulRanges)], narrowed := true }
def ColltableWalksUptoSaid : Prop := colltableWalksUptoRow.holds Tryd.pinned (OpenSpec.upto colltableWalksSpec)

/-- 'unicodetextlaw43.ColltableSame', WHERE WHAT IT READS IS OF BULK AT MOST 1048576: true; the input reads as it did. -/
def colltableSameUptoRow : OpenClaim := { program := "ytgeaoceiacdadaadoor", sum := "de4a100f3eee03081dbbe80c642a07c9cca8e3385b0aa7ee744ad9cd6eef78b3", func := "unicodetext/unicodetextlaw43.ColltableSame", spec := "colltableSame", unfollowed := true, recurses := true, named := ["unicodetext/ordering.hangulRanges"], plainKeys := false, apart := false, laid := [("unicodetext/ordering.hangulRanges", laid_unicodetext_ordering_hangulRanges)], narrowed := true }
def ColltableSameUptoSaid : Prop := colltableSameUptoRow.holds Tryd.pinned (OpenSpec.upto colltableSameSpec)

end Rows
end Go.Proofs.YtgeaoceiacdadaaDoor

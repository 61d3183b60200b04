/-
  NARROWER THAN 'FOR EVERY INPUT', by the rows' own cells (each row's printed sentence says how): ColltableSteps: laid · ColltableJoins: laid · ColltableRefuses: laid · ColltableElements: laid.
  DERIVED. THE GIVEN ROWS OF THIS SEAT. 4 by the template 'for every input the law returns true; each argument reads behind the call as it read before'; 0 by the template 'total and deterministic' (their statements: YtgeaoceiacdadaaGreatDoorTotals.lean).
  GIVEN WITH THE SEED: the statements are not yours to turn. If you find one false, say at which input.
  Laid BY PROGRAM, IN A SANDBOX (cutbox-rows.mjs): the forced cells as the released guide's own fill.sh prints them over the translation d4cfa591c249e836… (all of the seat's roots in one cut). By AI agents, Wed Nov 11 2026. No macro, syntax, notation, axiom, sorry.
-/
import Derived.Test.YtgeaoceiacdadaaGreatDoorChecked
import GoSem.Claim
import GoSem.ClaimJoined
import GoSem.ClaimMapViews
import Derived.JoinedTies
import Derived.KernelRfl
namespace Go.Proofs.YtgeaoceiacdadaaGreatDoor
/- THE CELL 'sum', in the pinned program and in every row, IS THE sha256 OF THE DUMP (.gsa) THAT YtgeaoceiacdadaaGreatDoorProg.lean LOADS. Nothing in Lean hashes anything: it is a label: what it is worth is what the hold of that sum in a sandbox is worth. -/
noncomputable def Tryz.pinned : Pinned := { name := "ytgeaoceiacdadaagreatdoor", sum := "d4cfa591c249e836ce7a24c4011af133e46d9f99fd4c59171e5259b9544a88da", checked := Tryz.checked }
namespace Rows
def none {H : Type} : Left H := { results := [], args := [] }

/- WHAT THE LISTED PACKAGE-LEVEL VARIABLES READ AS WHEN THE CALL BEGINS. Each datum BY PROGRAM (the guide's laid-datum.mjs) off the statement by which the dump's own 'gosem.cut.vars' lays the variable. In a bare row this is a premise. The card (YtgeaoceiacdadaaGreatDoorCards.lean) ties it to the program's text. -/
def laid_unicodetext_ordering_hangulRanges {H : Type} : DataW H := .agg [.agg [.lit (.int .i64 4352), .lit (.int .i64 4370)], .agg [.lit (.int .i64 4449), .lit (.int .i64 4469)], .agg [.lit (.int .i64 4520), .lit (.int .i64 4546)], .agg [.lit (.int .i64 44032), .lit (.int .i64 55203)]]

/-- 'unicodetextlaw43.ColltableSteps': WHATEVER THE INPUT: true; the input reads as it did. -/
def colltableStepsSpec : ChangeSpec := { name := "colltableSteps", fn := fun _ => fun
  | [d] => { results := [.lit (.bool true)], args := [d] }
  | _ => none }
def colltableStepsRow : OpenClaim := { program := "ytgeaoceiacdadaagreatdoor", sum := "d4cfa591c249e836ce7a24c4011af133e46d9f99fd4c59171e5259b9544a88da", func := "unicodetext/unicodetextlaw43.ColltableSteps", spec := "colltableSteps", unfollowed := true, recurses := true, named := ["unicodetext/ordering.hangulRanges"], plainKeys := false, apart := false, laid := [("unicodetext/ordering.hangulRanges", laid_unicodetext_ordering_hangulRanges)] }
def ColltableStepsSaid : Prop := colltableStepsRow.holds Tryz.pinned (OpenSpec.ofChange colltableStepsSpec)

/-- ITS FALSE NEIGHBOUR: 'it returns false'. Refute it at one input. -/
def colltableStepsWrong : ChangeSpec := { name := "colltableSteps", fn := fun _ => fun
  | [d] => { results := [.lit (.bool false)], args := [d] }
  | _ => none }
def ColltableStepsWrongFalsely : Prop := colltableStepsRow.holds Tryz.pinned (OpenSpec.ofChange colltableStepsWrong)

/-- 'unicodetextlaw43.ColltableJoins': WHATEVER THE INPUT: true; the input reads as it did. -/
def colltableJoinsSpec : ChangeSpec := { name := "colltableJoins", fn := fun _ => fun
  | [d1, d2] => { results := [.lit (.bool true)], args := [d1, d2] }
  | _ => none }
def colltableJoinsRow : OpenClaim := { program := "ytgeaoceiacdadaagreatdoor", sum := "d4cfa591c249e836ce7a24c4011af133e46d9f99fd4c59171e5259b9544a88da", func := "unicodetext/unicodetextlaw43.ColltableJoins", spec := "colltableJoins", unfollowed := true, recurses := true, named := ["unicodetext/ordering.hangulRanges"], plainKeys := false, apart := false, laid := [("unicodetext/ordering.hangulRanges", laid_unicodetext_ordering_hangulRanges)] }
def ColltableJoinsSaid : Prop := colltableJoinsRow.holds Tryz.pinned (OpenSpec.ofChange colltableJoinsSpec)

/-- ITS FALSE NEIGHBOUR: 'it returns false'. Refute it at one input. -/
def colltableJoinsWrong : ChangeSpec := { name := "colltableJoins", fn := fun _ => fun
  | [d1, d2] => { results := [.lit (.bool false)], args := [d1, d2] }
  | _ => none }
def ColltableJoinsWrongFalsely : Prop := colltableJoinsRow.holds Tryz.pinned (OpenSpec.ofChange colltableJoinsWrong)

/-- 'unicodetextlaw43.ColltableRefuses': WHATEVER THE INPUT: true; the input reads as it did. -/
def colltableRefusesSpec : ChangeSpec := { name := "colltableRefuses", fn := fun _ => fun
  | [d1, d2] => { results := [.lit (.bool true)], args := [d1, d2] }
  | _ => none }
def colltableRefusesRow : OpenClaim := { program := "ytgeaoceiacdadaagreatdoor", sum := "d4cfa591c249e836ce7a24c4011af133e46d9f99fd4c59171e5259b9544a88da", func := "unicodetext/unicodetextlaw43.ColltableRefuses", spec := "colltableRefuses", unfollowed := true, recurses := true, named := ["unicodetext/ordering.hangulRanges"], plainKeys := false, apart := false, laid := [("unicodetext/ordering.hangulRanges", laid_unicodetext_ordering_hangulRanges)] }
def ColltableRefusesSaid : Prop := colltableRefusesRow.holds Tryz.pinned (OpenSpec.ofChange colltableRefusesSpec)

/-- ITS FALSE NEIGHBOUR: 'it returns false'. Refute it at one input. -/
def colltableRefusesWrong : ChangeSpec := { name := "colltableRefuses", fn := fun _ => fun
  | [d1, d2] => { results := [.lit (.bool false)], args := [d1, d2] }
  | _ => none }
def ColltableRefusesWrongFalsely : Prop := colltableRefusesRow.holds Tryz.pinned (OpenSpec.ofChange colltableRefusesWrong)

/-- 'unicodetextlaw43.ColltableElements': WHATEVER THE INPUT: true; the input reads as it did. -/
def colltableElementsSpec : ChangeSpec := { name := "colltableElements", fn := fun _ => fun
  | [d] => { results := [.lit (.bool true)], args := [d] }
  | _ => none }
def colltableElementsRow : OpenClaim := { program := "ytgeaoceiacdadaagreatdoor", sum := "d4cfa591c249e836ce7a24c4011af133e46d9f99fd4c59171e5259b9544a88da", func := "unicodetext/unicodetextlaw43.ColltableElements", spec := "colltableElements", unfollowed := true, recurses := true, named := ["unicodetext/ordering.hangulRanges"], plainKeys := false, apart := false, laid := [("unicodetext/ordering.hangulRanges", laid_unicodetext_ordering_hangulRanges)] }
def ColltableElementsSaid : Prop := colltableElementsRow.holds Tryz.pinned (OpenSpec.ofChange colltableElementsSpec)

/-- ITS FALSE NEIGHBOUR: 'it returns false'. Refute it at one input. -/
def colltableElementsWrong : ChangeSpec := { name := "colltableElements", fn := fun _ => fun
  | [d] => { results := [.lit (.bool false)], args := [d] }
  | _ => none }
def ColltableElementsWrongFalsely : Prop := colltableElementsRow.holds Tryz.pinned (OpenSpec.ofChange colltableElementsWrong)

/- THE SECOND FORM. 'bulk': how many values and letters a reading holds, each counted each time it is reached (what is shared counts as often as it is met; a slice's spare places count too). A statement '..UptoSaid' is the law's where the arguments, and the package variables that the reading takes, are together of bulk at most 1048576: NARROWER than '..Said'. Prove '..Said' where nothing that the law and all that it calls make is longer than what came in: it says more and counts as full. Else prove '..UptoSaid'. A law counts once. -/
mutual
def uptoBulk {H : Type} : DataW H → Nat
  | .lit (.string bytes) => bytes.length + 1
  | .lit _ => 1
  | .nil => 1
  | .ptr d => uptoBulk d + 1
  | .slice elems spare => uptoBulkAll elems + uptoBulkAll spare + 1
  | .agg parts => uptoBulkAll parts + 1
  | .iface _ d => uptoBulk d + 1
  | .map entries => uptoBulkEntries entries + 1
  | .held _ => 1
def uptoBulkAll {H : Type} : List (DataW H) → Nat
  | [] => 0
  | d :: r => uptoBulk d + uptoBulkAll r
def uptoBulkEntries {H : Type} : List (Lit × DataW H) → Nat
  | [] => 0
  | x :: r => uptoBulkEntry x + uptoBulkEntries r
def uptoBulkEntry {H : Type} : Lit × DataW H → Nat
  | (.string bytes, d) => bytes.length + uptoBulk d + 1
  | (_, d) => uptoBulk d + 1
 end
def uptoSmall : (H : Type) → List (DataW H) → Bool := fun _ ds => decide (uptoBulkAll ds ≤ 1048576)
def OpenSpec.upto (s : _root_.Go.ChangeSpec) : _root_.Go.OpenSpec := { _root_.Go.OpenSpec.ofChange s with cond := some uptoSmall }

/-- 'unicodetextlaw43.ColltableSteps', WHERE WHAT IT READS IS OF BULK AT MOST 1048576: true; the input reads as it did. -/
def colltableStepsUptoRow : OpenClaim := { program := "ytgeaoceiacdadaagreatdoor", sum := "d4cfa591c249e836ce7a24c4011af133e46d9f99fd4c59171e5259b9544a88da", func := "unicodetext/unicodetextlaw43.ColltableSteps", spec := "colltableSteps", unfollowed := true, recurses := true, named := ["unicodetext/ordering.hangulRanges"], plainKeys := false, apart := false, laid := [("unicodetext/ordering.hangulRanges", laid_unicodetext_ordering_hangulRanges)], narrowed := true }
def ColltableStepsUptoSaid : Prop := colltableStepsUptoRow.holds Tryz.pinned (OpenSpec.upto colltableStepsSpec)

/-- 'unicodetextlaw43.ColltableJoins', WHERE WHAT IT READS IS OF BULK AT MOST 1048576: true; the input reads as it did. -/
def colltableJoinsUptoRow : OpenClaim := { program := "ytgeaoceiacdadaagreatdoor", sum := "d4cfa591c249e836ce7a24c4011af133e46d9f99fd4c59171e5259b9544a88da", func := "unicodetext/unicodetextlaw43.ColltableJoins", spec := "colltableJoins", unfollowed := true, recurses := true, named := ["unicodetext/ordering.hangulRanges"], plainKeys := false, apart := false, laid := [("unicodetext/ordering.hangulRanges", laid_unicodetext_ordering_hangulRanges)], narrowed := true }
def ColltableJoinsUptoSaid : Prop := colltableJoinsUptoRow.holds Tryz.pinned (OpenSpec.upto colltableJoinsSpec)

/-- 'unicodetextlaw43.ColltableRefuses', WHERE WHAT IT READS IS OF BULK AT MOST 1048576: true; the input reads as it did. -/
def colltableRefusesUptoRow : OpenClaim := { program := "ytgeaoceiacdadaagreatdoor", sum := "d4cfa591c249e836ce7a24c4011af133e46d9f99fd4c59171e5259b9544a88da", func := "unicodetext/unicodetextlaw43.ColltableRefuses", spec := "colltableRefuses", unfollowed := true, recurses := true, named := ["unicodetext/ordering.hangulRanges"], plainKeys := false, apart := false, laid := [("unicodetext/ordering.hangulRanges", laid_unicodetext_ordering_hangulRanges)], narrowed := true }
def ColltableRefusesUptoSaid : Prop := colltableRefusesUptoRow.holds Tryz.pinned (OpenSpec.upto colltableRefusesSpec)

/-- 'unicodetextlaw43.ColltableElements', WHERE WHAT IT READS IS OF BULK AT MOST 1048576: true; the input reads as it did. -/
def colltableElementsUptoRow : OpenClaim := { program := "ytgeaoceiacdadaagreatdoor", sum := "d4cfa591c249e836ce7a24c4011af133e46d9f99fd4c59171e5259b9544a88da", func := "unicodetext/unicodetextlaw43.ColltableElements", spec := "colltableElements", unfollowed := true, recurses := true, named := ["unicodetext/ordering.hangulRanges"], plainKeys := false, apart := false, laid := [("unicodetext/ordering.hangulRanges", laid_unicodetext_ordering_hangulRanges)], narrowed := true }
def ColltableElementsUptoSaid : Prop := colltableElementsUptoRow.holds Tryz.pinned (OpenSpec.upto colltableElementsSpec)

end Rows
end Go.Proofs.YtgeaoceiacdadaaGreatDoor

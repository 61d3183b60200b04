/-
  NARROWER THAN 'FOR EVERY INPUT', by the rows' own cells (each row's printed sentence says how): ConfusableSkeletons: laid · ConfusableKinds: laid · ConfusableGroups: laid · ConfusableClosed: laid · ConfusableJoins: laid · ConfusableNormal: laid · ConfusablePlain: laid.
  DERIVED. THE GIVEN ROWS OF THIS SEAT. 7 by the template 'for every input the law returns true; each argument reads behind the call as it read before'; 0 by the template 'total and deterministic' (their statements: YtgeimamfoblkjaaGreatDoorTotals.lean).
  GIVEN WITH THE SEED: the statements are not yours to turn. If you find one false, say at which input.
  Laid BY PROGRAM, IN A SANDBOX (cutbox-rows.mjs): the forced cells as the released guide's own fill.sh prints them over the translation 91fea374154f2d30… (all of the seat's roots in one cut). By AI agents, Wed Nov 11 2026. No macro, syntax, notation, axiom, sorry.
-/
import Derived.Test.YtgeimamfoblkjaaGreatDoorChecked
import GoSem.Claim
import GoSem.ClaimJoined
import GoSem.ClaimMapViews
import Derived.JoinedTies
import Derived.KernelRfl
namespace Go.Proofs.YtgeimamfoblkjaaGreatDoor
/- THE CELL 'sum', in the pinned program and in every row, IS THE sha256 OF THE DUMP (.gsa) THAT YtgeimamfoblkjaaGreatDoorProg.lean LOADS. Nothing in Lean hashes anything: it is a label: what it is worth is what the hold of that sum in a sandbox is worth. -/
noncomputable def Tryz.pinned : Pinned := { name := "ytgeimamfoblkjaagreatdoor", sum := "91fea374154f2d3009219963237fe579b5069b4de902fa0e773d32621fa6b6a6", checked := Tryz.checked }
namespace Rows
def none {H : Type} : Left H := { results := [], args := [] }

/- WHAT THE LISTED PACKAGE-LEVEL VARIABLES READ AS WHEN THE CALL BEGINS. Each datum BY PROGRAM (the guide's laid-datum.mjs) off the statement by which the dump's own 'gosem.cut.vars' lays the variable. In a bare row this is a premise. The card (YtgeimamfoblkjaaGreatDoorCards.lean) ties it to the program's text. -/
def laid_math_bits_deBruijn32tab {H : Type} : DataW H := .agg [.lit (.int .u8 0), .lit (.int .u8 1), .lit (.int .u8 28), .lit (.int .u8 2), .lit (.int .u8 29), .lit (.int .u8 14), .lit (.int .u8 24), .lit (.int .u8 3), .lit (.int .u8 30), .lit (.int .u8 22), .lit (.int .u8 20), .lit (.int .u8 15), .lit (.int .u8 25), .lit (.int .u8 17), .lit (.int .u8 4), .lit (.int .u8 8), .lit (.int .u8 31), .lit (.int .u8 27), .lit (.int .u8 13), .lit (.int .u8 23), .lit (.int .u8 21), .lit (.int .u8 19), .lit (.int .u8 16), .lit (.int .u8 7), .lit (.int .u8 26), .lit (.int .u8 12), .lit (.int .u8 18), .lit (.int .u8 6), .lit (.int .u8 11), .lit (.int .u8 5), .lit (.int .u8 10), .lit (.int .u8 9)]
def laid_math_bits_deBruijn64tab {H : Type} : DataW H := .agg [.lit (.int .u8 0), .lit (.int .u8 1), .lit (.int .u8 56), .lit (.int .u8 2), .lit (.int .u8 57), .lit (.int .u8 49), .lit (.int .u8 28), .lit (.int .u8 3), .lit (.int .u8 61), .lit (.int .u8 58), .lit (.int .u8 42), .lit (.int .u8 50), .lit (.int .u8 38), .lit (.int .u8 29), .lit (.int .u8 17), .lit (.int .u8 4), .lit (.int .u8 62), .lit (.int .u8 47), .lit (.int .u8 59), .lit (.int .u8 36), .lit (.int .u8 45), .lit (.int .u8 43), .lit (.int .u8 51), .lit (.int .u8 22), .lit (.int .u8 53), .lit (.int .u8 39), .lit (.int .u8 33), .lit (.int .u8 30), .lit (.int .u8 24), .lit (.int .u8 18), .lit (.int .u8 12), .lit (.int .u8 5), .lit (.int .u8 63), .lit (.int .u8 55), .lit (.int .u8 48), .lit (.int .u8 27), .lit (.int .u8 60), .lit (.int .u8 41), .lit (.int .u8 37), .lit (.int .u8 16), .lit (.int .u8 46), .lit (.int .u8 35), .lit (.int .u8 44), .lit (.int .u8 21), .lit (.int .u8 52), .lit (.int .u8 32), .lit (.int .u8 23), .lit (.int .u8 11), .lit (.int .u8 54), .lit (.int .u8 26), .lit (.int .u8 40), .lit (.int .u8 15), .lit (.int .u8 34), .lit (.int .u8 20), .lit (.int .u8 31), .lit (.int .u8 10), .lit (.int .u8 25), .lit (.int .u8 14), .lit (.int .u8 19), .lit (.int .u8 9), .lit (.int .u8 13), .lit (.int .u8 8), .lit (.int .u8 7), .lit (.int .u8 6)]
def laid_internal_strconv_uint64pow10 {H : Type} : DataW H := .agg [.lit (.int .u64 1), .lit (.int .u64 10), .lit (.int .u64 100), .lit (.int .u64 1000), .lit (.int .u64 10000), .lit (.int .u64 100000), .lit (.int .u64 1000000), .lit (.int .u64 10000000), .lit (.int .u64 100000000), .lit (.int .u64 1000000000), .lit (.int .u64 10000000000), .lit (.int .u64 100000000000), .lit (.int .u64 1000000000000), .lit (.int .u64 10000000000000), .lit (.int .u64 100000000000000), .lit (.int .u64 1000000000000000), .lit (.int .u64 10000000000000000), .lit (.int .u64 100000000000000000), .lit (.int .u64 1000000000000000000), .lit (.int .u64 10000000000000000000)]
def laid_unicodetext_ordering_hangulRanges {H : Type} : DataW H := .agg [.agg [.lit (.int .i64 4352), .lit (.int .i64 4370)], .agg [.lit (.int .i64 4449), .lit (.int .i64 4469)], .agg [.lit (.int .i64 4520), .lit (.int .i64 4546)], .agg [.lit (.int .i64 44032), .lit (.int .i64 55203)]]

/-- 'unicodetextlaw41.ConfusableSkeletons': WHATEVER THE INPUT: true; the input reads as it did. -/
def confusableSkeletonsSpec : ChangeSpec := { name := "confusableSkeletons", fn := fun _ => fun
  | [d1, d2, d3] => { results := [.lit (.bool true)], args := [d1, d2, d3] }
  | _ => none }
def confusableSkeletonsRow : OpenClaim := { program := "ytgeimamfoblkjaagreatdoor", sum := "91fea374154f2d3009219963237fe579b5069b4de902fa0e773d32621fa6b6a6", func := "unicodetext/unicodetextlaw41.ConfusableSkeletons", spec := "confusableSkeletons", unfollowed := true, recurses := true, named := ["unicodetext/ordering.hangulRanges", "internal/strconv.uint64pow10", "math/bits.deBruijn32tab", "math/bits.deBruijn64tab"], plainKeys := false, apart := false, laid := [("math/bits.deBruijn32tab", laid_math_bits_deBruijn32tab), ("math/bits.deBruijn64tab", laid_math_bits_deBruijn64tab), ("internal/strconv.uint64pow10", laid_internal_strconv_uint64pow10), ("unicodetext/ordering.hangulRanges", laid_unicodetext_ordering_hangulRanges)] }
def ConfusableSkeletonsSaid : Prop := confusableSkeletonsRow.holds Tryz.pinned (OpenSpec.ofChange confusableSkeletonsSpec)

/-- ITS FALSE NEIGHBOUR: 'it returns false'. Refute it at one input. -/
def confusableSkeletonsWrong : ChangeSpec := { name := "confusableSkeletons", fn := fun _ => fun
  | [d1, d2, d3] => { results := [.lit (.bool false)], args := [d1, d2, d3] }
  | _ => none }
def ConfusableSkeletonsWrongFalsely : Prop := confusableSkeletonsRow.holds Tryz.pinned (OpenSpec.ofChange confusableSkeletonsWrong)

/-- 'unicodetextlaw41.ConfusableKinds': WHATEVER THE INPUT: true; the input reads as it did. -/
def confusableKindsSpec : ChangeSpec := { name := "confusableKinds", fn := fun _ => fun
  | [d1, d2] => { results := [.lit (.bool true)], args := [d1, d2] }
  | _ => none }
def confusableKindsRow : OpenClaim := { program := "ytgeimamfoblkjaagreatdoor", sum := "91fea374154f2d3009219963237fe579b5069b4de902fa0e773d32621fa6b6a6", func := "unicodetext/unicodetextlaw41.ConfusableKinds", spec := "confusableKinds", unfollowed := true, recurses := true, named := ["unicodetext/ordering.hangulRanges", "internal/strconv.uint64pow10", "math/bits.deBruijn32tab", "math/bits.deBruijn64tab"], plainKeys := false, apart := false, laid := [("math/bits.deBruijn32tab", laid_math_bits_deBruijn32tab), ("math/bits.deBruijn64tab", laid_math_bits_deBruijn64tab), ("internal/strconv.uint64pow10", laid_internal_strconv_uint64pow10), ("unicodetext/ordering.hangulRanges", laid_unicodetext_ordering_hangulRanges)] }
def ConfusableKindsSaid : Prop := confusableKindsRow.holds Tryz.pinned (OpenSpec.ofChange confusableKindsSpec)

/-- ITS FALSE NEIGHBOUR: 'it returns false'. Refute it at one input. -/
def confusableKindsWrong : ChangeSpec := { name := "confusableKinds", fn := fun _ => fun
  | [d1, d2] => { results := [.lit (.bool false)], args := [d1, d2] }
  | _ => none }
def ConfusableKindsWrongFalsely : Prop := confusableKindsRow.holds Tryz.pinned (OpenSpec.ofChange confusableKindsWrong)

/-- 'unicodetextlaw41.ConfusableGroups': WHATEVER THE INPUT: true; the input reads as it did. -/
def confusableGroupsSpec : ChangeSpec := { name := "confusableGroups", fn := fun _ => fun
  | [d1, d2] => { results := [.lit (.bool true)], args := [d1, d2] }
  | _ => none }
def confusableGroupsRow : OpenClaim := { program := "ytgeimamfoblkjaagreatdoor", sum := "91fea374154f2d3009219963237fe579b5069b4de902fa0e773d32621fa6b6a6", func := "unicodetext/unicodetextlaw41.ConfusableGroups", spec := "confusableGroups", unfollowed := true, recurses := true, named := ["unicodetext/ordering.hangulRanges", "internal/strconv.uint64pow10", "math/bits.deBruijn32tab", "math/bits.deBruijn64tab"], plainKeys := false, apart := false, laid := [("math/bits.deBruijn32tab", laid_math_bits_deBruijn32tab), ("math/bits.deBruijn64tab", laid_math_bits_deBruijn64tab), ("internal/strconv.uint64pow10", laid_internal_strconv_uint64pow10), ("unicodetext/ordering.hangulRanges", laid_unicodetext_ordering_hangulRanges)] }
def ConfusableGroupsSaid : Prop := confusableGroupsRow.holds Tryz.pinned (OpenSpec.ofChange confusableGroupsSpec)

/-- ITS FALSE NEIGHBOUR: 'it returns false'. Refute it at one input. -/
def confusableGroupsWrong : ChangeSpec := { name := "confusableGroups", fn := fun _ => fun
  | [d1, d2] => { results := [.lit (.bool false)], args := [d1, d2] }
  | _ => none }
def ConfusableGroupsWrongFalsely : Prop := confusableGroupsRow.holds Tryz.pinned (OpenSpec.ofChange confusableGroupsWrong)

/-- 'unicodetextlaw41.ConfusableClosed': WHATEVER THE INPUT: true; the input reads as it did. -/
def confusableClosedSpec : ChangeSpec := { name := "confusableClosed", fn := fun _ => fun
  | [d1, d2] => { results := [.lit (.bool true)], args := [d1, d2] }
  | _ => none }
def confusableClosedRow : OpenClaim := { program := "ytgeimamfoblkjaagreatdoor", sum := "91fea374154f2d3009219963237fe579b5069b4de902fa0e773d32621fa6b6a6", func := "unicodetext/unicodetextlaw41.ConfusableClosed", spec := "confusableClosed", unfollowed := true, recurses := true, named := ["unicodetext/ordering.hangulRanges", "internal/strconv.uint64pow10", "math/bits.deBruijn32tab", "math/bits.deBruijn64tab"], plainKeys := false, apart := false, laid := [("math/bits.deBruijn32tab", laid_math_bits_deBruijn32tab), ("math/bits.deBruijn64tab", laid_math_bits_deBruijn64tab), ("internal/strconv.uint64pow10", laid_internal_strconv_uint64pow10), ("unicodetext/ordering.hangulRanges", laid_unicodetext_ordering_hangulRanges)] }
def ConfusableClosedSaid : Prop := confusableClosedRow.holds Tryz.pinned (OpenSpec.ofChange confusableClosedSpec)

/-- ITS FALSE NEIGHBOUR: 'it returns false'. Refute it at one input. -/
def confusableClosedWrong : ChangeSpec := { name := "confusableClosed", fn := fun _ => fun
  | [d1, d2] => { results := [.lit (.bool false)], args := [d1, d2] }
  | _ => none }
def ConfusableClosedWrongFalsely : Prop := confusableClosedRow.holds Tryz.pinned (OpenSpec.ofChange confusableClosedWrong)

/-- 'unicodetextlaw41.ConfusableJoins': WHATEVER THE INPUT: true; the input reads as it did. -/
def confusableJoinsSpec : ChangeSpec := { name := "confusableJoins", fn := fun _ => fun
  | [d1, d2, d3, d4] => { results := [.lit (.bool true)], args := [d1, d2, d3, d4] }
  | _ => none }
def confusableJoinsRow : OpenClaim := { program := "ytgeimamfoblkjaagreatdoor", sum := "91fea374154f2d3009219963237fe579b5069b4de902fa0e773d32621fa6b6a6", func := "unicodetext/unicodetextlaw41.ConfusableJoins", spec := "confusableJoins", unfollowed := true, recurses := true, named := ["unicodetext/ordering.hangulRanges", "internal/strconv.uint64pow10", "math/bits.deBruijn32tab", "math/bits.deBruijn64tab"], plainKeys := false, apart := false, laid := [("math/bits.deBruijn32tab", laid_math_bits_deBruijn32tab), ("math/bits.deBruijn64tab", laid_math_bits_deBruijn64tab), ("internal/strconv.uint64pow10", laid_internal_strconv_uint64pow10), ("unicodetext/ordering.hangulRanges", laid_unicodetext_ordering_hangulRanges)] }
def ConfusableJoinsSaid : Prop := confusableJoinsRow.holds Tryz.pinned (OpenSpec.ofChange confusableJoinsSpec)

/-- ITS FALSE NEIGHBOUR: 'it returns false'. Refute it at one input. -/
def confusableJoinsWrong : ChangeSpec := { name := "confusableJoins", fn := fun _ => fun
  | [d1, d2, d3, d4] => { results := [.lit (.bool false)], args := [d1, d2, d3, d4] }
  | _ => none }
def ConfusableJoinsWrongFalsely : Prop := confusableJoinsRow.holds Tryz.pinned (OpenSpec.ofChange confusableJoinsWrong)

/-- 'unicodetextlaw41.ConfusableNormal': WHATEVER THE INPUT: true; the input reads as it did. -/
def confusableNormalSpec : ChangeSpec := { name := "confusableNormal", fn := fun _ => fun
  | [d1, d2] => { results := [.lit (.bool true)], args := [d1, d2] }
  | _ => none }
def confusableNormalRow : OpenClaim := { program := "ytgeimamfoblkjaagreatdoor", sum := "91fea374154f2d3009219963237fe579b5069b4de902fa0e773d32621fa6b6a6", func := "unicodetext/unicodetextlaw41.ConfusableNormal", spec := "confusableNormal", unfollowed := true, recurses := true, named := ["unicodetext/ordering.hangulRanges", "internal/strconv.uint64pow10", "math/bits.deBruijn32tab", "math/bits.deBruijn64tab"], plainKeys := false, apart := false, laid := [("math/bits.deBruijn32tab", laid_math_bits_deBruijn32tab), ("math/bits.deBruijn64tab", laid_math_bits_deBruijn64tab), ("internal/strconv.uint64pow10", laid_internal_strconv_uint64pow10), ("unicodetext/ordering.hangulRanges", laid_unicodetext_ordering_hangulRanges)] }
def ConfusableNormalSaid : Prop := confusableNormalRow.holds Tryz.pinned (OpenSpec.ofChange confusableNormalSpec)

/-- ITS FALSE NEIGHBOUR: 'it returns false'. Refute it at one input. -/
def confusableNormalWrong : ChangeSpec := { name := "confusableNormal", fn := fun _ => fun
  | [d1, d2] => { results := [.lit (.bool false)], args := [d1, d2] }
  | _ => none }
def ConfusableNormalWrongFalsely : Prop := confusableNormalRow.holds Tryz.pinned (OpenSpec.ofChange confusableNormalWrong)

/-- 'unicodetextlaw41.ConfusablePlain': WHATEVER THE INPUT: true; the input reads as it did. -/
def confusablePlainSpec : ChangeSpec := { name := "confusablePlain", fn := fun _ => fun
  | [d1, d2, d3] => { results := [.lit (.bool true)], args := [d1, d2, d3] }
  | _ => none }
def confusablePlainRow : OpenClaim := { program := "ytgeimamfoblkjaagreatdoor", sum := "91fea374154f2d3009219963237fe579b5069b4de902fa0e773d32621fa6b6a6", func := "unicodetext/unicodetextlaw41.ConfusablePlain", spec := "confusablePlain", unfollowed := true, recurses := true, named := ["unicodetext/ordering.hangulRanges", "internal/strconv.uint64pow10", "math/bits.deBruijn32tab", "math/bits.deBruijn64tab"], plainKeys := false, apart := false, laid := [("math/bits.deBruijn32tab", laid_math_bits_deBruijn32tab), ("math/bits.deBruijn64tab", laid_math_bits_deBruijn64tab), ("internal/strconv.uint64pow10", laid_internal_strconv_uint64pow10), ("unicodetext/ordering.hangulRanges", laid_unicodetext_ordering_hangulRanges)] }
def ConfusablePlainSaid : Prop := confusablePlainRow.holds Tryz.pinned (OpenSpec.ofChange confusablePlainSpec)

/-- ITS FALSE NEIGHBOUR: 'it returns false'. Refute it at one input. -/
def confusablePlainWrong : ChangeSpec := { name := "confusablePlain", fn := fun _ => fun
  | [d1, d2, d3] => { results := [.lit (.bool false)], args := [d1, d2, d3] }
  | _ => none }
def ConfusablePlainWrongFalsely : Prop := confusablePlainRow.holds Tryz.pinned (OpenSpec.ofChange confusablePlainWrong)

/- THE SECOND FORM. 'bulk': how many values and letters a reading holds, each counted each time it is reached (what is shared counts as often as it is met; a slice's spare places count too). A statement '..UptoSaid' is the law's where the arguments, and the package variables that the reading takes, are together of bulk at most 1048576: NARROWER than '..Said'. Prove '..Said' where nothing that the law and all that it calls make is longer than what came in: it says more and counts as full. Else prove '..UptoSaid'. A law counts once. -/
mutual
def uptoBulk {H : Type} : DataW H → Nat
  | .lit (.string bytes) => bytes.length + 1
  | .lit _ => 1
  | .nil => 1
  | .ptr d => uptoBulk d + 1
  | .slice elems spare => uptoBulkAll elems + uptoBulkAll spare + 1
  | .agg parts => uptoBulkAll parts + 1
  | .iface _ d => uptoBulk d + 1
  | .map entries => uptoBulkEntries entries + 1
  | .held _ => 1
def uptoBulkAll {H : Type} : List (DataW H) → Nat
  | [] => 0
  | d :: r => uptoBulk d + uptoBulkAll r
def uptoBulkEntries {H : Type} : List (Lit × DataW H) → Nat
  | [] => 0
  | x :: r => uptoBulkEntry x + uptoBulkEntries r
def uptoBulkEntry {H : Type} : Lit × DataW H → Nat
  | (.string bytes, d) => bytes.length + uptoBulk d + 1
  | (_, d) => uptoBulk d + 1
 end
def uptoSmall : (H : Type) → List (DataW H) → Bool := fun _ ds => decide (uptoBulkAll ds ≤ 1048576)
def OpenSpec.upto (s : _root_.Go.ChangeSpec) : _root_.Go.OpenSpec := { _root_.Go.OpenSpec.ofChange s with cond := some uptoSmall }

/-- 'unicodetextlaw41.ConfusableSkeletons', WHERE WHAT IT READS IS OF BULK AT MOST 1048576: true; the input reads as it did. -/
def confusableSkeletonsUptoRow : OpenClaim := { program := "ytgeimamfoblkjaagreatdoor", sum := "91fea374154f2d3009219963237fe579b5069b4de902fa0e773d32621fa6b6a6", func := "unicodetext/unicodetextlaw41.ConfusableSkeletons", spec := "confusableSkeletons", unfollowed := true, recurses := true, named := ["unicodetext/ordering.hangulRanges", "internal/strconv.uint64pow10", "math/bits.deBruijn32tab", "math/bits.deBruijn64tab"], plainKeys := false, apart := false, laid := [("math/bits.deBruijn32tab", laid_math_bits_deBruijn32tab), ("math/bits.deBruijn64tab", laid_math_bits_deBruijn64tab), ("internal/strconv.uint64pow10", laid_internal_strconv_uint64pow10), ("unicodetext/ordering.hangulRanges", laid_unicodetext_ordering_hangulRanges)], narrowed := true }
def ConfusableSkeletonsUptoSaid : Prop := confusableSkeletonsUptoRow.holds Tryz.pinned (OpenSpec.upto confusableSkeletonsSpec)

/-- 'unicodetextlaw41.ConfusableKinds', WHERE WHAT IT READS IS OF BULK AT MOST 1048576: true; the input reads as it did. -/
def confusableKindsUptoRow : OpenClaim := { program := "ytgeimamfoblkjaagreatdoor", sum := "91fea374154f2d3009219963237fe579b5069b4de902fa0e773d32621fa6b6a6", func := "unicodetext/unicodetextlaw41.ConfusableKinds", spec := "confusableKinds", unfollowed := true, recurses := true, named := ["unicodetext/ordering.hangulRanges", "internal/strconv.uint64pow10", "math/bits.deBruijn32tab", "math/bits.deBruijn64tab"], plainKeys := false, apart := false, laid := [("math/bits.deBruijn32tab", laid_math_bits_deBruijn32tab), ("math/bits.deBruijn64tab", laid_math_bits_deBruijn64tab), ("internal/strconv.uint64pow10", laid_internal_strconv_uint64pow10), ("unicodetext/ordering.hangulRanges", laid_unicodetext_ordering_hangulRanges)], narrowed := true }
def ConfusableKindsUptoSaid : Prop := confusableKindsUptoRow.holds Tryz.pinned (OpenSpec.upto confusableKindsSpec)

/-- 'unicodetextlaw41.ConfusableGroups', WHERE WHAT IT READS IS OF BULK AT MOST 1048576: true; the input reads as it did. -/
def confusableGroupsUptoRow : OpenClaim := { program := "ytgeimamfoblkjaagreatdoor", sum := "91fea374154f2d3009219963237fe579b5069b4de902fa0e773d32621fa6b6a6", func := "unicodetext/unicodetextlaw41.ConfusableGroups", spec := "confusableGroups", unfollowed := true, recurses := true, named := ["unicodetext/ordering.hangulRanges", "internal/strconv.uint64pow10", "math/bits.deBruijn32tab", "math/bits.deBruijn64tab"], plainKeys := false, apart := false, laid := [("math/bits.deBruijn32tab", laid_math_bits_deBruijn32tab), ("math/bits.deBruijn64tab", laid_math_bits_deBruijn64tab), ("internal/strconv.uint64pow10", laid_internal_strconv_uint64pow10), ("unicodetext/ordering.hangulRanges", laid_unicodetext_ordering_hangulRanges)], narrowed := true }
def ConfusableGroupsUptoSaid : Prop := confusableGroupsUptoRow.holds Tryz.pinned (OpenSpec.upto confusableGroupsSpec)

/-- 'unicodetextlaw41.ConfusableClosed', WHERE WHAT IT READS IS OF BULK AT MOST 1048576: true; the input reads as it did. -/
def confusableClosedUptoRow : OpenClaim := { program := "ytgeimamfoblkjaagreatdoor", sum := "91fea374154f2d3009219963237fe579b5069b4de902fa0e773d32621fa6b6a6", func := "unicodetext/unicodetextlaw41.ConfusableClosed", spec := "confusableClosed", unfollowed := true, recurses := true, named := ["unicodetext/ordering.hangulRanges", "internal/strconv.uint64pow10", "math/bits.deBruijn32tab", "math/bits.deBruijn64tab"], plainKeys := false, apart := false, laid := [("math/bits.deBruijn32tab", laid_math_bits_deBruijn32tab), ("math/bits.deBruijn64tab", laid_math_bits_deBruijn64tab), ("internal/strconv.uint64pow10", laid_internal_strconv_uint64pow10), ("unicodetext/ordering.hangulRanges", laid_unicodetext_ordering_hangulRanges)], narrowed := true }
def ConfusableClosedUptoSaid : Prop := confusableClosedUptoRow.holds Tryz.pinned (OpenSpec.upto confusableClosedSpec)

/-- 'unicodetextlaw41.ConfusableJoins', WHERE WHAT IT READS IS OF BULK AT MOST 1048576: true; the input reads as it did. -/
def confusableJoinsUptoRow : OpenClaim := { program := "ytgeimamfoblkjaagreatdoor", sum := "91fea374154f2d3009219963237fe579b5069b4de902fa0e773d32621fa6b6a6", func := "unicodetext/unicodetextlaw41.ConfusableJoins", spec := "confusableJoins", unfollowed := true, recurses := true, named := ["unicodetext/ordering.hangulRanges", "internal/strconv.uint64pow10", "math/bits.deBruijn32tab", "math/bits.deBruijn64tab"], plainKeys := false, apart := false, laid := [("math/bits.deBruijn32tab", laid_math_bits_deBruijn32tab), ("math/bits.deBruijn64tab", laid_math_bits_deBruijn64tab), ("internal/strconv.uint64pow10", laid_internal_strconv_uint64pow10), ("unicodetext/ordering.hangulRanges", laid_unicodetext_ordering_hangulRanges)], narrowed := true }
def ConfusableJoinsUptoSaid : Prop := confusableJoinsUptoRow.holds Tryz.pinned (OpenSpec.upto confusableJoinsSpec)

/-- 'unicodetextlaw41.ConfusableNormal', WHERE WHAT IT READS IS OF BULK AT MOST 1048576: true; the input reads as it did. -/
def confusableNormalUptoRow : OpenClaim := { program := "ytgeimamfoblkjaagreatdoor", sum := "91fea374154f2d3009219963237fe579b5069b4de902fa0e773d32621fa6b6a6", func := "unicodetext/unicodetextlaw41.ConfusableNormal", spec := "confusableNormal", unfollowed := true, recurses := true, named := ["unicodetext/ordering.hangulRanges", "internal/strconv.uint64pow10", "math/bits.deBruijn32tab", "math/bits.deBruijn64tab"], plainKeys := false, apart := false, laid := [("math/bits.deBruijn32tab", laid_math_bits_deBruijn32tab), ("math/bits.deBruijn64tab", laid_math_bits_deBruijn64tab), ("internal/strconv.uint64pow10", laid_internal_strconv_uint64pow10), ("unicodetext/ordering.hangulRanges", laid_unicodetext_ordering_hangulRanges)], narrowed := true }
def ConfusableNormalUptoSaid : Prop := confusableNormalUptoRow.holds Tryz.pinned (OpenSpec.upto confusableNormalSpec)

/-- 'unicodetextlaw41.ConfusablePlain', WHERE WHAT IT READS IS OF BULK AT MOST 1048576: true; the input reads as it did. -/
def confusablePlainUptoRow : OpenClaim := { program := "ytgeimamfoblkjaagreatdoor", sum := "91fea374154f2d3009219963237fe579b5069b4de902fa0e773d32621fa6b6a6", func := "unicodetext/unicodetextlaw41.ConfusablePlain", spec := "confusablePlain", unfollowed := true, recurses := true, named := ["unicodetext/ordering.hangulRanges", "internal/strconv.uint64pow10", "math/bits.deBruijn32tab", "math/bits.deBruijn64tab"], plainKeys := false, apart := false, laid := [("math/bits.deBruijn32tab", laid_math_bits_deBruijn32tab), ("math/bits.deBruijn64tab", laid_math_bits_deBruijn64tab), ("internal/strconv.uint64pow10", laid_internal_strconv_uint64pow10), ("unicodetext/ordering.hangulRanges", laid_unicodetext_ordering_hangulRanges)], narrowed := true }
def ConfusablePlainUptoSaid : Prop := confusablePlainUptoRow.holds Tryz.pinned (OpenSpec.upto confusablePlainSpec)

end Rows
end Go.Proofs.YtgeimamfoblkjaaGreatDoor

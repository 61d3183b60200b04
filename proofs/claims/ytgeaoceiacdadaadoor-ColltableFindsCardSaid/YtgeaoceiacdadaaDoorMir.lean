/- Plain counterparts of the program's functions, printed from its form. Conditions: none. -/
import Derived.Test.YtgeaoceiacdadaaDoorAv35
set_option linter.unusedSimpArgs false
set_option linter.unusedVariables false
set_option linter.unnecessarySimpa false
namespace Go.M
structure A3Int where
  x0 : Int
  x1 : Int
  x2 : Int
  deriving DecidableEq, Inhabited
structure Range where
  Lo : Int
  Hi : Int
  deriving DecidableEq, Inhabited
structure A4Range where
  x0 : Range
  x1 : Range
  x2 : Range
  x3 : Range
  deriving DecidableEq, Inhabited
structure A9Int where
  x0 : Int
  x1 : Int
  x2 : Int
  x3 : Int
  x4 : Int
  x5 : Int
  x6 : Int
  x7 : Int
  x8 : Int
  deriving DecidableEq, Inhabited
structure Element where
  Primary : Int
  Secondary : Int
  Tertiary : Int
  Variable : Bool
  deriving DecidableEq, Inhabited
structure Entry where
  Codes : (List Int)
  Elements : (List Element)
  deriving DecidableEq, Inhabited
structure Group where
  Name : Str
  Lo : Int
  Hi : Int
  deriving DecidableEq, Inhabited
structure Collation where
  Entries : (List Entry)
  Groups : (List Group)
  Base : Int
  Second : Int
  Third : Int
  deriving DecidableEq, Inhabited
structure Span where
  Lo : Int
  Hi : Int
  Value : Int
  deriving DecidableEq, Inhabited
structure Colltable_table where
  c : Collation
  entries : (List (A9Int × (List Element)))
  longest : Int
  classes : (List Span)
  top : Int
  deriving DecidableEq, Inhabited
structure Mapping where
  From : Int
  To : (List Int)
  Tag : Str
  deriving DecidableEq, Inhabited
structure Mapping_key where
  from_ : Int
  tag : Str
  deriving DecidableEq, Inhabited
structure Set where
  Ranges : (List Range)
  deriving DecidableEq, Inhabited
structure Norm where
  Classes : (List Span)
  Decomp : (List Mapping)
  Excluded : Set
  deriving DecidableEq, Inhabited
def okA3Int (x : A3Int) : Prop := (-9223372036854775808 ≤ x.x0 ∧ x.x0 ≤ 9223372036854775807) ∧ (-9223372036854775808 ≤ x.x1 ∧ x.x1 ≤ 9223372036854775807) ∧ (-9223372036854775808 ≤ x.x2 ∧ x.x2 ≤ 9223372036854775807)
def okRange (x : Range) : Prop := (-9223372036854775808 ≤ x.Lo ∧ x.Lo ≤ 9223372036854775807) ∧ (-9223372036854775808 ≤ x.Hi ∧ x.Hi ≤ 9223372036854775807)
def okA4Range (x : A4Range) : Prop := (okRange x.x0) ∧ (okRange x.x1) ∧ (okRange x.x2) ∧ (okRange x.x3)
def okA9Int (x : A9Int) : Prop := (-9223372036854775808 ≤ x.x0 ∧ x.x0 ≤ 9223372036854775807) ∧ (-9223372036854775808 ≤ x.x1 ∧ x.x1 ≤ 9223372036854775807) ∧ (-9223372036854775808 ≤ x.x2 ∧ x.x2 ≤ 9223372036854775807) ∧ (-9223372036854775808 ≤ x.x3 ∧ x.x3 ≤ 9223372036854775807) ∧ (-9223372036854775808 ≤ x.x4 ∧ x.x4 ≤ 9223372036854775807) ∧ (-9223372036854775808 ≤ x.x5 ∧ x.x5 ≤ 9223372036854775807) ∧ (-9223372036854775808 ≤ x.x6 ∧ x.x6 ≤ 9223372036854775807) ∧ (-9223372036854775808 ≤ x.x7 ∧ x.x7 ≤ 9223372036854775807) ∧ (-9223372036854775808 ≤ x.x8 ∧ x.x8 ≤ 9223372036854775807)
def okElement (x : Element) : Prop := (-9223372036854775808 ≤ x.Primary ∧ x.Primary ≤ 9223372036854775807) ∧ (-9223372036854775808 ≤ x.Secondary ∧ x.Secondary ≤ 9223372036854775807) ∧ (-9223372036854775808 ≤ x.Tertiary ∧ x.Tertiary ≤ 9223372036854775807) ∧ True
def okEntry (x : Entry) : Prop := (x.Codes.length ≤ 9223372036854775807 ∧ ∀ y0 ∈ x.Codes, (-9223372036854775808 ≤ y0 ∧ y0 ≤ 9223372036854775807)) ∧ (x.Elements.length ≤ 9223372036854775807 ∧ ∀ y0 ∈ x.Elements, (okElement y0))
def okGroup (x : Group) : Prop := (x.Name.length ≤ 9223372036854775807) ∧ (-9223372036854775808 ≤ x.Lo ∧ x.Lo ≤ 9223372036854775807) ∧ (-9223372036854775808 ≤ x.Hi ∧ x.Hi ≤ 9223372036854775807)
def okCollation (x : Collation) : Prop := (x.Entries.length ≤ 9223372036854775807 ∧ ∀ y0 ∈ x.Entries, (okEntry y0)) ∧ (x.Groups.length ≤ 9223372036854775807 ∧ ∀ y0 ∈ x.Groups, (okGroup y0)) ∧ (-9223372036854775808 ≤ x.Base ∧ x.Base ≤ 9223372036854775807) ∧ (-9223372036854775808 ≤ x.Second ∧ x.Second ≤ 9223372036854775807) ∧ (-9223372036854775808 ≤ x.Third ∧ x.Third ≤ 9223372036854775807)
def okSpan (x : Span) : Prop := (-9223372036854775808 ≤ x.Lo ∧ x.Lo ≤ 9223372036854775807) ∧ (-9223372036854775808 ≤ x.Hi ∧ x.Hi ≤ 9223372036854775807) ∧ (-9223372036854775808 ≤ x.Value ∧ x.Value ≤ 9223372036854775807)
def okColltable_table (x : Colltable_table) : Prop := (okCollation x.c) ∧ True ∧ (-9223372036854775808 ≤ x.longest ∧ x.longest ≤ 9223372036854775807) ∧ (x.classes.length ≤ 9223372036854775807 ∧ ∀ y0 ∈ x.classes, (okSpan y0)) ∧ (-9223372036854775808 ≤ x.top ∧ x.top ≤ 9223372036854775807)
def okMapping (x : Mapping) : Prop := (-9223372036854775808 ≤ x.From ∧ x.From ≤ 9223372036854775807) ∧ (x.To.length ≤ 9223372036854775807 ∧ ∀ y0 ∈ x.To, (-9223372036854775808 ≤ y0 ∧ y0 ≤ 9223372036854775807)) ∧ (x.Tag.length ≤ 9223372036854775807)
def okMapping_key (x : Mapping_key) : Prop := (-9223372036854775808 ≤ x.from_ ∧ x.from_ ≤ 9223372036854775807) ∧ (x.tag.length ≤ 9223372036854775807)
def okSet (x : Set) : Prop := (x.Ranges.length ≤ 9223372036854775807 ∧ ∀ y0 ∈ x.Ranges, (okRange y0))
def okNorm (x : Norm) : Prop := (x.Classes.length ≤ 9223372036854775807 ∧ ∀ y0 ∈ x.Classes, (okSpan y0)) ∧ (x.Decomp.length ≤ 9223372036854775807 ∧ ∀ y0 ∈ x.Decomp, (okMapping y0)) ∧ (okSet x.Excluded)
end Go.M
namespace Go.AV
open Go.M
def kA9Int (x : A9Int) : Value := .agg #[.int IntKind.i64 x.x0, .int IntKind.i64 x.x1, .int IntKind.i64 x.x2, .int IntKind.i64 x.x3, .int IntKind.i64 x.x4, .int IntKind.i64 x.x5, .int IntKind.i64 x.x6, .int IntKind.i64 x.x7, .int IntKind.i64 x.x8]
def kMapping_key (x : Mapping_key) : Value := .agg #[.int IntKind.i64 x.from_, .string ⟨x.tag.toArray⟩]
def eA3Int : En A3Int := ⟨fun x => .agg [(di x.x0), (di x.x1), (di x.x2)], 3, fun _ => rfl⟩
def eRange : En Range := ⟨fun x => .agg [(di x.Lo), (di x.Hi)], 2, fun _ => rfl⟩
def eA4Range : En A4Range := ⟨fun x => .agg [(di x.x0.Lo), (di x.x0.Hi), (di x.x1.Lo), (di x.x1.Hi), (di x.x2.Lo), (di x.x2.Hi), (di x.x3.Lo), (di x.x3.Hi)], 8, fun _ => rfl⟩
def eA9Int : En A9Int := ⟨fun x => .agg [(di x.x0), (di x.x1), (di x.x2), (di x.x3), (di x.x4), (di x.x5), (di x.x6), (di x.x7), (di x.x8)], 9, fun _ => rfl⟩
def eElement : En Element := ⟨fun x => .agg [(di x.Primary), (di x.Secondary), (di x.Tertiary), (db x.Variable)], 4, fun _ => rfl⟩
def eEntry : En Entry := ⟨fun x => .agg [(dsl eI x.Codes), (dsl eElement x.Elements)], 2, fun _ => rfl⟩
def eGroup : En Group := ⟨fun x => .agg [(ds x.Name), (di x.Lo), (di x.Hi)], 3, fun _ => rfl⟩
def eCollation : En Collation := ⟨fun x => .agg [(dsl eEntry x.Entries), (dsl eGroup x.Groups), (di x.Base), (di x.Second), (di x.Third)], 5, fun _ => rfl⟩
def eSpan : En Span := ⟨fun x => .agg [(di x.Lo), (di x.Hi), (di x.Value)], 3, fun _ => rfl⟩
def eColltable_table : En Colltable_table := ⟨fun x => .agg [(dsl eEntry x.c.Entries), (dsl eGroup x.c.Groups), (di x.c.Base), (di x.c.Second), (di x.c.Third), (mpD kA9Int (eL eElement) x.entries), (di x.longest), (dsl eSpan x.classes), (di x.top)], 9, fun _ => rfl⟩
def eMapping : En Mapping := ⟨fun x => .agg [(di x.From), (dsl eI x.To), (ds x.Tag)], 3, fun _ => rfl⟩
def eMapping_key : En Mapping_key := ⟨fun x => .agg [(di x.from_), (ds x.tag)], 2, fun _ => rfl⟩
def eSet : En Set := ⟨fun x => .agg [(dsl eRange x.Ranges)], 1, fun _ => rfl⟩
def eNorm : En Norm := ⟨fun x => .agg [(dsl eSpan x.Classes), (dsl eMapping x.Decomp), (dsl eRange x.Excluded.Ranges)], 3, fun _ => rfl⟩
end Go.AV
namespace Go.M
open Go.AV
noncomputable def ref43_Small_L0 (a0 : Collation) (v3 : Int) : Option (Stp (Int) ((Unit) ⊕ (Bool))) :=
 cond (decide (v3 < (a0.Entries.length : Int))) ((idx a0.Entries v3).bind fun t24 =>
(pv (decide (10 < (t24.Codes.length : Int)))).bind fun b29 =>
(gM (!b29) (idx a0.Entries v3)).bind fun t33 =>
 cond (b29 || (decide (20 < (t33.Elements.length : Int)))) (some (.done (.inr (false)))) (some (.next (wi (v3 + 1))))) (some (.done (.inl (()))))

noncomputable def ref43_Small (a0 : Collation) : Option (Bool) :=
(pv (decide (12 < (a0.Entries.length : Int)))).bind fun b8 =>
 cond (b8 || (decide (8 < (a0.Groups.length : Int)))) (some false) ((loopM (fun (x : Int) => ref43_Small_L0 a0 x) 0).bind fun (y1 : (Unit) ⊕ (Bool)) =>
 y1.elim (fun y1 => some true) (fun y1 => some y1))

noncomputable def colltable_isWeight (a0 : Int) : Option (Bool) :=
(pv (decide (1 ≤ a0))).bind fun b5 =>
 some (b5 && (decide (a0 ≤ 65535)))

noncomputable def colltable_isName_L0 (a0 : Str) (v7 : Int) : Option (Stp (Int) ((Unit) ⊕ (Bool))) :=
 cond (decide (v7 < (a0.length : Int))) ((sidx a0 v7).bind fun t12 =>
(pv (decide (65 ≤ t12))).bind fun b15 =>
(pv (b15 && (decide (t12 ≤ 90)))).bind fun b19 =>
(pv (decide (97 ≤ t12))).bind fun b22 =>
(pv (b19 || (b22 && (decide (t12 ≤ 122))))).bind fun b27 =>
(pv (decide (48 ≤ t12))).bind fun b30 =>
(pv (b27 || (b30 && (decide (t12 ≤ 57))))).bind fun b35 =>
 cond (!(b35 || (decide (t12 = 95)))) (some (.done (.inr (false)))) (some (.next (wi (v7 + 1))))) (some (.done (.inl (()))))

noncomputable def colltable_isName (a0 : Str) : Option (Bool) :=
(loopM (fun (x : Int) => colltable_isName_L0 a0 x) 0).bind fun (y1 : (Unit) ⊕ (Bool)) =>
 y1.elim (fun y1 => (pv (!(a0 == []))).bind fun b43 =>
 some (b43 && (decide ((a0.length : Int) ≤ 32)))) (fun y1 => some y1)

noncomputable def colltable_checkGroups_L0 (a0 : Collation) (v15 : Int) : Option (Stp (Int) ((Unit) ⊕ (Int))) :=
 cond (decide (v15 < (a0.Groups.length : Int))) ((idx a0.Groups v15).bind fun t17 =>
(colltable_isName t17.Name).bind fun t21 =>
 cond (!t21) (some (.done (.inr (6)))) (some (.next (wi (v15 + 1))))) (some (.done (.inl (()))))

noncomputable def colltable_checkGroups_L1 (a0 : Collation) (v28 : Int) (r24 : (List (Str × Bool))) : Option (Stp (Int × (List (Str × Bool))) ((Unit) ⊕ (Int))) :=
 cond (decide (v28 < (a0.Groups.length : Int))) ((idx a0.Groups v28).bind fun t30 =>
 cond (mgetD r24 t30.Name false) (some (.done (.inr (5)))) (some (.next (wi (v28 + 1), mput r24 t30.Name true)))) (some (.done (.inl (()))))

noncomputable def colltable_checkGroups_L2 (a0 : Collation) (v43 : Int) : Option (Stp (Int) ((Unit) ⊕ (Int))) :=
 cond (decide (v43 < (a0.Groups.length : Int))) ((idx a0.Groups v43).bind fun t45 =>
(pv (decide (t45.Lo < 1))).bind fun b50 =>
(pv (b50 || (decide (t45.Hi < t45.Lo)))).bind fun b57 =>
 cond (b57 || (decide (a0.Base ≤ t45.Hi))) (some (.done (.inr (1)))) (some (.next (wi (v43 + 1))))) (some (.done (.inl (()))))

noncomputable def colltable_checkGroups_L3 (a0 : Collation) (v68 : Int) : Option (Stp (Int) ((Unit) ⊕ (Int))) :=
 cond (decide (v68 < (a0.Groups.length : Int))) ((idx a0.Groups v68).bind fun t71 =>
(pv (decide (0 < v68))).bind fun b75 =>
(gM b75 (idx a0.Groups (wi (v68 - 1)))).bind fun t82 =>
 cond (b75 && (!decide (t71.Lo = (wi (t82.Hi + 1))))) (some (.done (.inr (4)))) (some (.next (wi (v68 + 1))))) (some (.done (.inl (()))))

noncomputable def colltable_checkGroups (a0 : Collation) : Option (Int) :=
(loopM (fun (x : Int) => colltable_checkGroups_L0 a0 x) 0).bind fun (y1 : (Unit) ⊕ (Int)) =>
 y1.elim (fun y1 => (loopM (fun (x : Int × (List (Str × Bool))) => colltable_checkGroups_L1 a0 x.1 x.2) (0, [])).bind fun (y2 : (Unit) ⊕ (Int)) =>
 y2.elim (fun y2 => (loopM (fun (x : Int) => colltable_checkGroups_L2 a0 x) 0).bind fun (y3 : (Unit) ⊕ (Int)) =>
 y3.elim (fun y3 => (loopM (fun (x : Int) => colltable_checkGroups_L3 a0 x) 0).bind fun (y4 : (Unit) ⊕ (Int)) =>
 y4.elim (fun y4 => some 0) (fun y4 => some y4)) (fun y3 => some y3)) (fun y2 => some y2)) (fun y1 => some y1)

noncomputable def codepoint_Valid (a0 : Int) : Option (Bool) :=
(pv (decide (0 ≤ a0))).bind fun b5 =>
 some (b5 && (decide (a0 ≤ 1114111)))

noncomputable def element_Check_L0 (a0 : Element) (v12 : Int) : Option (Stp (Int) ((Unit) ⊕ (Int))) :=
 cond (decide (v12 < 3)) ((idx [({ x0 := a0.Primary, x1 := a0.Secondary, x2 := a0.Tertiary } : A3Int).x0, ({ x0 := a0.Primary, x1 := a0.Secondary, x2 := a0.Tertiary } : A3Int).x1, ({ x0 := a0.Primary, x1 := a0.Secondary, x2 := a0.Tertiary } : A3Int).x2] v12).bind fun t14 =>
(pv (decide (t14 < 0))).bind fun b17 =>
 cond (b17 || (decide (65535 < t14))) (some (.done (.inr (1)))) (some (.next (wi (v12 + 1))))) (some (.done (.inl (()))))

noncomputable def element_Check (a0 : Element) : Option (Int) :=
(loopM (fun (x : Int) => element_Check_L0 a0 x) 0).bind fun (y1 : (Unit) ⊕ (Int)) =>
 y1.elim (fun y1 => (pv (!decide (a0.Primary = 0))).bind fun b26 =>
(pv (decide (a0.Secondary = 0))).bind fun b30 =>
 cond (b26 && (b30 || (decide (a0.Tertiary = 0)))) (some 11) ((pv (!decide (a0.Secondary = 0))).bind fun b40 =>
 cond (b40 && (decide (a0.Tertiary = 0))) (some 11) ((pv a0.Variable).bind fun b48 =>
 cond (b48 && (decide (a0.Primary = 0))) (some 11) (some 0)))) (fun y1 => some y1)

noncomputable def colltable_checkEntry_L0 (a0 : Entry) (v31 : Int) : Option (Stp (Int) ((Unit) ⊕ (Int))) :=
 cond (decide (v31 < (a0.Codes.length : Int))) ((idx a0.Codes v31).bind fun t33 =>
(codepoint_Valid t33).bind fun t36 =>
 cond (!t36) (some (.done (.inr (1)))) (some (.next (wi (v31 + 1))))) (some (.done (.inl (()))))

noncomputable def colltable_checkEntry_L1 (a0 : Entry) (v42 : Int) : Option (Stp (Int) ((Unit) ⊕ (Int))) :=
 cond (decide (v42 < (a0.Elements.length : Int))) ((idx a0.Elements v42).bind fun t44 =>
(element_Check t44).bind fun t47 =>
 cond (!decide (t47 = 0)) (some (.done (.inr (t47)))) (some (.next (wi (v42 + 1))))) (some (.done (.inl (()))))

noncomputable def colltable_checkEntry_L2 (a0 : Entry) (a1 : Int) (v55 : Int) : Option (Stp (Int) ((Unit) ⊕ (Int))) :=
 cond (decide (v55 < (a0.Elements.length : Int))) ((idx a0.Elements v55).bind fun t57 =>
 cond (decide (a1 ≤ t57.Primary)) (some (.done (.inr (1)))) (some (.next (wi (v55 + 1))))) (some (.done (.inl (()))))

noncomputable def colltable_checkEntry (a0 : Entry) (a1 : Int) : Option (Int) :=
(pv (decide ((a0.Codes.length : Int) < 1))).bind fun b16 =>
(pv (b16 || (decide (8 < (a0.Codes.length : Int))))).bind fun b22 =>
 cond (b22 || (decide (16 < (a0.Elements.length : Int)))) (some 2) ((loopM (fun (x : Int) => colltable_checkEntry_L0 a0 x) 0).bind fun (y1 : (Unit) ⊕ (Int)) =>
 y1.elim (fun y1 => (loopM (fun (x : Int) => colltable_checkEntry_L1 a0 x) 0).bind fun (y2 : (Unit) ⊕ (Int)) =>
 y2.elim (fun y2 => (loopM (fun (x : Int) => colltable_checkEntry_L2 a0 a1 x) 0).bind fun (y3 : (Unit) ⊕ (Int)) =>
 y3.elim (fun y3 => some 0) (fun y3 => some y3)) (fun y2 => some y2)) (fun y1 => some y1))

noncomputable def cmp_isNaN_int (a0 : Int) : Option (Bool) :=
 some (!decide (a0 = a0))

noncomputable def cmp_Compare_int (a0 : Int) (a1 : Int) : Option (Int) :=
(cmp_isNaN_int a0).bind fun t8 =>
(cmp_isNaN_int a1).bind fun t10 =>
 cond t8 (cond t10 (some 0) (some (-1))) (cond t10 (some 1) (cond (decide (a0 < a1)) (some (-1)) (cond (decide (a1 < a0)) (some 1) (some 0))))

noncomputable def codepoint_Compare_L0 (a0 : (List Int)) (a1 : (List Int)) (v11 : Int) : Option (Stp (Int) ((Unit) ⊕ (Int))) :=
 cond (decide (v11 < (min (a0.length : Int) (a1.length : Int)))) ((idx a0 v11).bind fun t16 =>
(idx a1 v11).bind fun t20 =>
 cond (!decide (t16 = t20)) ((idx a0 v11).bind fun t25 =>
(idx a1 v11).bind fun t29 =>
(cmp_Compare_int t25 t29).bind fun t31 =>
 some (.done (.inr (t31)))) (some (.next (wi (v11 + 1))))) (some (.done (.inl (()))))

noncomputable def codepoint_Compare (a0 : (List Int)) (a1 : (List Int)) : Option (Int) :=
(loopM (fun (x : Int) => codepoint_Compare_L0 a0 a1 x) 0).bind fun (y1 : (Unit) ⊕ (Int)) =>
 y1.elim (fun y1 => (cmp_Compare_int (a0.length : Int) (a1.length : Int)).bind fun t37 =>
 some t37) (fun y1 => some y1)

noncomputable def colltable_Check_L0 (a0 : Collation) (v35 : Int) : Option (Stp (Int) ((Unit) ⊕ (Int))) :=
 cond (decide (v35 < (a0.Entries.length : Int))) ((idx a0.Entries v35).bind fun t38 =>
(colltable_checkEntry t38 a0.Base).bind fun t43 =>
 cond (!decide (t43 = 0)) (some (.done (.inr (t43)))) ((pv (decide (0 < v35))).bind fun b49 =>
(gM b49 (idx a0.Entries (wi (v35 - 1)))).bind fun t54 =>
(gM b49 (codepoint_Compare t54.Codes t38.Codes)).bind fun t59 =>
 cond (b49 && (decide (0 ≤ t59))) (some (.done (.inr (4)))) (some (.next (wi (v35 + 1)))))) (some (.done (.inl (()))))

noncomputable def colltable_Check (a0 : Collation) : Option (Int) :=
(pv (decide (a0.Base < 1))).bind fun b10 =>
(pv (b10 || (decide (65502 < a0.Base)))).bind fun b15 =>
(gM (!b15) (colltable_isWeight a0.Second)).bind fun t18 =>
(pv (b15 || (!t18))).bind fun b21 =>
(gM (!b21) (colltable_isWeight a0.Third)).bind fun t24 =>
 cond (b21 || (!t24)) (some 1) ((colltable_checkGroups a0).bind fun t28 =>
 cond (!decide (t28 = 0)) (some t28) ((loopM (fun (x : Int) => colltable_Check_L0 a0 x) 0).bind fun (y1 : (Unit) ⊕ (Int)) =>
 y1.elim (fun y1 => some 0) (fun y1 => some y1)))

noncomputable def ref43_weight (a0 : Int) : Option (Bool) :=
(pv (decide (1 ≤ a0))).bind fun b5 =>
 some (b5 && (decide (a0 ≤ 65535)))

noncomputable def ref11_Name_L0 (a0 : Str) (v3 : Int) : Option (Stp (Int) ((Unit) ⊕ (Bool))) :=
 cond (decide (v3 < (a0.length : Int))) ((sidx a0 v3).bind fun t13 =>
(pv (decide (65 ≤ t13))).bind fun b16 =>
(pv (b16 && (decide (t13 ≤ 90)))).bind fun b20 =>
(pv (decide (97 ≤ t13))).bind fun b23 =>
(pv (b20 || (b23 && (decide (t13 ≤ 122))))).bind fun b28 =>
(pv (decide (48 ≤ t13))).bind fun b31 =>
(pv (b28 || (b31 && (decide (t13 ≤ 57))))).bind fun b36 =>
 cond (!(b36 || (decide (t13 = 95)))) (some (.done (.inr (false)))) (some (.next (wi (v3 + 1))))) (some (.done (.inl (()))))

noncomputable def ref11_Name (a0 : Str) : Option (Bool) :=
(loopM (fun (x : Int) => ref11_Name_L0 a0 x) 0).bind fun (y1 : (Unit) ⊕ (Bool)) =>
 y1.elim (fun y1 => (pv (decide (1 ≤ (a0.length : Int)))).bind fun b44 =>
 some (b44 && (decide ((a0.length : Int) ≤ 32)))) (fun y1 => some y1)

noncomputable def ref43_groups_L0 (a0 : Collation) (v4 : Int) : Option (Stp (Int) ((Unit) ⊕ (Int))) :=
 cond (decide (v4 < (a0.Groups.length : Int))) ((idx a0.Groups v4).bind fun t19 =>
(ref11_Name t19.Name).bind fun t22 =>
 cond (!t22) (some (.done (.inr (6)))) (some (.next (wi (v4 + 1))))) (some (.done (.inl (()))))

noncomputable def ref43_groups_L2 (v5 : Int) (a0 : Collation) (v6 : Int) : Option (Stp (Int) ((Unit) ⊕ (Int))) :=
 cond (decide (v6 < v5)) ((idx a0.Groups v6).bind fun t37 =>
(idx a0.Groups v5).bind fun t42 =>
 cond (t37.Name == t42.Name) (some (.done (.inr (5)))) (some (.next (wi (v6 + 1))))) (some (.done (.inl (()))))

noncomputable def ref43_groups_L1 (a0 : Collation) (v5 : Int) : Option (Stp (Int) ((Unit) ⊕ (Int))) :=
 cond (decide (v5 < (a0.Groups.length : Int))) ((loopM (fun (x : Int) => ref43_groups_L2 v5 a0 x) 0).bind fun (y3 : (Unit) ⊕ (Int)) =>
 y3.elim (fun y3 => some (.next (wi (v5 + 1)))) (fun y3 => some (.done (.inr (y3))))) (some (.done (.inl (()))))

noncomputable def ref43_groups_L3 (a0 : Collation) (v7 : Int) : Option (Stp (Int) ((Unit) ⊕ (Int))) :=
 cond (decide (v7 < (a0.Groups.length : Int))) ((idx a0.Groups v7).bind fun t54 =>
(pv (decide (t54.Lo < 1))).bind fun b58 =>
(gM (!b58) (idx a0.Groups v7)).bind fun t61 =>
(gM (!b58) (idx a0.Groups v7)).bind fun t66 =>
(pv (b58 || (decide (t61.Hi < t66.Lo)))).bind fun b71 =>
(gM (!b71) (idx a0.Groups v7)).bind fun t74 =>
 cond (b71 || (decide (a0.Base ≤ t74.Hi))) (some (.done (.inr (1)))) (some (.next (wi (v7 + 1))))) (some (.done (.inl (()))))

noncomputable def ref43_groups_L4 (a0 : Collation) (v8 : Int) : Option (Stp (Int) ((Unit) ⊕ (Int))) :=
 cond (decide (v8 < (a0.Groups.length : Int))) ((idx a0.Groups v8).bind fun t89 =>
(idx a0.Groups (wi (v8 - 1))).bind fun t95 =>
 cond (!decide (t89.Lo = (wi (t95.Hi + 1)))) (some (.done (.inr (4)))) (some (.next (wi (v8 + 1))))) (some (.done (.inl (()))))

noncomputable def ref43_groups (a0 : Collation) : Option (Int) :=
(loopM (fun (x : Int) => ref43_groups_L0 a0 x) 0).bind fun (y1 : (Unit) ⊕ (Int)) =>
 y1.elim (fun y1 => (loopM (fun (x : Int) => ref43_groups_L1 a0 x) 0).bind fun (y2 : (Unit) ⊕ (Int)) =>
 y2.elim (fun y2 => (loopM (fun (x : Int) => ref43_groups_L3 a0 x) 0).bind fun (y4 : (Unit) ⊕ (Int)) =>
 y4.elim (fun y4 => (loopM (fun (x : Int) => ref43_groups_L4 a0 x) 1).bind fun (y5 : (Unit) ⊕ (Int)) =>
 y5.elim (fun y5 => some 0) (fun y5 => some y5)) (fun y4 => some y4)) (fun y2 => some y2)) (fun y1 => some y1)

noncomputable def ref01_Valid (a0 : Int) : Option (Bool) :=
(pv (decide (0 ≤ a0))).bind fun b5 =>
 some (b5 && (decide (a0 ≤ 1114111)))

noncomputable def ref42_weight (a0 : Int) : Option (Bool) :=
(pv (decide (0 ≤ a0))).bind fun b5 =>
 some (b5 && (decide (a0 ≤ 65535)))

noncomputable def ref42_Check (a0 : Element) : Option (Int) :=
(ref42_weight a0.Primary).bind fun t5 =>
(pv (!t5)).bind fun b7 =>
(gM (!b7) (ref42_weight a0.Secondary)).bind fun t10 =>
(pv (b7 || (!t10))).bind fun b13 =>
(gM (!b13) (ref42_weight a0.Tertiary)).bind fun t16 =>
 cond (b13 || (!t16)) (some 1) ((pv (!decide (a0.Primary = 0))).bind fun b22 =>
(pv (decide (a0.Secondary = 0))).bind fun b26 =>
(pv (b22 && (b26 || (decide (a0.Tertiary = 0))))).bind fun b32 =>
(pv (!decide (a0.Secondary = 0))).bind fun b36 =>
(pv (b32 || (b36 && (decide (a0.Tertiary = 0))))).bind fun b42 =>
(pv a0.Variable).bind fun b45 =>
 cond (b42 || (b45 && (decide (a0.Primary = 0)))) (some 11) (some 0))

noncomputable def ref01_Compare_L0 (a0 : (List Int)) (a1 : (List Int)) (v5 : Int) : Option (Stp (Int) ((Unit) ⊕ (Int))) :=
(pv (decide (v5 < (a0.length : Int)))).bind fun b10 =>
 cond (b10 && (decide (v5 < (a1.length : Int)))) ((idx a0 v5).bind fun t20 =>
(idx a1 v5).bind fun t24 =>
 cond (decide (t20 < t24)) (some (.done (.inr ((-1))))) ((idx a0 v5).bind fun t29 =>
(idx a1 v5).bind fun t33 =>
 cond (decide (t33 < t29)) (some (.done (.inr (1)))) (some (.next (wi (v5 + 1)))))) (some (.done (.inl (()))))

noncomputable def ref01_Compare (a0 : (List Int)) (a1 : (List Int)) : Option (Int) :=
(loopM (fun (x : Int) => ref01_Compare_L0 a0 a1 x) 0).bind fun (y1 : (Unit) ⊕ (Int)) =>
 y1.elim (fun y1 => cond (decide ((a0.length : Int) < (a1.length : Int))) (some (-1)) (cond (decide ((a1.length : Int) < (a0.length : Int))) (some 1) (some 0))) (fun y1 => some y1)

noncomputable def ref43_entry_L0 (t13 : Entry) (v6 : Int) : Option (Stp (Int) ((Unit) ⊕ (Int))) :=
 cond (decide (v6 < (t13.Codes.length : Int))) ((idx t13.Codes v6).bind fun t41 =>
(ref01_Valid t41).bind fun t43 =>
 cond (!t43) (some (.done (.inr (1)))) (some (.next (wi (v6 + 1))))) (some (.done (.inl (()))))

noncomputable def ref43_entry_L1 (t13 : Entry) (v7 : Int) : Option (Stp (Int) ((Unit) ⊕ (Int))) :=
 cond (decide (v7 < (t13.Elements.length : Int))) ((idx t13.Elements v7).bind fun t55 =>
(ref42_Check t55).bind fun t57 =>
 cond (!decide (t57 = 0)) (some (.done (.inr (t57)))) (some (.next (wi (v7 + 1))))) (some (.done (.inl (()))))

noncomputable def ref43_entry_L2 (t13 : Entry) (a0 : Collation) (v9 : Int) : Option (Stp (Int) ((Unit) ⊕ (Int))) :=
 cond (decide (v9 < (t13.Elements.length : Int))) ((idx t13.Elements v9).bind fun t71 =>
 cond (decide (a0.Base ≤ t71.Primary)) (some (.done (.inr (1)))) (some (.next (wi (v9 + 1))))) (some (.done (.inl (()))))

noncomputable def ref43_entry (a0 : Collation) (a1 : Int) : Option (Int) :=
(idx a0.Entries a1).bind fun t13 =>
(pv (decide ((t13.Codes.length : Int) < 1))).bind fun b19 =>
(pv (b19 || (decide (8 < (t13.Codes.length : Int))))).bind fun b25 =>
 cond (b25 || (decide (16 < (t13.Elements.length : Int)))) (some 2) ((loopM (fun (x : Int) => ref43_entry_L0 t13 x) 0).bind fun (y1 : (Unit) ⊕ (Int)) =>
 y1.elim (fun y1 => (loopM (fun (x : Int) => ref43_entry_L1 t13 x) 0).bind fun (y2 : (Unit) ⊕ (Int)) =>
 y2.elim (fun y2 => (loopM (fun (x : Int) => ref43_entry_L2 t13 a0 x) 0).bind fun (y3 : (Unit) ⊕ (Int)) =>
 y3.elim (fun y3 => (pv (decide (0 < a1))).bind fun b79 =>
(gM b79 (idx a0.Entries (wi (a1 - 1)))).bind fun t84 =>
(gM b79 (ref01_Compare t84.Codes t13.Codes)).bind fun t89 =>
 cond (b79 && (decide (0 ≤ t89))) (some 4) (some 0)) (fun y3 => some y3)) (fun y2 => some y2)) (fun y1 => some y1))

noncomputable def ref43_Check_L0 (a0 : Collation) (v4 : Int) : Option (Stp (Int) ((Unit) ⊕ (Int))) :=
 cond (decide (v4 < (a0.Entries.length : Int))) ((ref43_entry a0 v4).bind fun t40 =>
 cond (!decide (t40 = 0)) (some (.done (.inr (t40)))) (some (.next (wi (v4 + 1))))) (some (.done (.inl (()))))

noncomputable def ref43_Check (a0 : Collation) : Option (Int) :=
(pv (decide (a0.Base < 1))).bind fun b9 =>
(pv (b9 || (decide (65502 < a0.Base)))).bind fun b14 =>
(gM (!b14) (ref43_weight a0.Second)).bind fun t17 =>
(pv (b14 || (!t17))).bind fun b20 =>
(gM (!b20) (ref43_weight a0.Third)).bind fun t23 =>
 cond (b20 || (!t23)) (some 1) ((ref43_groups a0).bind fun t27 =>
 cond (!decide (t27 = 0)) (some t27) ((loopM (fun (x : Int) => ref43_Check_L0 a0 x) 0).bind fun (y1 : (Unit) ⊕ (Int)) =>
 y1.elim (fun y1 => some 0) (fun y1 => some y1)))

def slices_Clone_int_int (a0 : (List Int)) : Option ((List Int)) := app [] a0

noncomputable def colltable_keyOf (a0 : (List Int)) : Option (A9Int) :=
 some ({ x0 := ({ x0 := (a0.length : Int), x1 := 0, x2 := 0, x3 := 0, x4 := 0, x5 := 0, x6 := 0, x7 := 0, x8 := 0 } : A9Int).x0, x1 := cpA a0 0 (({ x0 := (a0.length : Int), x1 := 0, x2 := 0, x3 := 0, x4 := 0, x5 := 0, x6 := 0, x7 := 0, x8 := 0 } : A9Int).x1), x2 := cpA a0 1 (({ x0 := (a0.length : Int), x1 := 0, x2 := 0, x3 := 0, x4 := 0, x5 := 0, x6 := 0, x7 := 0, x8 := 0 } : A9Int).x2), x3 := cpA a0 2 (({ x0 := (a0.length : Int), x1 := 0, x2 := 0, x3 := 0, x4 := 0, x5 := 0, x6 := 0, x7 := 0, x8 := 0 } : A9Int).x3), x4 := cpA a0 3 (({ x0 := (a0.length : Int), x1 := 0, x2 := 0, x3 := 0, x4 := 0, x5 := 0, x6 := 0, x7 := 0, x8 := 0 } : A9Int).x4), x5 := cpA a0 4 (({ x0 := (a0.length : Int), x1 := 0, x2 := 0, x3 := 0, x4 := 0, x5 := 0, x6 := 0, x7 := 0, x8 := 0 } : A9Int).x5), x6 := cpA a0 5 (({ x0 := (a0.length : Int), x1 := 0, x2 := 0, x3 := 0, x4 := 0, x5 := 0, x6 := 0, x7 := 0, x8 := 0 } : A9Int).x6), x7 := cpA a0 6 (({ x0 := (a0.length : Int), x1 := 0, x2 := 0, x3 := 0, x4 := 0, x5 := 0, x6 := 0, x7 := 0, x8 := 0 } : A9Int).x7), x8 := cpA a0 7 (({ x0 := (a0.length : Int), x1 := 0, x2 := 0, x3 := 0, x4 := 0, x5 := 0, x6 := 0, x7 := 0, x8 := 0 } : A9Int).x8) } : A9Int)

noncomputable def colltable_made_L0 (y1 : (List Entry) × (List Group) × Int × Int × Int) (v17 : Int) (r11 : (List (A9Int × (List Element)))) (k13_6 : Int) : Option (Stp (Int × (List (A9Int × (List Element))) × Int) (((List (A9Int × (List Element))) × Int))) :=
 cond (decide (v17 < (y1.1.length : Int))) ((idx y1.1 v17).bind fun t19 =>
(colltable_keyOf t19.Codes).bind fun t27 =>
 some (.next (wi (v17 + 1), mput r11 t27 t19.Elements, max k13_6 (t19.Codes.length : Int)))) (some (.done (r11, k13_6)))

noncomputable def colltable_made (a0 : Collation) : Option (Colltable_table) :=
(colltable_Check ({ Entries := a0.Entries, Groups := a0.Groups, Base := a0.Base, Second := a0.Second, Third := a0.Third } : Collation)).bind fun t7 =>
(cond (!decide (t7 = 0)) (some (({ Entries := [], Groups := [], Base := 64448, Second := 32, Third := 2 } : Collation).Entries, ({ Entries := [], Groups := [], Base := 64448, Second := 32, Third := 2 } : Collation).Groups, ({ Entries := [], Groups := [], Base := 64448, Second := 32, Third := 2 } : Collation).Base, ({ Entries := [], Groups := [], Base := 64448, Second := 32, Third := 2 } : Collation).Second, ({ Entries := [], Groups := [], Base := 64448, Second := 32, Third := 2 } : Collation).Third)) (some (a0.Entries, a0.Groups, a0.Base, a0.Second, a0.Third))).bind fun (y1 : (List Entry) × (List Group) × Int × Int × Int) =>
(loopM (fun (x : Int × (List (A9Int × (List Element))) × Int) => colltable_made_L0 y1 x.1 x.2.1 x.2.2) (0, [], 0)).bind fun (y2 : (List (A9Int × (List Element))) × Int) =>
 some ({ c := ({ Entries := ({ Entries := y1.1, Groups := y1.2.1, Base := y1.2.2.1, Second := y1.2.2.2.1, Third := y1.2.2.2.2 } : Collation).Entries, Groups := ({ Entries := y1.1, Groups := y1.2.1, Base := y1.2.2.1, Second := y1.2.2.2.1, Third := y1.2.2.2.2 } : Collation).Groups, Base := ({ Entries := y1.1, Groups := y1.2.1, Base := y1.2.2.1, Second := y1.2.2.2.1, Third := y1.2.2.2.2 } : Collation).Base, Second := ({ Entries := y1.1, Groups := y1.2.1, Base := y1.2.2.1, Second := y1.2.2.2.1, Third := y1.2.2.2.2 } : Collation).Second, Third := ({ Entries := y1.1, Groups := y1.2.1, Base := y1.2.2.1, Second := y1.2.2.2.1, Third := y1.2.2.2.2 } : Collation).Third } : Collation), entries := y2.1, longest := y2.2, classes := [], top := 0 } : Colltable_table)

noncomputable def ordering_Check_L0 (a0 : (List Span)) (v14 : Int) : Option (Stp (Int) ((Unit) ⊕ (Int))) :=
 cond (decide (v14 < (a0.length : Int))) ((idx a0 v14).bind fun t16 =>
(pv (decide (t16.Lo < 0))).bind fun b21 =>
(pv (b21 || (decide (1114111 < t16.Hi)))).bind fun b26 =>
(pv (b26 || (decide (t16.Hi < t16.Lo)))).bind fun b33 =>
(pv (b33 || (decide (t16.Value < 1)))).bind fun b38 =>
 cond (b38 || (decide (254 < t16.Value))) (some (.done (.inr (1)))) (some (.next (wi (v14 + 1))))) (some (.done (.inl (()))))

noncomputable def ordering_Check_L1 (a0 : (List Span)) (v5 : Int) : Option (Stp (Int) ((Unit) ⊕ (Int))) :=
 cond (decide (v5 < (a0.length : Int))) ((idx a0 (wi (v5 - 1))).bind fun t53 =>
(idx a0 v5).bind fun t57 =>
(pv (decide (t57.Lo ≤ t53.Hi))).bind fun b64 =>
(pv (decide (t57.Lo = (wi (t53.Hi + 1))))).bind fun b71 =>
 cond (b64 || (b71 && (decide (t57.Value = t53.Value)))) (some (.done (.inr (4)))) (some (.next (wi (v5 + 1))))) (some (.done (.inl (()))))

noncomputable def ordering_Check_L3 (t85 : A4Range) (t83 : Span) (v86 : Int) : Option (Stp (Int) ((Unit) ⊕ (Int))) :=
 cond (decide (v86 < 4)) ((idx [t85.x0, t85.x1, t85.x2, t85.x3] v86).bind fun t88 =>
(pv (decide (t83.Lo ≤ t88.Hi))).bind fun b94 =>
 cond (b94 && (decide (t88.Lo ≤ t83.Hi))) (some (.done (.inr (11)))) (some (.next (wi (v86 + 1))))) (some (.done (.inl (()))))

noncomputable def ordering_Check_L2 (a0 : (List Span)) (v81 : Int) : Option (Stp (Int) ((Unit) ⊕ (Int))) :=
 cond (decide (v81 < (a0.length : Int))) ((idx a0 v81).bind fun t83 =>
(pv ({ x0 := ({ Lo := 4352, Hi := 4370 } : Range), x1 := ({ Lo := 4449, Hi := 4469 } : Range), x2 := ({ Lo := 4520, Hi := 4546 } : Range), x3 := ({ Lo := 44032, Hi := 55203 } : Range) } : A4Range)).bind fun t85 =>
(loopM (fun (x : Int) => ordering_Check_L3 t85 t83 x) 0).bind fun (y4 : (Unit) ⊕ (Int)) =>
 y4.elim (fun y4 => some (.next (wi (v81 + 1)))) (fun y4 => some (.done (.inr (y4))))) (some (.done (.inl (()))))

noncomputable def ordering_Check (a0 : (List Span)) : Option (Int) :=
(loopM (fun (x : Int) => ordering_Check_L0 a0 x) 0).bind fun (y1 : (Unit) ⊕ (Int)) =>
 y1.elim (fun y1 => (loopM (fun (x : Int) => ordering_Check_L1 a0 x) 1).bind fun (y2 : (Unit) ⊕ (Int)) =>
 y2.elim (fun y2 => (loopM (fun (x : Int) => ordering_Check_L2 a0 x) 0).bind fun (y3 : (Unit) ⊕ (Int)) =>
 y3.elim (fun y3 => some 0) (fun y3 => some y3)) (fun y2 => some y2)) (fun y1 => some y1)

noncomputable def mapping_isName_L0 (a0 : Str) (v15 : Int) : Option (Stp (Int) ((Unit) ⊕ (Bool))) :=
 cond (decide (v15 < (a0.length : Int))) ((sidx a0 v15).bind fun t20 =>
(pv (decide (65 ≤ t20))).bind fun b23 =>
(pv (b23 && (decide (t20 ≤ 90)))).bind fun b27 =>
(pv (decide (97 ≤ t20))).bind fun b30 =>
(pv (!(b27 || (b30 && (decide (t20 ≤ 122)))))).bind fun b37 =>
(pv (decide (48 ≤ t20))).bind fun b40 =>
(pv (b37 && (!(b40 && (decide (t20 ≤ 57)))))).bind fun b46 =>
 cond (b46 && (!decide (t20 = 95))) (some (.done (.inr (false)))) (some (.next (wi (v15 + 1))))) (some (.done (.inl (()))))

noncomputable def mapping_isName (a0 : Str) : Option (Bool) :=
(pv (a0 == [])).bind fun b8 =>
 cond (b8 || (decide (32 < (a0.length : Int)))) (some false) ((loopM (fun (x : Int) => mapping_isName_L0 a0 x) 0).bind fun (y1 : (Unit) ⊕ (Bool)) =>
 y1.elim (fun y1 => some true) (fun y1 => some y1))

noncomputable def mapping_parts_L1 (t15 : Mapping) (v24 : Int) : Option (Stp (Int) ((Unit) ⊕ (Int))) :=
 cond (decide (v24 < (t15.To.length : Int))) ((idx t15.To v24).bind fun t26 =>
(codepoint_Valid t26).bind fun t29 =>
 cond (!t29) (some (.done (.inr (1)))) (some (.next (wi (v24 + 1))))) (some (.done (.inl (()))))

noncomputable def mapping_parts_L0 (a0 : (List Mapping)) (v13 : Int) : Option (Stp (Int) ((Unit) ⊕ (Int))) :=
 cond (decide (v13 < (a0.length : Int))) ((idx a0 v13).bind fun t15 =>
(codepoint_Valid t15.From).bind fun t19 =>
 cond (!t19) (some (.done (.inr (1)))) ((loopM (fun (x : Int) => mapping_parts_L1 t15 x) 0).bind fun (y2 : (Unit) ⊕ (Int)) =>
 y2.elim (fun y2 => some (.next (wi (v13 + 1)))) (fun y2 => some (.done (.inr (y2)))))) (some (.done (.inl (()))))

noncomputable def mapping_parts_L2 (a0 : (List Mapping)) (v35 : Int) : Option (Stp (Int) ((Unit) ⊕ (Int))) :=
 cond (decide (v35 < (a0.length : Int))) ((idx a0 v35).bind fun t37 =>
 cond (decide (64 < (t37.To.length : Int))) (some (.done (.inr (2)))) (some (.next (wi (v35 + 1))))) (some (.done (.inl (()))))

noncomputable def mapping_parts_L3 (a0 : (List Mapping)) (v46 : Int) : Option (Stp (Int) ((Unit) ⊕ (Int))) :=
 cond (decide (v46 < (a0.length : Int))) ((idx a0 v46).bind fun t48 =>
(pv (!(t48.Tag == []))).bind fun b53 =>
(gM b53 (mapping_isName t48.Tag)).bind fun t56 =>
 cond (b53 && (!t56)) (some (.done (.inr (6)))) (some (.next (wi (v46 + 1))))) (some (.done (.inl (()))))

noncomputable def mapping_parts (a0 : (List Mapping)) : Option (Int) :=
(loopM (fun (x : Int) => mapping_parts_L0 a0 x) 0).bind fun (y1 : (Unit) ⊕ (Int)) =>
 y1.elim (fun y1 => (loopM (fun (x : Int) => mapping_parts_L2 a0 x) 0).bind fun (y3 : (Unit) ⊕ (Int)) =>
 y3.elim (fun y3 => (loopM (fun (x : Int) => mapping_parts_L3 a0 x) 0).bind fun (y4 : (Unit) ⊕ (Int)) =>
 y4.elim (fun y4 => some 0) (fun y4 => some y4)) (fun y3 => some y3)) (fun y1 => some y1)

noncomputable def cmp_isNaN_string (a0 : Str) : Option (Bool) :=
 some (!(a0 == a0))

noncomputable def cmp_Compare_string (a0 : Str) (a1 : Str) : Option (Int) :=
(cmp_isNaN_string a0).bind fun t8 =>
(cmp_isNaN_string a1).bind fun t10 =>
 cond t8 (cond t10 (some 0) (some (-1))) (cond t10 (some 1) (cond (Op.bytesLess a0 a1) (some (-1)) (cond (!Op.bytesLess a0 a1 && !(a0 == a1)) (some 1) (some 0))))

noncomputable def cmp_Or_int_L0 (a0 : (List Int)) (v8 : Int) : Option (Stp (Int) ((Unit) ⊕ (Int))) :=
 cond (decide (v8 < (a0.length : Int))) ((idx a0 v8).bind fun t10 =>
 cond (!decide (t10 = 0)) (some (.done (.inr (t10)))) (some (.next (wi (v8 + 1))))) (some (.done (.inl (()))))

noncomputable def cmp_Or_int (a0 : (List Int)) : Option (Int) :=
(loopM (fun (x : Int) => cmp_Or_int_L0 a0 x) 0).bind fun (y1 : (Unit) ⊕ (Int)) =>
 y1.elim (fun y1 => some 0) (fun y1 => some y1)

noncomputable def mapping_compare (a0 : Mapping) (a1 : Mapping) : Option (Int) :=
(cmp_Compare_int a0.From a1.From).bind fun t9 =>
(cmp_Compare_string a0.Tag a1.Tag).bind fun t14 =>
(cmp_Or_int [t9, t14]).bind fun t16 =>
 some t16

noncomputable def mapping_keyOf (a0 : Mapping) : Option (Mapping_key) :=
 some ({ from_ := a0.From, tag := a0.Tag } : Mapping_key)

noncomputable def mapping_Check_L0 (a0 : (List Mapping)) (v4 : Bool) (v5 : Int) : Option (Stp (Bool × Int) ((Bool))) :=
 cond (decide (v5 < (a0.length : Int))) (((idx a0 (wi (v5 - 1))).bind fun t23 =>
(idx a0 v5).bind fun t27 =>
(mapping_compare t23 t27).bind fun t29 =>
 cond (decide (0 ≤ t29)) (some false) (some v4)).bind fun (y2 : Bool) =>
 some (.next (y2, wi (v5 + 1)))) (some (.done v4))

noncomputable def mapping_Check_L1 (a0 : (List Mapping)) (v35 : Int) (r32 : (List (Mapping_key × Bool))) : Option (Stp (Int × (List (Mapping_key × Bool))) ((Unit) ⊕ (Int))) :=
 cond (decide (v35 < (a0.length : Int))) ((idx a0 v35).bind fun t37 =>
(mapping_keyOf t37).bind fun t41 =>
 cond (mgetD r32 t41 false) (some (.done (.inr (5)))) ((mapping_keyOf t37).bind fun t45 =>
 some (.next (wi (v35 + 1), mput r32 t45 true)))) (some (.done (.inl (()))))

noncomputable def mapping_Check (a0 : (List Mapping)) : Option (Int) :=
(mapping_parts a0).bind fun t10 =>
 cond (!decide (t10 = 0)) (some t10) ((loopM (fun (x : Bool × Int) => mapping_Check_L0 a0 x.1 x.2) (true, 1)).bind fun (y1 : Bool) =>
 cond y1 (some 0) ((loopM (fun (x : Int × (List (Mapping_key × Bool))) => mapping_Check_L1 a0 x.1 x.2) (0, [])).bind fun (y3 : (Unit) ⊕ (Int)) =>
 y3.elim (fun y3 => some 4) (fun y3 => some y3)))

def slices_SortFunc_api_Range_api_Range (l : (List Range)) : Option ((List Range)) := if l = [] then some [] else none

noncomputable def cpset_Make_1 (a0 : Range) (a1 : Range) : Option (Int) :=
(cmp_Compare_int a0.Lo a1.Lo).bind fun t9 =>
(cmp_Compare_int a0.Hi a1.Hi).bind fun t14 =>
(cmp_Or_int [t9, t14]).bind fun t16 =>
 some t16

noncomputable def cpset_Make_L0 (a0 : (List Range)) (v13 : Int) (r1003 : (List Range)) : Option (Stp (Int × (List Range)) (((List Range)))) :=
 cond (decide (v13 < (a0.length : Int))) (((idx a0 v13).bind fun t15 =>
 cond (decide ((({ Lo := max t15.Lo 0, Hi := min t15.Hi 1114111 } : Range).Lo) ≤ (({ Lo := max t15.Lo 0, Hi := min t15.Hi 1114111 } : Range).Hi))) ((app r1003 [({ Lo := max t15.Lo 0, Hi := min t15.Hi 1114111 } : Range)]).bind fun r1003_3 =>
 some r1003_3) (some r1003)).bind fun (y2 : (List Range)) =>
 some (.next (wi (v13 + 1), y2))) (some (.done r1003))

noncomputable def cpset_Make_L1 (r1003_4 : (List Range)) (v38 : Int) (r1007 : (List Range)) : Option (Stp (Int × (List Range)) (((List Range)))) :=
 cond (decide (v38 < (r1003_4.length : Int))) (((idx r1003_4 v38).bind fun t40 =>
(pv (decide (0 < (r1007.length : Int)))).bind fun b46 =>
(gM b46 (idx r1007 (wi ((r1007.length : Int) - 1)))).bind fun t52 =>
 cond (b46 && (decide (t40.Lo ≤ (wi (t52.Hi + 1))))) ((idx r1007 (wi ((r1007.length : Int) - 1))).bind fun t64 =>
(idx r1007 (wi ((r1007.length : Int) - 1))).bind fun t70 =>
(setM r1007 (wi ((r1007.length : Int) - 1)) ({ t70 with Hi := max t64.Hi t40.Hi })).bind fun r1007_7 =>
 some r1007_7) ((app r1007 [t40]).bind fun r1007_8 =>
 some r1007_8)).bind fun (y6 : (List Range)) =>
 some (.next (wi (v38 + 1), y6))) (some (.done r1007))

noncomputable def cpset_Make (a0 : (List Range)) : Option (Set) :=
(loopM (fun (x : Int × (List Range)) => cpset_Make_L0 a0 x.1 x.2) (0, [])).bind fun (y1 : (List Range)) =>
(slices_SortFunc_api_Range_api_Range y1).bind fun r1003_4 =>
(loopM (fun (x : Int × (List Range)) => cpset_Make_L1 r1003_4 x.1 x.2) (0, [])).bind fun (y5 : (List Range)) =>
 some ({ Ranges := y5 } : Set)

noncomputable def cpset_Valid_L0 (t8 : Set) (a0 : Set) (v19 : Int) : Option (Stp (Int) ((Unit) ⊕ (Bool))) :=
 cond (decide (v19 < (t8.Ranges.length : Int))) ((idx t8.Ranges v19).bind fun t22 =>
(idx a0.Ranges v19).bind fun t28 =>
 cond (!decide (t22 = t28)) (some (.done (.inr (false)))) (some (.next (wi (v19 + 1))))) (some (.done (.inl (()))))

noncomputable def cpset_Valid (a0 : Set) : Option (Bool) :=
(cpset_Make a0.Ranges).bind fun t8 =>
 cond (!decide ((t8.Ranges.length : Int) = (a0.Ranges.length : Int))) (some false) ((loopM (fun (x : Int) => cpset_Valid_L0 t8 a0 x) 0).bind fun (y1 : (Unit) ⊕ (Bool)) =>
 y1.elim (fun y1 => some true) (fun y1 => some y1))

noncomputable def hangul_Kind (a0 : Int) : Option (Int) :=
(pv (decide (4352 ≤ a0))).bind fun b6 =>
 cond (b6 && (decide (a0 < 4371))) (some 1) ((pv (decide (4449 ≤ a0))).bind fun b13 =>
 cond (b13 && (decide (a0 < 4470))) (some 2) ((pv (decide (4520 ≤ a0))).bind fun b20 =>
 cond (b20 && (decide (a0 < 4547))) (some 3) ((pv (decide (a0 < 44032))).bind fun b27 =>
 cond (b27 || (decide (55204 ≤ a0))) (some 0) ((remM (wi (a0 - 44032)) 28).bind fun t34 =>
 cond (decide (t34 = 0)) (some 4) (some 5)))))

noncomputable def ordering_usable (a0 : (List Span)) : Option ((List Span)) :=
(ordering_Check a0).bind fun t4 =>
 cond (!decide (t4 = 0)) (some []) (some a0)

noncomputable def slices_BinarySearchFunc_api_Span_api_Span_int_L0 (a0 : (List Span)) (a2 : Span → Int → Option (Int)) (a1 : Int) (v9 : Int) (v10 : Int) : Option (Stp (Int × Int) ((Int))) :=
 cond (decide (v9 < v10)) (((idx a0 (wi ((wu (wi (v9 + v10))) / 2 ^ 1))).bind fun t27 =>
(a2 t27 a1).bind fun t30 =>
 cond (decide (t30 < 0)) (some (wi ((wi ((wu (wi (v9 + v10))) / 2 ^ 1)) + 1), v10)) (some (v9, wi ((wu (wi (v9 + v10))) / 2 ^ 1)))).bind fun (y2 : Int × Int) =>
 some (.next (y2.1, y2.2))) (some (.done v9))

noncomputable def slices_BinarySearchFunc_api_Span_api_Span_int (a0 : (List Span)) (a1 : Int) (a2 : Span → Int → Option (Int)) : Option (Int × Bool) :=
(loopM (fun (x : Int × Int) => slices_BinarySearchFunc_api_Span_api_Span_int_L0 a0 a2 a1 x.1 x.2) (0, (a0.length : Int))).bind fun (y1 : Int) =>
(pv (decide (y1 < (a0.length : Int)))).bind fun b39 =>
(gM b39 (idx a0 y1)).bind fun t43 =>
(gM b39 (a2 t43 a1)).bind fun t46 =>
 some (y1, (b39 && (decide (t46 = 0))))

noncomputable def ordering_class_1 (a0 : Span) (a1 : Int) : Option (Int) :=
 cond (decide (a0.Hi < a1)) (some (-1)) (cond (decide (a1 < a0.Lo)) (some 1) (some 0))

noncomputable def ordering_class (a0 : (List Span)) (a1 : Int) : Option (Int) :=
(slices_BinarySearchFunc_api_Span_api_Span_int a0 a1 (fun x0 x1 => ordering_class_1 x0 x1)).bind fun t10 =>
 cond (!t10.2) (some 0) ((idx a0 t10.1).bind fun t17 =>
 some t17.Value)

noncomputable def ordering_runs_1_L0 (a1 : (List Int)) (a2 : (List Span)) (v4 : Int) (v10 : Int) : Option (Stp (Int × Int) ((Int))) :=
 cond (decide (v10 < (a1.length : Int))) (((idx a1 v10).bind fun t13 =>
(ordering_class a2 t13).bind fun t17 =>
((pv (!(decide (t17 = 0)))).bind fun b22 =>
 cond (b22 && (decide (v4 < 0))) (some v10) ((pv (decide (t17 = 0))).bind fun b29 =>
 cond (b29 && (decide (0 ≤ v4))) (none) (some v4))).bind fun (y3 : Int) =>
 some y3).bind fun (y2 : Int) =>
 some (.next (y2, wi (v10 + 1)))) (some (.done v4))

noncomputable def ordering_runs_1 (a1 : (List Int)) (a2 : (List Span)) : Option (Unit) :=
(loopM (fun (x : Int × Int) => ordering_runs_1_L0 a1 a2 x.1 x.2) ((-1), 0)).bind fun (y1 : Int) =>
 cond (decide (0 ≤ y1)) (none) (some ())

noncomputable def ordering_Runs (a0 : List Span) (a1 : List Int) : Option (List Range) := (ordering_usable a0).bind fun t6 => (ordering_runs_1 a1 t6).bind fun _ => some []

noncomputable def hangul_parts (a0 : Int) : Option (A3Int) :=
(hangul_Kind a0).bind fun t6 =>
 cond (decide (t6 < 4)) (some ({ x0 := 0, x1 := 0, x2 := 0 } : A3Int)) ((divM wi (wi (a0 - 44032)) 28).bind fun t12 =>
(divM wi t12 21).bind fun t13 =>
(divM wi (wi (a0 - 44032)) 28).bind fun t16 =>
(remM t16 21).bind fun t17 =>
(remM (wi (a0 - 44032)) 28).bind fun t21 =>
(cond (decide (0 < t21)) ((remM (wi (a0 - 44032)) 28).bind fun t24 =>
 some (wi ((wi (4520 + t24)) - 1))) (some (({ x0 := wi (4352 + t13), x1 := wi (4449 + t17), x2 := 0 } : A3Int).x2))).bind fun (y1 : Int) =>
 some ({ x0 := ({ x0 := wi (4352 + t13), x1 := wi (4449 + t17), x2 := 0 } : A3Int).x0, x1 := ({ x0 := wi (4352 + t13), x1 := wi (4449 + t17), x2 := 0 } : A3Int).x1, x2 := y1 } : A3Int))

noncomputable def hangul_Decompose (a0 : Int) : Option ((List Int)) :=
(hangul_parts a0).bind fun t5 =>
 cond (decide (t5 = ({ x0 := 0, x1 := 0, x2 := 0 } : A3Int))) (some [a0]) (cond (decide (t5.x2 = 0)) (some [t5.x0, t5.x1]) (some [t5.x0, t5.x1, t5.x2]))

noncomputable def slices_BinarySearchFunc_api_Mapping_api_Mapping_int_L0 (a0 : (List Mapping)) (a2 : Mapping → Int → Option (Int)) (a1 : Int) (v9 : Int) (v10 : Int) : Option (Stp (Int × Int) ((Int))) :=
 cond (decide (v9 < v10)) (((idx a0 (wi ((wu (wi (v9 + v10))) / 2 ^ 1))).bind fun t27 =>
(a2 t27 a1).bind fun t30 =>
 cond (decide (t30 < 0)) (some (wi ((wi ((wu (wi (v9 + v10))) / 2 ^ 1)) + 1), v10)) (some (v9, wi ((wu (wi (v9 + v10))) / 2 ^ 1)))).bind fun (y2 : Int × Int) =>
 some (.next (y2.1, y2.2))) (some (.done v9))

noncomputable def slices_BinarySearchFunc_api_Mapping_api_Mapping_int (a0 : (List Mapping)) (a1 : Int) (a2 : Mapping → Int → Option (Int)) : Option (Int × Bool) :=
(loopM (fun (x : Int × Int) => slices_BinarySearchFunc_api_Mapping_api_Mapping_int_L0 a0 a2 a1 x.1 x.2) (0, (a0.length : Int))).bind fun (y1 : Int) =>
(pv (decide (y1 < (a0.length : Int)))).bind fun b39 =>
(gM b39 (idx a0 y1)).bind fun t43 =>
(gM b39 (a2 t43 a1)).bind fun t46 =>
 some (y1, (b39 && (decide (t46 = 0))))

noncomputable def decompose_once_1 (a0 : Mapping) (a1 : Int) : Option (Int) :=
(cmp_Compare_int a0.From a1).bind fun t8 =>
 some t8

noncomputable def decompose_once (a0 : Norm) (a1 : Int) (a2 : Bool) : Option ((List Int) × Bool) :=
(hangul_Kind a1).bind fun t11 =>
 cond (decide (4 ≤ t11)) ((hangul_Decompose a1).bind fun t14 =>
 some (t14, true)) ((slices_BinarySearchFunc_api_Mapping_api_Mapping_int a0.Decomp a1 (fun x0 x1 => decompose_once_1 x0 x1)).bind fun t19 =>
(pv (!t19.2)).bind fun b24 =>
(gM (!b24) (idx a0.Decomp t19.1)).bind fun t28 =>
(pv (!(t28.Tag == []))).bind fun b32 =>
 cond (b24 || (b32 && (!a2))) (some ([], false)) ((idx a0.Decomp t19.1).bind fun t40 =>
 some (t40.To, true)))

noncomputable def decompose_measure_L0 (a0 : Norm)  : Option (Stp (Unit) ((Unit))) :=
 cond (decide (0 < (a0.Decomp.length : Int))) ((idx a0.Decomp (0 : Int)).bind fun t15 =>
 none) (some (.done ()))

noncomputable def decompose_measure (a0 : Norm) : Option (Bool × Bool) :=
(loopM (fun (_ : Unit) => decompose_measure_L0 a0) ()).bind fun (y1 : Unit) =>
 some (false, false)

noncomputable def decompose_Check_L0 (a0 : Norm) (v5 : Int) : Option (Stp (Int) ((Unit) ⊕ (Int))) :=
 cond (decide (v5 < (a0.Decomp.length : Int))) ((idx a0.Decomp v5).bind fun t39 =>
(idx a0.Decomp (wi (v5 - 1))).bind fun t46 =>
 cond (decide (t39.From = t46.From)) (some (.done (.inr (5)))) (some (.next (wi (v5 + 1))))) (some (.done (.inl (()))))

noncomputable def decompose_Check_L1 (a0 : Norm) (v53 : Int) : Option (Stp (Int) ((Unit) ⊕ (Int))) :=
 cond (decide (v53 < (a0.Decomp.length : Int))) ((idx a0.Decomp v53).bind fun t55 =>
(pv (t55.Tag == [])).bind fun b60 =>
(pv (b60 && (!decide ((t55.To.length : Int) = 1)))).bind fun b66 =>
 cond (b66 && (!decide ((t55.To.length : Int) = 2))) (some (.done (.inr (8)))) (some (.next (wi (v53 + 1))))) (some (.done (.inl (()))))

noncomputable def decompose_Check_L2 (a0 : Norm) (v76 : Int) (r1008 : (List Int)) : Option (Stp (Int × (List Int)) (((List Int)) ⊕ (Int))) :=
 cond (decide (v76 < (a0.Decomp.length : Int))) (((idx a0.Decomp v76).bind fun t78 =>
(hangul_Kind t78.From).bind fun t82 =>
 cond (!decide (t82 = 0)) (some (.inr (()))) (cond (!(t78.Tag == [])) ((app r1008 [t78.From]).bind fun r1008_5 =>
 some (.inl (r1008_5))) (some (.inl (r1008))))).bind fun (y4 : ((List Int)) ⊕ (Unit)) =>
 y4.elim (fun y4 => some (.next (wi (v76 + 1), y4))) (fun y4 => some (.done (.inr (11))))) (some (.done (.inl (r1008))))

noncomputable def decompose_Check (a0 : Norm) : Option (Int) :=
(ordering_Check a0.Classes).bind fun t15 =>
 cond (!decide (t15 = 0)) (some t15) ((mapping_Check a0.Decomp).bind fun t21 =>
 cond (!decide (t21 = 0)) (some t21) ((cpset_Valid a0.Excluded).bind fun t27 =>
 cond (!t27) (some 11) ((loopM (fun (x : Int) => decompose_Check_L0 a0 x) 1).bind fun (y1 : (Unit) ⊕ (Int)) =>
 y1.elim (fun y1 => (loopM (fun (x : Int) => decompose_Check_L1 a0 x) 0).bind fun (y2 : (Unit) ⊕ (Int)) =>
 y2.elim (fun y2 => (loopM (fun (x : Int × (List Int)) => decompose_Check_L2 a0 x.1 x.2) (0, [])).bind fun (y3 : ((List Int)) ⊕ (Int)) =>
 y3.elim (fun y3 => (ordering_Runs a0.Classes y3).bind fun t96 =>
 cond (decide (0 < (t96.length : Int))) (some 11) ((decompose_measure a0).bind fun t101 =>
 cond t101.1 (some 12) (cond t101.2 (some 13) (some 0)))) (fun y3 => some y3)) (fun y2 => some y2)) (fun y1 => some y1))))

noncomputable def colltable_table_with_L0 (y1 : (List Span)) (v20 : Int) (k3000_8 : Int) : Option (Stp (Int × Int) ((Int))) :=
 cond (decide (v20 < (y1.length : Int))) ((idx y1 v20).bind fun t22 =>
 some (.next (wi (v20 + 1), max k3000_8 t22.Value))) (some (.done k3000_8))

noncomputable def colltable_table_with (a0 : Colltable_table) (a1 : Norm) : Option (Colltable_table) :=
(decompose_Check a1).bind fun t8 =>
(cond (decide (t8 = 0)) (some a1.Classes) (some a0.classes)).bind fun (y1 : (List Span)) =>
(loopM (fun (x : Int × Int) => colltable_table_with_L0 y1 x.1 x.2) (0, a0.top)).bind fun (y2 : Int) =>
 some ({ c := ({ Entries := a0.c.Entries, Groups := a0.c.Groups, Base := a0.c.Base, Second := a0.c.Second, Third := a0.c.Third } : Collation), entries := a0.entries, longest := a0.longest, classes := y1, top := y2 } : Colltable_table)

noncomputable def colltable_table_find (a0 : Colltable_table) (a1 : (List Int)) : Option ((List Element) × Bool) :=
(pv (decide ((a1.length : Int) = 0))).bind fun b11 =>
 cond (b11 || (decide (a0.longest < (a1.length : Int)))) (some ([], false)) ((colltable_keyOf a1).bind fun t26 =>
 some (mgetD a0.entries t26 [], mhas a0.entries t26))

noncomputable def colltable_table_implicit (a0 : Colltable_table) (a1 : Int) : Option ((List Element)) :=
(codepoint_Valid a1).bind fun t6 =>
 cond (!t6) (some []) ((divM wi a1 32768).bind fun t14 =>
(remM a1 32768).bind fun t28 =>
 some [({ Primary := wi (a0.c.Base + t14), Secondary := a0.c.Second, Tertiary := a0.c.Third, Variable := false } : Element), ({ Primary := wi (32768 + t28), Secondary := 0, Tertiary := 0, Variable := false } : Element)])

noncomputable def colltable_table_class_1 (a0 : Int) (a1 : Colltable_table) (a2 : Int) : Option (Bool) :=
(idx a1.classes a0).bind fun t10 =>
 some (decide (a2 ≤ t10.Hi))

noncomputable def sort_Search_L0 (a1 : Int → Option (Bool)) (v5 : Int) (v6 : Int) : Option (Stp (Int × Int) ((Int))) :=
 cond (decide (v5 < v6)) (((a1 (wi ((wu (wi (v5 + v6))) / 2 ^ 1))).bind fun t20 =>
 cond (!t20) (some (wi ((wi ((wu (wi (v5 + v6))) / 2 ^ 1)) + 1), v6)) (some (v5, wi ((wu (wi (v5 + v6))) / 2 ^ 1)))).bind fun (y2 : Int × Int) =>
 some (.next (y2.1, y2.2))) (some (.done v5))

noncomputable def sort_Search (a0 : Int) (a1 : Int → Option (Bool)) : Option (Int) :=
(loopM (fun (x : Int × Int) => sort_Search_L0 a1 x.1 x.2) (0, a0)).bind fun (y1 : Int) =>
 some y1

noncomputable def colltable_table_class (a0 : Colltable_table) (a1 : Int) : Option (Int) :=
(sort_Search (a0.classes.length : Int) (fun x0 => colltable_table_class_1 x0 a0 a1)).bind fun t12 =>
(pv (decide (t12 < (a0.classes.length : Int)))).bind fun b20 =>
(gM b20 (idx a0.classes t12)).bind fun t26 =>
 cond (b20 && (decide (t26.Lo ≤ a1))) ((idx a0.classes t12).bind fun t37 =>
 some t37.Value) (some 0)

noncomputable def colltable_table_match_L0 (a1 : (List Int)) (a0 : Colltable_table) (v7 : Int) : Option (Stp (Int) ((Int))) :=
 cond (decide (0 < v7)) ((slc a1 0 v7).bind fun t31 =>
(colltable_table_find a0 t31).bind fun t32 =>
 cond t32.2 (some (.done v7)) (some (.next (wi (v7 - 1))))) (some (.done v7))

noncomputable def colltable_table_match_L1 (a0 : Colltable_table) (v7 : Int) (v10 : Int) (v11 : Int) (r3001 : (List Int)) : Option (Stp (Int × Int × Int × (List Int)) ((Int × (List Int)))) :=
(pv (decide (v11 < (r3001.length : Int)))).bind fun b50 =>
 cond (b50 && (decide (v10 < a0.top))) (((idx r3001 v11).bind fun t62 =>
(colltable_table_class a0 t62).bind fun t66 =>
 cond (decide (t66 = 0)) (some (.inl (()))) (cond (decide (t66 ≤ v10)) (some (.inr ((v7, v10, r3001)))) ((slc r3001 0 v7).bind fun t77 =>
(app t77 [t62]).bind fun r80_4 =>
(colltable_table_find a0 r80_4).bind fun t81 =>
 cond (!t81.2) (some (.inr ((v7, t66, r3001)))) ((slc r3001 (wi (v7 + 1)) (wi (v11 + 1))).bind fun t92 =>
(slc r3001 v7 v11).bind fun t96 =>
(idx (cpM r3001 (wi (v7 + 1)) (wi (v11 + 1)) v7 v11) v7).bind fun t101 =>
(setM (cpM r3001 (wi (v7 + 1)) (wi (v11 + 1)) v7 v11) v7 t62).bind fun r3001_5 =>
 some (.inr ((wi (v7 + 1), v10, r3001_5))))))).bind fun (y3 : (Unit) ⊕ (Int × Int × (List Int))) =>
 y3.elim (fun y3 => some (.done (v7, r3001))) (fun y3 => some (.next (y3.1, y3.2.1, wi (v11 + 1), y3.2.2)))) (some (.done (v7, r3001)))

noncomputable def colltable_table_match (a0 : Colltable_table) (a1 : (List Int)) : Option (Int × (List Element) × Bool × (List Int)) :=
(loopM (fun (x : Int) => colltable_table_match_L0 a1 a0 x) (min a0.longest (a1.length : Int))).bind fun (y1 : Int) =>
 cond (decide (y1 = 0)) ((idx a1 (0 : Int)).bind fun t42 =>
(colltable_table_implicit a0 t42).bind fun t44 =>
 some (1, t44, false, a1)) ((loopM (fun (x : Int × Int × Int × (List Int)) => colltable_table_match_L1 a0 x.1 x.2.1 x.2.2.1 x.2.2.2) (y1, 0, y1, a1)).bind fun (y2 : Int × (List Int)) =>
(slc y2.2 0 y2.1).bind fun t108 =>
(colltable_table_find a0 t108).bind fun t109 =>
 some (y2.1, t109.1, true, y2.2))

def slices_Clone_api_Element_api_Element (a0 : (List Element)) : Option ((List Element)) := app [] a0

noncomputable def colltable_Step (a0 : Norm) (a1 : Collation) (a2 : (List Int)) : Option (Int × (List Int) × (List Element)) :=
 cond (decide ((a2.length : Int) = 0)) (some (0, [], [])) ((slices_Clone_int_int a2).bind fun t17 =>
(colltable_made a1).bind fun t20 =>
(colltable_table_with t20 a0).bind fun t22 =>
(colltable_table_match t22 t17).bind fun t24 =>
(slc t24.2.2.2 t24.1 (t24.2.2.2.length : Int)).bind fun t35 =>
(slices_Clone_api_Element_api_Element t24.2.1).bind fun t37 =>
 some (t24.1, t35, t37))

noncomputable def ref01_Equal (a0 : (List Int)) (a1 : (List Int)) : Option (Bool) :=
(ref01_Compare a0 a1).bind fun t7 =>
 some (decide (t7 = 0))

noncomputable def ref43_Same_L0 (a0 : (List Element)) (a1 : (List Element)) (v5 : Int) : Option (Stp (Int) ((Unit) ⊕ (Bool))) :=
 cond (decide (v5 < (a0.length : Int))) ((idx a0 v5).bind fun t19 =>
(idx a1 v5).bind fun t23 =>
 cond (!decide (t19 = t23)) (some (.done (.inr (false)))) (some (.next (wi (v5 + 1))))) (some (.done (.inl (()))))

noncomputable def ref43_Same (a0 : (List Element)) (a1 : (List Element)) : Option (Bool) :=
 cond (!decide ((a0.length : Int) = (a1.length : Int))) (some false) ((loopM (fun (x : Int) => ref43_Same_L0 a0 a1 x) 0).bind fun (y1 : (Unit) ⊕ (Bool)) =>
 y1.elim (fun y1 => some true) (fun y1 => some y1))

noncomputable def law43_alive  : Option (Bool) :=
(colltable_Step ({ Classes := ({ Classes := [({ Lo := 769, Hi := 769, Value := 230 } : Span), ({ Lo := 803, Hi := 803, Value := 220 } : Span)], Decomp := [], Excluded := (({ Ranges := [] }) : Set) } : Norm).Classes, Decomp := ({ Classes := [({ Lo := 769, Hi := 769, Value := 230 } : Span), ({ Lo := 803, Hi := 803, Value := 220 } : Span)], Decomp := [], Excluded := (({ Ranges := [] }) : Set) } : Norm).Decomp, Excluded := ({ Ranges := (({ Classes := [({ Lo := 769, Hi := 769, Value := 230 } : Span), ({ Lo := 803, Hi := 803, Value := 220 } : Span)], Decomp := [], Excluded := (({ Ranges := [] }) : Set) } : Norm).Excluded).Ranges } : Set) } : Norm) ({ Entries := [({ Codes := [97], Elements := [({ Primary := 7, Secondary := 1, Tertiary := 1, Variable := false } : Element)] } : Entry), ({ Codes := [97, 769], Elements := [({ Primary := 8, Secondary := 1, Tertiary := 1, Variable := false } : Element)] } : Entry)], Groups := [], Base := 100, Second := 1, Third := 1 } : Collation) [97, 803, 769]).bind fun t28 =>
(colltable_Check ({ Entries := [({ Codes := [97], Elements := [({ Primary := 7, Secondary := 1, Tertiary := 1, Variable := false } : Element)] } : Entry), ({ Codes := [97, 769], Elements := [({ Primary := 8, Secondary := 1, Tertiary := 1, Variable := false } : Element)] } : Entry)], Groups := [], Base := 100, Second := 1, Third := 1 } : Collation)).bind fun t33 =>
(pv (decide (t33 = 0))).bind fun b35 =>
(pv (b35 && (decide (t28.1 = 2)))).bind fun b39 =>
(gM b39 (ref01_Equal t28.2.1 [803])).bind fun t42 =>
(pv (b39 && t42)).bind fun b44 =>
(gM b44 (ref43_Same t28.2.2 [({ Primary := 8, Secondary := 1, Tertiary := 1, Variable := false } : Element)])).bind fun t47 =>
 some (b44 && t47)

noncomputable def law43_ColltableChecks (a0 : Collation) : Option (Bool) :=
(ref43_Small a0).bind fun t4 =>
(pv (!t4)).bind fun b6 =>
(gM (!b6) (colltable_Check a0)).bind fun t8 =>
(gM (!b6) (ref43_Check a0)).bind fun t10 =>
(pv (b6 || (decide (t8 = t10)))).bind fun b13 =>
(gM b13 (law43_alive)).bind fun t14 =>
 some (b13 && t14)

noncomputable def colltable_Find (a0 : Collation) (a1 : (List Int)) : Option ((List Element) × Bool) :=
(colltable_made a0).bind fun t10 =>
(colltable_table_find t10 a1).bind fun t12 =>
(slices_Clone_api_Element_api_Element t12.1).bind fun t16 =>
 some (t16, t12.2)

noncomputable def ref43_Data (a0 : Collation) : Option (Collation) :=
(ref43_Check a0).bind fun t4 =>
 cond (!decide (t4 = 0)) (some ({ Entries := [], Groups := [], Base := 64448, Second := 32, Third := 2 } : Collation)) (some a0)

noncomputable def ref43_find_L0 (a0 : Collation) (a1 : (List Int)) (v6 : Int) : Option (Stp (Int) ((Unit) ⊕ (Bool × (List Element)))) :=
 cond (decide (v6 < (a0.Entries.length : Int))) ((idx a0.Entries v6).bind fun t17 =>
(ref01_Equal t17.Codes a1).bind fun t21 =>
 cond t21 ((idx a0.Entries v6).bind fun t26 =>
(app [] t26.Elements).bind fun r22_2 =>
 some (.done (.inr ((true, r22_2))))) (some (.next (wi (v6 + 1))))) (some (.done (.inl (()))))

noncomputable def ref43_find (a0 : Collation) (a1 : (List Int)) : Option ((List Element) × Bool) :=
(loopM (fun (x : Int) => ref43_find_L0 a0 a1 x) 0).bind fun (y1 : (Unit) ⊕ (Bool × (List Element))) =>
 y1.elim (fun y1 => some ([], false)) (fun y1 => some (y1.2, y1.1))

noncomputable def ref43_Find (a0 : Collation) (a1 : (List Int)) : Option ((List Element) × Bool) :=
(ref43_Data a0).bind fun t7 =>
(ref43_find t7 a1).bind fun t9 =>
 some (t9.1, t9.2)

noncomputable def colltable_Implicit (a0 : Collation) (a1 : Int) : Option ((List Element)) :=
(colltable_made a0).bind fun t6 =>
(colltable_table_implicit t6 a1).bind fun t8 =>
 some t8

noncomputable def ref43_Implicit (a0 : Collation) (a1 : Int) : Option ((List Element)) :=
(ref01_Valid a1).bind fun t7 =>
 cond (!t7) (some []) ((ref43_Data a0).bind fun t10 =>
(divM wi a1 32768).bind fun t14 =>
(remM a1 32768).bind fun t22 =>
 some [({ Primary := wi (t10.Base + t14), Secondary := t10.Second, Tertiary := t10.Third, Variable := false } : Element), ({ Primary := wi (32768 + t22), Secondary := 0, Tertiary := 0, Variable := false } : Element)])

noncomputable def law43_ColltableFinds (a0 : Collation) (a1 : (List Int)) (a2 : Int) : Option (Bool) :=
(ref43_Small a0).bind fun t12 =>
(pv (!t12)).bind fun b14 =>
 cond (b14 || (decide (12 < (a1.length : Int)))) ((law43_alive).bind fun t19 =>
 some t19) ((colltable_Find a0 a1).bind fun t23 =>
(ref43_Find a0 a1).bind fun t29 =>
(ref43_Same t23.1 t29.1).bind fun t34 =>
(pv t34).bind fun b35 =>
(pv (b35 && (t23.2 == t29.2))).bind fun b40 =>
(gM b40 (colltable_Implicit a0 a2)).bind fun t43 =>
(gM b40 (ref43_Implicit a0 a2)).bind fun t46 =>
(gM b40 (ref43_Same t43 t46)).bind fun t47 =>
(pv (b40 && t47)).bind fun b49 =>
(gM b49 (law43_alive)).bind fun t50 =>
 some (b49 && t50))
end Go.M

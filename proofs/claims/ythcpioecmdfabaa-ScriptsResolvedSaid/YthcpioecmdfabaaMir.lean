/- Plain counterparts of the program's functions, printed from its form. Conditions: none. -/
import Derived.Test.YthcpioecmdfabaaAv25
set_option linter.unusedSimpArgs false
set_option linter.unusedVariables false
set_option linter.unnecessarySimpa false
namespace Go.M
structure Span where
  Lo : Int
  Hi : Int
  Value : Int
  deriving DecidableEq, Inhabited
structure Property where
  Names : (List Str)
  Spans : (List Span)
  deriving DecidableEq, Inhabited
structure Range where
  Lo : Int
  Hi : Int
  deriving DecidableEq, Inhabited
def okSpan (x : Span) : Prop := (-9223372036854775808 ≤ x.Lo ∧ x.Lo ≤ 9223372036854775807) ∧ (-9223372036854775808 ≤ x.Hi ∧ x.Hi ≤ 9223372036854775807) ∧ (-9223372036854775808 ≤ x.Value ∧ x.Value ≤ 9223372036854775807)
def okProperty (x : Property) : Prop := (x.Names.length ≤ 9223372036854775807 ∧ ∀ y0 ∈ x.Names, (y0.length ≤ 9223372036854775807)) ∧ (x.Spans.length ≤ 9223372036854775807 ∧ ∀ y0 ∈ x.Spans, (okSpan y0))
def okRange (x : Range) : Prop := (-9223372036854775808 ≤ x.Lo ∧ x.Lo ≤ 9223372036854775807) ∧ (-9223372036854775808 ≤ x.Hi ∧ x.Hi ≤ 9223372036854775807)
end Go.M
namespace Go.AV
open Go.M
def eSpan : En Span := ⟨fun x => .agg [(di x.Lo), (di x.Hi), (di x.Value)], 3, fun _ => rfl⟩
def eProperty : En Property := ⟨fun x => .agg [(dsl eS x.Names), (dsl eSpan x.Spans)], 2, fun _ => rfl⟩
def eRange : En Range := ⟨fun x => .agg [(di x.Lo), (di x.Hi)], 2, fun _ => rfl⟩
end Go.AV
namespace Go.M
open Go.AV
/-- slices.Sort. -/
def sortS (l : List Str) : Option (List Str) := if l.length ≤ LIM then some (l.mergeSort fun x y => decide (x ≤ y)) else none

noncomputable def law40_few (a0 : Property) (a1 : (List Int)) : Option (Bool) :=
(pv (decide ((a0.Names.length : Int) ≤ 20))).bind fun b9 =>
(pv (b9 && (decide ((a0.Spans.length : Int) ≤ 16)))).bind fun b15 =>
 some (b15 && (decide ((a1.length : Int) ≤ 40)))

noncomputable def property_isName_L0 (a0 : Str) (v15 : Int) : Option (Stp (Int) ((Unit) ⊕ (Bool))) :=
 cond (decide (v15 < (a0.length : Int))) ((sidx a0 v15).bind fun t20 =>
(pv (decide (65 ≤ t20))).bind fun b23 =>
(pv (b23 && (decide (t20 ≤ 90)))).bind fun b27 =>
(pv (decide (97 ≤ t20))).bind fun b30 =>
(pv (!(b27 || (b30 && (decide (t20 ≤ 122)))))).bind fun b37 =>
(pv (decide (48 ≤ t20))).bind fun b40 =>
(pv (b37 && (!(b40 && (decide (t20 ≤ 57)))))).bind fun b46 =>
 cond (b46 && (!decide (t20 = 95))) (some (.done (.inr (false)))) (some (.next (wi (v15 + 1))))) (some (.done (.inl (()))))

noncomputable def property_isName (a0 : Str) : Option (Bool) :=
(pv (a0 == [])).bind fun b8 =>
 cond (b8 || (decide (32 < (a0.length : Int)))) (some false) ((loopM (fun (x : Int) => property_isName_L0 a0 x) 0).bind fun (y1 : (Unit) ⊕ (Bool)) =>
 y1.elim (fun y1 => some true) (fun y1 => some y1))

noncomputable def property_index_L0 (a0 : (List Str)) (v20 : Int) (r17 : (List (Str × Int))) : Option (Stp (Int × (List (Str × Int))) (((List (Str × Int))) ⊕ (Bool))) :=
 cond (decide (v20 < (a0.length : Int))) ((idx a0 v20).bind fun t23 =>
(pv (mhas r17 t23)).bind fun b32 =>
(gM (!b32) (property_isName t23)).bind fun t34 =>
 cond (b32 || (!t34)) (some (.done (.inr (false)))) (some (.next (wi (v20 + 1), mput r17 t23 v20)))) (some (.done (.inl (r17))))

noncomputable def property_index (a0 : (List Str)) : Option (Bool) :=
(pv (decide ((a0.length : Int) = 0))).bind fun b12 =>
 cond (b12 || (decide (250 < (a0.length : Int)))) (some false) ((loopM (fun (x : Int × (List (Str × Int))) => property_index_L0 a0 x.1 x.2) (0, [])).bind fun (y1 : ((List (Str × Int))) ⊕ (Bool)) =>
 y1.elim (fun y1 => some true) (fun y1 => some y1))

noncomputable def codepoint_Valid (a0 : Int) : Option (Bool) :=
(pv (decide (0 ≤ a0))).bind fun b5 =>
 some (b5 && (decide (a0 ≤ 1114111)))

noncomputable def property_inside (a0 : Span) : Option (Bool) :=
(codepoint_Valid a0.Lo).bind fun t5 =>
(pv t5).bind fun b6 =>
(gM b6 (codepoint_Valid a0.Hi)).bind fun t9 =>
(pv (b6 && t9)).bind fun b11 =>
 some (b11 && (decide (a0.Lo ≤ a0.Hi)))

noncomputable def property_Valid_L0 (a0 : Property) (v19 : Int) : Option (Stp (Int) ((Unit) ⊕ (Bool))) :=
 cond (decide (v19 < (a0.Spans.length : Int))) (((idx a0.Spans v19).bind fun t22 =>
(property_inside t22).bind fun t25 =>
(pv (!t25)).bind fun b27 =>
(pv (b27 || (decide (t22.Value < 1)))).bind fun b32 =>
 cond (b32 || (decide ((a0.Names.length : Int) ≤ t22.Value))) (some (.inr (()))) (cond (decide (v19 = 0)) (some (.inl (()))) ((idx a0.Spans (wi (v19 - 1))).bind fun t46 =>
(pv (decide (t22.Lo ≤ t46.Hi))).bind fun b53 =>
(pv (decide (t22.Lo = (wi (t46.Hi + 1))))).bind fun b60 =>
 cond (b53 || (b60 && (decide (t22.Value = t46.Value)))) (some (.inr (()))) (some (.inl (())))))).bind fun (y2 : (Unit) ⊕ (Unit)) =>
 y2.elim (fun y2 => some (.next (wi (v19 + 1)))) (fun y2 => some (.done (.inr (false))))) (some (.done (.inl (()))))

noncomputable def property_Valid (a0 : Property) : Option (Bool) :=
(property_index a0.Names).bind fun t11 =>
 cond (!t11) (some false) ((loopM (fun (x : Int) => property_Valid_L0 a0 x) 0).bind fun (y1 : (Unit) ⊕ (Bool)) =>
 y1.elim (fun y1 => some true) (fun y1 => some y1))

noncomputable def property_counted (a0 : Property) : Option (Property) :=
(property_Valid a0).bind fun t4 =>
 cond t4 (some a0) (some ({ Names := [[79, 116, 104, 101, 114]], Spans := [] } : Property))

noncomputable def property_Get_1 (a0 : Int) (a1 : (List Span)) (a2 : Int) : Option (Bool) :=
(idx a1 a0).bind fun t7 =>
 some (decide (a2 ≤ t7.Hi))

noncomputable def sort_Search_L0 (a1 : Int → Option (Bool)) (v5 : Int) (v6 : Int) : Option (Stp (Int × Int) ((Int))) :=
 cond (decide (v5 < v6)) (((a1 (wi ((wu (wi (v5 + v6))) / 2 ^ 1))).bind fun t20 =>
 cond (!t20) (some (wi ((wi ((wu (wi (v5 + v6))) / 2 ^ 1)) + 1), v6)) (some (v5, wi ((wu (wi (v5 + v6))) / 2 ^ 1)))).bind fun (y2 : Int × Int) =>
 some (.next (y2.1, y2.2))) (some (.done v5))

noncomputable def sort_Search (a0 : Int) (a1 : Int → Option (Bool)) : Option (Int) :=
(loopM (fun (x : Int × Int) => sort_Search_L0 a1 x.1 x.2) (0, a0)).bind fun (y1 : Int) =>
 some y1

noncomputable def property_Get (a0 : Property) (a1 : Int) : Option (Int) :=
(property_counted a0).bind fun t8 =>
(sort_Search (t8.Spans.length : Int) (fun x0 => property_Get_1 x0 t8.Spans a1)).bind fun t13 =>
(pv (decide (t13 < (t8.Spans.length : Int)))).bind fun b18 =>
(gM b18 (idx t8.Spans t13)).bind fun t21 =>
 cond (b18 && (decide (t21.Lo ≤ a1))) ((idx t8.Spans t13).bind fun t29 =>
 some t29.Value) (some 0)

noncomputable def property_Name (a0 : Property) (a1 : Int) : Option (Str) :=
(property_counted a0).bind fun t6 =>
(property_Get a0 a1).bind fun t10 =>
(idx t6.Names t10).bind fun t11 =>
 some t11

noncomputable def scripts_realScripts_L0 (a1 : (List Int)) (a0 : Property) (v17 : Int) (r11 : (List (Int × Str))) (r14 : (List Str)) : Option (Stp (Int × (List (Int × Str)) × (List Str)) (((List Str)))) :=
 cond (decide (v17 < (a1.length : Int))) ((idx a1 v17).bind fun t20 =>
(cond (!(mhas r11 t20)) ((property_Name a0 t20).bind fun t32 =>
((cond (t32 == [67, 111, 109, 109, 111, 110]) (some (t32 == [67, 111, 109, 109, 111, 110])) (cond (t32 == [73, 110, 104, 101, 114, 105, 116, 101, 100]) (some (t32 == [73, 110, 104, 101, 114, 105, 116, 101, 100])) (some (t32 == [79, 116, 104, 101, 114])))).bind fun (y4 : Bool) =>
 cond y4 (some []) (some t32)).bind fun (y3 : Str) =>
 some (y3, mput r11 t20 y3)) (some (mgetD r11 t20 [], r11))).bind fun (y2 : Str × (List (Int × Str))) =>
(idx r14 v17).bind fun t44 =>
(setM r14 v17 y2.1).bind fun r14_5 =>
 some (.next (wi (v17 + 1), y2.2, r14_5))) (some (.done r14))

noncomputable def scripts_realScripts (a0 : Property) (a1 : (List Int)) : Option ((List Str)) :=
(mkM [] (a1.length : Int)).bind fun r14 =>
(loopM (fun (x : Int × (List (Int × Str)) × (List Str)) => scripts_realScripts_L0 a1 a0 x.1 x.2.1 x.2.2) (0, [], r14)).bind fun (y1 : (List Str)) =>
 some y1

noncomputable def scripts_resolved_L0 (t13 : (List Str)) (v16 : Int) : Option (Stp (Int) ((Str))) :=
 cond (decide (v16 < (t13.length : Int))) ((idx t13 v16).bind fun t18 =>
 cond (!(t18 == [])) (some (.done t18)) (some (.next (wi (v16 + 1))))) (some (.done []))

noncomputable def scripts_resolved_L1 (t13 : (List Str)) (v6 : Str) (v26 : Int) (r2513 : (List Str)) : Option (Stp (Str × Int × (List Str)) (((List Str)))) :=
 cond (decide (v26 < (t13.length : Int))) ((idx r2513 v26).bind fun t29 =>
(cond (!(t29 == [])) (some t29) (some v6)).bind fun (y3 : Str) =>
(idx r2513 v26).bind fun t37 =>
(setM r2513 v26 y3).bind fun r2513_4 =>
 some (.next (y3, wi (v26 + 1), r2513_4))) (some (.done r2513))

noncomputable def scripts_resolved (a0 : Property) (a1 : (List Int)) : Option ((List Str)) :=
(scripts_realScripts a0 a1).bind fun t13 =>
(loopM (fun (x : Int) => scripts_resolved_L0 t13 x) 0).bind fun (y1 : Str) =>
(loopM (fun (x : Str × Int × (List Str)) => scripts_resolved_L1 t13 x.1 x.2.1 x.2.2) (y1, 0, t13)).bind fun (y2 : (List Str)) =>
 some y2

noncomputable def scripts_runs_string_L0 (a0 : (List Str)) (v4 : Int) (v8 : Int) (r1003 : (List Range)) : Option (Stp (Int × Int × (List Range)) (((List Range)))) :=
 cond (decide (v8 < (a0.length : Int))) (((pv (decide ((wi (v8 + 1)) = (a0.length : Int)))).bind fun b16 =>
(gM (!b16) (idx a0 (wi (v8 + 1)))).bind fun t20 =>
(gM (!b16) (idx a0 v8)).bind fun t24 =>
 cond (b16 || (!(t20 == t24))) ((app r1003 [({ Lo := v4, Hi := wi (v8 + 1) } : Range)]).bind fun r1003_3 =>
 some (wi (v8 + 1), r1003_3)) (some (v4, r1003))).bind fun (y2 : Int × (List Range)) =>
 some (.next (y2.1, wi (v8 + 1), y2.2))) (some (.done r1003))

noncomputable def scripts_runs_string (a0 : (List Str)) : Option ((List Range)) :=
(loopM (fun (x : Int × Int × (List Range)) => scripts_runs_string_L0 a0 x.1 x.2.1 x.2.2) (0, 0, [])).bind fun (y1 : (List Range)) =>
 some y1

noncomputable def scripts_Runs (a0 : Property) (a1 : (List Int)) : Option ((List Range)) :=
(scripts_resolved a0 a1).bind fun t7 =>
(scripts_runs_string t7).bind fun t8 =>
 some t8

noncomputable def ref30_SameRanges_L0 (a0 : (List Range)) (a1 : (List Range)) (v5 : Int) : Option (Stp (Int) ((Unit) ⊕ (Bool))) :=
 cond (decide (v5 < (a0.length : Int))) ((idx a0 v5).bind fun t19 =>
(idx a1 v5).bind fun t23 =>
 cond (!decide (t19 = t23)) (some (.done (.inr (false)))) (some (.next (wi (v5 + 1))))) (some (.done (.inl (()))))

noncomputable def ref30_SameRanges (a0 : (List Range)) (a1 : (List Range)) : Option (Bool) :=
 cond (!decide ((a0.length : Int) = (a1.length : Int))) (some false) ((loopM (fun (x : Int) => ref30_SameRanges_L0 a0 a1 x) 0).bind fun (y1 : (Unit) ⊕ (Bool)) =>
 y1.elim (fun y1 => some true) (fun y1 => some y1))

noncomputable def scripts_Of_L0 (t12 : (List Str)) (v14 : Int) (r9 : (List (Str × Bool))) (r1006 : (List Str)) : Option (Stp (Int × (List (Str × Bool)) × (List Str)) (((List Str)))) :=
 cond (decide (v14 < (t12.length : Int))) (((idx t12 v14).bind fun t16 =>
(pv (!(t16 == []))).bind fun b20 =>
 cond (b20 && (!(mgetD r9 t16 false))) ((app r1006 [t16]).bind fun r1006_3 =>
 some (mput r9 t16 true, r1006_3)) (some (r9, r1006))).bind fun (y2 : (List (Str × Bool)) × (List Str)) =>
 some (.next (wi (v14 + 1), y2.1, y2.2))) (some (.done r1006))

noncomputable def scripts_Of (a0 : Property) (a1 : (List Int)) : Option ((List Str)) :=
(scripts_realScripts a0 a1).bind fun t12 =>
(loopM (fun (x : Int × (List (Str × Bool)) × (List Str)) => scripts_Of_L0 t12 x.1 x.2.1 x.2.2) (0, [], [])).bind fun (y1 : (List Str)) =>
(sortS y1).bind fun r1006_4 =>
 some r1006_4

noncomputable def scripts_Mixed (a0 : Property) (a1 : (List Int)) : Option (Bool) :=
(scripts_Of a0 a1).bind fun t7 =>
 some (decide (1 < (t7.length : Int)))

noncomputable def ref09_Strings_L0 (a0 : (List Str)) (a1 : (List Str)) (v5 : Int) : Option (Stp (Int) ((Unit) ⊕ (Bool))) :=
 cond (decide (v5 < (a0.length : Int))) ((idx a0 v5).bind fun t19 =>
(idx a1 v5).bind fun t23 =>
 cond (!(t19 == t23)) (some (.done (.inr (false)))) (some (.next (wi (v5 + 1))))) (some (.done (.inl (()))))

noncomputable def ref09_Strings (a0 : (List Str)) (a1 : (List Str)) : Option (Bool) :=
 cond (!decide ((a0.length : Int) = (a1.length : Int))) (some false) ((loopM (fun (x : Int) => ref09_Strings_L0 a0 a1 x) 0).bind fun (y1 : (Unit) ⊕ (Bool)) =>
 y1.elim (fun y1 => some true) (fun y1 => some y1))

noncomputable def slices_IndexFunc_int_int_L0 (a0 : (List Int)) (a1 : Int → Option (Bool)) (v8 : Int) : Option (Stp (Int) ((Unit) ⊕ (Int))) :=
 cond (decide (v8 < (a0.length : Int))) ((idx a0 v8).bind fun t14 =>
(a1 t14).bind fun t16 =>
 cond t16 (some (.done (.inr (v8)))) (some (.next (wi (v8 + 1))))) (some (.done (.inl (()))))

noncomputable def slices_IndexFunc_int_int (a0 : (List Int)) (a1 : Int → Option (Bool)) : Option (Int) :=
(loopM (fun (x : Int) => slices_IndexFunc_int_int_L0 a0 a1 x) 0).bind fun (y1 : (Unit) ⊕ (Int)) =>
 y1.elim (fun y1 => some (-1)) (fun y1 => some y1)

noncomputable def slices_ContainsFunc_int_int (a0 : (List Int)) (a1 : Int → Option (Bool)) : Option (Bool) :=
(slices_IndexFunc_int_int a0 a1).bind fun t7 =>
 some (decide (0 ≤ t7))

noncomputable def scripts_Level_1 (a0 : Int) : Option (Bool) :=
(pv (decide (a0 < 0))).bind fun b5 =>
 some (b5 || (decide (127 < a0)))

noncomputable def slices_Index_string_string_L0 (a0 : (List Str)) (a1 : Str) (v8 : Int) : Option (Stp (Int) ((Unit) ⊕ (Int))) :=
 cond (decide (v8 < (a0.length : Int))) ((idx a0 v8).bind fun t14 =>
 cond (a1 == t14) (some (.done (.inr (v8)))) (some (.next (wi (v8 + 1))))) (some (.done (.inl (()))))

noncomputable def slices_Index_string_string (a0 : (List Str)) (a1 : Str) : Option (Int) :=
(loopM (fun (x : Int) => slices_Index_string_string_L0 a0 a1 x) 0).bind fun (y1 : (Unit) ⊕ (Int)) =>
 y1.elim (fun y1 => some (-1)) (fun y1 => some y1)

noncomputable def slices_Contains_string_string (a0 : (List Str)) (a1 : Str) : Option (Bool) :=
(slices_Index_string_string a0 a1).bind fun t7 =>
 some (decide (0 ≤ t7))

noncomputable def scripts_Level_2 (a0 : Str) (a1 : (List Str)) : Option (Bool) :=
(slices_Contains_string_string a1 a0).bind fun t6 =>
 some (!t6)

noncomputable def slices_IndexFunc_string_string_L0 (a0 : (List Str)) (a1 : Str → Option (Bool)) (v8 : Int) : Option (Stp (Int) ((Unit) ⊕ (Int))) :=
 cond (decide (v8 < (a0.length : Int))) ((idx a0 v8).bind fun t14 =>
(a1 t14).bind fun t16 =>
 cond t16 (some (.done (.inr (v8)))) (some (.next (wi (v8 + 1))))) (some (.done (.inl (()))))

noncomputable def slices_IndexFunc_string_string (a0 : (List Str)) (a1 : Str → Option (Bool)) : Option (Int) :=
(loopM (fun (x : Int) => slices_IndexFunc_string_string_L0 a0 a1 x) 0).bind fun (y1 : (Unit) ⊕ (Int)) =>
 y1.elim (fun y1 => some (-1)) (fun y1 => some y1)

noncomputable def slices_ContainsFunc_string_string (a0 : (List Str)) (a1 : Str → Option (Bool)) : Option (Bool) :=
(slices_IndexFunc_string_string a0 a1).bind fun t7 =>
 some (decide (0 ≤ t7))

noncomputable def scripts_Level_L0 (a1 : (List (List Str))) (t15 : (List Str)) (v21 : Int) : Option (Stp (Int) ((Unit) ⊕ (Int))) :=
 cond (decide (v21 < (a1.length : Int))) ((idx a1 v21).bind fun t23 =>
(slices_ContainsFunc_string_string t15 (fun x0 => scripts_Level_2 x0 t23)).bind fun t27 =>
 cond (!t27) (some (.done (.inr (3)))) (some (.next (wi (v21 + 1))))) (some (.done (.inl (()))))

noncomputable def scripts_Level (a0 : Property) (a1 : (List (List Str))) (a2 : (List Int)) : Option (Int) :=
(slices_ContainsFunc_int_int a2 (fun x0 => scripts_Level_1 x0)).bind fun t11 =>
 cond (!t11) (some 1) ((scripts_Of a0 a2).bind fun t15 =>
 cond (decide ((t15.length : Int) ≤ 1)) (some 2) ((loopM (fun (x : Int) => scripts_Level_L0 a1 t15 x) 0).bind fun (y1 : (Unit) ⊕ (Int)) =>
 y1.elim (fun y1 => some 4) (fun y1 => some y1)))

noncomputable def law40_alive  : Option (Bool) :=
(scripts_Runs ({ Names := [[67, 111, 109, 109, 111, 110], [76, 97, 116, 105, 110], [71, 114, 101, 101, 107]], Spans := [({ Lo := 97, Hi := 122, Value := 1 } : Span), ({ Lo := 945, Hi := 969, Value := 2 } : Span)] } : Property) [97, 49, 946]).bind fun t11 =>
(ref30_SameRanges t11 [({ Lo := 0, Hi := 2 } : Range), ({ Lo := 2, Hi := 3 } : Range)]).bind fun t15 =>
(pv t15).bind fun b16 =>
(gM b16 (scripts_Mixed ({ Names := [[67, 111, 109, 109, 111, 110], [76, 97, 116, 105, 110], [71, 114, 101, 101, 107]], Spans := [({ Lo := 97, Hi := 122, Value := 1 } : Span), ({ Lo := 945, Hi := 969, Value := 2 } : Span)] } : Property) [97, 49, 946])).bind fun t19 =>
(pv (b16 && t19)).bind fun b21 =>
(gM b21 (scripts_Of ({ Names := [[67, 111, 109, 109, 111, 110], [76, 97, 116, 105, 110], [71, 114, 101, 101, 107]], Spans := [({ Lo := 97, Hi := 122, Value := 1 } : Span), ({ Lo := 945, Hi := 969, Value := 2 } : Span)] } : Property) [97, 49, 946])).bind fun t24 =>
(gM b21 (ref09_Strings t24 ([[71, 114, 101, 101, 107], [76, 97, 116, 105, 110]]))).bind fun t26 =>
(pv (b21 && t26)).bind fun b28 =>
(gM b28 (scripts_Level ({ Names := [[67, 111, 109, 109, 111, 110], [76, 97, 116, 105, 110], [71, 114, 101, 101, 107]], Spans := [({ Lo := 97, Hi := 122, Value := 1 } : Span), ({ Lo := 945, Hi := 969, Value := 2 } : Span)] } : Property) [] [97, 49, 946])).bind fun t31 =>
 some (b28 && (decide (t31 = 4)))

noncomputable def ref10_Named_L0 (a0 : Str) (v3 : Int) : Option (Stp (Int) ((Unit) ⊕ (Bool))) :=
 cond (decide (v3 < (a0.length : Int))) ((sidx a0 v3).bind fun t21 =>
(pv (decide (65 ≤ t21))).bind fun b24 =>
(pv (b24 && (decide (t21 ≤ 90)))).bind fun b28 =>
(pv (decide (97 ≤ t21))).bind fun b31 =>
(pv (b28 || (b31 && (decide (t21 ≤ 122))))).bind fun b36 =>
(pv (decide (48 ≤ t21))).bind fun b39 =>
(pv (b36 || (b39 && (decide (t21 ≤ 57))))).bind fun b44 =>
 cond (!(b44 || (decide (t21 = 95)))) (some (.done (.inr (false)))) (some (.next (wi (v3 + 1))))) (some (.done (.inl (()))))

noncomputable def ref10_Named (a0 : Str) : Option (Bool) :=
(pv (decide ((a0.length : Int) < 1))).bind fun b8 =>
 cond (b8 || (decide (32 < (a0.length : Int)))) (some false) ((loopM (fun (x : Int) => ref10_Named_L0 a0 x) 0).bind fun (y1 : (Unit) ⊕ (Bool)) =>
 y1.elim (fun y1 => some true) (fun y1 => some y1))

noncomputable def ref10_names_L1 (v3 : Int) (a0 : (List Str)) (v4 : Int) : Option (Stp (Int) ((Unit) ⊕ (Bool))) :=
 cond (decide (v4 < v3)) ((idx a0 v4).bind fun t32 =>
(idx a0 v3).bind fun t36 =>
 cond (t32 == t36) (some (.done (.inr (false)))) (some (.next (wi (v4 + 1))))) (some (.done (.inl (()))))

noncomputable def ref10_names_L0 (a0 : (List Str)) (v3 : Int) : Option (Stp (Int) ((Unit) ⊕ (Bool))) :=
 cond (decide (v3 < (a0.length : Int))) ((idx a0 v3).bind fun t21 =>
(ref10_Named t21).bind fun t23 =>
 cond (!t23) (some (.done (.inr (false)))) ((loopM (fun (x : Int) => ref10_names_L1 v3 a0 x) 0).bind fun (y2 : (Unit) ⊕ (Bool)) =>
 y2.elim (fun y2 => some (.next (wi (v3 + 1)))) (fun y2 => some (.done (.inr (y2)))))) (some (.done (.inl (()))))

noncomputable def ref10_names (a0 : (List Str)) : Option (Bool) :=
(pv (decide ((a0.length : Int) < 1))).bind fun b8 =>
 cond (b8 || (decide (250 < (a0.length : Int)))) (some false) ((loopM (fun (x : Int) => ref10_names_L0 a0 x) 0).bind fun (y1 : (Unit) ⊕ (Bool)) =>
 y1.elim (fun y1 => some true) (fun y1 => some y1))

noncomputable def ref10_Valid_L0 (a0 : Property) (v3 : Int) : Option (Stp (Int) ((Unit) ⊕ (Bool))) :=
 cond (decide (v3 < (a0.Spans.length : Int))) ((idx a0.Spans v3).bind fun t19 =>
(pv (decide (t19.Lo < 0))).bind fun b24 =>
(pv (b24 || (decide (t19.Hi < t19.Lo)))).bind fun b31 =>
(pv (b31 || (decide (1114111 < t19.Hi)))).bind fun b36 =>
(pv (b36 || (decide (t19.Value < 1)))).bind fun b41 =>
 cond (b41 || (decide ((a0.Names.length : Int) ≤ t19.Value))) (some (.done (.inr (false)))) ((pv (decide (0 < v3))).bind fun b51 =>
(gM b51 (idx a0.Spans (wi (v3 - 1)))).bind fun t58 =>
(pv (decide (t19.Lo ≤ t58.Hi))).bind fun b62 =>
(gM (b51 && !b62) (idx a0.Spans (wi (v3 - 1)))).bind fun t69 =>
(pv (decide (t19.Lo = (wi (t69.Hi + 1))))).bind fun b74 =>
(gM (b51 && !b62 && b74) (idx a0.Spans (wi (v3 - 1)))).bind fun t81 =>
 cond (b51 && (b62 || (b74 && (decide (t19.Value = t81.Value))))) (some (.done (.inr (false)))) (some (.next (wi (v3 + 1)))))) (some (.done (.inl (()))))

noncomputable def ref10_Valid (a0 : Property) : Option (Bool) :=
(ref10_names a0.Names).bind fun t7 =>
 cond (!t7) (some false) ((loopM (fun (x : Int) => ref10_Valid_L0 a0 x) 0).bind fun (y1 : (Unit) ⊕ (Bool)) =>
 y1.elim (fun y1 => some true) (fun y1 => some y1))

noncomputable def ref10_Counted (a0 : Property) : Option (Property) :=
(ref10_Valid a0).bind fun t4 =>
 cond (!t4) (some ({ Names := [[79, 116, 104, 101, 114]], Spans := [] } : Property)) (some a0)

noncomputable def ref10_Get_L0 (t8 : Property) (a1 : Int) (v6 : Int) : Option (Stp (Int) ((Unit) ⊕ (Int))) :=
 cond (decide (v6 < (t8.Spans.length : Int))) ((idx t8.Spans v6).bind fun t20 =>
(pv (decide (t20.Lo ≤ a1))).bind fun b24 =>
(gM b24 (idx t8.Spans v6)).bind fun t29 =>
 cond (b24 && (decide (a1 ≤ t29.Hi))) ((idx t8.Spans v6).bind fun t37 =>
 some (.done (.inr (t37.Value)))) (some (.next (wi (v6 + 1))))) (some (.done (.inl (()))))

noncomputable def ref10_Get (a0 : Property) (a1 : Int) : Option (Int) :=
(ref10_Counted a0).bind fun t8 =>
(loopM (fun (x : Int) => ref10_Get_L0 t8 a1 x) 0).bind fun (y1 : (Unit) ⊕ (Int)) =>
 y1.elim (fun y1 => some 0) (fun y1 => some y1)

noncomputable def ref10_Name (a0 : Property) (a1 : Int) : Option (Str) :=
(ref10_Counted a0).bind fun t6 =>
(ref10_Get a0 a1).bind fun t10 =>
(idx t6.Names t10).bind fun t11 =>
 some t11

noncomputable def ref40_Real (a0 : Str) : Option (Bool) :=
(pv (!(a0 == [67, 111, 109, 109, 111, 110]))).bind fun b5 =>
(pv (b5 && (!(a0 == [73, 110, 104, 101, 114, 105, 116, 101, 100])))).bind fun b9 =>
 some (b9 && (!(a0 == [79, 116, 104, 101, 114])))

noncomputable def ref40_Has_L0 (a0 : (List Str)) (a1 : Str) (v5 : Int) : Option (Stp (Int) ((Unit) ⊕ (Bool))) :=
 cond (decide (v5 < (a0.length : Int))) ((idx a0 v5).bind fun t14 =>
 cond (t14 == a1) (some (.done (.inr (true)))) (some (.next (wi (v5 + 1))))) (some (.done (.inl (()))))

noncomputable def ref40_Has (a0 : (List Str)) (a1 : Str) : Option (Bool) :=
(loopM (fun (x : Int) => ref40_Has_L0 a0 a1 x) 0).bind fun (y1 : (Unit) ⊕ (Bool)) =>
 y1.elim (fun y1 => some false) (fun y1 => some y1)

noncomputable def ref40_with_L0 (a0 : (List Str)) (a1 : Str) (v5 : Int) : Option (Stp (Int) ((Int))) :=
(pv (decide (v5 < (a0.length : Int)))).bind fun b15 =>
(gM b15 (idx a0 v5)).bind fun t18 =>
 cond (b15 && (Op.bytesLess t18 a1)) (some (.next (wi (v5 + 1)))) (some (.done v5))

noncomputable def ref40_with (a0 : (List Str)) (a1 : Str) : Option ((List Str)) :=
(ref40_Has a0 a1).bind fun t9 =>
 cond t9 (some a0) ((loopM (fun (x : Int) => ref40_with_L0 a0 a1 x) 0).bind fun (y1 : Int) =>
(slc a0 0 y1).bind fun t28 =>
(app [] t28).bind fun r25_2 =>
(app r25_2 [a1]).bind fun r25_3 =>
(slc a0 y1 (a0.length)).bind fun t37 =>
(app r25_3 t37).bind fun r25_4 =>
 some r25_4)

noncomputable def ref40_Of_L0 (a1 : (List Int)) (a0 : Property) (v5 : (List Str)) (v6 : Int) : Option (Stp ((List Str) × Int) (((List Str)))) :=
 cond (decide (v6 < (a1.length : Int))) (((idx a1 v6).bind fun t17 =>
(ref10_Name a0 t17).bind fun t19 =>
(ref40_Real t19).bind fun t21 =>
 cond t21 ((ref40_with v5 t19).bind fun t24 =>
 some t24) (some v5)).bind fun (y2 : (List Str)) =>
 some (.next (y2, wi (v6 + 1)))) (some (.done v5))

noncomputable def ref40_Of (a0 : Property) (a1 : (List Int)) : Option ((List Str)) :=
(loopM (fun (x : (List Str) × Int) => ref40_Of_L0 a1 a0 x.1 x.2) ([], 0)).bind fun (y1 : (List Str)) =>
 some y1

noncomputable def ref40_Mixed (a0 : Property) (a1 : (List Int)) : Option (Bool) :=
(ref40_Of a0 a1).bind fun t7 =>
 some (decide (1 < (t7.length : Int)))

noncomputable def law40_ScriptsOf (a0 : Property) (a1 : (List Int)) : Option (Bool) :=
(law40_few a0 a1).bind fun t7 =>
 cond (!t7) ((law40_alive).bind fun t9 =>
 some t9) ((scripts_Of a0 a1).bind fun t12 =>
(ref40_Of a0 a1).bind fun t15 =>
(ref09_Strings t12 t15).bind fun t16 =>
(pv t16).bind fun b17 =>
(gM b17 (scripts_Mixed a0 a1)).bind fun t20 =>
(gM b17 (ref40_Mixed a0 a1)).bind fun t23 =>
(pv (b17 && (t20 == t23))).bind fun b26 =>
(gM b26 (law40_alive)).bind fun t27 =>
 some (b26 && t27))

noncomputable def ref40_Script_L0 (a1 : (List Int)) (a0 : Property) (v7 : Int) : Option (Stp (Int) ((Unit) ⊕ (Str))) :=
 cond (decide (0 ≤ v7)) ((idx a1 v7).bind fun t19 =>
(ref10_Name a0 t19).bind fun t21 =>
(ref40_Real t21).bind fun t23 =>
 cond t23 (some (.done (.inr (t21)))) (some (.next (wi (v7 - 1))))) (some (.done (.inl (()))))

noncomputable def ref40_Script_L1 (a1 : (List Int)) (a0 : Property) (v9 : Int) : Option (Stp (Int) ((Unit) ⊕ (Str))) :=
 cond (decide (v9 < (a1.length : Int))) ((idx a1 v9).bind fun t36 =>
(ref10_Name a0 t36).bind fun t38 =>
(ref40_Real t38).bind fun t40 =>
 cond t40 (some (.done (.inr (t38)))) (some (.next (wi (v9 + 1))))) (some (.done (.inl (()))))

noncomputable def ref40_Script (a0 : Property) (a1 : (List Int)) (a2 : Int) : Option (Str) :=
(loopM (fun (x : Int) => ref40_Script_L0 a1 a0 x) a2).bind fun (y1 : (Unit) ⊕ (Str)) =>
 y1.elim (fun y1 => (loopM (fun (x : Int) => ref40_Script_L1 a1 a0 x) (wi (a2 + 1))).bind fun (y2 : (Unit) ⊕ (Str)) =>
 y2.elim (fun y2 => some []) (fun y2 => some y2)) (fun y1 => some y1)

noncomputable def ref40_Runs_L0 (a1 : (List Int)) (a0 : Property) (v6 : Int) (r1005 : (List Range)) : Option (Stp (Int × (List Range)) (((List Range)))) :=
 cond (decide (v6 < (a1.length : Int))) (((pv (decide (0 < v6))).bind fun b15 =>
(gM b15 (ref40_Script a0 a1 v6)).bind fun t19 =>
(gM b15 (ref40_Script a0 a1 (wi (v6 - 1)))).bind fun t24 =>
 cond (b15 && (t19 == t24)) ((idx r1005 (wi ((r1005.length : Int) - 1))).bind fun t33 =>
(setM r1005 (wi ((r1005.length : Int) - 1)) ({ t33 with Hi := wi (v6 + 1) })).bind fun r1005_3 =>
 some r1005_3) ((app r1005 [({ Lo := v6, Hi := wi (v6 + 1) } : Range)]).bind fun r1005_4 =>
 some r1005_4)).bind fun (y2 : (List Range)) =>
 some (.next (wi (v6 + 1), y2))) (some (.done r1005))

noncomputable def ref40_Runs (a0 : Property) (a1 : (List Int)) : Option ((List Range)) :=
(loopM (fun (x : Int × (List Range)) => ref40_Runs_L0 a1 a0 x.1 x.2) (0, [])).bind fun (y1 : (List Range)) =>
 some y1

noncomputable def law40_ScriptsRuns (a0 : Property) (a1 : (List Int)) : Option (Bool) :=
(law40_few a0 a1).bind fun t7 =>
(pv (!t7)).bind fun b9 =>
(gM (!b9) (scripts_Runs a0 a1)).bind fun t12 =>
(gM (!b9) (ref40_Runs a0 a1)).bind fun t15 =>
(gM (!b9) (ref30_SameRanges t12 t15)).bind fun t16 =>
(pv (b9 || t16)).bind fun b18 =>
(gM b18 (law40_alive)).bind fun t19 =>
 some (b18 && t19)

noncomputable def ref01_Valid (a0 : Int) : Option (Bool) :=
(pv (decide (0 ≤ a0))).bind fun b5 =>
 some (b5 && (decide (a0 ≤ 1114111)))

noncomputable def ref40_Inside_L0 (a0 : (List Str)) (a1 : (List Str)) (v5 : Int) : Option (Stp (Int) ((Unit) ⊕ (Bool))) :=
 cond (decide (v5 < (a0.length : Int))) ((idx a0 v5).bind fun t15 =>
(ref40_Has a1 t15).bind fun t17 =>
 cond (!t17) (some (.done (.inr (false)))) (some (.next (wi (v5 + 1))))) (some (.done (.inl (()))))

noncomputable def ref40_Inside (a0 : (List Str)) (a1 : (List Str)) : Option (Bool) :=
(loopM (fun (x : Int) => ref40_Inside_L0 a0 a1 x) 0).bind fun (y1 : (Unit) ⊕ (Bool)) =>
 y1.elim (fun y1 => some true) (fun y1 => some y1)

noncomputable def ref40_Level_L0 (a2 : (List Int)) (v7 : Bool) (v8 : Int) : Option (Stp (Bool × Int) ((Bool))) :=
 cond (decide (v8 < (a2.length : Int))) ((pv v7).bind fun b18 =>
(gM b18 (idx a2 v8)).bind fun t21 =>
(gM b18 (ref01_Valid t21)).bind fun t23 =>
(pv (b18 && t23)).bind fun b25 =>
(gM b25 (idx a2 v8)).bind fun t28 =>
 some (.next ((b25 && (decide (t28 < 128))), wi (v8 + 1)))) (some (.done v7))

noncomputable def ref40_Level_L1 (a1 : (List (List Str))) (t35 : (List Str)) (v10 : Int) : Option (Stp (Int) ((Unit) ⊕ (Int))) :=
 cond (decide (v10 < (a1.length : Int))) ((idx a1 v10).bind fun t48 =>
(ref40_Inside t35 t48).bind fun t50 =>
 cond t50 (some (.done (.inr (3)))) (some (.next (wi (v10 + 1))))) (some (.done (.inl (()))))

noncomputable def ref40_Level (a0 : Property) (a1 : (List (List Str))) (a2 : (List Int)) : Option (Int) :=
(loopM (fun (x : Bool × Int) => ref40_Level_L0 a2 x.1 x.2) (true, 0)).bind fun (y1 : Bool) =>
 cond y1 (some 1) ((ref40_Of a0 a2).bind fun t35 =>
 cond (decide ((t35.length : Int) < 2)) (some 2) ((loopM (fun (x : Int) => ref40_Level_L1 a1 t35 x) 0).bind fun (y2 : (Unit) ⊕ (Int)) =>
 y2.elim (fun y2 => some 4) (fun y2 => some y2)))

noncomputable def law40_ScriptsLevels_L0 (a1 : (List (List Str))) (v7 : Int) : Option (Stp (Int) ((Unit) ⊕ (Bool))) :=
 cond (decide (v7 < (a1.length : Int))) ((idx a1 v7).bind fun t26 =>
 cond (decide (10 < (t26.length : Int))) ((law40_alive).bind fun t30 =>
 some (.done (.inr (t30)))) (some (.next (wi (v7 + 1))))) (some (.done (.inl (()))))

noncomputable def law40_ScriptsLevels (a0 : Property) (a1 : (List (List Str))) (a2 : (List Int)) : Option (Bool) :=
(law40_few a0 a2).bind fun t10 =>
(pv (!t10)).bind fun b12 =>
 cond (b12 || (decide (10 < (a1.length : Int)))) ((law40_alive).bind fun t17 =>
 some t17) ((loopM (fun (x : Int) => law40_ScriptsLevels_L0 a1 x) 0).bind fun (y1 : (Unit) ⊕ (Bool)) =>
 y1.elim (fun y1 => (scripts_Level a0 a1 a2).bind fun t34 =>
(ref40_Level a0 a1 a2).bind fun t38 =>
(pv (decide (t34 = t38))).bind fun b40 =>
(gM b40 (law40_alive)).bind fun t41 =>
 some (b40 && t41)) (fun y1 => some y1))

noncomputable def law40_ScriptsCover_L0 (t17 : (List Range)) (a1 : (List Int)) (a0 : Property) (v6 : Int) (v7 : Str) (v8 : Int) : Option (Stp (Int × Str × Int) ((Int) ⊕ (Bool))) :=
 cond (decide (v8 < (t17.length : Int))) ((idx t17 v8).bind fun t26 =>
(pv (!decide (t26.Lo = v6))).bind fun b31 =>
(gM (!b31) (idx t17 v8)).bind fun t34 =>
(pv (b31 || (decide (t34.Hi ≤ v6)))).bind fun b40 =>
(gM (!b40) (idx t17 v8)).bind fun t43 =>
 cond (b40 || (decide ((a1.length : Int) < t43.Hi))) (some (.done (.inr (false)))) ((idx t17 v8).bind fun t55 =>
(slc a1 v6 t55.Hi).bind fun t58 =>
(scripts_Of a0 t58).bind fun t59 =>
(idx t17 v8).bind fun t62 =>
 cond (decide ((t59.length : Int) = 0)) ((pv (decide ((t17.length : Int) = 1))).bind fun b71 =>
(pv (b71 && (decide (t62.Hi = (a1.length : Int))))).bind fun b77 =>
(gM b77 (law40_alive)).bind fun t78 =>
 some (.done (.inr ((b77 && t78))))) ((pv (!decide ((t59.length : Int) = 1))).bind fun b83 =>
(gM (!b83) (idx t59 (0 : Int))).bind fun t85 =>
 cond (b83 || (t85 == v7)) (some (.done (.inr (false)))) ((idx t59 (0 : Int)).bind fun t91 =>
 some (.next (t62.Hi, t91, wi (v8 + 1))))))) (some (.done (.inl (v6))))

noncomputable def law40_ScriptsCover (a0 : Property) (a1 : (List Int)) : Option (Bool) :=
(law40_few a0 a1).bind fun t12 =>
 cond (!t12) ((law40_alive).bind fun t14 =>
 some t14) ((scripts_Runs a0 a1).bind fun t17 =>
(loopM (fun (x : Int × Str × Int) => law40_ScriptsCover_L0 t17 a1 a0 x.1 x.2.1 x.2.2) (0, [], 0)).bind fun (y1 : (Int) ⊕ (Bool)) =>
 y1.elim (fun y1 => (pv (decide (y1 = (a1.length : Int)))).bind fun b97 =>
(gM b97 (law40_alive)).bind fun t98 =>
 some (b97 && t98)) (fun y1 => some y1))

noncomputable def law40_ScriptsIgnores_L0 (a1 : (List Int)) (a2 : Int) (v8 : Int) (r1007 : (List Int)) : Option (Stp (Int × (List Int)) (((List Int)))) :=
 cond (decide (v8 < (a1.length : Int))) ((idx a1 v8).bind fun t32 =>
(app r1007 [a2, t32]).bind fun r1007_2 =>
 some (.next (wi (v8 + 1), r1007_2))) (some (.done r1007))

noncomputable def law40_ScriptsIgnores (a0 : Property) (a1 : (List Int)) (a2 : Int) : Option (Bool) :=
(law40_few a0 a1).bind fun t13 =>
(pv (!t13)).bind fun b15 =>
(gM (!b15) (ref10_Name a0 a2)).bind fun t18 =>
(gM (!b15) (ref40_Real t18)).bind fun t19 =>
 cond (b15 || t19) ((law40_alive).bind fun t21 =>
 some t21) ((loopM (fun (x : Int × (List Int)) => law40_ScriptsIgnores_L0 a1 a2 x.1 x.2) (0, [])).bind fun (y1 : (List Int)) =>
(app y1 [a2]).bind fun r1007_3 =>
(scripts_Level a0 [] a1).bind fun t42 =>
(scripts_Level a0 [] r1007_3).bind fun t45 =>
(scripts_Of a0 r1007_3).bind fun t48 =>
(scripts_Of a0 a1).bind fun t51 =>
(ref09_Strings t48 t51).bind fun t52 =>
(pv t52).bind fun b53 =>
(pv (decide (t42 = t45))).bind fun b57 =>
(pv (b53 && (b57 || (decide (t42 = 1))))).bind fun b62 =>
(gM b62 (law40_alive)).bind fun t63 =>
 some (b62 && t63))

noncomputable def law40_ScriptsGrow_L0 (t37 : (List Str)) (t31 : (List Str)) (t34 : (List Str)) (v11 : Int) : Option (Stp (Int) ((Unit) ⊕ (Bool))) :=
 cond (decide (v11 < (t37.length : Int))) ((idx t37 v11).bind fun t47 =>
(ref40_Has t31 t47).bind fun t49 =>
(pv (!t49)).bind fun b51 =>
(gM b51 (idx t37 v11)).bind fun t55 =>
(gM b51 (ref40_Has t34 t55)).bind fun t57 =>
(pv (b51 && (!t57))).bind fun b60 =>
(pv (decide (0 < v11))).bind fun b63 =>
(gM (!b60 && b63) (idx t37 (wi (v11 - 1)))).bind fun t67 =>
(gM (!b60 && b63) (idx t37 v11)).bind fun t71 =>
 cond (b60 || (b63 && (!Op.bytesLess t67 t71))) (some (.done (.inr (false)))) (some (.next (wi (v11 + 1))))) (some (.done (.inl (()))))

noncomputable def law40_ScriptsGrow (a0 : Property) (a1 : (List Int)) (a2 : (List Int)) : Option (Bool) :=
(law40_few a0 a1).bind fun t15 =>
(pv (!t15)).bind fun b17 =>
(gM (!b17) (law40_few a0 a2)).bind fun t20 =>
 cond (b17 || (!t20)) ((law40_alive).bind fun t23 =>
 some t23) ((app [] a1).bind fun r24_1 =>
(app r24_1 a2).bind fun r24_2 =>
(scripts_Of a0 a1).bind fun t31 =>
(scripts_Of a0 a2).bind fun t34 =>
(scripts_Of a0 r24_2).bind fun t37 =>
(loopM (fun (x : Int) => law40_ScriptsGrow_L0 t37 t31 t34 x) 0).bind fun (y3 : (Unit) ⊕ (Bool)) =>
 y3.elim (fun y3 => (scripts_Level a0 [] r24_2).bind fun t78 =>
(ref40_Inside t31 t37).bind fun t81 =>
(pv t81).bind fun b82 =>
(gM b82 (ref40_Inside t34 t37)).bind fun t85 =>
(pv (b82 && t85)).bind fun b87 =>
(gM b87 (scripts_Level a0 [] a1)).bind fun t91 =>
(pv (b87 && (decide (t91 ≤ t78)))).bind fun b94 =>
(gM b94 (scripts_Level a0 [] a2)).bind fun t98 =>
(pv (b94 && (decide (t98 ≤ t78)))).bind fun b101 =>
(gM b101 (law40_alive)).bind fun t102 =>
 some (b101 && t102)) (fun y3 => some y3))

noncomputable def scripts_Resolved_L0 (t20 : (List Range)) (t17 : (List Str)) (v22 : Int) (r18 : (List (Str × Range))) : Option (Stp (Int × (List (Str × Range))) (((List (Str × Range))))) :=
 cond (decide (v22 < (t20.length : Int))) (((idx t20 v22).bind fun t24 =>
(idx t17 t24.Lo).bind fun t29 =>
 cond (!(mhas r18 t29)) (some (mput r18 t29 t24)) (some r18)).bind fun (y2 : (List (Str × Range))) =>
 some (.next (wi (v22 + 1), y2))) (some (.done r18))

noncomputable def scripts_Resolved_L1 (t45 : (List Str)) (y1 : (List (Str × Range))) (v47 : Int) (r1012 : (List Range)) : Option (Stp (Int × (List Range)) (((List Range)))) :=
 cond (decide (v47 < (t45.length : Int))) ((idx t45 v47).bind fun t49 =>
(app r1012 [mgetD y1 t49 (({ Lo := 0, Hi := 0 }) : Range)]).bind fun r1012_4 =>
 some (.next (wi (v47 + 1), r1012_4))) (some (.done r1012))

noncomputable def scripts_Resolved (a0 : Property) (a1 : (List Int)) : Option ((List Range)) :=
(scripts_resolved a0 a1).bind fun t17 =>
(scripts_runs_string t17).bind fun t20 =>
(loopM (fun (x : Int × (List (Str × Range))) => scripts_Resolved_L0 t20 t17 x.1 x.2) (0, [])).bind fun (y1 : (List (Str × Range))) =>
(scripts_Of a0 a1).bind fun t45 =>
(loopM (fun (x : Int × (List Range)) => scripts_Resolved_L1 t45 y1 x.1 x.2) (0, [])).bind fun (y3 : (List Range)) =>
 some y3

noncomputable def ref40_Resolved_L1 (t15 : (List Range)) (a0 : Property) (a1 : (List Int)) (t12 : (List Str)) (v8 : Int) (r1007 : (List Range)) (v9 : Int) : Option (Stp (Int) (((List Range)))) :=
 cond (decide (v9 < (t15.length : Int))) ((idx t15 v9).bind fun t32 =>
(ref40_Script a0 a1 t32.Lo).bind fun t35 =>
(idx t12 v8).bind fun t38 =>
 cond (t35 == t38) ((idx t15 v9).bind fun t44 =>
(app r1007 [t44]).bind fun r1007_3 =>
 some (.done r1007_3)) (some (.next (wi (v9 + 1))))) (some (.done r1007))

noncomputable def ref40_Resolved_L0 (t12 : (List Str)) (t15 : (List Range)) (a0 : Property) (a1 : (List Int)) (v8 : Int) (r1007 : (List Range)) : Option (Stp (Int × (List Range)) (((List Range)))) :=
 cond (decide (v8 < (t12.length : Int))) ((loopM (fun (x : Int) => ref40_Resolved_L1 t15 a0 a1 t12 v8 r1007 x) 0).bind fun (y2 : (List Range)) =>
 some (.next (wi (v8 + 1), y2))) (some (.done r1007))

noncomputable def ref40_Resolved (a0 : Property) (a1 : (List Int)) : Option ((List Range)) :=
(ref40_Of a0 a1).bind fun t12 =>
(ref40_Runs a0 a1).bind fun t15 =>
(loopM (fun (x : Int × (List Range)) => ref40_Resolved_L0 t12 t15 a0 a1 x.1 x.2) (0, [])).bind fun (y1 : (List Range)) =>
 some y1

noncomputable def law40_ScriptsResolved (a0 : Property) (a1 : (List Int)) : Option (Bool) :=
(law40_few a0 a1).bind fun t8 =>
 cond (!t8) ((law40_alive).bind fun t10 =>
 some t10) ((scripts_Resolved a0 a1).bind fun t13 =>
(ref40_Resolved a0 a1).bind fun t17 =>
(ref30_SameRanges t13 t17).bind fun t18 =>
(pv t18).bind fun b19 =>
(gM b19 (scripts_Of a0 a1)).bind fun t24 =>
(pv (b19 && (decide ((t13.length : Int) = (t24.length : Int))))).bind fun b28 =>
(gM b28 (law40_alive)).bind fun t29 =>
 some (b28 && t29))
end Go.M

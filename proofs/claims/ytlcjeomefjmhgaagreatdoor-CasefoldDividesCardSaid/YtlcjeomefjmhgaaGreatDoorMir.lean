/- Plain counterparts of the program's functions, printed from its form. Conditions: none. -/
import Derived.Test.YtlcjeomefjmhgaaGreatDoorLa3
set_option linter.unusedSimpArgs false
set_option linter.unusedVariables false
set_option linter.unnecessarySimpa false
namespace Go.M
structure Mapping where
 From:Int
 To:(List Int)
 Tag:Str
 deriving DecidableEq,Inhabited
structure A4ListMapping where
 x0:(List Mapping)
 x1:(List Mapping)
 x2:(List Mapping)
 x3:(List Mapping)
 deriving DecidableEq,Inhabited
structure Range where
 Lo:Int
 Hi:Int
 deriving DecidableEq,Inhabited
structure Set where
 Ranges:(List Range)
 deriving DecidableEq,Inhabited
structure Case where
 Lower:(List Mapping)
 Upper:(List Mapping)
 Title:(List Mapping)
 Fold:(List Mapping)
 Cased:Set
 Ignorable:Set
 deriving DecidableEq,Inhabited
structure Mapping_key where
 from_:Int
 tag:Str
 deriving DecidableEq,Inhabited
structure Span where
 Lo:Int
 Hi:Int
 Value:Int
 deriving DecidableEq,Inhabited
structure Norm where
 Classes:(List Span)
 Decomp:(List Mapping)
 Excluded:Set
 deriving DecidableEq,Inhabited
def okMapping (x:Mapping):Prop:=(-9223372036854775808≤x.From∧x.From≤9223372036854775807)∧(x.To.length≤9223372036854775807∧∀y0∈x.To,(-9223372036854775808≤y0∧y0≤9223372036854775807))∧(x.Tag.length≤9223372036854775807)
def okRange (x:Range):Prop:=(-9223372036854775808≤x.Lo∧x.Lo≤9223372036854775807)∧(-9223372036854775808≤x.Hi∧x.Hi≤9223372036854775807)
def okSet (x:Set):Prop:=(x.Ranges.length≤9223372036854775807∧∀y0∈x.Ranges,(okRange y0))
def okCase (x:Case):Prop:=(x.Lower.length≤9223372036854775807∧∀y0∈x.Lower,(okMapping y0))∧(x.Upper.length≤9223372036854775807∧∀y0∈x.Upper,(okMapping y0))∧(x.Title.length≤9223372036854775807∧∀y0∈x.Title,(okMapping y0))∧(x.Fold.length≤9223372036854775807∧∀y0∈x.Fold,(okMapping y0))∧(okSet x.Cased)∧(okSet x.Ignorable)
end Go.M
namespace Go.AV
open Go.M
def kMapping_key (x:Mapping_key):Value:= .agg #[.int IntKind.i64 x.from_,.string ⟨x.tag.toArray⟩]
def eMapping:En Mapping:=⟨fun x=> .agg [(di x.From),(dsl eI x.To),(ds x.Tag)],3,fun _=>rfl⟩
def eA4ListMapping:En A4ListMapping:=⟨fun x=> .agg [(dsl eMapping x.x0),(dsl eMapping x.x1),(dsl eMapping x.x2),(dsl eMapping x.x3)],4,fun _=>rfl⟩
def eRange:En Range:=⟨fun x=> .agg [(di x.Lo),(di x.Hi)],2,fun _=>rfl⟩
def eSet:En Set:=⟨fun x=> .agg [(dsl eRange x.Ranges)],1,fun _=>rfl⟩
def eCase:En Case:=⟨fun x=> .agg [(dsl eMapping x.Lower),(dsl eMapping x.Upper),(dsl eMapping x.Title),(dsl eMapping x.Fold),(dsl eRange x.Cased.Ranges),(dsl eRange x.Ignorable.Ranges)],6,fun _=>rfl⟩
def eMapping_key:En Mapping_key:=⟨fun x=> .agg [(di x.from_),(ds x.tag)],2,fun _=>rfl⟩
def eSpan:En Span:=⟨fun x=> .agg [(di x.Lo),(di x.Hi),(di x.Value)],3,fun _=>rfl⟩
def eNorm:En Norm:=⟨fun x=> .agg [(dsl eSpan x.Classes),(dsl eMapping x.Decomp),(dsl eRange x.Excluded.Ranges)],3,fun _=>rfl⟩
end Go.AV
namespace Go.M
open Go.AV
noncomputable section
def ref11_Small_L0 (a0:(List Mapping)) (v3:Int):Option (Stp (Int) ((Unit)⊕(Bool))):=
(pv (decide (v3 < (a0.length:Int)))).bind fun b8=>
 cond (b8&&(decide (v3 < 30))) ((idx a0 v3).bind fun t16=>
(pv (decide (65 < (t16.To.length:Int)))).bind fun b21=>
(gM (!b21) (idx a0 v3)).bind fun t24=>
 cond (b21 ||(decide (40 < (t24.Tag.length:Int)))) (some (.done (.inr (false)))) (some (.next (wi (v3+1))))) (some (.done (.inl (()))))
def ref11_Small (a0:(List Mapping)):Option (Bool):=
(loopM (fun (x:Int)=>ref11_Small_L0 a0 x) 0).bind fun (y1:(Unit)⊕(Bool))=>
 y1.elim (fun y1=>some (decide ((a0.length:Int)≤20))) (fun y1=>some y1)
def ref38_Small (a0:Case):Option (Bool):=
(ref11_Small a0.Lower).bind fun t5=>
(pv t5).bind fun b6=>
(gM b6 (ref11_Small a0.Upper)).bind fun t9=>
(pv (b6&&t9)).bind fun b11=>
(gM b11 (ref11_Small a0.Title)).bind fun t14=>
(pv (b11&&t14)).bind fun b16=>
(gM b16 (ref11_Small a0.Fold)).bind fun t19=>
(pv (b16&&t19)).bind fun b21=>
(pv (b21&&(decide ((a0.Cased.Ranges.length:Int)≤12)))).bind fun b28=>
 some (b28&&(decide ((a0.Ignorable.Ranges.length:Int)≤12)))
def law38_few (a0:Case) (a1:(List Int)) (a2:(List Int)):Option (Bool):=
(ref38_Small a0).bind fun t8=>
(pv t8).bind fun b9=>
(pv (b9&&(decide ((a1.length:Int)≤30)))).bind fun b14=>
 some (b14&&(decide ((a2.length:Int)≤30)))
def codepoint_Valid (a0:Int):Option (Bool):=
(pv (decide (0≤a0))).bind fun b5=>
 some (b5&&(decide (a0≤1114111)))
def mapping_isName_L0 (a0:Str) (v15:Int):Option (Stp (Int) ((Unit)⊕(Bool))):=
 cond (decide (v15 < (a0.length:Int))) ((sidx a0 v15).bind fun t20=>
(pv (decide (65≤t20))).bind fun b23=>
(pv (b23&&(decide (t20≤90)))).bind fun b27=>
(pv (decide (97≤t20))).bind fun b30=>
(pv (!(b27 ||(b30&&(decide (t20≤122)))))).bind fun b37=>
(pv (decide (48≤t20))).bind fun b40=>
(pv (b37&&(!(b40&&(decide (t20≤57)))))).bind fun b46=>
 cond (b46&&(!decide (t20=95))) (some (.done (.inr (false)))) (some (.next (wi (v15+1))))) (some (.done (.inl (()))))
def mapping_isName (a0:Str):Option (Bool):=
(pv (a0== [])).bind fun b8=>
 cond (b8 ||(decide (32 < (a0.length:Int)))) (some false) ((loopM (fun (x:Int)=>mapping_isName_L0 a0 x) 0).bind fun (y1:(Unit)⊕(Bool))=>
 y1.elim (fun y1=>some true) (fun y1=>some y1))
def mapping_parts_L1 (t15:Mapping) (v24:Int):Option (Stp (Int) ((Unit)⊕(Int))):=
 cond (decide (v24 < (t15.To.length:Int))) ((idx t15.To v24).bind fun t26=>
(codepoint_Valid t26).bind fun t29=>
 cond (!t29) (some (.done (.inr (1)))) (some (.next (wi (v24+1))))) (some (.done (.inl (()))))
def mapping_parts_L0 (a0:(List Mapping)) (v13:Int):Option (Stp (Int) ((Unit)⊕(Int))):=
 cond (decide (v13 < (a0.length:Int))) ((idx a0 v13).bind fun t15=>
(codepoint_Valid t15.From).bind fun t19=>
 cond (!t19) (some (.done (.inr (1)))) ((loopM (fun (x:Int)=>mapping_parts_L1 t15 x) 0).bind fun (y2:(Unit)⊕(Int))=>
 y2.elim (fun y2=>some (.next (wi (v13+1)))) (fun y2=>some (.done (.inr (y2)))))) (some (.done (.inl (()))))
def mapping_parts_L2 (a0:(List Mapping)) (v35:Int):Option (Stp (Int) ((Unit)⊕(Int))):=
 cond (decide (v35 < (a0.length:Int))) ((idx a0 v35).bind fun t37=>
 cond (decide (64 < (t37.To.length:Int))) (some (.done (.inr (2)))) (some (.next (wi (v35+1))))) (some (.done (.inl (()))))
def mapping_parts_L3 (a0:(List Mapping)) (v46:Int):Option (Stp (Int) ((Unit)⊕(Int))):=
 cond (decide (v46 < (a0.length:Int))) ((idx a0 v46).bind fun t48=>
(pv (!(t48.Tag== []))).bind fun b53=>
(gM b53 (mapping_isName t48.Tag)).bind fun t56=>
 cond (b53&&(!t56)) (some (.done (.inr (6)))) (some (.next (wi (v46+1))))) (some (.done (.inl (()))))
def mapping_parts (a0:(List Mapping)):Option (Int):=
(loopM (fun (x:Int)=>mapping_parts_L0 a0 x) 0).bind fun (y1:(Unit)⊕(Int))=>
 y1.elim (fun y1=>(loopM (fun (x:Int)=>mapping_parts_L2 a0 x) 0).bind fun (y3:(Unit)⊕(Int))=>
 y3.elim (fun y3=>(loopM (fun (x:Int)=>mapping_parts_L3 a0 x) 0).bind fun (y4:(Unit)⊕(Int))=>
 y4.elim (fun y4=>some 0) (fun y4=>some y4)) (fun y3=>some y3)) (fun y1=>some y1)
def cmp_isNaN_int (a0:Int):Option (Bool):=
 some (!decide (a0=a0))
def cmp_Compare_int (a0:Int) (a1:Int):Option (Int):=
(cmp_isNaN_int a0).bind fun t8=>
(cmp_isNaN_int a1).bind fun t10=>
 cond t8 (cond t10 (some 0) (some (-1))) (cond t10 (some 1) (cond (decide (a0 < a1)) (some (-1)) (cond (decide (a1 < a0)) (some 1) (some 0))))
def cmp_isNaN_string (a0:Str):Option (Bool):=
 some (!(a0==a0))
def cmp_Compare_string (a0:Str) (a1:Str):Option (Int):=
(cmp_isNaN_string a0).bind fun t8=>
(cmp_isNaN_string a1).bind fun t10=>
 cond t8 (cond t10 (some 0) (some (-1))) (cond t10 (some 1) (cond (Op.bytesLess a0 a1) (some (-1)) (cond (!Op.bytesLess a0 a1&& !(a0==a1)) (some 1) (some 0))))
def cmp_Or_int_L0 (a0:(List Int)) (v8:Int):Option (Stp (Int) ((Unit)⊕(Int))):=
 cond (decide (v8 < (a0.length:Int))) ((idx a0 v8).bind fun t10=>
 cond (!decide (t10=0)) (some (.done (.inr (t10)))) (some (.next (wi (v8+1))))) (some (.done (.inl (()))))
def cmp_Or_int (a0:(List Int)):Option (Int):=
(loopM (fun (x:Int)=>cmp_Or_int_L0 a0 x) 0).bind fun (y1:(Unit)⊕(Int))=>
 y1.elim (fun y1=>some 0) (fun y1=>some y1)
def mapping_compare (a0:Mapping) (a1:Mapping):Option (Int):=
(cmp_Compare_int a0.From a1.From).bind fun t9=>
(cmp_Compare_string a0.Tag a1.Tag).bind fun t14=>
(cmp_Or_int [t9,t14]).bind fun t16=>
 some t16
def mapping_keyOf (a0:Mapping):Option (Mapping_key):=
 some ({from_:=a0.From,tag:=a0.Tag}:Mapping_key)
def mapping_Check_L0 (a0:(List Mapping)) (v4:Bool) (v5:Int):Option (Stp (Bool×Int) ((Bool))):=
 cond (decide (v5 < (a0.length:Int))) (((idx a0 (wi (v5 - 1))).bind fun t23=>
(idx a0 v5).bind fun t27=>
(mapping_compare t23 t27).bind fun t29=>
 cond (decide (0≤t29)) (some false) (some v4)).bind fun (y2:Bool)=>
 some (.next (y2,wi (v5+1)))) (some (.done v4))
def mapping_Check_L1 (a0:(List Mapping)) (v35:Int) (r32:(List (Mapping_key×Bool))):Option (Stp (Int×(List (Mapping_key×Bool))) ((Unit)⊕(Int))):=
 cond (decide (v35 < (a0.length:Int))) ((idx a0 v35).bind fun t37=>
(mapping_keyOf t37).bind fun t41=>
 cond (mgetD r32 t41 false) (some (.done (.inr (5)))) ((mapping_keyOf t37).bind fun t45=>
 some (.next (wi (v35+1),mput r32 t45 true)))) (some (.done (.inl (()))))
def mapping_Check (a0:(List Mapping)):Option (Int):=
(mapping_parts a0).bind fun t10=>
 cond (!decide (t10=0)) (some t10) ((loopM (fun (x:Bool×Int)=>mapping_Check_L0 a0 x.1 x.2) (true,1)).bind fun (y1:Bool)=>
 cond y1 (some 0) ((loopM (fun (x:Int×(List (Mapping_key×Bool)))=>mapping_Check_L1 a0 x.1 x.2) (0,[])).bind fun (y3:(Unit)⊕(Int))=>
 y3.elim (fun y3=>some 4) (fun y3=>some y3)))
def math_bits_Len64 (a0:Int):Option (Int):=
(cond (decide (4294967296≤a0)) (some (a0 / 2 ^ 32,32)) (some (a0,0))).bind fun (y1:Int×Int)=>
(cond (decide (65536≤y1.1)) (some (y1.1 / 2 ^ 16,wi (y1.2+16))) (some (y1.1,y1.2))).bind fun (y2:Int×Int)=>
(cond (decide (256≤y2.1)) (some (y2.1 / 2 ^ 8,wi (y2.2+8))) (some (y2.1,y2.2))).bind fun (y3:Int×Int)=>
(sidx [0,1,2,2,3,3,3,3,4,4,4,4,4,4,4,4,5,5,5,5,5,5,5,5,5,5,5,5,5,5,5,5,6,6,6,6,6,6,6,6,6,6,6,6,6,6,6,6,6,6,6,6,6,6,6,6,6,6,6,6,6,6,6,6,7,7,7,7,7,7,7,7,7,7,7,7,7,7,7,7,7,7,7,7,7,7,7,7,7,7,7,7,7,7,7,7,7,7,7,7,7,7,7,7,7,7,7,7,7,7,7,7,7,7,7,7,7,7,7,7,7,7,7,7,7,7,7,7,8,8,8,8,8,8,8,8,8,8,8,8,8,8,8,8,8,8,8,8,8,8,8,8,8,8,8,8,8,8,8,8,8,8,8,8,8,8,8,8,8,8,8,8,8,8,8,8,8,8,8,8,8,8,8,8,8,8,8,8,8,8,8,8,8,8,8,8,8,8,8,8,8,8,8,8,8,8,8,8,8,8,8,8,8,8,8,8,8,8,8,8,8,8,8,8,8,8,8,8,8,8,8,8,8,8,8,8,8,8,8,8,8,8,8,8,8,8,8,8,8,8,8,8,8,8,8,8] ((IntKind.u8.wrap) y3.1)).bind fun t22=>
 some (wi (y3.2+(wi t22)))
def math_bits_Len (a0:Int):Option (Int):=
(math_bits_Len64 a0).bind fun t7=>
 some t7
def slices_insertionSortCmpFunc_api_Range_L1 (a1:Int) (a3:Range→Range→Option (Int)) (v9:Int) (r3000:(List Range)):Option (Stp (Int×(List Range)) (((List Range)))):=
(pv (decide (a1 < v9))).bind fun b21=>
(gM b21 (idx r3000 v9)).bind fun t25=>
(gM b21 (idx r3000 (wi (v9 - 1)))).bind fun t30=>
(gM b21 (a3 t25 t30)).bind fun t32=>
 cond (b21&&(decide (t32 < 0))) ((idx r3000 (wi (v9 - 1))).bind fun t45=>
(idx r3000 v9).bind fun t49=>
(idx r3000 v9).bind fun t51=>
(setM r3000 v9 t45).bind fun r3000_6x15=>
(idx r3000_6x15 (wi (v9 - 1))).bind fun t52=>
(setM r3000_6x15 (wi (v9 - 1)) t49).bind fun r3000_6x17=>
 some (.next (wi (v9 - 1),r3000_6x17))) (some (.done r3000))
def slices_insertionSortCmpFunc_api_Range_L0 (a2:Int) (a1:Int) (a3:Range→Range→Option (Int)) (v8:Int) (r3000:(List Range)):Option (Stp (Int×(List Range)) (((List Range)))):=
 cond (decide (v8 < a2)) ((loopM (fun (x:Int×(List Range))=>slices_insertionSortCmpFunc_api_Range_L1 a1 a3 x.1 x.2) (v8,r3000)).bind fun (y2:(List Range))=>
 some (.next (wi (v8+1),y2))) (some (.done r3000))
def slices_insertionSortCmpFunc_api_Range (a0:(List Range)) (a1:Int) (a2:Int) (a3:Range→Range→Option (Int)):Option ((List Range)):=
(loopM (fun (x:Int×(List Range))=>slices_insertionSortCmpFunc_api_Range_L0 a2 a1 a3 x.1 x.2) (wi (a1+1),a0)).bind fun (y1:(List Range))=>
 some y1
def slices_pdqsortCmpFunc_api_Range_L0 (a2:Int) (a1:Int) (a0:(List Range)) (a4:Range→Range→Option (Int)) (a3:Int):Option (Stp (Unit) (((List Range)))):=
(cond (decide ((wi (a2 - a1))≤12)) ((slices_insertionSortCmpFunc_api_Range a0 a1 a2 a4).bind fun t30=>
 some t30) (cond (decide (a3=0)) (none) ((cond (!true) (none) (some ())).bind fun (y3:Unit)=>
 none))).bind fun (y2:(List Range))=>
 some (.done y2)
def slices_pdqsortCmpFunc_api_Range (a0:(List Range)) (a1:Int) (a2:Int) (a3:Int) (a4:Range→Range→Option (Int)):Option ((List Range)):=
(loopM (fun (_:Unit)=>slices_pdqsortCmpFunc_api_Range_L0 a2 a1 a0 a4 a3) ()).bind fun (y1:(List Range))=>
 some y1
def slices_SortFunc_api_Range_api_Range (a0:(List Range)) (a1:Range→Range→Option (Int)):Option ((List Range)):=
(math_bits_Len (wu (a0.length:Int))).bind fun t11=>
(slices_pdqsortCmpFunc_api_Range a0 0 (a0.length:Int) t11 a1).bind fun t13=>
 some t13
def cpset_Make_1 (a0:Range) (a1:Range):Option (Int):=
(cmp_Compare_int a0.Lo a1.Lo).bind fun t9=>
(cmp_Compare_int a0.Hi a1.Hi).bind fun t14=>
(cmp_Or_int [t9,t14]).bind fun t16=>
 some t16
def cpset_Make_L0 (a0:(List Range)) (v13:Int) (r1003:(List Range)):Option (Stp (Int×(List Range)) (((List Range)))):=
 cond (decide (v13 < (a0.length:Int))) (((idx a0 v13).bind fun t15=>
 cond (decide ((({Lo:=max t15.Lo 0,Hi:=min t15.Hi 1114111}:Range).Lo)≤(({Lo:=max t15.Lo 0,Hi:=min t15.Hi 1114111}:Range).Hi))) ((app r1003 [({Lo:=max t15.Lo 0,Hi:=min t15.Hi 1114111}:Range)]).bind fun r1003_3=>
 some r1003_3) (some r1003)).bind fun (y2:(List Range))=>
 some (.next (wi (v13+1),y2))) (some (.done r1003))
def cpset_Make_L1 (t35:(List Range)) (v38:Int) (r1007:(List Range)):Option (Stp (Int×(List Range)) (((List Range)))):=
 cond (decide (v38 < (t35.length:Int))) (((idx t35 v38).bind fun t40=>
(pv (decide (0 < (r1007.length:Int)))).bind fun b46=>
(gM b46 (idx r1007 (wi ((r1007.length:Int) - 1)))).bind fun t52=>
 cond (b46&&(decide (t40.Lo≤(wi (t52.Hi+1))))) ((idx r1007 (wi ((r1007.length:Int) - 1))).bind fun t64=>
(idx r1007 (wi ((r1007.length:Int) - 1))).bind fun t70=>
(setM r1007 (wi ((r1007.length:Int) - 1)) ({t70 with Hi:=max t64.Hi t40.Hi})).bind fun r1007_6=>
 some r1007_6) ((app r1007 [t40]).bind fun r1007_7=>
 some r1007_7)).bind fun (y5:(List Range))=>
 some (.next (wi (v38+1),y5))) (some (.done r1007))
def cpset_Make (a0:(List Range)):Option (Set):=
(loopM (fun (x:Int×(List Range))=>cpset_Make_L0 a0 x.1 x.2) (0,[])).bind fun (y1:(List Range))=>
(slices_SortFunc_api_Range_api_Range y1 (fun x0 x1=>cpset_Make_1 x0 x1)).bind fun t35=>
(loopM (fun (x:Int×(List Range))=>cpset_Make_L1 t35 x.1 x.2) (0,[])).bind fun (y4:(List Range))=>
 some ({Ranges:=y4}:Set)
def cpset_Valid_L0 (t8:Set) (a0:Set) (v19:Int):Option (Stp (Int) ((Unit)⊕(Bool))):=
 cond (decide (v19 < (t8.Ranges.length:Int))) ((idx t8.Ranges v19).bind fun t22=>
(idx a0.Ranges v19).bind fun t28=>
 cond (!decide (t22=t28)) (some (.done (.inr (false)))) (some (.next (wi (v19+1))))) (some (.done (.inl (()))))
def cpset_Valid (a0:Set):Option (Bool):=
(cpset_Make a0.Ranges).bind fun t8=>
 cond (!decide ((t8.Ranges.length:Int)=(a0.Ranges.length:Int))) (some false) ((loopM (fun (x:Int)=>cpset_Valid_L0 t8 a0 x) 0).bind fun (y1:(Unit)⊕(Bool))=>
 y1.elim (fun y1=>some true) (fun y1=>some y1))
def casemap_Check_L0 (a0:Case) (v21:Int):Option (Stp (Int) ((Unit)⊕(Int))):=
 cond (decide (v21 < 4)) ((idx [({x0:=a0.Lower,x1:=a0.Upper,x2:=a0.Title,x3:=a0.Fold}:A4ListMapping).x0,({x0:=a0.Lower,x1:=a0.Upper,x2:=a0.Title,x3:=a0.Fold}:A4ListMapping).x1,({x0:=a0.Lower,x1:=a0.Upper,x2:=a0.Title,x3:=a0.Fold}:A4ListMapping).x2,({x0:=a0.Lower,x1:=a0.Upper,x2:=a0.Title,x3:=a0.Fold}:A4ListMapping).x3] v21).bind fun t23=>
(mapping_Check t23).bind fun t25=>
 cond (!decide (t25=0)) (some (.done (.inr (t25)))) (some (.next (wi (v21+1))))) (some (.done (.inl (()))))
def casemap_Check_L2 (t34:(List Mapping)) (v31:Int) (v37:Int):Option (Stp (Int) ((Unit)⊕(Int))):=
 cond (decide (v37 < (t34.length:Int))) ((idx t34 v37).bind fun t39=>
(pv (!(t39.Tag== []))).bind fun b44=>
(pv (!decide (v31=0))).bind fun b47=>
 cond (b44&&(b47 ||(!(t39.Tag== [102,105,110,97,108])))) (some (.done (.inr (6)))) (some (.next (wi (v37+1))))) (some (.done (.inl (()))))
def casemap_Check_L1 (a0:Case) (v31:Int):Option (Stp (Int) ((Unit)⊕(Int))):=
 cond (decide (v31 < 4)) ((idx [({x0:=a0.Lower,x1:=a0.Upper,x2:=a0.Title,x3:=a0.Fold}:A4ListMapping).x0,({x0:=a0.Lower,x1:=a0.Upper,x2:=a0.Title,x3:=a0.Fold}:A4ListMapping).x1,({x0:=a0.Lower,x1:=a0.Upper,x2:=a0.Title,x3:=a0.Fold}:A4ListMapping).x2,({x0:=a0.Lower,x1:=a0.Upper,x2:=a0.Title,x3:=a0.Fold}:A4ListMapping).x3] v31).bind fun t34=>
(loopM (fun (x:Int)=>casemap_Check_L2 t34 v31 x) 0).bind fun (y3:(Unit)⊕(Int))=>
 y3.elim (fun y3=>some (.next (wi (v31+1)))) (fun y3=>some (.done (.inr (y3))))) (some (.done (.inl (()))))
def casemap_Check (a0:Case):Option (Int):=
(loopM (fun (x:Int)=>casemap_Check_L0 a0 x) 0).bind fun (y1:(Unit)⊕(Int))=>
 y1.elim (fun y1=>(loopM (fun (x:Int)=>casemap_Check_L1 a0 x) 0).bind fun (y2:(Unit)⊕(Int))=>
 y2.elim (fun y2=>(cpset_Valid a0.Cased).bind fun t57=>
(pv (!t57)).bind fun b59=>
(gM (!b59) (cpset_Valid a0.Ignorable)).bind fun t62=>
 cond (b59 ||(!t62)) (some 11) (some 0)) (fun y2=>some y2)) (fun y1=>some y1)
def casefold_foldings_L0 (a0:Case) (v14:Int) (r6:(List (Int×(List Int)))):Option (Stp (Int×(List (Int×(List Int)))) (((List (Int×(List Int)))))):=
 cond (decide (v14 < (a0.Fold.length:Int))) (((idx a0.Fold v14).bind fun t16=>
 cond (t16.Tag== []) (some (mput r6 t16.From t16.To)) (some r6)).bind fun (y2:(List (Int×(List Int))))=>
 some (.next (wi (v14+1),y2))) (some (.done r6))
def casefold_foldings (a0:Case):Option ((List (Int×(List Int)))):=
(casemap_Check a0).bind fun t8=>
 cond (!decide (t8=0)) (some []) ((loopM (fun (x:Int×(List (Int×(List Int))))=>casefold_foldings_L0 a0 x.1 x.2) (0,[])).bind fun (y1:(List (Int×(List Int))))=>
 some y1)
def slices_Equal_int_int_L0 (a0:(List Int)) (a1:(List Int)) (v13:Int):Option (Stp (Int) ((Unit)⊕(Bool))):=
 cond (decide (v13 < (a0.length:Int))) ((idx a0 v13).bind fun t18=>
(idx a1 v13).bind fun t22=>
 cond (!decide (t18=t22)) (some (.done (.inr (false)))) (some (.next (wi (v13+1))))) (some (.done (.inl (()))))
def slices_Equal_int_int (a0:(List Int)) (a1:(List Int)):Option (Bool):=
 cond (!decide ((a0.length:Int)=(a1.length:Int))) (some false) ((loopM (fun (x:Int)=>slices_Equal_int_int_L0 a0 a1 x) 0).bind fun (y1:(Unit)⊕(Bool))=>
 y1.elim (fun y1=>some true) (fun y1=>some y1))
def casefold_Orbit_L0S (y1:(List Int)) (uk:Int) (uv:(List Int)) (r1008:(List Int)):Option (Stp ((List Int)) (((List Int)))):=
((slices_Equal_int_int uv y1).bind fun t40=>
 cond t40 ((app r1008 [uk]).bind fun r1008_4=>
 some r1008_4) (some r1008)).bind fun (y3:(List Int))=>
 some (.next y3)
def casefold_Orbit_L0N (r1008:(List Int)):Option (Stp ((List Int)) (((List Int)))):=
 some (.done r1008)
def casefold_Orbit (a0:Case) (a1:Int):Option ((List Int)):=
(pv (decide (a1 < 0))).bind fun b15=>
 cond (b15 ||(decide (1114111 < a1))) (some []) ((casefold_foldings a0).bind fun t20=>
(cond (!(mhas t20 a1)) (some [a1]) (some (mgetD t20 a1 []))).bind fun (y1:(List Int))=>
 anyOrd t20 fun p=>(mrun (fun (u:Int×(List Int)) (x:(List Int))=>casefold_Orbit_L0S y1 u.1 u.2 x) (fun (x:(List Int))=>casefold_Orbit_L0N x) p []).bind fun (y2:(List Int))=>
(cond (decide ((y1.length:Int)=1)) ((idx y1 (0:Int)).bind fun t51=>
 cond (!(mhas t20 t51)) ((idx y1 (0:Int)).bind fun t60=>
(app y2 [t60]).bind fun r1008_6=>
 some r1008_6) (some y2)) (some y2)).bind fun (y5:(List Int))=>
(sortI y5).bind fun r1008_7=>
 some r1008_7)
def ref01_Compare_L0 (a0:(List Int)) (a1:(List Int)) (v5:Int):Option (Stp (Int) ((Unit)⊕(Int))):=
(pv (decide (v5 < (a0.length:Int)))).bind fun b10=>
 cond (b10&&(decide (v5 < (a1.length:Int)))) ((idx a0 v5).bind fun t20=>
(idx a1 v5).bind fun t24=>
 cond (decide (t20 < t24)) (some (.done (.inr ((-1))))) ((idx a0 v5).bind fun t29=>
(idx a1 v5).bind fun t33=>
 cond (decide (t33 < t29)) (some (.done (.inr (1)))) (some (.next (wi (v5+1)))))) (some (.done (.inl (()))))
def ref01_Compare (a0:(List Int)) (a1:(List Int)):Option (Int):=
(loopM (fun (x:Int)=>ref01_Compare_L0 a0 a1 x) 0).bind fun (y1:(Unit)⊕(Int))=>
 y1.elim (fun y1=>cond (decide ((a0.length:Int) < (a1.length:Int))) (some (-1)) (cond (decide ((a1.length:Int) < (a0.length:Int))) (some 1) (some 0))) (fun y1=>some y1)
def ref01_Equal (a0:(List Int)) (a1:(List Int)):Option (Bool):=
(ref01_Compare a0 a1).bind fun t7=>
 some (decide (t7=0))
def casefold_Fold_L0 (a1:(List Int)) (t12:(List (Int×(List Int)))) (v15:Int) (r1006:(List Int)):Option (Stp (Int×(List Int)) (((List Int)))):=
 cond (decide (v15 < (a1.length:Int))) (((idx a1 v15).bind fun t17=>
 cond (mhas t12 t17) ((app r1006 (mgetD t12 t17 [])).bind fun r1006_3=>
 some r1006_3) ((app r1006 [t17]).bind fun r1006_4=>
 some r1006_4)).bind fun (y2:(List Int))=>
 some (.next (wi (v15+1),y2))) (some (.done r1006))
def casefold_Fold (a0:Case) (a1:(List Int)):Option ((List Int)):=
(casefold_foldings a0).bind fun t12=>
(loopM (fun (x:Int×(List Int))=>casefold_Fold_L0 a1 t12 x.1 x.2) (0,[])).bind fun (y1:(List Int))=>
 some y1
def casefold_Closed_L1 (uv:(List Int)) (t11:(List (Int×(List Int)))) (v20:Int):Option (Stp (Int) ((Unit)⊕(Bool))):=
 cond (decide (v20 < (uv.length:Int))) ((idx uv v20).bind fun t22=>
 cond (mhas t11 t22) (some (.done (.inr (false)))) (some (.next (wi (v20+1))))) (some (.done (.inl (()))))
def casefold_Closed_L0S (t11:(List (Int×(List Int)))) (uk:Int) (uv:(List Int)):Option (Stp (Unit) ((Unit)⊕(Bool))):=
(loopM (fun (x:Int)=>casefold_Closed_L1 uv t11 x) 0).bind fun (y2:(Unit)⊕(Bool))=>
 y2.elim (fun y2=>some (.next ())) (fun y2=>some (.done (.inr (y2))))
def casefold_Closed_L0N:Option (Stp (Unit) ((Unit)⊕(Bool))):=
 some (.done (.inl (())))
def casefold_Closed (a0:Case):Option (Bool):=
(casefold_foldings a0).bind fun t11=>
 anyOrd t11 fun p=>(mrun (fun (u:Int×(List Int)) (_:Unit)=>casefold_Closed_L0S t11 u.1 u.2) (fun (_:Unit)=>casefold_Closed_L0N) p ()).bind fun (y1:(Unit)⊕(Bool))=>
 y1.elim (fun y1=>some true) (fun y1=>some y1)
def slices_Clone_int_int (a0:(List Int)):Option ((List Int)):=app [] a0
def casefold_Form (a0:Norm) (a1:Case) (a2:(List Int)) (a3:Int):Option ((List Int)):=
(cond (decide (a3=2)) (none) (cond (decide (a3=1)) (some (.inr (.inr (())))) (cond (decide (a3=0)) (some (.inr (.inl (())))) (some (.inl (())))))).bind fun (y1:(Unit)⊕(Unit)⊕(Unit))=>
 y1.elim (fun y1=>(slices_Clone_int_int a2).bind fun t37=>
 some t37) (fun y1=>y1.elim (fun y1=>(casefold_Fold a1 a2).bind fun t35=>
 some t35) (fun y1=>none))
def casefold_Match (a0:Norm) (a1:Case) (a2:(List Int)) (a3:(List Int)) (a4:Int):Option (Bool):=
(casefold_Form a0 a1 a2 a4).bind fun t15=>
(casefold_Form a0 a1 a3 a4).bind fun t20=>
(slices_Equal_int_int t15 t20).bind fun t21=>
 some t21
def law38_awake:Option (Bool):=
(casefold_Orbit ({Lower:=({Lower:=[],Upper:=[],Title:=[],Fold:=[({From:=75,To:=[107],Tag:=[]}:Mapping),({From:=223,To:=[115,115],Tag:=[]}:Mapping),({From:=8490,To:=[107],Tag:=[]}:Mapping)],Cased:=(({Ranges:=[]}):Set),Ignorable:=(({Ranges:=[]}):Set)}:Case).Lower,Upper:=({Lower:=[],Upper:=[],Title:=[],Fold:=[({From:=75,To:=[107],Tag:=[]}:Mapping),({From:=223,To:=[115,115],Tag:=[]}:Mapping),({From:=8490,To:=[107],Tag:=[]}:Mapping)],Cased:=(({Ranges:=[]}):Set),Ignorable:=(({Ranges:=[]}):Set)}:Case).Upper,Title:=({Lower:=[],Upper:=[],Title:=[],Fold:=[({From:=75,To:=[107],Tag:=[]}:Mapping),({From:=223,To:=[115,115],Tag:=[]}:Mapping),({From:=8490,To:=[107],Tag:=[]}:Mapping)],Cased:=(({Ranges:=[]}):Set),Ignorable:=(({Ranges:=[]}):Set)}:Case).Title,Fold:=({Lower:=[],Upper:=[],Title:=[],Fold:=[({From:=75,To:=[107],Tag:=[]}:Mapping),({From:=223,To:=[115,115],Tag:=[]}:Mapping),({From:=8490,To:=[107],Tag:=[]}:Mapping)],Cased:=(({Ranges:=[]}):Set),Ignorable:=(({Ranges:=[]}):Set)}:Case).Fold,Cased:=({Ranges:=(({Lower:=[],Upper:=[],Title:=[],Fold:=[({From:=75,To:=[107],Tag:=[]}:Mapping),({From:=223,To:=[115,115],Tag:=[]}:Mapping),({From:=8490,To:=[107],Tag:=[]}:Mapping)],Cased:=(({Ranges:=[]}):Set),Ignorable:=(({Ranges:=[]}):Set)}:Case).Cased).Ranges}:Set),Ignorable:=({Ranges:=(({Lower:=[],Upper:=[],Title:=[],Fold:=[({From:=75,To:=[107],Tag:=[]}:Mapping),({From:=223,To:=[115,115],Tag:=[]}:Mapping),({From:=8490,To:=[107],Tag:=[]}:Mapping)],Cased:=(({Ranges:=[]}):Set),Ignorable:=(({Ranges:=[]}):Set)}:Case).Ignorable).Ranges}:Set)}:Case) 75).bind fun t11=>
(ref01_Equal t11 [75,107,8490]).bind fun t13=>
(pv t13).bind fun b14=>
(gM b14 (casefold_Fold ({Lower:=({Lower:=[],Upper:=[],Title:=[],Fold:=[({From:=75,To:=[107],Tag:=[]}:Mapping),({From:=223,To:=[115,115],Tag:=[]}:Mapping),({From:=8490,To:=[107],Tag:=[]}:Mapping)],Cased:=(({Ranges:=[]}):Set),Ignorable:=(({Ranges:=[]}):Set)}:Case).Lower,Upper:=({Lower:=[],Upper:=[],Title:=[],Fold:=[({From:=75,To:=[107],Tag:=[]}:Mapping),({From:=223,To:=[115,115],Tag:=[]}:Mapping),({From:=8490,To:=[107],Tag:=[]}:Mapping)],Cased:=(({Ranges:=[]}):Set),Ignorable:=(({Ranges:=[]}):Set)}:Case).Upper,Title:=({Lower:=[],Upper:=[],Title:=[],Fold:=[({From:=75,To:=[107],Tag:=[]}:Mapping),({From:=223,To:=[115,115],Tag:=[]}:Mapping),({From:=8490,To:=[107],Tag:=[]}:Mapping)],Cased:=(({Ranges:=[]}):Set),Ignorable:=(({Ranges:=[]}):Set)}:Case).Title,Fold:=({Lower:=[],Upper:=[],Title:=[],Fold:=[({From:=75,To:=[107],Tag:=[]}:Mapping),({From:=223,To:=[115,115],Tag:=[]}:Mapping),({From:=8490,To:=[107],Tag:=[]}:Mapping)],Cased:=(({Ranges:=[]}):Set),Ignorable:=(({Ranges:=[]}):Set)}:Case).Fold,Cased:=({Ranges:=(({Lower:=[],Upper:=[],Title:=[],Fold:=[({From:=75,To:=[107],Tag:=[]}:Mapping),({From:=223,To:=[115,115],Tag:=[]}:Mapping),({From:=8490,To:=[107],Tag:=[]}:Mapping)],Cased:=(({Ranges:=[]}):Set),Ignorable:=(({Ranges:=[]}):Set)}:Case).Cased).Ranges}:Set),Ignorable:=({Ranges:=(({Lower:=[],Upper:=[],Title:=[],Fold:=[({From:=75,To:=[107],Tag:=[]}:Mapping),({From:=223,To:=[115,115],Tag:=[]}:Mapping),({From:=8490,To:=[107],Tag:=[]}:Mapping)],Cased:=(({Ranges:=[]}):Set),Ignorable:=(({Ranges:=[]}):Set)}:Case).Ignorable).Ranges}:Set)}:Case) [8490,223,65])).bind fun t17=>
(gM b14 (ref01_Equal t17 [107,115,115,65])).bind fun t19=>
(pv (b14&&t19)).bind fun b21=>
(gM b21 (casefold_Closed ({Lower:=({Lower:=[],Upper:=[],Title:=[],Fold:=[({From:=75,To:=[107],Tag:=[]}:Mapping),({From:=223,To:=[115,115],Tag:=[]}:Mapping),({From:=8490,To:=[107],Tag:=[]}:Mapping)],Cased:=(({Ranges:=[]}):Set),Ignorable:=(({Ranges:=[]}):Set)}:Case).Lower,Upper:=({Lower:=[],Upper:=[],Title:=[],Fold:=[({From:=75,To:=[107],Tag:=[]}:Mapping),({From:=223,To:=[115,115],Tag:=[]}:Mapping),({From:=8490,To:=[107],Tag:=[]}:Mapping)],Cased:=(({Ranges:=[]}):Set),Ignorable:=(({Ranges:=[]}):Set)}:Case).Upper,Title:=({Lower:=[],Upper:=[],Title:=[],Fold:=[({From:=75,To:=[107],Tag:=[]}:Mapping),({From:=223,To:=[115,115],Tag:=[]}:Mapping),({From:=8490,To:=[107],Tag:=[]}:Mapping)],Cased:=(({Ranges:=[]}):Set),Ignorable:=(({Ranges:=[]}):Set)}:Case).Title,Fold:=({Lower:=[],Upper:=[],Title:=[],Fold:=[({From:=75,To:=[107],Tag:=[]}:Mapping),({From:=223,To:=[115,115],Tag:=[]}:Mapping),({From:=8490,To:=[107],Tag:=[]}:Mapping)],Cased:=(({Ranges:=[]}):Set),Ignorable:=(({Ranges:=[]}):Set)}:Case).Fold,Cased:=({Ranges:=(({Lower:=[],Upper:=[],Title:=[],Fold:=[({From:=75,To:=[107],Tag:=[]}:Mapping),({From:=223,To:=[115,115],Tag:=[]}:Mapping),({From:=8490,To:=[107],Tag:=[]}:Mapping)],Cased:=(({Ranges:=[]}):Set),Ignorable:=(({Ranges:=[]}):Set)}:Case).Cased).Ranges}:Set),Ignorable:=({Ranges:=(({Lower:=[],Upper:=[],Title:=[],Fold:=[({From:=75,To:=[107],Tag:=[]}:Mapping),({From:=223,To:=[115,115],Tag:=[]}:Mapping),({From:=8490,To:=[107],Tag:=[]}:Mapping)],Cased:=(({Ranges:=[]}):Set),Ignorable:=(({Ranges:=[]}):Set)}:Case).Ignorable).Ranges}:Set)}:Case))).bind fun t23=>
(pv (b21&&t23)).bind fun b25=>
(gM b25 (casefold_Match ({Classes:=[],Decomp:=[],Excluded:=(({Ranges:=[]}):Set)}:Norm) ({Lower:=({Lower:=[],Upper:=[],Title:=[],Fold:=[({From:=75,To:=[107],Tag:=[]}:Mapping),({From:=223,To:=[115,115],Tag:=[]}:Mapping),({From:=8490,To:=[107],Tag:=[]}:Mapping)],Cased:=(({Ranges:=[]}):Set),Ignorable:=(({Ranges:=[]}):Set)}:Case).Lower,Upper:=({Lower:=[],Upper:=[],Title:=[],Fold:=[({From:=75,To:=[107],Tag:=[]}:Mapping),({From:=223,To:=[115,115],Tag:=[]}:Mapping),({From:=8490,To:=[107],Tag:=[]}:Mapping)],Cased:=(({Ranges:=[]}):Set),Ignorable:=(({Ranges:=[]}):Set)}:Case).Upper,Title:=({Lower:=[],Upper:=[],Title:=[],Fold:=[({From:=75,To:=[107],Tag:=[]}:Mapping),({From:=223,To:=[115,115],Tag:=[]}:Mapping),({From:=8490,To:=[107],Tag:=[]}:Mapping)],Cased:=(({Ranges:=[]}):Set),Ignorable:=(({Ranges:=[]}):Set)}:Case).Title,Fold:=({Lower:=[],Upper:=[],Title:=[],Fold:=[({From:=75,To:=[107],Tag:=[]}:Mapping),({From:=223,To:=[115,115],Tag:=[]}:Mapping),({From:=8490,To:=[107],Tag:=[]}:Mapping)],Cased:=(({Ranges:=[]}):Set),Ignorable:=(({Ranges:=[]}):Set)}:Case).Fold,Cased:=({Ranges:=(({Lower:=[],Upper:=[],Title:=[],Fold:=[({From:=75,To:=[107],Tag:=[]}:Mapping),({From:=223,To:=[115,115],Tag:=[]}:Mapping),({From:=8490,To:=[107],Tag:=[]}:Mapping)],Cased:=(({Ranges:=[]}):Set),Ignorable:=(({Ranges:=[]}):Set)}:Case).Cased).Ranges}:Set),Ignorable:=({Ranges:=(({Lower:=[],Upper:=[],Title:=[],Fold:=[({From:=75,To:=[107],Tag:=[]}:Mapping),({From:=223,To:=[115,115],Tag:=[]}:Mapping),({From:=8490,To:=[107],Tag:=[]}:Mapping)],Cased:=(({Ranges:=[]}):Set),Ignorable:=(({Ranges:=[]}):Set)}:Case).Ignorable).Ranges}:Set)}:Case) [75] [8490] 0)).bind fun t30=>
(pv (b25&&t30)).bind fun b32=>
(gM b32 (casefold_Match ({Classes:=[],Decomp:=[],Excluded:=(({Ranges:=[]}):Set)}:Norm) ({Lower:=({Lower:=[],Upper:=[],Title:=[],Fold:=[({From:=75,To:=[107],Tag:=[]}:Mapping),({From:=223,To:=[115,115],Tag:=[]}:Mapping),({From:=8490,To:=[107],Tag:=[]}:Mapping)],Cased:=(({Ranges:=[]}):Set),Ignorable:=(({Ranges:=[]}):Set)}:Case).Lower,Upper:=({Lower:=[],Upper:=[],Title:=[],Fold:=[({From:=75,To:=[107],Tag:=[]}:Mapping),({From:=223,To:=[115,115],Tag:=[]}:Mapping),({From:=8490,To:=[107],Tag:=[]}:Mapping)],Cased:=(({Ranges:=[]}):Set),Ignorable:=(({Ranges:=[]}):Set)}:Case).Upper,Title:=({Lower:=[],Upper:=[],Title:=[],Fold:=[({From:=75,To:=[107],Tag:=[]}:Mapping),({From:=223,To:=[115,115],Tag:=[]}:Mapping),({From:=8490,To:=[107],Tag:=[]}:Mapping)],Cased:=(({Ranges:=[]}):Set),Ignorable:=(({Ranges:=[]}):Set)}:Case).Title,Fold:=({Lower:=[],Upper:=[],Title:=[],Fold:=[({From:=75,To:=[107],Tag:=[]}:Mapping),({From:=223,To:=[115,115],Tag:=[]}:Mapping),({From:=8490,To:=[107],Tag:=[]}:Mapping)],Cased:=(({Ranges:=[]}):Set),Ignorable:=(({Ranges:=[]}):Set)}:Case).Fold,Cased:=({Ranges:=(({Lower:=[],Upper:=[],Title:=[],Fold:=[({From:=75,To:=[107],Tag:=[]}:Mapping),({From:=223,To:=[115,115],Tag:=[]}:Mapping),({From:=8490,To:=[107],Tag:=[]}:Mapping)],Cased:=(({Ranges:=[]}):Set),Ignorable:=(({Ranges:=[]}):Set)}:Case).Cased).Ranges}:Set),Ignorable:=({Ranges:=(({Lower:=[],Upper:=[],Title:=[],Fold:=[({From:=75,To:=[107],Tag:=[]}:Mapping),({From:=223,To:=[115,115],Tag:=[]}:Mapping),({From:=8490,To:=[107],Tag:=[]}:Mapping)],Cased:=(({Ranges:=[]}):Set),Ignorable:=(({Ranges:=[]}):Set)}:Case).Ignorable).Ranges}:Set)}:Case) [75] [8490] 3)).bind fun t37=>
 some (b32&&(!t37))
def ref01_Valid (a0:Int):Option (Bool):=
(pv (decide (0≤a0))).bind fun b5=>
 some (b5&&(decide (a0≤1114111)))
def ref11_codes_L0 (a0:Mapping) (v3:Int):Option (Stp (Int) ((Unit)⊕(Bool))):=
 cond (decide (v3 < (a0.To.length:Int))) ((idx a0.To v3).bind fun t14=>
(ref01_Valid t14).bind fun t16=>
 cond (!t16) (some (.done (.inr (false)))) (some (.next (wi (v3+1))))) (some (.done (.inl (()))))
def ref11_codes (a0:Mapping):Option (Bool):=
(loopM (fun (x:Int)=>ref11_codes_L0 a0 x) 0).bind fun (y1:(Unit)⊕(Bool))=>
 y1.elim (fun y1=>(ref01_Valid a0.From).bind fun t20=>
 some t20) (fun y1=>some y1)
def ref11_Name_L0 (a0:Str) (v3:Int):Option (Stp (Int) ((Unit)⊕(Bool))):=
 cond (decide (v3 < (a0.length:Int))) ((sidx a0 v3).bind fun t13=>
(pv (decide (65≤t13))).bind fun b16=>
(pv (b16&&(decide (t13≤90)))).bind fun b20=>
(pv (decide (97≤t13))).bind fun b23=>
(pv (b20 ||(b23&&(decide (t13≤122))))).bind fun b28=>
(pv (decide (48≤t13))).bind fun b31=>
(pv (b28 ||(b31&&(decide (t13≤57))))).bind fun b36=>
 cond (!(b36 ||(decide (t13=95)))) (some (.done (.inr (false)))) (some (.next (wi (v3+1))))) (some (.done (.inl (()))))
def ref11_Name (a0:Str):Option (Bool):=
(loopM (fun (x:Int)=>ref11_Name_L0 a0 x) 0).bind fun (y1:(Unit)⊕(Bool))=>
 y1.elim (fun y1=>(pv (decide (1≤(a0.length:Int)))).bind fun b44=>
 some (b44&&(decide ((a0.length:Int)≤32)))) (fun y1=>some y1)
def ref11_twice_L1 (v3:Int) (a0:(List Mapping)) (v4:Int):Option (Stp (Int) ((Unit)⊕(Bool))):=
 cond (decide (v4 < v3)) ((idx a0 v3).bind fun t18=>
(idx a0 v4).bind fun t23=>
(pv (decide (t18.From=t23.From))).bind fun b27=>
(gM b27 (idx a0 v3)).bind fun t30=>
(gM b27 (idx a0 v4)).bind fun t35=>
 cond (b27&&(t30.Tag==t35.Tag)) (some (.done (.inr (true)))) (some (.next (wi (v4+1))))) (some (.done (.inl (()))))
def ref11_twice_L0 (a0:(List Mapping)) (v3:Int):Option (Stp (Int) ((Unit)⊕(Bool))):=
 cond (decide (v3 < (a0.length:Int))) ((loopM (fun (x:Int)=>ref11_twice_L1 v3 a0 x) 0).bind fun (y2:(Unit)⊕(Bool))=>
 y2.elim (fun y2=>some (.next (wi (v3+1)))) (fun y2=>some (.done (.inr (y2))))) (some (.done (.inl (()))))
def ref11_twice (a0:(List Mapping)):Option (Bool):=
(loopM (fun (x:Int)=>ref11_twice_L0 a0 x) 0).bind fun (y1:(Unit)⊕(Bool))=>
 y1.elim (fun y1=>some false) (fun y1=>some y1)
def ref11_unsorted_L0 (a0:(List Mapping)) (v3:Int):Option (Stp (Int) ((Unit)⊕(Int))):=
 cond (decide (v3 < (a0.length:Int))) ((idx a0 v3).bind fun t14=>
(ref11_codes t14).bind fun t16=>
 cond (!t16) (some (.done (.inr (1)))) (some (.next (wi (v3+1))))) (some (.done (.inl (()))))
def ref11_unsorted_L1 (a0:(List Mapping)) (v4:Int):Option (Stp (Int) ((Unit)⊕(Int))):=
 cond (decide (v4 < (a0.length:Int))) ((idx a0 v4).bind fun t26=>
 cond (decide (64 < (t26.To.length:Int))) (some (.done (.inr (2)))) (some (.next (wi (v4+1))))) (some (.done (.inl (()))))
def ref11_unsorted_L2 (a0:(List Mapping)) (v5:Int):Option (Stp (Int) ((Unit)⊕(Int))):=
 cond (decide (v5 < (a0.length:Int))) ((idx a0 v5).bind fun t39=>
(pv (!(t39.Tag== []))).bind fun b43=>
(gM b43 (idx a0 v5)).bind fun t46=>
(gM b43 (ref11_Name t46.Tag)).bind fun t49=>
 cond (b43&&(!t49)) (some (.done (.inr (6)))) (some (.next (wi (v5+1))))) (some (.done (.inl (()))))
def ref11_unsorted (a0:(List Mapping)):Option (Int):=
(loopM (fun (x:Int)=>ref11_unsorted_L0 a0 x) 0).bind fun (y1:(Unit)⊕(Int))=>
 y1.elim (fun y1=>(loopM (fun (x:Int)=>ref11_unsorted_L1 a0 x) 0).bind fun (y2:(Unit)⊕(Int))=>
 y2.elim (fun y2=>(loopM (fun (x:Int)=>ref11_unsorted_L2 a0 x) 0).bind fun (y3:(Unit)⊕(Int))=>
 y3.elim (fun y3=>(ref11_twice a0).bind fun t53=>
 cond t53 (some 5) (some 0)) (fun y3=>some y3)) (fun y2=>some y2)) (fun y1=>some y1)
def ref11_before (a0:Mapping) (a1:Mapping):Option (Bool):=
(pv (decide (a0.From < a1.From))).bind fun b10=>
(pv (decide (a0.From=a1.From))).bind fun b16=>
 some (b10 ||(b16&&(Op.bytesLess a0.Tag a1.Tag)))
def ref11_Check_L0 (a0:(List Mapping)) (v4:Int):Option (Stp (Int) ((Unit)⊕(Int))):=
 cond (decide (v4 < (a0.length:Int))) ((idx a0 (wi (v4 - 1))).bind fun t19=>
(idx a0 v4).bind fun t23=>
(ref11_before t19 t23).bind fun t25=>
 cond (!t25) (some (.done (.inr (4)))) (some (.next (wi (v4+1))))) (some (.done (.inl (()))))
def ref11_Check (a0:(List Mapping)):Option (Int):=
(ref11_unsorted a0).bind fun t6=>
 cond (!decide (t6=0)) (some t6) ((loopM (fun (x:Int)=>ref11_Check_L0 a0 x) 1).bind fun (y1:(Unit)⊕(Int))=>
 y1.elim (fun y1=>some 0) (fun y1=>some y1))
def ref37_tagged_L0 (a0:(List Mapping)) (a1:Str) (v5:Int):Option (Stp (Int) ((Unit)⊕(Bool))):=
 cond (decide (v5 < (a0.length:Int))) ((idx a0 v5).bind fun t14=>
(pv (!(t14.Tag== []))).bind fun b18=>
(gM b18 (idx a0 v5)).bind fun t21=>
 cond (b18&&(!(t21.Tag==a1))) (some (.done (.inr (true)))) (some (.next (wi (v5+1))))) (some (.done (.inl (()))))
def ref37_tagged (a0:(List Mapping)) (a1:Str):Option (Bool):=
(loopM (fun (x:Int)=>ref37_tagged_L0 a0 a1 x) 0).bind fun (y1:(Unit)⊕(Bool))=>
 y1.elim (fun y1=>some false) (fun y1=>some y1)
def ref02_place_L0 (a0:(List Int)) (a1:Int) (v6:Bool) (v7:Int) (r1005:(List Int)):Option (Stp (Bool×Int×(List Int)) ((Bool×(List Int)))):=
 cond (decide (v7 < (a0.length:Int))) ((pv (!v6)).bind fun b16=>
(gM b16 (idx a0 v7)).bind fun t19=>
(cond (b16&&(decide (a1≤t19))) ((idx a0 v7).bind fun t26=>
 cond (decide (a1 < t26)) ((app r1005 [a1]).bind fun r1005_3=>
 some (true,r1005_3)) (some (true,r1005))) (some (v6,r1005))).bind fun (y2:Bool×(List Int))=>
(idx a0 v7).bind fun t37=>
(app y2.2 [t37]).bind fun r1005_4=>
 some (.next (y2.1,wi (v7+1),r1005_4))) (some (.done (v6,r1005)))
def ref02_place (a0:(List Int)) (a1:Int):Option ((List Int)):=
(loopM (fun (x:Bool×Int×(List Int))=>ref02_place_L0 a0 a1 x.1 x.2.1 x.2.2) (false,0,[])).bind fun (y1:Bool×(List Int))=>
(cond (!y1.1) ((app y1.2 [a1]).bind fun r1005_6=>
 some r1005_6) (some y1.2)).bind fun (y5:(List Int))=>
 some y5
def ref02_Cuts_L0 (a1:Set) (v0:(List Int)) (v5:Int):Option (Stp ((List Int)×Int) (((List Int)))):=
 cond (decide (v5 < (a1.Ranges.length:Int))) (((idx a1.Ranges v5).bind fun t18=>
(idx a1.Ranges v5).bind fun t24=>
(ref01_Valid t18.Lo).bind fun t28=>
(cond t28 ((ref02_place v0 t18.Lo).bind fun t31=>
 some t31) (some v0)).bind fun (y3:(List Int))=>
(pv (decide (0≤t24.Hi))).bind fun b34=>
 cond (b34&&(decide (t24.Hi < 1114111))) ((ref02_place y3 (wi (t24.Hi+1))).bind fun t41=>
 some t41) (some y3)).bind fun (y2:(List Int))=>
 some (.next (y2,wi (v5+1)))) (some (.done v0))
def ref02_Cuts (a0:(List Int)) (a1:Set):Option ((List Int)):=
(loopM (fun (x:(List Int)×Int)=>ref02_Cuts_L0 a1 x.1 x.2) (a0,0)).bind fun (y1:(List Int))=>
(ref02_place y1 0).bind fun t43=>
 some t43
def ref02_Has_L0 (a0:Set) (a1:Int) (v5:Int):Option (Stp (Int) ((Unit)⊕(Bool))):=
 cond (decide (v5 < (a0.Ranges.length:Int))) ((ref01_Valid a1).bind fun t14=>
(pv t14).bind fun b15=>
(gM b15 (idx a0.Ranges v5)).bind fun t19=>
(pv (b15&&(decide (t19.Lo≤a1)))).bind fun b25=>
(gM b25 (idx a0.Ranges v5)).bind fun t30=>
 cond (b25&&(decide (a1≤t30.Hi))) (some (.done (.inr (true)))) (some (.next (wi (v5+1))))) (some (.done (.inl (()))))
def ref02_Has (a0:Set) (a1:Int):Option (Bool):=
(loopM (fun (x:Int)=>ref02_Has_L0 a0 a1 x) 0).bind fun (y1:(Unit)⊕(Bool))=>
 y1.elim (fun y1=>some false) (fun y1=>some y1)
def ref02_keeps (a0:Int) (a1:Bool) (a2:Bool):Option (Bool):=
 cond (decide (a0=1)) ((pv a1).bind fun b11=>
 some (b11 ||a2)) (cond (decide (a0=2)) ((pv a1).bind fun b17=>
 some (b17&&a2)) ((pv a1).bind fun b21=>
 some (b21&&(!a2))))
def ref02_combine_L0 (t16:(List Int)) (a0:Set) (a1:Set) (a2:Int) (v9:Bool) (v10:Int) (r4160:(List Range)):Option (Stp (Bool×Int×(List Range)) (((List Range)))):=
 cond (decide (v10 < (t16.length:Int))) ((cond (decide ((wi (v10+1)) < (t16.length:Int))) ((idx t16 (wi (v10+1))).bind fun t31=>
 some (wi (t31 - 1))) (some 1114111)).bind fun (y2:Int)=>
(idx t16 v10).bind fun t38=>
(ref02_Has a0 t38).bind fun t40=>
(idx t16 v10).bind fun t44=>
(ref02_Has a1 t44).bind fun t46=>
(ref02_keeps a2 t40 t46).bind fun t47=>
(pv t47).bind fun b49=>
(cond (b49&&v9) ((idx r4160 (wi ((r4160.length:Int) - 1))).bind fun t59=>
(setM r4160 (wi ((r4160.length:Int) - 1)) ({t59 with Hi:=y2})).bind fun r4160_4=>
 some r4160_4) (some r4160)).bind fun (y3:(List Range))=>
(pv t47).bind fun b62=>
(cond (b62&&(!v9)) ((idx t16 v10).bind fun t70=>
(app y3 [({Lo:=t70,Hi:=y2}:Range)]).bind fun r4160_6=>
 some r4160_6) (some y3)).bind fun (y5:(List Range))=>
 some (.next (t47,wi (v10+1),y5))) (some (.done r4160))
def ref02_combine (a0:Set) (a1:Set) (a2:Int):Option (Set):=
(ref02_Cuts [] a0).bind fun t14=>
(ref02_Cuts t14 a1).bind fun t16=>
(loopM (fun (x:Bool×Int×(List Range))=>ref02_combine_L0 t16 a0 a1 a2 x.1 x.2.1 x.2.2) (false,0,[])).bind fun (y1:(List Range))=>
 some ({Ranges:=y1}:Set)
def ref02_Make (a0:(List Range)):Option (Set):=
(ref02_combine ({Ranges:=a0}:Set) ({Ranges:=[]}:Set) 1).bind fun t6=>
 some t6
def ref02_Same_L0 (a0:Set) (a1:Set) (v5:Int):Option (Stp (Int) ((Unit)⊕(Bool))):=
 cond (decide (v5 < (a0.Ranges.length:Int))) ((idx a0.Ranges v5).bind fun t23=>
(idx a1.Ranges v5).bind fun t28=>
 cond (!decide (t23=t28)) (some (.done (.inr (false)))) (some (.next (wi (v5+1))))) (some (.done (.inl (()))))
def ref02_Same (a0:Set) (a1:Set):Option (Bool):=
 cond (!decide ((a0.Ranges.length:Int)=(a1.Ranges.length:Int))) (some false) ((loopM (fun (x:Int)=>ref02_Same_L0 a0 a1 x) 0).bind fun (y1:(Unit)⊕(Bool))=>
 y1.elim (fun y1=>some true) (fun y1=>some y1))
def ref02_Valid (a0:Set):Option (Bool):=
(ref02_Make a0.Ranges).bind fun t6=>
(ref02_Same a0 t6).bind fun t7=>
 some t7
def ref37_Check_L0 (a0:Case) (v4:Int):Option (Stp (Int) ((Unit)⊕(Int))):=
 cond (decide (v4 < ([a0.Lower,a0.Upper,a0.Title,a0.Fold].length:Int))) ((idx [a0.Lower,a0.Upper,a0.Title,a0.Fold] v4).bind fun t23=>
(ref11_Check t23).bind fun t25=>
 cond (!decide (t25=0)) (some (.done (.inr (t25)))) (some (.next (wi (v4+1))))) (some (.done (.inl (()))))
def ref37_Check (a0:Case):Option (Int):=
(loopM (fun (x:Int)=>ref37_Check_L0 a0 x) 0).bind fun (y1:(Unit)⊕(Int))=>
 y1.elim (fun y1=>(ref37_tagged a0.Lower [102,105,110,97,108]).bind fun t31=>
(pv t31).bind fun b32=>
(gM (!b32) (ref37_tagged a0.Upper [])).bind fun t35=>
(pv (b32 ||t35)).bind fun b37=>
(gM (!b37) (ref37_tagged a0.Title [])).bind fun t40=>
(pv (b37 ||t40)).bind fun b42=>
(gM (!b42) (ref37_tagged a0.Fold [])).bind fun t45=>
 cond (b42 ||t45) (some 6) ((ref02_Valid a0.Cased).bind fun t49=>
(pv (!t49)).bind fun b51=>
(gM (!b51) (ref02_Valid a0.Ignorable)).bind fun t54=>
 cond (b51 ||(!t54)) (some 11) (some 0))) (fun y1=>some y1)
def ref38_Data (a0:Case):Option ((List Mapping)):=
(ref37_Check a0).bind fun t4=>
 cond (!decide (t4=0)) (some []) (some a0.Fold)
def ref11_valid (a0:(List Mapping)):Option ((List Mapping)):=
(ref11_Check a0).bind fun t4=>
 cond (!decide (t4=0)) (some []) (some a0)
def ref11_find_L0 (a0:(List Mapping)) (a1:Int) (a2:Str) (v8:Int):Option (Stp (Int) ((Unit)⊕(Bool×(List Int)))):=
 cond (decide (v8 < (a0.length:Int))) ((idx a0 v8).bind fun t17=>
(pv (decide (t17.From=a1))).bind fun b22=>
(gM b22 (idx a0 v8)).bind fun t25=>
 cond (b22&&(t25.Tag==a2)) ((idx a0 v8).bind fun t34=>
(app [] t34.To).bind fun r31_2=>
 some (.done (.inr ((true,r31_2))))) (some (.next (wi (v8+1))))) (some (.done (.inl (()))))
def ref11_find (a0:(List Mapping)) (a1:Int) (a2:Str):Option ((List Int)×Bool):=
(loopM (fun (x:Int)=>ref11_find_L0 a0 a1 a2 x) 0).bind fun (y1:(Unit)⊕(Bool×(List Int)))=>
 y1.elim (fun y1=>some ([],false)) (fun y1=>some (y1.2,y1.1))
def ref11_Apply_L0 (a2:(List Int)) (t12:(List Mapping)) (a1:Str) (v8:Int) (r1007:(List Int)):Option (Stp (Int×(List Int)) (((List Int)))):=
 cond (decide (v8 < (a2.length:Int))) (((idx a2 v8).bind fun t23=>
(ref11_find t12 t23 a1).bind fun t26=>
 cond t26.2 ((app r1007 t26.1).bind fun r1007_3=>
 some r1007_3) ((idx a2 v8).bind fun t36=>
(app r1007 [t36]).bind fun r1007_4=>
 some r1007_4)).bind fun (y2:(List Int))=>
 some (.next (wi (v8+1),y2))) (some (.done r1007))
def ref11_Apply (a0:(List Mapping)) (a1:Str) (a2:(List Int)):Option ((List Int)):=
(ref11_valid a0).bind fun t12=>
(loopM (fun (x:Int×(List Int))=>ref11_Apply_L0 a2 t12 a1 x.1 x.2) (0,[])).bind fun (y1:(List Int))=>
 some y1
def ref38_Fold (a0:Case) (a1:(List Int)):Option ((List Int)):=
(ref38_Data a0).bind fun t6=>
(ref11_Apply t6 [] a1).bind fun t8=>
 some t8
def law38_CasefoldFolds (a0:Case) (a1:(List Int)) (a2:(List Int)):Option (Bool):=
(law38_few a0 a1 a2).bind fun t14=>
 cond (!t14) ((law38_awake).bind fun t16=>
 some t16) ((casefold_Fold a0 a1).bind fun t19=>
(casefold_Fold a0 a2).bind fun t22=>
(app [] a1).bind fun r1009_1=>
(app r1009_1 a2).bind fun r1009_2=>
(app [] t19).bind fun r1010_3=>
(app r1010_3 t22).bind fun r1010_4=>
(ref38_Fold a0 a1).bind fun t38=>
(ref01_Equal t19 t38).bind fun t39=>
(pv t39).bind fun b40=>
(gM b40 (casefold_Fold a0 r1009_2)).bind fun t43=>
(gM b40 (ref01_Equal t43 r1010_4)).bind fun t45=>
(pv (b40&&t45)).bind fun b47=>
(gM b47 (law38_awake)).bind fun t48=>
 some (b47&&t48))
def ref38_Orbit_L0 (t18:(List Mapping)) (v8:Int) (r1007:(List Int)):Option (Stp (Int×(List Int)) (((List Int)))):=
 cond (decide (v8 < (t18.length:Int))) ((idx t18 v8).bind fun t32=>
(app r1007 [t32.From]).bind fun r1007_2=>
 some (.next (wi (v8+1),r1007_2))) (some (.done r1007))
def ref38_Orbit_L2 (v9:(List Int)) (t52:Int) (v12:Int):Option (Stp (Int) ((Int))):=
(pv (decide (v12 < (v9.length:Int)))).bind fun b70=>
(gM b70 (idx v9 v12)).bind fun t73=>
 cond (b70&&(decide (t73 < t52))) (some (.next (wi (v12+1)))) (some (.done v12))
def ref38_Orbit_L1 (r1007_4:(List Int)) (a0:Case) (t22:(List Int)) (v9:(List Int)) (v10:Int):Option (Stp ((List Int)×Int) (((List Int)))):=
 cond (decide (v10 < (r1007_4.length:Int))) (((idx r1007_4 v10).bind fun t52=>
(ref01_Valid t52).bind fun t55=>
(pv (!t55)).bind fun b57=>
(gM (!b57) (ref38_Fold a0 [t52])).bind fun t61=>
(gM (!b57) (ref01_Equal t61 t22)).bind fun t63=>
 cond (b57 ||(!t63)) (some v9) ((loopM (fun (x:Int)=>ref38_Orbit_L2 v9 t52 x) 0).bind fun (y7:Int)=>
(pv (decide (y7 < (v9.length:Int)))).bind fun b84=>
(gM b84 (idx v9 y7)).bind fun t87=>
 cond (b84&&(decide (t87=t52))) (some v9) ((slc v9 0 y7).bind fun t95=>
(app [] t95).bind fun r1013_8=>
(app r1013_8 [t52]).bind fun r1013_9=>
(slc v9 y7 (v9.length)).bind fun t104=>
(app r1013_9 t104).bind fun r1013_10=>
 some r1013_10))).bind fun (y6:(List Int))=>
 some (.next (y6,wi (v10+1)))) (some (.done v9))
def ref38_Orbit (a0:Case) (a1:Int):Option ((List Int)):=
(ref01_Valid a1).bind fun t15=>
 cond (!t15) (some []) ((ref38_Data a0).bind fun t18=>
(ref38_Fold a0 [a1]).bind fun t22=>
(loopM (fun (x:Int×(List Int))=>ref38_Orbit_L0 t18 x.1 x.2) (0,[])).bind fun (y1:(List Int))=>
(app y1 t22).bind fun r1007_3=>
(app r1007_3 [a1]).bind fun r1007_4=>
(loopM (fun (x:(List Int)×Int)=>ref38_Orbit_L1 r1007_4 a0 t22 x.1 x.2) ([],0)).bind fun (y5:(List Int))=>
 some y5)
def law38_CasefoldOrbits_L0 (t14:(List Int)) (a0:Case) (a1:Int) (v6:Bool) (v7:Int):Option (Stp (Bool×Int) ((Bool)⊕(Bool))):=
 cond (decide (v7 < (t14.length:Int))) ((pv v6).bind fun b31=>
(gM (!b31) (idx t14 v7)).bind fun t34=>
(idx t14 v7).bind fun t42=>
(casefold_Orbit a0 t42).bind fun t44=>
(ref01_Equal t44 t14).bind fun t46=>
 cond (!t46) (some (.done (.inr (false)))) (some (.next ((b31 ||(decide (t34=a1))),wi (v7+1))))) (some (.done (.inl (v6))))
def law38_CasefoldOrbits (a0:Case) (a1:Int):Option (Bool):=
(law38_few a0 [] []).bind fun t9=>
 cond (!t9) ((law38_awake).bind fun t11=>
 some t11) ((casefold_Orbit a0 a1).bind fun t14=>
(ref38_Orbit a0 a1).bind fun t18=>
(ref01_Equal t14 t18).bind fun t19=>
 cond (!t19) (some false) ((ref01_Valid a1).bind fun t22=>
(loopM (fun (x:Bool×Int)=>law38_CasefoldOrbits_L0 t14 a0 a1 x.1 x.2) (!t22,0)).bind fun (y1:(Bool)⊕(Bool))=>
 y1.elim (fun y1=>(pv y1).bind fun b49=>
(gM b49 (law38_awake)).bind fun t50=>
 some (b49&&t50)) (fun y1=>some y1)))
def ref11_Get (a0:(List Mapping)) (a1:Int) (a2:Str):Option ((List Int)×Bool):=
(ref11_valid a0).bind fun t9=>
(ref11_find t9 a1 a2).bind fun t12=>
 some (t12.1,t12.2)
def ref38_Closed_L1 (t9:(List Mapping)) (v4:Int) (v5:Int):Option (Stp (Int) ((Unit)⊕(Bool))):=
(idx t9 v4).bind fun t18=>
(pv (t18.Tag== [])).bind fun b22=>
(gM b22 (idx t9 v4)).bind fun t26=>
 cond (b22&&(decide (v5 < (t26.To.length:Int)))) ((idx t9 v4).bind fun t38=>
(idx t38.To v5).bind fun t42=>
(ref11_Get t9 t42 []).bind fun t44=>
 cond t44.2 (some (.done (.inr (false)))) (some (.next (wi (v5+1))))) (some (.done (.inl (()))))
def ref38_Closed_L0 (t9:(List Mapping)) (v4:Int):Option (Stp (Int) ((Unit)⊕(Bool))):=
 cond (decide (v4 < (t9.length:Int))) ((loopM (fun (x:Int)=>ref38_Closed_L1 t9 v4 x) 0).bind fun (y2:(Unit)⊕(Bool))=>
 y2.elim (fun y2=>some (.next (wi (v4+1)))) (fun y2=>some (.done (.inr (y2))))) (some (.done (.inl (()))))
def ref38_Closed (a0:Case):Option (Bool):=
(ref38_Data a0).bind fun t9=>
(loopM (fun (x:Int)=>ref38_Closed_L0 t9 x) 0).bind fun (y1:(Unit)⊕(Bool))=>
 y1.elim (fun y1=>some true) (fun y1=>some y1)
def law38_CasefoldClosed (a0:Case) (a1:(List Int)):Option (Bool):=
(law38_few a0 a1 []).bind fun t9=>
 cond (!t9) ((law38_awake).bind fun t11=>
 some t11) ((casefold_Closed a0).bind fun t13=>
(casefold_Fold a0 a1).bind fun t16=>
(ref38_Closed a0).bind fun t19=>
(pv (t13==t19)).bind fun b21=>
(pv (!t13)).bind fun b24=>
(gM (b21&& !b24) (casefold_Fold a0 t16)).bind fun t27=>
(gM (b21&& !b24) (ref01_Equal t27 t16)).bind fun t29=>
(pv (b21&&(b24 ||t29))).bind fun b32=>
(gM b32 (law38_awake)).bind fun t33=>
 some (b32&&t33))
def law38_CasefoldDivides_L1 (t31:(List Int)) (t28:(List Int)) (v10:Int) (t34:Bool) (v11:Int):Option (Stp (Int) ((Unit)⊕(Bool))):=
 cond (decide (v11 < (t31.length:Int))) ((idx t28 v10).bind fun t49=>
(idx t31 v11).bind fun t53=>
(pv (decide (t49=t53))).bind fun b56=>
 cond (b56&&(!t34)) (some (.done (.inr (false)))) (some (.next (wi (v11+1))))) (some (.done (.inl (()))))
def law38_CasefoldDivides_L0 (t28:(List Int)) (t31:(List Int)) (t34:Bool) (v10:Int):Option (Stp (Int) ((Unit)⊕(Bool))):=
 cond (decide (v10 < (t28.length:Int))) ((loopM (fun (x:Int)=>law38_CasefoldDivides_L1 t31 t28 v10 t34 x) 0).bind fun (y2:(Unit)⊕(Bool))=>
 y2.elim (fun y2=>some (.next (wi (v10+1)))) (fun y2=>some (.done (.inr (y2))))) (some (.done (.inl (()))))
def law38_CasefoldDivides (a0:Case) (a1:Int) (a2:Int):Option (Bool):=
(law38_few a0 [] []).bind fun t13=>
(pv (!t13)).bind fun b15=>
(gM (!b15) (ref01_Valid a1)).bind fun t17=>
(pv (b15 ||(!t17))).bind fun b20=>
(gM (!b20) (ref01_Valid a2)).bind fun t22=>
 cond (b20 ||(!t22)) ((law38_awake).bind fun t25=>
 some t25) ((casefold_Orbit a0 a1).bind fun t28=>
(casefold_Orbit a0 a2).bind fun t31=>
(ref01_Equal t28 t31).bind fun t34=>
(loopM (fun (x:Int)=>law38_CasefoldDivides_L0 t28 t31 t34 x) 0).bind fun (y1:(Unit)⊕(Bool))=>
 y1.elim (fun y1=>(casefold_Match ({Classes:=[],Decomp:=[],Excluded:=(({Ranges:=[]}):Set)}:Norm) a0 [a1] [a2] 0).bind fun t67=>
(pv (t34==t67)).bind fun b69=>
(gM b69 (law38_awake)).bind fun t70=>
 some (b69&&t70)) (fun y1=>some y1))
end
end Go.M


/- Plain counterparts of the program's functions, printed from its form. Conditions: none. -/
import Derived.Test.YtjcbhabmkcdcnaaGreatDoorLa3
set_option linter.unusedSimpArgs false
set_option linter.unusedVariables false
set_option linter.unnecessarySimpa false
namespace Go.M
structure A3Int where
 x0:Int
 x1:Int
 x2:Int
 deriving DecidableEq,Inhabited
structure A3ListInt where
 x0:(List Int)
 x1:(List Int)
 x2:(List Int)
 deriving DecidableEq,Inhabited
structure A4Int where
 x0:Int
 x1:Int
 x2:Int
 x3:Int
 deriving DecidableEq,Inhabited
structure A4ListInt where
 x0:(List Int)
 x1:(List Int)
 x2:(List Int)
 x3:(List Int)
 deriving DecidableEq,Inhabited
structure Range where
 Lo:Int
 Hi:Int
 deriving DecidableEq,Inhabited
structure A4Range where
 x0:Range
 x1:Range
 x2:Range
 x3:Range
 deriving DecidableEq,Inhabited
structure A9Int where
 x0:Int
 x1:Int
 x2:Int
 x3:Int
 x4:Int
 x5:Int
 x6:Int
 x7:Int
 x8:Int
 deriving DecidableEq,Inhabited
structure Element where
 Primary:Int
 Secondary:Int
 Tertiary:Int
 Variable:Bool
 deriving DecidableEq,Inhabited
structure Entry where
 Codes:(List Int)
 Elements:(List Element)
 deriving DecidableEq,Inhabited
structure Group where
 Name:Str
 Lo:Int
 Hi:Int
 deriving DecidableEq,Inhabited
structure Collation where
 Entries:(List Entry)
 Groups:(List Group)
 Base:Int
 Second:Int
 Third:Int
 deriving DecidableEq,Inhabited
structure Span where
 Lo:Int
 Hi:Int
 Value:Int
 deriving DecidableEq,Inhabited
structure Colltable_table where
 c:Collation
 entries:(List (A9Int×(List Element)))
 longest:Int
 classes:(List Span)
 top:Int
 deriving DecidableEq,Inhabited
structure Mapping where
 From:Int
 To:(List Int)
 Tag:Str
 deriving DecidableEq,Inhabited
structure Mapping_key where
 from_:Int
 tag:Str
 deriving DecidableEq,Inhabited
structure Set where
 Ranges:(List Range)
 deriving DecidableEq,Inhabited
structure Norm where
 Classes:(List Span)
 Decomp:(List Mapping)
 Excluded:Set
 deriving DecidableEq,Inhabited
structure Options where
 Strength:Int
 Variable:Int
 Backward:Bool
 Identical:Bool
 deriving DecidableEq,Inhabited
structure Unicodetextlaw45_Setting where
 Norm:Norm
 Collation:Collation
 Options:Options
 deriving DecidableEq,Inhabited
structure Unicodetextlaw43_Case where
 N:Norm
 C:Collation
 Text:(List Int)
 deriving DecidableEq,Inhabited
structure Unicodetextlaw44_Data where
 Norm:Norm
 Collation:Collation
 Options:Options
 deriving DecidableEq,Inhabited
structure Unicodetextlaw44_Pair where
 A:(List Int)
 B:(List Int)
 Low:Int
 High:Int
 deriving DecidableEq,Inhabited
def zYV (x:Range):Prop:=(-9223372036854775808≤x.Lo∧x.Lo≤9223372036854775807)∧(-9223372036854775808≤x.Hi∧x.Hi≤9223372036854775807)
def zRE (x:Element):Prop:=(-9223372036854775808≤x.Primary∧x.Primary≤9223372036854775807)∧(-9223372036854775808≤x.Secondary∧x.Secondary≤9223372036854775807)∧(-9223372036854775808≤x.Tertiary∧x.Tertiary≤9223372036854775807)∧True
def zYW (x:Entry):Prop:=(x.Codes.length≤9223372036854775807∧∀y0∈x.Codes,(-9223372036854775808≤y0∧y0≤9223372036854775807))∧(x.Elements.length≤9223372036854775807∧∀y0∈x.Elements,(zRE y0))
def zYX (x:Group):Prop:=(x.Name.length≤9223372036854775807)∧(-9223372036854775808≤x.Lo∧x.Lo≤9223372036854775807)∧(-9223372036854775808≤x.Hi∧x.Hi≤9223372036854775807)
def zIP (x:Collation):Prop:=(x.Entries.length≤9223372036854775807∧∀y0∈x.Entries,(zYW y0))∧(x.Groups.length≤9223372036854775807∧∀y0∈x.Groups,(zYX y0))∧(-9223372036854775808≤x.Base∧x.Base≤9223372036854775807)∧(-9223372036854775808≤x.Second∧x.Second≤9223372036854775807)∧(-9223372036854775808≤x.Third∧x.Third≤9223372036854775807)
def okSpan (x:Span):Prop:=(-9223372036854775808≤x.Lo∧x.Lo≤9223372036854775807)∧(-9223372036854775808≤x.Hi∧x.Hi≤9223372036854775807)∧(-9223372036854775808≤x.Value∧x.Value≤9223372036854775807)
def zRF (x:Mapping):Prop:=(-9223372036854775808≤x.From∧x.From≤9223372036854775807)∧(x.To.length≤9223372036854775807∧∀y0∈x.To,(-9223372036854775808≤y0∧y0≤9223372036854775807))∧(x.Tag.length≤9223372036854775807)
def z4F (x:Set):Prop:=(x.Ranges.length≤9223372036854775807∧∀y0∈x.Ranges,(zYV y0))
def zBI (x:Norm):Prop:=(x.Classes.length≤9223372036854775807∧∀y0∈x.Classes,(okSpan y0))∧(x.Decomp.length≤9223372036854775807∧∀y0∈x.Decomp,(zRF y0))∧(z4F x.Excluded)
def zRG (x:Options):Prop:=(-9223372036854775808≤x.Strength∧x.Strength≤9223372036854775807)∧(-9223372036854775808≤x.Variable∧x.Variable≤9223372036854775807)∧True∧True
def zAC (x:Unicodetextlaw44_Data):Prop:=(zBI x.Norm)∧(zIP x.Collation)∧(zRG x.Options)
end Go.M
namespace Go.AV
open Go.M
def zDL (x:A9Int):Value:= .agg #[.int IntKind.i64 x.x0,.int IntKind.i64 x.x1,.int IntKind.i64 x.x2,.int IntKind.i64 x.x3,.int IntKind.i64 x.x4,.int IntKind.i64 x.x5,.int IntKind.i64 x.x6,.int IntKind.i64 x.x7,.int IntKind.i64 x.x8]
def zEU (x:Mapping_key):Value:= .agg #[.int IntKind.i64 x.from_,.string ⟨x.tag.toArray⟩]
def eA3Int:En A3Int:=⟨fun x=> .agg [(di x.x0),(di x.x1),(di x.x2)],3,fun _=>rfl⟩
def eA4Int:En A4Int:=⟨fun x=> .agg [(di x.x0),(di x.x1),(di x.x2),(di x.x3)],4,fun _=>rfl⟩
def eRange:En Range:=⟨fun x=> .agg [(di x.Lo),(di x.Hi)],2,fun _=>rfl⟩
def eA4Range:En A4Range:=⟨fun x=> .agg [(di x.x0.Lo),(di x.x0.Hi),(di x.x1.Lo),(di x.x1.Hi),(di x.x2.Lo),(di x.x2.Hi),(di x.x3.Lo),(di x.x3.Hi)],8,fun _=>rfl⟩
def eA9Int:En A9Int:=⟨fun x=> .agg [(di x.x0),(di x.x1),(di x.x2),(di x.x3),(di x.x4),(di x.x5),(di x.x6),(di x.x7),(di x.x8)],9,fun _=>rfl⟩
def eElement:En Element:=⟨fun x=> .agg [(di x.Primary),(di x.Secondary),(di x.Tertiary),(db x.Variable)],4,fun _=>rfl⟩
def eEntry:En Entry:=⟨fun x=> .agg [(zT eI x.Codes),(zT eElement x.Elements)],2,fun _=>rfl⟩
def eGroup:En Group:=⟨fun x=> .agg [(ds x.Name),(di x.Lo),(di x.Hi)],3,fun _=>rfl⟩
def eCollation:En Collation:=⟨fun x=> .agg [(zT eEntry x.Entries),(zT eGroup x.Groups),(di x.Base),(di x.Second),(di x.Third)],5,fun _=>rfl⟩
def eSpan:En Span:=⟨fun x=> .agg [(di x.Lo),(di x.Hi),(di x.Value)],3,fun _=>rfl⟩
def eColltable_table:En Colltable_table:=⟨fun x=> .agg [(zT eEntry x.c.Entries),(zT eGroup x.c.Groups),(di x.c.Base),(di x.c.Second),(di x.c.Third),(mpD zDL (eL eElement) x.entries),(di x.longest),(zT eSpan x.classes),(di x.top)],9,fun _=>rfl⟩
def eMapping:En Mapping:=⟨fun x=> .agg [(di x.From),(zT eI x.To),(ds x.Tag)],3,fun _=>rfl⟩
def eMapping_key:En Mapping_key:=⟨fun x=> .agg [(di x.from_),(ds x.tag)],2,fun _=>rfl⟩
def eSet:En Set:=⟨fun x=> .agg [(zT eRange x.Ranges)],1,fun _=>rfl⟩
def eNorm:En Norm:=⟨fun x=> .agg [(zT eSpan x.Classes),(zT eMapping x.Decomp),(zT eRange x.Excluded.Ranges)],3,fun _=>rfl⟩
def eOptions:En Options:=⟨fun x=> .agg [(di x.Strength),(di x.Variable),(db x.Backward),(db x.Identical)],4,fun _=>rfl⟩
def eUnicodetextlaw44_Data:En Unicodetextlaw44_Data:=⟨fun x=> .agg [(zT eSpan x.Norm.Classes),(zT eMapping x.Norm.Decomp),(zT eRange x.Norm.Excluded.Ranges),(zT eEntry x.Collation.Entries),(zT eGroup x.Collation.Groups),(di x.Collation.Base),(di x.Collation.Second),(di x.Collation.Third),(di x.Options.Strength),(di x.Options.Variable),(db x.Options.Backward),(db x.Options.Identical)],12,fun _=>rfl⟩
end Go.AV
namespace Go.M
open Go.AV
noncomputable section
def xY (a0:Options):Option (Int):=
(pv (decide (a0.Strength < 1))).bind fun b6=>
 cond (b6 ||(decide (4 < a0.Strength))) (some 1) ((cond (decide (a0.Variable=1)) (some (decide (a0.Variable=1))) (cond (decide (a0.Variable=2)) (some (decide (a0.Variable=2))) (some (decide (a0.Variable=3))))).bind fun (y1:Bool)=>
 cond y1 (some 0) (some 8))
def wQ (a0:Options):Option (Options):=
(xY a0).bind fun t4=>
 cond (!decide (t4=0)) (some ({Strength:=3,Variable:=1,Backward:=false,Identical:=false}:Options)) (some a0)
def vS (a0:Int):Option (Bool):=
(pv (decide (1≤a0))).bind fun b5=>
 some (b5&&(decide (a0≤65535)))
def jU (a0:Str) (v7:Int):Option (Stp (Int) ((Unit)⊕(Bool))):=
 cond (decide (v7 < (a0.length:Int))) ((zUH a0 v7).bind fun t12=>
(pv (decide (65≤t12))).bind fun b15=>
(pv (b15&&(decide (t12≤90)))).bind fun b19=>
(pv (decide (97≤t12))).bind fun b22=>
(pv (b19 ||(b22&&(decide (t12≤122))))).bind fun b27=>
(pv (decide (48≤t12))).bind fun b30=>
(pv (b27 ||(b30&&(decide (t12≤57))))).bind fun b35=>
 cond (!(b35 ||(decide (t12=95)))) (some (.done (.inr (false)))) (some (.next (wi (v7+1))))) (some (.done (.inl (()))))
def zAD (a0:Str):Option (Bool):=
(zE (fun (x:Int)=>jU a0 x) 0).bind fun (y1:(Unit)⊕(Bool))=>
 y1.elim (fun y1=>(pv (!(a0== []))).bind fun b43=>
 some (b43&&(decide ((a0.length:Int)≤32)))) (fun y1=>some y1)
def jD (a0:Collation) (v15:Int):Option (Stp (Int) ((Unit)⊕(Int))):=
 cond (decide (v15 < (a0.Groups.length:Int))) ((yF a0.Groups v15).bind fun t17=>
(zAD t17.Name).bind fun t21=>
 cond (!t21) (some (.done (.inr (6)))) (some (.next (wi (v15+1))))) (some (.done (.inl (()))))
def kZ (a0:Collation) (v28:Int) (r24:(List (Str×Bool))):Option (Stp (Int×(List (Str×Bool))) ((Unit)⊕(Int))):=
 cond (decide (v28 < (a0.Groups.length:Int))) ((yF a0.Groups v28).bind fun t30=>
 cond (uA r24 t30.Name false) (some (.done (.inr (5)))) (some (.next (wi (v28+1),uC r24 t30.Name true)))) (some (.done (.inl (()))))
def jE (a0:Collation) (v43:Int):Option (Stp (Int) ((Unit)⊕(Int))):=
 cond (decide (v43 < (a0.Groups.length:Int))) ((yF a0.Groups v43).bind fun t45=>
(pv (decide (t45.Lo < 1))).bind fun b50=>
(pv (b50 ||(decide (t45.Hi < t45.Lo)))).bind fun b57=>
 cond (b57 ||(decide (a0.Base≤t45.Hi))) (some (.done (.inr (1)))) (some (.next (wi (v43+1))))) (some (.done (.inl (()))))
def jF (a0:Collation) (v68:Int):Option (Stp (Int) ((Unit)⊕(Int))):=
 cond (decide (v68 < (a0.Groups.length:Int))) ((yF a0.Groups v68).bind fun t71=>
(pv (decide (0 < v68))).bind fun b75=>
(gM b75 (yF a0.Groups (wi (v68 - 1)))).bind fun t82=>
 cond (b75&&(!decide (t71.Lo=(wi (t82.Hi+1))))) (some (.done (.inr (4)))) (some (.next (wi (v68+1))))) (some (.done (.inl (()))))
def xL (a0:Collation):Option (Int):=
(zE (fun (x:Int)=>jD a0 x) 0).bind fun (y1:(Unit)⊕(Int))=>
 y1.elim (fun y1=>(zE (fun (x:Int×(List (Str×Bool)))=>kZ a0 x.1 x.2) (0,[])).bind fun (y2:(Unit)⊕(Int))=>
 y2.elim (fun y2=>(zE (fun (x:Int)=>jE a0 x) 0).bind fun (y3:(Unit)⊕(Int))=>
 y3.elim (fun y3=>(zE (fun (x:Int)=>jF a0 x) 0).bind fun (y4:(Unit)⊕(Int))=>
 y4.elim (fun y4=>some 0) (fun y4=>some y4)) (fun y3=>some y3)) (fun y2=>some y2)) (fun y1=>some y1)
def wZ (a0:Int):Option (Bool):=
(pv (decide (0≤a0))).bind fun b5=>
 some (b5&&(decide (a0≤1114111)))
def vG (a0:Element) (v12:Int):Option (Stp (Int) ((Unit)⊕(Int))):=
 cond (decide (v12 < 3)) ((yF [({x0:=a0.Primary,x1:=a0.Secondary,x2:=a0.Tertiary}:A3Int).x0,({x0:=a0.Primary,x1:=a0.Secondary,x2:=a0.Tertiary}:A3Int).x1,({x0:=a0.Primary,x1:=a0.Secondary,x2:=a0.Tertiary}:A3Int).x2] v12).bind fun t14=>
(pv (decide (t14 < 0))).bind fun b17=>
 cond (b17 ||(decide (65535 < t14))) (some (.done (.inr (1)))) (some (.next (wi (v12+1))))) (some (.done (.inl (()))))
def zCH (a0:Element):Option (Int):=
(zE (fun (x:Int)=>vG a0 x) 0).bind fun (y1:(Unit)⊕(Int))=>
 y1.elim (fun y1=>(pv (!decide (a0.Primary=0))).bind fun b26=>
(pv (decide (a0.Secondary=0))).bind fun b30=>
 cond (b26&&(b30 ||(decide (a0.Tertiary=0)))) (some 11) ((pv (!decide (a0.Secondary=0))).bind fun b40=>
 cond (b40&&(decide (a0.Tertiary=0))) (some 11) ((pv a0.Variable).bind fun b48=>
 cond (b48&&(decide (a0.Primary=0))) (some 11) (some 0)))) (fun y1=>some y1)
def jM (a0:Entry) (v31:Int):Option (Stp (Int) ((Unit)⊕(Int))):=
 cond (decide (v31 < (a0.Codes.length:Int))) ((yF a0.Codes v31).bind fun t33=>
(wZ t33).bind fun t36=>
 cond (!t36) (some (.done (.inr (1)))) (some (.next (wi (v31+1))))) (some (.done (.inl (()))))
def jN (a0:Entry) (v42:Int):Option (Stp (Int) ((Unit)⊕(Int))):=
 cond (decide (v42 < (a0.Elements.length:Int))) ((yF a0.Elements v42).bind fun t44=>
(zCH t44).bind fun t47=>
 cond (!decide (t47=0)) (some (.done (.inr (t47)))) (some (.next (wi (v42+1))))) (some (.done (.inl (()))))
def jO (a0:Entry) (a1:Int) (v55:Int):Option (Stp (Int) ((Unit)⊕(Int))):=
 cond (decide (v55 < (a0.Elements.length:Int))) ((yF a0.Elements v55).bind fun t57=>
 cond (decide (a1≤t57.Primary)) (some (.done (.inr (1)))) (some (.next (wi (v55+1))))) (some (.done (.inl (()))))
def wF (a0:Entry) (a1:Int):Option (Int):=
(pv (decide ((a0.Codes.length:Int) < 1))).bind fun b16=>
(pv (b16 ||(decide (8 < (a0.Codes.length:Int))))).bind fun b22=>
 cond (b22 ||(decide (16 < (a0.Elements.length:Int)))) (some 2) ((zE (fun (x:Int)=>jM a0 x) 0).bind fun (y1:(Unit)⊕(Int))=>
 y1.elim (fun y1=>(zE (fun (x:Int)=>jN a0 x) 0).bind fun (y2:(Unit)⊕(Int))=>
 y2.elim (fun y2=>(zE (fun (x:Int)=>jO a0 a1 x) 0).bind fun (y3:(Unit)⊕(Int))=>
 y3.elim (fun y3=>some 0) (fun y3=>some y3)) (fun y2=>some y2)) (fun y1=>some y1))
def zCI (a0:Int):Option (Bool):=
 some (!decide (a0=a0))
def jC (a0:Int) (a1:Int):Option (Int):=
(zCI a0).bind fun t8=>
(zCI a1).bind fun t10=>
 cond t8 (cond t10 (some 0) (some (-1))) (cond t10 (some 1) (cond (decide (a0 < a1)) (some (-1)) (cond (decide (a1 < a0)) (some 1) (some 0))))
def j7 (a0:(List Int)) (a1:(List Int)) (v11:Int):Option (Stp (Int) ((Unit)⊕(Int))):=
 cond (decide (v11 < (min (a0.length:Int) (a1.length:Int)))) ((yF a0 v11).bind fun t16=>
(yF a1 v11).bind fun t20=>
 cond (!decide (t16=t20)) ((yF a0 v11).bind fun t25=>
(yF a1 v11).bind fun t29=>
(jC t25 t29).bind fun t31=>
 some (.done (.inr (t31)))) (some (.next (wi (v11+1))))) (some (.done (.inl (()))))
def uQ (a0:(List Int)) (a1:(List Int)):Option (Int):=
(zE (fun (x:Int)=>j7 a0 a1 x) 0).bind fun (y1:(Unit)⊕(Int))=>
 y1.elim (fun y1=>(jC (a0.length:Int) (a1.length:Int)).bind fun t37=>
 some t37) (fun y1=>some y1)
def xP (a0:Collation) (v35:Int):Option (Stp (Int) ((Unit)⊕(Int))):=
 cond (decide (v35 < (a0.Entries.length:Int))) ((yF a0.Entries v35).bind fun t38=>
(wF t38 a0.Base).bind fun t43=>
 cond (!decide (t43=0)) (some (.done (.inr (t43)))) ((pv (decide (0 < v35))).bind fun b49=>
(gM b49 (yF a0.Entries (wi (v35 - 1)))).bind fun t54=>
(gM b49 (uQ t54.Codes t38.Codes)).bind fun t59=>
 cond (b49&&(decide (0≤t59))) (some (.done (.inr (4)))) (some (.next (wi (v35+1)))))) (some (.done (.inl (()))))
def uF (a0:Collation):Option (Int):=
(pv (decide (a0.Base < 1))).bind fun b10=>
(pv (b10 ||(decide (65502 < a0.Base)))).bind fun b15=>
(gM (!b15) (vS a0.Second)).bind fun t18=>
(pv (b15 ||(!t18))).bind fun b21=>
(gM (!b21) (vS a0.Third)).bind fun t24=>
 cond (b21 ||(!t24)) (some 1) ((xL a0).bind fun t28=>
 cond (!decide (t28=0)) (some t28) ((zE (fun (x:Int)=>xP a0 x) 0).bind fun (y1:(Unit)⊕(Int))=>
 y1.elim (fun y1=>some 0) (fun y1=>some y1)))
def zA6 (a0:(List Int)):Option (A9Int):=
 some ({x0:=({x0:=(a0.length:Int),x1:=0,x2:=0,x3:=0,x4:=0,x5:=0,x6:=0,x7:=0,x8:=0}:A9Int).x0,x1:=cpA a0 0 (({x0:=(a0.length:Int),x1:=0,x2:=0,x3:=0,x4:=0,x5:=0,x6:=0,x7:=0,x8:=0}:A9Int).x1),x2:=cpA a0 1 (({x0:=(a0.length:Int),x1:=0,x2:=0,x3:=0,x4:=0,x5:=0,x6:=0,x7:=0,x8:=0}:A9Int).x2),x3:=cpA a0 2 (({x0:=(a0.length:Int),x1:=0,x2:=0,x3:=0,x4:=0,x5:=0,x6:=0,x7:=0,x8:=0}:A9Int).x3),x4:=cpA a0 3 (({x0:=(a0.length:Int),x1:=0,x2:=0,x3:=0,x4:=0,x5:=0,x6:=0,x7:=0,x8:=0}:A9Int).x4),x5:=cpA a0 4 (({x0:=(a0.length:Int),x1:=0,x2:=0,x3:=0,x4:=0,x5:=0,x6:=0,x7:=0,x8:=0}:A9Int).x5),x6:=cpA a0 5 (({x0:=(a0.length:Int),x1:=0,x2:=0,x3:=0,x4:=0,x5:=0,x6:=0,x7:=0,x8:=0}:A9Int).x6),x7:=cpA a0 6 (({x0:=(a0.length:Int),x1:=0,x2:=0,x3:=0,x4:=0,x5:=0,x6:=0,x7:=0,x8:=0}:A9Int).x7),x8:=cpA a0 7 (({x0:=(a0.length:Int),x1:=0,x2:=0,x3:=0,x4:=0,x5:=0,x6:=0,x7:=0,x8:=0}:A9Int).x8)}:A9Int)
def jX (y1:(List Entry)×(List Group)×Int×Int×Int) (v17:Int) (r11:(List (A9Int×(List Element)))) (k13_6:Int):Option (Stp (Int×(List (A9Int×(List Element)))×Int) (((List (A9Int×(List Element)))×Int))):=
 cond (decide (v17 < (y1.1.length:Int))) ((yF y1.1 v17).bind fun t19=>
(zA6 t19.Codes).bind fun t27=>
 some (.next (wi (v17+1),uC r11 t27 t19.Elements,max k13_6 (t19.Codes.length:Int)))) (some (.done (r11,k13_6)))
def zBR (a0:Collation):Option (Colltable_table):=
(uF ({Entries:=a0.Entries,Groups:=a0.Groups,Base:=a0.Base,Second:=a0.Second,Third:=a0.Third}:Collation)).bind fun t7=>
(cond (!decide (t7=0)) (some (({Entries:=[],Groups:=[],Base:=64448,Second:=32,Third:=2}:Collation).Entries,({Entries:=[],Groups:=[],Base:=64448,Second:=32,Third:=2}:Collation).Groups,({Entries:=[],Groups:=[],Base:=64448,Second:=32,Third:=2}:Collation).Base,({Entries:=[],Groups:=[],Base:=64448,Second:=32,Third:=2}:Collation).Second,({Entries:=[],Groups:=[],Base:=64448,Second:=32,Third:=2}:Collation).Third)) (some (a0.Entries,a0.Groups,a0.Base,a0.Second,a0.Third))).bind fun (y1:(List Entry)×(List Group)×Int×Int×Int)=>
(zE (fun (x:Int×(List (A9Int×(List Element)))×Int)=>jX y1 x.1 x.2.1 x.2.2) (0,[],0)).bind fun (y2:(List (A9Int×(List Element)))×Int)=>
 some ({c:=({Entries:=({Entries:=y1.1,Groups:=y1.2.1,Base:=y1.2.2.1,Second:=y1.2.2.2.1,Third:=y1.2.2.2.2}:Collation).Entries,Groups:=({Entries:=y1.1,Groups:=y1.2.1,Base:=y1.2.2.1,Second:=y1.2.2.2.1,Third:=y1.2.2.2.2}:Collation).Groups,Base:=({Entries:=y1.1,Groups:=y1.2.1,Base:=y1.2.2.1,Second:=y1.2.2.2.1,Third:=y1.2.2.2.2}:Collation).Base,Second:=({Entries:=y1.1,Groups:=y1.2.1,Base:=y1.2.2.1,Second:=y1.2.2.2.1,Third:=y1.2.2.2.2}:Collation).Second,Third:=({Entries:=y1.1,Groups:=y1.2.1,Base:=y1.2.2.1,Second:=y1.2.2.2.1,Third:=y1.2.2.2.2}:Collation).Third}:Collation),entries:=y2.1,longest:=y2.2,classes:=[],top:=0}:Colltable_table)
def wR (a0:(List Span)) (v14:Int):Option (Stp (Int) ((Unit)⊕(Int))):=
 cond (decide (v14 < (a0.length:Int))) ((yF a0 v14).bind fun t16=>
(pv (decide (t16.Lo < 0))).bind fun b21=>
(pv (b21 ||(decide (1114111 < t16.Hi)))).bind fun b26=>
(pv (b26 ||(decide (t16.Hi < t16.Lo)))).bind fun b33=>
(pv (b33 ||(decide (t16.Value < 1)))).bind fun b38=>
 cond (b38 ||(decide (254 < t16.Value))) (some (.done (.inr (1)))) (some (.next (wi (v14+1))))) (some (.done (.inl (()))))
def wS (a0:(List Span)) (v5:Int):Option (Stp (Int) ((Unit)⊕(Int))):=
 cond (decide (v5 < (a0.length:Int))) ((yF a0 (wi (v5 - 1))).bind fun t53=>
(yF a0 v5).bind fun t57=>
(pv (decide (t57.Lo≤t53.Hi))).bind fun b64=>
(pv (decide (t57.Lo=(wi (t53.Hi+1))))).bind fun b71=>
 cond (b64 ||(b71&&(decide (t57.Value=t53.Value)))) (some (.done (.inr (4)))) (some (.next (wi (v5+1))))) (some (.done (.inl (()))))
def jY (t85:A4Range) (t83:Span) (v86:Int):Option (Stp (Int) ((Unit)⊕(Int))):=
 cond (decide (v86 < 4)) ((yF [t85.x0,t85.x1,t85.x2,t85.x3] v86).bind fun t88=>
(pv (decide (t83.Lo≤t88.Hi))).bind fun b94=>
 cond (b94&&(decide (t88.Lo≤t83.Hi))) (some (.done (.inr (11)))) (some (.next (wi (v86+1))))) (some (.done (.inl (()))))
def wT (a0:(List Span)) (v81:Int):Option (Stp (Int) ((Unit)⊕(Int))):=
 cond (decide (v81 < (a0.length:Int))) ((yF a0 v81).bind fun t83=>
(pv ({x0:=({Lo:=4352,Hi:=4370}:Range),x1:=({Lo:=4449,Hi:=4469}:Range),x2:=({Lo:=4520,Hi:=4546}:Range),x3:=({Lo:=44032,Hi:=55203}:Range)}:A4Range)).bind fun t85=>
(zE (fun (x:Int)=>jY t85 t83 x) 0).bind fun (y4:(Unit)⊕(Int))=>
 y4.elim (fun y4=>some (.next (wi (v81+1)))) (fun y4=>some (.done (.inr (y4))))) (some (.done (.inl (()))))
def zAE (a0:(List Span)):Option (Int):=
(zE (fun (x:Int)=>wR a0 x) 0).bind fun (y1:(Unit)⊕(Int))=>
 y1.elim (fun y1=>(zE (fun (x:Int)=>wS a0 x) 1).bind fun (y2:(Unit)⊕(Int))=>
 y2.elim (fun y2=>(zE (fun (x:Int)=>wT a0 x) 0).bind fun (y3:(Unit)⊕(Int))=>
 y3.elim (fun y3=>some 0) (fun y3=>some y3)) (fun y2=>some y2)) (fun y1=>some y1)
def wU (a0:Str) (v15:Int):Option (Stp (Int) ((Unit)⊕(Bool))):=
 cond (decide (v15 < (a0.length:Int))) ((zUH a0 v15).bind fun t20=>
(pv (decide (65≤t20))).bind fun b23=>
(pv (b23&&(decide (t20≤90)))).bind fun b27=>
(pv (decide (97≤t20))).bind fun b30=>
(pv (!(b27 ||(b30&&(decide (t20≤122)))))).bind fun b37=>
(pv (decide (48≤t20))).bind fun b40=>
(pv (b37&&(!(b40&&(decide (t20≤57)))))).bind fun b46=>
 cond (b46&&(!decide (t20=95))) (some (.done (.inr (false)))) (some (.next (wi (v15+1))))) (some (.done (.inl (()))))
def zBS (a0:Str):Option (Bool):=
(pv (a0== [])).bind fun b8=>
 cond (b8 ||(decide (32 < (a0.length:Int)))) (some false) ((zE (fun (x:Int)=>wU a0 x) 0).bind fun (y1:(Unit)⊕(Bool))=>
 y1.elim (fun y1=>some true) (fun y1=>some y1))
def vH (t15:Mapping) (v24:Int):Option (Stp (Int) ((Unit)⊕(Int))):=
 cond (decide (v24 < (t15.To.length:Int))) ((yF t15.To v24).bind fun t26=>
(wZ t26).bind fun t29=>
 cond (!t29) (some (.done (.inr (1)))) (some (.next (wi (v24+1))))) (some (.done (.inl (()))))
def vI (a0:(List Mapping)) (v13:Int):Option (Stp (Int) ((Unit)⊕(Int))):=
 cond (decide (v13 < (a0.length:Int))) ((yF a0 v13).bind fun t15=>
(wZ t15.From).bind fun t19=>
 cond (!t19) (some (.done (.inr (1)))) ((zE (fun (x:Int)=>vH t15 x) 0).bind fun (y2:(Unit)⊕(Int))=>
 y2.elim (fun y2=>some (.next (wi (v13+1)))) (fun y2=>some (.done (.inr (y2)))))) (some (.done (.inl (()))))
def vJ (a0:(List Mapping)) (v35:Int):Option (Stp (Int) ((Unit)⊕(Int))):=
 cond (decide (v35 < (a0.length:Int))) ((yF a0 v35).bind fun t37=>
 cond (decide (64 < (t37.To.length:Int))) (some (.done (.inr (2)))) (some (.next (wi (v35+1))))) (some (.done (.inl (()))))
def vK (a0:(List Mapping)) (v46:Int):Option (Stp (Int) ((Unit)⊕(Int))):=
 cond (decide (v46 < (a0.length:Int))) ((yF a0 v46).bind fun t48=>
(pv (!(t48.Tag== []))).bind fun b53=>
(gM b53 (zBS t48.Tag)).bind fun t56=>
 cond (b53&&(!t56)) (some (.done (.inr (6)))) (some (.next (wi (v46+1))))) (some (.done (.inl (()))))
def zCJ (a0:(List Mapping)):Option (Int):=
(zE (fun (x:Int)=>vI a0 x) 0).bind fun (y1:(Unit)⊕(Int))=>
 y1.elim (fun y1=>(zE (fun (x:Int)=>vJ a0 x) 0).bind fun (y3:(Unit)⊕(Int))=>
 y3.elim (fun y3=>(zE (fun (x:Int)=>vK a0 x) 0).bind fun (y4:(Unit)⊕(Int))=>
 y4.elim (fun y4=>some 0) (fun y4=>some y4)) (fun y3=>some y3)) (fun y1=>some y1)
def zAF (a0:Str):Option (Bool):=
 some (!(a0==a0))
def vT (a0:Str) (a1:Str):Option (Int):=
(zAF a0).bind fun t8=>
(zAF a1).bind fun t10=>
 cond t8 (cond t10 (some 0) (some (-1))) (cond t10 (some 1) (cond (Op.bytesLess a0 a1) (some (-1)) (cond (!Op.bytesLess a0 a1&& !(a0==a1)) (some 1) (some 0))))
def zBC (a0:(List Int)) (v8:Int):Option (Stp (Int) ((Unit)⊕(Int))):=
 cond (decide (v8 < (a0.length:Int))) ((yF a0 v8).bind fun t10=>
 cond (!decide (t10=0)) (some (.done (.inr (t10)))) (some (.next (wi (v8+1))))) (some (.done (.inl (()))))
def zDM (a0:(List Int)):Option (Int):=
(zE (fun (x:Int)=>zBC a0 x) 0).bind fun (y1:(Unit)⊕(Int))=>
 y1.elim (fun y1=>some 0) (fun y1=>some y1)
def zA7 (a0:Mapping) (a1:Mapping):Option (Int):=
(jC a0.From a1.From).bind fun t9=>
(vT a0.Tag a1.Tag).bind fun t14=>
(zDM [t9,t14]).bind fun t16=>
 some t16
def zCK (a0:Mapping):Option (Mapping_key):=
 some ({from_:=a0.From,tag:=a0.Tag}:Mapping_key)
def xQ (a0:(List Mapping)) (v4:Bool) (v5:Int):Option (Stp (Bool×Int) ((Bool))):=
 cond (decide (v5 < (a0.length:Int))) (((yF a0 (wi (v5 - 1))).bind fun t23=>
(yF a0 v5).bind fun t27=>
(zA7 t23 t27).bind fun t29=>
 cond (decide (0≤t29)) (some false) (some v4)).bind fun (y2:Bool)=>
 some (.next (y2,wi (v5+1)))) (some (.done v4))
def xR (a0:(List Mapping)) (v35:Int) (r32:(List (Mapping_key×Bool))):Option (Stp (Int×(List (Mapping_key×Bool))) ((Unit)⊕(Int))):=
 cond (decide (v35 < (a0.length:Int))) ((yF a0 v35).bind fun t37=>
(zCK t37).bind fun t41=>
 cond (uA r32 t41 false) (some (.done (.inr (5)))) ((zCK t37).bind fun t45=>
 some (.next (wi (v35+1),uC r32 t45 true)))) (some (.done (.inl (()))))
def zCL (a0:(List Mapping)):Option (Int):=
(zCJ a0).bind fun t10=>
 cond (!decide (t10=0)) (some t10) ((zE (fun (x:Bool×Int)=>xQ a0 x.1 x.2) (true,1)).bind fun (y1:Bool)=>
 cond y1 (some 0) ((zE (fun (x:Int×(List (Mapping_key×Bool)))=>xR a0 x.1 x.2) (0,[])).bind fun (y3:(Unit)⊕(Int))=>
 y3.elim (fun y3=>some 4) (fun y3=>some y3)))
def zEN (a0:Int):Option (Int):=
(cond (decide (4294967296≤a0)) (some (a0 / 2 ^ 32,32)) (some (a0,0))).bind fun (y1:Int×Int)=>
(cond (decide (65536≤y1.1)) (some (y1.1 / 2 ^ 16,wi (y1.2+16))) (some (y1.1,y1.2))).bind fun (y2:Int×Int)=>
(cond (decide (256≤y2.1)) (some (y2.1 / 2 ^ 8,wi (y2.2+8))) (some (y2.1,y2.2))).bind fun (y3:Int×Int)=>
(zUH [0,1,2,2,3,3,3,3,4,4,4,4,4,4,4,4,5,5,5,5,5,5,5,5,5,5,5,5,5,5,5,5,6,6,6,6,6,6,6,6,6,6,6,6,6,6,6,6,6,6,6,6,6,6,6,6,6,6,6,6,6,6,6,6,7,7,7,7,7,7,7,7,7,7,7,7,7,7,7,7,7,7,7,7,7,7,7,7,7,7,7,7,7,7,7,7,7,7,7,7,7,7,7,7,7,7,7,7,7,7,7,7,7,7,7,7,7,7,7,7,7,7,7,7,7,7,7,7,8,8,8,8,8,8,8,8,8,8,8,8,8,8,8,8,8,8,8,8,8,8,8,8,8,8,8,8,8,8,8,8,8,8,8,8,8,8,8,8,8,8,8,8,8,8,8,8,8,8,8,8,8,8,8,8,8,8,8,8,8,8,8,8,8,8,8,8,8,8,8,8,8,8,8,8,8,8,8,8,8,8,8,8,8,8,8,8,8,8,8,8,8,8,8,8,8,8,8,8,8,8,8,8,8,8,8,8,8,8,8,8,8,8,8,8,8,8,8,8,8,8,8,8,8,8,8,8] ((IntKind.u8.wrap) y3.1)).bind fun t22=>
 some (wi (y3.2+(wi t22)))
def zCM (a0:Int):Option (Int):=
 cond false (none) ((zEN a0).bind fun t7=>
 some t7)
def yE (a1:Int) (a3:Range→Range→Option (Int)) (v9:Int) (r3000:(List Range)):Option (Stp (Int×(List Range)) (((List Range)))):=
(pv (decide (a1 < v9))).bind fun b21=>
(gM b21 (yF r3000 v9)).bind fun t25=>
(gM b21 (yF r3000 (wi (v9 - 1)))).bind fun t30=>
(gM b21 (a3 t25 t30)).bind fun t32=>
 cond (b21&&(decide (t32 < 0))) ((yF r3000 (wi (v9 - 1))).bind fun t45=>
(yF r3000 v9).bind fun t49=>
(yF r3000 v9).bind fun t51=>
(vZ r3000 v9 t45).bind fun r3000_6x15=>
(yF r3000_6x15 (wi (v9 - 1))).bind fun t52=>
(vZ r3000_6x15 (wi (v9 - 1)) t49).bind fun r3000_6x17=>
 some (.next (wi (v9 - 1),r3000_6x17))) (some (.done r3000))
def z2 (a2:Int) (a1:Int) (a3:Range→Range→Option (Int)) (v8:Int) (r3000:(List Range)):Option (Stp (Int×(List Range)) (((List Range)))):=
 cond (decide (v8 < a2)) ((zE (fun (x:Int×(List Range))=>yE a1 a3 x.1 x.2) (v8,r3000)).bind fun (y2:(List Range))=>
 some (.next (wi (v8+1),y2))) (some (.done r3000))
def kF (a0:(List Range)) (a1:Int) (a2:Int) (a3:Range→Range→Option (Int)):Option ((List Range)):=
(zE (fun (x:Int×(List Range))=>z2 a2 a1 a3 x.1 x.2) (wi (a1+1),a0)).bind fun (y1:(List Range))=>
 some y1
def yX (a2:Int) (a1:Int) (a0:(List Range)) (a4:Range→Range→Option (Int)) (a3:Int):Option (Stp (Unit) (((List Range)))):=
(cond (decide ((wi (a2 - a1))≤12)) ((kF a0 a1 a2 a4).bind fun t30=>
 some t30) (cond (decide (a3=0)) (none) ((cond (!true) (none) (some ())).bind fun (y3:Unit)=>
 none))).bind fun (y2:(List Range))=>
 some (.done y2)
def jP (a0:(List Range)) (a1:Int) (a2:Int) (a3:Int) (a4:Range→Range→Option (Int)):Option ((List Range)):=
(zE (fun (_:Unit)=>yX a2 a1 a0 a4 a3) ()).bind fun (y1:(List Range))=>
 some y1
def kK (a0:(List Range)) (a1:Range→Range→Option (Int)):Option ((List Range)):=
(zCM (wu (a0.length:Int))).bind fun t11=>
(jP a0 0 (a0.length:Int) t11 a1).bind fun t13=>
 some t13
def uR (a0:Range) (a1:Range):Option (Int):=
(jC a0.Lo a1.Lo).bind fun t9=>
(jC a0.Hi a1.Hi).bind fun t14=>
(zDM [t9,t14]).bind fun t16=>
 some t16
def uY (a0:(List Range)) (v13:Int) (r1003:(List Range)):Option (Stp (Int×(List Range)) (((List Range)))):=
 cond (decide (v13 < (a0.length:Int))) (((yF a0 v13).bind fun t15=>
 cond (decide ((({Lo:=max t15.Lo 0,Hi:=min t15.Hi 1114111}:Range).Lo)≤(({Lo:=max t15.Lo 0,Hi:=min t15.Hi 1114111}:Range).Hi))) ((app r1003 [({Lo:=max t15.Lo 0,Hi:=min t15.Hi 1114111}:Range)]).bind fun r1003_3=>
 some r1003_3) (some r1003)).bind fun (y2:(List Range))=>
 some (.next (wi (v13+1),y2))) (some (.done r1003))
def uZ (t35:(List Range)) (v38:Int) (r1007:(List Range)):Option (Stp (Int×(List Range)) (((List Range)))):=
 cond (decide (v38 < (t35.length:Int))) (((yF t35 v38).bind fun t40=>
(pv (decide (0 < (r1007.length:Int)))).bind fun b46=>
(gM b46 (yF r1007 (wi ((r1007.length:Int) - 1)))).bind fun t52=>
 cond (b46&&(decide (t40.Lo≤(wi (t52.Hi+1))))) ((yF r1007 (wi ((r1007.length:Int) - 1))).bind fun t64=>
(yF r1007 (wi ((r1007.length:Int) - 1))).bind fun t70=>
(vZ r1007 (wi ((r1007.length:Int) - 1)) ({t70 with Hi:=max t64.Hi t40.Hi})).bind fun r1007_6=>
 some r1007_6) ((app r1007 [t40]).bind fun r1007_7=>
 some r1007_7)).bind fun (y5:(List Range))=>
 some (.next (wi (v38+1),y5))) (some (.done r1007))
def zFE (a0:(List Range)):Option (Set):=
(zE (fun (x:Int×(List Range))=>uY a0 x.1 x.2) (0,[])).bind fun (y1:(List Range))=>
(kK y1 (fun x0 x1=>uR x0 x1)).bind fun t35=>
(zE (fun (x:Int×(List Range))=>uZ t35 x.1 x.2) (0,[])).bind fun (y4:(List Range))=>
 some ({Ranges:=y4}:Set)
def zAG (t8:Set) (a0:Set) (v19:Int):Option (Stp (Int) ((Unit)⊕(Bool))):=
 cond (decide (v19 < (t8.Ranges.length:Int))) ((yF t8.Ranges v19).bind fun t22=>
(yF a0.Ranges v19).bind fun t28=>
 cond (!decide (t22=t28)) (some (.done (.inr (false)))) (some (.next (wi (v19+1))))) (some (.done (.inl (()))))
def zD7 (a0:Set):Option (Bool):=
(zFE a0.Ranges).bind fun t8=>
 cond (!decide ((t8.Ranges.length:Int)=(a0.Ranges.length:Int))) (some false) ((zE (fun (x:Int)=>zAG t8 a0 x) 0).bind fun (y1:(Unit)⊕(Bool))=>
 y1.elim (fun y1=>some true) (fun y1=>some y1))
def zBT (a0:Int):Option (Int):=
(pv (decide (4352≤a0))).bind fun b6=>
 cond (b6&&(decide (a0 < 4371))) (some 1) ((pv (decide (4449≤a0))).bind fun b13=>
 cond (b13&&(decide (a0 < 4470))) (some 2) ((pv (decide (4520≤a0))).bind fun b20=>
 cond (b20&&(decide (a0 < 4547))) (some 3) ((pv (decide (a0 < 44032))).bind fun b27=>
 cond (b27 ||(decide (55204≤a0))) (some 0) ((zGR (wi (a0 - 44032)) 28).bind fun t34=>
 cond (decide (t34=0)) (some 4) (some 5)))))
def uG (a0:(List Span)):Option ((List Span)):=
(zAE a0).bind fun t4=>
 cond (!decide (t4=0)) (some []) (some a0)
def zY (a0:(List Span)) (a2:Span→Int→Option (Int)) (a1:Int) (v9:Int) (v10:Int):Option (Stp (Int×Int) ((Int))):=
 cond (decide (v9 < v10)) (((yF a0 (wi ((wu (wi (v9+v10))) / 2 ^ 1))).bind fun t27=>
(a2 t27 a1).bind fun t30=>
 cond (decide (t30 < 0)) (some (wi ((wi ((wu (wi (v9+v10))) / 2 ^ 1))+1),v10)) (some (v9,wi ((wu (wi (v9+v10))) / 2 ^ 1)))).bind fun (y2:Int×Int)=>
 some (.next (y2.1,y2.2))) (some (.done v9))
def kE (a0:(List Span)) (a1:Int) (a2:Span→Int→Option (Int)):Option (Int×Bool):=
(zE (fun (x:Int×Int)=>zY a0 a2 a1 x.1 x.2) (0,(a0.length:Int))).bind fun (y1:Int)=>
(pv (decide (y1 < (a0.length:Int)))).bind fun b39=>
(gM b39 (yF a0 y1)).bind fun t43=>
(gM b39 (a2 t43 a1)).bind fun t46=>
 some (y1,(b39&&(decide (t46=0))))
def vL (a0:Span) (a1:Int):Option (Int):=
 cond (decide (a0.Hi < a1)) (some (-1)) (cond (decide (a1 < a0.Lo)) (some 1) (some 0))
def kG (a0:(List Span)) (a1:Int):Option (Int):=
(kE a0 a1 (fun x0 x1=>vL x0 x1)).bind fun t10=>
 cond (!t10.2) (some 0) ((yF a0 t10.1).bind fun t17=>
 some t17.Value)
def yY (a1:(List Int)) (a2:(List Span)) (items:(List (Range))) (v4:Int) (v10:Int) (v1000000:Nat):Option (Stp (Int×Int×Nat) ((Int×Nat)⊕(Nat))):=
 cond (decide (v10 < (a1.length:Int))) (((yF a1 v10).bind fun t13=>
(kG a2 t13).bind fun t17=>
((pv (!(decide (t17=0)))).bind fun b22=>
 cond (b22&&(decide (v4 < 0))) (some (.inl ((v10,v1000000)))) ((pv (decide (t17=0))).bind fun b29=>
 cond (b29&&(decide (0≤v4))) ((yM items v1000000 ({Lo:=v4,Hi:=v10}:Range)).bind fun u37=>
 cond (!true) (some (.inr (v1000000+1))) (some (.inl (((-1),v1000000+1))))) (some (.inl ((v4,v1000000)))))).bind fun (y3:(Int×Nat)⊕(Nat))=>
 y3.elim (fun y3=>some (.inl ((y3.1,y3.2)))) (fun y3=>some (.inr (y3)))).bind fun (y2:(Int×Nat)⊕(Nat))=>
 y2.elim (fun y2=>some (.next (y2.1,wi (v10+1),y2.2))) (fun y2=>some (.done (.inr (y2))))) (some (.done (.inl ((v4,v1000000)))))
def uH (items:List Range) (a1:(List Int)) (a2:(List Span)):Option Unit:=
(zE (fun (x:Int×Int×Nat)=>yY a1 a2 items x.1 x.2.1 x.2.2) ((-1),0,0)).bind fun (y1:(Int×Nat)⊕(Nat))=>
 y1.elim (fun y1=>cond (decide (0≤y1.1)) ((yM items y1.2 ({Lo:=y1.1,Hi:=(a1.length:Int)}:Range)).bind fun u47=>
 zW8 items (y1.2+1)) (zW8 items y1.2)) (fun y1=>zW8 items y1)
def jL (st:Int→Bool):List Int→Int→Int→List Range
 | [],i,s=>if 0≤s then [{Lo:=s,Hi:=i}] else []
 | c::r,i,s=>if !st c&&decide (s < 0) then jL st r (i+1) i else if st c&&decide (0≤s) then {Lo:=s,Hi:=i}::jL st r (i+1) (-1) else jL st r (i+1) s
def yCM {α:Type} (l:List α):Option (List α):=if l.length≤LIM then some l else none
def zCN (a0:List Span) (a1:List Int):Option (List Range):=(uG a0).bind fun t6=>(uH (jL (fun c=>kG t6 c==some 0) a1 0 (-1)) a1 t6).bind fun _=>yCM (jL (fun c=>kG t6 c==some 0) a1 0 (-1))
def zEV (a0:Int):Option (A3Int):=
(zBT a0).bind fun t6=>
 cond (decide (t6 < 4)) (some ({x0:=0,x1:=0,x2:=0}:A3Int)) ((zJ0 wi (wi (a0 - 44032)) 28).bind fun t12=>
(zJ0 wi t12 21).bind fun t13=>
(zJ0 wi (wi (a0 - 44032)) 28).bind fun t16=>
(zGR t16 21).bind fun t17=>
(zGR (wi (a0 - 44032)) 28).bind fun t21=>
(cond (decide (0 < t21)) ((zGR (wi (a0 - 44032)) 28).bind fun t24=>
 some (wi ((wi (4520+t24)) - 1))) (some (({x0:=wi (4352+t13),x1:=wi (4449+t17),x2:=0}:A3Int).x2))).bind fun (y1:Int)=>
 some ({x0:=({x0:=wi (4352+t13),x1:=wi (4449+t17),x2:=0}:A3Int).x0,x1:=({x0:=wi (4352+t13),x1:=wi (4449+t17),x2:=0}:A3Int).x1,x2:=y1}:A3Int))
def zAH (a0:Int):Option ((List Int)):=
(zEV a0).bind fun t5=>
 cond (decide (t5=({x0:=0,x1:=0,x2:=0}:A3Int))) (some [a0]) (cond (decide (t5.x2=0)) (some [t5.x0,t5.x1]) (some [t5.x0,t5.x1,t5.x2]))
def zU (a0:(List Mapping)) (a2:Mapping→Int→Option (Int)) (a1:Int) (v9:Int) (v10:Int):Option (Stp (Int×Int) ((Int))):=
 cond (decide (v9 < v10)) (((yF a0 (wi ((wu (wi (v9+v10))) / 2 ^ 1))).bind fun t27=>
(a2 t27 a1).bind fun t30=>
 cond (decide (t30 < 0)) (some (wi ((wi ((wu (wi (v9+v10))) / 2 ^ 1))+1),v10)) (some (v9,wi ((wu (wi (v9+v10))) / 2 ^ 1)))).bind fun (y2:Int×Int)=>
 some (.next (y2.1,y2.2))) (some (.done v9))
def z6 (a0:(List Mapping)) (a1:Int) (a2:Mapping→Int→Option (Int)):Option (Int×Bool):=
(zE (fun (x:Int×Int)=>zU a0 a2 a1 x.1 x.2) (0,(a0.length:Int))).bind fun (y1:Int)=>
(pv (decide (y1 < (a0.length:Int)))).bind fun b39=>
(gM b39 (yF a0 y1)).bind fun t43=>
(gM b39 (a2 t43 a1)).bind fun t46=>
 some (y1,(b39&&(decide (t46=0))))
def xS (a0:Mapping) (a1:Int):Option (Int):=
(jC a0.From a1).bind fun t8=>
 some t8
def wG (a0:Norm) (a1:Int) (a2:Bool):Option ((List Int)×Bool):=
(zBT a1).bind fun t11=>
 cond (decide (4≤t11)) ((zAH a1).bind fun t14=>
 some (t14,true)) ((z6 a0.Decomp a1 (fun x0 x1=>xS x0 x1)).bind fun t19=>
(pv (!t19.2)).bind fun b24=>
(gM (!b24) (yF a0.Decomp t19.1)).bind fun t28=>
(pv (!(t28.Tag== []))).bind fun b32=>
 cond (b24 ||(b32&&(!a2))) (some ([],false)) ((yF a0.Decomp t19.1).bind fun t40=>
 some (t40.To,true)))
def kX (t18:(List Int)×Bool) (rec:(Int→Norm→(List (Int×Int))→Bool→Bool→Option (Int×Bool×Bool×(List (Int×Int))))) (a1:Norm) (v12:Int) (v46:Int) (k3003_0:Bool) (k3005_0:Bool) (r3140:(List (Int×Int))):Option (Stp (Int×Int×Bool×Bool×(List (Int×Int))) ((Int×Bool×Bool×(List (Int×Int))))):=
 cond (decide (v46 < (t18.1.length:Int))) ((yF t18.1 v46).bind fun t48=>
(rec t48 a1 r3140 k3003_0 k3005_0).bind fun t53=>
 some (.next (min (wi (v12+t53.1)) 65,wi (v46+1),t53.2.1,t53.2.2.1,t53.2.2.2))) (some (.done (v12,k3003_0,k3005_0,r3140)))
def kN (rec:Int→Norm→(List (Int×Int))→Bool→Bool→Option (Int×Bool×Bool×(List (Int×Int)))) (a0:Int) (a1:Norm) (a2:(List (Int×Int))) (a3:Bool) (a5:Bool):Option (Int×Bool×Bool×(List (Int×Int))):=
(wG a1 a0 true).bind fun t18=>
(pv (!t18.2)).bind fun b23=>
 cond (b23 ||(decide ((t18.1.length:Int)=0))) (some (1,a3,a5,a2)) (cond (zA4 a2 a0) ((pv a3).bind fun b36=>
 some (max (uA a2 a0 0) 1,(b36 ||(decide ((uA a2 a0 0)=(-1)))),a5,a2)) ((zE (fun (x:Int×Int×Bool×Bool×(List (Int×Int)))=>kX t18 rec a1 x.1 x.2.1 x.2.2.1 x.2.2.2.1 x.2.2.2.2) (0,0,a3,a5,uC a2 a0 (-1))).bind fun (y1:Int×Bool×Bool×(List (Int×Int)))=>
(pv y1.2.2.1).bind fun b61=>
 some (y1.1,y1.2.1,(b61 ||(decide (64 < y1.1))),uC y1.2.2.2 a0 y1.1)))
def z1:Nat→Int→Norm→(List (Int×Int))→Bool→Bool→Option (Int×Bool×Bool×(List (Int×Int)))
 | 0=>fun _ _ _ _ _=>none
 | n+1=>kN (z1 n)
def kC (a0:Norm) (v13:Int) (k2_0:Bool) (k3_0:Bool) (r8:(List (Int×Int))):Option (Stp (Int×Bool×Bool×(List (Int×Int))) ((Bool×Bool))):=
 cond (decide (v13 < (a0.Decomp.length:Int))) ((yF a0.Decomp v13).bind fun t15=>
(z1 100 t15.From a0 r8 k2_0 k3_0).bind fun t20=>
 some (.next (wi (v13+1),t20.2.1,t20.2.2.1,t20.2.2.2))) (some (.done (k2_0,k3_0)))
def decompose_measure (a0:Norm):Option (Bool×Bool):=
(zE (fun (x:Int×Bool×Bool×(List (Int×Int)))=>kC a0 x.1 x.2.1 x.2.2.1 x.2.2.2) (0,false,false,[])).bind fun (y1:Bool×Bool)=>
 some (y1.1,y1.2)
def xT (a0:Norm) (v5:Int):Option (Stp (Int) ((Unit)⊕(Int))):=
 cond (decide (v5 < (a0.Decomp.length:Int))) ((yF a0.Decomp v5).bind fun t39=>
(yF a0.Decomp (wi (v5 - 1))).bind fun t46=>
 cond (decide (t39.From=t46.From)) (some (.done (.inr (5)))) (some (.next (wi (v5+1))))) (some (.done (.inl (()))))
def xU (a0:Norm) (v53:Int):Option (Stp (Int) ((Unit)⊕(Int))):=
 cond (decide (v53 < (a0.Decomp.length:Int))) ((yF a0.Decomp v53).bind fun t55=>
(pv (t55.Tag== [])).bind fun b60=>
(pv (b60&&(!decide ((t55.To.length:Int)=1)))).bind fun b66=>
 cond (b66&&(!decide ((t55.To.length:Int)=2))) (some (.done (.inr (8)))) (some (.next (wi (v53+1))))) (some (.done (.inl (()))))
def yH (a0:Norm) (v76:Int) (r1008:(List Int)):Option (Stp (Int×(List Int)) (((List Int))⊕(Int))):=
 cond (decide (v76 < (a0.Decomp.length:Int))) (((yF a0.Decomp v76).bind fun t78=>
(zBT t78.From).bind fun t82=>
 cond (!decide (t82=0)) (some (.inr (()))) (cond (!(t78.Tag== [])) ((app r1008 [t78.From]).bind fun r1008_5=>
 some (.inl (r1008_5))) (some (.inl (r1008))))).bind fun (y4:((List Int))⊕(Unit))=>
 y4.elim (fun y4=>some (.next (wi (v76+1),y4))) (fun y4=>some (.done (.inr (11))))) (some (.done (.inl (r1008))))
def uI (a0:Norm):Option (Int):=
(zAE a0.Classes).bind fun t15=>
 cond (!decide (t15=0)) (some t15) ((zCL a0.Decomp).bind fun t21=>
 cond (!decide (t21=0)) (some t21) ((zD7 a0.Excluded).bind fun t27=>
 cond (!t27) (some 11) ((zE (fun (x:Int)=>xT a0 x) 1).bind fun (y1:(Unit)⊕(Int))=>
 y1.elim (fun y1=>(zE (fun (x:Int)=>xU a0 x) 0).bind fun (y2:(Unit)⊕(Int))=>
 y2.elim (fun y2=>(zE (fun (x:Int×(List Int))=>yH a0 x.1 x.2) (0,[])).bind fun (y3:((List Int))⊕(Int))=>
 y3.elim (fun y3=>(zCN a0.Classes y3).bind fun t96=>
 cond (decide (0 < (t96.length:Int))) (some 11) ((decompose_measure a0).bind fun t101=>
 cond t101.1 (some 12) (cond t101.2 (some 13) (some 0)))) (fun y3=>some y3)) (fun y2=>some y2)) (fun y1=>some y1))))
def k4 (y1:(List Span)) (v20:Int) (k3000_8:Int):Option (Stp (Int×Int) ((Int))):=
 cond (decide (v20 < (y1.length:Int))) ((yF y1 v20).bind fun t22=>
 some (.next (wi (v20+1),max k3000_8 t22.Value))) (some (.done k3000_8))
def wH (a0:Colltable_table) (a1:Norm):Option (Colltable_table):=
(uI a1).bind fun t8=>
(cond (decide (t8=0)) (some a1.Classes) (some a0.classes)).bind fun (y1:(List Span))=>
(zE (fun (x:Int×Int)=>k4 y1 x.1 x.2) (0,a0.top)).bind fun (y2:Int)=>
 some ({c:=({Entries:=a0.c.Entries,Groups:=a0.c.Groups,Base:=a0.c.Base,Second:=a0.c.Second,Third:=a0.c.Third}:Collation),entries:=a0.entries,longest:=a0.longest,classes:=y1,top:=y2}:Colltable_table)
def vM (a0:Norm):Option (Norm):=
(uI a0).bind fun t4=>
 cond (!decide (t4=0)) (some ({Classes:=({Classes:=[],Decomp:=[],Excluded:=(({Ranges:=[]}):Set)}:Norm).Classes,Decomp:=({Classes:=[],Decomp:=[],Excluded:=(({Ranges:=[]}):Set)}:Norm).Decomp,Excluded:=({Ranges:=(({Classes:=[],Decomp:=[],Excluded:=(({Ranges:=[]}):Set)}:Norm).Excluded).Ranges}:Set)}:Norm)) (some a0)
def kO (t26:(List Int)×Bool) (rec:(Int→(List (Int×(List Int)))→Norm→Bool→Option ((List Int)×(List (Int×(List Int)))))) (a2:Norm) (a3:Bool) (v35:Int) (r1011:(List Int)) (r3120:(List (Int×(List Int)))):Option (Stp (Int×(List Int)×(List (Int×(List Int)))) (((List Int)×(List (Int×(List Int)))))):=
 cond (decide (v35 < (t26.1.length:Int))) ((yF t26.1 v35).bind fun t37=>
(rec t37 r3120 a2 a3).bind fun t42=>
(app r1011 t42.1).bind fun r1011_2=>
 some (.next (wi (v35+1),r1011_2,t42.2))) (some (.done (r1011,r3120)))
def xB (rec:Int→(List (Int×(List Int)))→Norm→Bool→Option ((List Int)×(List (Int×(List Int))))) (a0:Int) (a1:(List (Int×(List Int)))) (a2:Norm) (a3:Bool):Option ((List Int)×(List (Int×(List Int)))):=
 cond (zA4 a1 a0) (some (uA a1 a0 [],a1)) ((wG a2 a0 a3).bind fun t26=>
 cond (!t26.2) (some ([a0],a1)) ((zE (fun (x:Int×(List Int)×(List (Int×(List Int))))=>kO t26 rec a2 a3 x.1 x.2.1 x.2.2) (0,[],a1)).bind fun (y1:(List Int)×(List (Int×(List Int))))=>
 some (y1.1,uC y1.2 a0 y1.1)))
def yU:Nat→Int→(List (Int×(List Int)))→Norm→Bool→Option ((List Int)×(List (Int×(List Int))))
 | 0=>fun _ _ _ _=>none
 | n+1=>xB (yU n)
def zAZ (a0:Norm) (a1:Bool):Option (Unit):=
 some ()
def uS (a0:(List Int)):Option ((List Int)):=app [] a0
def xI (a0:Int) (a1:Int) (a2:(List Span)):Option (Int):=
(kG a2 a0).bind fun t8=>
(kG a2 a1).bind fun t11=>
(jC t8 t11).bind fun t12=>
 some t12
def zV (a1:Int) (a3:Int→Int→Option (Int)) (v9:Int) (r3000:(List Int)):Option (Stp (Int×(List Int)) (((List Int)))):=
(pv (decide (a1 < v9))).bind fun b21=>
(gM b21 (yF r3000 v9)).bind fun t25=>
(gM b21 (yF r3000 (wi (v9 - 1)))).bind fun t30=>
(gM b21 (a3 t25 t30)).bind fun t32=>
 cond (b21&&(decide (t32 < 0))) ((yF r3000 (wi (v9 - 1))).bind fun t45=>
(yF r3000 v9).bind fun t49=>
(yF r3000 v9).bind fun t51=>
(vZ r3000 v9 t45).bind fun r3000_6x15=>
(yF r3000_6x15 (wi (v9 - 1))).bind fun t52=>
(vZ r3000_6x15 (wi (v9 - 1)) t49).bind fun r3000_6x17=>
 some (.next (wi (v9 - 1),r3000_6x17))) (some (.done r3000))
def zS (a2:Int) (a1:Int) (a3:Int→Int→Option (Int)) (v8:Int) (r3000:(List Int)):Option (Stp (Int×(List Int)) (((List Int)))):=
 cond (decide (v8 < a2)) ((zE (fun (x:Int×(List Int))=>zV a1 a3 x.1 x.2) (v8,r3000)).bind fun (y2:(List Int))=>
 some (.next (wi (v8+1),y2))) (some (.done r3000))
def yV (a0:(List Int)) (a1:Int) (a2:Int) (a3:Int→Int→Option (Int)):Option ((List Int)):=
(zE (fun (x:Int×(List Int))=>zS a2 a1 a3 x.1 x.2) (wi (a1+1),a0)).bind fun (y1:(List Int))=>
 some y1
def yJ (a3:Int) (a2:Int) (a1:Int) (v10:Int) (r3000:(List Int)):Option (Stp (Int×(List Int)) (((List Int)))):=
 cond (decide (v10 < a3)) ((yF r3000 (wi (a2+v10))).bind fun t28=>
(yF r3000 (wi (a1+v10))).bind fun t34=>
(yF r3000 (wi (a1+v10))).bind fun t36=>
(vZ r3000 (wi (a1+v10)) t28).bind fun r3000_3x21=>
(yF r3000_3x21 (wi (a2+v10))).bind fun t37=>
(vZ r3000_3x21 (wi (a2+v10)) t34).bind fun r3000_3x23=>
 some (.next (wi (v10+1),r3000_3x23))) (some (.done r3000))
def yW (a0:(List Int)) (a1:Int) (a2:Int) (a3:Int) (a4:Int→Int→Option (Int)):Option ((List Int)):=
(zE (fun (x:Int×(List Int))=>yJ a3 a2 a1 x.1 x.2) (0,a0)).bind fun (y1:(List Int))=>
 some y1
def yA (a2:Int) (a4:Int→Int→Option (Int)) (v10:Int) (v11:Int) (r3000:(List Int)):Option (Stp (Int×Int×(List Int)) ((Int×(List Int)))):=
 cond (!decide (v10=v11)) ((cond (decide (v11 < v10)) ((yW r3000 (wi (a2 - v10)) a2 v11 a4).bind fun t31=>
 some (wi (v10 - v11),v11,t31)) ((yW r3000 (wi (a2 - v10)) (wi ((wi (a2+v11)) - v10)) v10 a4).bind fun t46=>
 some (v10,wi (v11 - v10),t46))).bind fun (y2:Int×Int×(List Int))=>
 some (.next (y2.1,y2.2.1,y2.2.2))) (some (.done (v10,r3000)))
def jG (a0:(List Int)) (a1:Int) (a2:Int) (a3:Int) (a4:Int→Int→Option (Int)):Option ((List Int)):=
(zE (fun (x:Int×Int×(List Int))=>yA a2 a4 x.1 x.2.1 x.2.2) (wi (a2 - a1),wi (a3 - a2),a0)).bind fun (y1:Int×(List Int))=>
(yW y1.2 (wi (a2 - y1.1)) a2 y1.1 a4).bind fun t57=>
 some t57
def yK (a0:(List Int)) (a1:Int) (a4:Int→Int→Option (Int)) (v10:Int) (v11:Int):Option (Stp (Int×Int) ((Int))):=
 cond (decide (v10 < v11)) (((yF a0 (wi ((wu (wi (v10+v11))) / 2 ^ 1))).bind fun t43=>
(yF a0 a1).bind fun t47=>
(a4 t43 t47).bind fun t49=>
 cond (decide (t49 < 0)) (some (wi ((wi ((wu (wi (v10+v11))) / 2 ^ 1))+1),v11)) (some (v10,wi ((wu (wi (v10+v11))) / 2 ^ 1)))).bind fun (y2:Int×Int)=>
 some (.next (y2.1,y2.2))) (some (.done v10))
def yL (y1:Int) (v13:Int) (r3000:(List Int)):Option (Stp (Int×(List Int)) (((List Int)))):=
 cond (decide (v13 < (wi (y1 - 1)))) ((yF r3000 (wi (v13+1))).bind fun t69=>
(yF r3000 v13).bind fun t73=>
(yF r3000 v13).bind fun t75=>
(vZ r3000 v13 t69).bind fun r3000_11x15=>
(yF r3000_11x15 (wi (v13+1))).bind fun t76=>
(vZ r3000_11x15 (wi (v13+1)) t73).bind fun r3000_11x17=>
 some (.next (wi (v13+1),r3000_11x17))) (some (.done r3000))
def yN (a0:(List Int)) (a2:Int) (a4:Int→Int→Option (Int)) (v14:Int) (v15:Int):Option (Stp (Int×Int) ((Int))):=
 cond (decide (v14 < v15)) (((yF a0 a2).bind fun t95=>
(yF a0 (wi ((wu (wi (v14+v15))) / 2 ^ 1))).bind fun t99=>
(a4 t95 t99).bind fun t101=>
 cond (!(decide (t101 < 0))) (some (wi ((wi ((wu (wi (v14+v15))) / 2 ^ 1))+1),v15)) (some (v14,wi ((wu (wi (v14+v15))) / 2 ^ 1)))).bind fun (y5:Int×Int)=>
 some (.next (y5.1,y5.2))) (some (.done v14))
def yO (y4:Int) (v17:Int) (r3000:(List Int)):Option (Stp (Int×(List Int)) (((List Int)))):=
 cond (decide (y4 < v17)) ((yF r3000 (wi (v17 - 1))).bind fun t121=>
(yF r3000 v17).bind fun t125=>
(yF r3000 v17).bind fun t127=>
(vZ r3000 v17 t121).bind fun r3000_23x15=>
(yF r3000_23x15 (wi (v17 - 1))).bind fun t128=>
(vZ r3000_23x15 (wi (v17 - 1)) t125).bind fun r3000_23x17=>
 some (.next (wi (v17 - 1),r3000_23x17))) (some (.done r3000))
def yP (a0:(List Int)) (a1:Int) (a3:Int) (a2:Int) (a4:Int→Int→Option (Int)) (v20:Int) (v21:Int):Option (Stp (Int×Int) ((Int))):=
 cond (decide (v20 < v21)) (((yF a0 (wi ((wi ((wi ((wi ((wu (wi (a1+a3))) / 2 ^ 1))+a2)) - 1)) - (wi ((wu (wi (v20+v21))) / 2 ^ 1))))).bind fun t163=>
(yF a0 (wi ((wu (wi (v20+v21))) / 2 ^ 1))).bind fun t167=>
(a4 t163 t167).bind fun t169=>
 cond (!(decide (t169 < 0))) (some (wi ((wi ((wu (wi (v20+v21))) / 2 ^ 1))+1),v21)) (some (v20,wi ((wu (wi (v20+v21))) / 2 ^ 1)))).bind fun (y9:Int×Int)=>
 some (.next (y9.1,y9.2))) (some (.done v20))
def z8 (rec:((List Int))→(Int)→(Int)→(Int)→(Int→Int→Option (Int))→Option ((List Int))) (a0:(List Int)) (a1:Int) (a2:Int) (a3:Int) (a4:Int→Int→Option (Int)):Option ((List Int)):=
 cond (decide ((wi (a2 - a1))=1)) ((zE (fun (x:Int×Int)=>yK a0 a1 a4 x.1 x.2) (a2,a3)).bind fun (y1:Int)=>
(zE (fun (x:Int×(List Int))=>yL y1 x.1 x.2) (a1,a0)).bind fun (y3:(List Int))=>
 some y3) (cond (decide ((wi (a3 - a2))=1)) ((zE (fun (x:Int×Int)=>yN a0 a2 a4 x.1 x.2) (a1,a2)).bind fun (y4:Int)=>
(zE (fun (x:Int×(List Int))=>yO y4 x.1 x.2) (a2,a0)).bind fun (y6:(List Int))=>
 some y6) ((cond (decide ((wi ((wu (wi (a1+a3))) / 2 ^ 1)) < a2)) (some (wi ((wi ((wi ((wu (wi (a1+a3))) / 2 ^ 1))+a2)) - a3),wi ((wu (wi (a1+a3))) / 2 ^ 1))) (some (a1,a2))).bind fun (y7:Int×Int)=>
(zE (fun (x:Int×Int)=>yP a0 a1 a3 a2 a4 x.1 x.2) (y7.1,y7.2)).bind fun (y8:Int)=>
(pv (decide (y8 < a2))).bind fun b181=>
(cond (b181&&(decide (a2 < (wi ((wi ((wi ((wu (wi (a1+a3))) / 2 ^ 1))+a2)) - y8))))) ((jG a0 y8 a2 (wi ((wi ((wi ((wu (wi (a1+a3))) / 2 ^ 1))+a2)) - y8)) a4).bind fun t191=>
 some t191) (some a0)).bind fun (y10:(List Int))=>
(pv (decide (a1 < y8))).bind fun b195=>
(cond (b195&&(decide (y8 < (wi ((wu (wi (a1+a3))) / 2 ^ 1))))) ((rec y10 a1 y8 (wi ((wu (wi (a1+a3))) / 2 ^ 1)) a4).bind fun t205=>
 some t205) (some y10)).bind fun (y11:(List Int))=>
(pv (decide ((wi ((wu (wi (a1+a3))) / 2 ^ 1)) < (wi ((wi ((wi ((wu (wi (a1+a3))) / 2 ^ 1))+a2)) - y8))))).bind fun b209=>
 cond (b209&&(decide ((wi ((wi ((wi ((wu (wi (a1+a3))) / 2 ^ 1))+a2)) - y8)) < a3))) ((rec y11 (wi ((wu (wi (a1+a3))) / 2 ^ 1)) (wi ((wi ((wi ((wu (wi (a1+a3))) / 2 ^ 1))+a2)) - y8)) a3 a4).bind fun t219=>
 some t219) (some y11)))
def yS:Nat→((List Int))→(Int)→(Int)→(Int)→(Int→Int→Option (Int))→Option ((List Int))
 | 0=>fun _ _ _ _ _=>none
 | n+1=>z8 (yS n)
def z3 (a1:Int) (a2:Int→Int→Option (Int)) (v7:Int) (v8:Int) (r3000:(List Int)):Option (Stp (Int×Int×(List Int)) ((Int×(List Int)))):=
 cond (decide (v8≤a1)) ((yV r3000 v7 v8 a2).bind fun t18=>
 some (.next (v8,wi (v8+20),t18))) (some (.done (v7,r3000)))
def z4 (a1:Int) (v6:Int) (a2:Int→Int→Option (Int)) (v7:Int) (v8:Int) (r3000:(List Int)):Option (Stp (Int×Int×(List Int)) ((Int×(List Int)))):=
 cond (decide (v8≤a1)) ((yS 60 r3000 v7 (wi (v7+v6)) v8 a2).bind fun t43=>
 some (.next (v8,wi (v8+(wi (2*v6))),t43))) (some (.done (v7,r3000)))
def yB (a1:Int) (a2:Int→Int→Option (Int)) (v6:Int) (r3000:(List Int)):Option (Stp (Int×(List Int)) (((List Int)))):=
 cond (decide (v6 < a1)) ((zE (fun (x:Int×Int×(List Int))=>z4 a1 v6 a2 x.1 x.2.1 x.2.2) (0,wi (2*v6),r3000)).bind fun (y3:Int×(List Int))=>
(cond (decide ((wi (y3.1+v6)) < a1)) ((yS 60 y3.2 y3.1 (wi (y3.1+v6)) a1 a2).bind fun t60=>
 some t60) (some y3.2)).bind fun (y4:(List Int))=>
 some (.next (wi (v6*2),y4))) (some (.done r3000))
def xZ (a0:(List Int)) (a1:Int) (a2:Int→Int→Option (Int)):Option ((List Int)):=
(zE (fun (x:Int×Int×(List Int))=>z3 a1 a2 x.1 x.2.1 x.2.2) (0,20,a0)).bind fun (y1:Int×(List Int))=>
(yV y1.2 y1.1 a1 a2).bind fun t27=>
(zE (fun (x:Int×(List Int))=>yB a1 a2 x.1 x.2) (20,t27)).bind fun (y2:(List Int))=>
 some y2
def kD (a0:(List Int)) (a1:Int→Int→Option (Int)):Option ((List Int)):=
(xZ a0 (a0.length:Int) a1).bind fun t8=>
 some t8
def u0 (a0:List Span) (a1:List Int):Option (List Int):=(uG a0).bind fun t8=>(uS a1).bind fun t10=>(uH (jL (fun c=>kG t8 c==some 0) a1 0 (-1)) a1 t8).bind fun _=>vQ (fun p=>kD p (fun x0 x1=>xI x0 x1 t8)) Range.Lo Range.Hi t10 (jL (fun c=>kG t8 c==some 0) a1 0 (-1))
def jK (a1:(List Int)) (t12:Norm) (a2:Bool) (v18:Int) (r1008:(List Int)) (r3515:(List (Int×(List Int)))):Option (Stp (Int×(List Int)×(List (Int×(List Int)))) (((List Int)))):=
 cond (decide (v18 < (a1.length:Int))) ((yF a1 v18).bind fun t20=>
(yU 100 t20 r3515 ({Classes:=t12.Classes,Decomp:=t12.Decomp,Excluded:=({Ranges:=t12.Excluded.Ranges}:Set)}:Norm) a2).bind fun t25=>
(app r1008 t25.1).bind fun r1008_2=>
 some (.next (wi (v18+1),r1008_2,t25.2))) (some (.done r1008))
def xC (a0:Norm) (a1:(List Int)) (a2:Bool):Option ((List Int)):=
(vM ({Classes:=a0.Classes,Decomp:=a0.Decomp,Excluded:=({Ranges:=a0.Excluded.Ranges}:Set)}:Norm)).bind fun t12=>
(zAZ ({Classes:=t12.Classes,Decomp:=t12.Decomp,Excluded:=({Ranges:=t12.Excluded.Ranges}:Set)}:Norm) a2).bind fun t15=>
(zE (fun (x:Int×(List Int)×(List (Int×(List Int))))=>jK a1 t12 a2 x.1 x.2.1 x.2.2) (0,[],[])).bind fun (y1:(List Int))=>
(u0 t12.Classes y1).bind fun t31=>
 some t31
def k7 (a0:Colltable_table) (a1:(List Int)):Option ((List Element)×Bool):=
(pv (decide ((a1.length:Int)=0))).bind fun b11=>
 cond (b11 ||(decide (a0.longest < (a1.length:Int)))) (some ([],false)) ((zA6 a1).bind fun t26=>
 some (uA a0.entries t26 [],zA4 a0.entries t26))
def jH (a0:Colltable_table) (a1:Int):Option ((List Element)):=
(wZ a1).bind fun t6=>
 cond (!t6) (some []) ((zJ0 wi a1 32768).bind fun t14=>
(zGR a1 32768).bind fun t28=>
 some [({Primary:=wi (a0.c.Base+t14),Secondary:=a0.c.Second,Tertiary:=a0.c.Third,Variable:=false}:Element),({Primary:=wi (32768+t28),Secondary:=0,Tertiary:=0,Variable:=false}:Element)])
def j8 (a0:Int) (a1:Colltable_table) (a2:Int):Option (Bool):=
(yF a1.classes a0).bind fun t10=>
 some (decide (a2≤t10.Hi))
def zAI (a1:Int→Option (Bool)) (v5:Int) (v6:Int):Option (Stp (Int×Int) ((Int))):=
 cond (decide (v5 < v6)) (((a1 (wi ((wu (wi (v5+v6))) / 2 ^ 1))).bind fun t20=>
 cond (!t20) (some (wi ((wi ((wu (wi (v5+v6))) / 2 ^ 1))+1),v6)) (some (v5,wi ((wu (wi (v5+v6))) / 2 ^ 1)))).bind fun (y2:Int×Int)=>
 some (.next (y2.1,y2.2))) (some (.done v5))
def zF3 (a0:Int) (a1:Int→Option (Bool)):Option (Int):=
(zE (fun (x:Int×Int)=>zAI a1 x.1 x.2) (0,a0)).bind fun (y1:Int)=>
 some y1
def xM (a0:Colltable_table) (a1:Int):Option (Int):=
(zF3 (a0.classes.length:Int) (fun x0=>j8 x0 a0 a1)).bind fun t12=>
(pv (decide (t12 < (a0.classes.length:Int)))).bind fun b20=>
(gM b20 (yF a0.classes t12)).bind fun t26=>
 cond (b20&&(decide (t26.Lo≤a1))) ((yF a0.classes t12).bind fun t37=>
 some t37.Value) (some 0)
def kL (a1:(List Int)) (a0:Colltable_table) (v7:Int):Option (Stp (Int) ((Int))):=
 cond (decide (0 < v7)) ((slc a1 0 v7).bind fun t31=>
(k7 a0 t31).bind fun t32=>
 cond t32.2 (some (.done v7)) (some (.next (wi (v7 - 1))))) (some (.done v7))
def yQ (a0:Colltable_table) (v7:Int) (v10:Int) (v11:Int) (r3001:(List Int)):Option (Stp (Int×Int×Int×(List Int)) ((Int×(List Int)))):=
(pv (decide (v11 < (r3001.length:Int)))).bind fun b50=>
 cond (b50&&(decide (v10 < a0.top))) (((yF r3001 v11).bind fun t62=>
(xM a0 t62).bind fun t66=>
 cond (decide (t66=0)) (some (.inl (()))) (cond (decide (t66≤v10)) (some (.inr ((v7,v10,r3001)))) ((slc r3001 0 v7).bind fun t77=>
(app t77 [t62]).bind fun r80_4=>
(k7 a0 r80_4).bind fun t81=>
 cond (!t81.2) (some (.inr ((v7,t66,r3001)))) ((slc r3001 (wi (v7+1)) (wi (v11+1))).bind fun t92=>
(slc r3001 v7 v11).bind fun t96=>
(yF (cpM r3001 (wi (v7+1)) (wi (v11+1)) v7 v11) v7).bind fun t101=>
(vZ (cpM r3001 (wi (v7+1)) (wi (v11+1)) v7 v11) v7 t62).bind fun r3001_5=>
 some (.inr ((wi (v7+1),v10,r3001_5))))))).bind fun (y3:(Unit)⊕(Int×Int×(List Int)))=>
 y3.elim (fun y3=>some (.done (v7,r3001))) (fun y3=>some (.next (y3.1,y3.2.1,wi (v11+1),y3.2.2)))) (some (.done (v7,r3001)))
def xN (a0:Colltable_table) (a1:(List Int)):Option (Int×(List Element)×Bool×(List Int)):=
(zE (fun (x:Int)=>kL a1 a0 x) (min a0.longest (a1.length:Int))).bind fun (y1:Int)=>
 cond (decide (y1=0)) ((yF a1 (0:Int)).bind fun t42=>
(jH a0 t42).bind fun t44=>
 some (1,t44,false,a1)) ((zE (fun (x:Int×Int×Int×(List Int))=>yQ a0 x.1 x.2.1 x.2.2.1 x.2.2.2) (y1,0,y1,a1)).bind fun (y2:Int×(List Int))=>
(slc y2.2 0 y2.1).bind fun t108=>
(k7 a0 t108).bind fun t109=>
 some (y2.1,t109.1,true,y2.2))
def jJ (t16:Colltable_table) (r1008:(List Element)) (r2519:(List Int)):Option (Stp ((List Element)×(List Int)) (((List Element)))):=
 cond (decide (0 < (r2519.length:Int))) ((xN t16 r2519).bind fun t26=>
(app r1008 t26.2.1).bind fun r1008_2=>
(slc t26.2.2.2 t26.1 (t26.2.2.2.length)).bind fun r2519_3=>
 some (.next (r1008_2,r2519_3))) (some (.done r1008))
def vU (a0:Norm) (a1:Collation) (a2:(List Int)):Option ((List Element)):=
(zBR a1).bind fun t14=>
(wH t14 a0).bind fun t16=>
(xC a0 a2 false).bind fun t19=>
(zE (fun (x:(List Element)×(List Int))=>jJ t16 x.1 x.2) ([],t19)).bind fun (y1:(List Element))=>
 some y1
def w8 (a0:Element) (a1:Int) (a2:Bool):Option (A4Int×Bool):=
(cond (!decide (({x0:=({x0:=a0.Primary,x1:=a0.Secondary,x2:=a0.Tertiary,x3:=0}:A4Int).x0,x1:=({x0:=a0.Primary,x1:=a0.Secondary,x2:=a0.Tertiary,x3:=0}:A4Int).x1,x2:=({x0:=a0.Primary,x1:=a0.Secondary,x2:=a0.Tertiary,x3:=0}:A4Int).x2,x3:=({x0:=a0.Primary,x1:=a0.Secondary,x2:=a0.Tertiary,x3:=0}:A4Int).x3}:A4Int)=({x0:=0,x1:=0,x2:=0,x3:=0}:A4Int))) (some 65535) (some (({x0:=a0.Primary,x1:=a0.Secondary,x2:=a0.Tertiary,x3:=0}:A4Int).x3))).bind fun (y1:Int)=>
 cond (decide (a1=1)) (some (({x0:=({x0:=a0.Primary,x1:=a0.Secondary,x2:=a0.Tertiary,x3:=0}:A4Int).x0,x1:=({x0:=a0.Primary,x1:=a0.Secondary,x2:=a0.Tertiary,x3:=0}:A4Int).x1,x2:=({x0:=a0.Primary,x1:=a0.Secondary,x2:=a0.Tertiary,x3:=0}:A4Int).x2,x3:=y1}:A4Int),a2)) ((cond a0.Variable (some (({x0:=0,x1:=0,x2:=0,x3:=a0.Primary}:A4Int).x0,({x0:=0,x1:=0,x2:=0,x3:=a0.Primary}:A4Int).x1,({x0:=0,x1:=0,x2:=0,x3:=a0.Primary}:A4Int).x2,({x0:=0,x1:=0,x2:=0,x3:=a0.Primary}:A4Int).x3,true)) (cond (!decide (a0.Primary=0)) (some (({x0:=a0.Primary,x1:=a0.Secondary,x2:=a0.Tertiary,x3:=0}:A4Int).x0,({x0:=a0.Primary,x1:=a0.Secondary,x2:=a0.Tertiary,x3:=0}:A4Int).x1,({x0:=a0.Primary,x1:=a0.Secondary,x2:=a0.Tertiary,x3:=0}:A4Int).x2,y1,false)) (cond a2 (some (({x0:=0,x1:=0,x2:=0,x3:=0}:A4Int).x0,({x0:=0,x1:=0,x2:=0,x3:=0}:A4Int).x1,({x0:=0,x1:=0,x2:=0,x3:=0}:A4Int).x2,({x0:=0,x1:=0,x2:=0,x3:=0}:A4Int).x3,a2)) (some (({x0:=a0.Primary,x1:=a0.Secondary,x2:=a0.Tertiary,x3:=0}:A4Int).x0,({x0:=a0.Primary,x1:=a0.Secondary,x2:=a0.Tertiary,x3:=0}:A4Int).x1,({x0:=a0.Primary,x1:=a0.Secondary,x2:=a0.Tertiary,x3:=0}:A4Int).x2,y1,a2))))).bind fun (y2:Int×Int×Int×Int×Bool)=>
(cond (decide (a1=2)) (some 0) (some y2.2.2.2.1)).bind fun (y3:Int)=>
 some (({x0:=y2.1,x1:=y2.2.1,x2:=y2.2.2.1,x3:=y3}:A4Int),y2.2.2.2.2))
def zBJ (a0:Int):Option (Unit):=
 some ()
def k9 (v2:Int) (v3:Int) (r3000:(List Int)):Option (Stp (Int×Int×(List Int)) (((List Int)))):=
 cond (decide (v2 < v3)) ((yF r3000 v3).bind fun t20=>
(yF r3000 v2).bind fun t24=>
(yF r3000 v2).bind fun t26=>
(vZ r3000 v2 t20).bind fun r3000_3x13=>
(yF r3000_3x13 v3).bind fun t27=>
(vZ r3000_3x13 v3 t24).bind fun r3000_3x15=>
 some (.next (wi (v2+1),wi (v3 - 1),r3000_3x15))) (some (.done r3000))
def jS (a0:(List Int)):Option ((List Int)):=
(zE (fun (x:Int×Int×(List Int))=>k9 x.1 x.2.1 x.2.2) (0,wi ((a0.length:Int) - 1),a0)).bind fun (y1:(List Int))=>
 some y1
def jA (t24:A4Int×Bool) (v25:Int) (r4100:(List Int)) (r4101:(List Int)) (r4102:(List Int)) (r4103:(List Int)):Option (Stp (Int×(List Int)×(List Int)×(List Int)×(List Int)) (((List Int)×(List Int)×(List Int)×(List Int)))):=
 cond (decide (v25=0)) (((yF [t24.1.x0,t24.1.x1,t24.1.x2,t24.1.x3] (0:Int)).bind fun t28=>
 cond (!decide (t28=0)) ((app r4100 [t28]).bind fun r4100_4=>
 some r4100_4) (some r4100)).bind fun (y3:(List Int))=>
 some (.next (wi ((0:Int)+1),y3,r4101,r4102,r4103))) (cond (decide (v25=1)) (((yF [t24.1.x0,t24.1.x1,t24.1.x2,t24.1.x3] (1:Int)).bind fun t28=>
 cond (!decide (t28=0)) ((app r4101 [t28]).bind fun r4101_6=>
 some r4101_6) (some r4101)).bind fun (y5:(List Int))=>
 some (.next (wi ((1:Int)+1),r4100,y5,r4102,r4103))) (cond (decide (v25=2)) (((yF [t24.1.x0,t24.1.x1,t24.1.x2,t24.1.x3] (2:Int)).bind fun t28=>
 cond (!decide (t28=0)) ((app r4102 [t28]).bind fun r4102_8=>
 some r4102_8) (some r4102)).bind fun (y7:(List Int))=>
 some (.next (wi ((2:Int)+1),r4100,r4101,y7,r4103))) (cond (decide (v25=3)) (((yF [t24.1.x0,t24.1.x1,t24.1.x2,t24.1.x3] (3:Int)).bind fun t28=>
 cond (!decide (t28=0)) ((app r4103 [t28]).bind fun r4103_10=>
 some r4103_10) (some r4103)).bind fun (y9:(List Int))=>
 some (.next (wi ((3:Int)+1),r4100,r4101,r4102,y9))) (cond (decide (v25=4)) (some (.done (r4100,r4101,r4102,r4103))) (none)))))
def xV (a0:(List Element)) (t12:Options) (v18:Int) (k2515_0:Bool) (r4100:(List Int)) (r4101:(List Int)) (r4102:(List Int)) (r4103:(List Int)):Option (Stp (Int×Bool×(List Int)×(List Int)×(List Int)×(List Int)) (((List Int)×(List Int)×(List Int)×(List Int)))):=
 cond (decide (v18 < (a0.length:Int))) ((yF a0 v18).bind fun t20=>
(w8 t20 t12.Variable k2515_0).bind fun t24=>
(zE (fun (x:Int×(List Int)×(List Int)×(List Int)×(List Int))=>jA t24 x.1 x.2.1 x.2.2.1 x.2.2.2.1 x.2.2.2.2) (0,r4100,r4101,r4102,r4103)).bind fun (y2:(List Int)×(List Int)×(List Int)×(List Int))=>
 some (.next (wi (v18+1),t24.2,y2.1,y2.2.1,y2.2.2.1,y2.2.2.2))) (some (.done (r4100,r4101,r4102,r4103)))
def uJ (a0:(List Element)) (a1:Options):Option ((List (List Int))):=
(wQ ({Strength:=a1.Strength,Variable:=a1.Variable,Backward:=a1.Backward,Identical:=a1.Identical}:Options)).bind fun t12=>
(zBJ t12.Variable).bind fun t15=>
(zE (fun (x:Int×Bool×(List Int)×(List Int)×(List Int)×(List Int))=>xV a0 t12 x.1 x.2.1 x.2.2.1 x.2.2.2.1 x.2.2.2.2.1 x.2.2.2.2.2) (0,false,[],[],[],[])).bind fun (y1:(List Int)×(List Int)×(List Int)×(List Int))=>
(cond t12.Backward ((jS y1.2.1).bind fun t45=>
 some t45) (some y1.2.1)).bind fun (y11:(List Int))=>
(slc [({x0:=y1.1,x1:=y11,x2:=y1.2.2.1,x3:=y1.2.2.2}:A4ListInt).x0,({x0:=y1.1,x1:=y11,x2:=y1.2.2.1,x3:=y1.2.2.2}:A4ListInt).x1,({x0:=y1.1,x1:=y11,x2:=y1.2.2.1,x3:=y1.2.2.2}:A4ListInt).x2,({x0:=y1.1,x1:=y11,x2:=y1.2.2.1,x3:=y1.2.2.2}:A4ListInt).x3] 0 t12.Strength).bind fun t48=>
(app [] t48).bind fun r49_12=>
 some r49_12
def zAJ (t21:(List (List Int))) (v23:Int) (r1009:(List Int)):Option (Stp (Int×(List Int)) (((List Int)))):=
 cond (decide (v23 < (t21.length:Int))) ((yF t21 v23).bind fun t26=>
(cond (decide (0 < v23)) ((app r1009 [0]).bind fun r1009_3=>
 some r1009_3) (some r1009)).bind fun (y2:(List Int))=>
(app y2 t26).bind fun r1009_4=>
 some (.next (wi (v23+1),r1009_4))) (some (.done r1009))
def zAK (t46:(List Int)) (v48:Int) (r1009:(List Int)):Option (Stp (Int×(List Int)) (((List Int)))):=
 cond (decide (v48 < (t46.length:Int))) (((yF t46 v48).bind fun t50=>
(pv (decide (0≤t50))).bind fun b54=>
 cond (b54&&(decide (t50≤1114111))) ((app r1009 [wi (t50+1)]).bind fun r1009_8=>
 some r1009_8) (some r1009)).bind fun (y7:(List Int))=>
 some (.next (wi (v48+1),y7))) (some (.done r1009))
def uT (a0:Norm) (a1:Collation) (a2:Options) (a3:(List Int)):Option ((List Int)):=
(wQ ({Strength:=a2.Strength,Variable:=a2.Variable,Backward:=a2.Backward,Identical:=a2.Identical}:Options)).bind fun t15=>
(vU a0 a1 a3).bind fun t19=>
(uJ t19 ({Strength:=t15.Strength,Variable:=t15.Variable,Backward:=t15.Backward,Identical:=t15.Identical}:Options)).bind fun t21=>
(zE (fun (x:Int×(List Int))=>zAJ t21 x.1 x.2) (0,[])).bind fun (y1:(List Int))=>
 cond (!t15.Identical) (some y1) ((app y1 [0]).bind fun r1009_5=>
(xC a0 a3 false).bind fun t46=>
(zE (fun (x:Int×(List Int))=>zAK t46 x.1 x.2) (0,r1009_5)).bind fun (y6:(List Int))=>
 some y6)
def vN (a0:(List Int)) (a1:(List Int)) (v5:Int):Option (Stp (Int) ((Unit)⊕(Int))):=
(pv (decide (v5 < (a0.length:Int)))).bind fun b10=>
 cond (b10&&(decide (v5 < (a1.length:Int)))) ((yF a0 v5).bind fun t20=>
(yF a1 v5).bind fun t24=>
 cond (decide (t20 < t24)) (some (.done (.inr ((-1))))) ((yF a0 v5).bind fun t29=>
(yF a1 v5).bind fun t33=>
 cond (decide (t33 < t29)) (some (.done (.inr (1)))) (some (.next (wi (v5+1)))))) (some (.done (.inl (()))))
def zCO (a0:(List Int)) (a1:(List Int)):Option (Int):=
(zE (fun (x:Int)=>vN a0 a1 x) 0).bind fun (y1:(Unit)⊕(Int))=>
 y1.elim (fun y1=>cond (decide ((a0.length:Int) < (a1.length:Int))) (some (-1)) (cond (decide ((a1.length:Int) < (a0.length:Int))) (some 1) (some 0))) (fun y1=>some y1)
def zBU (a0:(List Int)) (a1:(List Int)):Option (Bool):=
(zCO a0 a1).bind fun t7=>
 some (decide (t7=0))
def uU (a0:Int):Option (Bool):=
(pv (decide (0≤a0))).bind fun b5=>
 some (b5&&(decide (a0≤1114111)))
def zEW:Option ((List Range)):=
 some [({Lo:=4352,Hi:=4370}:Range),({Lo:=4449,Hi:=4469}:Range),({Lo:=4520,Hi:=4546}:Range),({Lo:=44032,Hi:=55203}:Range)]
def zAL (a0:(List Span)) (v3:Int):Option (Stp (Int) ((Unit)⊕(Int))):=
 cond (decide (v3 < (a0.length:Int))) ((yF a0 v3).bind fun t16=>
(uU t16.Lo).bind fun t19=>
(pv (!t19)).bind fun b21=>
(gM (!b21) (yF a0 v3)).bind fun t24=>
(gM (!b21) (uU t24.Hi)).bind fun t27=>
(pv (b21 ||(!t27))).bind fun b30=>
(gM (!b30) (yF a0 v3)).bind fun t33=>
(gM (!b30) (yF a0 v3)).bind fun t38=>
(pv (b30 ||(decide (t38.Hi < t33.Lo)))).bind fun b43=>
(gM (!b43) (yF a0 v3)).bind fun t46=>
(pv (b43 ||(decide (t46.Value < 1)))).bind fun b51=>
(gM (!b51) (yF a0 v3)).bind fun t54=>
 cond (b51 ||(decide (254 < t54.Value))) (some (.done (.inr (1)))) (some (.next (wi (v3+1))))) (some (.done (.inl (()))))
def zAM (a0:(List Span)) (v4:Int):Option (Stp (Int) ((Unit)⊕(Int))):=
 cond (decide (v4 < (a0.length:Int))) ((yF a0 v4).bind fun t67=>
(yF a0 (wi (v4 - 1))).bind fun t73=>
(pv (decide (t67.Lo≤t73.Hi))).bind fun b77=>
(gM (!b77) (yF a0 v4)).bind fun t80=>
(gM (!b77) (yF a0 (wi (v4 - 1)))).bind fun t86=>
(pv (decide (t80.Lo=(wi (t86.Hi+1))))).bind fun b91=>
(gM (!b77&&b91) (yF a0 v4)).bind fun t94=>
(gM (!b77&&b91) (yF a0 (wi (v4 - 1)))).bind fun t100=>
 cond (b77 ||(b91&&(decide (t94.Value=t100.Value)))) (some (.done (.inr (4)))) (some (.next (wi (v4+1))))) (some (.done (.inl (()))))
def wI (t106:(List Range)) (a0:(List Span)) (v6:Int) (v7:Int):Option (Stp (Int) ((Unit)⊕(Int))):=
 cond (decide (v7 < (t106.length:Int))) ((yF a0 v6).bind fun t121=>
(yF t106 v7).bind fun t126=>
(pv (decide (t121.Lo≤t126.Hi))).bind fun b130=>
(gM b130 (yF t106 v7)).bind fun t133=>
(gM b130 (yF a0 v6)).bind fun t138=>
 cond (b130&&(decide (t133.Lo≤t138.Hi))) (some (.done (.inr (11)))) (some (.next (wi (v7+1))))) (some (.done (.inl (()))))
def zAN (a0:(List Span)) (t106:(List Range)) (v6:Int):Option (Stp (Int) ((Unit)⊕(Int))):=
 cond (decide (v6 < (a0.length:Int))) ((zE (fun (x:Int)=>wI t106 a0 v6 x) 0).bind fun (y4:(Unit)⊕(Int))=>
 y4.elim (fun y4=>some (.next (wi (v6+1)))) (fun y4=>some (.done (.inr (y4))))) (some (.done (.inl (()))))
def zC0 (a0:(List Span)):Option (Int):=
(zE (fun (x:Int)=>zAL a0 x) 0).bind fun (y1:(Unit)⊕(Int))=>
 y1.elim (fun y1=>(zE (fun (x:Int)=>zAM a0 x) 1).bind fun (y2:(Unit)⊕(Int))=>
 y2.elim (fun y2=>(zEW).bind fun t106=>
(zE (fun (x:Int)=>zAN a0 t106 x) 0).bind fun (y3:(Unit)⊕(Int))=>
 y3.elim (fun y3=>some 0) (fun y3=>some y3)) (fun y2=>some y2)) (fun y1=>some y1)
def zAO (a0:Mapping) (v3:Int):Option (Stp (Int) ((Unit)⊕(Bool))):=
 cond (decide (v3 < (a0.To.length:Int))) ((yF a0.To v3).bind fun t14=>
(uU t14).bind fun t16=>
 cond (!t16) (some (.done (.inr (false)))) (some (.next (wi (v3+1))))) (some (.done (.inl (()))))
def zD8 (a0:Mapping):Option (Bool):=
(zE (fun (x:Int)=>zAO a0 x) 0).bind fun (y1:(Unit)⊕(Bool))=>
 y1.elim (fun y1=>(uU a0.From).bind fun t20=>
 some t20) (fun y1=>some y1)
def zDZ (a0:Str) (v3:Int):Option (Stp (Int) ((Unit)⊕(Bool))):=
 cond (decide (v3 < (a0.length:Int))) ((zUH a0 v3).bind fun t13=>
(pv (decide (65≤t13))).bind fun b16=>
(pv (b16&&(decide (t13≤90)))).bind fun b20=>
(pv (decide (97≤t13))).bind fun b23=>
(pv (b20 ||(b23&&(decide (t13≤122))))).bind fun b28=>
(pv (decide (48≤t13))).bind fun b31=>
(pv (b28 ||(b31&&(decide (t13≤57))))).bind fun b36=>
 cond (!(b36 ||(decide (t13=95)))) (some (.done (.inr (false)))) (some (.next (wi (v3+1))))) (some (.done (.inl (()))))
def zFF (a0:Str):Option (Bool):=
(zE (fun (x:Int)=>zDZ a0 x) 0).bind fun (y1:(Unit)⊕(Bool))=>
 y1.elim (fun y1=>(pv (decide (1≤(a0.length:Int)))).bind fun b44=>
 some (b44&&(decide ((a0.length:Int)≤32)))) (fun y1=>some y1)
def wJ (v3:Int) (a0:(List Mapping)) (v4:Int):Option (Stp (Int) ((Unit)⊕(Bool))):=
 cond (decide (v4 < v3)) ((yF a0 v3).bind fun t18=>
(yF a0 v4).bind fun t23=>
(pv (decide (t18.From=t23.From))).bind fun b27=>
(gM b27 (yF a0 v3)).bind fun t30=>
(gM b27 (yF a0 v4)).bind fun t35=>
 cond (b27&&(t30.Tag==t35.Tag)) (some (.done (.inr (true)))) (some (.next (wi (v4+1))))) (some (.done (.inl (()))))
def zAP (a0:(List Mapping)) (v3:Int):Option (Stp (Int) ((Unit)⊕(Bool))):=
 cond (decide (v3 < (a0.length:Int))) ((zE (fun (x:Int)=>wJ v3 a0 x) 0).bind fun (y2:(Unit)⊕(Bool))=>
 y2.elim (fun y2=>some (.next (wi (v3+1)))) (fun y2=>some (.done (.inr (y2))))) (some (.done (.inl (()))))
def zD9 (a0:(List Mapping)):Option (Bool):=
(zE (fun (x:Int)=>zAP a0 x) 0).bind fun (y1:(Unit)⊕(Bool))=>
 y1.elim (fun y1=>some false) (fun y1=>some y1)
def wV (a0:(List Mapping)) (v3:Int):Option (Stp (Int) ((Unit)⊕(Int))):=
 cond (decide (v3 < (a0.length:Int))) ((yF a0 v3).bind fun t14=>
(zD8 t14).bind fun t16=>
 cond (!t16) (some (.done (.inr (1)))) (some (.next (wi (v3+1))))) (some (.done (.inl (()))))
def wW (a0:(List Mapping)) (v4:Int):Option (Stp (Int) ((Unit)⊕(Int))):=
 cond (decide (v4 < (a0.length:Int))) ((yF a0 v4).bind fun t26=>
 cond (decide (64 < (t26.To.length:Int))) (some (.done (.inr (2)))) (some (.next (wi (v4+1))))) (some (.done (.inl (()))))
def wX (a0:(List Mapping)) (v5:Int):Option (Stp (Int) ((Unit)⊕(Int))):=
 cond (decide (v5 < (a0.length:Int))) ((yF a0 v5).bind fun t39=>
(pv (!(t39.Tag== []))).bind fun b43=>
(gM b43 (yF a0 v5)).bind fun t46=>
(gM b43 (zFF t46.Tag)).bind fun t49=>
 cond (b43&&(!t49)) (some (.done (.inr (6)))) (some (.next (wi (v5+1))))) (some (.done (.inl (()))))
def zBV (a0:(List Mapping)):Option (Int):=
(zE (fun (x:Int)=>wV a0 x) 0).bind fun (y1:(Unit)⊕(Int))=>
 y1.elim (fun y1=>(zE (fun (x:Int)=>wW a0 x) 0).bind fun (y2:(Unit)⊕(Int))=>
 y2.elim (fun y2=>(zE (fun (x:Int)=>wX a0 x) 0).bind fun (y3:(Unit)⊕(Int))=>
 y3.elim (fun y3=>(zD9 a0).bind fun t53=>
 cond t53 (some 5) (some 0)) (fun y3=>some y3)) (fun y2=>some y2)) (fun y1=>some y1)
def zEX (a0:Mapping) (a1:Mapping):Option (Bool):=
(pv (decide (a0.From < a1.From))).bind fun b10=>
(pv (decide (a0.From=a1.From))).bind fun b16=>
 some (b10 ||(b16&&(Op.bytesLess a0.Tag a1.Tag)))
def zAQ (a0:(List Mapping)) (v4:Int):Option (Stp (Int) ((Unit)⊕(Int))):=
 cond (decide (v4 < (a0.length:Int))) ((yF a0 (wi (v4 - 1))).bind fun t19=>
(yF a0 v4).bind fun t23=>
(zEX t19 t23).bind fun t25=>
 cond (!t25) (some (.done (.inr (4)))) (some (.next (wi (v4+1))))) (some (.done (.inl (()))))
def zEA (a0:(List Mapping)):Option (Int):=
(zBV a0).bind fun t6=>
 cond (!decide (t6=0)) (some t6) ((zE (fun (x:Int)=>zAQ a0 x) 1).bind fun (y1:(Unit)⊕(Int))=>
 y1.elim (fun y1=>some 0) (fun y1=>some y1))
def k5 (a0:(List Int)) (a1:Int) (v6:Bool) (v7:Int) (r1005:(List Int)):Option (Stp (Bool×Int×(List Int)) ((Bool×(List Int)))):=
 cond (decide (v7 < (a0.length:Int))) ((pv (!v6)).bind fun b16=>
(gM b16 (yF a0 v7)).bind fun t19=>
(cond (b16&&(decide (a1≤t19))) ((yF a0 v7).bind fun t26=>
 cond (decide (a1 < t26)) ((app r1005 [a1]).bind fun r1005_3=>
 some (true,r1005_3)) (some (true,r1005))) (some (v6,r1005))).bind fun (y2:Bool×(List Int))=>
(yF a0 v7).bind fun t37=>
(app y2.2 [t37]).bind fun r1005_4=>
 some (.next (y2.1,wi (v7+1),r1005_4))) (some (.done (v6,r1005)))
def zBW (a0:(List Int)) (a1:Int):Option ((List Int)):=
(zE (fun (x:Bool×Int×(List Int))=>k5 a0 a1 x.1 x.2.1 x.2.2) (false,0,[])).bind fun (y1:Bool×(List Int))=>
(cond (!y1.1) ((app y1.2 [a1]).bind fun r1005_6=>
 some r1005_6) (some y1.2)).bind fun (y5:(List Int))=>
 some y5
def x9 (a1:Set) (v0:(List Int)) (v5:Int):Option (Stp ((List Int)×Int) (((List Int)))):=
 cond (decide (v5 < (a1.Ranges.length:Int))) (((yF a1.Ranges v5).bind fun t18=>
(yF a1.Ranges v5).bind fun t24=>
(uU t18.Lo).bind fun t28=>
(cond t28 ((zBW v0 t18.Lo).bind fun t31=>
 some t31) (some v0)).bind fun (y3:(List Int))=>
(pv (decide (0≤t24.Hi))).bind fun b34=>
 cond (b34&&(decide (t24.Hi < 1114111))) ((zBW y3 (wi (t24.Hi+1))).bind fun t41=>
 some t41) (some y3)).bind fun (y2:(List Int))=>
 some (.next (y2,wi (v5+1)))) (some (.done v0))
def zDN (a0:(List Int)) (a1:Set):Option ((List Int)):=
(zE (fun (x:(List Int)×Int)=>x9 a1 x.1 x.2) (a0,0)).bind fun (y1:(List Int))=>
(zBW y1 0).bind fun t43=>
 some t43
def zB6 (a0:Set) (a1:Int) (v5:Int):Option (Stp (Int) ((Unit)⊕(Bool))):=
 cond (decide (v5 < (a0.Ranges.length:Int))) ((uU a1).bind fun t14=>
(pv t14).bind fun b15=>
(gM b15 (yF a0.Ranges v5)).bind fun t19=>
(pv (b15&&(decide (t19.Lo≤a1)))).bind fun b25=>
(gM b25 (yF a0.Ranges v5)).bind fun t30=>
 cond (b25&&(decide (a1≤t30.Hi))) (some (.done (.inr (true)))) (some (.next (wi (v5+1))))) (some (.done (.inl (()))))
def zDO (a0:Set) (a1:Int):Option (Bool):=
(zE (fun (x:Int)=>zB6 a0 a1 x) 0).bind fun (y1:(Unit)⊕(Bool))=>
 y1.elim (fun y1=>some false) (fun y1=>some y1)
def zF4 (a0:Int) (a1:Bool) (a2:Bool):Option (Bool):=
 cond (decide (a0=1)) ((pv a1).bind fun b11=>
 some (b11 ||a2)) (cond (decide (a0=2)) ((pv a1).bind fun b17=>
 some (b17&&a2)) ((pv a1).bind fun b21=>
 some (b21&&(!a2))))
def kR (t16:(List Int)) (a0:Set) (a1:Set) (a2:Int) (v9:Bool) (v10:Int) (r4160:(List Range)):Option (Stp (Bool×Int×(List Range)) (((List Range)))):=
 cond (decide (v10 < (t16.length:Int))) ((cond (decide ((wi (v10+1)) < (t16.length:Int))) ((yF t16 (wi (v10+1))).bind fun t31=>
 some (wi (t31 - 1))) (some 1114111)).bind fun (y2:Int)=>
(yF t16 v10).bind fun t38=>
(zDO a0 t38).bind fun t40=>
(yF t16 v10).bind fun t44=>
(zDO a1 t44).bind fun t46=>
(zF4 a2 t40 t46).bind fun t47=>
(pv t47).bind fun b49=>
(cond (b49&&v9) ((yF r4160 (wi ((r4160.length:Int) - 1))).bind fun t59=>
(vZ r4160 (wi ((r4160.length:Int) - 1)) ({t59 with Hi:=y2})).bind fun r4160_4=>
 some r4160_4) (some r4160)).bind fun (y3:(List Range))=>
(pv t47).bind fun b62=>
(cond (b62&&(!v9)) ((yF t16 v10).bind fun t70=>
(app y3 [({Lo:=t70,Hi:=y2}:Range)]).bind fun r4160_6=>
 some r4160_6) (some y3)).bind fun (y5:(List Range))=>
 some (.next (t47,wi (v10+1),y5))) (some (.done r4160))
def zD0 (a0:Set) (a1:Set) (a2:Int):Option (Set):=
(zDN [] a0).bind fun t14=>
(zDN t14 a1).bind fun t16=>
(zE (fun (x:Bool×Int×(List Range))=>kR t16 a0 a1 a2 x.1 x.2.1 x.2.2) (false,0,[])).bind fun (y1:(List Range))=>
 some ({Ranges:=y1}:Set)
def zFG (a0:(List Range)):Option (Set):=
(zD0 ({Ranges:=a0}:Set) ({Ranges:=[]}:Set) 1).bind fun t6=>
 some t6
def zBD (a0:Set) (a1:Set) (v5:Int):Option (Stp (Int) ((Unit)⊕(Bool))):=
 cond (decide (v5 < (a0.Ranges.length:Int))) ((yF a0.Ranges v5).bind fun t23=>
(yF a1.Ranges v5).bind fun t28=>
 cond (!decide (t23=t28)) (some (.done (.inr (false)))) (some (.next (wi (v5+1))))) (some (.done (.inl (()))))
def zFH (a0:Set) (a1:Set):Option (Bool):=
 cond (!decide ((a0.Ranges.length:Int)=(a1.Ranges.length:Int))) (some false) ((zE (fun (x:Int)=>zBD a0 a1 x) 0).bind fun (y1:(Unit)⊕(Bool))=>
 y1.elim (fun y1=>some true) (fun y1=>some y1))
def zEB (a0:Set):Option (Bool):=
(zFG a0.Ranges).bind fun t6=>
(zFH a0 t6).bind fun t7=>
 some t7
def zBE (a0:(List Mapping)) (a1:Int) (a2:Bool) (v7:Int):Option (Stp (Int) ((Unit)⊕(Int))):=
 cond (decide (v7 < (a0.length:Int))) ((yF a0 v7).bind fun t16=>
(pv (decide (t16.From=a1))).bind fun b21=>
(pv a2).bind fun b23=>
(gM (b21&& !b23) (yF a0 v7)).bind fun t26=>
 cond (b21&&(b23 ||(t26.Tag== []))) (some (.done (.inr (v7)))) (some (.next (wi (v7+1))))) (some (.done (.inl (()))))
def zBX (a0:(List Mapping)) (a1:Int) (a2:Bool):Option (Int):=
(zE (fun (x:Int)=>zBE a0 a1 a2 x) 0).bind fun (y1:(Unit)⊕(Int))=>
 y1.elim (fun y1=>some (-1)) (fun y1=>some y1)
def zDP (a0:Int):Option (Int):=
(pv (decide (4352≤a0))).bind fun b5=>
 cond (b5&&(decide (a0≤4370))) (some 1) ((pv (decide (4449≤a0))).bind fun b11=>
 cond (b11&&(decide (a0≤4469))) (some 2) ((pv (decide (4520≤a0))).bind fun b17=>
 cond (b17&&(decide (a0≤4546))) (some 3) ((pv (decide (44032≤a0))).bind fun b23=>
 cond (b23&&(decide (a0≤55203))) ((zGR (wi (a0 - 44032)) 28).bind fun t29=>
 cond (decide (t29=0)) (some 4) (some 5)) (some 0))))
def xD (a0:(List Span)) (a1:Int) (v5:Int):Option (Stp (Int) ((Unit)⊕(Int))):=
 cond (decide (v5 < (a0.length:Int))) ((yF a0 v5).bind fun t17=>
(pv (decide (t17.Lo≤a1))).bind fun b22=>
(gM b22 (yF a0 v5)).bind fun t26=>
 cond (b22&&(decide (a1≤t26.Hi))) ((yF a0 v5).bind fun t33=>
 some (.done (.inr (t33.Value)))) (some (.next (wi (v5+1))))) (some (.done (.inl (()))))
def zBY (a0:(List Span)) (a1:Int):Option (Int):=
(zC0 a0).bind fun t7=>
 cond (!decide (t7=0)) (some 0) ((zE (fun (x:Int)=>xD a0 a1 x) 0).bind fun (y1:(Unit)⊕(Int))=>
 y1.elim (fun y1=>some 0) (fun y1=>some y1))
def wA (a0:(List Mapping)) (v5:Int) (r11:(List Bool)) (v6:Bool) (v7:Int):Option (Stp (Bool×Int) ((Bool))):=
(yF a0 v5).bind fun t27=>
 cond (decide (v7 < (t27.To.length:Int))) ((yF a0 v5).bind fun t37=>
(yF t37.To v7).bind fun t41=>
(zBX a0 t41 true).bind fun t43=>
(pv v6).bind fun b45=>
(pv (decide (t43 < 0))).bind fun b48=>
(gM (b45&& !b48) (yF r11 t43)).bind fun t51=>
 some (.next ((b45&&(b48 ||t51)),wi (v7+1)))) (some (.done v6))
def u2 (a0:(List Mapping)) (v5:Int) (r11:(List Bool)):Option (Stp (Int×(List Bool)) (((List Bool)))):=
 cond (decide (v5 < (a0.length:Int))) ((zE (fun (x:Bool×Int)=>wA a0 v5 r11 x.1 x.2) (true,0)).bind fun (y3:Bool)=>
(yF r11 v5).bind fun t58=>
(vZ r11 v5 y3).bind fun r11_4=>
 some (.next (wi (v5+1),r11_4))) (some (.done r11))
def u3 (a0:(List Mapping)) (v4:Int) (r11:(List Bool)):Option (Stp (Int×(List Bool)) (((List Bool)))):=
 cond (decide (v4 < (a0.length:Int))) ((zE (fun (x:Int×(List Bool))=>u2 a0 x.1 x.2) (0,r11)).bind fun (y2:(List Bool))=>
 some (.next (wi (v4+1),y2))) (some (.done r11))
def zFI (a0:(List Mapping)):Option ((List Bool)):=
(mkM false (a0.length:Int)).bind fun r11=>
(zE (fun (x:Int×(List Bool))=>u3 a0 x.1 x.2) (0,r11)).bind fun (y1:(List Bool))=>
 some y1
def uK (a0:Int):Option ((List Int)):=
(zDP a0).bind fun t6=>
 cond (decide (t6 < 4)) (some [a0]) ((zJ0 wi (wi (a0 - 44032)) 28).bind fun t13=>
(zJ0 wi t13 21).bind fun t14=>
(zJ0 wi (wi (a0 - 44032)) 28).bind fun t17=>
(zGR t17 21).bind fun t18=>
(zGR (wi (a0 - 44032)) 28).bind fun t22=>
(cond (decide (0 < t22)) ((zGR (wi (a0 - 44032)) 28).bind fun t26=>
(app [wi (4352+t14),wi (4449+t18)] [wi ((wi (4520+t26)) - 1)]).bind fun r20_2=>
 some r20_2) (some [wi (4352+t14),wi (4449+t18)])).bind fun (y1:(List Int))=>
 some y1)
def jT (a0:(List Mapping)) (v7:Int) (a1:Bool) (r13:(List Int)) (v8:Int) (v9:Int):Option (Stp (Int×Int) ((Int))):=
(yF a0 v7).bind fun t29=>
 cond (decide (v9 < (t29.To.length:Int))) (((yF a0 v7).bind fun t39=>
(yF t39.To v9).bind fun t43=>
(zBX a0 t43 a1).bind fun t46=>
 cond (decide (0≤t46)) ((yF r13 t46).bind fun t52=>
 some (wi (v8+t52))) ((yF a0 v7).bind fun t58=>
(yF t58.To v9).bind fun t62=>
(uK t62).bind fun t64=>
 some (wi (v8+(t64.length:Int))))).bind fun (y5:Int)=>
 some (.next (y5,wi (v9+1)))) (some (.done v8))
def xW (a0:(List Mapping)) (a1:Bool) (v7:Int) (r13:(List Int)):Option (Stp (Int×(List Int)) (((List Int)))):=
 cond (decide (v7 < (a0.length:Int))) (((zE (fun (x:Int×Int)=>jT a0 v7 a1 r13 x.1 x.2) (0,0)).bind fun (y4:Int)=>
(yF r13 v7).bind fun t72=>
(vZ r13 v7 (min (max y4 1) 65)).bind fun r13_6=>
(yF a0 v7).bind fun t75=>
(pv (!(t75.Tag== []))).bind fun b79=>
 cond (b79&&(!a1)) ((yF r13_6 v7).bind fun t85=>
(vZ r13_6 v7 1).bind fun r13_7=>
 some r13_7) (some r13_6)).bind fun (y3:(List Int))=>
 some (.next (wi (v7+1),y3))) (some (.done r13))
def xX (a0:(List Mapping)) (a1:Bool) (v6:Int) (r13:(List Int)):Option (Stp (Int×(List Int)) (((List Int)))):=
 cond (decide (v6 < (a0.length:Int))) ((zE (fun (x:Int×(List Int))=>xW a0 a1 x.1 x.2) (0,r13)).bind fun (y2:(List Int))=>
 some (.next (wi (v6+1),y2))) (some (.done r13))
def zBF (a0:(List Mapping)) (a1:Bool):Option ((List Int)):=
(mkM 0 (a0.length:Int)).bind fun r13=>
(zE (fun (x:Int×(List Int))=>xX a0 a1 x.1 x.2) (0,r13)).bind fun (y1:(List Int))=>
 some y1
def zAR (a0:Norm) (v6:Int):Option (Stp (Int) ((Unit)⊕(Int))):=
 cond (decide (v6 < (a0.Decomp.length:Int))) ((yF a0.Decomp v6).bind fun t41=>
(zBX a0.Decomp t41.From true).bind fun t44=>
 cond (decide (t44 < v6)) (some (.done (.inr (5)))) (some (.next (wi (v6+1))))) (some (.done (.inl (()))))
def zAS (a0:Norm) (v7:Int):Option (Stp (Int) ((Unit)⊕(Int))):=
 cond (decide (v7 < (a0.Decomp.length:Int))) ((yF a0.Decomp v7).bind fun t55=>
(pv (t55.Tag== [])).bind fun b59=>
(gM b59 (yF a0.Decomp v7)).bind fun t62=>
(pv (b59&&(!decide ((t62.To.length:Int)=1)))).bind fun b68=>
(gM b68 (yF a0.Decomp v7)).bind fun t71=>
 cond (b68&&(!decide ((t71.To.length:Int)=2))) (some (.done (.inr (8)))) (some (.next (wi (v7+1))))) (some (.done (.inl (()))))
def zAT (a0:Norm) (v8:Int):Option (Stp (Int) ((Unit)⊕(Int))):=
 cond (decide (v8 < (a0.Decomp.length:Int))) ((yF a0.Decomp v8).bind fun t85=>
(zDP t85.From).bind fun t88=>
(pv (!decide (t88=0))).bind fun b90=>
(gM (!b90) (yF a0.Decomp v8)).bind fun t93=>
(pv (!(t93.Tag== []))).bind fun b97=>
(gM (!b90&&b97) (yF a0.Decomp v8)).bind fun t102=>
(gM (!b90&&b97) (zBY a0.Classes t102.From)).bind fun t105=>
 cond (b90 ||(b97&&(!decide (t105=0)))) (some (.done (.inr (11)))) (some (.next (wi (v8+1))))) (some (.done (.inl (()))))
def zAU (a0:Norm) (t110:(List Bool)) (v10:Int):Option (Stp (Int) ((Unit)⊕(Int))):=
 cond (decide (v10 < (a0.Decomp.length:Int))) ((yF t110 v10).bind fun t119=>
 cond (!t119) (some (.done (.inr (12)))) (some (.next (wi (v10+1))))) (some (.done (.inl (()))))
def zAV (a0:Norm) (t123:(List Int)) (t125:(List Int)) (v13:Int):Option (Stp (Int) ((Unit)⊕(Int))):=
 cond (decide (v13 < (a0.Decomp.length:Int))) ((yF t123 v13).bind fun t134=>
(pv (decide (64 < t134))).bind fun b137=>
(gM (!b137) (yF t125 v13)).bind fun t140=>
 cond (b137 ||(decide (64 < t140))) (some (.done (.inr (13)))) (some (.next (wi (v13+1))))) (some (.done (.inl (()))))
def zEC (a0:Norm):Option (Int):=
(zC0 a0.Classes).bind fun t16=>
 cond (!decide (t16=0)) (some t16) ((zEA a0.Decomp).bind fun t22=>
 cond (!decide (t22=0)) (some t22) ((zEB a0.Excluded).bind fun t28=>
 cond (!t28) (some 11) ((zE (fun (x:Int)=>zAR a0 x) 0).bind fun (y1:(Unit)⊕(Int))=>
 y1.elim (fun y1=>(zE (fun (x:Int)=>zAS a0 x) 0).bind fun (y2:(Unit)⊕(Int))=>
 y2.elim (fun y2=>(zE (fun (x:Int)=>zAT a0 x) 0).bind fun (y3:(Unit)⊕(Int))=>
 y3.elim (fun y3=>(zFI a0.Decomp).bind fun t110=>
(zE (fun (x:Int)=>zAU a0 t110 x) 0).bind fun (y4:(Unit)⊕(Int))=>
 y4.elim (fun y4=>(zBF a0.Decomp false).bind fun t123=>
(zBF a0.Decomp true).bind fun t125=>
(zE (fun (x:Int)=>zAV a0 t123 t125 x) 0).bind fun (y5:(Unit)⊕(Int))=>
 y5.elim (fun y5=>some 0) (fun y5=>some y5)) (fun y4=>some y4)) (fun y3=>some y3)) (fun y2=>some y2)) (fun y1=>some y1))))
def zFJ (a0:Norm):Option (Norm):=
(zEC a0).bind fun t4=>
 cond (!decide (t4=0)) (some ({Classes:=({Classes:=[],Decomp:=[],Excluded:=(({Ranges:=[]}):Set)}:Norm).Classes,Decomp:=({Classes:=[],Decomp:=[],Excluded:=(({Ranges:=[]}):Set)}:Norm).Decomp,Excluded:=({Ranges:=(({Classes:=[],Decomp:=[],Excluded:=(({Ranges:=[]}):Set)}:Norm).Excluded).Ranges}:Set)}:Norm)) (some a0)
def kY (a2:(List Int)) (a0:(List Mapping)) (a3:Bool) (a1:(List (List Int))) (v10:Int) (r1009:(List Int)):Option (Stp (Int×(List Int)) (((List Int)))):=
 cond (decide (v10 < (a2.length:Int))) (((yF a2 v10).bind fun t21=>
(zBX a0 t21 a3).bind fun t24=>
 cond (decide (0≤t24)) ((yF a1 t24).bind fun t30=>
(app r1009 t30).bind fun r1009_3=>
 some r1009_3) ((yF a2 v10).bind fun t36=>
(uK t36).bind fun t38=>
(app r1009 t38).bind fun r1009_4=>
 some r1009_4)).bind fun (y2:(List Int))=>
 some (.next (wi (v10+1),y2))) (some (.done r1009))
def wK (a0:(List Mapping)) (a1:(List (List Int))) (a2:(List Int)) (a3:Bool):Option ((List Int)):=
(zE (fun (x:Int×(List Int))=>kY a2 a0 a3 a1 x.1 x.2) (0,[])).bind fun (y1:(List Int))=>
 some y1
def vV (a0:(List Mapping)) (a1:Bool) (v7:Int) (r10:(List (List Int))):Option (Stp (Int×(List (List Int))) (((List (List Int))))):=
 cond (decide (v7 < (a0.length:Int))) (((pv a1).bind fun b24=>
(gM (!b24) (yF a0 v7)).bind fun t27=>
 cond (b24 ||(t27.Tag== [])) ((yF a0 v7).bind fun t38=>
(wK a0 r10 t38.To a1).bind fun t42=>
(yF r10 v7).bind fun t43=>
(vZ r10 v7 t42).bind fun r10_4=>
 some r10_4) (some r10)).bind fun (y3:(List (List Int)))=>
 some (.next (wi (v7+1),y3))) (some (.done r10))
def vW (a0:(List Mapping)) (a1:Bool) (v6:Int) (r10:(List (List Int))):Option (Stp (Int×(List (List Int))) (((List (List Int))))):=
 cond (decide (v6 < (a0.length:Int))) ((zE (fun (x:Int×(List (List Int)))=>vV a0 a1 x.1 x.2) (0,r10)).bind fun (y2:(List (List Int)))=>
 some (.next (wi (v6+1),y2))) (some (.done r10))
def zED (a0:(List Mapping)) (a1:Bool):Option ((List (List Int))):=
(mkM [] (a0.length:Int)).bind fun r10=>
(zE (fun (x:Int×(List (List Int)))=>vW a0 a1 x.1 x.2) (0,r10)).bind fun (y1:(List (List Int)))=>
 some y1
def zFK (a0:Norm) (a1:(List Int)) (a2:Bool):Option ((List Int)):=
(zED a0.Decomp a2).bind fun t12=>
(wK a0.Decomp t12 a1 a2).bind fun t15=>
 some t15
def vD (t27:Int) (a0:(List Span)) (a1:(List Int)) (v6:Int) (v8:Int) (r1005:(List Int)):Option (Stp (Int×(List Int)) (((List Int)))):=
(pv (decide (0 < v8))).bind fun b33=>
(pv (b33&&(decide (0 < t27)))).bind fun b37=>
(gM b37 (yF r1005 (wi (v8 - 1)))).bind fun t42=>
(gM b37 (zBY a0 t42)).bind fun t44=>
 cond (b37&&(decide (t27 < t44))) ((yF r1005 (wi (v8 - 1))).bind fun t55=>
(yF r1005 v8).bind fun t57=>
(vZ r1005 v8 t55).bind fun r1005_4=>
(yF a1 v6).bind fun t63=>
(yF r1005_4 (wi (v8 - 1))).bind fun t65=>
(vZ r1005_4 (wi (v8 - 1)) t63).bind fun r1005_5=>
 some (.next (wi (v8 - 1),r1005_5))) (some (.done r1005))
def wB (a1:(List Int)) (a0:(List Span)) (v6:Int) (r1005:(List Int)):Option (Stp (Int×(List Int)) (((List Int)))):=
 cond (decide (v6 < (a1.length:Int))) ((yF a1 v6).bind fun t18=>
(app r1005 [t18]).bind fun r1005_2=>
(yF a1 v6).bind fun t25=>
(zBY a0 t25).bind fun t27=>
(zE (fun (x:Int×(List Int))=>vD t27 a0 a1 v6 x.1 x.2) (wi ((r1005_2.length:Int) - 1),r1005_2)).bind fun (y3:(List Int))=>
 some (.next (wi (v6+1),y3))) (some (.done r1005))
def zDQ (a0:(List Span)) (a1:(List Int)):Option ((List Int)):=
(zE (fun (x:Int×(List Int))=>wB a1 a0 x.1 x.2) (0,[])).bind fun (y1:(List Int))=>
 some y1
def zFL (a0:Norm) (a1:(List Int)) (a2:Bool):Option ((List Int)):=
(zFJ a0).bind fun t9=>
(zFK t9 a1 a2).bind fun t15=>
(zDQ t9.Classes t15).bind fun t16=>
 some t16
def wL (a0:Norm) (v3:Int):Option (Stp (Int) ((Unit)⊕(Bool))):=
 cond (decide (v3 < (a0.Decomp.length:Int))) ((yF a0.Decomp v3).bind fun t31=>
(pv (decide (70 < (t31.To.length:Int)))).bind fun b36=>
(gM (!b36) (yF a0.Decomp v3)).bind fun t40=>
 cond (b36 ||(decide (40 < (t40.Tag.length:Int)))) (some (.done (.inr (false)))) (some (.next (wi (v3+1))))) (some (.done (.inl (()))))
def zEE (a0:Norm):Option (Bool):=
(pv (decide (40 < (a0.Classes.length:Int)))).bind fun b8=>
(pv (b8 ||(decide (40 < (a0.Decomp.length:Int))))).bind fun b14=>
 cond (b14 ||(decide (12 < (a0.Excluded.Ranges.length:Int)))) (some false) ((zE (fun (x:Int)=>wL a0 x) 0).bind fun (y1:(Unit)⊕(Bool))=>
 y1.elim (fun y1=>some true) (fun y1=>some y1))
def w9 (a0:(List Element)):Option (Bool):=
 some (decide ((a0.length:Int)≤16))
def uV (a0:Collation) (v3:Int):Option (Stp (Int) ((Unit)⊕(Bool))):=
 cond (decide (v3 < (a0.Entries.length:Int))) ((yF a0.Entries v3).bind fun t25=>
(pv (decide (16 < (t25.Codes.length:Int)))).bind fun b30=>
(gM (!b30) (yF a0.Entries v3)).bind fun t34=>
(gM (!b30) (w9 t34.Elements)).bind fun t37=>
 cond (b30 ||(!t37)) (some (.done (.inr (false)))) (some (.next (wi (v3+1))))) (some (.done (.inl (()))))
def zA0 (a0:Collation) (v4:Int):Option (Stp (Int) ((Unit)⊕(Bool))):=
 cond (decide (v4 < (a0.Groups.length:Int))) ((yF a0.Groups v4).bind fun t50=>
 cond (decide (40 < (t50.Name.length:Int))) (some (.done (.inr (false)))) (some (.next (wi (v4+1))))) (some (.done (.inl (()))))
def zGT (a0:Collation):Option (Bool):=
(pv (decide (12 < (a0.Entries.length:Int)))).bind fun b9=>
 cond (b9 ||(decide (8 < (a0.Groups.length:Int)))) (some false) ((zE (fun (x:Int)=>uV a0 x) 0).bind fun (y1:(Unit)⊕(Bool))=>
 y1.elim (fun y1=>(zE (fun (x:Int)=>zA0 a0 x) 0).bind fun (y2:(Unit)⊕(Bool))=>
 y2.elim (fun y2=>some true) (fun y2=>some y2)) (fun y1=>some y1))
def zEF (a0:Unicodetextlaw44_Data):Option (Bool):=
(zEE a0.Norm).bind fun t5=>
(pv t5).bind fun b6=>
(gM b6 (zGT a0.Collation)).bind fun t9=>
 some (b6&&t9)
def zB7 (a0:(List Int)) (v9:Int) (r1003:(List Int)):Option (Stp (Int×(List Int)) (((List Int)))):=
 cond (decide (v9 < (a0.length:Int))) ((yF a0 v9).bind fun t11=>
(app r1003 [(IntKind.u8.wrap) (((IntKind.u32.wrap) t11) / 2 ^ 24),(IntKind.u8.wrap) (((IntKind.u32.wrap) t11) / 2 ^ 16),(IntKind.u8.wrap) (((IntKind.u32.wrap) t11) / 2 ^ 8),(IntKind.u8.wrap) ((IntKind.u32.wrap) t11)]).bind fun r1003_2=>
 some (.next (wi (v9+1),r1003_2))) (some (.done r1003))
def zCP (a0:(List Int)):Option (Str):=
(zE (fun (x:Int×(List Int))=>zB7 a0 x.1 x.2) (0,[])).bind fun (y1:(List Int))=>
 some (yE1 y1)
def zBZ:Option (Bool):=
(uJ [({Primary:=16,Secondary:=32,Tertiary:=2,Variable:=false}:Element),({Primary:=17,Secondary:=32,Tertiary:=2,Variable:=false}:Element)] ({Strength:=2,Variable:=1,Backward:=false,Identical:=false}:Options)).bind fun t10=>
(slc [({Primary:=16,Secondary:=32,Tertiary:=2,Variable:=false}:Element),({Primary:=17,Secondary:=32,Tertiary:=2,Variable:=false}:Element)] 0 1).bind fun t13=>
(slc [({Primary:=16,Secondary:=32,Tertiary:=2,Variable:=false}:Element),({Primary:=17,Secondary:=32,Tertiary:=2,Variable:=false}:Element)] 1 ([({Primary:=16,Secondary:=32,Tertiary:=2,Variable:=false}:Element),({Primary:=17,Secondary:=32,Tertiary:=2,Variable:=false}:Element)].length)).bind fun t17=>
(uT ({Classes:=[],Decomp:=[],Excluded:=(({Ranges:=[]}):Set)}:Norm) ({Entries:=[({Codes:=[97],Elements:=t13}:Entry),({Codes:=[98],Elements:=t17}:Entry)],Groups:=[],Base:=100,Second:=32,Third:=2}:Collation) ({Strength:=2,Variable:=1,Backward:=false,Identical:=false}:Options) [97,98]).bind fun t25=>
(pv (decide ((t10.length:Int)=2))).bind fun b29=>
(gM b29 (zBU t25 [16,17,0,32,32])).bind fun t32=>
(pv (b29&&t32)).bind fun b34=>
(gM b34 (zCP [258])).bind fun t36=>
(pv (b34&&(t36== [0,0,1,2]))).bind fun b39=>
(gM b39 (xY ({Strength:=0,Variable:=0,Backward:=false,Identical:=false}:Options))).bind fun t41=>
(pv (b39&&(decide (t41=1)))).bind fun b44=>
(gM b44 (xY ({Strength:=1,Variable:=0,Backward:=false,Identical:=false}:Options))).bind fun t46=>
 some (b44&&(decide (t46=8)))
def wY (a0:Unicodetextlaw44_Data) (a1:(List Int)):Option (Bool):=
(zEF a0).bind fun t7=>
(pv (!t7)).bind fun b9=>
 cond (b9 ||(decide (12 < (a1.length:Int)))) ((zBZ).bind fun t14=>
 some t14) ((zFL a0.Norm a1 false).bind fun t18=>
 cond (decide (200 < (t18.length:Int))) ((zBZ).bind fun t22=>
 some t22) ((uT a0.Norm a0.Collation a0.Options a1).bind fun t30=>
(uT a0.Norm a0.Collation a0.Options t18).bind fun t38=>
(zBU t30 t38).bind fun t39=>
(pv t39).bind fun b40=>
(gM b40 (zBZ)).bind fun t41=>
 some (b40&&t41)))
end
end Go.M


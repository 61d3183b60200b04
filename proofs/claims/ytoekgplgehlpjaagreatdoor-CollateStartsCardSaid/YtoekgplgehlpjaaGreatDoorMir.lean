/- Plain counterparts of the program's functions, printed from its form. Conditions: none. -/
import Derived.Test.YtoekgplgehlpjaaGreatDoorLa3
set_option linter.unusedSimpArgs false
set_option linter.unusedVariables false
set_option linter.unnecessarySimpa false
namespace Go.M
structure A3Int where
 x0:Int
 x1:Int
 x2:Int
 deriving DecidableEq,Inhabited
structure A3ListInt where
 x0:(List Int)
 x1:(List Int)
 x2:(List Int)
 deriving DecidableEq,Inhabited
structure A4Int where
 x0:Int
 x1:Int
 x2:Int
 x3:Int
 deriving DecidableEq,Inhabited
structure A4ListInt where
 x0:(List Int)
 x1:(List Int)
 x2:(List Int)
 x3:(List Int)
 deriving DecidableEq,Inhabited
structure Range where
 Lo:Int
 Hi:Int
 deriving DecidableEq,Inhabited
structure A4Range where
 x0:Range
 x1:Range
 x2:Range
 x3:Range
 deriving DecidableEq,Inhabited
structure A9Int where
 x0:Int
 x1:Int
 x2:Int
 x3:Int
 x4:Int
 x5:Int
 x6:Int
 x7:Int
 x8:Int
 deriving DecidableEq,Inhabited
structure Element where
 Primary:Int
 Secondary:Int
 Tertiary:Int
 Variable:Bool
 deriving DecidableEq,Inhabited
structure Entry where
 Codes:(List Int)
 Elements:(List Element)
 deriving DecidableEq,Inhabited
structure Group where
 Name:Str
 Lo:Int
 Hi:Int
 deriving DecidableEq,Inhabited
structure Collation where
 Entries:(List Entry)
 Groups:(List Group)
 Base:Int
 Second:Int
 Third:Int
 deriving DecidableEq,Inhabited
structure Span where
 Lo:Int
 Hi:Int
 Value:Int
 deriving DecidableEq,Inhabited
structure Colltable_table where
 c:Collation
 entries:(List (A9Int×(List Element)))
 longest:Int
 classes:(List Span)
 top:Int
 deriving DecidableEq,Inhabited
structure Mapping where
 From:Int
 To:(List Int)
 Tag:Str
 deriving DecidableEq,Inhabited
structure Mapping_key where
 from_:Int
 tag:Str
 deriving DecidableEq,Inhabited
structure Set where
 Ranges:(List Range)
 deriving DecidableEq,Inhabited
structure Norm where
 Classes:(List Span)
 Decomp:(List Mapping)
 Excluded:Set
 deriving DecidableEq,Inhabited
structure Options where
 Strength:Int
 Variable:Int
 Backward:Bool
 Identical:Bool
 deriving DecidableEq,Inhabited
structure Unicodetextlaw45_Setting where
 Norm:Norm
 Collation:Collation
 Options:Options
 deriving DecidableEq,Inhabited
structure Unicodetextlaw43_Case where
 N:Norm
 C:Collation
 Text:(List Int)
 deriving DecidableEq,Inhabited
structure Unicodetextlaw44_Data where
 Norm:Norm
 Collation:Collation
 Options:Options
 deriving DecidableEq,Inhabited
structure Unicodetextlaw44_Pair where
 A:(List Int)
 B:(List Int)
 Low:Int
 High:Int
 deriving DecidableEq,Inhabited
def zSA (x:Range):Prop:=(-9223372036854775808≤x.Lo∧x.Lo≤9223372036854775807)∧(-9223372036854775808≤x.Hi∧x.Hi≤9223372036854775807)
def zM6 (x:Element):Prop:=(-9223372036854775808≤x.Primary∧x.Primary≤9223372036854775807)∧(-9223372036854775808≤x.Secondary∧x.Secondary≤9223372036854775807)∧(-9223372036854775808≤x.Tertiary∧x.Tertiary≤9223372036854775807)∧True
def zSB (x:Entry):Prop:=(x.Codes.length≤9223372036854775807∧∀y0∈x.Codes,(-9223372036854775808≤y0∧y0≤9223372036854775807))∧(x.Elements.length≤9223372036854775807∧∀y0∈x.Elements,(zM6 y0))
def zSC (x:Group):Prop:=(x.Name.length≤9223372036854775807)∧(-9223372036854775808≤x.Lo∧x.Lo≤9223372036854775807)∧(-9223372036854775808≤x.Hi∧x.Hi≤9223372036854775807)
def zGX (x:Collation):Prop:=(x.Entries.length≤9223372036854775807∧∀y0∈x.Entries,(zSB y0))∧(x.Groups.length≤9223372036854775807∧∀y0∈x.Groups,(zSC y0))∧(-9223372036854775808≤x.Base∧x.Base≤9223372036854775807)∧(-9223372036854775808≤x.Second∧x.Second≤9223372036854775807)∧(-9223372036854775808≤x.Third∧x.Third≤9223372036854775807)
def okSpan (x:Span):Prop:=(-9223372036854775808≤x.Lo∧x.Lo≤9223372036854775807)∧(-9223372036854775808≤x.Hi∧x.Hi≤9223372036854775807)∧(-9223372036854775808≤x.Value∧x.Value≤9223372036854775807)
def zM7 (x:Mapping):Prop:=(-9223372036854775808≤x.From∧x.From≤9223372036854775807)∧(x.To.length≤9223372036854775807∧∀y0∈x.To,(-9223372036854775808≤y0∧y0≤9223372036854775807))∧(x.Tag.length≤9223372036854775807)
def z04 (x:Set):Prop:=(x.Ranges.length≤9223372036854775807∧∀y0∈x.Ranges,(zSA y0))
def vZ (x:Norm):Prop:=(x.Classes.length≤9223372036854775807∧∀y0∈x.Classes,(okSpan y0))∧(x.Decomp.length≤9223372036854775807∧∀y0∈x.Decomp,(zM7 y0))∧(z04 x.Excluded)
def zM8 (x:Options):Prop:=(-9223372036854775808≤x.Strength∧x.Strength≤9223372036854775807)∧(-9223372036854775808≤x.Variable∧x.Variable≤9223372036854775807)∧True∧True
def jL (x:Unicodetextlaw45_Setting):Prop:=(vZ x.Norm)∧(zGX x.Collation)∧(zM8 x.Options)
end Go.M
namespace Go.AV
open Go.M
def zFX (x:A9Int):Value:= .agg #[.int IntKind.i64 x.x0,.int IntKind.i64 x.x1,.int IntKind.i64 x.x2,.int IntKind.i64 x.x3,.int IntKind.i64 x.x4,.int IntKind.i64 x.x5,.int IntKind.i64 x.x6,.int IntKind.i64 x.x7,.int IntKind.i64 x.x8]
def zHY (x:Mapping_key):Value:= .agg #[.int IntKind.i64 x.from_,.string ⟨x.tag.toArray⟩]
def eA3Int:En A3Int:=⟨fun x=> .agg [(di x.x0),(di x.x1),(di x.x2)],3,fun _=>rfl⟩
def eA4Int:En A4Int:=⟨fun x=> .agg [(di x.x0),(di x.x1),(di x.x2),(di x.x3)],4,fun _=>rfl⟩
def eRange:En Range:=⟨fun x=> .agg [(di x.Lo),(di x.Hi)],2,fun _=>rfl⟩
def eA4Range:En A4Range:=⟨fun x=> .agg [(di x.x0.Lo),(di x.x0.Hi),(di x.x1.Lo),(di x.x1.Hi),(di x.x2.Lo),(di x.x2.Hi),(di x.x3.Lo),(di x.x3.Hi)],8,fun _=>rfl⟩
def eA9Int:En A9Int:=⟨fun x=> .agg [(di x.x0),(di x.x1),(di x.x2),(di x.x3),(di x.x4),(di x.x5),(di x.x6),(di x.x7),(di x.x8)],9,fun _=>rfl⟩
def eElement:En Element:=⟨fun x=> .agg [(di x.Primary),(di x.Secondary),(di x.Tertiary),(db x.Variable)],4,fun _=>rfl⟩
def eEntry:En Entry:=⟨fun x=> .agg [(zP eI x.Codes),(zP eElement x.Elements)],2,fun _=>rfl⟩
def eGroup:En Group:=⟨fun x=> .agg [(ds x.Name),(di x.Lo),(di x.Hi)],3,fun _=>rfl⟩
def eCollation:En Collation:=⟨fun x=> .agg [(zP eEntry x.Entries),(zP eGroup x.Groups),(di x.Base),(di x.Second),(di x.Third)],5,fun _=>rfl⟩
def eSpan:En Span:=⟨fun x=> .agg [(di x.Lo),(di x.Hi),(di x.Value)],3,fun _=>rfl⟩
def eColltable_table:En Colltable_table:=⟨fun x=> .agg [(zP eEntry x.c.Entries),(zP eGroup x.c.Groups),(di x.c.Base),(di x.c.Second),(di x.c.Third),(mpD zFX (eL eElement) x.entries),(di x.longest),(zP eSpan x.classes),(di x.top)],9,fun _=>rfl⟩
def eMapping:En Mapping:=⟨fun x=> .agg [(di x.From),(zP eI x.To),(ds x.Tag)],3,fun _=>rfl⟩
def eMapping_key:En Mapping_key:=⟨fun x=> .agg [(di x.from_),(ds x.tag)],2,fun _=>rfl⟩
def eSet:En Set:=⟨fun x=> .agg [(zP eRange x.Ranges)],1,fun _=>rfl⟩
def eNorm:En Norm:=⟨fun x=> .agg [(zP eSpan x.Classes),(zP eMapping x.Decomp),(zP eRange x.Excluded.Ranges)],3,fun _=>rfl⟩
def eOptions:En Options:=⟨fun x=> .agg [(di x.Strength),(di x.Variable),(db x.Backward),(db x.Identical)],4,fun _=>rfl⟩
def eUnicodetextlaw45_Setting:En Unicodetextlaw45_Setting:=⟨fun x=> .agg [(zP eSpan x.Norm.Classes),(zP eMapping x.Norm.Decomp),(zP eRange x.Norm.Excluded.Ranges),(zP eEntry x.Collation.Entries),(zP eGroup x.Collation.Groups),(di x.Collation.Base),(di x.Collation.Second),(di x.Collation.Third),(di x.Options.Strength),(di x.Options.Variable),(db x.Options.Backward),(db x.Options.Identical)],12,fun _=>rfl⟩
end Go.AV
namespace Go.M
open Go.AV
noncomputable section
def zJ9 (a0:(List Int)) (a1:Int):Option (Bool):=
 some (decide ((a0.length:Int)≤a1))
def zJD (a0:(List Span)):Option (Bool):=
 some (decide ((a0.length:Int)≤16))
def zBY (a0:(List Mapping)) (v3:Int):Option (Stp (Int) ((Unit)⊕(Bool))):=
(pv (decide (v3 < (a0.length:Int)))).bind fun b8=>
 cond (b8&&(decide (v3 < 30))) ((z7 a0 v3).bind fun t16=>
(pv (decide (65 < (t16.To.length:Int)))).bind fun b21=>
(gM (!b21) (z7 a0 v3)).bind fun t24=>
 cond (b21 ||(decide (40 < (t24.Tag.length:Int)))) (some (.done (.inr (false)))) (some (.next (wi (v3+1))))) (some (.done (.inl (()))))
def zGY (a0:(List Mapping)):Option (Bool):=
(zE (fun (x:Int)=>zBY a0 x) 0).bind fun (y1:(Unit)⊕(Bool))=>
 y1.elim (fun y1=>some (decide ((a0.length:Int)≤20))) (fun y1=>some y1)
def zJE (a0:Set):Option (Bool):=
 some (decide ((a0.Ranges.length:Int)≤12))
def zGZ (a0:Norm):Option (Bool):=
(zJD a0.Classes).bind fun t5=>
(pv t5).bind fun b6=>
(gM b6 (zGY a0.Decomp)).bind fun t9=>
(pv (b6&&t9)).bind fun b11=>
(gM b11 (zJE a0.Excluded)).bind fun t14=>
 some (b11&&t14)
def zBZ (a0:Collation) (v3:Int):Option (Stp (Int) ((Unit)⊕(Bool))):=
 cond (decide (v3 < (a0.Entries.length:Int))) ((z7 a0.Entries v3).bind fun t24=>
(pv (decide (10 < (t24.Codes.length:Int)))).bind fun b29=>
(gM (!b29) (z7 a0.Entries v3)).bind fun t33=>
 cond (b29 ||(decide (20 < (t33.Elements.length:Int)))) (some (.done (.inr (false)))) (some (.next (wi (v3+1))))) (some (.done (.inl (()))))
def zG0 (a0:Collation):Option (Bool):=
(pv (decide (12 < (a0.Entries.length:Int)))).bind fun b8=>
 cond (b8 ||(decide (8 < (a0.Groups.length:Int)))) (some false) ((zE (fun (x:Int)=>zBZ a0 x) 0).bind fun (y1:(Unit)⊕(Bool))=>
 y1.elim (fun y1=>some true) (fun y1=>some y1))
def zCR (a2:(List (List Int))) (a1:Int) (v11:Int):Option (Stp (Int) ((Unit)⊕(Bool))):=
 cond (decide (v11 < (a2.length:Int))) ((z7 a2 v11).bind fun t13=>
(zJ9 t13 a1).bind fun t17=>
 cond (!t17) (some (.done (.inr (false)))) (some (.next (wi (v11+1))))) (some (.done (.inl (()))))
def zE3 (a0:Unicodetextlaw45_Setting) (a1:Int) (a2:(List (List Int))):Option (Bool):=
(zE (fun (x:Int)=>zCR a2 a1 x) 0).bind fun (y1:(Unit)⊕(Bool))=>
 y1.elim (fun y1=>(zGZ a0.Norm).bind fun t22=>
(pv t22).bind fun b23=>
(gM b23 (zG0 a0.Collation)).bind fun t26=>
 some (b23&&t26)) (fun y1=>some y1)
def zJW:Option (Collation):=
 some ({Entries:=[({Codes:=[65],Elements:=[({Primary:=5,Secondary:=32,Tertiary:=8,Variable:=false}:Element)]}:Entry),({Codes:=[97],Elements:=[({Primary:=5,Secondary:=32,Tertiary:=2,Variable:=false}:Element)]}:Entry)],Groups:=[],Base:=64448,Second:=32,Third:=2}:Collation)
def zEI (a0:Options):Option (Int):=
(pv (decide (a0.Strength < 1))).bind fun b6=>
 cond (b6 ||(decide (4 < a0.Strength))) (some 1) ((cond (decide (a0.Variable=1)) (some (decide (a0.Variable=1))) (cond (decide (a0.Variable=2)) (some (decide (a0.Variable=2))) (some (decide (a0.Variable=3))))).bind fun (y1:Bool)=>
 cond y1 (some 0) (some 8))
def uJ (a0:Options):Option (Options):=
(zEI a0).bind fun t4=>
 cond (!decide (t4=0)) (some ({Strength:=3,Variable:=1,Backward:=false,Identical:=false}:Options)) (some a0)
def zAM (a0:Int):Option (Bool):=
(pv (decide (1≤a0))).bind fun b5=>
 some (b5&&(decide (a0≤65535)))
def xM (a0:Str) (v7:Int):Option (Stp (Int) ((Unit)⊕(Bool))):=
 cond (decide (v7 < (a0.length:Int))) ((z0D a0 v7).bind fun t12=>
(pv (decide (65≤t12))).bind fun b15=>
(pv (b15&&(decide (t12≤90)))).bind fun b19=>
(pv (decide (97≤t12))).bind fun b22=>
(pv (b19 ||(b22&&(decide (t12≤122))))).bind fun b27=>
(pv (decide (48≤t12))).bind fun b30=>
(pv (b27 ||(b30&&(decide (t12≤57))))).bind fun b35=>
 cond (!(b35 ||(decide (t12=95)))) (some (.done (.inr (false)))) (some (.next (wi (v7+1))))) (some (.done (.inl (()))))
def zB0 (a0:Str):Option (Bool):=
(zE (fun (x:Int)=>xM a0 x) 0).bind fun (y1:(Unit)⊕(Bool))=>
 y1.elim (fun y1=>(pv (!(a0== []))).bind fun b43=>
 some (b43&&(decide ((a0.length:Int)≤32)))) (fun y1=>some y1)
def jW (a0:Collation) (v15:Int):Option (Stp (Int) ((Unit)⊕(Int))):=
 cond (decide (v15 < (a0.Groups.length:Int))) ((z7 a0.Groups v15).bind fun t17=>
(zB0 t17.Name).bind fun t21=>
 cond (!t21) (some (.done (.inr (6)))) (some (.next (wi (v15+1))))) (some (.done (.inl (()))))
def jI (a0:Collation) (v28:Int) (r24:(List (Str×Bool))):Option (Stp (Int×(List (Str×Bool))) ((Unit)⊕(Int))):=
 cond (decide (v28 < (a0.Groups.length:Int))) ((z7 a0.Groups v28).bind fun t30=>
 cond (zAT r24 t30.Name false) (some (.done (.inr (5)))) (some (.next (wi (v28+1),zAV r24 t30.Name true)))) (some (.done (.inl (()))))
def jX (a0:Collation) (v43:Int):Option (Stp (Int) ((Unit)⊕(Int))):=
 cond (decide (v43 < (a0.Groups.length:Int))) ((z7 a0.Groups v43).bind fun t45=>
(pv (decide (t45.Lo < 1))).bind fun b50=>
(pv (b50 ||(decide (t45.Hi < t45.Lo)))).bind fun b57=>
 cond (b57 ||(decide (a0.Base≤t45.Hi))) (some (.done (.inr (1)))) (some (.next (wi (v43+1))))) (some (.done (.inl (()))))
def jY (a0:Collation) (v68:Int):Option (Stp (Int) ((Unit)⊕(Int))):=
 cond (decide (v68 < (a0.Groups.length:Int))) ((z7 a0.Groups v68).bind fun t71=>
(pv (decide (0 < v68))).bind fun b75=>
(gM b75 (z7 a0.Groups (wi (v68 - 1)))).bind fun t82=>
 cond (b75&&(!decide (t71.Lo=(wi (t82.Hi+1))))) (some (.done (.inr (4)))) (some (.next (wi (v68+1))))) (some (.done (.inl (()))))
def w8 (a0:Collation):Option (Int):=
(zE (fun (x:Int)=>jW a0 x) 0).bind fun (y1:(Unit)⊕(Int))=>
 y1.elim (fun y1=>(zE (fun (x:Int×(List (Str×Bool)))=>jI a0 x.1 x.2) (0,[])).bind fun (y2:(Unit)⊕(Int))=>
 y2.elim (fun y2=>(zE (fun (x:Int)=>jX a0 x) 0).bind fun (y3:(Unit)⊕(Int))=>
 y3.elim (fun y3=>(zE (fun (x:Int)=>jY a0 x) 0).bind fun (y4:(Unit)⊕(Int))=>
 y4.elim (fun y4=>some 0) (fun y4=>some y4)) (fun y3=>some y3)) (fun y2=>some y2)) (fun y1=>some y1)
def uR (a0:Int):Option (Bool):=
(pv (decide (0≤a0))).bind fun b5=>
 some (b5&&(decide (a0≤1114111)))
def u9 (a0:Element) (v12:Int):Option (Stp (Int) ((Unit)⊕(Int))):=
 cond (decide (v12 < 3)) ((z7 [({x0:=a0.Primary,x1:=a0.Secondary,x2:=a0.Tertiary}:A3Int).x0,({x0:=a0.Primary,x1:=a0.Secondary,x2:=a0.Tertiary}:A3Int).x1,({x0:=a0.Primary,x1:=a0.Secondary,x2:=a0.Tertiary}:A3Int).x2] v12).bind fun t14=>
(pv (decide (t14 < 0))).bind fun b17=>
 cond (b17 ||(decide (65535 < t14))) (some (.done (.inr (1)))) (some (.next (wi (v12+1))))) (some (.done (.inl (()))))
def zEJ (a0:Element):Option (Int):=
(zE (fun (x:Int)=>u9 a0 x) 0).bind fun (y1:(Unit)⊕(Int))=>
 y1.elim (fun y1=>(pv (!decide (a0.Primary=0))).bind fun b26=>
(pv (decide (a0.Secondary=0))).bind fun b30=>
 cond (b26&&(b30 ||(decide (a0.Tertiary=0)))) (some 11) ((pv (!decide (a0.Secondary=0))).bind fun b40=>
 cond (b40&&(decide (a0.Tertiary=0))) (some 11) ((pv a0.Variable).bind fun b48=>
 cond (b48&&(decide (a0.Primary=0))) (some 11) (some 0)))) (fun y1=>some y1)
def jM (a0:Entry) (v31:Int):Option (Stp (Int) ((Unit)⊕(Int))):=
 cond (decide (v31 < (a0.Codes.length:Int))) ((z7 a0.Codes v31).bind fun t33=>
(uR t33).bind fun t36=>
 cond (!t36) (some (.done (.inr (1)))) (some (.next (wi (v31+1))))) (some (.done (.inl (()))))
def xD (a0:Entry) (v42:Int):Option (Stp (Int) ((Unit)⊕(Int))):=
 cond (decide (v42 < (a0.Elements.length:Int))) ((z7 a0.Elements v42).bind fun t44=>
(zEJ t44).bind fun t47=>
 cond (!decide (t47=0)) (some (.done (.inr (t47)))) (some (.next (wi (v42+1))))) (some (.done (.inl (()))))
def jN (a0:Entry) (a1:Int) (v55:Int):Option (Stp (Int) ((Unit)⊕(Int))):=
 cond (decide (v55 < (a0.Elements.length:Int))) ((z7 a0.Elements v55).bind fun t57=>
 cond (decide (a1≤t57.Primary)) (some (.done (.inr (1)))) (some (.next (wi (v55+1))))) (some (.done (.inl (()))))
def uA (a0:Entry) (a1:Int):Option (Int):=
(pv (decide ((a0.Codes.length:Int) < 1))).bind fun b16=>
(pv (b16 ||(decide (8 < (a0.Codes.length:Int))))).bind fun b22=>
 cond (b22 ||(decide (16 < (a0.Elements.length:Int)))) (some 2) ((zE (fun (x:Int)=>jM a0 x) 0).bind fun (y1:(Unit)⊕(Int))=>
 y1.elim (fun y1=>(zE (fun (x:Int)=>xD a0 x) 0).bind fun (y2:(Unit)⊕(Int))=>
 y2.elim (fun y2=>(zE (fun (x:Int)=>jN a0 a1 x) 0).bind fun (y3:(Unit)⊕(Int))=>
 y3.elim (fun y3=>some 0) (fun y3=>some y3)) (fun y2=>some y2)) (fun y1=>some y1))
def zEK (a0:Int):Option (Bool):=
 some (!decide (a0=a0))
def jV (a0:Int) (a1:Int):Option (Int):=
(zEK a0).bind fun t8=>
(zEK a1).bind fun t10=>
 cond t8 (cond t10 (some 0) (some (-1))) (cond t10 (some 1) (cond (decide (a0 < a1)) (some (-1)) (cond (decide (a1 < a0)) (some 1) (some 0))))
def wD (a0:(List Int)) (a1:(List Int)) (v11:Int):Option (Stp (Int) ((Unit)⊕(Int))):=
 cond (decide (v11 < (min (a0.length:Int) (a1.length:Int)))) ((z7 a0 v11).bind fun t16=>
(z7 a1 v11).bind fun t20=>
 cond (!decide (t16=t20)) ((z7 a0 v11).bind fun t25=>
(z7 a1 v11).bind fun t29=>
(jV t25 t29).bind fun t31=>
 some (.done (.inr (t31)))) (some (.next (wi (v11+1))))) (some (.done (.inl (()))))
def kP (a0:(List Int)) (a1:(List Int)):Option (Int):=
(zE (fun (x:Int)=>wD a0 a1 x) 0).bind fun (y1:(Unit)⊕(Int))=>
 y1.elim (fun y1=>(jV (a0.length:Int) (a1.length:Int)).bind fun t37=>
 some t37) (fun y1=>some y1)
def vE (a0:Collation) (v35:Int):Option (Stp (Int) ((Unit)⊕(Int))):=
 cond (decide (v35 < (a0.Entries.length:Int))) ((z7 a0.Entries v35).bind fun t38=>
(uA t38 a0.Base).bind fun t43=>
 cond (!decide (t43=0)) (some (.done (.inr (t43)))) ((pv (decide (0 < v35))).bind fun b49=>
(gM b49 (z7 a0.Entries (wi (v35 - 1)))).bind fun t54=>
(gM b49 (kP t54.Codes t38.Codes)).bind fun t59=>
 cond (b49&&(decide (0≤t59))) (some (.done (.inr (4)))) (some (.next (wi (v35+1)))))) (some (.done (.inl (()))))
def zAW (a0:Collation):Option (Int):=
(pv (decide (a0.Base < 1))).bind fun b10=>
(pv (b10 ||(decide (65502 < a0.Base)))).bind fun b15=>
(gM (!b15) (zAM a0.Second)).bind fun t18=>
(pv (b15 ||(!t18))).bind fun b21=>
(gM (!b21) (zAM a0.Third)).bind fun t24=>
 cond (b21 ||(!t24)) (some 1) ((w8 a0).bind fun t28=>
 cond (!decide (t28=0)) (some t28) ((zE (fun (x:Int)=>vE a0 x) 0).bind fun (y1:(Unit)⊕(Int))=>
 y1.elim (fun y1=>some 0) (fun y1=>some y1)))
def zC3 (a0:(List Int)):Option (A9Int):=
 some ({x0:=({x0:=(a0.length:Int),x1:=0,x2:=0,x3:=0,x4:=0,x5:=0,x6:=0,x7:=0,x8:=0}:A9Int).x0,x1:=cpA a0 0 (({x0:=(a0.length:Int),x1:=0,x2:=0,x3:=0,x4:=0,x5:=0,x6:=0,x7:=0,x8:=0}:A9Int).x1),x2:=cpA a0 1 (({x0:=(a0.length:Int),x1:=0,x2:=0,x3:=0,x4:=0,x5:=0,x6:=0,x7:=0,x8:=0}:A9Int).x2),x3:=cpA a0 2 (({x0:=(a0.length:Int),x1:=0,x2:=0,x3:=0,x4:=0,x5:=0,x6:=0,x7:=0,x8:=0}:A9Int).x3),x4:=cpA a0 3 (({x0:=(a0.length:Int),x1:=0,x2:=0,x3:=0,x4:=0,x5:=0,x6:=0,x7:=0,x8:=0}:A9Int).x4),x5:=cpA a0 4 (({x0:=(a0.length:Int),x1:=0,x2:=0,x3:=0,x4:=0,x5:=0,x6:=0,x7:=0,x8:=0}:A9Int).x5),x6:=cpA a0 5 (({x0:=(a0.length:Int),x1:=0,x2:=0,x3:=0,x4:=0,x5:=0,x6:=0,x7:=0,x8:=0}:A9Int).x6),x7:=cpA a0 6 (({x0:=(a0.length:Int),x1:=0,x2:=0,x3:=0,x4:=0,x5:=0,x6:=0,x7:=0,x8:=0}:A9Int).x7),x8:=cpA a0 7 (({x0:=(a0.length:Int),x1:=0,x2:=0,x3:=0,x4:=0,x5:=0,x6:=0,x7:=0,x8:=0}:A9Int).x8)}:A9Int)
def xQ (y1:(List Entry)×(List Group)×Int×Int×Int) (v17:Int) (r11:(List (A9Int×(List Element)))) (k13_6:Int):Option (Stp (Int×(List (A9Int×(List Element)))×Int) (((List (A9Int×(List Element)))×Int))):=
 cond (decide (v17 < (y1.1.length:Int))) ((z7 y1.1 v17).bind fun t19=>
(zC3 t19.Codes).bind fun t27=>
 some (.next (wi (v17+1),zAV r11 t27 t19.Elements,max k13_6 (t19.Codes.length:Int)))) (some (.done (r11,k13_6)))
def zDR (a0:Collation):Option (Colltable_table):=
(zAW ({Entries:=a0.Entries,Groups:=a0.Groups,Base:=a0.Base,Second:=a0.Second,Third:=a0.Third}:Collation)).bind fun t7=>
(cond (!decide (t7=0)) (some (({Entries:=[],Groups:=[],Base:=64448,Second:=32,Third:=2}:Collation).Entries,({Entries:=[],Groups:=[],Base:=64448,Second:=32,Third:=2}:Collation).Groups,({Entries:=[],Groups:=[],Base:=64448,Second:=32,Third:=2}:Collation).Base,({Entries:=[],Groups:=[],Base:=64448,Second:=32,Third:=2}:Collation).Second,({Entries:=[],Groups:=[],Base:=64448,Second:=32,Third:=2}:Collation).Third)) (some (a0.Entries,a0.Groups,a0.Base,a0.Second,a0.Third))).bind fun (y1:(List Entry)×(List Group)×Int×Int×Int)=>
(zE (fun (x:Int×(List (A9Int×(List Element)))×Int)=>xQ y1 x.1 x.2.1 x.2.2) (0,[],0)).bind fun (y2:(List (A9Int×(List Element)))×Int)=>
 some ({c:=({Entries:=({Entries:=y1.1,Groups:=y1.2.1,Base:=y1.2.2.1,Second:=y1.2.2.2.1,Third:=y1.2.2.2.2}:Collation).Entries,Groups:=({Entries:=y1.1,Groups:=y1.2.1,Base:=y1.2.2.1,Second:=y1.2.2.2.1,Third:=y1.2.2.2.2}:Collation).Groups,Base:=({Entries:=y1.1,Groups:=y1.2.1,Base:=y1.2.2.1,Second:=y1.2.2.2.1,Third:=y1.2.2.2.2}:Collation).Base,Second:=({Entries:=y1.1,Groups:=y1.2.1,Base:=y1.2.2.1,Second:=y1.2.2.2.1,Third:=y1.2.2.2.2}:Collation).Second,Third:=({Entries:=y1.1,Groups:=y1.2.1,Base:=y1.2.2.1,Second:=y1.2.2.2.1,Third:=y1.2.2.2.2}:Collation).Third}:Collation),entries:=y2.1,longest:=y2.2,classes:=[],top:=0}:Colltable_table)
def uK (a0:(List Span)) (v14:Int):Option (Stp (Int) ((Unit)⊕(Int))):=
 cond (decide (v14 < (a0.length:Int))) ((z7 a0 v14).bind fun t16=>
(pv (decide (t16.Lo < 0))).bind fun b21=>
(pv (b21 ||(decide (1114111 < t16.Hi)))).bind fun b26=>
(pv (b26 ||(decide (t16.Hi < t16.Lo)))).bind fun b33=>
(pv (b33 ||(decide (t16.Value < 1)))).bind fun b38=>
 cond (b38 ||(decide (254 < t16.Value))) (some (.done (.inr (1)))) (some (.next (wi (v14+1))))) (some (.done (.inl (()))))
def uL (a0:(List Span)) (v5:Int):Option (Stp (Int) ((Unit)⊕(Int))):=
 cond (decide (v5 < (a0.length:Int))) ((z7 a0 (wi (v5 - 1))).bind fun t53=>
(z7 a0 v5).bind fun t57=>
(pv (decide (t57.Lo≤t53.Hi))).bind fun b64=>
(pv (decide (t57.Lo=(wi (t53.Hi+1))))).bind fun b71=>
 cond (b64 ||(b71&&(decide (t57.Value=t53.Value)))) (some (.done (.inr (4)))) (some (.next (wi (v5+1))))) (some (.done (.inl (()))))
def xR (t85:A4Range) (t83:Span) (v86:Int):Option (Stp (Int) ((Unit)⊕(Int))):=
 cond (decide (v86 < 4)) ((z7 [t85.x0,t85.x1,t85.x2,t85.x3] v86).bind fun t88=>
(pv (decide (t83.Lo≤t88.Hi))).bind fun b94=>
 cond (b94&&(decide (t88.Lo≤t83.Hi))) (some (.done (.inr (11)))) (some (.next (wi (v86+1))))) (some (.done (.inl (()))))
def uM (a0:(List Span)) (v81:Int):Option (Stp (Int) ((Unit)⊕(Int))):=
 cond (decide (v81 < (a0.length:Int))) ((z7 a0 v81).bind fun t83=>
(pv ({x0:=({Lo:=4352,Hi:=4370}:Range),x1:=({Lo:=4449,Hi:=4469}:Range),x2:=({Lo:=4520,Hi:=4546}:Range),x3:=({Lo:=44032,Hi:=55203}:Range)}:A4Range)).bind fun t85=>
(zE (fun (x:Int)=>xR t85 t83 x) 0).bind fun (y4:(Unit)⊕(Int))=>
 y4.elim (fun y4=>some (.next (wi (v81+1)))) (fun y4=>some (.done (.inr (y4))))) (some (.done (.inl (()))))
def zB1 (a0:(List Span)):Option (Int):=
(zE (fun (x:Int)=>uK a0 x) 0).bind fun (y1:(Unit)⊕(Int))=>
 y1.elim (fun y1=>(zE (fun (x:Int)=>uL a0 x) 1).bind fun (y2:(Unit)⊕(Int))=>
 y2.elim (fun y2=>(zE (fun (x:Int)=>uM a0 x) 0).bind fun (y3:(Unit)⊕(Int))=>
 y3.elim (fun y3=>some 0) (fun y3=>some y3)) (fun y2=>some y2)) (fun y1=>some y1)
def uN (a0:Str) (v15:Int):Option (Stp (Int) ((Unit)⊕(Bool))):=
 cond (decide (v15 < (a0.length:Int))) ((z0D a0 v15).bind fun t20=>
(pv (decide (65≤t20))).bind fun b23=>
(pv (b23&&(decide (t20≤90)))).bind fun b27=>
(pv (decide (97≤t20))).bind fun b30=>
(pv (!(b27 ||(b30&&(decide (t20≤122)))))).bind fun b37=>
(pv (decide (48≤t20))).bind fun b40=>
(pv (b37&&(!(b40&&(decide (t20≤57)))))).bind fun b46=>
 cond (b46&&(!decide (t20=95))) (some (.done (.inr (false)))) (some (.next (wi (v15+1))))) (some (.done (.inl (()))))
def zDS (a0:Str):Option (Bool):=
(pv (a0== [])).bind fun b8=>
 cond (b8 ||(decide (32 < (a0.length:Int)))) (some false) ((zE (fun (x:Int)=>uN a0 x) 0).bind fun (y1:(Unit)⊕(Bool))=>
 y1.elim (fun y1=>some true) (fun y1=>some y1))
def zAA (t15:Mapping) (v24:Int):Option (Stp (Int) ((Unit)⊕(Int))):=
 cond (decide (v24 < (t15.To.length:Int))) ((z7 t15.To v24).bind fun t26=>
(uR t26).bind fun t29=>
 cond (!t29) (some (.done (.inr (1)))) (some (.next (wi (v24+1))))) (some (.done (.inl (()))))
def zAB (a0:(List Mapping)) (v13:Int):Option (Stp (Int) ((Unit)⊕(Int))):=
 cond (decide (v13 < (a0.length:Int))) ((z7 a0 v13).bind fun t15=>
(uR t15.From).bind fun t19=>
 cond (!t19) (some (.done (.inr (1)))) ((zE (fun (x:Int)=>zAA t15 x) 0).bind fun (y2:(Unit)⊕(Int))=>
 y2.elim (fun y2=>some (.next (wi (v13+1)))) (fun y2=>some (.done (.inr (y2)))))) (some (.done (.inl (()))))
def zAC (a0:(List Mapping)) (v35:Int):Option (Stp (Int) ((Unit)⊕(Int))):=
 cond (decide (v35 < (a0.length:Int))) ((z7 a0 v35).bind fun t37=>
 cond (decide (64 < (t37.To.length:Int))) (some (.done (.inr (2)))) (some (.next (wi (v35+1))))) (some (.done (.inl (()))))
def zAD (a0:(List Mapping)) (v46:Int):Option (Stp (Int) ((Unit)⊕(Int))):=
 cond (decide (v46 < (a0.length:Int))) ((z7 a0 v46).bind fun t48=>
(pv (!(t48.Tag== []))).bind fun b53=>
(gM b53 (zDS t48.Tag)).bind fun t56=>
 cond (b53&&(!t56)) (some (.done (.inr (6)))) (some (.next (wi (v46+1))))) (some (.done (.inl (()))))
def zEL (a0:(List Mapping)):Option (Int):=
(zE (fun (x:Int)=>zAB a0 x) 0).bind fun (y1:(Unit)⊕(Int))=>
 y1.elim (fun y1=>(zE (fun (x:Int)=>zAC a0 x) 0).bind fun (y3:(Unit)⊕(Int))=>
 y3.elim (fun y3=>(zE (fun (x:Int)=>zAD a0 x) 0).bind fun (y4:(Unit)⊕(Int))=>
 y4.elim (fun y4=>some 0) (fun y4=>some y4)) (fun y3=>some y3)) (fun y1=>some y1)
def zB2 (a0:Str):Option (Bool):=
 some (!(a0==a0))
def zAN (a0:Str) (a1:Str):Option (Int):=
(zB2 a0).bind fun t8=>
(zB2 a1).bind fun t10=>
 cond t8 (cond t10 (some 0) (some (-1))) (cond t10 (some 1) (cond (Op.bytesLess a0 a1) (some (-1)) (cond (!Op.bytesLess a0 a1&& !(a0==a1)) (some 1) (some 0))))
def zC8 (a0:(List Int)) (v8:Int):Option (Stp (Int) ((Unit)⊕(Int))):=
 cond (decide (v8 < (a0.length:Int))) ((z7 a0 v8).bind fun t10=>
 cond (!decide (t10=0)) (some (.done (.inr (t10)))) (some (.next (wi (v8+1))))) (some (.done (.inl (()))))
def zFY (a0:(List Int)):Option (Int):=
(zE (fun (x:Int)=>zC8 a0 x) 0).bind fun (y1:(Unit)⊕(Int))=>
 y1.elim (fun y1=>some 0) (fun y1=>some y1)
def zC4 (a0:Mapping) (a1:Mapping):Option (Int):=
(jV a0.From a1.From).bind fun t9=>
(zAN a0.Tag a1.Tag).bind fun t14=>
(zFY [t9,t14]).bind fun t16=>
 some t16
def zEM (a0:Mapping):Option (Mapping_key):=
 some ({from_:=a0.From,tag:=a0.Tag}:Mapping_key)
def vF (a0:(List Mapping)) (v4:Bool) (v5:Int):Option (Stp (Bool×Int) ((Bool))):=
 cond (decide (v5 < (a0.length:Int))) (((z7 a0 (wi (v5 - 1))).bind fun t23=>
(z7 a0 v5).bind fun t27=>
(zC4 t23 t27).bind fun t29=>
 cond (decide (0≤t29)) (some false) (some v4)).bind fun (y2:Bool)=>
 some (.next (y2,wi (v5+1)))) (some (.done v4))
def vG (a0:(List Mapping)) (v35:Int) (r32:(List (Mapping_key×Bool))):Option (Stp (Int×(List (Mapping_key×Bool))) ((Unit)⊕(Int))):=
 cond (decide (v35 < (a0.length:Int))) ((z7 a0 v35).bind fun t37=>
(zEM t37).bind fun t41=>
 cond (zAT r32 t41 false) (some (.done (.inr (5)))) ((zEM t37).bind fun t45=>
 some (.next (wi (v35+1),zAV r32 t45 true)))) (some (.done (.inl (()))))
def zEN (a0:(List Mapping)):Option (Int):=
(zEL a0).bind fun t10=>
 cond (!decide (t10=0)) (some t10) ((zE (fun (x:Bool×Int)=>vF a0 x.1 x.2) (true,1)).bind fun (y1:Bool)=>
 cond y1 (some 0) ((zE (fun (x:Int×(List (Mapping_key×Bool)))=>vG a0 x.1 x.2) (0,[])).bind fun (y3:(Unit)⊕(Int))=>
 y3.elim (fun y3=>some 4) (fun y3=>some y3)))
def zHN (a0:Int):Option (Int):=
(cond (decide (4294967296≤a0)) (some (a0 / 2 ^ 32,32)) (some (a0,0))).bind fun (y1:Int×Int)=>
(cond (decide (65536≤y1.1)) (some (y1.1 / 2 ^ 16,wi (y1.2+16))) (some (y1.1,y1.2))).bind fun (y2:Int×Int)=>
(cond (decide (256≤y2.1)) (some (y2.1 / 2 ^ 8,wi (y2.2+8))) (some (y2.1,y2.2))).bind fun (y3:Int×Int)=>
(z0D [0,1,2,2,3,3,3,3,4,4,4,4,4,4,4,4,5,5,5,5,5,5,5,5,5,5,5,5,5,5,5,5,6,6,6,6,6,6,6,6,6,6,6,6,6,6,6,6,6,6,6,6,6,6,6,6,6,6,6,6,6,6,6,6,7,7,7,7,7,7,7,7,7,7,7,7,7,7,7,7,7,7,7,7,7,7,7,7,7,7,7,7,7,7,7,7,7,7,7,7,7,7,7,7,7,7,7,7,7,7,7,7,7,7,7,7,7,7,7,7,7,7,7,7,7,7,7,7,8,8,8,8,8,8,8,8,8,8,8,8,8,8,8,8,8,8,8,8,8,8,8,8,8,8,8,8,8,8,8,8,8,8,8,8,8,8,8,8,8,8,8,8,8,8,8,8,8,8,8,8,8,8,8,8,8,8,8,8,8,8,8,8,8,8,8,8,8,8,8,8,8,8,8,8,8,8,8,8,8,8,8,8,8,8,8,8,8,8,8,8,8,8,8,8,8,8,8,8,8,8,8,8,8,8,8,8,8,8,8,8,8,8,8,8,8,8,8,8,8,8,8,8,8,8,8,8] ((IntKind.u8.wrap) y3.1)).bind fun t22=>
 some (wi (y3.2+(wi t22)))
def zEO (a0:Int):Option (Int):=
 cond false (none) ((zHN a0).bind fun t7=>
 some t7)
def yQ (a1:Int) (a3:Range→Range→Option (Int)) (v9:Int) (r3000:(List Range)):Option (Stp (Int×(List Range)) (((List Range)))):=
(pv (decide (a1 < v9))).bind fun b21=>
(gM b21 (z7 r3000 v9)).bind fun t25=>
(gM b21 (z7 r3000 (wi (v9 - 1)))).bind fun t30=>
(gM b21 (a3 t25 t30)).bind fun t32=>
 cond (b21&&(decide (t32 < 0))) ((z7 r3000 (wi (v9 - 1))).bind fun t45=>
(z7 r3000 v9).bind fun t49=>
(z7 r3000 v9).bind fun t51=>
(u7 r3000 v9 t45).bind fun r3000_6x15=>
(z7 r3000_6x15 (wi (v9 - 1))).bind fun t52=>
(u7 r3000_6x15 (wi (v9 - 1)) t49).bind fun r3000_6x17=>
 some (.next (wi (v9 - 1),r3000_6x17))) (some (.done r3000))
def yC (a2:Int) (a1:Int) (a3:Range→Range→Option (Int)) (v8:Int) (r3000:(List Range)):Option (Stp (Int×(List Range)) (((List Range)))):=
 cond (decide (v8 < a2)) ((zE (fun (x:Int×(List Range))=>yQ a1 a3 x.1 x.2) (v8,r3000)).bind fun (y2:(List Range))=>
 some (.next (wi (v8+1),y2))) (some (.done r3000))
def kX (a0:(List Range)) (a1:Int) (a2:Int) (a3:Range→Range→Option (Int)):Option ((List Range)):=
(zE (fun (x:Int×(List Range))=>yC a2 a1 a3 x.1 x.2) (wi (a1+1),a0)).bind fun (y1:(List Range))=>
 some y1
def kR (a2:Int) (a1:Int) (a0:(List Range)) (a4:Range→Range→Option (Int)) (a3:Int):Option (Stp (Unit) (((List Range)))):=
(cond (decide ((wi (a2 - a1))≤12)) ((kX a0 a1 a2 a4).bind fun t30=>
 some t30) (cond (decide (a3=0)) (none) ((cond (!true) (none) (some ())).bind fun (y3:Unit)=>
 none))).bind fun (y2:(List Range))=>
 some (.done y2)
def xE (a0:(List Range)) (a1:Int) (a2:Int) (a3:Int) (a4:Range→Range→Option (Int)):Option ((List Range)):=
(zE (fun (_:Unit)=>kR a2 a1 a0 a4 a3) ()).bind fun (y1:(List Range))=>
 some y1
def k5 (a0:(List Range)) (a1:Range→Range→Option (Int)):Option ((List Range)):=
(zEO (wu (a0.length:Int))).bind fun t11=>
(xE a0 0 (a0.length:Int) t11 a1).bind fun t13=>
 some t13
def zBA (a0:Range) (a1:Range):Option (Int):=
(jV a0.Lo a1.Lo).bind fun t9=>
(jV a0.Hi a1.Hi).bind fun t14=>
(zFY [t9,t14]).bind fun t16=>
 some t16
def zBI (a0:(List Range)) (v13:Int) (r1003:(List Range)):Option (Stp (Int×(List Range)) (((List Range)))):=
 cond (decide (v13 < (a0.length:Int))) (((z7 a0 v13).bind fun t15=>
 cond (decide ((({Lo:=max t15.Lo 0,Hi:=min t15.Hi 1114111}:Range).Lo)≤(({Lo:=max t15.Lo 0,Hi:=min t15.Hi 1114111}:Range).Hi))) ((app r1003 [({Lo:=max t15.Lo 0,Hi:=min t15.Hi 1114111}:Range)]).bind fun r1003_3=>
 some r1003_3) (some r1003)).bind fun (y2:(List Range))=>
 some (.next (wi (v13+1),y2))) (some (.done r1003))
def zBJ (t35:(List Range)) (v38:Int) (r1007:(List Range)):Option (Stp (Int×(List Range)) (((List Range)))):=
 cond (decide (v38 < (t35.length:Int))) (((z7 t35 v38).bind fun t40=>
(pv (decide (0 < (r1007.length:Int)))).bind fun b46=>
(gM b46 (z7 r1007 (wi ((r1007.length:Int) - 1)))).bind fun t52=>
 cond (b46&&(decide (t40.Lo≤(wi (t52.Hi+1))))) ((z7 r1007 (wi ((r1007.length:Int) - 1))).bind fun t64=>
(z7 r1007 (wi ((r1007.length:Int) - 1))).bind fun t70=>
(u7 r1007 (wi ((r1007.length:Int) - 1)) ({t70 with Hi:=max t64.Hi t40.Hi})).bind fun r1007_6=>
 some r1007_6) ((app r1007 [t40]).bind fun r1007_7=>
 some r1007_7)).bind fun (y5:(List Range))=>
 some (.next (wi (v38+1),y5))) (some (.done r1007))
def zIH (a0:(List Range)):Option (Set):=
(zE (fun (x:Int×(List Range))=>zBI a0 x.1 x.2) (0,[])).bind fun (y1:(List Range))=>
(k5 y1 (fun x0 x1=>zBA x0 x1)).bind fun t35=>
(zE (fun (x:Int×(List Range))=>zBJ t35 x.1 x.2) (0,[])).bind fun (y4:(List Range))=>
 some ({Ranges:=y4}:Set)
def zB3 (t8:Set) (a0:Set) (v19:Int):Option (Stp (Int) ((Unit)⊕(Bool))):=
 cond (decide (v19 < (t8.Ranges.length:Int))) ((z7 t8.Ranges v19).bind fun t22=>
(z7 a0.Ranges v19).bind fun t28=>
 cond (!decide (t22=t28)) (some (.done (.inr (false)))) (some (.next (wi (v19+1))))) (some (.done (.inl (()))))
def zG1 (a0:Set):Option (Bool):=
(zIH a0.Ranges).bind fun t8=>
 cond (!decide ((t8.Ranges.length:Int)=(a0.Ranges.length:Int))) (some false) ((zE (fun (x:Int)=>zB3 t8 a0 x) 0).bind fun (y1:(Unit)⊕(Bool))=>
 y1.elim (fun y1=>some true) (fun y1=>some y1))
def zDT (a0:Int):Option (Int):=
(pv (decide (4352≤a0))).bind fun b6=>
 cond (b6&&(decide (a0 < 4371))) (some 1) ((pv (decide (4449≤a0))).bind fun b13=>
 cond (b13&&(decide (a0 < 4470))) (some 2) ((pv (decide (4520≤a0))).bind fun b20=>
 cond (b20&&(decide (a0 < 4547))) (some 3) ((pv (decide (a0 < 44032))).bind fun b27=>
 cond (b27 ||(decide (55204≤a0))) (some 0) ((zI2 (wi (a0 - 44032)) 28).bind fun t34=>
 cond (decide (t34=0)) (some 4) (some 5)))))
def zAX (a0:(List Span)):Option ((List Span)):=
(zB1 a0).bind fun t4=>
 cond (!decide (t4=0)) (some []) (some a0)
def z9 (a0:(List Span)) (a2:Span→Int→Option (Int)) (a1:Int) (v9:Int) (v10:Int):Option (Stp (Int×Int) ((Int))):=
 cond (decide (v9 < v10)) (((z7 a0 (wi ((wu (wi (v9+v10))) / 2 ^ 1))).bind fun t27=>
(a2 t27 a1).bind fun t30=>
 cond (decide (t30 < 0)) (some (wi ((wi ((wu (wi (v9+v10))) / 2 ^ 1))+1),v10)) (some (v9,wi ((wu (wi (v9+v10))) / 2 ^ 1)))).bind fun (y2:Int×Int)=>
 some (.next (y2.1,y2.2))) (some (.done v9))
def kW (a0:(List Span)) (a1:Int) (a2:Span→Int→Option (Int)):Option (Int×Bool):=
(zE (fun (x:Int×Int)=>z9 a0 a2 a1 x.1 x.2) (0,(a0.length:Int))).bind fun (y1:Int)=>
(pv (decide (y1 < (a0.length:Int)))).bind fun b39=>
(gM b39 (z7 a0 y1)).bind fun t43=>
(gM b39 (a2 t43 a1)).bind fun t46=>
 some (y1,(b39&&(decide (t46=0))))
def zAE (a0:Span) (a1:Int):Option (Int):=
 cond (decide (a0.Hi < a1)) (some (-1)) (cond (decide (a1 < a0.Lo)) (some 1) (some 0))
def kZ (a0:(List Span)) (a1:Int):Option (Int):=
(kW a0 a1 (fun x0 x1=>zAE x0 x1)).bind fun t10=>
 cond (!t10.2) (some 0) ((z7 a0 t10.1).bind fun t17=>
 some t17.Value)
def kT (a1:(List Int)) (a2:(List Span)) (items:(List (Range))) (v4:Int) (v10:Int) (v1000000:Nat):Option (Stp (Int×Int×Nat) ((Int×Nat)⊕(Nat))):=
 cond (decide (v10 < (a1.length:Int))) (((z7 a1 v10).bind fun t13=>
(kZ a2 t13).bind fun t17=>
((pv (!(decide (t17=0)))).bind fun b22=>
 cond (b22&&(decide (v4 < 0))) (some (.inl ((v10,v1000000)))) ((pv (decide (t17=0))).bind fun b29=>
 cond (b29&&(decide (0≤v4))) ((yM items v1000000 ({Lo:=v4,Hi:=v10}:Range)).bind fun u37=>
 cond (!true) (some (.inr (v1000000+1))) (some (.inl (((-1),v1000000+1))))) (some (.inl ((v4,v1000000)))))).bind fun (y3:(Int×Nat)⊕(Nat))=>
 y3.elim (fun y3=>some (.inl ((y3.1,y3.2)))) (fun y3=>some (.inr (y3)))).bind fun (y2:(Int×Nat)⊕(Nat))=>
 y2.elim (fun y2=>some (.next (y2.1,wi (v10+1),y2.2))) (fun y2=>some (.done (.inr (y2))))) (some (.done (.inl ((v4,v1000000)))))
def zAY (items:List Range) (a1:(List Int)) (a2:(List Span)):Option Unit:=
(zE (fun (x:Int×Int×Nat)=>kT a1 a2 items x.1 x.2.1 x.2.2) ((-1),0,0)).bind fun (y1:(Int×Nat)⊕(Nat))=>
 y1.elim (fun y1=>cond (decide (0≤y1.1)) ((yM items y1.2 ({Lo:=y1.1,Hi:=(a1.length:Int)}:Range)).bind fun u47=>
 zTL items (y1.2+1)) (zTL items y1.2)) (fun y1=>zTL items y1)
def xB (st:Int→Bool):List Int→Int→Int→List Range
 | [],i,s=>if 0≤s then [{Lo:=s,Hi:=i}] else []
 | c::r,i,s=>if !st c&&decide (s < 0) then xB st r (i+1) i else if st c&&decide (0≤s) then {Lo:=s,Hi:=i}::xB st r (i+1) (-1) else xB st r (i+1) s
def yJF {α:Type} (l:List α):Option (List α):=if l.length≤LIM then some l else none
def zEP (a0:List Span) (a1:List Int):Option (List Range):=(zAX a0).bind fun t6=>(zAY (xB (fun c=>kZ t6 c==some 0) a1 0 (-1)) a1 t6).bind fun _=>yJF (xB (fun c=>kZ t6 c==some 0) a1 0 (-1))
def zHZ (a0:Int):Option (A3Int):=
(zDT a0).bind fun t6=>
 cond (decide (t6 < 4)) (some ({x0:=0,x1:=0,x2:=0}:A3Int)) ((zL7 wi (wi (a0 - 44032)) 28).bind fun t12=>
(zL7 wi t12 21).bind fun t13=>
(zL7 wi (wi (a0 - 44032)) 28).bind fun t16=>
(zI2 t16 21).bind fun t17=>
(zI2 (wi (a0 - 44032)) 28).bind fun t21=>
(cond (decide (0 < t21)) ((zI2 (wi (a0 - 44032)) 28).bind fun t24=>
 some (wi ((wi (4520+t24)) - 1))) (some (({x0:=wi (4352+t13),x1:=wi (4449+t17),x2:=0}:A3Int).x2))).bind fun (y1:Int)=>
 some ({x0:=({x0:=wi (4352+t13),x1:=wi (4449+t17),x2:=0}:A3Int).x0,x1:=({x0:=wi (4352+t13),x1:=wi (4449+t17),x2:=0}:A3Int).x1,x2:=y1}:A3Int))
def zB4 (a0:Int):Option ((List Int)):=
(zHZ a0).bind fun t5=>
 cond (decide (t5=({x0:=0,x1:=0,x2:=0}:A3Int))) (some [a0]) (cond (decide (t5.x2=0)) (some [t5.x0,t5.x1]) (some [t5.x0,t5.x1,t5.x2]))
def z4 (a0:(List Mapping)) (a2:Mapping→Int→Option (Int)) (a1:Int) (v9:Int) (v10:Int):Option (Stp (Int×Int) ((Int))):=
 cond (decide (v9 < v10)) (((z7 a0 (wi ((wu (wi (v9+v10))) / 2 ^ 1))).bind fun t27=>
(a2 t27 a1).bind fun t30=>
 cond (decide (t30 < 0)) (some (wi ((wi ((wu (wi (v9+v10))) / 2 ^ 1))+1),v10)) (some (v9,wi ((wu (wi (v9+v10))) / 2 ^ 1)))).bind fun (y2:Int×Int)=>
 some (.next (y2.1,y2.2))) (some (.done v9))
def yH (a0:(List Mapping)) (a1:Int) (a2:Mapping→Int→Option (Int)):Option (Int×Bool):=
(zE (fun (x:Int×Int)=>z4 a0 a2 a1 x.1 x.2) (0,(a0.length:Int))).bind fun (y1:Int)=>
(pv (decide (y1 < (a0.length:Int)))).bind fun b39=>
(gM b39 (z7 a0 y1)).bind fun t43=>
(gM b39 (a2 t43 a1)).bind fun t46=>
 some (y1,(b39&&(decide (t46=0))))
def vH (a0:Mapping) (a1:Int):Option (Int):=
(jV a0.From a1).bind fun t8=>
 some t8
def uB (a0:Norm) (a1:Int) (a2:Bool):Option ((List Int)×Bool):=
(zDT a1).bind fun t11=>
 cond (decide (4≤t11)) ((zB4 a1).bind fun t14=>
 some (t14,true)) ((yH a0.Decomp a1 (fun x0 x1=>vH x0 x1)).bind fun t19=>
(pv (!t19.2)).bind fun b24=>
(gM (!b24) (z7 a0.Decomp t19.1)).bind fun t28=>
(pv (!(t28.Tag== []))).bind fun b32=>
 cond (b24 ||(b32&&(!a2))) (some ([],false)) ((z7 a0.Decomp t19.1).bind fun t40=>
 some (t40.To,true)))
def jG (t18:(List Int)×Bool) (rec:(Int→Norm→(List (Int×Int))→Bool→Bool→Option (Int×Bool×Bool×(List (Int×Int))))) (a1:Norm) (v12:Int) (v46:Int) (k3003_0:Bool) (k3005_0:Bool) (r3140:(List (Int×Int))):Option (Stp (Int×Int×Bool×Bool×(List (Int×Int))) ((Int×Bool×Bool×(List (Int×Int))))):=
 cond (decide (v46 < (t18.1.length:Int))) ((z7 t18.1 v46).bind fun t48=>
(rec t48 a1 r3140 k3003_0 k3005_0).bind fun t53=>
 some (.next (min (wi (v12+t53.1)) 65,wi (v46+1),t53.2.1,t53.2.2.1,t53.2.2.2))) (some (.done (v12,k3003_0,k3005_0,r3140)))
def k9 (rec:Int→Norm→(List (Int×Int))→Bool→Bool→Option (Int×Bool×Bool×(List (Int×Int)))) (a0:Int) (a1:Norm) (a2:(List (Int×Int))) (a3:Bool) (a5:Bool):Option (Int×Bool×Bool×(List (Int×Int))):=
(uB a1 a0 true).bind fun t18=>
(pv (!t18.2)).bind fun b23=>
 cond (b23 ||(decide ((t18.1.length:Int)=0))) (some (1,a3,a5,a2)) (cond (zC1 a2 a0) ((pv a3).bind fun b36=>
 some (max (zAT a2 a0 0) 1,(b36 ||(decide ((zAT a2 a0 0)=(-1)))),a5,a2)) ((zE (fun (x:Int×Int×Bool×Bool×(List (Int×Int)))=>jG t18 rec a1 x.1 x.2.1 x.2.2.1 x.2.2.2.1 x.2.2.2.2) (0,0,a3,a5,zAV a2 a0 (-1))).bind fun (y1:Int×Bool×Bool×(List (Int×Int)))=>
(pv y1.2.2.1).bind fun b61=>
 some (y1.1,y1.2.1,(b61 ||(decide (64 < y1.1))),zAV y1.2.2.2 a0 y1.1)))
def yB:Nat→Int→Norm→(List (Int×Int))→Bool→Bool→Option (Int×Bool×Bool×(List (Int×Int)))
 | 0=>fun _ _ _ _ _=>none
 | n+1=>k9 (yB n)
def kV (a0:Norm) (v13:Int) (k2_0:Bool) (k3_0:Bool) (r8:(List (Int×Int))):Option (Stp (Int×Bool×Bool×(List (Int×Int))) ((Bool×Bool))):=
 cond (decide (v13 < (a0.Decomp.length:Int))) ((z7 a0.Decomp v13).bind fun t15=>
(yB 100 t15.From a0 r8 k2_0 k3_0).bind fun t20=>
 some (.next (wi (v13+1),t20.2.1,t20.2.2.1,t20.2.2.2))) (some (.done (k2_0,k3_0)))
def decompose_measure (a0:Norm):Option (Bool×Bool):=
(zE (fun (x:Int×Bool×Bool×(List (Int×Int)))=>kV a0 x.1 x.2.1 x.2.2.1 x.2.2.2) (0,false,false,[])).bind fun (y1:Bool×Bool)=>
 some (y1.1,y1.2)
def vI (a0:Norm) (v5:Int):Option (Stp (Int) ((Unit)⊕(Int))):=
 cond (decide (v5 < (a0.Decomp.length:Int))) ((z7 a0.Decomp v5).bind fun t39=>
(z7 a0.Decomp (wi (v5 - 1))).bind fun t46=>
 cond (decide (t39.From=t46.From)) (some (.done (.inr (5)))) (some (.next (wi (v5+1))))) (some (.done (.inl (()))))
def vJ (a0:Norm) (v53:Int):Option (Stp (Int) ((Unit)⊕(Int))):=
 cond (decide (v53 < (a0.Decomp.length:Int))) ((z7 a0.Decomp v53).bind fun t55=>
(pv (t55.Tag== [])).bind fun b60=>
(pv (b60&&(!decide ((t55.To.length:Int)=1)))).bind fun b66=>
 cond (b66&&(!decide ((t55.To.length:Int)=2))) (some (.done (.inr (8)))) (some (.next (wi (v53+1))))) (some (.done (.inl (()))))
def yU (a0:Norm) (v76:Int) (r1008:(List Int)):Option (Stp (Int×(List Int)) (((List Int))⊕(Int))):=
 cond (decide (v76 < (a0.Decomp.length:Int))) (((z7 a0.Decomp v76).bind fun t78=>
(zDT t78.From).bind fun t82=>
 cond (!decide (t82=0)) (some (.inr (()))) (cond (!(t78.Tag== [])) ((app r1008 [t78.From]).bind fun r1008_5=>
 some (.inl (r1008_5))) (some (.inl (r1008))))).bind fun (y4:((List Int))⊕(Unit))=>
 y4.elim (fun y4=>some (.next (wi (v76+1),y4))) (fun y4=>some (.done (.inr (11))))) (some (.done (.inl (r1008))))
def zAZ (a0:Norm):Option (Int):=
(zB1 a0.Classes).bind fun t15=>
 cond (!decide (t15=0)) (some t15) ((zEN a0.Decomp).bind fun t21=>
 cond (!decide (t21=0)) (some t21) ((zG1 a0.Excluded).bind fun t27=>
 cond (!t27) (some 11) ((zE (fun (x:Int)=>vI a0 x) 1).bind fun (y1:(Unit)⊕(Int))=>
 y1.elim (fun y1=>(zE (fun (x:Int)=>vJ a0 x) 0).bind fun (y2:(Unit)⊕(Int))=>
 y2.elim (fun y2=>(zE (fun (x:Int×(List Int))=>yU a0 x.1 x.2) (0,[])).bind fun (y3:((List Int))⊕(Int))=>
 y3.elim (fun y3=>(zEP a0.Classes y3).bind fun t96=>
 cond (decide (0 < (t96.length:Int))) (some 11) ((decompose_measure a0).bind fun t101=>
 cond t101.1 (some 12) (cond t101.2 (some 13) (some 0)))) (fun y3=>some y3)) (fun y2=>some y2)) (fun y1=>some y1))))
def jO (y1:(List Span)) (v20:Int) (k3000_8:Int):Option (Stp (Int×Int) ((Int))):=
 cond (decide (v20 < (y1.length:Int))) ((z7 y1 v20).bind fun t22=>
 some (.next (wi (v20+1),max k3000_8 t22.Value))) (some (.done k3000_8))
def uC (a0:Colltable_table) (a1:Norm):Option (Colltable_table):=
(zAZ a1).bind fun t8=>
(cond (decide (t8=0)) (some a1.Classes) (some a0.classes)).bind fun (y1:(List Span))=>
(zE (fun (x:Int×Int)=>jO y1 x.1 x.2) (0,a0.top)).bind fun (y2:Int)=>
 some ({c:=({Entries:=a0.c.Entries,Groups:=a0.c.Groups,Base:=a0.c.Base,Second:=a0.c.Second,Third:=a0.c.Third}:Collation),entries:=a0.entries,longest:=a0.longest,classes:=y1,top:=y2}:Colltable_table)
def zAF (a0:Norm):Option (Norm):=
(zAZ a0).bind fun t4=>
 cond (!decide (t4=0)) (some ({Classes:=({Classes:=[],Decomp:=[],Excluded:=(({Ranges:=[]}):Set)}:Norm).Classes,Decomp:=({Classes:=[],Decomp:=[],Excluded:=(({Ranges:=[]}):Set)}:Norm).Decomp,Excluded:=({Ranges:=(({Classes:=[],Decomp:=[],Excluded:=(({Ranges:=[]}):Set)}:Norm).Excluded).Ranges}:Set)}:Norm)) (some a0)
def jB (t26:(List Int)×Bool) (rec:(Int→(List (Int×(List Int)))→Norm→Bool→Option ((List Int)×(List (Int×(List Int)))))) (a2:Norm) (a3:Bool) (v35:Int) (r1011:(List Int)) (r3120:(List (Int×(List Int)))):Option (Stp (Int×(List Int)×(List (Int×(List Int)))) (((List Int)×(List (Int×(List Int)))))):=
 cond (decide (v35 < (t26.1.length:Int))) ((z7 t26.1 v35).bind fun t37=>
(rec t37 r3120 a2 a3).bind fun t42=>
(app r1011 t42.1).bind fun r1011_2=>
 some (.next (wi (v35+1),r1011_2,t42.2))) (some (.done (r1011,r3120)))
def wM (rec:Int→(List (Int×(List Int)))→Norm→Bool→Option ((List Int)×(List (Int×(List Int))))) (a0:Int) (a1:(List (Int×(List Int)))) (a2:Norm) (a3:Bool):Option ((List Int)×(List (Int×(List Int)))):=
 cond (zC1 a1 a0) (some (zAT a1 a0 [],a1)) ((uB a2 a0 a3).bind fun t26=>
 cond (!t26.2) (some ([a0],a1)) ((zE (fun (x:Int×(List Int)×(List (Int×(List Int))))=>jB t26 rec a2 a3 x.1 x.2.1 x.2.2) (0,[],a1)).bind fun (y1:(List Int)×(List (Int×(List Int))))=>
 some (y1.1,zAV y1.2 a0 y1.1)))
def kK:Nat→Int→(List (Int×(List Int)))→Norm→Bool→Option ((List Int)×(List (Int×(List Int))))
 | 0=>fun _ _ _ _=>none
 | n+1=>wM (kK n)
def zCS (a0:Norm) (a1:Bool):Option (Unit):=
 some ()
def zBB (a0:(List Int)):Option ((List Int)):=app [] a0
def wW (a0:Int) (a1:Int) (a2:(List Span)):Option (Int):=
(kZ a2 a0).bind fun t8=>
(kZ a2 a1).bind fun t11=>
(jV t8 t11).bind fun t12=>
 some t12
def z6 (a1:Int) (a3:Int→Int→Option (Int)) (v9:Int) (r3000:(List Int)):Option (Stp (Int×(List Int)) (((List Int)))):=
(pv (decide (a1 < v9))).bind fun b21=>
(gM b21 (z7 r3000 v9)).bind fun t25=>
(gM b21 (z7 r3000 (wi (v9 - 1)))).bind fun t30=>
(gM b21 (a3 t25 t30)).bind fun t32=>
 cond (b21&&(decide (t32 < 0))) ((z7 r3000 (wi (v9 - 1))).bind fun t45=>
(z7 r3000 v9).bind fun t49=>
(z7 r3000 v9).bind fun t51=>
(u7 r3000 v9 t45).bind fun r3000_6x15=>
(z7 r3000_6x15 (wi (v9 - 1))).bind fun t52=>
(u7 r3000_6x15 (wi (v9 - 1)) t49).bind fun r3000_6x17=>
 some (.next (wi (v9 - 1),r3000_6x17))) (some (.done r3000))
def z1 (a2:Int) (a1:Int) (a3:Int→Int→Option (Int)) (v8:Int) (r3000:(List Int)):Option (Stp (Int×(List Int)) (((List Int)))):=
 cond (decide (v8 < a2)) ((zE (fun (x:Int×(List Int))=>z6 a1 a3 x.1 x.2) (v8,r3000)).bind fun (y2:(List Int))=>
 some (.next (wi (v8+1),y2))) (some (.done r3000))
def kM (a0:(List Int)) (a1:Int) (a2:Int) (a3:Int→Int→Option (Int)):Option ((List Int)):=
(zE (fun (x:Int×(List Int))=>z1 a2 a1 a3 x.1 x.2) (wi (a1+1),a0)).bind fun (y1:(List Int))=>
 some y1
def yW (a3:Int) (a2:Int) (a1:Int) (v10:Int) (r3000:(List Int)):Option (Stp (Int×(List Int)) (((List Int)))):=
 cond (decide (v10 < a3)) ((z7 r3000 (wi (a2+v10))).bind fun t28=>
(z7 r3000 (wi (a1+v10))).bind fun t34=>
(z7 r3000 (wi (a1+v10))).bind fun t36=>
(u7 r3000 (wi (a1+v10)) t28).bind fun r3000_3x21=>
(z7 r3000_3x21 (wi (a2+v10))).bind fun t37=>
(u7 r3000_3x21 (wi (a2+v10)) t34).bind fun r3000_3x23=>
 some (.next (wi (v10+1),r3000_3x23))) (some (.done r3000))
def kQ (a0:(List Int)) (a1:Int) (a2:Int) (a3:Int) (a4:Int→Int→Option (Int)):Option ((List Int)):=
(zE (fun (x:Int×(List Int))=>yW a3 a2 a1 x.1 x.2) (0,a0)).bind fun (y1:(List Int))=>
 some y1
def yN (a2:Int) (a4:Int→Int→Option (Int)) (v10:Int) (v11:Int) (r3000:(List Int)):Option (Stp (Int×Int×(List Int)) ((Int×(List Int)))):=
 cond (!decide (v10=v11)) ((cond (decide (v11 < v10)) ((kQ r3000 (wi (a2 - v10)) a2 v11 a4).bind fun t31=>
 some (wi (v10 - v11),v11,t31)) ((kQ r3000 (wi (a2 - v10)) (wi ((wi (a2+v11)) - v10)) v10 a4).bind fun t46=>
 some (v10,wi (v11 - v10),t46))).bind fun (y2:Int×Int×(List Int))=>
 some (.next (y2.1,y2.2.1,y2.2.2))) (some (.done (v10,r3000)))
def jZ (a0:(List Int)) (a1:Int) (a2:Int) (a3:Int) (a4:Int→Int→Option (Int)):Option ((List Int)):=
(zE (fun (x:Int×Int×(List Int))=>yN a2 a4 x.1 x.2.1 x.2.2) (wi (a2 - a1),wi (a3 - a2),a0)).bind fun (y1:Int×(List Int))=>
(kQ y1.2 (wi (a2 - y1.1)) a2 y1.1 a4).bind fun t57=>
 some t57
def yZ (a0:(List Int)) (a1:Int) (a4:Int→Int→Option (Int)) (v10:Int) (v11:Int):Option (Stp (Int×Int) ((Int))):=
 cond (decide (v10 < v11)) (((z7 a0 (wi ((wu (wi (v10+v11))) / 2 ^ 1))).bind fun t43=>
(z7 a0 a1).bind fun t47=>
(a4 t43 t47).bind fun t49=>
 cond (decide (t49 < 0)) (some (wi ((wi ((wu (wi (v10+v11))) / 2 ^ 1))+1),v11)) (some (v10,wi ((wu (wi (v10+v11))) / 2 ^ 1)))).bind fun (y2:Int×Int)=>
 some (.next (y2.1,y2.2))) (some (.done v10))
def kA (y1:Int) (v13:Int) (r3000:(List Int)):Option (Stp (Int×(List Int)) (((List Int)))):=
 cond (decide (v13 < (wi (y1 - 1)))) ((z7 r3000 (wi (v13+1))).bind fun t69=>
(z7 r3000 v13).bind fun t73=>
(z7 r3000 v13).bind fun t75=>
(u7 r3000 v13 t69).bind fun r3000_11x15=>
(z7 r3000_11x15 (wi (v13+1))).bind fun t76=>
(u7 r3000_11x15 (wi (v13+1)) t73).bind fun r3000_11x17=>
 some (.next (wi (v13+1),r3000_11x17))) (some (.done r3000))
def kB (a0:(List Int)) (a2:Int) (a4:Int→Int→Option (Int)) (v14:Int) (v15:Int):Option (Stp (Int×Int) ((Int))):=
 cond (decide (v14 < v15)) (((z7 a0 a2).bind fun t95=>
(z7 a0 (wi ((wu (wi (v14+v15))) / 2 ^ 1))).bind fun t99=>
(a4 t95 t99).bind fun t101=>
 cond (!(decide (t101 < 0))) (some (wi ((wi ((wu (wi (v14+v15))) / 2 ^ 1))+1),v15)) (some (v14,wi ((wu (wi (v14+v15))) / 2 ^ 1)))).bind fun (y5:Int×Int)=>
 some (.next (y5.1,y5.2))) (some (.done v14))
def kC (y4:Int) (v17:Int) (r3000:(List Int)):Option (Stp (Int×(List Int)) (((List Int)))):=
 cond (decide (y4 < v17)) ((z7 r3000 (wi (v17 - 1))).bind fun t121=>
(z7 r3000 v17).bind fun t125=>
(z7 r3000 v17).bind fun t127=>
(u7 r3000 v17 t121).bind fun r3000_23x15=>
(z7 r3000_23x15 (wi (v17 - 1))).bind fun t128=>
(u7 r3000_23x15 (wi (v17 - 1)) t125).bind fun r3000_23x17=>
 some (.next (wi (v17 - 1),r3000_23x17))) (some (.done r3000))
def kD (a0:(List Int)) (a1:Int) (a3:Int) (a2:Int) (a4:Int→Int→Option (Int)) (v20:Int) (v21:Int):Option (Stp (Int×Int) ((Int))):=
 cond (decide (v20 < v21)) (((z7 a0 (wi ((wi ((wi ((wi ((wu (wi (a1+a3))) / 2 ^ 1))+a2)) - 1)) - (wi ((wu (wi (v20+v21))) / 2 ^ 1))))).bind fun t163=>
(z7 a0 (wi ((wu (wi (v20+v21))) / 2 ^ 1))).bind fun t167=>
(a4 t163 t167).bind fun t169=>
 cond (!(decide (t169 < 0))) (some (wi ((wi ((wu (wi (v20+v21))) / 2 ^ 1))+1),v21)) (some (v20,wi ((wu (wi (v20+v21))) / 2 ^ 1)))).bind fun (y9:Int×Int)=>
 some (.next (y9.1,y9.2))) (some (.done v20))
def yK (rec:((List Int))→(Int)→(Int)→(Int)→(Int→Int→Option (Int))→Option ((List Int))) (a0:(List Int)) (a1:Int) (a2:Int) (a3:Int) (a4:Int→Int→Option (Int)):Option ((List Int)):=
 cond (decide ((wi (a2 - a1))=1)) ((zE (fun (x:Int×Int)=>yZ a0 a1 a4 x.1 x.2) (a2,a3)).bind fun (y1:Int)=>
(zE (fun (x:Int×(List Int))=>kA y1 x.1 x.2) (a1,a0)).bind fun (y3:(List Int))=>
 some y3) (cond (decide ((wi (a3 - a2))=1)) ((zE (fun (x:Int×Int)=>kB a0 a2 a4 x.1 x.2) (a1,a2)).bind fun (y4:Int)=>
(zE (fun (x:Int×(List Int))=>kC y4 x.1 x.2) (a2,a0)).bind fun (y6:(List Int))=>
 some y6) ((cond (decide ((wi ((wu (wi (a1+a3))) / 2 ^ 1)) < a2)) (some (wi ((wi ((wi ((wu (wi (a1+a3))) / 2 ^ 1))+a2)) - a3),wi ((wu (wi (a1+a3))) / 2 ^ 1))) (some (a1,a2))).bind fun (y7:Int×Int)=>
(zE (fun (x:Int×Int)=>kD a0 a1 a3 a2 a4 x.1 x.2) (y7.1,y7.2)).bind fun (y8:Int)=>
(pv (decide (y8 < a2))).bind fun b181=>
(cond (b181&&(decide (a2 < (wi ((wi ((wi ((wu (wi (a1+a3))) / 2 ^ 1))+a2)) - y8))))) ((jZ a0 y8 a2 (wi ((wi ((wi ((wu (wi (a1+a3))) / 2 ^ 1))+a2)) - y8)) a4).bind fun t191=>
 some t191) (some a0)).bind fun (y10:(List Int))=>
(pv (decide (a1 < y8))).bind fun b195=>
(cond (b195&&(decide (y8 < (wi ((wu (wi (a1+a3))) / 2 ^ 1))))) ((rec y10 a1 y8 (wi ((wu (wi (a1+a3))) / 2 ^ 1)) a4).bind fun t205=>
 some t205) (some y10)).bind fun (y11:(List Int))=>
(pv (decide ((wi ((wu (wi (a1+a3))) / 2 ^ 1)) < (wi ((wi ((wi ((wu (wi (a1+a3))) / 2 ^ 1))+a2)) - y8))))).bind fun b209=>
 cond (b209&&(decide ((wi ((wi ((wi ((wu (wi (a1+a3))) / 2 ^ 1))+a2)) - y8)) < a3))) ((rec y11 (wi ((wu (wi (a1+a3))) / 2 ^ 1)) (wi ((wi ((wi ((wu (wi (a1+a3))) / 2 ^ 1))+a2)) - y8)) a3 a4).bind fun t219=>
 some t219) (some y11)))
def kG:Nat→((List Int))→(Int)→(Int)→(Int)→(Int→Int→Option (Int))→Option ((List Int))
 | 0=>fun _ _ _ _ _=>none
 | n+1=>yK (kG n)
def z8 (a1:Int) (a2:Int→Int→Option (Int)) (v7:Int) (v8:Int) (r3000:(List Int)):Option (Stp (Int×Int×(List Int)) ((Int×(List Int)))):=
 cond (decide (v8≤a1)) ((kM r3000 v7 v8 a2).bind fun t18=>
 some (.next (v8,wi (v8+20),t18))) (some (.done (v7,r3000)))
def yF (a1:Int) (v6:Int) (a2:Int→Int→Option (Int)) (v7:Int) (v8:Int) (r3000:(List Int)):Option (Stp (Int×Int×(List Int)) ((Int×(List Int)))):=
 cond (decide (v8≤a1)) ((kG 60 r3000 v7 (wi (v7+v6)) v8 a2).bind fun t43=>
 some (.next (v8,wi (v8+(wi (2*v6))),t43))) (some (.done (v7,r3000)))
def yG (a1:Int) (a2:Int→Int→Option (Int)) (v6:Int) (r3000:(List Int)):Option (Stp (Int×(List Int)) (((List Int)))):=
 cond (decide (v6 < a1)) ((zE (fun (x:Int×Int×(List Int))=>yF a1 v6 a2 x.1 x.2.1 x.2.2) (0,wi (2*v6),r3000)).bind fun (y3:Int×(List Int))=>
(cond (decide ((wi (y3.1+v6)) < a1)) ((kG 60 y3.2 y3.1 (wi (y3.1+v6)) a1 a2).bind fun t60=>
 some t60) (some y3.2)).bind fun (y4:(List Int))=>
 some (.next (wi (v6*2),y4))) (some (.done r3000))
def xX (a0:(List Int)) (a1:Int) (a2:Int→Int→Option (Int)):Option ((List Int)):=
(zE (fun (x:Int×Int×(List Int))=>z8 a1 a2 x.1 x.2.1 x.2.2) (0,20,a0)).bind fun (y1:Int×(List Int))=>
(kM y1.2 y1.1 a1 a2).bind fun t27=>
(zE (fun (x:Int×(List Int))=>yG a1 a2 x.1 x.2) (20,t27)).bind fun (y2:(List Int))=>
 some y2
def yP (a0:(List Int)) (a1:Int→Int→Option (Int)):Option ((List Int)):=
(xX a0 (a0.length:Int) a1).bind fun t8=>
 some t8
def zBK (a0:List Span) (a1:List Int):Option (List Int):=(zAX a0).bind fun t8=>(zBB a1).bind fun t10=>(zAY (xB (fun c=>kZ t8 c==some 0) a1 0 (-1)) a1 t8).bind fun _=>zAL (fun p=>yP p (fun x0 x1=>wW x0 x1 t8)) Range.Lo Range.Hi t10 (xB (fun c=>kZ t8 c==some 0) a1 0 (-1))
def j9 (a1:(List Int)) (t12:Norm) (a2:Bool) (v18:Int) (r1008:(List Int)) (r3515:(List (Int×(List Int)))):Option (Stp (Int×(List Int)×(List (Int×(List Int)))) (((List Int)))):=
 cond (decide (v18 < (a1.length:Int))) ((z7 a1 v18).bind fun t20=>
(kK 100 t20 r3515 ({Classes:=t12.Classes,Decomp:=t12.Decomp,Excluded:=({Ranges:=t12.Excluded.Ranges}:Set)}:Norm) a2).bind fun t25=>
(app r1008 t25.1).bind fun r1008_2=>
 some (.next (wi (v18+1),r1008_2,t25.2))) (some (.done r1008))
def wN (a0:Norm) (a1:(List Int)) (a2:Bool):Option ((List Int)):=
(zAF ({Classes:=a0.Classes,Decomp:=a0.Decomp,Excluded:=({Ranges:=a0.Excluded.Ranges}:Set)}:Norm)).bind fun t12=>
(zCS ({Classes:=t12.Classes,Decomp:=t12.Decomp,Excluded:=({Ranges:=t12.Excluded.Ranges}:Set)}:Norm) a2).bind fun t15=>
(zE (fun (x:Int×(List Int)×(List (Int×(List Int))))=>j9 a1 t12 a2 x.1 x.2.1 x.2.2) (0,[],[])).bind fun (y1:(List Int))=>
(zBK t12.Classes y1).bind fun t31=>
 some t31
def jQ (a0:Colltable_table) (a1:(List Int)):Option ((List Element)×Bool):=
(pv (decide ((a1.length:Int)=0))).bind fun b11=>
 cond (b11 ||(decide (a0.longest < (a1.length:Int)))) (some ([],false)) ((zC3 a1).bind fun t26=>
 some (zAT a0.entries t26 [],zC1 a0.entries t26))
def j6 (a0:Colltable_table) (a1:Int):Option ((List Element)):=
(uR a1).bind fun t6=>
 cond (!t6) (some []) ((zL7 wi a1 32768).bind fun t14=>
(zI2 a1 32768).bind fun t28=>
 some [({Primary:=wi (a0.c.Base+t14),Secondary:=a0.c.Second,Tertiary:=a0.c.Third,Variable:=false}:Element),({Primary:=wi (32768+t28),Secondary:=0,Tertiary:=0,Variable:=false}:Element)])
def wE (a0:Int) (a1:Colltable_table) (a2:Int):Option (Bool):=
(z7 a1.classes a0).bind fun t10=>
 some (decide (a2≤t10.Hi))
def zB5 (a1:Int→Option (Bool)) (v5:Int) (v6:Int):Option (Stp (Int×Int) ((Int))):=
 cond (decide (v5 < v6)) (((a1 (wi ((wu (wi (v5+v6))) / 2 ^ 1))).bind fun t20=>
 cond (!t20) (some (wi ((wi ((wu (wi (v5+v6))) / 2 ^ 1))+1),v6)) (some (v5,wi ((wu (wi (v5+v6))) / 2 ^ 1)))).bind fun (y2:Int×Int)=>
 some (.next (y2.1,y2.2))) (some (.done v5))
def zJF (a0:Int) (a1:Int→Option (Bool)):Option (Int):=
(zE (fun (x:Int×Int)=>zB5 a1 x.1 x.2) (0,a0)).bind fun (y1:Int)=>
 some y1
def w9 (a0:Colltable_table) (a1:Int):Option (Int):=
(zJF (a0.classes.length:Int) (fun x0=>wE x0 a0 a1)).bind fun t12=>
(pv (decide (t12 < (a0.classes.length:Int)))).bind fun b20=>
(gM b20 (z7 a0.classes t12)).bind fun t26=>
 cond (b20&&(decide (t26.Lo≤a1))) ((z7 a0.classes t12).bind fun t37=>
 some t37.Value) (some 0)
def k6 (a1:(List Int)) (a0:Colltable_table) (v7:Int):Option (Stp (Int) ((Int))):=
 cond (decide (0 < v7)) ((slc a1 0 v7).bind fun t31=>
(jQ a0 t31).bind fun t32=>
 cond t32.2 (some (.done v7)) (some (.next (wi (v7 - 1))))) (some (.done v7))
def kF (a0:Colltable_table) (v7:Int) (v10:Int) (v11:Int) (r3001:(List Int)):Option (Stp (Int×Int×Int×(List Int)) ((Int×(List Int)))):=
(pv (decide (v11 < (r3001.length:Int)))).bind fun b50=>
 cond (b50&&(decide (v10 < a0.top))) (((z7 r3001 v11).bind fun t62=>
(w9 a0 t62).bind fun t66=>
 cond (decide (t66=0)) (some (.inl (()))) (cond (decide (t66≤v10)) (some (.inr ((v7,v10,r3001)))) ((slc r3001 0 v7).bind fun t77=>
(app t77 [t62]).bind fun r80_4=>
(jQ a0 r80_4).bind fun t81=>
 cond (!t81.2) (some (.inr ((v7,t66,r3001)))) ((slc r3001 (wi (v7+1)) (wi (v11+1))).bind fun t92=>
(slc r3001 v7 v11).bind fun t96=>
(z7 (cpM r3001 (wi (v7+1)) (wi (v11+1)) v7 v11) v7).bind fun t101=>
(u7 (cpM r3001 (wi (v7+1)) (wi (v11+1)) v7 v11) v7 t62).bind fun r3001_5=>
 some (.inr ((wi (v7+1),v10,r3001_5))))))).bind fun (y3:(Unit)⊕(Int×Int×(List Int)))=>
 y3.elim (fun y3=>some (.done (v7,r3001))) (fun y3=>some (.next (y3.1,y3.2.1,wi (v11+1),y3.2.2)))) (some (.done (v7,r3001)))
def vA (a0:Colltable_table) (a1:(List Int)):Option (Int×(List Element)×Bool×(List Int)):=
(zE (fun (x:Int)=>k6 a1 a0 x) (min a0.longest (a1.length:Int))).bind fun (y1:Int)=>
 cond (decide (y1=0)) ((z7 a1 (0:Int)).bind fun t42=>
(j6 a0 t42).bind fun t44=>
 some (1,t44,false,a1)) ((zE (fun (x:Int×Int×Int×(List Int))=>kF a0 x.1 x.2.1 x.2.2.1 x.2.2.2) (y1,0,y1,a1)).bind fun (y2:Int×(List Int))=>
(slc y2.2 0 y2.1).bind fun t108=>
(jQ a0 t108).bind fun t109=>
 some (y2.1,t109.1,true,y2.2))
def j8 (t16:Colltable_table) (r1008:(List Element)) (r2519:(List Int)):Option (Stp ((List Element)×(List Int)) (((List Element)))):=
 cond (decide (0 < (r2519.length:Int))) ((vA t16 r2519).bind fun t26=>
(app r1008 t26.2.1).bind fun r1008_2=>
(slc t26.2.2.2 t26.1 (t26.2.2.2.length)).bind fun r2519_3=>
 some (.next (r1008_2,r2519_3))) (some (.done r1008))
def jJ (a0:Norm) (a1:Collation) (a2:(List Int)):Option ((List Element)):=
(zDR a1).bind fun t14=>
(uC t14 a0).bind fun t16=>
(wN a0 a2 false).bind fun t19=>
(zE (fun (x:(List Element)×(List Int))=>j8 t16 x.1 x.2) ([],t19)).bind fun (y1:(List Element))=>
 some y1
def uX (a0:Element) (a1:Int) (a2:Bool):Option (A4Int×Bool):=
(cond (!decide (({x0:=({x0:=a0.Primary,x1:=a0.Secondary,x2:=a0.Tertiary,x3:=0}:A4Int).x0,x1:=({x0:=a0.Primary,x1:=a0.Secondary,x2:=a0.Tertiary,x3:=0}:A4Int).x1,x2:=({x0:=a0.Primary,x1:=a0.Secondary,x2:=a0.Tertiary,x3:=0}:A4Int).x2,x3:=({x0:=a0.Primary,x1:=a0.Secondary,x2:=a0.Tertiary,x3:=0}:A4Int).x3}:A4Int)=({x0:=0,x1:=0,x2:=0,x3:=0}:A4Int))) (some 65535) (some (({x0:=a0.Primary,x1:=a0.Secondary,x2:=a0.Tertiary,x3:=0}:A4Int).x3))).bind fun (y1:Int)=>
 cond (decide (a1=1)) (some (({x0:=({x0:=a0.Primary,x1:=a0.Secondary,x2:=a0.Tertiary,x3:=0}:A4Int).x0,x1:=({x0:=a0.Primary,x1:=a0.Secondary,x2:=a0.Tertiary,x3:=0}:A4Int).x1,x2:=({x0:=a0.Primary,x1:=a0.Secondary,x2:=a0.Tertiary,x3:=0}:A4Int).x2,x3:=y1}:A4Int),a2)) ((cond a0.Variable (some (({x0:=0,x1:=0,x2:=0,x3:=a0.Primary}:A4Int).x0,({x0:=0,x1:=0,x2:=0,x3:=a0.Primary}:A4Int).x1,({x0:=0,x1:=0,x2:=0,x3:=a0.Primary}:A4Int).x2,({x0:=0,x1:=0,x2:=0,x3:=a0.Primary}:A4Int).x3,true)) (cond (!decide (a0.Primary=0)) (some (({x0:=a0.Primary,x1:=a0.Secondary,x2:=a0.Tertiary,x3:=0}:A4Int).x0,({x0:=a0.Primary,x1:=a0.Secondary,x2:=a0.Tertiary,x3:=0}:A4Int).x1,({x0:=a0.Primary,x1:=a0.Secondary,x2:=a0.Tertiary,x3:=0}:A4Int).x2,y1,false)) (cond a2 (some (({x0:=0,x1:=0,x2:=0,x3:=0}:A4Int).x0,({x0:=0,x1:=0,x2:=0,x3:=0}:A4Int).x1,({x0:=0,x1:=0,x2:=0,x3:=0}:A4Int).x2,({x0:=0,x1:=0,x2:=0,x3:=0}:A4Int).x3,a2)) (some (({x0:=a0.Primary,x1:=a0.Secondary,x2:=a0.Tertiary,x3:=0}:A4Int).x0,({x0:=a0.Primary,x1:=a0.Secondary,x2:=a0.Tertiary,x3:=0}:A4Int).x1,({x0:=a0.Primary,x1:=a0.Secondary,x2:=a0.Tertiary,x3:=0}:A4Int).x2,y1,a2))))).bind fun (y2:Int×Int×Int×Int×Bool)=>
(cond (decide (a1=2)) (some 0) (some y2.2.2.2.1)).bind fun (y3:Int)=>
 some (({x0:=y2.1,x1:=y2.2.1,x2:=y2.2.2.1,x3:=y3}:A4Int),y2.2.2.2.2))
def zDJ (a0:Int):Option (Unit):=
 some ()
def jS (v2:Int) (v3:Int) (r3000:(List Int)):Option (Stp (Int×Int×(List Int)) (((List Int)))):=
 cond (decide (v2 < v3)) ((z7 r3000 v3).bind fun t20=>
(z7 r3000 v2).bind fun t24=>
(z7 r3000 v2).bind fun t26=>
(u7 r3000 v2 t20).bind fun r3000_3x13=>
(z7 r3000_3x13 v3).bind fun t27=>
(u7 r3000_3x13 v3 t24).bind fun r3000_3x15=>
 some (.next (wi (v2+1),wi (v3 - 1),r3000_3x15))) (some (.done r3000))
def xJ (a0:(List Int)):Option ((List Int)):=
(zE (fun (x:Int×Int×(List Int))=>jS x.1 x.2.1 x.2.2) (0,wi ((a0.length:Int) - 1),a0)).bind fun (y1:(List Int))=>
 some y1
def jT (t24:A4Int×Bool) (v25:Int) (r4100:(List Int)) (r4101:(List Int)) (r4102:(List Int)) (r4103:(List Int)):Option (Stp (Int×(List Int)×(List Int)×(List Int)×(List Int)) (((List Int)×(List Int)×(List Int)×(List Int)))):=
 cond (decide (v25=0)) (((z7 [t24.1.x0,t24.1.x1,t24.1.x2,t24.1.x3] (0:Int)).bind fun t28=>
 cond (!decide (t28=0)) ((app r4100 [t28]).bind fun r4100_4=>
 some r4100_4) (some r4100)).bind fun (y3:(List Int))=>
 some (.next (wi ((0:Int)+1),y3,r4101,r4102,r4103))) (cond (decide (v25=1)) (((z7 [t24.1.x0,t24.1.x1,t24.1.x2,t24.1.x3] (1:Int)).bind fun t28=>
 cond (!decide (t28=0)) ((app r4101 [t28]).bind fun r4101_6=>
 some r4101_6) (some r4101)).bind fun (y5:(List Int))=>
 some (.next (wi ((1:Int)+1),r4100,y5,r4102,r4103))) (cond (decide (v25=2)) (((z7 [t24.1.x0,t24.1.x1,t24.1.x2,t24.1.x3] (2:Int)).bind fun t28=>
 cond (!decide (t28=0)) ((app r4102 [t28]).bind fun r4102_8=>
 some r4102_8) (some r4102)).bind fun (y7:(List Int))=>
 some (.next (wi ((2:Int)+1),r4100,r4101,y7,r4103))) (cond (decide (v25=3)) (((z7 [t24.1.x0,t24.1.x1,t24.1.x2,t24.1.x3] (3:Int)).bind fun t28=>
 cond (!decide (t28=0)) ((app r4103 [t28]).bind fun r4103_10=>
 some r4103_10) (some r4103)).bind fun (y9:(List Int))=>
 some (.next (wi ((3:Int)+1),r4100,r4101,r4102,y9))) (cond (decide (v25=4)) (some (.done (r4100,r4101,r4102,r4103))) (none)))))
def vK (a0:(List Element)) (t12:Options) (v18:Int) (k2515_0:Bool) (r4100:(List Int)) (r4101:(List Int)) (r4102:(List Int)) (r4103:(List Int)):Option (Stp (Int×Bool×(List Int)×(List Int)×(List Int)×(List Int)) (((List Int)×(List Int)×(List Int)×(List Int)))):=
 cond (decide (v18 < (a0.length:Int))) ((z7 a0 v18).bind fun t20=>
(uX t20 t12.Variable k2515_0).bind fun t24=>
(zE (fun (x:Int×(List Int)×(List Int)×(List Int)×(List Int))=>jT t24 x.1 x.2.1 x.2.2.1 x.2.2.2.1 x.2.2.2.2) (0,r4100,r4101,r4102,r4103)).bind fun (y2:(List Int)×(List Int)×(List Int)×(List Int))=>
 some (.next (wi (v18+1),t24.2,y2.1,y2.2.1,y2.2.2.1,y2.2.2.2))) (some (.done (r4100,r4101,r4102,r4103)))
def xY (a0:(List Element)) (a1:Options):Option ((List (List Int))):=
(uJ ({Strength:=a1.Strength,Variable:=a1.Variable,Backward:=a1.Backward,Identical:=a1.Identical}:Options)).bind fun t12=>
(zDJ t12.Variable).bind fun t15=>
(zE (fun (x:Int×Bool×(List Int)×(List Int)×(List Int)×(List Int))=>vK a0 t12 x.1 x.2.1 x.2.2.1 x.2.2.2.1 x.2.2.2.2.1 x.2.2.2.2.2) (0,false,[],[],[],[])).bind fun (y1:(List Int)×(List Int)×(List Int)×(List Int))=>
(cond t12.Backward ((xJ y1.2.1).bind fun t45=>
 some t45) (some y1.2.1)).bind fun (y11:(List Int))=>
(slc [({x0:=y1.1,x1:=y11,x2:=y1.2.2.1,x3:=y1.2.2.2}:A4ListInt).x0,({x0:=y1.1,x1:=y11,x2:=y1.2.2.1,x3:=y1.2.2.2}:A4ListInt).x1,({x0:=y1.1,x1:=y11,x2:=y1.2.2.1,x3:=y1.2.2.2}:A4ListInt).x2,({x0:=y1.1,x1:=y11,x2:=y1.2.2.1,x3:=y1.2.2.2}:A4ListInt).x3] 0 t12.Strength).bind fun t48=>
(app [] t48).bind fun r49_12=>
 some r49_12
def zB6 (t21:(List (List Int))) (v23:Int) (r1009:(List Int)):Option (Stp (Int×(List Int)) (((List Int)))):=
 cond (decide (v23 < (t21.length:Int))) ((z7 t21 v23).bind fun t26=>
(cond (decide (0 < v23)) ((app r1009 [0]).bind fun r1009_3=>
 some r1009_3) (some r1009)).bind fun (y2:(List Int))=>
(app y2 t26).bind fun r1009_4=>
 some (.next (wi (v23+1),r1009_4))) (some (.done r1009))
def zB7 (t46:(List Int)) (v48:Int) (r1009:(List Int)):Option (Stp (Int×(List Int)) (((List Int)))):=
 cond (decide (v48 < (t46.length:Int))) (((z7 t46 v48).bind fun t50=>
(pv (decide (0≤t50))).bind fun b54=>
 cond (b54&&(decide (t50≤1114111))) ((app r1009 [wi (t50+1)]).bind fun r1009_8=>
 some r1009_8) (some r1009)).bind fun (y7:(List Int))=>
 some (.next (wi (v48+1),y7))) (some (.done r1009))
def zBC (a0:Norm) (a1:Collation) (a2:Options) (a3:(List Int)):Option ((List Int)):=
(uJ ({Strength:=a2.Strength,Variable:=a2.Variable,Backward:=a2.Backward,Identical:=a2.Identical}:Options)).bind fun t15=>
(jJ a0 a1 a3).bind fun t19=>
(xY t19 ({Strength:=t15.Strength,Variable:=t15.Variable,Backward:=t15.Backward,Identical:=t15.Identical}:Options)).bind fun t21=>
(zE (fun (x:Int×(List Int))=>zB6 t21 x.1 x.2) (0,[])).bind fun (y1:(List Int))=>
 cond (!t15.Identical) (some y1) ((app y1 [0]).bind fun r1009_5=>
(wN a0 a3 false).bind fun t46=>
(zE (fun (x:Int×(List Int))=>zB7 t46 x.1 x.2) (0,r1009_5)).bind fun (y6:(List Int))=>
 some y6)
def zA0 (a3:(List (List Int))) (a0:Norm) (a1:Collation) (a2:Options) (v17:Int) (r14:(List (List Int))):Option (Stp (Int×(List (List Int))) (((List (List Int))))):=
 cond (decide (v17 < (a3.length:Int))) ((z7 a3 v17).bind fun t20=>
(zBC a0 a1 a2 t20).bind fun t28=>
(z7 r14 v17).bind fun t29=>
(u7 r14 v17 t28).bind fun r14_2=>
 some (.next (wi (v17+1),r14_2))) (some (.done r14))
def zD3 (a0:Norm) (a1:Collation) (a2:Options) (a3:(List (List Int))):Option ((List (List Int))):=
(mkM [] (a3.length:Int)).bind fun r14=>
(zE (fun (x:Int×(List (List Int)))=>zA0 a3 a0 a1 a2 x.1 x.2) (0,r14)).bind fun (y1:(List (List Int)))=>
 some y1
def zB8 (a0:Int) (a1:Int) (a2:(List (List Int))):Option (Int):=
(z7 a2 a0).bind fun t8=>
(z7 a2 a1).bind fun t12=>
(kP t8 t12).bind fun t14=>
 some t14
def zA1 (r19:(List Int)) (v22:Int) (r19q:(List Int)):Option (Stp (Int×(List Int)) (((List Int)))):=
 cond (decide (v22 < (r19.length:Int))) ((z7 r19q v22).bind fun t28=>
(u7 r19q v22 v22).bind fun r19_2=>
 some (.next (wi (v22+1),r19_2))) (some (.done r19q))
def zCT (a0:Norm) (a1:Collation) (a2:Options) (a3:(List (List Int))):Option ((List Int)):=
(zD3 a0 a1 a2 a3).bind fun t16=>
(mkM 0 (a3.length:Int)).bind fun r19=>
(zE (fun (x:Int×(List Int))=>zA1 r19 x.1 x.2) (0,r19)).bind fun (y1:(List Int))=>
(yP y1 (fun x0 x1=>zB8 x0 x1 t16)).bind fun t32=>
 some t32
def yX (a0:(List (List Int))) (a1:(List Int)→(List Int)→Option (Int)) (v5:Int):Option (Stp (Int) ((Unit)⊕(Bool))):=
 cond (decide (0 < v5)) ((z7 a0 v5).bind fun t16=>
(z7 a0 (wi (v5 - 1))).bind fun t21=>
(a1 t16 t21).bind fun t23=>
 cond (decide (t23 < 0)) (some (.done (.inr (false)))) (some (.next (wi (v5 - 1))))) (some (.done (.inl (()))))
def xA (a0:(List (List Int))) (a1:(List Int)→(List Int)→Option (Int)):Option (Bool):=
(zE (fun (x:Int)=>yX a0 a1 x) (wi ((a0.length:Int) - 1))).bind fun (y1:(Unit)⊕(Bool))=>
 y1.elim (fun y1=>some true) (fun y1=>some y1)
def yY (a0:(List (List Int))) (a2:(List Int)→(List Int)→Option (Int)) (a1:(List Int)) (v9:Int) (v10:Int):Option (Stp (Int×Int) ((Int))):=
 cond (decide (v9 < v10)) (((z7 a0 (wi ((wu (wi (v9+v10))) / 2 ^ 1))).bind fun t27=>
(a2 t27 a1).bind fun t30=>
 cond (decide (t30 < 0)) (some (wi ((wi ((wu (wi (v9+v10))) / 2 ^ 1))+1),v10)) (some (v9,wi ((wu (wi (v9+v10))) / 2 ^ 1)))).bind fun (y2:Int×Int)=>
 some (.next (y2.1,y2.2))) (some (.done v9))
def k7 (a0:(List (List Int))) (a1:(List Int)) (a2:(List Int)→(List Int)→Option (Int)):Option (Int×Bool):=
(zE (fun (x:Int×Int)=>yY a0 a2 a1 x.1 x.2) (0,(a0.length:Int))).bind fun (y1:Int)=>
(pv (decide (y1 < (a0.length:Int)))).bind fun b39=>
(gM b39 (z7 a0 y1)).bind fun t43=>
(gM b39 (a2 t43 a1)).bind fun t46=>
 some (y1,(b39&&(decide (t46=0))))
def wO (a0:Norm) (a1:Collation) (a2:Options) (a3:(List (List Int))) (a4:(List Int)):Option (Int×Bool):=
(zD3 a0 a1 a2 a3).bind fun t17=>
(xA t17 (fun x0 x1=>kP x0 x1)).bind fun t19=>
 cond (!t19) (some ((-1),false)) ((zBC a0 a1 a2 a4).bind fun t26=>
(k7 t17 t26 (fun x0 x1=>kP x0 x1)).bind fun t27=>
 some (t27.1,t27.2))
def uS (a0:Norm) (a1:Collation) (a2:Options) (a3:(List Int)) (a4:(List Int)):Option (Int):=
(zBC a0 a1 a2 a3).bind fun t15=>
(zBC a0 a1 a2 a4).bind fun t20=>
(kP t15 t20).bind fun t21=>
 some t21
def zC5 (a0:(List Int)) (a1:(List Int)):Option (Bool):=
(kP a0 a1).bind fun t7=>
 some (decide (t7=0))
def vL (t19:(List (List Int))) (t25:(List (List Int))) (v31:Int):Option (Stp (Int) ((Unit)⊕(Int))):=
 cond (decide (v31 < (min (t19.length:Int) (t25.length:Int)))) ((z7 t19 v31).bind fun t36=>
(z7 t25 v31).bind fun t40=>
(zC5 t36 t40).bind fun t42=>
 cond (!t42) (some (.done (.inr (wi (v31+1))))) (some (.next (wi (v31+1))))) (some (.done (.inl (()))))
def zC9 (a0:Norm) (a1:Collation) (a2:Options) (a3:(List Int)) (a4:(List Int)):Option (Int):=
(jJ a0 a1 a3).bind fun t17=>
(xY t17 a2).bind fun t19=>
(jJ a0 a1 a4).bind fun t23=>
(xY t23 a2).bind fun t25=>
(zE (fun (x:Int)=>vL t19 t25 x) 0).bind fun (y1:(Unit)⊕(Int))=>
 y1.elim (fun y1=>(uS a0 a1 a2 a3 a4).bind fun t52=>
 cond (!decide (t52=0)) (some 5) (some 0)) (fun y1=>some y1)
def zAG (a0:(List Int)) (a1:(List Int)) (v5:Int):Option (Stp (Int) ((Unit)⊕(Int))):=
(pv (decide (v5 < (a0.length:Int)))).bind fun b10=>
 cond (b10&&(decide (v5 < (a1.length:Int)))) ((z7 a0 v5).bind fun t20=>
(z7 a1 v5).bind fun t24=>
 cond (decide (t20 < t24)) (some (.done (.inr ((-1))))) ((z7 a0 v5).bind fun t29=>
(z7 a1 v5).bind fun t33=>
 cond (decide (t33 < t29)) (some (.done (.inr (1)))) (some (.next (wi (v5+1)))))) (some (.done (.inl (()))))
def zBL (a0:(List Int)) (a1:(List Int)):Option (Int):=
(zE (fun (x:Int)=>zAG a0 a1 x) 0).bind fun (y1:(Unit)⊕(Int))=>
 y1.elim (fun y1=>cond (decide ((a0.length:Int) < (a1.length:Int))) (some (-1)) (cond (decide ((a1.length:Int) < (a0.length:Int))) (some 1) (some 0))) (fun y1=>some y1)
def u2 (a0:(List Int)) (a1:(List Int)):Option (Bool):=
(zBL a0 a1).bind fun t7=>
 some (decide (t7=0))
def wA (a1:(List Int)) (a2:(List Int)) (items:(List (Int×Int))) (stop:Bool) (v10:Int) (v1000000:Nat):Option (Stp (Int×Nat) ((Nat)⊕(Nat))):=
 cond (decide (v10 < (min (a1.length:Int) (a2.length:Int)))) ((z7 a1 v10).bind fun t16=>
(z7 a2 v10).bind fun t20=>
(yM items v1000000 (t16,t20)).bind fun u22=>
 cond (!(goB stop items.length v1000000)) (some (.done (.inr (v1000000+1)))) (some (.next (wi (v10+1),v1000000+1)))) (some (.done (.inl (v1000000))))
def zC6 (items:List (Int×Int)) (stop:Bool) (a1:(List Int)) (a2:(List Int)):Option Unit:=
(zE (fun (x:Int×Nat)=>wA a1 a2 items stop x.1 x.2) (0,0)).bind fun (y1:(Nat)⊕(Nat))=>
 y1.elim (fun y1=>zTL items y1) (fun y1=>zTL items y1)
def k8 (k10_0:Bool) (xv:Int×Int):Option (Bool×(Bool)):=
 cond (!decide (xv.1=xv.2)) (some (false,false)) (some (true,k10_0))
def wP (a0:Norm) (a1:Collation) (a2:Options) (a3:(List Int)) (a4:(List Int)):Option (Bool):=
(jJ a0 a1 a3).bind fun t18=>
(xY t18 a2).bind fun t20=>
(z7 t20 (0:Int)).bind fun t21=>
(jJ a0 a1 a4).bind fun t26=>
(xY t26 a2).bind fun t28=>
(z7 t28 (0:Int)).bind fun t29=>
 cond (decide ((t21.length:Int) < (t29.length:Int))) (some false) ((zLP (fun (s:Bool) (x:Int×Int)=>k8 s x) false (wL t21 t29)).bind fun (y1:Nat×Bool×(Bool))=>
(zC6 ((wL t21 t29).take y1.1) (!y1.2.1) t21 t29).bind fun uy1=>
 cond y1.2.1 (some true) (some y1.2.2))
def u3:Option (Bool):=
(zJW).bind fun t9=>
(zCT ({Classes:=({Classes:=[],Decomp:=[],Excluded:=(({Ranges:=[]}):Set)}:Norm).Classes,Decomp:=({Classes:=[],Decomp:=[],Excluded:=(({Ranges:=[]}):Set)}:Norm).Decomp,Excluded:=({Ranges:=(({Classes:=[],Decomp:=[],Excluded:=(({Ranges:=[]}):Set)}:Norm).Excluded).Ranges}:Set)}:Norm) t9 ({Strength:=3,Variable:=1,Backward:=false,Identical:=false}:Options) ([[98],[65],[97]])).bind fun t19=>
(wO ({Classes:=({Classes:=[],Decomp:=[],Excluded:=(({Ranges:=[]}):Set)}:Norm).Classes,Decomp:=({Classes:=[],Decomp:=[],Excluded:=(({Ranges:=[]}):Set)}:Norm).Decomp,Excluded:=({Ranges:=(({Classes:=[],Decomp:=[],Excluded:=(({Ranges:=[]}):Set)}:Norm).Excluded).Ranges}:Set)}:Norm) t9 ({Strength:=3,Variable:=1,Backward:=false,Identical:=false}:Options) ([[97],[65]]) [65]).bind fun t28=>
(wO ({Classes:=({Classes:=[],Decomp:=[],Excluded:=(({Ranges:=[]}):Set)}:Norm).Classes,Decomp:=({Classes:=[],Decomp:=[],Excluded:=(({Ranges:=[]}):Set)}:Norm).Decomp,Excluded:=({Ranges:=(({Classes:=[],Decomp:=[],Excluded:=(({Ranges:=[]}):Set)}:Norm).Excluded).Ranges}:Set)}:Norm) t9 ({Strength:=3,Variable:=1,Backward:=false,Identical:=false}:Options) ([[65],[97]]) [65]).bind fun t39=>
(uS ({Classes:=({Classes:=[],Decomp:=[],Excluded:=(({Ranges:=[]}):Set)}:Norm).Classes,Decomp:=({Classes:=[],Decomp:=[],Excluded:=(({Ranges:=[]}):Set)}:Norm).Decomp,Excluded:=({Ranges:=(({Classes:=[],Decomp:=[],Excluded:=(({Ranges:=[]}):Set)}:Norm).Excluded).Ranges}:Set)}:Norm) t9 ({Strength:=3,Variable:=1,Backward:=false,Identical:=false}:Options) [97] [65]).bind fun t47=>
(pv (decide (t47=(-1)))).bind fun b49=>
(gM b49 (zC9 ({Classes:=({Classes:=[],Decomp:=[],Excluded:=(({Ranges:=[]}):Set)}:Norm).Classes,Decomp:=({Classes:=[],Decomp:=[],Excluded:=(({Ranges:=[]}):Set)}:Norm).Decomp,Excluded:=({Ranges:=(({Classes:=[],Decomp:=[],Excluded:=(({Ranges:=[]}):Set)}:Norm).Excluded).Ranges}:Set)}:Norm) t9 ({Strength:=3,Variable:=1,Backward:=false,Identical:=false}:Options) [97] [65])).bind fun t55=>
(pv (b49&&(decide (t55=3)))).bind fun b58=>
(gM b58 (u2 t19 [2,1,0])).bind fun t61=>
(pv (b58&&t61)).bind fun b63=>
(pv (b63&&(decide (t28.1=1)))).bind fun b67=>
(pv (b67&&t28.2)).bind fun b70=>
(pv (b70&&(decide (t39.1=(-1))))).bind fun b74=>
(pv (b74&&(!t39.2))).bind fun b78=>
(gM b78 (wP ({Classes:=({Classes:=[],Decomp:=[],Excluded:=(({Ranges:=[]}):Set)}:Norm).Classes,Decomp:=({Classes:=[],Decomp:=[],Excluded:=(({Ranges:=[]}):Set)}:Norm).Decomp,Excluded:=({Ranges:=(({Classes:=[],Decomp:=[],Excluded:=(({Ranges:=[]}):Set)}:Norm).Excluded).Ranges}:Set)}:Norm) t9 ({Strength:=3,Variable:=1,Backward:=false,Identical:=false}:Options) [97,98] [65])).bind fun t84=>
(pv (b78&&t84)).bind fun b86=>
(gM b86 (wP ({Classes:=({Classes:=[],Decomp:=[],Excluded:=(({Ranges:=[]}):Set)}:Norm).Classes,Decomp:=({Classes:=[],Decomp:=[],Excluded:=(({Ranges:=[]}):Set)}:Norm).Decomp,Excluded:=({Ranges:=(({Classes:=[],Decomp:=[],Excluded:=(({Ranges:=[]}):Set)}:Norm).Excluded).Ranges}:Set)}:Norm) t9 ({Strength:=3,Variable:=1,Backward:=false,Identical:=false}:Options) [] [65])).bind fun t91=>
 some (b86&&(!t91))
def zG2 (a0:Options):Option (Int):=
(pv (decide (a0.Strength < 1))).bind fun b6=>
 cond (b6 ||(decide (4 < a0.Strength))) (some 1) ((pv (decide (a0.Variable < 1))).bind fun b14=>
 cond (b14 ||(decide (3 < a0.Variable))) (some 8) (some 0))
def zDA (a0:Options):Option (Options):=
(zG2 a0).bind fun t4=>
 cond (!decide (t4=0)) (some ({Strength:=3,Variable:=1,Backward:=false,Identical:=false}:Options)) (some a0)
def wF (a0:Int):Option (Bool):=
(pv (decide (0≤a0))).bind fun b5=>
 some (b5&&(decide (a0≤1114111)))
def zH0:Option ((List Range)):=
 some [({Lo:=4352,Hi:=4370}:Range),({Lo:=4449,Hi:=4469}:Range),({Lo:=4520,Hi:=4546}:Range),({Lo:=44032,Hi:=55203}:Range)]
def zB9 (a0:(List Span)) (v3:Int):Option (Stp (Int) ((Unit)⊕(Int))):=
 cond (decide (v3 < (a0.length:Int))) ((z7 a0 v3).bind fun t16=>
(wF t16.Lo).bind fun t19=>
(pv (!t19)).bind fun b21=>
(gM (!b21) (z7 a0 v3)).bind fun t24=>
(gM (!b21) (wF t24.Hi)).bind fun t27=>
(pv (b21 ||(!t27))).bind fun b30=>
(gM (!b30) (z7 a0 v3)).bind fun t33=>
(gM (!b30) (z7 a0 v3)).bind fun t38=>
(pv (b30 ||(decide (t38.Hi < t33.Lo)))).bind fun b43=>
(gM (!b43) (z7 a0 v3)).bind fun t46=>
(pv (b43 ||(decide (t46.Value < 1)))).bind fun b51=>
(gM (!b51) (z7 a0 v3)).bind fun t54=>
 cond (b51 ||(decide (254 < t54.Value))) (some (.done (.inr (1)))) (some (.next (wi (v3+1))))) (some (.done (.inl (()))))
def zCA (a0:(List Span)) (v4:Int):Option (Stp (Int) ((Unit)⊕(Int))):=
 cond (decide (v4 < (a0.length:Int))) ((z7 a0 v4).bind fun t67=>
(z7 a0 (wi (v4 - 1))).bind fun t73=>
(pv (decide (t67.Lo≤t73.Hi))).bind fun b77=>
(gM (!b77) (z7 a0 v4)).bind fun t80=>
(gM (!b77) (z7 a0 (wi (v4 - 1)))).bind fun t86=>
(pv (decide (t80.Lo=(wi (t86.Hi+1))))).bind fun b91=>
(gM (!b77&&b91) (z7 a0 v4)).bind fun t94=>
(gM (!b77&&b91) (z7 a0 (wi (v4 - 1)))).bind fun t100=>
 cond (b77 ||(b91&&(decide (t94.Value=t100.Value)))) (some (.done (.inr (4)))) (some (.next (wi (v4+1))))) (some (.done (.inl (()))))
def uD (t106:(List Range)) (a0:(List Span)) (v6:Int) (v7:Int):Option (Stp (Int) ((Unit)⊕(Int))):=
 cond (decide (v7 < (t106.length:Int))) ((z7 a0 v6).bind fun t121=>
(z7 t106 v7).bind fun t126=>
(pv (decide (t121.Lo≤t126.Hi))).bind fun b130=>
(gM b130 (z7 t106 v7)).bind fun t133=>
(gM b130 (z7 a0 v6)).bind fun t138=>
 cond (b130&&(decide (t133.Lo≤t138.Hi))) (some (.done (.inr (11)))) (some (.next (wi (v7+1))))) (some (.done (.inl (()))))
def zCB (a0:(List Span)) (t106:(List Range)) (v6:Int):Option (Stp (Int) ((Unit)⊕(Int))):=
 cond (decide (v6 < (a0.length:Int))) ((zE (fun (x:Int)=>uD t106 a0 v6 x) 0).bind fun (y4:(Unit)⊕(Int))=>
 y4.elim (fun y4=>some (.next (wi (v6+1)))) (fun y4=>some (.done (.inr (y4))))) (some (.done (.inl (()))))
def zE4 (a0:(List Span)):Option (Int):=
(zE (fun (x:Int)=>zB9 a0 x) 0).bind fun (y1:(Unit)⊕(Int))=>
 y1.elim (fun y1=>(zE (fun (x:Int)=>zCA a0 x) 1).bind fun (y2:(Unit)⊕(Int))=>
 y2.elim (fun y2=>(zH0).bind fun t106=>
(zE (fun (x:Int)=>zCB a0 t106 x) 0).bind fun (y3:(Unit)⊕(Int))=>
 y3.elim (fun y3=>some 0) (fun y3=>some y3)) (fun y2=>some y2)) (fun y1=>some y1)
def zCC (a0:Mapping) (v3:Int):Option (Stp (Int) ((Unit)⊕(Bool))):=
 cond (decide (v3 < (a0.To.length:Int))) ((z7 a0.To v3).bind fun t14=>
(wF t14).bind fun t16=>
 cond (!t16) (some (.done (.inr (false)))) (some (.next (wi (v3+1))))) (some (.done (.inl (()))))
def zG3 (a0:Mapping):Option (Bool):=
(zE (fun (x:Int)=>zCC a0 x) 0).bind fun (y1:(Unit)⊕(Bool))=>
 y1.elim (fun y1=>(wF a0.From).bind fun t20=>
 some t20) (fun y1=>some y1)
def zGO (a0:Str) (v3:Int):Option (Stp (Int) ((Unit)⊕(Bool))):=
 cond (decide (v3 < (a0.length:Int))) ((z0D a0 v3).bind fun t13=>
(pv (decide (65≤t13))).bind fun b16=>
(pv (b16&&(decide (t13≤90)))).bind fun b20=>
(pv (decide (97≤t13))).bind fun b23=>
(pv (b20 ||(b23&&(decide (t13≤122))))).bind fun b28=>
(pv (decide (48≤t13))).bind fun b31=>
(pv (b28 ||(b31&&(decide (t13≤57))))).bind fun b36=>
 cond (!(b36 ||(decide (t13=95)))) (some (.done (.inr (false)))) (some (.next (wi (v3+1))))) (some (.done (.inl (()))))
def zFZ (a0:Str):Option (Bool):=
(zE (fun (x:Int)=>zGO a0 x) 0).bind fun (y1:(Unit)⊕(Bool))=>
 y1.elim (fun y1=>(pv (decide (1≤(a0.length:Int)))).bind fun b44=>
 some (b44&&(decide ((a0.length:Int)≤32)))) (fun y1=>some y1)
def uE (v3:Int) (a0:(List Mapping)) (v4:Int):Option (Stp (Int) ((Unit)⊕(Bool))):=
 cond (decide (v4 < v3)) ((z7 a0 v3).bind fun t18=>
(z7 a0 v4).bind fun t23=>
(pv (decide (t18.From=t23.From))).bind fun b27=>
(gM b27 (z7 a0 v3)).bind fun t30=>
(gM b27 (z7 a0 v4)).bind fun t35=>
 cond (b27&&(t30.Tag==t35.Tag)) (some (.done (.inr (true)))) (some (.next (wi (v4+1))))) (some (.done (.inl (()))))
def zCD (a0:(List Mapping)) (v3:Int):Option (Stp (Int) ((Unit)⊕(Bool))):=
 cond (decide (v3 < (a0.length:Int))) ((zE (fun (x:Int)=>uE v3 a0 x) 0).bind fun (y2:(Unit)⊕(Bool))=>
 y2.elim (fun y2=>some (.next (wi (v3+1)))) (fun y2=>some (.done (.inr (y2))))) (some (.done (.inl (()))))
def zG4 (a0:(List Mapping)):Option (Bool):=
(zE (fun (x:Int)=>zCD a0 x) 0).bind fun (y1:(Unit)⊕(Bool))=>
 y1.elim (fun y1=>some false) (fun y1=>some y1)
def uO (a0:(List Mapping)) (v3:Int):Option (Stp (Int) ((Unit)⊕(Int))):=
 cond (decide (v3 < (a0.length:Int))) ((z7 a0 v3).bind fun t14=>
(zG3 t14).bind fun t16=>
 cond (!t16) (some (.done (.inr (1)))) (some (.next (wi (v3+1))))) (some (.done (.inl (()))))
def uP (a0:(List Mapping)) (v4:Int):Option (Stp (Int) ((Unit)⊕(Int))):=
 cond (decide (v4 < (a0.length:Int))) ((z7 a0 v4).bind fun t26=>
 cond (decide (64 < (t26.To.length:Int))) (some (.done (.inr (2)))) (some (.next (wi (v4+1))))) (some (.done (.inl (()))))
def uQ (a0:(List Mapping)) (v5:Int):Option (Stp (Int) ((Unit)⊕(Int))):=
 cond (decide (v5 < (a0.length:Int))) ((z7 a0 v5).bind fun t39=>
(pv (!(t39.Tag== []))).bind fun b43=>
(gM b43 (z7 a0 v5)).bind fun t46=>
(gM b43 (zFZ t46.Tag)).bind fun t49=>
 cond (b43&&(!t49)) (some (.done (.inr (6)))) (some (.next (wi (v5+1))))) (some (.done (.inl (()))))
def zDU (a0:(List Mapping)):Option (Int):=
(zE (fun (x:Int)=>uO a0 x) 0).bind fun (y1:(Unit)⊕(Int))=>
 y1.elim (fun y1=>(zE (fun (x:Int)=>uP a0 x) 0).bind fun (y2:(Unit)⊕(Int))=>
 y2.elim (fun y2=>(zE (fun (x:Int)=>uQ a0 x) 0).bind fun (y3:(Unit)⊕(Int))=>
 y3.elim (fun y3=>(zG4 a0).bind fun t53=>
 cond t53 (some 5) (some 0)) (fun y3=>some y3)) (fun y2=>some y2)) (fun y1=>some y1)
def zH1 (a0:Mapping) (a1:Mapping):Option (Bool):=
(pv (decide (a0.From < a1.From))).bind fun b10=>
(pv (decide (a0.From=a1.From))).bind fun b16=>
 some (b10 ||(b16&&(Op.bytesLess a0.Tag a1.Tag)))
def zCE (a0:(List Mapping)) (v4:Int):Option (Stp (Int) ((Unit)⊕(Int))):=
 cond (decide (v4 < (a0.length:Int))) ((z7 a0 (wi (v4 - 1))).bind fun t19=>
(z7 a0 v4).bind fun t23=>
(zH1 t19 t23).bind fun t25=>
 cond (!t25) (some (.done (.inr (4)))) (some (.next (wi (v4+1))))) (some (.done (.inl (()))))
def zG5 (a0:(List Mapping)):Option (Int):=
(zDU a0).bind fun t6=>
 cond (!decide (t6=0)) (some t6) ((zE (fun (x:Int)=>zCE a0 x) 1).bind fun (y1:(Unit)⊕(Int))=>
 y1.elim (fun y1=>some 0) (fun y1=>some y1))
def jP (a0:(List Int)) (a1:Int) (v6:Bool) (v7:Int) (r1005:(List Int)):Option (Stp (Bool×Int×(List Int)) ((Bool×(List Int)))):=
 cond (decide (v7 < (a0.length:Int))) ((pv (!v6)).bind fun b16=>
(gM b16 (z7 a0 v7)).bind fun t19=>
(cond (b16&&(decide (a1≤t19))) ((z7 a0 v7).bind fun t26=>
 cond (decide (a1 < t26)) ((app r1005 [a1]).bind fun r1005_3=>
 some (true,r1005_3)) (some (true,r1005))) (some (v6,r1005))).bind fun (y2:Bool×(List Int))=>
(z7 a0 v7).bind fun t37=>
(app y2.2 [t37]).bind fun r1005_4=>
 some (.next (y2.1,wi (v7+1),r1005_4))) (some (.done (v6,r1005)))
def zDV (a0:(List Int)) (a1:Int):Option ((List Int)):=
(zE (fun (x:Bool×Int×(List Int))=>jP a0 a1 x.1 x.2.1 x.2.2) (false,0,[])).bind fun (y1:Bool×(List Int))=>
(cond (!y1.1) ((app y1.2 [a1]).bind fun r1005_6=>
 some r1005_6) (some y1.2)).bind fun (y5:(List Int))=>
 some y5
def vO (a1:Set) (v0:(List Int)) (v5:Int):Option (Stp ((List Int)×Int) (((List Int)))):=
 cond (decide (v5 < (a1.Ranges.length:Int))) (((z7 a1.Ranges v5).bind fun t18=>
(z7 a1.Ranges v5).bind fun t24=>
(wF t18.Lo).bind fun t28=>
(cond t28 ((zDV v0 t18.Lo).bind fun t31=>
 some t31) (some v0)).bind fun (y3:(List Int))=>
(pv (decide (0≤t24.Hi))).bind fun b34=>
 cond (b34&&(decide (t24.Hi < 1114111))) ((zDV y3 (wi (t24.Hi+1))).bind fun t41=>
 some t41) (some y3)).bind fun (y2:(List Int))=>
 some (.next (y2,wi (v5+1)))) (some (.done v0))
def zF0 (a0:(List Int)) (a1:Set):Option ((List Int)):=
(zE (fun (x:(List Int)×Int)=>vO a1 x.1 x.2) (a0,0)).bind fun (y1:(List Int))=>
(zDV y1 0).bind fun t43=>
 some t43
def zD4 (a0:Set) (a1:Int) (v5:Int):Option (Stp (Int) ((Unit)⊕(Bool))):=
 cond (decide (v5 < (a0.Ranges.length:Int))) ((wF a1).bind fun t14=>
(pv t14).bind fun b15=>
(gM b15 (z7 a0.Ranges v5)).bind fun t19=>
(pv (b15&&(decide (t19.Lo≤a1)))).bind fun b25=>
(gM b25 (z7 a0.Ranges v5)).bind fun t30=>
 cond (b25&&(decide (a1≤t30.Hi))) (some (.done (.inr (true)))) (some (.next (wi (v5+1))))) (some (.done (.inl (()))))
def zF1 (a0:Set) (a1:Int):Option (Bool):=
(zE (fun (x:Int)=>zD4 a0 a1 x) 0).bind fun (y1:(Unit)⊕(Bool))=>
 y1.elim (fun y1=>some false) (fun y1=>some y1)
def zJG (a0:Int) (a1:Bool) (a2:Bool):Option (Bool):=
 cond (decide (a0=1)) ((pv a1).bind fun b11=>
 some (b11 ||a2)) (cond (decide (a0=2)) ((pv a1).bind fun b17=>
 some (b17&&a2)) ((pv a1).bind fun b21=>
 some (b21&&(!a2))))
def jF (t16:(List Int)) (a0:Set) (a1:Set) (a2:Int) (v9:Bool) (v10:Int) (r4160:(List Range)):Option (Stp (Bool×Int×(List Range)) (((List Range)))):=
 cond (decide (v10 < (t16.length:Int))) ((cond (decide ((wi (v10+1)) < (t16.length:Int))) ((z7 t16 (wi (v10+1))).bind fun t31=>
 some (wi (t31 - 1))) (some 1114111)).bind fun (y2:Int)=>
(z7 t16 v10).bind fun t38=>
(zF1 a0 t38).bind fun t40=>
(z7 t16 v10).bind fun t44=>
(zF1 a1 t44).bind fun t46=>
(zJG a2 t40 t46).bind fun t47=>
(pv t47).bind fun b49=>
(cond (b49&&v9) ((z7 r4160 (wi ((r4160.length:Int) - 1))).bind fun t59=>
(u7 r4160 (wi ((r4160.length:Int) - 1)) ({t59 with Hi:=y2})).bind fun r4160_4=>
 some r4160_4) (some r4160)).bind fun (y3:(List Range))=>
(pv t47).bind fun b62=>
(cond (b62&&(!v9)) ((z7 t16 v10).bind fun t70=>
(app y3 [({Lo:=t70,Hi:=y2}:Range)]).bind fun r4160_6=>
 some r4160_6) (some y3)).bind fun (y5:(List Range))=>
 some (.next (t47,wi (v10+1),y5))) (some (.done r4160))
def zGP (a0:Set) (a1:Set) (a2:Int):Option (Set):=
(zF0 [] a0).bind fun t14=>
(zF0 t14 a1).bind fun t16=>
(zE (fun (x:Bool×Int×(List Range))=>jF t16 a0 a1 a2 x.1 x.2.1 x.2.2) (false,0,[])).bind fun (y1:(List Range))=>
 some ({Ranges:=y1}:Set)
def zII (a0:(List Range)):Option (Set):=
(zGP ({Ranges:=a0}:Set) ({Ranges:=[]}:Set) 1).bind fun t6=>
 some t6
def zDB (a0:Set) (a1:Set) (v5:Int):Option (Stp (Int) ((Unit)⊕(Bool))):=
 cond (decide (v5 < (a0.Ranges.length:Int))) ((z7 a0.Ranges v5).bind fun t23=>
(z7 a1.Ranges v5).bind fun t28=>
 cond (!decide (t23=t28)) (some (.done (.inr (false)))) (some (.next (wi (v5+1))))) (some (.done (.inl (()))))
def zIJ (a0:Set) (a1:Set):Option (Bool):=
 cond (!decide ((a0.Ranges.length:Int)=(a1.Ranges.length:Int))) (some false) ((zE (fun (x:Int)=>zDB a0 a1 x) 0).bind fun (y1:(Unit)⊕(Bool))=>
 y1.elim (fun y1=>some true) (fun y1=>some y1))
def zG6 (a0:Set):Option (Bool):=
(zII a0.Ranges).bind fun t6=>
(zIJ a0 t6).bind fun t7=>
 some t7
def zDC (a0:(List Mapping)) (a1:Int) (a2:Bool) (v7:Int):Option (Stp (Int) ((Unit)⊕(Int))):=
 cond (decide (v7 < (a0.length:Int))) ((z7 a0 v7).bind fun t16=>
(pv (decide (t16.From=a1))).bind fun b21=>
(pv a2).bind fun b23=>
(gM (b21&& !b23) (z7 a0 v7)).bind fun t26=>
 cond (b21&&(b23 ||(t26.Tag== []))) (some (.done (.inr (v7)))) (some (.next (wi (v7+1))))) (some (.done (.inl (()))))
def zDW (a0:(List Mapping)) (a1:Int) (a2:Bool):Option (Int):=
(zE (fun (x:Int)=>zDC a0 a1 a2 x) 0).bind fun (y1:(Unit)⊕(Int))=>
 y1.elim (fun y1=>some (-1)) (fun y1=>some y1)
def zF2 (a0:Int):Option (Int):=
(pv (decide (4352≤a0))).bind fun b5=>
 cond (b5&&(decide (a0≤4370))) (some 1) ((pv (decide (4449≤a0))).bind fun b11=>
 cond (b11&&(decide (a0≤4469))) (some 2) ((pv (decide (4520≤a0))).bind fun b17=>
 cond (b17&&(decide (a0≤4546))) (some 3) ((pv (decide (44032≤a0))).bind fun b23=>
 cond (b23&&(decide (a0≤55203))) ((zI2 (wi (a0 - 44032)) 28).bind fun t29=>
 cond (decide (t29=0)) (some 4) (some 5)) (some 0))))
def wQ (a0:(List Span)) (a1:Int) (v5:Int):Option (Stp (Int) ((Unit)⊕(Int))):=
 cond (decide (v5 < (a0.length:Int))) ((z7 a0 v5).bind fun t17=>
(pv (decide (t17.Lo≤a1))).bind fun b22=>
(gM b22 (z7 a0 v5)).bind fun t26=>
 cond (b22&&(decide (a1≤t26.Hi))) ((z7 a0 v5).bind fun t33=>
 some (.done (.inr (t33.Value)))) (some (.next (wi (v5+1))))) (some (.done (.inl (()))))
def zBD (a0:(List Span)) (a1:Int):Option (Int):=
(zE4 a0).bind fun t7=>
 cond (!decide (t7=0)) (some 0) ((zE (fun (x:Int)=>wQ a0 a1 x) 0).bind fun (y1:(Unit)⊕(Int))=>
 y1.elim (fun y1=>some 0) (fun y1=>some y1))
def vP (a0:(List Mapping)) (v5:Int) (r11:(List Bool)) (v6:Bool) (v7:Int):Option (Stp (Bool×Int) ((Bool))):=
(z7 a0 v5).bind fun t27=>
 cond (decide (v7 < (t27.To.length:Int))) ((z7 a0 v5).bind fun t37=>
(z7 t37.To v7).bind fun t41=>
(zDW a0 t41 true).bind fun t43=>
(pv v6).bind fun b45=>
(pv (decide (t43 < 0))).bind fun b48=>
(gM (b45&& !b48) (z7 r11 t43)).bind fun t51=>
 some (.next ((b45&&(b48 ||t51)),wi (v7+1)))) (some (.done v6))
def zBM (a0:(List Mapping)) (v5:Int) (r11:(List Bool)):Option (Stp (Int×(List Bool)) (((List Bool)))):=
 cond (decide (v5 < (a0.length:Int))) ((zE (fun (x:Bool×Int)=>vP a0 v5 r11 x.1 x.2) (true,0)).bind fun (y3:Bool)=>
(z7 r11 v5).bind fun t58=>
(u7 r11 v5 y3).bind fun r11_4=>
 some (.next (wi (v5+1),r11_4))) (some (.done r11))
def zBN (a0:(List Mapping)) (v4:Int) (r11:(List Bool)):Option (Stp (Int×(List Bool)) (((List Bool)))):=
 cond (decide (v4 < (a0.length:Int))) ((zE (fun (x:Int×(List Bool))=>zBM a0 x.1 x.2) (0,r11)).bind fun (y2:(List Bool))=>
 some (.next (wi (v4+1),y2))) (some (.done r11))
def zIK (a0:(List Mapping)):Option ((List Bool)):=
(mkM false (a0.length:Int)).bind fun r11=>
(zE (fun (x:Int×(List Bool))=>zBN a0 x.1 x.2) (0,r11)).bind fun (y1:(List Bool))=>
 some y1
def zA2 (a0:Int):Option ((List Int)):=
(zF2 a0).bind fun t6=>
 cond (decide (t6 < 4)) (some [a0]) ((zL7 wi (wi (a0 - 44032)) 28).bind fun t13=>
(zL7 wi t13 21).bind fun t14=>
(zL7 wi (wi (a0 - 44032)) 28).bind fun t17=>
(zI2 t17 21).bind fun t18=>
(zI2 (wi (a0 - 44032)) 28).bind fun t22=>
(cond (decide (0 < t22)) ((zI2 (wi (a0 - 44032)) 28).bind fun t26=>
(app [wi (4352+t14),wi (4449+t18)] [wi ((wi (4520+t26)) - 1)]).bind fun r20_2=>
 some r20_2) (some [wi (4352+t14),wi (4449+t18)])).bind fun (y1:(List Int))=>
 some y1)
def xK (a0:(List Mapping)) (v7:Int) (a1:Bool) (r13:(List Int)) (v8:Int) (v9:Int):Option (Stp (Int×Int) ((Int))):=
(z7 a0 v7).bind fun t29=>
 cond (decide (v9 < (t29.To.length:Int))) (((z7 a0 v7).bind fun t39=>
(z7 t39.To v9).bind fun t43=>
(zDW a0 t43 a1).bind fun t46=>
 cond (decide (0≤t46)) ((z7 r13 t46).bind fun t52=>
 some (wi (v8+t52))) ((z7 a0 v7).bind fun t58=>
(z7 t58.To v9).bind fun t62=>
(zA2 t62).bind fun t64=>
 some (wi (v8+(t64.length:Int))))).bind fun (y5:Int)=>
 some (.next (y5,wi (v9+1)))) (some (.done v8))
def vM (a0:(List Mapping)) (a1:Bool) (v7:Int) (r13:(List Int)):Option (Stp (Int×(List Int)) (((List Int)))):=
 cond (decide (v7 < (a0.length:Int))) (((zE (fun (x:Int×Int)=>xK a0 v7 a1 r13 x.1 x.2) (0,0)).bind fun (y4:Int)=>
(z7 r13 v7).bind fun t72=>
(u7 r13 v7 (min (max y4 1) 65)).bind fun r13_6=>
(z7 a0 v7).bind fun t75=>
(pv (!(t75.Tag== []))).bind fun b79=>
 cond (b79&&(!a1)) ((z7 r13_6 v7).bind fun t85=>
(u7 r13_6 v7 1).bind fun r13_7=>
 some r13_7) (some r13_6)).bind fun (y3:(List Int))=>
 some (.next (wi (v7+1),y3))) (some (.done r13))
def vN (a0:(List Mapping)) (a1:Bool) (v6:Int) (r13:(List Int)):Option (Stp (Int×(List Int)) (((List Int)))):=
 cond (decide (v6 < (a0.length:Int))) ((zE (fun (x:Int×(List Int))=>vM a0 a1 x.1 x.2) (0,r13)).bind fun (y2:(List Int))=>
 some (.next (wi (v6+1),y2))) (some (.done r13))
def zDD (a0:(List Mapping)) (a1:Bool):Option ((List Int)):=
(mkM 0 (a0.length:Int)).bind fun r13=>
(zE (fun (x:Int×(List Int))=>vN a0 a1 x.1 x.2) (0,r13)).bind fun (y1:(List Int))=>
 some y1
def zCF (a0:Norm) (v6:Int):Option (Stp (Int) ((Unit)⊕(Int))):=
 cond (decide (v6 < (a0.Decomp.length:Int))) ((z7 a0.Decomp v6).bind fun t41=>
(zDW a0.Decomp t41.From true).bind fun t44=>
 cond (decide (t44 < v6)) (some (.done (.inr (5)))) (some (.next (wi (v6+1))))) (some (.done (.inl (()))))
def zCG (a0:Norm) (v7:Int):Option (Stp (Int) ((Unit)⊕(Int))):=
 cond (decide (v7 < (a0.Decomp.length:Int))) ((z7 a0.Decomp v7).bind fun t55=>
(pv (t55.Tag== [])).bind fun b59=>
(gM b59 (z7 a0.Decomp v7)).bind fun t62=>
(pv (b59&&(!decide ((t62.To.length:Int)=1)))).bind fun b68=>
(gM b68 (z7 a0.Decomp v7)).bind fun t71=>
 cond (b68&&(!decide ((t71.To.length:Int)=2))) (some (.done (.inr (8)))) (some (.next (wi (v7+1))))) (some (.done (.inl (()))))
def zCH (a0:Norm) (v8:Int):Option (Stp (Int) ((Unit)⊕(Int))):=
 cond (decide (v8 < (a0.Decomp.length:Int))) ((z7 a0.Decomp v8).bind fun t85=>
(zF2 t85.From).bind fun t88=>
(pv (!decide (t88=0))).bind fun b90=>
(gM (!b90) (z7 a0.Decomp v8)).bind fun t93=>
(pv (!(t93.Tag== []))).bind fun b97=>
(gM (!b90&&b97) (z7 a0.Decomp v8)).bind fun t102=>
(gM (!b90&&b97) (zBD a0.Classes t102.From)).bind fun t105=>
 cond (b90 ||(b97&&(!decide (t105=0)))) (some (.done (.inr (11)))) (some (.next (wi (v8+1))))) (some (.done (.inl (()))))
def zCI (a0:Norm) (t110:(List Bool)) (v10:Int):Option (Stp (Int) ((Unit)⊕(Int))):=
 cond (decide (v10 < (a0.Decomp.length:Int))) ((z7 t110 v10).bind fun t119=>
 cond (!t119) (some (.done (.inr (12)))) (some (.next (wi (v10+1))))) (some (.done (.inl (()))))
def zCJ (a0:Norm) (t123:(List Int)) (t125:(List Int)) (v13:Int):Option (Stp (Int) ((Unit)⊕(Int))):=
 cond (decide (v13 < (a0.Decomp.length:Int))) ((z7 t123 v13).bind fun t134=>
(pv (decide (64 < t134))).bind fun b137=>
(gM (!b137) (z7 t125 v13)).bind fun t140=>
 cond (b137 ||(decide (64 < t140))) (some (.done (.inr (13)))) (some (.next (wi (v13+1))))) (some (.done (.inl (()))))
def zG7 (a0:Norm):Option (Int):=
(zE4 a0.Classes).bind fun t16=>
 cond (!decide (t16=0)) (some t16) ((zG5 a0.Decomp).bind fun t22=>
 cond (!decide (t22=0)) (some t22) ((zG6 a0.Excluded).bind fun t28=>
 cond (!t28) (some 11) ((zE (fun (x:Int)=>zCF a0 x) 0).bind fun (y1:(Unit)⊕(Int))=>
 y1.elim (fun y1=>(zE (fun (x:Int)=>zCG a0 x) 0).bind fun (y2:(Unit)⊕(Int))=>
 y2.elim (fun y2=>(zE (fun (x:Int)=>zCH a0 x) 0).bind fun (y3:(Unit)⊕(Int))=>
 y3.elim (fun y3=>(zIK a0.Decomp).bind fun t110=>
(zE (fun (x:Int)=>zCI a0 t110 x) 0).bind fun (y4:(Unit)⊕(Int))=>
 y4.elim (fun y4=>(zDD a0.Decomp false).bind fun t123=>
(zDD a0.Decomp true).bind fun t125=>
(zE (fun (x:Int)=>zCJ a0 t123 t125 x) 0).bind fun (y5:(Unit)⊕(Int))=>
 y5.elim (fun y5=>some 0) (fun y5=>some y5)) (fun y4=>some y4)) (fun y3=>some y3)) (fun y2=>some y2)) (fun y1=>some y1))))
def zF3 (a0:Norm):Option (Norm):=
(zG7 a0).bind fun t4=>
 cond (!decide (t4=0)) (some ({Classes:=({Classes:=[],Decomp:=[],Excluded:=(({Ranges:=[]}):Set)}:Norm).Classes,Decomp:=({Classes:=[],Decomp:=[],Excluded:=(({Ranges:=[]}):Set)}:Norm).Decomp,Excluded:=({Ranges:=(({Classes:=[],Decomp:=[],Excluded:=(({Ranges:=[]}):Set)}:Norm).Excluded).Ranges}:Set)}:Norm)) (some a0)
def zFG (a0:Int):Option (Bool):=
(pv (decide (1≤a0))).bind fun b5=>
 some (b5&&(decide (a0≤65535)))
def zA3 (a0:Collation) (v4:Int):Option (Stp (Int) ((Unit)⊕(Int))):=
 cond (decide (v4 < (a0.Groups.length:Int))) ((z7 a0.Groups v4).bind fun t19=>
(zFZ t19.Name).bind fun t22=>
 cond (!t22) (some (.done (.inr (6)))) (some (.next (wi (v4+1))))) (some (.done (.inl (()))))
def zA4 (v5:Int) (a0:Collation) (v6:Int):Option (Stp (Int) ((Unit)⊕(Int))):=
 cond (decide (v6 < v5)) ((z7 a0.Groups v6).bind fun t37=>
(z7 a0.Groups v5).bind fun t42=>
 cond (t37.Name==t42.Name) (some (.done (.inr (5)))) (some (.next (wi (v6+1))))) (some (.done (.inl (()))))
def zA5 (a0:Collation) (v5:Int):Option (Stp (Int) ((Unit)⊕(Int))):=
 cond (decide (v5 < (a0.Groups.length:Int))) ((zE (fun (x:Int)=>zA4 v5 a0 x) 0).bind fun (y3:(Unit)⊕(Int))=>
 y3.elim (fun y3=>some (.next (wi (v5+1)))) (fun y3=>some (.done (.inr (y3))))) (some (.done (.inl (()))))
def zA6 (a0:Collation) (v7:Int):Option (Stp (Int) ((Unit)⊕(Int))):=
 cond (decide (v7 < (a0.Groups.length:Int))) ((z7 a0.Groups v7).bind fun t54=>
(pv (decide (t54.Lo < 1))).bind fun b58=>
(gM (!b58) (z7 a0.Groups v7)).bind fun t61=>
(gM (!b58) (z7 a0.Groups v7)).bind fun t66=>
(pv (b58 ||(decide (t61.Hi < t66.Lo)))).bind fun b71=>
(gM (!b71) (z7 a0.Groups v7)).bind fun t74=>
 cond (b71 ||(decide (a0.Base≤t74.Hi))) (some (.done (.inr (1)))) (some (.next (wi (v7+1))))) (some (.done (.inl (()))))
def uT (a0:Collation) (v8:Int):Option (Stp (Int) ((Unit)⊕(Int))):=
 cond (decide (v8 < (a0.Groups.length:Int))) ((z7 a0.Groups v8).bind fun t89=>
(z7 a0.Groups (wi (v8 - 1))).bind fun t95=>
 cond (!decide (t89.Lo=(wi (t95.Hi+1)))) (some (.done (.inr (4)))) (some (.next (wi (v8+1))))) (some (.done (.inl (()))))
def zFH (a0:Collation):Option (Int):=
(zE (fun (x:Int)=>zA3 a0 x) 0).bind fun (y1:(Unit)⊕(Int))=>
 y1.elim (fun y1=>(zE (fun (x:Int)=>zA5 a0 x) 0).bind fun (y2:(Unit)⊕(Int))=>
 y2.elim (fun y2=>(zE (fun (x:Int)=>zA6 a0 x) 0).bind fun (y4:(Unit)⊕(Int))=>
 y4.elim (fun y4=>(zE (fun (x:Int)=>uT a0 x) 1).bind fun (y5:(Unit)⊕(Int))=>
 y5.elim (fun y5=>some 0) (fun y5=>some y5)) (fun y4=>some y4)) (fun y2=>some y2)) (fun y1=>some y1)
def zD5 (a0:Int):Option (Bool):=
(pv (decide (0≤a0))).bind fun b5=>
 some (b5&&(decide (a0≤65535)))
def zG8 (a0:Element):Option (Int):=
(zD5 a0.Primary).bind fun t5=>
(pv (!t5)).bind fun b7=>
(gM (!b7) (zD5 a0.Secondary)).bind fun t10=>
(pv (b7 ||(!t10))).bind fun b13=>
(gM (!b13) (zD5 a0.Tertiary)).bind fun t16=>
 cond (b13 ||(!t16)) (some 1) ((pv (!decide (a0.Primary=0))).bind fun b22=>
(pv (decide (a0.Secondary=0))).bind fun b26=>
(pv (b22&&(b26 ||(decide (a0.Tertiary=0))))).bind fun b32=>
(pv (!decide (a0.Secondary=0))).bind fun b36=>
(pv (b32 ||(b36&&(decide (a0.Tertiary=0))))).bind fun b42=>
(pv a0.Variable).bind fun b45=>
 cond (b42 ||(b45&&(decide (a0.Primary=0)))) (some 11) (some 0))
def zFI (t13:Entry) (v6:Int):Option (Stp (Int) ((Unit)⊕(Int))):=
 cond (decide (v6 < (t13.Codes.length:Int))) ((z7 t13.Codes v6).bind fun t41=>
(wF t41).bind fun t43=>
 cond (!t43) (some (.done (.inr (1)))) (some (.next (wi (v6+1))))) (some (.done (.inl (()))))
def zCK (t13:Entry) (v7:Int):Option (Stp (Int) ((Unit)⊕(Int))):=
 cond (decide (v7 < (t13.Elements.length:Int))) ((z7 t13.Elements v7).bind fun t55=>
(zG8 t55).bind fun t57=>
 cond (!decide (t57=0)) (some (.done (.inr (t57)))) (some (.next (wi (v7+1))))) (some (.done (.inl (()))))
def zFJ (t13:Entry) (a0:Collation) (v9:Int):Option (Stp (Int) ((Unit)⊕(Int))):=
 cond (decide (v9 < (t13.Elements.length:Int))) ((z7 t13.Elements v9).bind fun t71=>
 cond (decide (a0.Base≤t71.Primary)) (some (.done (.inr (1)))) (some (.next (wi (v9+1))))) (some (.done (.inl (()))))
def zG9 (a0:Collation) (a1:Int):Option (Int):=
(z7 a0.Entries a1).bind fun t13=>
(pv (decide ((t13.Codes.length:Int) < 1))).bind fun b19=>
(pv (b19 ||(decide (8 < (t13.Codes.length:Int))))).bind fun b25=>
 cond (b25 ||(decide (16 < (t13.Elements.length:Int)))) (some 2) ((zE (fun (x:Int)=>zFI t13 x) 0).bind fun (y1:(Unit)⊕(Int))=>
 y1.elim (fun y1=>(zE (fun (x:Int)=>zCK t13 x) 0).bind fun (y2:(Unit)⊕(Int))=>
 y2.elim (fun y2=>(zE (fun (x:Int)=>zFJ t13 a0 x) 0).bind fun (y3:(Unit)⊕(Int))=>
 y3.elim (fun y3=>(pv (decide (0 < a1))).bind fun b79=>
(gM b79 (z7 a0.Entries (wi (a1 - 1)))).bind fun t84=>
(gM b79 (zBL t84.Codes t13.Codes)).bind fun t89=>
 cond (b79&&(decide (0≤t89))) (some 4) (some 0)) (fun y3=>some y3)) (fun y2=>some y2)) (fun y1=>some y1))
def zCL (a0:Collation) (v4:Int):Option (Stp (Int) ((Unit)⊕(Int))):=
 cond (decide (v4 < (a0.Entries.length:Int))) ((zG9 a0 v4).bind fun t40=>
 cond (!decide (t40=0)) (some (.done (.inr (t40)))) (some (.next (wi (v4+1))))) (some (.done (.inl (()))))
def zHA (a0:Collation):Option (Int):=
(pv (decide (a0.Base < 1))).bind fun b9=>
(pv (b9 ||(decide (65502 < a0.Base)))).bind fun b14=>
(gM (!b14) (zFG a0.Second)).bind fun t17=>
(pv (b14 ||(!t17))).bind fun b20=>
(gM (!b20) (zFG a0.Third)).bind fun t23=>
 cond (b20 ||(!t23)) (some 1) ((zFH a0).bind fun t27=>
 cond (!decide (t27=0)) (some t27) ((zE (fun (x:Int)=>zCL a0 x) 0).bind fun (y1:(Unit)⊕(Int))=>
 y1.elim (fun y1=>some 0) (fun y1=>some y1)))
def zF4 (a0:Collation):Option (Collation):=
(zHA a0).bind fun t4=>
 cond (!decide (t4=0)) (some ({Entries:=[],Groups:=[],Base:=64448,Second:=32,Third:=2}:Collation)) (some a0)
def jH (a2:(List Int)) (a0:(List Mapping)) (a3:Bool) (a1:(List (List Int))) (v10:Int) (r1009:(List Int)):Option (Stp (Int×(List Int)) (((List Int)))):=
 cond (decide (v10 < (a2.length:Int))) (((z7 a2 v10).bind fun t21=>
(zDW a0 t21 a3).bind fun t24=>
 cond (decide (0≤t24)) ((z7 a1 t24).bind fun t30=>
(app r1009 t30).bind fun r1009_3=>
 some r1009_3) ((z7 a2 v10).bind fun t36=>
(zA2 t36).bind fun t38=>
(app r1009 t38).bind fun r1009_4=>
 some r1009_4)).bind fun (y2:(List Int))=>
 some (.next (wi (v10+1),y2))) (some (.done r1009))
def uF (a0:(List Mapping)) (a1:(List (List Int))) (a2:(List Int)) (a3:Bool):Option ((List Int)):=
(zE (fun (x:Int×(List Int))=>jH a2 a0 a3 a1 x.1 x.2) (0,[])).bind fun (y1:(List Int))=>
 some y1
def zAO (a0:(List Mapping)) (a1:Bool) (v7:Int) (r10:(List (List Int))):Option (Stp (Int×(List (List Int))) (((List (List Int))))):=
 cond (decide (v7 < (a0.length:Int))) (((pv a1).bind fun b24=>
(gM (!b24) (z7 a0 v7)).bind fun t27=>
 cond (b24 ||(t27.Tag== [])) ((z7 a0 v7).bind fun t38=>
(uF a0 r10 t38.To a1).bind fun t42=>
(z7 r10 v7).bind fun t43=>
(u7 r10 v7 t42).bind fun r10_4=>
 some r10_4) (some r10)).bind fun (y3:(List (List Int)))=>
 some (.next (wi (v7+1),y3))) (some (.done r10))
def zAP (a0:(List Mapping)) (a1:Bool) (v6:Int) (r10:(List (List Int))):Option (Stp (Int×(List (List Int))) (((List (List Int))))):=
 cond (decide (v6 < (a0.length:Int))) ((zE (fun (x:Int×(List (List Int)))=>zAO a0 a1 x.1 x.2) (0,r10)).bind fun (y2:(List (List Int)))=>
 some (.next (wi (v6+1),y2))) (some (.done r10))
def zHB (a0:(List Mapping)) (a1:Bool):Option ((List (List Int))):=
(mkM [] (a0.length:Int)).bind fun r10=>
(zE (fun (x:Int×(List (List Int)))=>zAP a0 a1 x.1 x.2) (0,r10)).bind fun (y1:(List (List Int)))=>
 some y1
def zIL (a0:Norm) (a1:(List Int)) (a2:Bool):Option ((List Int)):=
(zHB a0.Decomp a2).bind fun t12=>
(uF a0.Decomp t12 a1 a2).bind fun t15=>
 some t15
def u5 (t27:Int) (a0:(List Span)) (a1:(List Int)) (v6:Int) (v8:Int) (r1005:(List Int)):Option (Stp (Int×(List Int)) (((List Int)))):=
(pv (decide (0 < v8))).bind fun b33=>
(pv (b33&&(decide (0 < t27)))).bind fun b37=>
(gM b37 (z7 r1005 (wi (v8 - 1)))).bind fun t42=>
(gM b37 (zBD a0 t42)).bind fun t44=>
 cond (b37&&(decide (t27 < t44))) ((z7 r1005 (wi (v8 - 1))).bind fun t55=>
(z7 r1005 v8).bind fun t57=>
(u7 r1005 v8 t55).bind fun r1005_4=>
(z7 a1 v6).bind fun t63=>
(z7 r1005_4 (wi (v8 - 1))).bind fun t65=>
(u7 r1005_4 (wi (v8 - 1)) t63).bind fun r1005_5=>
 some (.next (wi (v8 - 1),r1005_5))) (some (.done r1005))
def vQ (a1:(List Int)) (a0:(List Span)) (v6:Int) (r1005:(List Int)):Option (Stp (Int×(List Int)) (((List Int)))):=
 cond (decide (v6 < (a1.length:Int))) ((z7 a1 v6).bind fun t18=>
(app r1005 [t18]).bind fun r1005_2=>
(z7 a1 v6).bind fun t25=>
(zBD a0 t25).bind fun t27=>
(zE (fun (x:Int×(List Int))=>u5 t27 a0 a1 v6 x.1 x.2) (wi ((r1005_2.length:Int) - 1),r1005_2)).bind fun (y3:(List Int))=>
 some (.next (wi (v6+1),y3))) (some (.done r1005))
def zF5 (a0:(List Span)) (a1:(List Int)):Option ((List Int)):=
(zE (fun (x:Int×(List Int))=>vQ a1 a0 x.1 x.2) (0,[])).bind fun (y1:(List Int))=>
 some y1
def zF6 (a0:Norm) (a1:(List Int)) (a2:Bool):Option ((List Int)):=
(zF3 a0).bind fun t9=>
(zIL t9 a1 a2).bind fun t15=>
(zF5 t9.Classes t15).bind fun t16=>
 some t16
def zDE (a0:Collation) (a1:(List Int)) (v6:Int):Option (Stp (Int) ((Unit)⊕(Bool×(List Element)))):=
 cond (decide (v6 < (a0.Entries.length:Int))) ((z7 a0.Entries v6).bind fun t17=>
(u2 t17.Codes a1).bind fun t21=>
 cond t21 ((z7 a0.Entries v6).bind fun t26=>
(app [] t26.Elements).bind fun r22_2=>
 some (.done (.inr ((true,r22_2))))) (some (.next (wi (v6+1))))) (some (.done (.inl (()))))
def zDX (a0:Collation) (a1:(List Int)):Option ((List Element)×Bool):=
(zE (fun (x:Int)=>zDE a0 a1 x) 0).bind fun (y1:(Unit)⊕(Bool×(List Element)))=>
 y1.elim (fun y1=>some ([],false)) (fun y1=>some (y1.2,y1.1))
def zEQ (a0:(List Span)) (a1:Int):Option (Bool):=
(zBD a0 a1).bind fun t7=>
 some (decide (t7=0))
def zF7 (a0:(List Int)) (a1:Int):Option ((List Int)):=
(app [] a0).bind fun r5_1=>
(app r5_1 [a1]).bind fun r5_2=>
 some r5_2
def xL (a2:(List Int)) (a1:Collation) (v9:Int) (v10:Int):Option (Stp (Int×Int) ((Int))):=
 cond (decide (v10≤(a2.length:Int))) (((slc a2 0 v10).bind fun t30=>
(zDX a1 t30).bind fun t31=>
 cond t31.2 (some v10) (some v9)).bind fun (y2:Int)=>
 some (.next (y2,wi (v10+1)))) (some (.done v9))
def wG (a2:(List Int)) (a0:(List Span)) (a1:Collation) (v13:(List Int)) (v15:Int) (v16:Int) (r1014:(List Int)):Option (Stp ((List Int)×Int×Int×(List Int)) (((List Int)×Int×(List Int)))):=
(pv (decide (v16 < (a2.length:Int)))).bind fun b52=>
(gM b52 (z7 a2 v16)).bind fun t56=>
(gM b52 (zEQ a0 t56)).bind fun t58=>
 cond (b52&&(!t58)) ((z7 a2 v16).bind fun t64=>
(zBD a0 t64).bind fun t66=>
(z7 a2 v16).bind fun t72=>
(zF7 v13 t72).bind fun t74=>
(zDX a1 t74).bind fun t75=>
(pv t75.2).bind fun b79=>
(cond (b79&&(decide (v15 < t66))) ((z7 a2 v16).bind fun t87=>
(zF7 v13 t87).bind fun t89=>
 some (t89,v15,r1014)) ((z7 a2 v16).bind fun t93=>
(app r1014 [t93]).bind fun r1014_6=>
 some (v13,max v15 t66,r1014_6))).bind fun (y5:(List Int)×Int×(List Int))=>
 some (.next (y5.1,y5.2.1,wi (v16+1),y5.2.2))) (some (.done (v13,v16,r1014)))
def zER (a0:(List Span)) (a1:Collation) (a2:(List Int)):Option ((List Int)×(List Int)×Bool):=
(zE (fun (x:Int×Int)=>xL a2 a1 x.1 x.2) (0,1)).bind fun (y1:Int)=>
 cond (decide (y1=0)) ((slc a2 0 1).bind fun t39=>
(slc a2 1 (a2.length)).bind fun t41=>
 some (t39,t41,false)) ((slc a2 0 y1).bind fun t45=>
(app [] t45).bind fun r42_3=>
(zE (fun (x:(List Int)×Int×Int×(List Int))=>wG a2 a0 a1 x.1 x.2.1 x.2.2.1 x.2.2.2) (r42_3,0,y1,[])).bind fun (y4:(List Int)×Int×(List Int))=>
(slc a2 y4.2.1 (a2.length)).bind fun t106=>
(app y4.2.2 t106).bind fun r1014_7=>
 some (y4.1,r1014_7,true))
def zDY (a0:Collation) (a1:Int):Option ((List Element)):=
(wF a1).bind fun t7=>
 cond (!t7) (some []) ((zF4 a0).bind fun t10=>
(zL7 wi a1 32768).bind fun t14=>
(zI2 a1 32768).bind fun t22=>
 some [({Primary:=wi (t10.Base+t14),Secondary:=t10.Second,Tertiary:=t10.Third,Variable:=false}:Element),({Primary:=wi (32768+t22),Secondary:=0,Tertiary:=0,Variable:=false}:Element)])
def vR (t18:Norm) (t21:Collation) (a1:Collation) (v10:(List Int)) (v12:Bool) (r1011:(List Element)):Option (Stp ((List Int)×Bool×(List Element)) ((Bool×(List Element)))):=
 cond (decide (0 < (v10.length:Int))) ((zER t18.Classes t21 v10).bind fun t32=>
(z7 t32.1 (0:Int)).bind fun t38=>
(zDY a1 t38).bind fun t40=>
(cond t32.2.2 ((zDX t21 t32.1).bind fun t45=>
 some t45.1) (some t40)).bind fun (y2:(List Element))=>
(app r1011 y2).bind fun r1011_3=>
(pv v12).bind fun b52=>
 some (.next (t32.2.1,(b52&&t32.2.2),r1011_3))) (some (.done (v12,r1011)))
def zIM (a0:Norm) (a1:Collation) (a2:(List Int)):Option ((List Element)×Bool):=
(zF3 a0).bind fun t18=>
(zF4 a1).bind fun t21=>
(zF6 a0 a2 false).bind fun t24=>
(zE (fun (x:(List Int)×Bool×(List Element))=>vR t18 t21 a1 x.1 x.2.1 x.2.2) (t24,true,[])).bind fun (y1:Bool×(List Element))=>
 some (y1.2,y1.1)
def wR (a0:Norm) (a1:Collation) (a2:(List Int)):Option ((List Element)):=
(zIM a0 a1 a2).bind fun t13=>
 some t13.1
def zAH (a0:(List Element)) (a1:Int) (v6:Bool) (v7:Int) (r1005:(List A4Int)):Option (Stp (Bool×Int×(List A4Int)) (((List A4Int)))):=
 cond (decide (v7 < (a0.length:Int))) ((z7 a0 v7).bind fun t19=>
(pv (decide (t19.Primary=0))).bind fun b31=>
(pv (b31&&(decide (t19.Secondary=0)))).bind fun b36=>
(pv t19.Variable).bind fun b43=>
(cond (b43 ||(!decide (t19.Primary=0))) (some t19.Variable) (some v6)).bind fun (y2:Bool)=>
(cond (decide (a1=1)) (cond (!(b36&&(decide (t19.Tertiary=0)))) (some (({x0:=t19.Primary,x1:=t19.Secondary,x2:=t19.Tertiary,x3:=0}:A4Int).x0,({x0:=t19.Primary,x1:=t19.Secondary,x2:=t19.Tertiary,x3:=0}:A4Int).x1,({x0:=t19.Primary,x1:=t19.Secondary,x2:=t19.Tertiary,x3:=0}:A4Int).x2,65535)) (some (({x0:=t19.Primary,x1:=t19.Secondary,x2:=t19.Tertiary,x3:=0}:A4Int).x0,({x0:=t19.Primary,x1:=t19.Secondary,x2:=t19.Tertiary,x3:=0}:A4Int).x1,({x0:=t19.Primary,x1:=t19.Secondary,x2:=t19.Tertiary,x3:=0}:A4Int).x2,({x0:=t19.Primary,x1:=t19.Secondary,x2:=t19.Tertiary,x3:=0}:A4Int).x3))) (cond y2 ((pv (decide (a1=3))).bind fun b61=>
 cond (b61&&t19.Variable) (some (({x0:=0,x1:=0,x2:=0,x3:=0}:A4Int).x0,({x0:=0,x1:=0,x2:=0,x3:=0}:A4Int).x1,({x0:=0,x1:=0,x2:=0,x3:=0}:A4Int).x2,t19.Primary)) (some (({x0:=0,x1:=0,x2:=0,x3:=0}:A4Int).x0,({x0:=0,x1:=0,x2:=0,x3:=0}:A4Int).x1,({x0:=0,x1:=0,x2:=0,x3:=0}:A4Int).x2,({x0:=0,x1:=0,x2:=0,x3:=0}:A4Int).x3))) ((pv (decide (a1=3))).bind fun b71=>
 cond (b71&&(!(b36&&(decide (t19.Tertiary=0))))) (some (({x0:=t19.Primary,x1:=t19.Secondary,x2:=t19.Tertiary,x3:=0}:A4Int).x0,({x0:=t19.Primary,x1:=t19.Secondary,x2:=t19.Tertiary,x3:=0}:A4Int).x1,({x0:=t19.Primary,x1:=t19.Secondary,x2:=t19.Tertiary,x3:=0}:A4Int).x2,65535)) (some (({x0:=t19.Primary,x1:=t19.Secondary,x2:=t19.Tertiary,x3:=0}:A4Int).x0,({x0:=t19.Primary,x1:=t19.Secondary,x2:=t19.Tertiary,x3:=0}:A4Int).x1,({x0:=t19.Primary,x1:=t19.Secondary,x2:=t19.Tertiary,x3:=0}:A4Int).x2,({x0:=t19.Primary,x1:=t19.Secondary,x2:=t19.Tertiary,x3:=0}:A4Int).x3))))).bind fun (y3:Int×Int×Int×Int)=>
(app r1005 [({x0:=y3.1,x1:=y3.2.1,x2:=y3.2.2.1,x3:=y3.2.2.2}:A4Int)]).bind fun r1005_4=>
 some (.next (y2,wi (v7+1),r1005_4))) (some (.done r1005))
def zES (a0:(List Element)) (a1:Int):Option ((List A4Int)):=
(zE (fun (x:Bool×Int×(List A4Int))=>zAH a0 a1 x.1 x.2.1 x.2.2) (false,0,[])).bind fun (y1:(List A4Int))=>
 some y1
def zAI (t16:(List A4Int)) (v7:Int) (t12:Options) (v9:Int) (r1008:(List Int)):Option (Stp (Int×(List Int)) (((List Int)))):=
 cond (decide (v9 < (t16.length:Int))) (((pv (decide (v7=1))).bind fun b32=>
(cond (b32&&t12.Backward) (some (wi ((wi ((t16.length:Int) - 1)) - v9))) (some v9)).bind fun (y4:Int)=>
(z7 t16 y4).bind fun t44=>
(z7 [t44.x0,t44.x1,t44.x2,t44.x3] v7).bind fun t45=>
 cond (!decide (t45=0)) ((z7 t16 y4).bind fun t52=>
(z7 [t52.x0,t52.x1,t52.x2,t52.x3] v7).bind fun t53=>
(app r1008 [t53]).bind fun r1008_5=>
 some r1008_5) (some r1008)).bind fun (y3:(List Int))=>
 some (.next (wi (v9+1),y3))) (some (.done r1008))
def zAJ (t12:Options) (t16:(List A4Int)) (v7:Int) (r1006:(List (List Int))):Option (Stp (Int×(List (List Int))) (((List (List Int))))):=
 cond (decide (v7 < t12.Strength)) ((zE (fun (x:Int×(List Int))=>zAI t16 v7 t12 x.1 x.2) (0,[])).bind fun (y2:(List Int))=>
(app r1006 [y2]).bind fun r1006_6=>
 some (.next (wi (v7+1),r1006_6))) (some (.done r1006))
def zBO (a0:(List Element)) (a1:Options):Option ((List (List Int))):=
(zDA ({Strength:=a1.Strength,Variable:=a1.Variable,Backward:=a1.Backward,Identical:=a1.Identical}:Options)).bind fun t12=>
(zES a0 t12.Variable).bind fun t16=>
(zE (fun (x:Int×(List (List Int)))=>zAJ t12 t16 x.1 x.2) (0,[])).bind fun (y1:(List (List Int)))=>
 some y1
def zDF (a0:(List (List Int))) (v4:Int) (r1003:(List Int)):Option (Stp (Int×(List Int)) (((List Int)))):=
 cond (decide (v4 < (a0.length:Int))) ((cond (decide (0 < v4)) ((app r1003 [0]).bind fun r1003_3=>
 some r1003_3) (some r1003)).bind fun (y2:(List Int))=>
(z7 a0 v4).bind fun t19=>
(app y2 t19).bind fun r1003_4=>
 some (.next (wi (v4+1),r1003_4))) (some (.done r1003))
def zK2 (a0:(List (List Int))):Option ((List Int)):=
(zE (fun (x:Int×(List Int))=>zDF a0 x.1 x.2) (0,[])).bind fun (y1:(List Int))=>
 some y1
def zD6 (t30:(List Int)) (v11:Int) (r2520:(List Int)):Option (Stp (Int×(List Int)) (((List Int)))):=
 cond (decide (v11 < (t30.length:Int))) (((z7 t30 v11).bind fun t39=>
(wF t39).bind fun t41=>
 cond t41 ((z7 t30 v11).bind fun t45=>
(app r2520 [wi (t45+1)]).bind fun r2520_4=>
 some r2520_4) (some r2520)).bind fun (y3:(List Int))=>
 some (.next (wi (v11+1),y3))) (some (.done r2520))
def zF8 (a0:Norm) (a1:Collation) (a2:Options) (a3:(List Int)):Option ((List Int)):=
(zDA ({Strength:=a2.Strength,Variable:=a2.Variable,Backward:=a2.Backward,Identical:=a2.Identical}:Options)).bind fun t13=>
(wR a0 a1 a3).bind fun t17=>
(zBO t17 ({Strength:=t13.Strength,Variable:=t13.Variable,Backward:=t13.Backward,Identical:=t13.Identical}:Options)).bind fun t19=>
(zK2 t19).bind fun t20=>
 cond (!t13.Identical) (some t20) ((app t20 [0]).bind fun r2520_1=>
(zF6 a0 a3 false).bind fun t30=>
(zE (fun (x:Int×(List Int))=>zD6 t30 x.1 x.2) (0,r2520_1)).bind fun (y2:(List Int))=>
 some y2)
def zBP (a0:Norm) (a1:Collation) (a2:Options) (a3:(List Int)) (a4:(List Int)):Option (Int):=
(zF8 a0 a1 a2 a3).bind fun t15=>
(zF8 a0 a1 a2 a4).bind fun t20=>
(zBL t15 t20).bind fun t21=>
 some t21
def zBQ (v9:(List Int)) (a3:(List (List Int))) (a0:Norm) (a1:Collation) (a2:Options) (t19:(List Int)) (v12:Int):Option (Stp (Int) ((Int))):=
(pv (decide (0 < v12))).bind fun b25=>
(gM b25 (z7 v9 (wi (v12 - 1)))).bind fun t34=>
(gM b25 (z7 a3 t34)).bind fun t36=>
(gM b25 (zBP a0 a1 a2 t19 t36)).bind fun t38=>
 cond (b25&&(decide (t38 < 0))) (some (.next (wi (v12 - 1)))) (some (.done v12))
def zDG (a3:(List (List Int))) (a0:Norm) (a1:Collation) (a2:Options) (v9:(List Int)) (v16:Int):Option (Stp ((List Int)×Int) (((List Int)))):=
 cond (decide (v16 < (a3.length:Int))) ((z7 a3 v16).bind fun t19=>
(zE (fun (x:Int)=>zBQ v9 a3 a0 a1 a2 t19 x) (v9.length:Int)).bind fun (y2:Int)=>
(slc v9 0 y2).bind fun t46=>
(app [] t46).bind fun r43_3=>
(app r43_3 [v16]).bind fun r43_4=>
(slc v9 y2 (v9.length)).bind fun t55=>
(app r43_4 t55).bind fun r43_5=>
 some (.next (r43_5,wi (v16+1)))) (some (.done v9))
def zIN (a0:Norm) (a1:Collation) (a2:Options) (a3:(List (List Int))):Option ((List Int)):=
(zE (fun (x:(List Int)×Int)=>zDG a3 a0 a1 a2 x.1 x.2) ([],0)).bind fun (y1:(List Int))=>
 some y1
def zCU (a0:Unicodetextlaw45_Setting) (a1:(List (List Int))):Option (Bool):=
(pv (decide (6 < (a1.length:Int)))).bind fun b8=>
(gM (!b8) (zE3 a0 8 a1)).bind fun t11=>
 cond (b8 ||(!t11)) ((u3).bind fun t14=>
 some t14) ((zCT a0.Norm a0.Collation a0.Options a1).bind fun t22=>
(zIN a0.Norm a0.Collation a0.Options a1).bind fun t30=>
(u2 t22 t30).bind fun t31=>
(pv t31).bind fun b32=>
(gM b32 (u3)).bind fun t33=>
 some (b32&&t33))
def wX (a3:(List (List Int))) (a0:Norm) (a1:Collation) (a2:Options) (v12:Int):Option (Stp (Int) ((Unit)⊕(Int×Bool))):=
 cond (decide (v12 < (a3.length:Int))) ((z7 a3 (wi (v12 - 1))).bind fun t28=>
(z7 a3 v12).bind fun t32=>
(zBP a0 a1 a2 t28 t32).bind fun t34=>
 cond (decide (0 < t34)) (some (.done (.inr (((-1),false))))) (some (.next (wi (v12+1))))) (some (.done (.inl (()))))
def uU (a3:(List (List Int))) (a0:Norm) (a1:Collation) (a2:Options) (a4:(List Int)) (v38:Int):Option (Stp (Int) ((Unit)⊕(Int×Bool))):=
 cond (decide (v38 < (a3.length:Int))) ((z7 a3 v38).bind fun t41=>
(zBP a0 a1 a2 t41 a4).bind fun t48=>
 cond (decide (0≤t48)) (some (.done (.inr ((v38,decide (t48=0)))))) (some (.next (wi (v38+1))))) (some (.done (.inl (()))))
def zFK (a0:Norm) (a1:Collation) (a2:Options) (a3:(List (List Int))) (a4:(List Int)):Option (Int×Bool):=
(zE (fun (x:Int)=>wX a3 a0 a1 a2 x) 1).bind fun (y1:(Unit)⊕(Int×Bool))=>
 y1.elim (fun y1=>(zE (fun (x:Int)=>uU a3 a0 a1 a2 a4 x) 0).bind fun (y2:(Unit)⊕(Int×Bool))=>
 y2.elim (fun y2=>some ((a3.length:Int),false)) (fun y2=>some (y2.1,y2.2))) (fun y1=>some (y1.1,y1.2))
def zAS (a0:Unicodetextlaw45_Setting) (a1:(List (List Int))) (a2:(List Int)):Option (Bool):=
(pv (decide (6 < (a1.length:Int)))).bind fun b14=>
(gM (!b14) (zE3 a0 8 a1)).bind fun t17=>
(pv (b14 ||(!t17))).bind fun b20=>
(gM (!b20) (zE3 a0 8 [a2])).bind fun t24=>
 cond (b20 ||(!t24)) ((u3).bind fun t27=>
 some t27) ((wO a0.Norm a0.Collation a0.Options a1 a2).bind fun t37=>
(zFK a0.Norm a0.Collation a0.Options a1 a2).bind fun t49=>
(pv (decide (t37.1=t49.1))).bind fun b55=>
(pv (b55&&(t37.2==t49.2))).bind fun b60=>
(gM b60 (u3)).bind fun t61=>
 some (b60&&t61))
def zFL (a0:Norm) (a1:Collation) (a2:Options) (a3:(List Int)) (a4:(List Int)):Option (Bool):=
(wR a0 a1 a3).bind fun t16=>
(zBO t16 a2).bind fun t18=>
(wR a0 a1 a4).bind fun t22=>
(zBO t22 a2).bind fun t24=>
(z7 t24 (0:Int)).bind fun t26=>
(z7 t18 (0:Int)).bind fun t30=>
(pv (decide ((t26.length:Int)≤(t30.length:Int)))).bind fun b34=>
(gM b34 (z7 t18 (0:Int))).bind fun t36=>
(gM b34 (z7 t24 (0:Int))).bind fun t39=>
(gM b34 (slc t36 0 (t39.length:Int))).bind fun t42=>
(gM b34 (z7 t24 (0:Int))).bind fun t44=>
(gM b34 (u2 t42 t44)).bind fun t46=>
 some (b34&&t46)
def zBV (a0:Unicodetextlaw45_Setting) (a1:(List Int)) (a2:(List Int)):Option (Bool):=
(zE3 a0 12 [a1,a2]).bind fun t11=>
 cond (!t11) ((u3).bind fun t13=>
 some t13) ((wP a0.Norm a0.Collation a0.Options a1 a2).bind fun t22=>
(zFL a0.Norm a0.Collation a0.Options a1 a2).bind fun t31=>
(pv (t22==t31)).bind fun b33=>
(gM b33 (u3)).bind fun t34=>
 some (b33&&t34))
end
end Go.M


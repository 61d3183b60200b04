/- Plain counterparts of the program's functions, printed from its form. Conditions: none. -/
import Derived.Test.YtjcbhabmkcdcnaaGreatDoorLa3
set_option linter.unusedSimpArgs false
set_option linter.unusedVariables false
set_option linter.unnecessarySimpa false
namespace Go.M
structure A3Int where
 x0:Int
 x1:Int
 x2:Int
 deriving DecidableEq,Inhabited
structure A4Int where
 x0:Int
 x1:Int
 x2:Int
 x3:Int
 deriving DecidableEq,Inhabited
structure A4ListInt where
 x0:(List Int)
 x1:(List Int)
 x2:(List Int)
 x3:(List Int)
 deriving DecidableEq,Inhabited
structure Range where
 Lo:Int
 Hi:Int
 deriving DecidableEq,Inhabited
structure A4Range where
 x0:Range
 x1:Range
 x2:Range
 x3:Range
 deriving DecidableEq,Inhabited
structure A9Int where
 x0:Int
 x1:Int
 x2:Int
 x3:Int
 x4:Int
 x5:Int
 x6:Int
 x7:Int
 x8:Int
 deriving DecidableEq,Inhabited
structure Element where
 Primary:Int
 Secondary:Int
 Tertiary:Int
 Variable:Bool
 deriving DecidableEq,Inhabited
structure Entry where
 Codes:(List Int)
 Elements:(List Element)
 deriving DecidableEq,Inhabited
structure Group where
 Name:Str
 Lo:Int
 Hi:Int
 deriving DecidableEq,Inhabited
structure Collation where
 Entries:(List Entry)
 Groups:(List Group)
 Base:Int
 Second:Int
 Third:Int
 deriving DecidableEq,Inhabited
structure Span where
 Lo:Int
 Hi:Int
 Value:Int
 deriving DecidableEq,Inhabited
structure Colltable_table where
 c:Collation
 entries:(List (A9Int×(List Element)))
 longest:Int
 classes:(List Span)
 top:Int
 deriving DecidableEq,Inhabited
structure Mapping where
 From:Int
 To:(List Int)
 Tag:Str
 deriving DecidableEq,Inhabited
structure Mapping_key where
 from_:Int
 tag:Str
 deriving DecidableEq,Inhabited
structure Set where
 Ranges:(List Range)
 deriving DecidableEq,Inhabited
structure Norm where
 Classes:(List Span)
 Decomp:(List Mapping)
 Excluded:Set
 deriving DecidableEq,Inhabited
structure Options where
 Strength:Int
 Variable:Int
 Backward:Bool
 Identical:Bool
 deriving DecidableEq,Inhabited
structure Unicodetextlaw43_Case where
 N:Norm
 C:Collation
 Text:(List Int)
 deriving DecidableEq,Inhabited
structure Unicodetextlaw44_Data where
 Norm:Norm
 Collation:Collation
 Options:Options
 deriving DecidableEq,Inhabited
structure Unicodetextlaw44_Pair where
 A:(List Int)
 B:(List Int)
 Low:Int
 High:Int
 deriving DecidableEq,Inhabited
def zY1 (x:Range):Prop:=(-9223372036854775808≤x.Lo∧x.Lo≤9223372036854775807)∧(-9223372036854775808≤x.Hi∧x.Hi≤9223372036854775807)
def zRH (x:Element):Prop:=(-9223372036854775808≤x.Primary∧x.Primary≤9223372036854775807)∧(-9223372036854775808≤x.Secondary∧x.Secondary≤9223372036854775807)∧(-9223372036854775808≤x.Tertiary∧x.Tertiary≤9223372036854775807)∧True
def zY2 (x:Entry):Prop:=(x.Codes.length≤9223372036854775807∧∀y0∈x.Codes,(-9223372036854775808≤y0∧y0≤9223372036854775807))∧(x.Elements.length≤9223372036854775807∧∀y0∈x.Elements,(zRH y0))
def zY3 (x:Group):Prop:=(x.Name.length≤9223372036854775807)∧(-9223372036854775808≤x.Lo∧x.Lo≤9223372036854775807)∧(-9223372036854775808≤x.Hi∧x.Hi≤9223372036854775807)
def zII (x:Collation):Prop:=(x.Entries.length≤9223372036854775807∧∀y0∈x.Entries,(zY2 y0))∧(x.Groups.length≤9223372036854775807∧∀y0∈x.Groups,(zY3 y0))∧(-9223372036854775808≤x.Base∧x.Base≤9223372036854775807)∧(-9223372036854775808≤x.Second∧x.Second≤9223372036854775807)∧(-9223372036854775808≤x.Third∧x.Third≤9223372036854775807)
def okSpan (x:Span):Prop:=(-9223372036854775808≤x.Lo∧x.Lo≤9223372036854775807)∧(-9223372036854775808≤x.Hi∧x.Hi≤9223372036854775807)∧(-9223372036854775808≤x.Value∧x.Value≤9223372036854775807)
def zRI (x:Mapping):Prop:=(-9223372036854775808≤x.From∧x.From≤9223372036854775807)∧(x.To.length≤9223372036854775807∧∀y0∈x.To,(-9223372036854775808≤y0∧y0≤9223372036854775807))∧(x.Tag.length≤9223372036854775807)
def z4M (x:Set):Prop:=(x.Ranges.length≤9223372036854775807∧∀y0∈x.Ranges,(zY1 y0))
def zBL (x:Norm):Prop:=(x.Classes.length≤9223372036854775807∧∀y0∈x.Classes,(okSpan y0))∧(x.Decomp.length≤9223372036854775807∧∀y0∈x.Decomp,(zRI y0))∧(z4M x.Excluded)
def zCL (x:Unicodetextlaw43_Case):Prop:=(zBL x.N)∧(zII x.C)∧(x.Text.length≤9223372036854775807∧∀y0∈x.Text,(-9223372036854775808≤y0∧y0≤9223372036854775807))
end Go.M
namespace Go.AV
open Go.M
def zDD (x:A9Int):Value:= .agg #[.int IntKind.i64 x.x0,.int IntKind.i64 x.x1,.int IntKind.i64 x.x2,.int IntKind.i64 x.x3,.int IntKind.i64 x.x4,.int IntKind.i64 x.x5,.int IntKind.i64 x.x6,.int IntKind.i64 x.x7,.int IntKind.i64 x.x8]
def zEX (x:Mapping_key):Value:= .agg #[.int IntKind.i64 x.from_,.string ⟨x.tag.toArray⟩]
def eA3Int:En A3Int:=⟨fun x=> .agg [(di x.x0),(di x.x1),(di x.x2)],3,fun _=>rfl⟩
def eRange:En Range:=⟨fun x=> .agg [(di x.Lo),(di x.Hi)],2,fun _=>rfl⟩
def eA4Range:En A4Range:=⟨fun x=> .agg [(di x.x0.Lo),(di x.x0.Hi),(di x.x1.Lo),(di x.x1.Hi),(di x.x2.Lo),(di x.x2.Hi),(di x.x3.Lo),(di x.x3.Hi)],8,fun _=>rfl⟩
def eA9Int:En A9Int:=⟨fun x=> .agg [(di x.x0),(di x.x1),(di x.x2),(di x.x3),(di x.x4),(di x.x5),(di x.x6),(di x.x7),(di x.x8)],9,fun _=>rfl⟩
def eElement:En Element:=⟨fun x=> .agg [(di x.Primary),(di x.Secondary),(di x.Tertiary),(db x.Variable)],4,fun _=>rfl⟩
def eEntry:En Entry:=⟨fun x=> .agg [(zW eI x.Codes),(zW eElement x.Elements)],2,fun _=>rfl⟩
def eGroup:En Group:=⟨fun x=> .agg [(ds x.Name),(di x.Lo),(di x.Hi)],3,fun _=>rfl⟩
def eCollation:En Collation:=⟨fun x=> .agg [(zW eEntry x.Entries),(zW eGroup x.Groups),(di x.Base),(di x.Second),(di x.Third)],5,fun _=>rfl⟩
def eSpan:En Span:=⟨fun x=> .agg [(di x.Lo),(di x.Hi),(di x.Value)],3,fun _=>rfl⟩
def eColltable_table:En Colltable_table:=⟨fun x=> .agg [(zW eEntry x.c.Entries),(zW eGroup x.c.Groups),(di x.c.Base),(di x.c.Second),(di x.c.Third),(mpD zDD (eL eElement) x.entries),(di x.longest),(zW eSpan x.classes),(di x.top)],9,fun _=>rfl⟩
def eMapping:En Mapping:=⟨fun x=> .agg [(di x.From),(zW eI x.To),(ds x.Tag)],3,fun _=>rfl⟩
def eMapping_key:En Mapping_key:=⟨fun x=> .agg [(di x.from_),(ds x.tag)],2,fun _=>rfl⟩
def eSet:En Set:=⟨fun x=> .agg [(zW eRange x.Ranges)],1,fun _=>rfl⟩
def eNorm:En Norm:=⟨fun x=> .agg [(zW eSpan x.Classes),(zW eMapping x.Decomp),(zW eRange x.Excluded.Ranges)],3,fun _=>rfl⟩
def eUnicodetextlaw43_Case:En Unicodetextlaw43_Case:=⟨fun x=> .agg [(zW eSpan x.N.Classes),(zW eMapping x.N.Decomp),(zW eRange x.N.Excluded.Ranges),(zW eEntry x.C.Entries),(zW eGroup x.C.Groups),(di x.C.Base),(di x.C.Second),(di x.C.Third),(zW eI x.Text)],9,fun _=>rfl⟩
end Go.AV
namespace Go.M
open Go.AV
noncomputable section
def zF9 (a0:(List Span)):Option (Bool):=
 some (decide ((a0.length:Int)≤16))
def u2 (a0:(List Mapping)) (v3:Int):Option (Stp (Int) ((Unit)⊕(Bool))):=
(pv (decide (v3 < (a0.length:Int)))).bind fun b8=>
 cond (b8&&(decide (v3 < 30))) ((yK a0 v3).bind fun t16=>
(pv (decide (65 < (t16.To.length:Int)))).bind fun b21=>
(gM (!b21) (yK a0 v3)).bind fun t24=>
 cond (b21 ||(decide (40 < (t24.Tag.length:Int)))) (some (.done (.inr (false)))) (some (.next (wi (v3+1))))) (some (.done (.inl (()))))
def zD1 (a0:(List Mapping)):Option (Bool):=
(zE (fun (x:Int)=>u2 a0 x) 0).bind fun (y1:(Unit)⊕(Bool))=>
 y1.elim (fun y1=>some (decide ((a0.length:Int)≤20))) (fun y1=>some y1)
def zGA (a0:Set):Option (Bool):=
 some (decide ((a0.Ranges.length:Int)≤12))
def zD2 (a0:Norm):Option (Bool):=
(zF9 a0.Classes).bind fun t5=>
(pv t5).bind fun b6=>
(gM b6 (zD1 a0.Decomp)).bind fun t9=>
(pv (b6&&t9)).bind fun b11=>
(gM b11 (zGA a0.Excluded)).bind fun t14=>
 some (b11&&t14)
def u3 (a0:Collation) (v3:Int):Option (Stp (Int) ((Unit)⊕(Bool))):=
 cond (decide (v3 < (a0.Entries.length:Int))) ((yK a0.Entries v3).bind fun t24=>
(pv (decide (10 < (t24.Codes.length:Int)))).bind fun b29=>
(gM (!b29) (yK a0.Entries v3)).bind fun t33=>
 cond (b29 ||(decide (20 < (t33.Elements.length:Int)))) (some (.done (.inr (false)))) (some (.next (wi (v3+1))))) (some (.done (.inl (()))))
def zD3 (a0:Collation):Option (Bool):=
(pv (decide (12 < (a0.Entries.length:Int)))).bind fun b8=>
 cond (b8 ||(decide (8 < (a0.Groups.length:Int)))) (some false) ((zE (fun (x:Int)=>u3 a0 x) 0).bind fun (y1:(Unit)⊕(Bool))=>
 y1.elim (fun y1=>some true) (fun y1=>some y1))
def zGS (a0:Unicodetextlaw43_Case):Option (Bool):=
(zD2 a0.N).bind fun t5=>
(pv t5).bind fun b6=>
(gM b6 (zD3 a0.C)).bind fun t9=>
(pv (b6&&t9)).bind fun b11=>
 some (b11&&(decide ((a0.Text.length:Int)≤12)))
def xC (a0:(List Int)):Option ((List Int)):=app [] a0
def vT (a0:Int):Option (Bool):=
(pv (decide (1≤a0))).bind fun b5=>
 some (b5&&(decide (a0≤65535)))
def jV (a0:Str) (v7:Int):Option (Stp (Int) ((Unit)⊕(Bool))):=
 cond (decide (v7 < (a0.length:Int))) ((zUC a0 v7).bind fun t12=>
(pv (decide (65≤t12))).bind fun b15=>
(pv (b15&&(decide (t12≤90)))).bind fun b19=>
(pv (decide (97≤t12))).bind fun b22=>
(pv (b19 ||(b22&&(decide (t12≤122))))).bind fun b27=>
(pv (decide (48≤t12))).bind fun b30=>
(pv (b27 ||(b30&&(decide (t12≤57))))).bind fun b35=>
 cond (!(b35 ||(decide (t12=95)))) (some (.done (.inr (false)))) (some (.next (wi (v7+1))))) (some (.done (.inl (()))))
def u5 (a0:Str):Option (Bool):=
(zE (fun (x:Int)=>jV a0 x) 0).bind fun (y1:(Unit)⊕(Bool))=>
 y1.elim (fun y1=>(pv (!(a0== []))).bind fun b43=>
 some (b43&&(decide ((a0.length:Int)≤32)))) (fun y1=>some y1)
def jH (a0:Collation) (v15:Int):Option (Stp (Int) ((Unit)⊕(Int))):=
 cond (decide (v15 < (a0.Groups.length:Int))) ((yK a0.Groups v15).bind fun t17=>
(u5 t17.Name).bind fun t21=>
 cond (!t21) (some (.done (.inr (6)))) (some (.next (wi (v15+1))))) (some (.done (.inl (()))))
def k5 (a0:Collation) (v28:Int) (r24:(List (Str×Bool))):Option (Stp (Int×(List (Str×Bool))) ((Unit)⊕(Int))):=
 cond (decide (v28 < (a0.Groups.length:Int))) ((yK a0.Groups v28).bind fun t30=>
 cond (vZ r24 t30.Name false) (some (.done (.inr (5)))) (some (.next (wi (v28+1),uC r24 t30.Name true)))) (some (.done (.inl (()))))
def jI (a0:Collation) (v43:Int):Option (Stp (Int) ((Unit)⊕(Int))):=
 cond (decide (v43 < (a0.Groups.length:Int))) ((yK a0.Groups v43).bind fun t45=>
(pv (decide (t45.Lo < 1))).bind fun b50=>
(pv (b50 ||(decide (t45.Hi < t45.Lo)))).bind fun b57=>
 cond (b57 ||(decide (a0.Base≤t45.Hi))) (some (.done (.inr (1)))) (some (.next (wi (v43+1))))) (some (.done (.inl (()))))
def jJ (a0:Collation) (v68:Int):Option (Stp (Int) ((Unit)⊕(Int))):=
 cond (decide (v68 < (a0.Groups.length:Int))) ((yK a0.Groups v68).bind fun t71=>
(pv (decide (0 < v68))).bind fun b75=>
(gM b75 (yK a0.Groups (wi (v68 - 1)))).bind fun t82=>
 cond (b75&&(!decide (t71.Lo=(wi (t82.Hi+1))))) (some (.done (.inr (4)))) (some (.next (wi (v68+1))))) (some (.done (.inl (()))))
def xT (a0:Collation):Option (Int):=
(zE (fun (x:Int)=>jH a0 x) 0).bind fun (y1:(Unit)⊕(Int))=>
 y1.elim (fun y1=>(zE (fun (x:Int×(List (Str×Bool)))=>k5 a0 x.1 x.2) (0,[])).bind fun (y2:(Unit)⊕(Int))=>
 y2.elim (fun y2=>(zE (fun (x:Int)=>jI a0 x) 0).bind fun (y3:(Unit)⊕(Int))=>
 y3.elim (fun y3=>(zE (fun (x:Int)=>jJ a0 x) 0).bind fun (y4:(Unit)⊕(Int))=>
 y4.elim (fun y4=>some 0) (fun y4=>some y4)) (fun y3=>some y3)) (fun y2=>some y2)) (fun y1=>some y1)
def w9 (a0:Int):Option (Bool):=
(pv (decide (0≤a0))).bind fun b5=>
 some (b5&&(decide (a0≤1114111)))
def vI (a0:Element) (v12:Int):Option (Stp (Int) ((Unit)⊕(Int))):=
 cond (decide (v12 < 3)) ((yK [({x0:=a0.Primary,x1:=a0.Secondary,x2:=a0.Tertiary}:A3Int).x0,({x0:=a0.Primary,x1:=a0.Secondary,x2:=a0.Tertiary}:A3Int).x1,({x0:=a0.Primary,x1:=a0.Secondary,x2:=a0.Tertiary}:A3Int).x2] v12).bind fun t14=>
(pv (decide (t14 < 0))).bind fun b17=>
 cond (b17 ||(decide (65535 < t14))) (some (.done (.inr (1)))) (some (.next (wi (v12+1))))) (some (.done (.inl (()))))
def zB4 (a0:Element):Option (Int):=
(zE (fun (x:Int)=>vI a0 x) 0).bind fun (y1:(Unit)⊕(Int))=>
 y1.elim (fun y1=>(pv (!decide (a0.Primary=0))).bind fun b26=>
(pv (decide (a0.Secondary=0))).bind fun b30=>
 cond (b26&&(b30 ||(decide (a0.Tertiary=0)))) (some 11) ((pv (!decide (a0.Secondary=0))).bind fun b40=>
 cond (b40&&(decide (a0.Tertiary=0))) (some 11) ((pv a0.Variable).bind fun b48=>
 cond (b48&&(decide (a0.Primary=0))) (some 11) (some 0)))) (fun y1=>some y1)
def k7 (a0:Entry) (v31:Int):Option (Stp (Int) ((Unit)⊕(Int))):=
 cond (decide (v31 < (a0.Codes.length:Int))) ((yK a0.Codes v31).bind fun t33=>
(w9 t33).bind fun t36=>
 cond (!t36) (some (.done (.inr (1)))) (some (.next (wi (v31+1))))) (some (.done (.inl (()))))
def jP (a0:Entry) (v42:Int):Option (Stp (Int) ((Unit)⊕(Int))):=
 cond (decide (v42 < (a0.Elements.length:Int))) ((yK a0.Elements v42).bind fun t44=>
(zB4 t44).bind fun t47=>
 cond (!decide (t47=0)) (some (.done (.inr (t47)))) (some (.next (wi (v42+1))))) (some (.done (.inl (()))))
def k8 (a0:Entry) (a1:Int) (v55:Int):Option (Stp (Int) ((Unit)⊕(Int))):=
 cond (decide (v55 < (a0.Elements.length:Int))) ((yK a0.Elements v55).bind fun t57=>
 cond (decide (a1≤t57.Primary)) (some (.done (.inr (1)))) (some (.next (wi (v55+1))))) (some (.done (.inl (()))))
def wL (a0:Entry) (a1:Int):Option (Int):=
(pv (decide ((a0.Codes.length:Int) < 1))).bind fun b16=>
(pv (b16 ||(decide (8 < (a0.Codes.length:Int))))).bind fun b22=>
 cond (b22 ||(decide (16 < (a0.Elements.length:Int)))) (some 2) ((zE (fun (x:Int)=>k7 a0 x) 0).bind fun (y1:(Unit)⊕(Int))=>
 y1.elim (fun y1=>(zE (fun (x:Int)=>jP a0 x) 0).bind fun (y2:(Unit)⊕(Int))=>
 y2.elim (fun y2=>(zE (fun (x:Int)=>k8 a0 a1 x) 0).bind fun (y3:(Unit)⊕(Int))=>
 y3.elim (fun y3=>some 0) (fun y3=>some y3)) (fun y2=>some y2)) (fun y1=>some y1))
def zB5 (a0:Int):Option (Bool):=
 some (!decide (a0=a0))
def jF (a0:Int) (a1:Int):Option (Int):=
(zB5 a0).bind fun t8=>
(zB5 a1).bind fun t10=>
 cond t8 (cond t10 (some 0) (some (-1))) (cond t10 (some 1) (cond (decide (a0 < a1)) (some (-1)) (cond (decide (a1 < a0)) (some 1) (some 0))))
def xD (a0:(List Int)) (a1:(List Int)) (v11:Int):Option (Stp (Int) ((Unit)⊕(Int))):=
 cond (decide (v11 < (min (a0.length:Int) (a1.length:Int)))) ((yK a0 v11).bind fun t16=>
(yK a1 v11).bind fun t20=>
 cond (!decide (t16=t20)) ((yK a0 v11).bind fun t25=>
(yK a1 v11).bind fun t29=>
(jF t25 t29).bind fun t31=>
 some (.done (.inr (t31)))) (some (.next (wi (v11+1))))) (some (.done (.inl (()))))
def uM (a0:(List Int)) (a1:(List Int)):Option (Int):=
(zE (fun (x:Int)=>xD a0 a1 x) 0).bind fun (y1:(Unit)⊕(Int))=>
 y1.elim (fun y1=>(jF (a0.length:Int) (a1.length:Int)).bind fun t37=>
 some t37) (fun y1=>some y1)
def xX (a0:Collation) (v35:Int):Option (Stp (Int) ((Unit)⊕(Int))):=
 cond (decide (v35 < (a0.Entries.length:Int))) ((yK a0.Entries v35).bind fun t38=>
(wL t38 a0.Base).bind fun t43=>
 cond (!decide (t43=0)) (some (.done (.inr (t43)))) ((pv (decide (0 < v35))).bind fun b49=>
(gM b49 (yK a0.Entries (wi (v35 - 1)))).bind fun t54=>
(gM b49 (uM t54.Codes t38.Codes)).bind fun t59=>
 cond (b49&&(decide (0≤t59))) (some (.done (.inr (4)))) (some (.next (wi (v35+1)))))) (some (.done (.inl (()))))
def xA (a0:Collation):Option (Int):=
(pv (decide (a0.Base < 1))).bind fun b10=>
(pv (b10 ||(decide (65502 < a0.Base)))).bind fun b15=>
(gM (!b15) (vT a0.Second)).bind fun t18=>
(pv (b15 ||(!t18))).bind fun b21=>
(gM (!b21) (vT a0.Third)).bind fun t24=>
 cond (b21 ||(!t24)) (some 1) ((xT a0).bind fun t28=>
 cond (!decide (t28=0)) (some t28) ((zE (fun (x:Int)=>xX a0 x) 0).bind fun (y1:(Unit)⊕(Int))=>
 y1.elim (fun y1=>some 0) (fun y1=>some y1)))
def zA2 (a0:(List Int)):Option (A9Int):=
 some ({x0:=({x0:=(a0.length:Int),x1:=0,x2:=0,x3:=0,x4:=0,x5:=0,x6:=0,x7:=0,x8:=0}:A9Int).x0,x1:=cpA a0 0 (({x0:=(a0.length:Int),x1:=0,x2:=0,x3:=0,x4:=0,x5:=0,x6:=0,x7:=0,x8:=0}:A9Int).x1),x2:=cpA a0 1 (({x0:=(a0.length:Int),x1:=0,x2:=0,x3:=0,x4:=0,x5:=0,x6:=0,x7:=0,x8:=0}:A9Int).x2),x3:=cpA a0 2 (({x0:=(a0.length:Int),x1:=0,x2:=0,x3:=0,x4:=0,x5:=0,x6:=0,x7:=0,x8:=0}:A9Int).x3),x4:=cpA a0 3 (({x0:=(a0.length:Int),x1:=0,x2:=0,x3:=0,x4:=0,x5:=0,x6:=0,x7:=0,x8:=0}:A9Int).x4),x5:=cpA a0 4 (({x0:=(a0.length:Int),x1:=0,x2:=0,x3:=0,x4:=0,x5:=0,x6:=0,x7:=0,x8:=0}:A9Int).x5),x6:=cpA a0 5 (({x0:=(a0.length:Int),x1:=0,x2:=0,x3:=0,x4:=0,x5:=0,x6:=0,x7:=0,x8:=0}:A9Int).x6),x7:=cpA a0 6 (({x0:=(a0.length:Int),x1:=0,x2:=0,x3:=0,x4:=0,x5:=0,x6:=0,x7:=0,x8:=0}:A9Int).x7),x8:=cpA a0 7 (({x0:=(a0.length:Int),x1:=0,x2:=0,x3:=0,x4:=0,x5:=0,x6:=0,x7:=0,x8:=0}:A9Int).x8)}:A9Int)
def jY (y1:(List Entry)×(List Group)×Int×Int×Int) (v17:Int) (r11:(List (A9Int×(List Element)))) (k13_6:Int):Option (Stp (Int×(List (A9Int×(List Element)))×Int) (((List (A9Int×(List Element)))×Int))):=
 cond (decide (v17 < (y1.1.length:Int))) ((yK y1.1 v17).bind fun t19=>
(zA2 t19.Codes).bind fun t27=>
 some (.next (wi (v17+1),uC r11 t27 t19.Elements,max k13_6 (t19.Codes.length:Int)))) (some (.done (r11,k13_6)))
def u6 (a0:Collation):Option (Colltable_table):=
(xA ({Entries:=a0.Entries,Groups:=a0.Groups,Base:=a0.Base,Second:=a0.Second,Third:=a0.Third}:Collation)).bind fun t7=>
(cond (!decide (t7=0)) (some (({Entries:=[],Groups:=[],Base:=64448,Second:=32,Third:=2}:Collation).Entries,({Entries:=[],Groups:=[],Base:=64448,Second:=32,Third:=2}:Collation).Groups,({Entries:=[],Groups:=[],Base:=64448,Second:=32,Third:=2}:Collation).Base,({Entries:=[],Groups:=[],Base:=64448,Second:=32,Third:=2}:Collation).Second,({Entries:=[],Groups:=[],Base:=64448,Second:=32,Third:=2}:Collation).Third)) (some (a0.Entries,a0.Groups,a0.Base,a0.Second,a0.Third))).bind fun (y1:(List Entry)×(List Group)×Int×Int×Int)=>
(zE (fun (x:Int×(List (A9Int×(List Element)))×Int)=>jY y1 x.1 x.2.1 x.2.2) (0,[],0)).bind fun (y2:(List (A9Int×(List Element)))×Int)=>
 some ({c:=({Entries:=({Entries:=y1.1,Groups:=y1.2.1,Base:=y1.2.2.1,Second:=y1.2.2.2.1,Third:=y1.2.2.2.2}:Collation).Entries,Groups:=({Entries:=y1.1,Groups:=y1.2.1,Base:=y1.2.2.1,Second:=y1.2.2.2.1,Third:=y1.2.2.2.2}:Collation).Groups,Base:=({Entries:=y1.1,Groups:=y1.2.1,Base:=y1.2.2.1,Second:=y1.2.2.2.1,Third:=y1.2.2.2.2}:Collation).Base,Second:=({Entries:=y1.1,Groups:=y1.2.1,Base:=y1.2.2.1,Second:=y1.2.2.2.1,Third:=y1.2.2.2.2}:Collation).Second,Third:=({Entries:=y1.1,Groups:=y1.2.1,Base:=y1.2.2.1,Second:=y1.2.2.2.1,Third:=y1.2.2.2.2}:Collation).Third}:Collation),entries:=y2.1,longest:=y2.2,classes:=[],top:=0}:Colltable_table)
def wU (a0:(List Span)) (v14:Int):Option (Stp (Int) ((Unit)⊕(Int))):=
 cond (decide (v14 < (a0.length:Int))) ((yK a0 v14).bind fun t16=>
(pv (decide (t16.Lo < 0))).bind fun b21=>
(pv (b21 ||(decide (1114111 < t16.Hi)))).bind fun b26=>
(pv (b26 ||(decide (t16.Hi < t16.Lo)))).bind fun b33=>
(pv (b33 ||(decide (t16.Value < 1)))).bind fun b38=>
 cond (b38 ||(decide (254 < t16.Value))) (some (.done (.inr (1)))) (some (.next (wi (v14+1))))) (some (.done (.inl (()))))
def wV (a0:(List Span)) (v5:Int):Option (Stp (Int) ((Unit)⊕(Int))):=
 cond (decide (v5 < (a0.length:Int))) ((yK a0 (wi (v5 - 1))).bind fun t53=>
(yK a0 v5).bind fun t57=>
(pv (decide (t57.Lo≤t53.Hi))).bind fun b64=>
(pv (decide (t57.Lo=(wi (t53.Hi+1))))).bind fun b71=>
 cond (b64 ||(b71&&(decide (t57.Value=t53.Value)))) (some (.done (.inr (4)))) (some (.next (wi (v5+1))))) (some (.done (.inl (()))))
def jZ (t85:A4Range) (t83:Span) (v86:Int):Option (Stp (Int) ((Unit)⊕(Int))):=
 cond (decide (v86 < 4)) ((yK [t85.x0,t85.x1,t85.x2,t85.x3] v86).bind fun t88=>
(pv (decide (t83.Lo≤t88.Hi))).bind fun b94=>
 cond (b94&&(decide (t88.Lo≤t83.Hi))) (some (.done (.inr (11)))) (some (.next (wi (v86+1))))) (some (.done (.inl (()))))
def wW (a0:(List Span)) (v81:Int):Option (Stp (Int) ((Unit)⊕(Int))):=
 cond (decide (v81 < (a0.length:Int))) ((yK a0 v81).bind fun t83=>
(pv ({x0:=({Lo:=4352,Hi:=4370}:Range),x1:=({Lo:=4449,Hi:=4469}:Range),x2:=({Lo:=4520,Hi:=4546}:Range),x3:=({Lo:=44032,Hi:=55203}:Range)}:A4Range)).bind fun t85=>
(zE (fun (x:Int)=>jZ t85 t83 x) 0).bind fun (y4:(Unit)⊕(Int))=>
 y4.elim (fun y4=>some (.next (wi (v81+1)))) (fun y4=>some (.done (.inr (y4))))) (some (.done (.inl (()))))
def u7 (a0:(List Span)):Option (Int):=
(zE (fun (x:Int)=>wU a0 x) 0).bind fun (y1:(Unit)⊕(Int))=>
 y1.elim (fun y1=>(zE (fun (x:Int)=>wV a0 x) 1).bind fun (y2:(Unit)⊕(Int))=>
 y2.elim (fun y2=>(zE (fun (x:Int)=>wW a0 x) 0).bind fun (y3:(Unit)⊕(Int))=>
 y3.elim (fun y3=>some 0) (fun y3=>some y3)) (fun y2=>some y2)) (fun y1=>some y1)
def wX (a0:Str) (v15:Int):Option (Stp (Int) ((Unit)⊕(Bool))):=
 cond (decide (v15 < (a0.length:Int))) ((zUC a0 v15).bind fun t20=>
(pv (decide (65≤t20))).bind fun b23=>
(pv (b23&&(decide (t20≤90)))).bind fun b27=>
(pv (decide (97≤t20))).bind fun b30=>
(pv (!(b27 ||(b30&&(decide (t20≤122)))))).bind fun b37=>
(pv (decide (48≤t20))).bind fun b40=>
(pv (b37&&(!(b40&&(decide (t20≤57)))))).bind fun b46=>
 cond (b46&&(!decide (t20=95))) (some (.done (.inr (false)))) (some (.next (wi (v15+1))))) (some (.done (.inl (()))))
def zBM (a0:Str):Option (Bool):=
(pv (a0== [])).bind fun b8=>
 cond (b8 ||(decide (32 < (a0.length:Int)))) (some false) ((zE (fun (x:Int)=>wX a0 x) 0).bind fun (y1:(Unit)⊕(Bool))=>
 y1.elim (fun y1=>some true) (fun y1=>some y1))
def vJ (t15:Mapping) (v24:Int):Option (Stp (Int) ((Unit)⊕(Int))):=
 cond (decide (v24 < (t15.To.length:Int))) ((yK t15.To v24).bind fun t26=>
(w9 t26).bind fun t29=>
 cond (!t29) (some (.done (.inr (1)))) (some (.next (wi (v24+1))))) (some (.done (.inl (()))))
def vK (a0:(List Mapping)) (v13:Int):Option (Stp (Int) ((Unit)⊕(Int))):=
 cond (decide (v13 < (a0.length:Int))) ((yK a0 v13).bind fun t15=>
(w9 t15.From).bind fun t19=>
 cond (!t19) (some (.done (.inr (1)))) ((zE (fun (x:Int)=>vJ t15 x) 0).bind fun (y2:(Unit)⊕(Int))=>
 y2.elim (fun y2=>some (.next (wi (v13+1)))) (fun y2=>some (.done (.inr (y2)))))) (some (.done (.inl (()))))
def vL (a0:(List Mapping)) (v35:Int):Option (Stp (Int) ((Unit)⊕(Int))):=
 cond (decide (v35 < (a0.length:Int))) ((yK a0 v35).bind fun t37=>
 cond (decide (64 < (t37.To.length:Int))) (some (.done (.inr (2)))) (some (.next (wi (v35+1))))) (some (.done (.inl (()))))
def vM (a0:(List Mapping)) (v46:Int):Option (Stp (Int) ((Unit)⊕(Int))):=
 cond (decide (v46 < (a0.length:Int))) ((yK a0 v46).bind fun t48=>
(pv (!(t48.Tag== []))).bind fun b53=>
(gM b53 (zBM t48.Tag)).bind fun t56=>
 cond (b53&&(!t56)) (some (.done (.inr (6)))) (some (.next (wi (v46+1))))) (some (.done (.inl (()))))
def zB6 (a0:(List Mapping)):Option (Int):=
(zE (fun (x:Int)=>vK a0 x) 0).bind fun (y1:(Unit)⊕(Int))=>
 y1.elim (fun y1=>(zE (fun (x:Int)=>vL a0 x) 0).bind fun (y3:(Unit)⊕(Int))=>
 y3.elim (fun y3=>(zE (fun (x:Int)=>vM a0 x) 0).bind fun (y4:(Unit)⊕(Int))=>
 y4.elim (fun y4=>some 0) (fun y4=>some y4)) (fun y3=>some y3)) (fun y1=>some y1)
def u9 (a0:Str):Option (Bool):=
 some (!(a0==a0))
def vU (a0:Str) (a1:Str):Option (Int):=
(u9 a0).bind fun t8=>
(u9 a1).bind fun t10=>
 cond t8 (cond t10 (some 0) (some (-1))) (cond t10 (some 1) (cond (Op.bytesLess a0 a1) (some (-1)) (cond (!Op.bytesLess a0 a1&& !(a0==a1)) (some 1) (some 0))))
def zA8 (a0:(List Int)) (v8:Int):Option (Stp (Int) ((Unit)⊕(Int))):=
 cond (decide (v8 < (a0.length:Int))) ((yK a0 v8).bind fun t10=>
 cond (!decide (t10=0)) (some (.done (.inr (t10)))) (some (.next (wi (v8+1))))) (some (.done (.inl (()))))
def zDE (a0:(List Int)):Option (Int):=
(zE (fun (x:Int)=>zA8 a0 x) 0).bind fun (y1:(Unit)⊕(Int))=>
 y1.elim (fun y1=>some 0) (fun y1=>some y1)
def zA3 (a0:Mapping) (a1:Mapping):Option (Int):=
(jF a0.From a1.From).bind fun t9=>
(vU a0.Tag a1.Tag).bind fun t14=>
(zDE [t9,t14]).bind fun t16=>
 some t16
def zB7 (a0:Mapping):Option (Mapping_key):=
 some ({from_:=a0.From,tag:=a0.Tag}:Mapping_key)
def xY (a0:(List Mapping)) (v4:Bool) (v5:Int):Option (Stp (Bool×Int) ((Bool))):=
 cond (decide (v5 < (a0.length:Int))) (((yK a0 (wi (v5 - 1))).bind fun t23=>
(yK a0 v5).bind fun t27=>
(zA3 t23 t27).bind fun t29=>
 cond (decide (0≤t29)) (some false) (some v4)).bind fun (y2:Bool)=>
 some (.next (y2,wi (v5+1)))) (some (.done v4))
def xZ (a0:(List Mapping)) (v35:Int) (r32:(List (Mapping_key×Bool))):Option (Stp (Int×(List (Mapping_key×Bool))) ((Unit)⊕(Int))):=
 cond (decide (v35 < (a0.length:Int))) ((yK a0 v35).bind fun t37=>
(zB7 t37).bind fun t41=>
 cond (vZ r32 t41 false) (some (.done (.inr (5)))) ((zB7 t37).bind fun t45=>
 some (.next (wi (v35+1),uC r32 t45 true)))) (some (.done (.inl (()))))
def zB8 (a0:(List Mapping)):Option (Int):=
(zB6 a0).bind fun t10=>
 cond (!decide (t10=0)) (some t10) ((zE (fun (x:Bool×Int)=>xY a0 x.1 x.2) (true,1)).bind fun (y1:Bool)=>
 cond y1 (some 0) ((zE (fun (x:Int×(List (Mapping_key×Bool)))=>xZ a0 x.1 x.2) (0,[])).bind fun (y3:(Unit)⊕(Int))=>
 y3.elim (fun y3=>some 4) (fun y3=>some y3)))
def zEM (a0:Int):Option (Int):=
(cond (decide (4294967296≤a0)) (some (a0 / 2 ^ 32,32)) (some (a0,0))).bind fun (y1:Int×Int)=>
(cond (decide (65536≤y1.1)) (some (y1.1 / 2 ^ 16,wi (y1.2+16))) (some (y1.1,y1.2))).bind fun (y2:Int×Int)=>
(cond (decide (256≤y2.1)) (some (y2.1 / 2 ^ 8,wi (y2.2+8))) (some (y2.1,y2.2))).bind fun (y3:Int×Int)=>
(zUC [0,1,2,2,3,3,3,3,4,4,4,4,4,4,4,4,5,5,5,5,5,5,5,5,5,5,5,5,5,5,5,5,6,6,6,6,6,6,6,6,6,6,6,6,6,6,6,6,6,6,6,6,6,6,6,6,6,6,6,6,6,6,6,6,7,7,7,7,7,7,7,7,7,7,7,7,7,7,7,7,7,7,7,7,7,7,7,7,7,7,7,7,7,7,7,7,7,7,7,7,7,7,7,7,7,7,7,7,7,7,7,7,7,7,7,7,7,7,7,7,7,7,7,7,7,7,7,7,8,8,8,8,8,8,8,8,8,8,8,8,8,8,8,8,8,8,8,8,8,8,8,8,8,8,8,8,8,8,8,8,8,8,8,8,8,8,8,8,8,8,8,8,8,8,8,8,8,8,8,8,8,8,8,8,8,8,8,8,8,8,8,8,8,8,8,8,8,8,8,8,8,8,8,8,8,8,8,8,8,8,8,8,8,8,8,8,8,8,8,8,8,8,8,8,8,8,8,8,8,8,8,8,8,8,8,8,8,8,8,8,8,8,8,8,8,8,8,8,8,8,8,8,8,8,8,8] ((IntKind.u8.wrap) y3.1)).bind fun t22=>
 some (wi (y3.2+(wi t22)))
def zB9 (a0:Int):Option (Int):=
 cond false (none) ((zEM a0).bind fun t7=>
 some t7)
def yF (a1:Int) (a3:Range→Range→Option (Int)) (v9:Int) (r3000:(List Range)):Option (Stp (Int×(List Range)) (((List Range)))):=
(pv (decide (a1 < v9))).bind fun b21=>
(gM b21 (yK r3000 v9)).bind fun t25=>
(gM b21 (yK r3000 (wi (v9 - 1)))).bind fun t30=>
(gM b21 (a3 t25 t30)).bind fun t32=>
 cond (b21&&(decide (t32 < 0))) ((yK r3000 (wi (v9 - 1))).bind fun t45=>
(yK r3000 v9).bind fun t49=>
(yK r3000 v9).bind fun t51=>
(zBE r3000 v9 t45).bind fun r3000_6x15=>
(yK r3000_6x15 (wi (v9 - 1))).bind fun t52=>
(zBE r3000_6x15 (wi (v9 - 1)) t49).bind fun r3000_6x17=>
 some (.next (wi (v9 - 1),r3000_6x17))) (some (.done r3000))
def z3 (a2:Int) (a1:Int) (a3:Range→Range→Option (Int)) (v8:Int) (r3000:(List Range)):Option (Stp (Int×(List Range)) (((List Range)))):=
 cond (decide (v8 < a2)) ((zE (fun (x:Int×(List Range))=>yF a1 a3 x.1 x.2) (v8,r3000)).bind fun (y2:(List Range))=>
 some (.next (wi (v8+1),y2))) (some (.done r3000))
def kF (a0:(List Range)) (a1:Int) (a2:Int) (a3:Range→Range→Option (Int)):Option ((List Range)):=
(zE (fun (x:Int×(List Range))=>z3 a2 a1 a3 x.1 x.2) (wi (a1+1),a0)).bind fun (y1:(List Range))=>
 some y1
def yW (a2:Int) (a1:Int) (a0:(List Range)) (a4:Range→Range→Option (Int)) (a3:Int):Option (Stp (Unit) (((List Range)))):=
(cond (decide ((wi (a2 - a1))≤12)) ((kF a0 a1 a2 a4).bind fun t30=>
 some t30) (cond (decide (a3=0)) (none) ((cond (!true) (none) (some ())).bind fun (y3:Unit)=>
 none))).bind fun (y2:(List Range))=>
 some (.done y2)
def jQ (a0:(List Range)) (a1:Int) (a2:Int) (a3:Int) (a4:Range→Range→Option (Int)):Option ((List Range)):=
(zE (fun (_:Unit)=>yW a2 a1 a0 a4 a3) ()).bind fun (y1:(List Range))=>
 some y1
def kN (a0:(List Range)) (a1:Range→Range→Option (Int)):Option ((List Range)):=
(zB9 (wu (a0.length:Int))).bind fun t11=>
(jQ a0 0 (a0.length:Int) t11 a1).bind fun t13=>
 some t13
def uN (a0:Range) (a1:Range):Option (Int):=
(jF a0.Lo a1.Lo).bind fun t9=>
(jF a0.Hi a1.Hi).bind fun t14=>
(zDE [t9,t14]).bind fun t16=>
 some t16
def uT (a0:(List Range)) (v13:Int) (r1003:(List Range)):Option (Stp (Int×(List Range)) (((List Range)))):=
 cond (decide (v13 < (a0.length:Int))) (((yK a0 v13).bind fun t15=>
 cond (decide ((({Lo:=max t15.Lo 0,Hi:=min t15.Hi 1114111}:Range).Lo)≤(({Lo:=max t15.Lo 0,Hi:=min t15.Hi 1114111}:Range).Hi))) ((app r1003 [({Lo:=max t15.Lo 0,Hi:=min t15.Hi 1114111}:Range)]).bind fun r1003_3=>
 some r1003_3) (some r1003)).bind fun (y2:(List Range))=>
 some (.next (wi (v13+1),y2))) (some (.done r1003))
def uU (t35:(List Range)) (v38:Int) (r1007:(List Range)):Option (Stp (Int×(List Range)) (((List Range)))):=
 cond (decide (v38 < (t35.length:Int))) (((yK t35 v38).bind fun t40=>
(pv (decide (0 < (r1007.length:Int)))).bind fun b46=>
(gM b46 (yK r1007 (wi ((r1007.length:Int) - 1)))).bind fun t52=>
 cond (b46&&(decide (t40.Lo≤(wi (t52.Hi+1))))) ((yK r1007 (wi ((r1007.length:Int) - 1))).bind fun t64=>
(yK r1007 (wi ((r1007.length:Int) - 1))).bind fun t70=>
(zBE r1007 (wi ((r1007.length:Int) - 1)) ({t70 with Hi:=max t64.Hi t40.Hi})).bind fun r1007_6=>
 some r1007_6) ((app r1007 [t40]).bind fun r1007_7=>
 some r1007_7)).bind fun (y5:(List Range))=>
 some (.next (wi (v38+1),y5))) (some (.done r1007))
def zFJ (a0:(List Range)):Option (Set):=
(zE (fun (x:Int×(List Range))=>uT a0 x.1 x.2) (0,[])).bind fun (y1:(List Range))=>
(kN y1 (fun x0 x1=>uN x0 x1)).bind fun t35=>
(zE (fun (x:Int×(List Range))=>uU t35 x.1 x.2) (0,[])).bind fun (y4:(List Range))=>
 some ({Ranges:=y4}:Set)
def zAA (t8:Set) (a0:Set) (v19:Int):Option (Stp (Int) ((Unit)⊕(Bool))):=
 cond (decide (v19 < (t8.Ranges.length:Int))) ((yK t8.Ranges v19).bind fun t22=>
(yK a0.Ranges v19).bind fun t28=>
 cond (!decide (t22=t28)) (some (.done (.inr (false)))) (some (.next (wi (v19+1))))) (some (.done (.inl (()))))
def zD4 (a0:Set):Option (Bool):=
(zFJ a0.Ranges).bind fun t8=>
 cond (!decide ((t8.Ranges.length:Int)=(a0.Ranges.length:Int))) (some false) ((zE (fun (x:Int)=>zAA t8 a0 x) 0).bind fun (y1:(Unit)⊕(Bool))=>
 y1.elim (fun y1=>some true) (fun y1=>some y1))
def zBN (a0:Int):Option (Int):=
(pv (decide (4352≤a0))).bind fun b6=>
 cond (b6&&(decide (a0 < 4371))) (some 1) ((pv (decide (4449≤a0))).bind fun b13=>
 cond (b13&&(decide (a0 < 4470))) (some 2) ((pv (decide (4520≤a0))).bind fun b20=>
 cond (b20&&(decide (a0 < 4547))) (some 3) ((pv (decide (a0 < 44032))).bind fun b27=>
 cond (b27 ||(decide (55204≤a0))) (some 0) ((zGR (wi (a0 - 44032)) 28).bind fun t34=>
 cond (decide (t34=0)) (some 4) (some 5)))))
def uD (a0:(List Span)):Option ((List Span)):=
(u7 a0).bind fun t4=>
 cond (!decide (t4=0)) (some []) (some a0)
def z0 (a0:(List Span)) (a2:Span→Int→Option (Int)) (a1:Int) (v9:Int) (v10:Int):Option (Stp (Int×Int) ((Int))):=
 cond (decide (v9 < v10)) (((yK a0 (wi ((wu (wi (v9+v10))) / 2 ^ 1))).bind fun t27=>
(a2 t27 a1).bind fun t30=>
 cond (decide (t30 < 0)) (some (wi ((wi ((wu (wi (v9+v10))) / 2 ^ 1))+1),v10)) (some (v9,wi ((wu (wi (v9+v10))) / 2 ^ 1)))).bind fun (y2:Int×Int)=>
 some (.next (y2.1,y2.2))) (some (.done v9))
def kA (a0:(List Span)) (a1:Int) (a2:Span→Int→Option (Int)):Option (Int×Bool):=
(zE (fun (x:Int×Int)=>z0 a0 a2 a1 x.1 x.2) (0,(a0.length:Int))).bind fun (y1:Int)=>
(pv (decide (y1 < (a0.length:Int)))).bind fun b39=>
(gM b39 (yK a0 y1)).bind fun t43=>
(gM b39 (a2 t43 a1)).bind fun t46=>
 some (y1,(b39&&(decide (t46=0))))
def vN (a0:Span) (a1:Int):Option (Int):=
 cond (decide (a0.Hi < a1)) (some (-1)) (cond (decide (a1 < a0.Lo)) (some 1) (some 0))
def kG (a0:(List Span)) (a1:Int):Option (Int):=
(kA a0 a1 (fun x0 x1=>vN x0 x1)).bind fun t10=>
 cond (!t10.2) (some 0) ((yK a0 t10.1).bind fun t17=>
 some t17.Value)
def yX (a1:(List Int)) (a2:(List Span)) (items:(List Range)) (v4:Int) (v10:Int) (v1000000:Nat):Option (Stp (Int×Int×Nat) ((Int×Nat)⊕(Nat))):=
 cond (decide (v10 < (a1.length:Int))) (((yK a1 v10).bind fun t13=>
(kG a2 t13).bind fun t17=>
((pv (!(decide (t17=0)))).bind fun b22=>
 cond (b22&&(decide (v4 < 0))) (some (.inl ((v10,v1000000)))) ((pv (decide (t17=0))).bind fun b29=>
 cond (b29&&(decide (0≤v4))) ((yM items v1000000 ({Lo:=v4,Hi:=v10}:Range)).bind fun u37=>
 cond (!true) (some (.inr (v1000000+1))) (some (.inl (((-1),v1000000+1))))) (some (.inl ((v4,v1000000)))))).bind fun (y3:(Int×Nat)⊕(Nat))=>
 y3.elim (fun y3=>some (.inl ((y3.1,y3.2)))) (fun y3=>some (.inr (y3)))).bind fun (y2:(Int×Nat)⊕(Nat))=>
 y2.elim (fun y2=>some (.next (y2.1,wi (v10+1),y2.2))) (fun y2=>some (.done (.inr (y2))))) (some (.done (.inl ((v4,v1000000)))))
def uE (items:List Range) (a1:(List Int)) (a2:(List Span)):Option Unit:=
(zE (fun (x:Int×Int×Nat)=>yX a1 a2 items x.1 x.2.1 x.2.2) ((-1),0,0)).bind fun (y1:(Int×Nat)⊕(Nat))=>
 y1.elim (fun y1=>cond (decide (0≤y1.1)) ((yM items y1.2 ({Lo:=y1.1,Hi:=(a1.length:Int)}:Range)).bind fun u47=>
 zXJ items (y1.2+1)) (zXJ items y1.2)) (fun y1=>zXJ items y1)
def jO (st:Int→Bool):List Int→Int→Int→List Range
 | [],i,s=>if 0≤s then [{Lo:=s,Hi:=i}] else []
 | c::r,i,s=>if !st c&&decide (s < 0) then jO st r (i+1) i else if st c&&decide (0≤s) then {Lo:=s,Hi:=i}::jO st r (i+1) (-1) else jO st r (i+1) s
def yBU {α:Type} (l:List α):Option (List α):=if l.length≤LIM then some l else none
def zCA (a0:List Span) (a1:List Int):Option (List Range):=(uD a0).bind fun t6=>(uE (jO (fun c=>kG t6 c==some 0) a1 0 (-1)) a1 t6).bind fun _=>yBU (jO (fun c=>kG t6 c==some 0) a1 0 (-1))
def zEY (a0:Int):Option (A3Int):=
(zBN a0).bind fun t6=>
 cond (decide (t6 < 4)) (some ({x0:=0,x1:=0,x2:=0}:A3Int)) ((zJW wi (wi (a0 - 44032)) 28).bind fun t12=>
(zJW wi t12 21).bind fun t13=>
(zJW wi (wi (a0 - 44032)) 28).bind fun t16=>
(zGR t16 21).bind fun t17=>
(zGR (wi (a0 - 44032)) 28).bind fun t21=>
(cond (decide (0 < t21)) ((zGR (wi (a0 - 44032)) 28).bind fun t24=>
 some (wi ((wi (4520+t24)) - 1))) (some (({x0:=wi (4352+t13),x1:=wi (4449+t17),x2:=0}:A3Int).x2))).bind fun (y1:Int)=>
 some ({x0:=({x0:=wi (4352+t13),x1:=wi (4449+t17),x2:=0}:A3Int).x0,x1:=({x0:=wi (4352+t13),x1:=wi (4449+t17),x2:=0}:A3Int).x1,x2:=y1}:A3Int))
def zAB (a0:Int):Option ((List Int)):=
(zEY a0).bind fun t5=>
 cond (decide (t5=({x0:=0,x1:=0,x2:=0}:A3Int))) (some [a0]) (cond (decide (t5.x2=0)) (some [t5.x0,t5.x1]) (some [t5.x0,t5.x1,t5.x2]))
def zS (a0:(List Mapping)) (a2:Mapping→Int→Option (Int)) (a1:Int) (v9:Int) (v10:Int):Option (Stp (Int×Int) ((Int))):=
 cond (decide (v9 < v10)) (((yK a0 (wi ((wu (wi (v9+v10))) / 2 ^ 1))).bind fun t27=>
(a2 t27 a1).bind fun t30=>
 cond (decide (t30 < 0)) (some (wi ((wi ((wu (wi (v9+v10))) / 2 ^ 1))+1),v10)) (some (v9,wi ((wu (wi (v9+v10))) / 2 ^ 1)))).bind fun (y2:Int×Int)=>
 some (.next (y2.1,y2.2))) (some (.done v9))
def z8 (a0:(List Mapping)) (a1:Int) (a2:Mapping→Int→Option (Int)):Option (Int×Bool):=
(zE (fun (x:Int×Int)=>zS a0 a2 a1 x.1 x.2) (0,(a0.length:Int))).bind fun (y1:Int)=>
(pv (decide (y1 < (a0.length:Int)))).bind fun b39=>
(gM b39 (yK a0 y1)).bind fun t43=>
(gM b39 (a2 t43 a1)).bind fun t46=>
 some (y1,(b39&&(decide (t46=0))))
def x9 (a0:Mapping) (a1:Int):Option (Int):=
(jF a0.From a1).bind fun t8=>
 some t8
def wM (a0:Norm) (a1:Int) (a2:Bool):Option ((List Int)×Bool):=
(zBN a1).bind fun t11=>
 cond (decide (4≤t11)) ((zAB a1).bind fun t14=>
 some (t14,true)) ((z8 a0.Decomp a1 (fun x0 x1=>x9 x0 x1)).bind fun t19=>
(pv (!t19.2)).bind fun b24=>
(gM (!b24) (yK a0.Decomp t19.1)).bind fun t28=>
(pv (!(t28.Tag== []))).bind fun b32=>
 cond (b24 ||(b32&&(!a2))) (some ([],false)) ((yK a0.Decomp t19.1).bind fun t40=>
 some (t40.To,true)))
def k4 (t18:(List Int)×Bool) (rec:(Int→Norm→(List (Int×Int))→Bool→Bool→Option (Int×Bool×Bool×(List (Int×Int))))) (a1:Norm) (v12:Int) (v46:Int) (k3003_0:Bool) (k3005_0:Bool) (r3140:(List (Int×Int))):Option (Stp (Int×Int×Bool×Bool×(List (Int×Int))) ((Int×Bool×Bool×(List (Int×Int))))):=
 cond (decide (v46 < (t18.1.length:Int))) ((yK t18.1 v46).bind fun t48=>
(rec t48 a1 r3140 k3003_0 k3005_0).bind fun t53=>
 some (.next (min (wi (v12+t53.1)) 65,wi (v46+1),t53.2.1,t53.2.2.1,t53.2.2.2))) (some (.done (v12,k3003_0,k3005_0,r3140)))
def kR (rec:Int→Norm→(List (Int×Int))→Bool→Bool→Option (Int×Bool×Bool×(List (Int×Int)))) (a0:Int) (a1:Norm) (a2:(List (Int×Int))) (a3:Bool) (a5:Bool):Option (Int×Bool×Bool×(List (Int×Int))):=
(wM a1 a0 true).bind fun t18=>
(pv (!t18.2)).bind fun b23=>
 cond (b23 ||(decide ((t18.1.length:Int)=0))) (some (1,a3,a5,a2)) (cond (zA1 a2 a0) ((pv a3).bind fun b36=>
 some (max (vZ a2 a0 0) 1,(b36 ||(decide ((vZ a2 a0 0)=(-1)))),a5,a2)) ((zE (fun (x:Int×Int×Bool×Bool×(List (Int×Int)))=>k4 t18 rec a1 x.1 x.2.1 x.2.2.1 x.2.2.2.1 x.2.2.2.2) (0,0,a3,a5,uC a2 a0 (-1))).bind fun (y1:Int×Bool×Bool×(List (Int×Int)))=>
(pv y1.2.2.1).bind fun b61=>
 some (y1.1,y1.2.1,(b61 ||(decide (64 < y1.1))),uC y1.2.2.2 a0 y1.1)))
def z1:Nat→Int→Norm→(List (Int×Int))→Bool→Bool→Option (Int×Bool×Bool×(List (Int×Int)))
 | 0=>fun _ _ _ _ _=>none
 | n+1=>kR (z1 n)
def yY (a0:Norm) (v13:Int) (k2_0:Bool) (k3_0:Bool) (r8:(List (Int×Int))):Option (Stp (Int×Bool×Bool×(List (Int×Int))) ((Bool×Bool))):=
 cond (decide (v13 < (a0.Decomp.length:Int))) ((yK a0.Decomp v13).bind fun t15=>
(z1 100 t15.From a0 r8 k2_0 k3_0).bind fun t20=>
 some (.next (wi (v13+1),t20.2.1,t20.2.2.1,t20.2.2.2))) (some (.done (k2_0,k3_0)))
def decompose_measure (a0:Norm):Option (Bool×Bool):=
(zE (fun (x:Int×Bool×Bool×(List (Int×Int)))=>yY a0 x.1 x.2.1 x.2.2.1 x.2.2.2) (0,false,false,[])).bind fun (y1:Bool×Bool)=>
 some (y1.1,y1.2)
def wA (a0:Norm) (v5:Int):Option (Stp (Int) ((Unit)⊕(Int))):=
 cond (decide (v5 < (a0.Decomp.length:Int))) ((yK a0.Decomp v5).bind fun t39=>
(yK a0.Decomp (wi (v5 - 1))).bind fun t46=>
 cond (decide (t39.From=t46.From)) (some (.done (.inr (5)))) (some (.next (wi (v5+1))))) (some (.done (.inl (()))))
def wB (a0:Norm) (v53:Int):Option (Stp (Int) ((Unit)⊕(Int))):=
 cond (decide (v53 < (a0.Decomp.length:Int))) ((yK a0.Decomp v53).bind fun t55=>
(pv (t55.Tag== [])).bind fun b60=>
(pv (b60&&(!decide ((t55.To.length:Int)=1)))).bind fun b66=>
 cond (b66&&(!decide ((t55.To.length:Int)=2))) (some (.done (.inr (8)))) (some (.next (wi (v53+1))))) (some (.done (.inl (()))))
def yG (a0:Norm) (v76:Int) (r1008:(List Int)):Option (Stp (Int×(List Int)) (((List Int))⊕(Int))):=
 cond (decide (v76 < (a0.Decomp.length:Int))) (((yK a0.Decomp v76).bind fun t78=>
(zBN t78.From).bind fun t82=>
 cond (!decide (t82=0)) (some (.inr (()))) (cond (!(t78.Tag== [])) ((app r1008 [t78.From]).bind fun r1008_5=>
 some (.inl (r1008_5))) (some (.inl (r1008))))).bind fun (y4:((List Int))⊕(Unit))=>
 y4.elim (fun y4=>some (.next (wi (v76+1),y4))) (fun y4=>some (.done (.inr (11))))) (some (.done (.inl (r1008))))
def uF (a0:Norm):Option (Int):=
(u7 a0.Classes).bind fun t15=>
 cond (!decide (t15=0)) (some t15) ((zB8 a0.Decomp).bind fun t21=>
 cond (!decide (t21=0)) (some t21) ((zD4 a0.Excluded).bind fun t27=>
 cond (!t27) (some 11) ((zE (fun (x:Int)=>wA a0 x) 1).bind fun (y1:(Unit)⊕(Int))=>
 y1.elim (fun y1=>(zE (fun (x:Int)=>wB a0 x) 0).bind fun (y2:(Unit)⊕(Int))=>
 y2.elim (fun y2=>(zE (fun (x:Int×(List Int))=>yG a0 x.1 x.2) (0,[])).bind fun (y3:((List Int))⊕(Int))=>
 y3.elim (fun y3=>(zCA a0.Classes y3).bind fun t96=>
 cond (decide (0 < (t96.length:Int))) (some 11) ((decompose_measure a0).bind fun t101=>
 cond t101.1 (some 12) (cond t101.2 (some 13) (some 0)))) (fun y3=>some y3)) (fun y2=>some y2)) (fun y1=>some y1))))
def k9 (y1:(List Span)) (v20:Int) (k3000_8:Int):Option (Stp (Int×Int) ((Int))):=
 cond (decide (v20 < (y1.length:Int))) ((yK y1 v20).bind fun t22=>
 some (.next (wi (v20+1),max k3000_8 t22.Value))) (some (.done k3000_8))
def xE (a0:Colltable_table) (a1:Norm):Option (Colltable_table):=
(uF a1).bind fun t8=>
(cond (decide (t8=0)) (some a1.Classes) (some a0.classes)).bind fun (y1:(List Span))=>
(zE (fun (x:Int×Int)=>k9 y1 x.1 x.2) (0,a0.top)).bind fun (y2:Int)=>
 some ({c:=({Entries:=a0.c.Entries,Groups:=a0.c.Groups,Base:=a0.c.Base,Second:=a0.c.Second,Third:=a0.c.Third}:Collation),entries:=a0.entries,longest:=a0.longest,classes:=y1,top:=y2}:Colltable_table)
def jC (a0:Colltable_table) (a1:(List Int)):Option ((List Element)×Bool):=
(pv (decide ((a1.length:Int)=0))).bind fun b11=>
 cond (b11 ||(decide (a0.longest < (a1.length:Int)))) (some ([],false)) ((zA2 a1).bind fun t26=>
 some (vZ a0.entries t26 [],zA1 a0.entries t26))
def jK (a0:Colltable_table) (a1:Int):Option ((List Element)):=
(w9 a1).bind fun t6=>
 cond (!t6) (some []) ((zJW wi a1 32768).bind fun t14=>
(zGR a1 32768).bind fun t28=>
 some [({Primary:=wi (a0.c.Base+t14),Secondary:=a0.c.Second,Tertiary:=a0.c.Third,Variable:=false}:Element),({Primary:=wi (32768+t28),Secondary:=0,Tertiary:=0,Variable:=false}:Element)])
def xF (a0:Int) (a1:Colltable_table) (a2:Int):Option (Bool):=
(yK a1.classes a0).bind fun t10=>
 some (decide (a2≤t10.Hi))
def zAC (a1:Int→Option (Bool)) (v5:Int) (v6:Int):Option (Stp (Int×Int) ((Int))):=
 cond (decide (v5 < v6)) (((a1 (wi ((wu (wi (v5+v6))) / 2 ^ 1))).bind fun t20=>
 cond (!t20) (some (wi ((wi ((wu (wi (v5+v6))) / 2 ^ 1))+1),v6)) (some (v5,wi ((wu (wi (v5+v6))) / 2 ^ 1)))).bind fun (y2:Int×Int)=>
 some (.next (y2.1,y2.2))) (some (.done v5))
def zGB (a0:Int) (a1:Int→Option (Bool)):Option (Int):=
(zE (fun (x:Int×Int)=>zAC a1 x.1 x.2) (0,a0)).bind fun (y1:Int)=>
 some y1
def xU (a0:Colltable_table) (a1:Int):Option (Int):=
(zGB (a0.classes.length:Int) (fun x0=>xF x0 a0 a1)).bind fun t12=>
(pv (decide (t12 < (a0.classes.length:Int)))).bind fun b20=>
(gM b20 (yK a0.classes t12)).bind fun t26=>
 cond (b20&&(decide (t26.Lo≤a1))) ((yK a0.classes t12).bind fun t37=>
 some t37.Value) (some 0)
def kO (a1:(List Int)) (a0:Colltable_table) (v7:Int):Option (Stp (Int) ((Int))):=
 cond (decide (0 < v7)) ((slc a1 0 v7).bind fun t31=>
(jC a0 t31).bind fun t32=>
 cond t32.2 (some (.done v7)) (some (.next (wi (v7 - 1))))) (some (.done v7))
def yR (a0:Colltable_table) (v7:Int) (v10:Int) (v11:Int) (r3001:(List Int)):Option (Stp (Int×Int×Int×(List Int)) ((Int×(List Int)))):=
(pv (decide (v11 < (r3001.length:Int)))).bind fun b50=>
 cond (b50&&(decide (v10 < a0.top))) (((yK r3001 v11).bind fun t62=>
(xU a0 t62).bind fun t66=>
 cond (decide (t66=0)) (some (.inl (()))) (cond (decide (t66≤v10)) (some (.inr ((v7,v10,r3001)))) ((slc r3001 0 v7).bind fun t77=>
(app t77 [t62]).bind fun r80_4=>
(jC a0 r80_4).bind fun t81=>
 cond (!t81.2) (some (.inr ((v7,t66,r3001)))) ((slc r3001 (wi (v7+1)) (wi (v11+1))).bind fun t92=>
(slc r3001 v7 v11).bind fun t96=>
(yK (cpM r3001 (wi (v7+1)) (wi (v11+1)) v7 v11) v7).bind fun t101=>
(zBE (cpM r3001 (wi (v7+1)) (wi (v11+1)) v7 v11) v7 t62).bind fun r3001_5=>
 some (.inr ((wi (v7+1),v10,r3001_5))))))).bind fun (y3:(Unit)⊕(Int×Int×(List Int)))=>
 y3.elim (fun y3=>some (.done (v7,r3001))) (fun y3=>some (.next (y3.1,y3.2.1,wi (v11+1),y3.2.2)))) (some (.done (v7,r3001)))
def j7 (a0:Colltable_table) (a1:(List Int)):Option (Int×(List Element)×Bool×(List Int)):=
(zE (fun (x:Int)=>kO a1 a0 x) (min a0.longest (a1.length:Int))).bind fun (y1:Int)=>
 cond (decide (y1=0)) ((yK a1 (0:Int)).bind fun t42=>
(jK a0 t42).bind fun t44=>
 some (1,t44,false,a1)) ((zE (fun (x:Int×Int×Int×(List Int))=>yR a0 x.1 x.2.1 x.2.2.1 x.2.2.2) (y1,0,y1,a1)).bind fun (y2:Int×(List Int))=>
(slc y2.2 0 y2.1).bind fun t108=>
(jC a0 t108).bind fun t109=>
 some (y2.1,t109.1,true,y2.2))
def k6 (a0:(List Element)):Option ((List Element)):=app [] a0
def zAD (a0:Norm) (a1:Collation) (a2:(List Int)):Option (Int×(List Int)×(List Element)):=
 cond (decide ((a2.length:Int)=0)) (some (0,[],[])) ((xC a2).bind fun t17=>
(u6 a1).bind fun t20=>
(xE t20 a0).bind fun t22=>
(j7 t22 t17).bind fun t24=>
(slc t24.2.2.2 t24.1 (t24.2.2.2.length:Int)).bind fun t35=>
(k6 t24.2.1).bind fun t37=>
 some (t24.1,t35,t37))
def vO (a0:(List Int)) (a1:(List Int)) (v5:Int):Option (Stp (Int) ((Unit)⊕(Int))):=
(pv (decide (v5 < (a0.length:Int)))).bind fun b10=>
 cond (b10&&(decide (v5 < (a1.length:Int)))) ((yK a0 v5).bind fun t20=>
(yK a1 v5).bind fun t24=>
 cond (decide (t20 < t24)) (some (.done (.inr ((-1))))) ((yK a0 v5).bind fun t29=>
(yK a1 v5).bind fun t33=>
 cond (decide (t33 < t29)) (some (.done (.inr (1)))) (some (.next (wi (v5+1)))))) (some (.done (.inl (()))))
def zA9 (a0:(List Int)) (a1:(List Int)):Option (Int):=
(zE (fun (x:Int)=>vO a0 a1 x) 0).bind fun (y1:(Unit)⊕(Int))=>
 y1.elim (fun y1=>cond (decide ((a0.length:Int) < (a1.length:Int))) (some (-1)) (cond (decide ((a1.length:Int) < (a0.length:Int))) (some 1) (some 0))) (fun y1=>some y1)
def zCM (a0:(List Int)) (a1:(List Int)):Option (Bool):=
(zA9 a0 a1).bind fun t7=>
 some (decide (t7=0))
def wG (a0:(List Element)) (a1:(List Element)) (v5:Int):Option (Stp (Int) ((Unit)⊕(Bool))):=
 cond (decide (v5 < (a0.length:Int))) ((yK a0 v5).bind fun t19=>
(yK a1 v5).bind fun t23=>
 cond (!decide (t19=t23)) (some (.done (.inr (false)))) (some (.next (wi (v5+1))))) (some (.done (.inl (()))))
def zAW (a0:(List Element)) (a1:(List Element)):Option (Bool):=
 cond (!decide ((a0.length:Int)=(a1.length:Int))) (some false) ((zE (fun (x:Int)=>wG a0 a1 x) 0).bind fun (y1:(Unit)⊕(Bool))=>
 y1.elim (fun y1=>some true) (fun y1=>some y1))
def zAU:Option (Bool):=
(zAD ({Classes:=({Classes:=[({Lo:=769,Hi:=769,Value:=230}:Span),({Lo:=803,Hi:=803,Value:=220}:Span)],Decomp:=[],Excluded:=(({Ranges:=[]}):Set)}:Norm).Classes,Decomp:=({Classes:=[({Lo:=769,Hi:=769,Value:=230}:Span),({Lo:=803,Hi:=803,Value:=220}:Span)],Decomp:=[],Excluded:=(({Ranges:=[]}):Set)}:Norm).Decomp,Excluded:=({Ranges:=(({Classes:=[({Lo:=769,Hi:=769,Value:=230}:Span),({Lo:=803,Hi:=803,Value:=220}:Span)],Decomp:=[],Excluded:=(({Ranges:=[]}):Set)}:Norm).Excluded).Ranges}:Set)}:Norm) ({Entries:=[({Codes:=[97],Elements:=[({Primary:=7,Secondary:=1,Tertiary:=1,Variable:=false}:Element)]}:Entry),({Codes:=[97,769],Elements:=[({Primary:=8,Secondary:=1,Tertiary:=1,Variable:=false}:Element)]}:Entry)],Groups:=[],Base:=100,Second:=1,Third:=1}:Collation) [97,803,769]).bind fun t28=>
(xA ({Entries:=[({Codes:=[97],Elements:=[({Primary:=7,Secondary:=1,Tertiary:=1,Variable:=false}:Element)]}:Entry),({Codes:=[97,769],Elements:=[({Primary:=8,Secondary:=1,Tertiary:=1,Variable:=false}:Element)]}:Entry)],Groups:=[],Base:=100,Second:=1,Third:=1}:Collation)).bind fun t33=>
(pv (decide (t33=0))).bind fun b35=>
(pv (b35&&(decide (t28.1=2)))).bind fun b39=>
(gM b39 (zCM t28.2.1 [803])).bind fun t42=>
(pv (b39&&t42)).bind fun b44=>
(gM b44 (zAW t28.2.2 [({Primary:=8,Secondary:=1,Tertiary:=1,Variable:=false}:Element)])).bind fun t47=>
 some (b44&&t47)
def zCY (a0:Int):Option (Bool):=
(pv (decide (1≤a0))).bind fun b5=>
 some (b5&&(decide (a0≤65535)))
def zDR (a0:Str) (v3:Int):Option (Stp (Int) ((Unit)⊕(Bool))):=
 cond (decide (v3 < (a0.length:Int))) ((zUC a0 v3).bind fun t13=>
(pv (decide (65≤t13))).bind fun b16=>
(pv (b16&&(decide (t13≤90)))).bind fun b20=>
(pv (decide (97≤t13))).bind fun b23=>
(pv (b20 ||(b23&&(decide (t13≤122))))).bind fun b28=>
(pv (decide (48≤t13))).bind fun b31=>
(pv (b28 ||(b31&&(decide (t13≤57))))).bind fun b36=>
 cond (!(b36 ||(decide (t13=95)))) (some (.done (.inr (false)))) (some (.next (wi (v3+1))))) (some (.done (.inl (()))))
def zDF (a0:Str):Option (Bool):=
(zE (fun (x:Int)=>zDR a0 x) 0).bind fun (y1:(Unit)⊕(Bool))=>
 y1.elim (fun y1=>(pv (decide (1≤(a0.length:Int)))).bind fun b44=>
 some (b44&&(decide ((a0.length:Int)≤32)))) (fun y1=>some y1)
def uG (a0:Collation) (v4:Int):Option (Stp (Int) ((Unit)⊕(Int))):=
 cond (decide (v4 < (a0.Groups.length:Int))) ((yK a0.Groups v4).bind fun t19=>
(zDF t19.Name).bind fun t22=>
 cond (!t22) (some (.done (.inr (6)))) (some (.next (wi (v4+1))))) (some (.done (.inl (()))))
def uH (v5:Int) (a0:Collation) (v6:Int):Option (Stp (Int) ((Unit)⊕(Int))):=
 cond (decide (v6 < v5)) ((yK a0.Groups v6).bind fun t37=>
(yK a0.Groups v5).bind fun t42=>
 cond (t37.Name==t42.Name) (some (.done (.inr (5)))) (some (.next (wi (v6+1))))) (some (.done (.inl (()))))
def uI (a0:Collation) (v5:Int):Option (Stp (Int) ((Unit)⊕(Int))):=
 cond (decide (v5 < (a0.Groups.length:Int))) ((zE (fun (x:Int)=>uH v5 a0 x) 0).bind fun (y3:(Unit)⊕(Int))=>
 y3.elim (fun y3=>some (.next (wi (v5+1)))) (fun y3=>some (.done (.inr (y3))))) (some (.done (.inl (()))))
def uJ (a0:Collation) (v7:Int):Option (Stp (Int) ((Unit)⊕(Int))):=
 cond (decide (v7 < (a0.Groups.length:Int))) ((yK a0.Groups v7).bind fun t54=>
(pv (decide (t54.Lo < 1))).bind fun b58=>
(gM (!b58) (yK a0.Groups v7)).bind fun t61=>
(gM (!b58) (yK a0.Groups v7)).bind fun t66=>
(pv (b58 ||(decide (t61.Hi < t66.Lo)))).bind fun b71=>
(gM (!b71) (yK a0.Groups v7)).bind fun t74=>
 cond (b71 ||(decide (a0.Base≤t74.Hi))) (some (.done (.inr (1)))) (some (.next (wi (v7+1))))) (some (.done (.inl (()))))
def vA (a0:Collation) (v8:Int):Option (Stp (Int) ((Unit)⊕(Int))):=
 cond (decide (v8 < (a0.Groups.length:Int))) ((yK a0.Groups v8).bind fun t89=>
(yK a0.Groups (wi (v8 - 1))).bind fun t95=>
 cond (!decide (t89.Lo=(wi (t95.Hi+1)))) (some (.done (.inr (4)))) (some (.next (wi (v8+1))))) (some (.done (.inl (()))))
def zCZ (a0:Collation):Option (Int):=
(zE (fun (x:Int)=>uG a0 x) 0).bind fun (y1:(Unit)⊕(Int))=>
 y1.elim (fun y1=>(zE (fun (x:Int)=>uI a0 x) 0).bind fun (y2:(Unit)⊕(Int))=>
 y2.elim (fun y2=>(zE (fun (x:Int)=>uJ a0 x) 0).bind fun (y4:(Unit)⊕(Int))=>
 y4.elim (fun y4=>(zE (fun (x:Int)=>vA a0 x) 1).bind fun (y5:(Unit)⊕(Int))=>
 y5.elim (fun y5=>some 0) (fun y5=>some y5)) (fun y4=>some y4)) (fun y2=>some y2)) (fun y1=>some y1)
def vG (a0:Int):Option (Bool):=
(pv (decide (0≤a0))).bind fun b5=>
 some (b5&&(decide (a0≤1114111)))
def zBU (a0:Int):Option (Bool):=
(pv (decide (0≤a0))).bind fun b5=>
 some (b5&&(decide (a0≤65535)))
def zD5 (a0:Element):Option (Int):=
(zBU a0.Primary).bind fun t5=>
(pv (!t5)).bind fun b7=>
(gM (!b7) (zBU a0.Secondary)).bind fun t10=>
(pv (b7 ||(!t10))).bind fun b13=>
(gM (!b13) (zBU a0.Tertiary)).bind fun t16=>
 cond (b13 ||(!t16)) (some 1) ((pv (!decide (a0.Primary=0))).bind fun b22=>
(pv (decide (a0.Secondary=0))).bind fun b26=>
(pv (b22&&(b26 ||(decide (a0.Tertiary=0))))).bind fun b32=>
(pv (!decide (a0.Secondary=0))).bind fun b36=>
(pv (b32 ||(b36&&(decide (a0.Tertiary=0))))).bind fun b42=>
(pv a0.Variable).bind fun b45=>
 cond (b42 ||(b45&&(decide (a0.Primary=0)))) (some 11) (some 0))
def zC0 (t13:Entry) (v6:Int):Option (Stp (Int) ((Unit)⊕(Int))):=
 cond (decide (v6 < (t13.Codes.length:Int))) ((yK t13.Codes v6).bind fun t41=>
(vG t41).bind fun t43=>
 cond (!t43) (some (.done (.inr (1)))) (some (.next (wi (v6+1))))) (some (.done (.inl (()))))
def zAE (t13:Entry) (v7:Int):Option (Stp (Int) ((Unit)⊕(Int))):=
 cond (decide (v7 < (t13.Elements.length:Int))) ((yK t13.Elements v7).bind fun t55=>
(zD5 t55).bind fun t57=>
 cond (!decide (t57=0)) (some (.done (.inr (t57)))) (some (.next (wi (v7+1))))) (some (.done (.inl (()))))
def zC1 (t13:Entry) (a0:Collation) (v9:Int):Option (Stp (Int) ((Unit)⊕(Int))):=
 cond (decide (v9 < (t13.Elements.length:Int))) ((yK t13.Elements v9).bind fun t71=>
 cond (decide (a0.Base≤t71.Primary)) (some (.done (.inr (1)))) (some (.next (wi (v9+1))))) (some (.done (.inl (()))))
def zD6 (a0:Collation) (a1:Int):Option (Int):=
(yK a0.Entries a1).bind fun t13=>
(pv (decide ((t13.Codes.length:Int) < 1))).bind fun b19=>
(pv (b19 ||(decide (8 < (t13.Codes.length:Int))))).bind fun b25=>
 cond (b25 ||(decide (16 < (t13.Elements.length:Int)))) (some 2) ((zE (fun (x:Int)=>zC0 t13 x) 0).bind fun (y1:(Unit)⊕(Int))=>
 y1.elim (fun y1=>(zE (fun (x:Int)=>zAE t13 x) 0).bind fun (y2:(Unit)⊕(Int))=>
 y2.elim (fun y2=>(zE (fun (x:Int)=>zC1 t13 a0 x) 0).bind fun (y3:(Unit)⊕(Int))=>
 y3.elim (fun y3=>(pv (decide (0 < a1))).bind fun b79=>
(gM b79 (yK a0.Entries (wi (a1 - 1)))).bind fun t84=>
(gM b79 (zA9 t84.Codes t13.Codes)).bind fun t89=>
 cond (b79&&(decide (0≤t89))) (some 4) (some 0)) (fun y3=>some y3)) (fun y2=>some y2)) (fun y1=>some y1))
def zAF (a0:Collation) (v4:Int):Option (Stp (Int) ((Unit)⊕(Int))):=
 cond (decide (v4 < (a0.Entries.length:Int))) ((zD6 a0 v4).bind fun t40=>
 cond (!decide (t40=0)) (some (.done (.inr (t40)))) (some (.next (wi (v4+1))))) (some (.done (.inl (()))))
def zD7 (a0:Collation):Option (Int):=
(pv (decide (a0.Base < 1))).bind fun b9=>
(pv (b9 ||(decide (65502 < a0.Base)))).bind fun b14=>
(gM (!b14) (zCY a0.Second)).bind fun t17=>
(pv (b14 ||(!t17))).bind fun b20=>
(gM (!b20) (zCY a0.Third)).bind fun t23=>
 cond (b20 ||(!t23)) (some 1) ((zCZ a0).bind fun t27=>
 cond (!decide (t27=0)) (some t27) ((zE (fun (x:Int)=>zAF a0 x) 0).bind fun (y1:(Unit)⊕(Int))=>
 y1.elim (fun y1=>some 0) (fun y1=>some y1)))
def zFK (a0:Collation):Option (Collation):=
(zD7 a0).bind fun t4=>
 cond (!decide (t4=0)) (some ({Entries:=[],Groups:=[],Base:=64448,Second:=32,Third:=2}:Collation)) (some a0)
def wC (a0:Norm):Option (Norm):=
(uF a0).bind fun t4=>
 cond (!decide (t4=0)) (some ({Classes:=({Classes:=[],Decomp:=[],Excluded:=(({Ranges:=[]}):Set)}:Norm).Classes,Decomp:=({Classes:=[],Decomp:=[],Excluded:=(({Ranges:=[]}):Set)}:Norm).Decomp,Excluded:=({Ranges:=(({Classes:=[],Decomp:=[],Excluded:=(({Ranges:=[]}):Set)}:Norm).Excluded).Ranges}:Set)}:Norm)) (some a0)
def kU (t26:(List Int)×Bool) (rec:(Int→(List (Int×(List Int)))→Norm→Bool→Option ((List Int)×(List (Int×(List Int)))))) (a2:Norm) (a3:Bool) (v35:Int) (r1011:(List Int)) (r3120:(List (Int×(List Int)))):Option (Stp (Int×(List Int)×(List (Int×(List Int)))) (((List Int)×(List (Int×(List Int)))))):=
 cond (decide (v35 < (t26.1.length:Int))) ((yK t26.1 v35).bind fun t37=>
(rec t37 r3120 a2 a3).bind fun t42=>
(app r1011 t42.1).bind fun r1011_2=>
 some (.next (wi (v35+1),r1011_2,t42.2))) (some (.done (r1011,r3120)))
def xI (rec:Int→(List (Int×(List Int)))→Norm→Bool→Option ((List Int)×(List (Int×(List Int))))) (a0:Int) (a1:(List (Int×(List Int)))) (a2:Norm) (a3:Bool):Option ((List Int)×(List (Int×(List Int)))):=
 cond (zA1 a1 a0) (some (vZ a1 a0 [],a1)) ((wM a2 a0 a3).bind fun t26=>
 cond (!t26.2) (some ([a0],a1)) ((zE (fun (x:Int×(List Int)×(List (Int×(List Int))))=>kU t26 rec a2 a3 x.1 x.2.1 x.2.2) (0,[],a1)).bind fun (y1:(List Int)×(List (Int×(List Int))))=>
 some (y1.1,uC y1.2 a0 y1.1)))
def yI:Nat→Int→(List (Int×(List Int)))→Norm→Bool→Option ((List Int)×(List (Int×(List Int))))
 | 0=>fun _ _ _ _=>none
 | n+1=>xI (yI n)
def wD (a0:Norm) (a1:Bool):Option (Unit):=
 some ()
def zBO (a0:Norm) (a1:Int) (a2:Bool):Option ((List Int)):=
(wC a0).bind fun t8=>
(wD t8 a2).bind fun t10=>
(yI 100 a1 [] t8 a2).bind fun t12=>
 some t12.1
def zEZ:Option ((List Range)):=
 some [({Lo:=4352,Hi:=4370}:Range),({Lo:=4449,Hi:=4469}:Range),({Lo:=4520,Hi:=4546}:Range),({Lo:=44032,Hi:=55203}:Range)]
def zAG (a0:(List Span)) (v3:Int):Option (Stp (Int) ((Unit)⊕(Int))):=
 cond (decide (v3 < (a0.length:Int))) ((yK a0 v3).bind fun t16=>
(vG t16.Lo).bind fun t19=>
(pv (!t19)).bind fun b21=>
(gM (!b21) (yK a0 v3)).bind fun t24=>
(gM (!b21) (vG t24.Hi)).bind fun t27=>
(pv (b21 ||(!t27))).bind fun b30=>
(gM (!b30) (yK a0 v3)).bind fun t33=>
(gM (!b30) (yK a0 v3)).bind fun t38=>
(pv (b30 ||(decide (t38.Hi < t33.Lo)))).bind fun b43=>
(gM (!b43) (yK a0 v3)).bind fun t46=>
(pv (b43 ||(decide (t46.Value < 1)))).bind fun b51=>
(gM (!b51) (yK a0 v3)).bind fun t54=>
 cond (b51 ||(decide (254 < t54.Value))) (some (.done (.inr (1)))) (some (.next (wi (v3+1))))) (some (.done (.inl (()))))
def zAH (a0:(List Span)) (v4:Int):Option (Stp (Int) ((Unit)⊕(Int))):=
 cond (decide (v4 < (a0.length:Int))) ((yK a0 v4).bind fun t67=>
(yK a0 (wi (v4 - 1))).bind fun t73=>
(pv (decide (t67.Lo≤t73.Hi))).bind fun b77=>
(gM (!b77) (yK a0 v4)).bind fun t80=>
(gM (!b77) (yK a0 (wi (v4 - 1)))).bind fun t86=>
(pv (decide (t80.Lo=(wi (t86.Hi+1))))).bind fun b91=>
(gM (!b77&&b91) (yK a0 v4)).bind fun t94=>
(gM (!b77&&b91) (yK a0 (wi (v4 - 1)))).bind fun t100=>
 cond (b77 ||(b91&&(decide (t94.Value=t100.Value)))) (some (.done (.inr (4)))) (some (.next (wi (v4+1))))) (some (.done (.inl (()))))
def wN (t106:(List Range)) (a0:(List Span)) (v6:Int) (v7:Int):Option (Stp (Int) ((Unit)⊕(Int))):=
 cond (decide (v7 < (t106.length:Int))) ((yK a0 v6).bind fun t121=>
(yK t106 v7).bind fun t126=>
(pv (decide (t121.Lo≤t126.Hi))).bind fun b130=>
(gM b130 (yK t106 v7)).bind fun t133=>
(gM b130 (yK a0 v6)).bind fun t138=>
 cond (b130&&(decide (t133.Lo≤t138.Hi))) (some (.done (.inr (11)))) (some (.next (wi (v7+1))))) (some (.done (.inl (()))))
def zAI (a0:(List Span)) (t106:(List Range)) (v6:Int):Option (Stp (Int) ((Unit)⊕(Int))):=
 cond (decide (v6 < (a0.length:Int))) ((zE (fun (x:Int)=>wN t106 a0 v6 x) 0).bind fun (y4:(Unit)⊕(Int))=>
 y4.elim (fun y4=>some (.next (wi (v6+1)))) (fun y4=>some (.done (.inr (y4))))) (some (.done (.inl (()))))
def zCN (a0:(List Span)):Option (Int):=
(zE (fun (x:Int)=>zAG a0 x) 0).bind fun (y1:(Unit)⊕(Int))=>
 y1.elim (fun y1=>(zE (fun (x:Int)=>zAH a0 x) 1).bind fun (y2:(Unit)⊕(Int))=>
 y2.elim (fun y2=>(zEZ).bind fun t106=>
(zE (fun (x:Int)=>zAI a0 t106 x) 0).bind fun (y3:(Unit)⊕(Int))=>
 y3.elim (fun y3=>some 0) (fun y3=>some y3)) (fun y2=>some y2)) (fun y1=>some y1)
def zAJ (a0:Mapping) (v3:Int):Option (Stp (Int) ((Unit)⊕(Bool))):=
 cond (decide (v3 < (a0.To.length:Int))) ((yK a0.To v3).bind fun t14=>
(vG t14).bind fun t16=>
 cond (!t16) (some (.done (.inr (false)))) (some (.next (wi (v3+1))))) (some (.done (.inl (()))))
def zD8 (a0:Mapping):Option (Bool):=
(zE (fun (x:Int)=>zAJ a0 x) 0).bind fun (y1:(Unit)⊕(Bool))=>
 y1.elim (fun y1=>(vG a0.From).bind fun t20=>
 some t20) (fun y1=>some y1)
def wO (v3:Int) (a0:(List Mapping)) (v4:Int):Option (Stp (Int) ((Unit)⊕(Bool))):=
 cond (decide (v4 < v3)) ((yK a0 v3).bind fun t18=>
(yK a0 v4).bind fun t23=>
(pv (decide (t18.From=t23.From))).bind fun b27=>
(gM b27 (yK a0 v3)).bind fun t30=>
(gM b27 (yK a0 v4)).bind fun t35=>
 cond (b27&&(t30.Tag==t35.Tag)) (some (.done (.inr (true)))) (some (.next (wi (v4+1))))) (some (.done (.inl (()))))
def zAK (a0:(List Mapping)) (v3:Int):Option (Stp (Int) ((Unit)⊕(Bool))):=
 cond (decide (v3 < (a0.length:Int))) ((zE (fun (x:Int)=>wO v3 a0 x) 0).bind fun (y2:(Unit)⊕(Bool))=>
 y2.elim (fun y2=>some (.next (wi (v3+1)))) (fun y2=>some (.done (.inr (y2))))) (some (.done (.inl (()))))
def zD9 (a0:(List Mapping)):Option (Bool):=
(zE (fun (x:Int)=>zAK a0 x) 0).bind fun (y1:(Unit)⊕(Bool))=>
 y1.elim (fun y1=>some false) (fun y1=>some y1)
def wY (a0:(List Mapping)) (v3:Int):Option (Stp (Int) ((Unit)⊕(Int))):=
 cond (decide (v3 < (a0.length:Int))) ((yK a0 v3).bind fun t14=>
(zD8 t14).bind fun t16=>
 cond (!t16) (some (.done (.inr (1)))) (some (.next (wi (v3+1))))) (some (.done (.inl (()))))
def wZ (a0:(List Mapping)) (v4:Int):Option (Stp (Int) ((Unit)⊕(Int))):=
 cond (decide (v4 < (a0.length:Int))) ((yK a0 v4).bind fun t26=>
 cond (decide (64 < (t26.To.length:Int))) (some (.done (.inr (2)))) (some (.next (wi (v4+1))))) (some (.done (.inl (()))))
def w6 (a0:(List Mapping)) (v5:Int):Option (Stp (Int) ((Unit)⊕(Int))):=
 cond (decide (v5 < (a0.length:Int))) ((yK a0 v5).bind fun t39=>
(pv (!(t39.Tag== []))).bind fun b43=>
(gM b43 (yK a0 v5)).bind fun t46=>
(gM b43 (zDF t46.Tag)).bind fun t49=>
 cond (b43&&(!t49)) (some (.done (.inr (6)))) (some (.next (wi (v5+1))))) (some (.done (.inl (()))))
def zBP (a0:(List Mapping)):Option (Int):=
(zE (fun (x:Int)=>wY a0 x) 0).bind fun (y1:(Unit)⊕(Int))=>
 y1.elim (fun y1=>(zE (fun (x:Int)=>wZ a0 x) 0).bind fun (y2:(Unit)⊕(Int))=>
 y2.elim (fun y2=>(zE (fun (x:Int)=>w6 a0 x) 0).bind fun (y3:(Unit)⊕(Int))=>
 y3.elim (fun y3=>(zD9 a0).bind fun t53=>
 cond t53 (some 5) (some 0)) (fun y3=>some y3)) (fun y2=>some y2)) (fun y1=>some y1)
def zE0 (a0:Mapping) (a1:Mapping):Option (Bool):=
(pv (decide (a0.From < a1.From))).bind fun b10=>
(pv (decide (a0.From=a1.From))).bind fun b16=>
 some (b10 ||(b16&&(Op.bytesLess a0.Tag a1.Tag)))
def zAL (a0:(List Mapping)) (v4:Int):Option (Stp (Int) ((Unit)⊕(Int))):=
 cond (decide (v4 < (a0.length:Int))) ((yK a0 (wi (v4 - 1))).bind fun t19=>
(yK a0 v4).bind fun t23=>
(zE0 t19 t23).bind fun t25=>
 cond (!t25) (some (.done (.inr (4)))) (some (.next (wi (v4+1))))) (some (.done (.inl (()))))
def zEA (a0:(List Mapping)):Option (Int):=
(zBP a0).bind fun t6=>
 cond (!decide (t6=0)) (some t6) ((zE (fun (x:Int)=>zAL a0 x) 1).bind fun (y1:(Unit)⊕(Int))=>
 y1.elim (fun y1=>some 0) (fun y1=>some y1))
def jA (a0:(List Int)) (a1:Int) (v6:Bool) (v7:Int) (r1005:(List Int)):Option (Stp (Bool×Int×(List Int)) ((Bool×(List Int)))):=
 cond (decide (v7 < (a0.length:Int))) ((pv (!v6)).bind fun b16=>
(gM b16 (yK a0 v7)).bind fun t19=>
(cond (b16&&(decide (a1≤t19))) ((yK a0 v7).bind fun t26=>
 cond (decide (a1 < t26)) ((app r1005 [a1]).bind fun r1005_3=>
 some (true,r1005_3)) (some (true,r1005))) (some (v6,r1005))).bind fun (y2:Bool×(List Int))=>
(yK a0 v7).bind fun t37=>
(app y2.2 [t37]).bind fun r1005_4=>
 some (.next (y2.1,wi (v7+1),r1005_4))) (some (.done (v6,r1005)))
def zBQ (a0:(List Int)) (a1:Int):Option ((List Int)):=
(zE (fun (x:Bool×Int×(List Int))=>jA a0 a1 x.1 x.2.1 x.2.2) (false,0,[])).bind fun (y1:Bool×(List Int))=>
(cond (!y1.1) ((app y1.2 [a1]).bind fun r1005_6=>
 some r1005_6) (some y1.2)).bind fun (y5:(List Int))=>
 some y5
def wH (a1:Set) (v0:(List Int)) (v5:Int):Option (Stp ((List Int)×Int) (((List Int)))):=
 cond (decide (v5 < (a1.Ranges.length:Int))) (((yK a1.Ranges v5).bind fun t18=>
(yK a1.Ranges v5).bind fun t24=>
(vG t18.Lo).bind fun t28=>
(cond t28 ((zBQ v0 t18.Lo).bind fun t31=>
 some t31) (some v0)).bind fun (y3:(List Int))=>
(pv (decide (0≤t24.Hi))).bind fun b34=>
 cond (b34&&(decide (t24.Hi < 1114111))) ((zBQ y3 (wi (t24.Hi+1))).bind fun t41=>
 some t41) (some y3)).bind fun (y2:(List Int))=>
 some (.next (y2,wi (v5+1)))) (some (.done v0))
def zDG (a0:(List Int)) (a1:Set):Option ((List Int)):=
(zE (fun (x:(List Int)×Int)=>wH a1 x.1 x.2) (a0,0)).bind fun (y1:(List Int))=>
(zBQ y1 0).bind fun t43=>
 some t43
def zBV (a0:Set) (a1:Int) (v5:Int):Option (Stp (Int) ((Unit)⊕(Bool))):=
 cond (decide (v5 < (a0.Ranges.length:Int))) ((vG a1).bind fun t14=>
(pv t14).bind fun b15=>
(gM b15 (yK a0.Ranges v5)).bind fun t19=>
(pv (b15&&(decide (t19.Lo≤a1)))).bind fun b25=>
(gM b25 (yK a0.Ranges v5)).bind fun t30=>
 cond (b25&&(decide (a1≤t30.Hi))) (some (.done (.inr (true)))) (some (.next (wi (v5+1))))) (some (.done (.inl (()))))
def zDH (a0:Set) (a1:Int):Option (Bool):=
(zE (fun (x:Int)=>zBV a0 a1 x) 0).bind fun (y1:(Unit)⊕(Bool))=>
 y1.elim (fun y1=>some false) (fun y1=>some y1)
def zGC (a0:Int) (a1:Bool) (a2:Bool):Option (Bool):=
 cond (decide (a0=1)) ((pv a1).bind fun b11=>
 some (b11 ||a2)) (cond (decide (a0=2)) ((pv a1).bind fun b17=>
 some (b17&&a2)) ((pv a1).bind fun b21=>
 some (b21&&(!a2))))
def kY (t16:(List Int)) (a0:Set) (a1:Set) (a2:Int) (v9:Bool) (v10:Int) (r4160:(List Range)):Option (Stp (Bool×Int×(List Range)) (((List Range)))):=
 cond (decide (v10 < (t16.length:Int))) ((cond (decide ((wi (v10+1)) < (t16.length:Int))) ((yK t16 (wi (v10+1))).bind fun t31=>
 some (wi (t31 - 1))) (some 1114111)).bind fun (y2:Int)=>
(yK t16 v10).bind fun t38=>
(zDH a0 t38).bind fun t40=>
(yK t16 v10).bind fun t44=>
(zDH a1 t44).bind fun t46=>
(zGC a2 t40 t46).bind fun t47=>
(pv t47).bind fun b49=>
(cond (b49&&v9) ((yK r4160 (wi ((r4160.length:Int) - 1))).bind fun t59=>
(zBE r4160 (wi ((r4160.length:Int) - 1)) ({t59 with Hi:=y2})).bind fun r4160_4=>
 some r4160_4) (some r4160)).bind fun (y3:(List Range))=>
(pv t47).bind fun b62=>
(cond (b62&&(!v9)) ((yK t16 v10).bind fun t70=>
(app y3 [({Lo:=t70,Hi:=y2}:Range)]).bind fun r4160_6=>
 some r4160_6) (some y3)).bind fun (y5:(List Range))=>
 some (.next (t47,wi (v10+1),y5))) (some (.done r4160))
def zDS (a0:Set) (a1:Set) (a2:Int):Option (Set):=
(zDG [] a0).bind fun t14=>
(zDG t14 a1).bind fun t16=>
(zE (fun (x:Bool×Int×(List Range))=>kY t16 a0 a1 a2 x.1 x.2.1 x.2.2) (false,0,[])).bind fun (y1:(List Range))=>
 some ({Ranges:=y1}:Set)
def zFL (a0:(List Range)):Option (Set):=
(zDS ({Ranges:=a0}:Set) ({Ranges:=[]}:Set) 1).bind fun t6=>
 some t6
def zBA (a0:Set) (a1:Set) (v5:Int):Option (Stp (Int) ((Unit)⊕(Bool))):=
 cond (decide (v5 < (a0.Ranges.length:Int))) ((yK a0.Ranges v5).bind fun t23=>
(yK a1.Ranges v5).bind fun t28=>
 cond (!decide (t23=t28)) (some (.done (.inr (false)))) (some (.next (wi (v5+1))))) (some (.done (.inl (()))))
def zFM (a0:Set) (a1:Set):Option (Bool):=
 cond (!decide ((a0.Ranges.length:Int)=(a1.Ranges.length:Int))) (some false) ((zE (fun (x:Int)=>zBA a0 a1 x) 0).bind fun (y1:(Unit)⊕(Bool))=>
 y1.elim (fun y1=>some true) (fun y1=>some y1))
def zEB (a0:Set):Option (Bool):=
(zFL a0.Ranges).bind fun t6=>
(zFM a0 t6).bind fun t7=>
 some t7
def zBB (a0:(List Mapping)) (a1:Int) (a2:Bool) (v7:Int):Option (Stp (Int) ((Unit)⊕(Int))):=
 cond (decide (v7 < (a0.length:Int))) ((yK a0 v7).bind fun t16=>
(pv (decide (t16.From=a1))).bind fun b21=>
(pv a2).bind fun b23=>
(gM (b21&& !b23) (yK a0 v7)).bind fun t26=>
 cond (b21&&(b23 ||(t26.Tag== []))) (some (.done (.inr (v7)))) (some (.next (wi (v7+1))))) (some (.done (.inl (()))))
def zCI (a0:(List Mapping)) (a1:Int) (a2:Bool):Option (Int):=
(zE (fun (x:Int)=>zBB a0 a1 a2 x) 0).bind fun (y1:(Unit)⊕(Int))=>
 y1.elim (fun y1=>some (-1)) (fun y1=>some y1)
def zDI (a0:Int):Option (Int):=
(pv (decide (4352≤a0))).bind fun b5=>
 cond (b5&&(decide (a0≤4370))) (some 1) ((pv (decide (4449≤a0))).bind fun b11=>
 cond (b11&&(decide (a0≤4469))) (some 2) ((pv (decide (4520≤a0))).bind fun b17=>
 cond (b17&&(decide (a0≤4546))) (some 3) ((pv (decide (44032≤a0))).bind fun b23=>
 cond (b23&&(decide (a0≤55203))) ((zGR (wi (a0 - 44032)) 28).bind fun t29=>
 cond (decide (t29=0)) (some 4) (some 5)) (some 0))))
def xJ (a0:(List Span)) (a1:Int) (v5:Int):Option (Stp (Int) ((Unit)⊕(Int))):=
 cond (decide (v5 < (a0.length:Int))) ((yK a0 v5).bind fun t17=>
(pv (decide (t17.Lo≤a1))).bind fun b22=>
(gM b22 (yK a0 v5)).bind fun t26=>
 cond (b22&&(decide (a1≤t26.Hi))) ((yK a0 v5).bind fun t33=>
 some (.done (.inr (t33.Value)))) (some (.next (wi (v5+1))))) (some (.done (.inl (()))))
def zCO (a0:(List Span)) (a1:Int):Option (Int):=
(zCN a0).bind fun t7=>
 cond (!decide (t7=0)) (some 0) ((zE (fun (x:Int)=>xJ a0 a1 x) 0).bind fun (y1:(Unit)⊕(Int))=>
 y1.elim (fun y1=>some 0) (fun y1=>some y1))
def wI (a0:(List Mapping)) (v5:Int) (r11:(List Bool)) (v6:Bool) (v7:Int):Option (Stp (Bool×Int) ((Bool))):=
(yK a0 v5).bind fun t27=>
 cond (decide (v7 < (t27.To.length:Int))) ((yK a0 v5).bind fun t37=>
(yK t37.To v7).bind fun t41=>
(zCI a0 t41 true).bind fun t43=>
(pv v6).bind fun b45=>
(pv (decide (t43 < 0))).bind fun b48=>
(gM (b45&& !b48) (yK r11 t43)).bind fun t51=>
 some (.next ((b45&&(b48 ||t51)),wi (v7+1)))) (some (.done v6))
def uV (a0:(List Mapping)) (v5:Int) (r11:(List Bool)):Option (Stp (Int×(List Bool)) (((List Bool)))):=
 cond (decide (v5 < (a0.length:Int))) ((zE (fun (x:Bool×Int)=>wI a0 v5 r11 x.1 x.2) (true,0)).bind fun (y3:Bool)=>
(yK r11 v5).bind fun t58=>
(zBE r11 v5 y3).bind fun r11_4=>
 some (.next (wi (v5+1),r11_4))) (some (.done r11))
def uW (a0:(List Mapping)) (v4:Int) (r11:(List Bool)):Option (Stp (Int×(List Bool)) (((List Bool)))):=
 cond (decide (v4 < (a0.length:Int))) ((zE (fun (x:Int×(List Bool))=>uV a0 x.1 x.2) (0,r11)).bind fun (y2:(List Bool))=>
 some (.next (wi (v4+1),y2))) (some (.done r11))
def zFN (a0:(List Mapping)):Option ((List Bool)):=
(mkM false (a0.length:Int)).bind fun r11=>
(zE (fun (x:Int×(List Bool))=>uW a0 x.1 x.2) (0,r11)).bind fun (y1:(List Bool))=>
 some y1
def zA4 (a0:Int):Option ((List Int)):=
(zDI a0).bind fun t6=>
 cond (decide (t6 < 4)) (some [a0]) ((zJW wi (wi (a0 - 44032)) 28).bind fun t13=>
(zJW wi t13 21).bind fun t14=>
(zJW wi (wi (a0 - 44032)) 28).bind fun t17=>
(zGR t17 21).bind fun t18=>
(zGR (wi (a0 - 44032)) 28).bind fun t22=>
(cond (decide (0 < t22)) ((zGR (wi (a0 - 44032)) 28).bind fun t26=>
(app [wi (4352+t14),wi (4449+t18)] [wi ((wi (4520+t26)) - 1)]).bind fun r20_2=>
 some r20_2) (some [wi (4352+t14),wi (4449+t18)])).bind fun (y1:(List Int))=>
 some y1)
def jS (a0:(List Mapping)) (v7:Int) (a1:Bool) (r13:(List Int)) (v8:Int) (v9:Int):Option (Stp (Int×Int) ((Int))):=
(yK a0 v7).bind fun t29=>
 cond (decide (v9 < (t29.To.length:Int))) (((yK a0 v7).bind fun t39=>
(yK t39.To v9).bind fun t43=>
(zCI a0 t43 a1).bind fun t46=>
 cond (decide (0≤t46)) ((yK r13 t46).bind fun t52=>
 some (wi (v8+t52))) ((yK a0 v7).bind fun t58=>
(yK t58.To v9).bind fun t62=>
(zA4 t62).bind fun t64=>
 some (wi (v8+(t64.length:Int))))).bind fun (y5:Int)=>
 some (.next (y5,wi (v9+1)))) (some (.done v8))
def wE (a0:(List Mapping)) (a1:Bool) (v7:Int) (r13:(List Int)):Option (Stp (Int×(List Int)) (((List Int)))):=
 cond (decide (v7 < (a0.length:Int))) (((zE (fun (x:Int×Int)=>jS a0 v7 a1 r13 x.1 x.2) (0,0)).bind fun (y4:Int)=>
(yK r13 v7).bind fun t72=>
(zBE r13 v7 (min (max y4 1) 65)).bind fun r13_6=>
(yK a0 v7).bind fun t75=>
(pv (!(t75.Tag== []))).bind fun b79=>
 cond (b79&&(!a1)) ((yK r13_6 v7).bind fun t85=>
(zBE r13_6 v7 1).bind fun r13_7=>
 some r13_7) (some r13_6)).bind fun (y3:(List Int))=>
 some (.next (wi (v7+1),y3))) (some (.done r13))
def wF (a0:(List Mapping)) (a1:Bool) (v6:Int) (r13:(List Int)):Option (Stp (Int×(List Int)) (((List Int)))):=
 cond (decide (v6 < (a0.length:Int))) ((zE (fun (x:Int×(List Int))=>wE a0 a1 x.1 x.2) (0,r13)).bind fun (y2:(List Int))=>
 some (.next (wi (v6+1),y2))) (some (.done r13))
def zBC (a0:(List Mapping)) (a1:Bool):Option ((List Int)):=
(mkM 0 (a0.length:Int)).bind fun r13=>
(zE (fun (x:Int×(List Int))=>wF a0 a1 x.1 x.2) (0,r13)).bind fun (y1:(List Int))=>
 some y1
def zAM (a0:Norm) (v6:Int):Option (Stp (Int) ((Unit)⊕(Int))):=
 cond (decide (v6 < (a0.Decomp.length:Int))) ((yK a0.Decomp v6).bind fun t41=>
(zCI a0.Decomp t41.From true).bind fun t44=>
 cond (decide (t44 < v6)) (some (.done (.inr (5)))) (some (.next (wi (v6+1))))) (some (.done (.inl (()))))
def zAN (a0:Norm) (v7:Int):Option (Stp (Int) ((Unit)⊕(Int))):=
 cond (decide (v7 < (a0.Decomp.length:Int))) ((yK a0.Decomp v7).bind fun t55=>
(pv (t55.Tag== [])).bind fun b59=>
(gM b59 (yK a0.Decomp v7)).bind fun t62=>
(pv (b59&&(!decide ((t62.To.length:Int)=1)))).bind fun b68=>
(gM b68 (yK a0.Decomp v7)).bind fun t71=>
 cond (b68&&(!decide ((t71.To.length:Int)=2))) (some (.done (.inr (8)))) (some (.next (wi (v7+1))))) (some (.done (.inl (()))))
def zAO (a0:Norm) (v8:Int):Option (Stp (Int) ((Unit)⊕(Int))):=
 cond (decide (v8 < (a0.Decomp.length:Int))) ((yK a0.Decomp v8).bind fun t85=>
(zDI t85.From).bind fun t88=>
(pv (!decide (t88=0))).bind fun b90=>
(gM (!b90) (yK a0.Decomp v8)).bind fun t93=>
(pv (!(t93.Tag== []))).bind fun b97=>
(gM (!b90&&b97) (yK a0.Decomp v8)).bind fun t102=>
(gM (!b90&&b97) (zCO a0.Classes t102.From)).bind fun t105=>
 cond (b90 ||(b97&&(!decide (t105=0)))) (some (.done (.inr (11)))) (some (.next (wi (v8+1))))) (some (.done (.inl (()))))
def zAP (a0:Norm) (t110:(List Bool)) (v10:Int):Option (Stp (Int) ((Unit)⊕(Int))):=
 cond (decide (v10 < (a0.Decomp.length:Int))) ((yK t110 v10).bind fun t119=>
 cond (!t119) (some (.done (.inr (12)))) (some (.next (wi (v10+1))))) (some (.done (.inl (()))))
def zAQ (a0:Norm) (t123:(List Int)) (t125:(List Int)) (v13:Int):Option (Stp (Int) ((Unit)⊕(Int))):=
 cond (decide (v13 < (a0.Decomp.length:Int))) ((yK t123 v13).bind fun t134=>
(pv (decide (64 < t134))).bind fun b137=>
(gM (!b137) (yK t125 v13)).bind fun t140=>
 cond (b137 ||(decide (64 < t140))) (some (.done (.inr (13)))) (some (.next (wi (v13+1))))) (some (.done (.inl (()))))
def zEC (a0:Norm):Option (Int):=
(zCN a0.Classes).bind fun t16=>
 cond (!decide (t16=0)) (some t16) ((zEA a0.Decomp).bind fun t22=>
 cond (!decide (t22=0)) (some t22) ((zEB a0.Excluded).bind fun t28=>
 cond (!t28) (some 11) ((zE (fun (x:Int)=>zAM a0 x) 0).bind fun (y1:(Unit)⊕(Int))=>
 y1.elim (fun y1=>(zE (fun (x:Int)=>zAN a0 x) 0).bind fun (y2:(Unit)⊕(Int))=>
 y2.elim (fun y2=>(zE (fun (x:Int)=>zAO a0 x) 0).bind fun (y3:(Unit)⊕(Int))=>
 y3.elim (fun y3=>(zFN a0.Decomp).bind fun t110=>
(zE (fun (x:Int)=>zAP a0 t110 x) 0).bind fun (y4:(Unit)⊕(Int))=>
 y4.elim (fun y4=>(zBC a0.Decomp false).bind fun t123=>
(zBC a0.Decomp true).bind fun t125=>
(zE (fun (x:Int)=>zAQ a0 t123 t125 x) 0).bind fun (y5:(Unit)⊕(Int))=>
 y5.elim (fun y5=>some 0) (fun y5=>some y5)) (fun y4=>some y4)) (fun y3=>some y3)) (fun y2=>some y2)) (fun y1=>some y1))))
def zFO (a0:Norm):Option (Norm):=
(zEC a0).bind fun t4=>
 cond (!decide (t4=0)) (some ({Classes:=({Classes:=[],Decomp:=[],Excluded:=(({Ranges:=[]}):Set)}:Norm).Classes,Decomp:=({Classes:=[],Decomp:=[],Excluded:=(({Ranges:=[]}):Set)}:Norm).Decomp,Excluded:=({Ranges:=(({Classes:=[],Decomp:=[],Excluded:=(({Ranges:=[]}):Set)}:Norm).Excluded).Ranges}:Set)}:Norm)) (some a0)
def zCB (a0:(List Span)) (a1:Int):Option (Bool):=
(zCO a0 a1).bind fun t7=>
 some (decide (t7=0))
def xP (a0:Int) (a1:Int) (a2:(List Span)):Option (Int):=
(kG a2 a0).bind fun t8=>
(kG a2 a1).bind fun t11=>
(jF t8 t11).bind fun t12=>
 some t12
def zU (a1:Int) (a3:Int→Int→Option (Int)) (v9:Int) (r3000:(List Int)):Option (Stp (Int×(List Int)) (((List Int)))):=
(pv (decide (a1 < v9))).bind fun b21=>
(gM b21 (yK r3000 v9)).bind fun t25=>
(gM b21 (yK r3000 (wi (v9 - 1)))).bind fun t30=>
(gM b21 (a3 t25 t30)).bind fun t32=>
 cond (b21&&(decide (t32 < 0))) ((yK r3000 (wi (v9 - 1))).bind fun t45=>
(yK r3000 v9).bind fun t49=>
(yK r3000 v9).bind fun t51=>
(zBE r3000 v9 t45).bind fun r3000_6x15=>
(yK r3000_6x15 (wi (v9 - 1))).bind fun t52=>
(zBE r3000_6x15 (wi (v9 - 1)) t49).bind fun r3000_6x17=>
 some (.next (wi (v9 - 1),r3000_6x17))) (some (.done r3000))
def zR (a2:Int) (a1:Int) (a3:Int→Int→Option (Int)) (v8:Int) (r3000:(List Int)):Option (Stp (Int×(List Int)) (((List Int)))):=
 cond (decide (v8 < a2)) ((zE (fun (x:Int×(List Int))=>zU a1 a3 x.1 x.2) (v8,r3000)).bind fun (y2:(List Int))=>
 some (.next (wi (v8+1),y2))) (some (.done r3000))
def kK (a0:(List Int)) (a1:Int) (a2:Int) (a3:Int→Int→Option (Int)):Option ((List Int)):=
(zE (fun (x:Int×(List Int))=>zR a2 a1 a3 x.1 x.2) (wi (a1+1),a0)).bind fun (y1:(List Int))=>
 some y1
def yJ (a3:Int) (a2:Int) (a1:Int) (v10:Int) (r3000:(List Int)):Option (Stp (Int×(List Int)) (((List Int)))):=
 cond (decide (v10 < a3)) ((yK r3000 (wi (a2+v10))).bind fun t28=>
(yK r3000 (wi (a1+v10))).bind fun t34=>
(yK r3000 (wi (a1+v10))).bind fun t36=>
(zBE r3000 (wi (a1+v10)) t28).bind fun r3000_3x21=>
(yK r3000_3x21 (wi (a2+v10))).bind fun t37=>
(zBE r3000_3x21 (wi (a2+v10)) t34).bind fun r3000_3x23=>
 some (.next (wi (v10+1),r3000_3x23))) (some (.done r3000))
def yV (a0:(List Int)) (a1:Int) (a2:Int) (a3:Int) (a4:Int→Int→Option (Int)):Option ((List Int)):=
(zE (fun (x:Int×(List Int))=>yJ a3 a2 a1 x.1 x.2) (0,a0)).bind fun (y1:(List Int))=>
 some y1
def yD (a2:Int) (a4:Int→Int→Option (Int)) (v10:Int) (v11:Int) (r3000:(List Int)):Option (Stp (Int×Int×(List Int)) ((Int×(List Int)))):=
 cond (!decide (v10=v11)) ((cond (decide (v11 < v10)) ((yV r3000 (wi (a2 - v10)) a2 v11 a4).bind fun t31=>
 some (wi (v10 - v11),v11,t31)) ((yV r3000 (wi (a2 - v10)) (wi ((wi (a2+v11)) - v10)) v10 a4).bind fun t46=>
 some (v10,wi (v11 - v10),t46))).bind fun (y2:Int×Int×(List Int))=>
 some (.next (y2.1,y2.2.1,y2.2.2))) (some (.done (v10,r3000)))
def jL (a0:(List Int)) (a1:Int) (a2:Int) (a3:Int) (a4:Int→Int→Option (Int)):Option ((List Int)):=
(zE (fun (x:Int×Int×(List Int))=>yD a2 a4 x.1 x.2.1 x.2.2) (wi (a2 - a1),wi (a3 - a2),a0)).bind fun (y1:Int×(List Int))=>
(yV y1.2 (wi (a2 - y1.1)) a2 y1.1 a4).bind fun t57=>
 some t57
def yL (a0:(List Int)) (a1:Int) (a4:Int→Int→Option (Int)) (v10:Int) (v11:Int):Option (Stp (Int×Int) ((Int))):=
 cond (decide (v10 < v11)) (((yK a0 (wi ((wu (wi (v10+v11))) / 2 ^ 1))).bind fun t43=>
(yK a0 a1).bind fun t47=>
(a4 t43 t47).bind fun t49=>
 cond (decide (t49 < 0)) (some (wi ((wi ((wu (wi (v10+v11))) / 2 ^ 1))+1),v11)) (some (v10,wi ((wu (wi (v10+v11))) / 2 ^ 1)))).bind fun (y2:Int×Int)=>
 some (.next (y2.1,y2.2))) (some (.done v10))
def yN (y1:Int) (v13:Int) (r3000:(List Int)):Option (Stp (Int×(List Int)) (((List Int)))):=
 cond (decide (v13 < (wi (y1 - 1)))) ((yK r3000 (wi (v13+1))).bind fun t69=>
(yK r3000 v13).bind fun t73=>
(yK r3000 v13).bind fun t75=>
(zBE r3000 v13 t69).bind fun r3000_11x15=>
(yK r3000_11x15 (wi (v13+1))).bind fun t76=>
(zBE r3000_11x15 (wi (v13+1)) t73).bind fun r3000_11x17=>
 some (.next (wi (v13+1),r3000_11x17))) (some (.done r3000))
def yO (a0:(List Int)) (a2:Int) (a4:Int→Int→Option (Int)) (v14:Int) (v15:Int):Option (Stp (Int×Int) ((Int))):=
 cond (decide (v14 < v15)) (((yK a0 a2).bind fun t95=>
(yK a0 (wi ((wu (wi (v14+v15))) / 2 ^ 1))).bind fun t99=>
(a4 t95 t99).bind fun t101=>
 cond (!(decide (t101 < 0))) (some (wi ((wi ((wu (wi (v14+v15))) / 2 ^ 1))+1),v15)) (some (v14,wi ((wu (wi (v14+v15))) / 2 ^ 1)))).bind fun (y5:Int×Int)=>
 some (.next (y5.1,y5.2))) (some (.done v14))
def yP (y4:Int) (v17:Int) (r3000:(List Int)):Option (Stp (Int×(List Int)) (((List Int)))):=
 cond (decide (y4 < v17)) ((yK r3000 (wi (v17 - 1))).bind fun t121=>
(yK r3000 v17).bind fun t125=>
(yK r3000 v17).bind fun t127=>
(zBE r3000 v17 t121).bind fun r3000_23x15=>
(yK r3000_23x15 (wi (v17 - 1))).bind fun t128=>
(zBE r3000_23x15 (wi (v17 - 1)) t125).bind fun r3000_23x17=>
 some (.next (wi (v17 - 1),r3000_23x17))) (some (.done r3000))
def yQ (a0:(List Int)) (a1:Int) (a3:Int) (a2:Int) (a4:Int→Int→Option (Int)) (v20:Int) (v21:Int):Option (Stp (Int×Int) ((Int))):=
 cond (decide (v20 < v21)) (((yK a0 (wi ((wi ((wi ((wi ((wu (wi (a1+a3))) / 2 ^ 1))+a2)) - 1)) - (wi ((wu (wi (v20+v21))) / 2 ^ 1))))).bind fun t163=>
(yK a0 (wi ((wu (wi (v20+v21))) / 2 ^ 1))).bind fun t167=>
(a4 t163 t167).bind fun t169=>
 cond (!(decide (t169 < 0))) (some (wi ((wi ((wu (wi (v20+v21))) / 2 ^ 1))+1),v21)) (some (v20,wi ((wu (wi (v20+v21))) / 2 ^ 1)))).bind fun (y9:Int×Int)=>
 some (.next (y9.1,y9.2))) (some (.done v20))
def yC (rec:((List Int))→(Int)→(Int)→(Int)→(Int→Int→Option (Int))→Option ((List Int))) (a0:(List Int)) (a1:Int) (a2:Int) (a3:Int) (a4:Int→Int→Option (Int)):Option ((List Int)):=
 cond (decide ((wi (a2 - a1))=1)) ((zE (fun (x:Int×Int)=>yL a0 a1 a4 x.1 x.2) (a2,a3)).bind fun (y1:Int)=>
(zE (fun (x:Int×(List Int))=>yN y1 x.1 x.2) (a1,a0)).bind fun (y3:(List Int))=>
 some y3) (cond (decide ((wi (a3 - a2))=1)) ((zE (fun (x:Int×Int)=>yO a0 a2 a4 x.1 x.2) (a1,a2)).bind fun (y4:Int)=>
(zE (fun (x:Int×(List Int))=>yP y4 x.1 x.2) (a2,a0)).bind fun (y6:(List Int))=>
 some y6) ((cond (decide ((wi ((wu (wi (a1+a3))) / 2 ^ 1)) < a2)) (some (wi ((wi ((wi ((wu (wi (a1+a3))) / 2 ^ 1))+a2)) - a3),wi ((wu (wi (a1+a3))) / 2 ^ 1))) (some (a1,a2))).bind fun (y7:Int×Int)=>
(zE (fun (x:Int×Int)=>yQ a0 a1 a3 a2 a4 x.1 x.2) (y7.1,y7.2)).bind fun (y8:Int)=>
(pv (decide (y8 < a2))).bind fun b181=>
(cond (b181&&(decide (a2 < (wi ((wi ((wi ((wu (wi (a1+a3))) / 2 ^ 1))+a2)) - y8))))) ((jL a0 y8 a2 (wi ((wi ((wi ((wu (wi (a1+a3))) / 2 ^ 1))+a2)) - y8)) a4).bind fun t191=>
 some t191) (some a0)).bind fun (y10:(List Int))=>
(pv (decide (a1 < y8))).bind fun b195=>
(cond (b195&&(decide (y8 < (wi ((wu (wi (a1+a3))) / 2 ^ 1))))) ((rec y10 a1 y8 (wi ((wu (wi (a1+a3))) / 2 ^ 1)) a4).bind fun t205=>
 some t205) (some y10)).bind fun (y11:(List Int))=>
(pv (decide ((wi ((wu (wi (a1+a3))) / 2 ^ 1)) < (wi ((wi ((wi ((wu (wi (a1+a3))) / 2 ^ 1))+a2)) - y8))))).bind fun b209=>
 cond (b209&&(decide ((wi ((wi ((wi ((wu (wi (a1+a3))) / 2 ^ 1))+a2)) - y8)) < a3))) ((rec y11 (wi ((wu (wi (a1+a3))) / 2 ^ 1)) (wi ((wi ((wi ((wu (wi (a1+a3))) / 2 ^ 1))+a2)) - y8)) a3 a4).bind fun t219=>
 some t219) (some y11)))
def yT:Nat→((List Int))→(Int)→(Int)→(Int)→(Int→Int→Option (Int))→Option ((List Int))
 | 0=>fun _ _ _ _ _=>none
 | n+1=>yC (yT n)
def z5 (a1:Int) (a2:Int→Int→Option (Int)) (v7:Int) (v8:Int) (r3000:(List Int)):Option (Stp (Int×Int×(List Int)) ((Int×(List Int)))):=
 cond (decide (v8≤a1)) ((kK r3000 v7 v8 a2).bind fun t18=>
 some (.next (v8,wi (v8+20),t18))) (some (.done (v7,r3000)))
def z6 (a1:Int) (v6:Int) (a2:Int→Int→Option (Int)) (v7:Int) (v8:Int) (r3000:(List Int)):Option (Stp (Int×Int×(List Int)) ((Int×(List Int)))):=
 cond (decide (v8≤a1)) ((yT 60 r3000 v7 (wi (v7+v6)) v8 a2).bind fun t43=>
 some (.next (v8,wi (v8+(wi (2*v6))),t43))) (some (.done (v7,r3000)))
def yE (a1:Int) (a2:Int→Int→Option (Int)) (v6:Int) (r3000:(List Int)):Option (Stp (Int×(List Int)) (((List Int)))):=
 cond (decide (v6 < a1)) ((zE (fun (x:Int×Int×(List Int))=>z6 a1 v6 a2 x.1 x.2.1 x.2.2) (0,wi (2*v6),r3000)).bind fun (y3:Int×(List Int))=>
(cond (decide ((wi (y3.1+v6)) < a1)) ((yT 60 y3.2 y3.1 (wi (y3.1+v6)) a1 a2).bind fun t60=>
 some t60) (some y3.2)).bind fun (y4:(List Int))=>
 some (.next (wi (v6*2),y4))) (some (.done r3000))
def wJ (a0:(List Int)) (a1:Int) (a2:Int→Int→Option (Int)):Option ((List Int)):=
(zE (fun (x:Int×Int×(List Int))=>z5 a1 a2 x.1 x.2.1 x.2.2) (0,20,a0)).bind fun (y1:Int×(List Int))=>
(kK y1.2 y1.1 a1 a2).bind fun t27=>
(zE (fun (x:Int×(List Int))=>yE a1 a2 x.1 x.2) (20,t27)).bind fun (y2:(List Int))=>
 some y2
def yZ (a0:(List Int)) (a1:Int→Int→Option (Int)):Option ((List Int)):=
(wJ a0 (a0.length:Int) a1).bind fun t8=>
 some t8
def uX (a0:List Span) (a1:List Int):Option (List Int):=(uD a0).bind fun t8=>(xC a1).bind fun t10=>(uE (jO (fun c=>kG t8 c==some 0) a1 0 (-1)) a1 t8).bind fun _=>vS (fun p=>yZ p (fun x0 x1=>xP x0 x1 t8)) Range.Lo Range.Hi t10 (jO (fun c=>kG t8 c==some 0) a1 0 (-1))
def xK (a1:(List Int)) (t12:Norm) (a2:Bool) (v18:Int) (r1008:(List Int)) (r3515:(List (Int×(List Int)))):Option (Stp (Int×(List Int)×(List (Int×(List Int)))) (((List Int)))):=
 cond (decide (v18 < (a1.length:Int))) ((yK a1 v18).bind fun t20=>
(yI 100 t20 r3515 ({Classes:=t12.Classes,Decomp:=t12.Decomp,Excluded:=({Ranges:=t12.Excluded.Ranges}:Set)}:Norm) a2).bind fun t25=>
(app r1008 t25.1).bind fun r1008_2=>
 some (.next (wi (v18+1),r1008_2,t25.2))) (some (.done r1008))
def zAR (a0:Norm) (a1:(List Int)) (a2:Bool):Option ((List Int)):=
(wC ({Classes:=a0.Classes,Decomp:=a0.Decomp,Excluded:=({Ranges:=a0.Excluded.Ranges}:Set)}:Norm)).bind fun t12=>
(wD ({Classes:=t12.Classes,Decomp:=t12.Decomp,Excluded:=({Ranges:=t12.Excluded.Ranges}:Set)}:Norm) a2).bind fun t15=>
(zE (fun (x:Int×(List Int)×(List (Int×(List Int))))=>xK a1 t12 a2 x.1 x.2.1 x.2.2) (0,[],[])).bind fun (y1:(List Int))=>
(uX t12.Classes y1).bind fun t31=>
 some t31
def jM (t16:Colltable_table) (r1008:(List Element)) (r2519:(List Int)):Option (Stp ((List Element)×(List Int)) (((List Element)))):=
 cond (decide (0 < (r2519.length:Int))) ((j7 t16 r2519).bind fun t26=>
(app r1008 t26.2.1).bind fun r1008_2=>
(slc t26.2.2.2 t26.1 (t26.2.2.2.length)).bind fun r2519_3=>
 some (.next (r1008_2,r2519_3))) (some (.done r1008))
def xB (a0:Norm) (a1:Collation) (a2:(List Int)):Option ((List Element)):=
(u6 a1).bind fun t14=>
(xE t14 a0).bind fun t16=>
(zAR a0 a2 false).bind fun t19=>
(zE (fun (x:(List Element)×(List Int))=>jM t16 x.1 x.2) ([],t19)).bind fun (y1:(List Element))=>
 some y1
def jB (t26:Collation) (v6:Int):Option (Stp (Int) ((Unit)⊕(Bool))):=
 cond (decide (v6 < (t26.Entries.length:Int))) ((yK t26.Entries v6).bind fun t37=>
 cond (decide (1 < (t37.Codes.length:Int))) ((zAU).bind fun t42=>
 some (.done (.inr (t42)))) (some (.next (wi (v6+1))))) (some (.done (.inl (()))))
def uO (a0:Unicodetextlaw43_Case) (a1:(List Int)):Option (Bool):=
(zGS a0).bind fun t11=>
(pv (!t11)).bind fun b13=>
(pv (b13 ||(decide ((a1.length:Int)=0)))).bind fun b18=>
 cond (b18 ||(decide (12 < (a1.length:Int)))) ((zAU).bind fun t23=>
 some t23) ((zFK a0.C).bind fun t26=>
(zE (fun (x:Int)=>jB t26 x) 0).bind fun (y1:(Unit)⊕(Bool))=>
 y1.elim (fun y1=>(yK a1 (0:Int)).bind fun t46=>
(zBO a0.N t46 false).bind fun t48=>
(pv (decide ((t48.length:Int)=0))).bind fun b52=>
(gM (!b52) (zFO a0.N)).bind fun t55=>
(gM (!b52) (yK t48 (0:Int))).bind fun t58=>
(gM (!b52) (zCB t55.Classes t58)).bind fun t60=>
 cond (b52 ||(!t60)) ((zAU).bind fun t63=>
 some t63) ((app [] a0.Text).bind fun r64_2=>
(app r64_2 a1).bind fun r64_3=>
(xB a0.N a0.C a0.Text).bind fun t77=>
(app [] t77).bind fun r70_13x8=>
(xB a0.N a0.C a1).bind fun t84=>
(app r70_13x8 t84).bind fun r70_13x15=>
(xB a0.N a0.C r64_3).bind fun t91=>
(zAW t91 r70_13x15).bind fun t93=>
(pv t93).bind fun b94=>
(gM b94 (zAU)).bind fun t95=>
 some (b94&&t95))) (fun y1=>some y1))
end
end Go.M


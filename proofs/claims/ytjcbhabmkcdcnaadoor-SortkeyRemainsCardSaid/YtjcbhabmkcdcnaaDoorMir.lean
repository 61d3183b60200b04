/- Plain counterparts of the program's functions, printed from its form. Conditions: none. -/
import Derived.Test.YtjcbhabmkcdcnaaDoorLa3
set_option linter.unusedSimpArgs false
set_option linter.unusedVariables false
set_option linter.unnecessarySimpa false
namespace Go.M
structure A3Int where
 x0:Int
 x1:Int
 x2:Int
 deriving DecidableEq,Inhabited
structure A3ListInt where
 x0:(List Int)
 x1:(List Int)
 x2:(List Int)
 deriving DecidableEq,Inhabited
structure A4Int where
 x0:Int
 x1:Int
 x2:Int
 x3:Int
 deriving DecidableEq,Inhabited
structure A4ListInt where
 x0:(List Int)
 x1:(List Int)
 x2:(List Int)
 x3:(List Int)
 deriving DecidableEq,Inhabited
structure Range where
 Lo:Int
 Hi:Int
 deriving DecidableEq,Inhabited
structure A4Range where
 x0:Range
 x1:Range
 x2:Range
 x3:Range
 deriving DecidableEq,Inhabited
structure A9Int where
 x0:Int
 x1:Int
 x2:Int
 x3:Int
 x4:Int
 x5:Int
 x6:Int
 x7:Int
 x8:Int
 deriving DecidableEq,Inhabited
structure Element where
 Primary:Int
 Secondary:Int
 Tertiary:Int
 Variable:Bool
 deriving DecidableEq,Inhabited
structure Entry where
 Codes:(List Int)
 Elements:(List Element)
 deriving DecidableEq,Inhabited
structure Group where
 Name:Str
 Lo:Int
 Hi:Int
 deriving DecidableEq,Inhabited
structure Collation where
 Entries:(List Entry)
 Groups:(List Group)
 Base:Int
 Second:Int
 Third:Int
 deriving DecidableEq,Inhabited
structure Span where
 Lo:Int
 Hi:Int
 Value:Int
 deriving DecidableEq,Inhabited
structure Colltable_table where
 c:Collation
 entries:(List (A9Int×(List Element)))
 longest:Int
 classes:(List Span)
 top:Int
 deriving DecidableEq,Inhabited
structure Mapping where
 From:Int
 To:(List Int)
 Tag:Str
 deriving DecidableEq,Inhabited
structure Mapping_key where
 from_:Int
 tag:Str
 deriving DecidableEq,Inhabited
structure Set where
 Ranges:(List Range)
 deriving DecidableEq,Inhabited
structure Norm where
 Classes:(List Span)
 Decomp:(List Mapping)
 Excluded:Set
 deriving DecidableEq,Inhabited
structure Options where
 Strength:Int
 Variable:Int
 Backward:Bool
 Identical:Bool
 deriving DecidableEq,Inhabited
structure Unicodetextlaw45_Setting where
 Norm:Norm
 Collation:Collation
 Options:Options
 deriving DecidableEq,Inhabited
structure Unicodetextlaw43_Case where
 N:Norm
 C:Collation
 Text:(List Int)
 deriving DecidableEq,Inhabited
structure Unicodetextlaw44_Data where
 Norm:Norm
 Collation:Collation
 Options:Options
 deriving DecidableEq,Inhabited
structure Unicodetextlaw44_Pair where
 A:(List Int)
 B:(List Int)
 Low:Int
 High:Int
 deriving DecidableEq,Inhabited
def zS5 (x:Range):Prop:=(-9223372036854775808≤x.Lo∧x.Lo≤9223372036854775807)∧(-9223372036854775808≤x.Hi∧x.Hi≤9223372036854775807)
def zM2 (x:Element):Prop:=(-9223372036854775808≤x.Primary∧x.Primary≤9223372036854775807)∧(-9223372036854775808≤x.Secondary∧x.Secondary≤9223372036854775807)∧(-9223372036854775808≤x.Tertiary∧x.Tertiary≤9223372036854775807)∧True
def zS6 (x:Entry):Prop:=(x.Codes.length≤9223372036854775807∧∀y0∈x.Codes,(-9223372036854775808≤y0∧y0≤9223372036854775807))∧(x.Elements.length≤9223372036854775807∧∀y0∈x.Elements,(zM2 y0))
def zS7 (x:Group):Prop:=(x.Name.length≤9223372036854775807)∧(-9223372036854775808≤x.Lo∧x.Lo≤9223372036854775807)∧(-9223372036854775808≤x.Hi∧x.Hi≤9223372036854775807)
def zFU (x:Collation):Prop:=(x.Entries.length≤9223372036854775807∧∀y0∈x.Entries,(zS6 y0))∧(x.Groups.length≤9223372036854775807∧∀y0∈x.Groups,(zS7 y0))∧(-9223372036854775808≤x.Base∧x.Base≤9223372036854775807)∧(-9223372036854775808≤x.Second∧x.Second≤9223372036854775807)∧(-9223372036854775808≤x.Third∧x.Third≤9223372036854775807)
def okSpan (x:Span):Prop:=(-9223372036854775808≤x.Lo∧x.Lo≤9223372036854775807)∧(-9223372036854775808≤x.Hi∧x.Hi≤9223372036854775807)∧(-9223372036854775808≤x.Value∧x.Value≤9223372036854775807)
def zM3 (x:Mapping):Prop:=(-9223372036854775808≤x.From∧x.From≤9223372036854775807)∧(x.To.length≤9223372036854775807∧∀y0∈x.To,(-9223372036854775808≤y0∧y0≤9223372036854775807))∧(x.Tag.length≤9223372036854775807)
def zX2 (x:Set):Prop:=(x.Ranges.length≤9223372036854775807∧∀y0∈x.Ranges,(zS5 y0))
def zBQ (x:Norm):Prop:=(x.Classes.length≤9223372036854775807∧∀y0∈x.Classes,(okSpan y0))∧(x.Decomp.length≤9223372036854775807∧∀y0∈x.Decomp,(zM3 y0))∧(zX2 x.Excluded)
def zM4 (x:Options):Prop:=(-9223372036854775808≤x.Strength∧x.Strength≤9223372036854775807)∧(-9223372036854775808≤x.Variable∧x.Variable≤9223372036854775807)∧True∧True
def vY (x:Unicodetextlaw44_Data):Prop:=(zBQ x.Norm)∧(zFU x.Collation)∧(zM4 x.Options)
def zD4 (x:Unicodetextlaw44_Pair):Prop:=(x.A.length≤9223372036854775807∧∀y0∈x.A,(-9223372036854775808≤y0∧y0≤9223372036854775807))∧(x.B.length≤9223372036854775807∧∀y0∈x.B,(-9223372036854775808≤y0∧y0≤9223372036854775807))∧(-9223372036854775808≤x.Low∧x.Low≤9223372036854775807)∧(-9223372036854775808≤x.High∧x.High≤9223372036854775807)
end Go.M
namespace Go.AV
open Go.M
def zBR (x:A9Int):Value:= .agg #[.int IntKind.i64 x.x0,.int IntKind.i64 x.x1,.int IntKind.i64 x.x2,.int IntKind.i64 x.x3,.int IntKind.i64 x.x4,.int IntKind.i64 x.x5,.int IntKind.i64 x.x6,.int IntKind.i64 x.x7,.int IntKind.i64 x.x8]
def zCK (x:Mapping_key):Value:= .agg #[.int IntKind.i64 x.from_,.string ⟨x.tag.toArray⟩]
def eA3Int:En A3Int:=⟨fun x=> .agg [(di x.x0),(di x.x1),(di x.x2)],3,fun _=>rfl⟩
def eA4Int:En A4Int:=⟨fun x=> .agg [(di x.x0),(di x.x1),(di x.x2),(di x.x3)],4,fun _=>rfl⟩
def eRange:En Range:=⟨fun x=> .agg [(di x.Lo),(di x.Hi)],2,fun _=>rfl⟩
def eA4Range:En A4Range:=⟨fun x=> .agg [(di x.x0.Lo),(di x.x0.Hi),(di x.x1.Lo),(di x.x1.Hi),(di x.x2.Lo),(di x.x2.Hi),(di x.x3.Lo),(di x.x3.Hi)],8,fun _=>rfl⟩
def eA9Int:En A9Int:=⟨fun x=> .agg [(di x.x0),(di x.x1),(di x.x2),(di x.x3),(di x.x4),(di x.x5),(di x.x6),(di x.x7),(di x.x8)],9,fun _=>rfl⟩
def eElement:En Element:=⟨fun x=> .agg [(di x.Primary),(di x.Secondary),(di x.Tertiary),(db x.Variable)],4,fun _=>rfl⟩
def eEntry:En Entry:=⟨fun x=> .agg [(z8 eI x.Codes),(z8 eElement x.Elements)],2,fun _=>rfl⟩
def eGroup:En Group:=⟨fun x=> .agg [(ds x.Name),(di x.Lo),(di x.Hi)],3,fun _=>rfl⟩
def eCollation:En Collation:=⟨fun x=> .agg [(z8 eEntry x.Entries),(z8 eGroup x.Groups),(di x.Base),(di x.Second),(di x.Third)],5,fun _=>rfl⟩
def eSpan:En Span:=⟨fun x=> .agg [(di x.Lo),(di x.Hi),(di x.Value)],3,fun _=>rfl⟩
def eColltable_table:En Colltable_table:=⟨fun x=> .agg [(z8 eEntry x.c.Entries),(z8 eGroup x.c.Groups),(di x.c.Base),(di x.c.Second),(di x.c.Third),(mpD zBR (eL eElement) x.entries),(di x.longest),(z8 eSpan x.classes),(di x.top)],9,fun _=>rfl⟩
def eMapping:En Mapping:=⟨fun x=> .agg [(di x.From),(z8 eI x.To),(ds x.Tag)],3,fun _=>rfl⟩
def eMapping_key:En Mapping_key:=⟨fun x=> .agg [(di x.from_),(ds x.tag)],2,fun _=>rfl⟩
def eSet:En Set:=⟨fun x=> .agg [(z8 eRange x.Ranges)],1,fun _=>rfl⟩
def eNorm:En Norm:=⟨fun x=> .agg [(z8 eSpan x.Classes),(z8 eMapping x.Decomp),(z8 eRange x.Excluded.Ranges)],3,fun _=>rfl⟩
def eOptions:En Options:=⟨fun x=> .agg [(di x.Strength),(di x.Variable),(db x.Backward),(db x.Identical)],4,fun _=>rfl⟩
def eUnicodetextlaw44_Data:En Unicodetextlaw44_Data:=⟨fun x=> .agg [(z8 eSpan x.Norm.Classes),(z8 eMapping x.Norm.Decomp),(z8 eRange x.Norm.Excluded.Ranges),(z8 eEntry x.Collation.Entries),(z8 eGroup x.Collation.Groups),(di x.Collation.Base),(di x.Collation.Second),(di x.Collation.Third),(di x.Options.Strength),(di x.Options.Variable),(db x.Options.Backward),(db x.Options.Identical)],12,fun _=>rfl⟩
def eUnicodetextlaw44_Pair:En Unicodetextlaw44_Pair:=⟨fun x=> .agg [(z8 eI x.A),(z8 eI x.B),(di x.Low),(di x.High)],4,fun _=>rfl⟩
end Go.AV
namespace Go.M
open Go.AV
noncomputable section
def xI (a0:Options):Option (Int):=
(pv (decide (a0.Strength < 1))).bind fun b6=>
 cond (b6 ||(decide (4 < a0.Strength))) (some 1) ((cond (decide (a0.Variable=1)) (some (decide (a0.Variable=1))) (cond (decide (a0.Variable=2)) (some (decide (a0.Variable=2))) (some (decide (a0.Variable=3))))).bind fun (y1:Bool)=>
 cond y1 (some 0) (some 8))
def xS (a0:Options):Option (Options):=
(xI a0).bind fun t4=>
 cond (!decide (t4=0)) (some ({Strength:=3,Variable:=1,Backward:=false,Identical:=false}:Options)) (some a0)
def wP (a0:Int):Option (Bool):=
(pv (decide (1≤a0))).bind fun b5=>
 some (b5&&(decide (a0≤65535)))
def jY (a0:Str) (v7:Int):Option (Stp (Int) ((Unit)⊕(Bool))):=
 cond (decide (v7 < (a0.length:Int))) ((zRS a0 v7).bind fun t12=>
(pv (decide (65≤t12))).bind fun b15=>
(pv (b15&&(decide (t12≤90)))).bind fun b19=>
(pv (decide (97≤t12))).bind fun b22=>
(pv (b19 ||(b22&&(decide (t12≤122))))).bind fun b27=>
(pv (decide (48≤t12))).bind fun b30=>
(pv (b27 ||(b30&&(decide (t12≤57))))).bind fun b35=>
 cond (!(b35 ||(decide (t12=95)))) (some (.done (.inr (false)))) (some (.next (wi (v7+1))))) (some (.done (.inl (()))))
def vZ (a0:Str):Option (Bool):=
(zD (fun (x:Int)=>jY a0 x) 0).bind fun (y1:(Unit)⊕(Bool))=>
 y1.elim (fun y1=>(pv (!(a0== []))).bind fun b43=>
 some (b43&&(decide ((a0.length:Int)≤32)))) (fun y1=>some y1)
def k4 (a0:Collation) (v15:Int):Option (Stp (Int) ((Unit)⊕(Int))):=
 cond (decide (v15 < (a0.Groups.length:Int))) ((kM a0.Groups v15).bind fun t17=>
(vZ t17.Name).bind fun t21=>
 cond (!t21) (some (.done (.inr (6)))) (some (.next (wi (v15+1))))) (some (.done (.inl (()))))
def kL (a0:Collation) (v28:Int) (r24:(List (Str×Bool))):Option (Stp (Int×(List (Str×Bool))) ((Unit)⊕(Int))):=
 cond (decide (v28 < (a0.Groups.length:Int))) ((kM a0.Groups v28).bind fun t30=>
 cond (wW r24 t30.Name false) (some (.done (.inr (5)))) (some (.next (wi (v28+1),w6 r24 t30.Name true)))) (some (.done (.inl (()))))
def k5 (a0:Collation) (v43:Int):Option (Stp (Int) ((Unit)⊕(Int))):=
 cond (decide (v43 < (a0.Groups.length:Int))) ((kM a0.Groups v43).bind fun t45=>
(pv (decide (t45.Lo < 1))).bind fun b50=>
(pv (b50 ||(decide (t45.Hi < t45.Lo)))).bind fun b57=>
 cond (b57 ||(decide (a0.Base≤t45.Hi))) (some (.done (.inr (1)))) (some (.next (wi (v43+1))))) (some (.done (.inl (()))))
def k6 (a0:Collation) (v68:Int):Option (Stp (Int) ((Unit)⊕(Int))):=
 cond (decide (v68 < (a0.Groups.length:Int))) ((kM a0.Groups v68).bind fun t71=>
(pv (decide (0 < v68))).bind fun b75=>
(gM b75 (kM a0.Groups (wi (v68 - 1)))).bind fun t82=>
 cond (b75&&(!decide (t71.Lo=(wi (t82.Hi+1))))) (some (.done (.inr (4)))) (some (.next (wi (v68+1))))) (some (.done (.inl (()))))
def j7 (a0:Collation):Option (Int):=
(zD (fun (x:Int)=>k4 a0 x) 0).bind fun (y1:(Unit)⊕(Int))=>
 y1.elim (fun y1=>(zD (fun (x:Int×(List (Str×Bool)))=>kL a0 x.1 x.2) (0,[])).bind fun (y2:(Unit)⊕(Int))=>
 y2.elim (fun y2=>(zD (fun (x:Int)=>k5 a0 x) 0).bind fun (y3:(Unit)⊕(Int))=>
 y3.elim (fun y3=>(zD (fun (x:Int)=>k6 a0 x) 0).bind fun (y4:(Unit)⊕(Int))=>
 y4.elim (fun y4=>some 0) (fun y4=>some y4)) (fun y3=>some y3)) (fun y2=>some y2)) (fun y1=>some y1)
def xY (a0:Int):Option (Bool):=
(pv (decide (0≤a0))).bind fun b5=>
 some (b5&&(decide (a0≤1114111)))
def wE (a0:Element) (v12:Int):Option (Stp (Int) ((Unit)⊕(Int))):=
 cond (decide (v12 < 3)) ((kM [({x0:=a0.Primary,x1:=a0.Secondary,x2:=a0.Tertiary}:A3Int).x0,({x0:=a0.Primary,x1:=a0.Secondary,x2:=a0.Tertiary}:A3Int).x1,({x0:=a0.Primary,x1:=a0.Secondary,x2:=a0.Tertiary}:A3Int).x2] v12).bind fun t14=>
(pv (decide (t14 < 0))).bind fun b17=>
 cond (b17 ||(decide (65535 < t14))) (some (.done (.inr (1)))) (some (.next (wi (v12+1))))) (some (.done (.inl (()))))
def zAS (a0:Element):Option (Int):=
(zD (fun (x:Int)=>wE a0 x) 0).bind fun (y1:(Unit)⊕(Int))=>
 y1.elim (fun y1=>(pv (!decide (a0.Primary=0))).bind fun b26=>
(pv (decide (a0.Secondary=0))).bind fun b30=>
 cond (b26&&(b30 ||(decide (a0.Tertiary=0)))) (some 11) ((pv (!decide (a0.Secondary=0))).bind fun b40=>
 cond (b40&&(decide (a0.Tertiary=0))) (some 11) ((pv a0.Variable).bind fun b48=>
 cond (b48&&(decide (a0.Primary=0))) (some 11) (some 0)))) (fun y1=>some y1)
def jD (a0:Entry) (v31:Int):Option (Stp (Int) ((Unit)⊕(Int))):=
 cond (decide (v31 < (a0.Codes.length:Int))) ((kM a0.Codes v31).bind fun t33=>
(xY t33).bind fun t36=>
 cond (!t36) (some (.done (.inr (1)))) (some (.next (wi (v31+1))))) (some (.done (.inl (()))))
def jE (a0:Entry) (v42:Int):Option (Stp (Int) ((Unit)⊕(Int))):=
 cond (decide (v42 < (a0.Elements.length:Int))) ((kM a0.Elements v42).bind fun t44=>
(zAS t44).bind fun t47=>
 cond (!decide (t47=0)) (some (.done (.inr (t47)))) (some (.next (wi (v42+1))))) (some (.done (.inl (()))))
def jF (a0:Entry) (a1:Int) (v55:Int):Option (Stp (Int) ((Unit)⊕(Int))):=
 cond (decide (v55 < (a0.Elements.length:Int))) ((kM a0.Elements v55).bind fun t57=>
 cond (decide (a1≤t57.Primary)) (some (.done (.inr (1)))) (some (.next (wi (v55+1))))) (some (.done (.inl (()))))
def xM (a0:Entry) (a1:Int):Option (Int):=
(pv (decide ((a0.Codes.length:Int) < 1))).bind fun b16=>
(pv (b16 ||(decide (8 < (a0.Codes.length:Int))))).bind fun b22=>
 cond (b22 ||(decide (16 < (a0.Elements.length:Int)))) (some 2) ((zD (fun (x:Int)=>jD a0 x) 0).bind fun (y1:(Unit)⊕(Int))=>
 y1.elim (fun y1=>(zD (fun (x:Int)=>jE a0 x) 0).bind fun (y2:(Unit)⊕(Int))=>
 y2.elim (fun y2=>(zD (fun (x:Int)=>jF a0 a1 x) 0).bind fun (y3:(Unit)⊕(Int))=>
 y3.elim (fun y3=>some 0) (fun y3=>some y3)) (fun y2=>some y2)) (fun y1=>some y1))
def zAT (a0:Int):Option (Bool):=
 some (!decide (a0=a0))
def kZ (a0:Int) (a1:Int):Option (Int):=
(zAT a0).bind fun t8=>
(zAT a1).bind fun t10=>
 cond t8 (cond t10 (some 0) (some (-1))) (cond t10 (some 1) (cond (decide (a0 < a1)) (some (-1)) (cond (decide (a1 < a0)) (some 1) (some 0))))
def jQ (a0:(List Int)) (a1:(List Int)) (v11:Int):Option (Stp (Int) ((Unit)⊕(Int))):=
 cond (decide (v11 < (min (a0.length:Int) (a1.length:Int)))) ((kM a0 v11).bind fun t16=>
(kM a1 v11).bind fun t20=>
 cond (!decide (t16=t20)) ((kM a0 v11).bind fun t25=>
(kM a1 v11).bind fun t29=>
(kZ t25 t29).bind fun t31=>
 some (.done (.inr (t31)))) (some (.next (wi (v11+1))))) (some (.done (.inl (()))))
def vI (a0:(List Int)) (a1:(List Int)):Option (Int):=
(zD (fun (x:Int)=>jQ a0 a1 x) 0).bind fun (y1:(Unit)⊕(Int))=>
 y1.elim (fun y1=>(kZ (a0.length:Int) (a1.length:Int)).bind fun t37=>
 some t37) (fun y1=>some y1)
def xB (a0:Collation) (v35:Int):Option (Stp (Int) ((Unit)⊕(Int))):=
 cond (decide (v35 < (a0.Entries.length:Int))) ((kM a0.Entries v35).bind fun t38=>
(xM t38 a0.Base).bind fun t43=>
 cond (!decide (t43=0)) (some (.done (.inr (t43)))) ((pv (decide (0 < v35))).bind fun b49=>
(gM b49 (kM a0.Entries (wi (v35 - 1)))).bind fun t54=>
(gM b49 (vI t54.Codes t38.Codes)).bind fun t59=>
 cond (b49&&(decide (0≤t59))) (some (.done (.inr (4)))) (some (.next (wi (v35+1)))))) (some (.done (.inl (()))))
def w8 (a0:Collation):Option (Int):=
(pv (decide (a0.Base < 1))).bind fun b10=>
(pv (b10 ||(decide (65502 < a0.Base)))).bind fun b15=>
(gM (!b15) (wP a0.Second)).bind fun t18=>
(pv (b15 ||(!t18))).bind fun b21=>
(gM (!b21) (wP a0.Third)).bind fun t24=>
 cond (b21 ||(!t24)) (some 1) ((j7 a0).bind fun t28=>
 cond (!decide (t28=0)) (some t28) ((zD (fun (x:Int)=>xB a0 x) 0).bind fun (y1:(Unit)⊕(Int))=>
 y1.elim (fun y1=>some 0) (fun y1=>some y1)))
def uS (a0:(List Int)):Option (A9Int):=
 some ({x0:=({x0:=(a0.length:Int),x1:=0,x2:=0,x3:=0,x4:=0,x5:=0,x6:=0,x7:=0,x8:=0}:A9Int).x0,x1:=cpA a0 0 (({x0:=(a0.length:Int),x1:=0,x2:=0,x3:=0,x4:=0,x5:=0,x6:=0,x7:=0,x8:=0}:A9Int).x1),x2:=cpA a0 1 (({x0:=(a0.length:Int),x1:=0,x2:=0,x3:=0,x4:=0,x5:=0,x6:=0,x7:=0,x8:=0}:A9Int).x2),x3:=cpA a0 2 (({x0:=(a0.length:Int),x1:=0,x2:=0,x3:=0,x4:=0,x5:=0,x6:=0,x7:=0,x8:=0}:A9Int).x3),x4:=cpA a0 3 (({x0:=(a0.length:Int),x1:=0,x2:=0,x3:=0,x4:=0,x5:=0,x6:=0,x7:=0,x8:=0}:A9Int).x4),x5:=cpA a0 4 (({x0:=(a0.length:Int),x1:=0,x2:=0,x3:=0,x4:=0,x5:=0,x6:=0,x7:=0,x8:=0}:A9Int).x5),x6:=cpA a0 5 (({x0:=(a0.length:Int),x1:=0,x2:=0,x3:=0,x4:=0,x5:=0,x6:=0,x7:=0,x8:=0}:A9Int).x6),x7:=cpA a0 6 (({x0:=(a0.length:Int),x1:=0,x2:=0,x3:=0,x4:=0,x5:=0,x6:=0,x7:=0,x8:=0}:A9Int).x7),x8:=cpA a0 7 (({x0:=(a0.length:Int),x1:=0,x2:=0,x3:=0,x4:=0,x5:=0,x6:=0,x7:=0,x8:=0}:A9Int).x8)}:A9Int)
def jM (y1:(List Entry)×(List Group)×Int×Int×Int) (v17:Int) (r11:(List (A9Int×(List Element)))) (k13_6:Int):Option (Stp (Int×(List (A9Int×(List Element)))×Int) (((List (A9Int×(List Element)))×Int))):=
 cond (decide (v17 < (y1.1.length:Int))) ((kM y1.1 v17).bind fun t19=>
(uS t19.Codes).bind fun t27=>
 some (.next (wi (v17+1),w6 r11 t27 t19.Elements,max k13_6 (t19.Codes.length:Int)))) (some (.done (r11,k13_6)))
def u9 (a0:Collation):Option (Colltable_table):=
(w8 ({Entries:=a0.Entries,Groups:=a0.Groups,Base:=a0.Base,Second:=a0.Second,Third:=a0.Third}:Collation)).bind fun t7=>
(cond (!decide (t7=0)) (some (({Entries:=[],Groups:=[],Base:=64448,Second:=32,Third:=2}:Collation).Entries,({Entries:=[],Groups:=[],Base:=64448,Second:=32,Third:=2}:Collation).Groups,({Entries:=[],Groups:=[],Base:=64448,Second:=32,Third:=2}:Collation).Base,({Entries:=[],Groups:=[],Base:=64448,Second:=32,Third:=2}:Collation).Second,({Entries:=[],Groups:=[],Base:=64448,Second:=32,Third:=2}:Collation).Third)) (some (a0.Entries,a0.Groups,a0.Base,a0.Second,a0.Third))).bind fun (y1:(List Entry)×(List Group)×Int×Int×Int)=>
(zD (fun (x:Int×(List (A9Int×(List Element)))×Int)=>jM y1 x.1 x.2.1 x.2.2) (0,[],0)).bind fun (y2:(List (A9Int×(List Element)))×Int)=>
 some ({c:=({Entries:=({Entries:=y1.1,Groups:=y1.2.1,Base:=y1.2.2.1,Second:=y1.2.2.2.1,Third:=y1.2.2.2.2}:Collation).Entries,Groups:=({Entries:=y1.1,Groups:=y1.2.1,Base:=y1.2.2.1,Second:=y1.2.2.2.1,Third:=y1.2.2.2.2}:Collation).Groups,Base:=({Entries:=y1.1,Groups:=y1.2.1,Base:=y1.2.2.1,Second:=y1.2.2.2.1,Third:=y1.2.2.2.2}:Collation).Base,Second:=({Entries:=y1.1,Groups:=y1.2.1,Base:=y1.2.2.1,Second:=y1.2.2.2.1,Third:=y1.2.2.2.2}:Collation).Second,Third:=({Entries:=y1.1,Groups:=y1.2.1,Base:=y1.2.2.1,Second:=y1.2.2.2.1,Third:=y1.2.2.2.2}:Collation).Third}:Collation),entries:=y2.1,longest:=y2.2,classes:=[],top:=0}:Colltable_table)
def xT (a0:(List Span)) (v14:Int):Option (Stp (Int) ((Unit)⊕(Int))):=
 cond (decide (v14 < (a0.length:Int))) ((kM a0 v14).bind fun t16=>
(pv (decide (t16.Lo < 0))).bind fun b21=>
(pv (b21 ||(decide (1114111 < t16.Hi)))).bind fun b26=>
(pv (b26 ||(decide (t16.Hi < t16.Lo)))).bind fun b33=>
(pv (b33 ||(decide (t16.Value < 1)))).bind fun b38=>
 cond (b38 ||(decide (254 < t16.Value))) (some (.done (.inr (1)))) (some (.next (wi (v14+1))))) (some (.done (.inl (()))))
def xU (a0:(List Span)) (v5:Int):Option (Stp (Int) ((Unit)⊕(Int))):=
 cond (decide (v5 < (a0.length:Int))) ((kM a0 (wi (v5 - 1))).bind fun t53=>
(kM a0 v5).bind fun t57=>
(pv (decide (t57.Lo≤t53.Hi))).bind fun b64=>
(pv (decide (t57.Lo=(wi (t53.Hi+1))))).bind fun b71=>
 cond (b64 ||(b71&&(decide (t57.Value=t53.Value)))) (some (.done (.inr (4)))) (some (.next (wi (v5+1))))) (some (.done (.inl (()))))
def jN (t85:A4Range) (t83:Span) (v86:Int):Option (Stp (Int) ((Unit)⊕(Int))):=
 cond (decide (v86 < 4)) ((kM [t85.x0,t85.x1,t85.x2,t85.x3] v86).bind fun t88=>
(pv (decide (t83.Lo≤t88.Hi))).bind fun b94=>
 cond (b94&&(decide (t88.Lo≤t83.Hi))) (some (.done (.inr (11)))) (some (.next (wi (v86+1))))) (some (.done (.inl (()))))
def xV (a0:(List Span)) (v81:Int):Option (Stp (Int) ((Unit)⊕(Int))):=
 cond (decide (v81 < (a0.length:Int))) ((kM a0 v81).bind fun t83=>
(pv ({x0:=({Lo:=4352,Hi:=4370}:Range),x1:=({Lo:=4449,Hi:=4469}:Range),x2:=({Lo:=4520,Hi:=4546}:Range),x3:=({Lo:=44032,Hi:=55203}:Range)}:A4Range)).bind fun t85=>
(zD (fun (x:Int)=>jN t85 t83 x) 0).bind fun (y4:(Unit)⊕(Int))=>
 y4.elim (fun y4=>some (.next (wi (v81+1)))) (fun y4=>some (.done (.inr (y4))))) (some (.done (.inl (()))))
def uA (a0:(List Span)):Option (Int):=
(zD (fun (x:Int)=>xT a0 x) 0).bind fun (y1:(Unit)⊕(Int))=>
 y1.elim (fun y1=>(zD (fun (x:Int)=>xU a0 x) 1).bind fun (y2:(Unit)⊕(Int))=>
 y2.elim (fun y2=>(zD (fun (x:Int)=>xV a0 x) 0).bind fun (y3:(Unit)⊕(Int))=>
 y3.elim (fun y3=>some 0) (fun y3=>some y3)) (fun y2=>some y2)) (fun y1=>some y1)
def xW (a0:Str) (v15:Int):Option (Stp (Int) ((Unit)⊕(Bool))):=
 cond (decide (v15 < (a0.length:Int))) ((zRS a0 v15).bind fun t20=>
(pv (decide (65≤t20))).bind fun b23=>
(pv (b23&&(decide (t20≤90)))).bind fun b27=>
(pv (decide (97≤t20))).bind fun b30=>
(pv (!(b27 ||(b30&&(decide (t20≤122)))))).bind fun b37=>
(pv (decide (48≤t20))).bind fun b40=>
(pv (b37&&(!(b40&&(decide (t20≤57)))))).bind fun b46=>
 cond (b46&&(!decide (t20=95))) (some (.done (.inr (false)))) (some (.next (wi (v15+1))))) (some (.done (.inl (()))))
def zAA (a0:Str):Option (Bool):=
(pv (a0== [])).bind fun b8=>
 cond (b8 ||(decide (32 < (a0.length:Int)))) (some false) ((zD (fun (x:Int)=>xW a0 x) 0).bind fun (y1:(Unit)⊕(Bool))=>
 y1.elim (fun y1=>some true) (fun y1=>some y1))
def wF (t15:Mapping) (v24:Int):Option (Stp (Int) ((Unit)⊕(Int))):=
 cond (decide (v24 < (t15.To.length:Int))) ((kM t15.To v24).bind fun t26=>
(xY t26).bind fun t29=>
 cond (!t29) (some (.done (.inr (1)))) (some (.next (wi (v24+1))))) (some (.done (.inl (()))))
def wG (a0:(List Mapping)) (v13:Int):Option (Stp (Int) ((Unit)⊕(Int))):=
 cond (decide (v13 < (a0.length:Int))) ((kM a0 v13).bind fun t15=>
(xY t15.From).bind fun t19=>
 cond (!t19) (some (.done (.inr (1)))) ((zD (fun (x:Int)=>wF t15 x) 0).bind fun (y2:(Unit)⊕(Int))=>
 y2.elim (fun y2=>some (.next (wi (v13+1)))) (fun y2=>some (.done (.inr (y2)))))) (some (.done (.inl (()))))
def wH (a0:(List Mapping)) (v35:Int):Option (Stp (Int) ((Unit)⊕(Int))):=
 cond (decide (v35 < (a0.length:Int))) ((kM a0 v35).bind fun t37=>
 cond (decide (64 < (t37.To.length:Int))) (some (.done (.inr (2)))) (some (.next (wi (v35+1))))) (some (.done (.inl (()))))
def wI (a0:(List Mapping)) (v46:Int):Option (Stp (Int) ((Unit)⊕(Int))):=
 cond (decide (v46 < (a0.length:Int))) ((kM a0 v46).bind fun t48=>
(pv (!(t48.Tag== []))).bind fun b53=>
(gM b53 (zAA t48.Tag)).bind fun t56=>
 cond (b53&&(!t56)) (some (.done (.inr (6)))) (some (.next (wi (v46+1))))) (some (.done (.inl (()))))
def zAU (a0:(List Mapping)):Option (Int):=
(zD (fun (x:Int)=>wG a0 x) 0).bind fun (y1:(Unit)⊕(Int))=>
 y1.elim (fun y1=>(zD (fun (x:Int)=>wH a0 x) 0).bind fun (y3:(Unit)⊕(Int))=>
 y3.elim (fun y3=>(zD (fun (x:Int)=>wI a0 x) 0).bind fun (y4:(Unit)⊕(Int))=>
 y4.elim (fun y4=>some 0) (fun y4=>some y4)) (fun y3=>some y3)) (fun y1=>some y1)
def uB (a0:Str):Option (Bool):=
 some (!(a0==a0))
def wQ (a0:Str) (a1:Str):Option (Int):=
(uB a0).bind fun t8=>
(uB a1).bind fun t10=>
 cond t8 (cond t10 (some 0) (some (-1))) (cond t10 (some 1) (cond (Op.bytesLess a0 a1) (some (-1)) (cond (!Op.bytesLess a0 a1&& !(a0==a1)) (some 1) (some 0))))
def uY (a0:(List Int)) (v8:Int):Option (Stp (Int) ((Unit)⊕(Int))):=
 cond (decide (v8 < (a0.length:Int))) ((kM a0 v8).bind fun t10=>
 cond (!decide (t10=0)) (some (.done (.inr (t10)))) (some (.next (wi (v8+1))))) (some (.done (.inl (()))))
def zBS (a0:(List Int)):Option (Int):=
(zD (fun (x:Int)=>uY a0 x) 0).bind fun (y1:(Unit)⊕(Int))=>
 y1.elim (fun y1=>some 0) (fun y1=>some y1)
def uT (a0:Mapping) (a1:Mapping):Option (Int):=
(kZ a0.From a1.From).bind fun t9=>
(wQ a0.Tag a1.Tag).bind fun t14=>
(zBS [t9,t14]).bind fun t16=>
 some t16
def zAV (a0:Mapping):Option (Mapping_key):=
 some ({from_:=a0.From,tag:=a0.Tag}:Mapping_key)
def xC (a0:(List Mapping)) (v4:Bool) (v5:Int):Option (Stp (Bool×Int) ((Bool))):=
 cond (decide (v5 < (a0.length:Int))) (((kM a0 (wi (v5 - 1))).bind fun t23=>
(kM a0 v5).bind fun t27=>
(uT t23 t27).bind fun t29=>
 cond (decide (0≤t29)) (some false) (some v4)).bind fun (y2:Bool)=>
 some (.next (y2,wi (v5+1)))) (some (.done v4))
def xD (a0:(List Mapping)) (v35:Int) (r32:(List (Mapping_key×Bool))):Option (Stp (Int×(List (Mapping_key×Bool))) ((Unit)⊕(Int))):=
 cond (decide (v35 < (a0.length:Int))) ((kM a0 v35).bind fun t37=>
(zAV t37).bind fun t41=>
 cond (wW r32 t41 false) (some (.done (.inr (5)))) ((zAV t37).bind fun t45=>
 some (.next (wi (v35+1),w6 r32 t45 true)))) (some (.done (.inl (()))))
def zAW (a0:(List Mapping)):Option (Int):=
(zAU a0).bind fun t10=>
 cond (!decide (t10=0)) (some t10) ((zD (fun (x:Bool×Int)=>xC a0 x.1 x.2) (true,1)).bind fun (y1:Bool)=>
 cond y1 (some 0) ((zD (fun (x:Int×(List (Mapping_key×Bool)))=>xD a0 x.1 x.2) (0,[])).bind fun (y3:(Unit)⊕(Int))=>
 y3.elim (fun y3=>some 4) (fun y3=>some y3)))
def zCB (a0:Int):Option (Int):=
(cond (decide (4294967296≤a0)) (some (a0 / 2 ^ 32,32)) (some (a0,0))).bind fun (y1:Int×Int)=>
(cond (decide (65536≤y1.1)) (some (y1.1 / 2 ^ 16,wi (y1.2+16))) (some (y1.1,y1.2))).bind fun (y2:Int×Int)=>
(cond (decide (256≤y2.1)) (some (y2.1 / 2 ^ 8,wi (y2.2+8))) (some (y2.1,y2.2))).bind fun (y3:Int×Int)=>
(zRS [0,1,2,2,3,3,3,3,4,4,4,4,4,4,4,4,5,5,5,5,5,5,5,5,5,5,5,5,5,5,5,5,6,6,6,6,6,6,6,6,6,6,6,6,6,6,6,6,6,6,6,6,6,6,6,6,6,6,6,6,6,6,6,6,7,7,7,7,7,7,7,7,7,7,7,7,7,7,7,7,7,7,7,7,7,7,7,7,7,7,7,7,7,7,7,7,7,7,7,7,7,7,7,7,7,7,7,7,7,7,7,7,7,7,7,7,7,7,7,7,7,7,7,7,7,7,7,7,8,8,8,8,8,8,8,8,8,8,8,8,8,8,8,8,8,8,8,8,8,8,8,8,8,8,8,8,8,8,8,8,8,8,8,8,8,8,8,8,8,8,8,8,8,8,8,8,8,8,8,8,8,8,8,8,8,8,8,8,8,8,8,8,8,8,8,8,8,8,8,8,8,8,8,8,8,8,8,8,8,8,8,8,8,8,8,8,8,8,8,8,8,8,8,8,8,8,8,8,8,8,8,8,8,8,8,8,8,8,8,8,8,8,8,8,8,8,8,8,8,8,8,8,8,8,8,8] ((IntKind.u8.wrap) y3.1)).bind fun t22=>
 some (wi (y3.2+(wi t22)))
def zAX (a0:Int):Option (Int):=
 cond false (none) ((zCB a0).bind fun t7=>
 some t7)
def z7 (a1:Int) (a3:Range→Range→Option (Int)) (v9:Int) (r3000:(List Range)):Option (Stp (Int×(List Range)) (((List Range)))):=
(pv (decide (a1 < v9))).bind fun b21=>
(gM b21 (kM r3000 v9)).bind fun t25=>
(gM b21 (kM r3000 (wi (v9 - 1)))).bind fun t30=>
(gM b21 (a3 t25 t30)).bind fun t32=>
 cond (b21&&(decide (t32 < 0))) ((kM r3000 (wi (v9 - 1))).bind fun t45=>
(kM r3000 v9).bind fun t49=>
(kM r3000 v9).bind fun t51=>
(u3 r3000 v9 t45).bind fun r3000_6x15=>
(kM r3000_6x15 (wi (v9 - 1))).bind fun t52=>
(u3 r3000_6x15 (wi (v9 - 1)) t49).bind fun r3000_6x17=>
 some (.next (wi (v9 - 1),r3000_6x17))) (some (.done r3000))
def zX (a2:Int) (a1:Int) (a3:Range→Range→Option (Int)) (v8:Int) (r3000:(List Range)):Option (Stp (Int×(List Range)) (((List Range)))):=
 cond (decide (v8 < a2)) ((zD (fun (x:Int×(List Range))=>z7 a1 a3 x.1 x.2) (v8,r3000)).bind fun (y2:(List Range))=>
 some (.next (wi (v8+1),y2))) (some (.done r3000))
def yW (a0:(List Range)) (a1:Int) (a2:Int) (a3:Range→Range→Option (Int)):Option ((List Range)):=
(zD (fun (x:Int×(List Range))=>zX a2 a1 a3 x.1 x.2) (wi (a1+1),a0)).bind fun (y1:(List Range))=>
 some y1
def yR (a2:Int) (a1:Int) (a0:(List Range)) (a4:Range→Range→Option (Int)) (a3:Int):Option (Stp (Unit) (((List Range)))):=
(cond (decide ((wi (a2 - a1))≤12)) ((yW a0 a1 a2 a4).bind fun t30=>
 some t30) (cond (decide (a3=0)) (none) ((cond (!true) (none) (some ())).bind fun (y3:Unit)=>
 none))).bind fun (y2:(List Range))=>
 some (.done y2)
def jG (a0:(List Range)) (a1:Int) (a2:Int) (a3:Int) (a4:Range→Range→Option (Int)):Option ((List Range)):=
(zD (fun (_:Unit)=>yR a2 a1 a0 a4 a3) ()).bind fun (y1:(List Range))=>
 some y1
def kC (a0:(List Range)) (a1:Range→Range→Option (Int)):Option ((List Range)):=
(zAX (wu (a0.length:Int))).bind fun t11=>
(jG a0 0 (a0.length:Int) t11 a1).bind fun t13=>
 some t13
def vJ (a0:Range) (a1:Range):Option (Int):=
(kZ a0.Lo a1.Lo).bind fun t9=>
(kZ a0.Hi a1.Hi).bind fun t14=>
(zBS [t9,t14]).bind fun t16=>
 some t16
def vQ (a0:(List Range)) (v13:Int) (r1003:(List Range)):Option (Stp (Int×(List Range)) (((List Range)))):=
 cond (decide (v13 < (a0.length:Int))) (((kM a0 v13).bind fun t15=>
 cond (decide ((({Lo:=max t15.Lo 0,Hi:=min t15.Hi 1114111}:Range).Lo)≤(({Lo:=max t15.Lo 0,Hi:=min t15.Hi 1114111}:Range).Hi))) ((app r1003 [({Lo:=max t15.Lo 0,Hi:=min t15.Hi 1114111}:Range)]).bind fun r1003_3=>
 some r1003_3) (some r1003)).bind fun (y2:(List Range))=>
 some (.next (wi (v13+1),y2))) (some (.done r1003))
def vR (t35:(List Range)) (v38:Int) (r1007:(List Range)):Option (Stp (Int×(List Range)) (((List Range)))):=
 cond (decide (v38 < (t35.length:Int))) (((kM t35 v38).bind fun t40=>
(pv (decide (0 < (r1007.length:Int)))).bind fun b46=>
(gM b46 (kM r1007 (wi ((r1007.length:Int) - 1)))).bind fun t52=>
 cond (b46&&(decide (t40.Lo≤(wi (t52.Hi+1))))) ((kM r1007 (wi ((r1007.length:Int) - 1))).bind fun t64=>
(kM r1007 (wi ((r1007.length:Int) - 1))).bind fun t70=>
(u3 r1007 (wi ((r1007.length:Int) - 1)) ({t70 with Hi:=max t64.Hi t40.Hi})).bind fun r1007_6=>
 some r1007_6) ((app r1007 [t40]).bind fun r1007_7=>
 some r1007_7)).bind fun (y5:(List Range))=>
 some (.next (wi (v38+1),y5))) (some (.done r1007))
def zC2 (a0:(List Range)):Option (Set):=
(zD (fun (x:Int×(List Range))=>vQ a0 x.1 x.2) (0,[])).bind fun (y1:(List Range))=>
(kC y1 (fun x0 x1=>vJ x0 x1)).bind fun t35=>
(zD (fun (x:Int×(List Range))=>vR t35 x.1 x.2) (0,[])).bind fun (y4:(List Range))=>
 some ({Ranges:=y4}:Set)
def uC (t8:Set) (a0:Set) (v19:Int):Option (Stp (Int) ((Unit)⊕(Bool))):=
 cond (decide (v19 < (t8.Ranges.length:Int))) ((kM t8.Ranges v19).bind fun t22=>
(kM a0.Ranges v19).bind fun t28=>
 cond (!decide (t22=t28)) (some (.done (.inr (false)))) (some (.next (wi (v19+1))))) (some (.done (.inl (()))))
def zB3 (a0:Set):Option (Bool):=
(zC2 a0.Ranges).bind fun t8=>
 cond (!decide ((t8.Ranges.length:Int)=(a0.Ranges.length:Int))) (some false) ((zD (fun (x:Int)=>uC t8 a0 x) 0).bind fun (y1:(Unit)⊕(Bool))=>
 y1.elim (fun y1=>some true) (fun y1=>some y1))
def zAB (a0:Int):Option (Int):=
(pv (decide (4352≤a0))).bind fun b6=>
 cond (b6&&(decide (a0 < 4371))) (some 1) ((pv (decide (4449≤a0))).bind fun b13=>
 cond (b13&&(decide (a0 < 4470))) (some 2) ((pv (decide (4520≤a0))).bind fun b20=>
 cond (b20&&(decide (a0 < 4547))) (some 3) ((pv (decide (a0 < 44032))).bind fun b27=>
 cond (b27 ||(decide (55204≤a0))) (some 0) ((zLR (wi (a0 - 44032)) 28).bind fun t34=>
 cond (decide (t34=0)) (some 4) (some 5)))))
def w9 (a0:(List Span)):Option ((List Span)):=
(uA a0).bind fun t4=>
 cond (!decide (t4=0)) (some []) (some a0)
def zS (a0:(List Span)) (a2:Span→Int→Option (Int)) (a1:Int) (v9:Int) (v10:Int):Option (Stp (Int×Int) ((Int))):=
 cond (decide (v9 < v10)) (((kM a0 (wi ((wu (wi (v9+v10))) / 2 ^ 1))).bind fun t27=>
(a2 t27 a1).bind fun t30=>
 cond (decide (t30 < 0)) (some (wi ((wi ((wu (wi (v9+v10))) / 2 ^ 1))+1),v10)) (some (v9,wi ((wu (wi (v9+v10))) / 2 ^ 1)))).bind fun (y2:Int×Int)=>
 some (.next (y2.1,y2.2))) (some (.done v9))
def yV (a0:(List Span)) (a1:Int) (a2:Span→Int→Option (Int)):Option (Int×Bool):=
(zD (fun (x:Int×Int)=>zS a0 a2 a1 x.1 x.2) (0,(a0.length:Int))).bind fun (y1:Int)=>
(pv (decide (y1 < (a0.length:Int)))).bind fun b39=>
(gM b39 (kM a0 y1)).bind fun t43=>
(gM b39 (a2 t43 a1)).bind fun t46=>
 some (y1,(b39&&(decide (t46=0))))
def wJ (a0:Span) (a1:Int):Option (Int):=
 cond (decide (a0.Hi < a1)) (some (-1)) (cond (decide (a1 < a0.Lo)) (some 1) (some 0))
def yZ (a0:(List Span)) (a1:Int):Option (Int):=
(yV a0 a1 (fun x0 x1=>wJ x0 x1)).bind fun t10=>
 cond (!t10.2) (some 0) ((kM a0 t10.1).bind fun t17=>
 some t17.Value)
def yS (a1:(List Int)) (a2:(List Span)) (items:(List (Range))) (v4:Int) (v10:Int) (v1000000:Nat):Option (Stp (Int×Int×Nat) ((Int×Nat)⊕(Nat))):=
 cond (decide (v10 < (a1.length:Int))) (((kM a1 v10).bind fun t13=>
(yZ a2 t13).bind fun t17=>
((pv (!(decide (t17=0)))).bind fun b22=>
 cond (b22&&(decide (v4 < 0))) (some (.inl ((v10,v1000000)))) ((pv (decide (t17=0))).bind fun b29=>
 cond (b29&&(decide (0≤v4))) ((yM items v1000000 ({Lo:=v4,Hi:=v10}:Range)).bind fun u37=>
 cond (!true) (some (.inr (v1000000+1))) (some (.inl (((-1),v1000000+1))))) (some (.inl ((v4,v1000000)))))).bind fun (y3:(Int×Nat)⊕(Nat))=>
 y3.elim (fun y3=>some (.inl ((y3.1,y3.2)))) (fun y3=>some (.inr (y3)))).bind fun (y2:(Int×Nat)⊕(Nat))=>
 y2.elim (fun y2=>some (.next (y2.1,wi (v10+1),y2.2))) (fun y2=>some (.done (.inr (y2))))) (some (.done (.inl ((v4,v1000000)))))
def vA (items:List Range) (a1:(List Int)) (a2:(List Span)):Option Unit:=
(zD (fun (x:Int×Int×Nat)=>yS a1 a2 items x.1 x.2.1 x.2.2) ((-1),0,0)).bind fun (y1:(Int×Nat)⊕(Nat))=>
 y1.elim (fun y1=>cond (decide (0≤y1.1)) ((yM items y1.2 ({Lo:=y1.1,Hi:=(a1.length:Int)}:Range)).bind fun u47=>
 zR5 items (y1.2+1)) (zR5 items y1.2)) (fun y1=>zR5 items y1)
def jC (st:Int→Bool):List Int→Int→Int→List Range
 | [],i,s=>if 0≤s then [{Lo:=s,Hi:=i}] else []
 | c::r,i,s=>if !st c&&decide (s < 0) then jC st r (i+1) i else if st c&&decide (0≤s) then {Lo:=s,Hi:=i}::jC st r (i+1) (-1) else jC st r (i+1) s
def z46 {α:Type} (l:List α):Option (List α):=if l.length≤LIM then some l else none
def zAY (a0:List Span) (a1:List Int):Option (List Range):=(w9 a0).bind fun t6=>(vA (jC (fun c=>yZ t6 c==some 0) a1 0 (-1)) a1 t6).bind fun _=>z46 (jC (fun c=>yZ t6 c==some 0) a1 0 (-1))
def zCL (a0:Int):Option (A3Int):=
(zAB a0).bind fun t6=>
 cond (decide (t6 < 4)) (some ({x0:=0,x1:=0,x2:=0}:A3Int)) ((zPK wi (wi (a0 - 44032)) 28).bind fun t12=>
(zPK wi t12 21).bind fun t13=>
(zPK wi (wi (a0 - 44032)) 28).bind fun t16=>
(zLR t16 21).bind fun t17=>
(zLR (wi (a0 - 44032)) 28).bind fun t21=>
(cond (decide (0 < t21)) ((zLR (wi (a0 - 44032)) 28).bind fun t24=>
 some (wi ((wi (4520+t24)) - 1))) (some (({x0:=wi (4352+t13),x1:=wi (4449+t17),x2:=0}:A3Int).x2))).bind fun (y1:Int)=>
 some ({x0:=({x0:=wi (4352+t13),x1:=wi (4449+t17),x2:=0}:A3Int).x0,x1:=({x0:=wi (4352+t13),x1:=wi (4449+t17),x2:=0}:A3Int).x1,x2:=y1}:A3Int))
def uD (a0:Int):Option ((List Int)):=
(zCL a0).bind fun t5=>
 cond (decide (t5=({x0:=0,x1:=0,x2:=0}:A3Int))) (some [a0]) (cond (decide (t5.x2=0)) (some [t5.x0,t5.x1]) (some [t5.x0,t5.x1,t5.x2]))
def zO (a0:(List Mapping)) (a2:Mapping→Int→Option (Int)) (a1:Int) (v9:Int) (v10:Int):Option (Stp (Int×Int) ((Int))):=
 cond (decide (v9 < v10)) (((kM a0 (wi ((wu (wi (v9+v10))) / 2 ^ 1))).bind fun t27=>
(a2 t27 a1).bind fun t30=>
 cond (decide (t30 < 0)) (some (wi ((wi ((wu (wi (v9+v10))) / 2 ^ 1))+1),v10)) (some (v9,wi ((wu (wi (v9+v10))) / 2 ^ 1)))).bind fun (y2:Int×Int)=>
 some (.next (y2.1,y2.2))) (some (.done v9))
def z1 (a0:(List Mapping)) (a1:Int) (a2:Mapping→Int→Option (Int)):Option (Int×Bool):=
(zD (fun (x:Int×Int)=>zO a0 a2 a1 x.1 x.2) (0,(a0.length:Int))).bind fun (y1:Int)=>
(pv (decide (y1 < (a0.length:Int)))).bind fun b39=>
(gM b39 (kM a0 y1)).bind fun t43=>
(gM b39 (a2 t43 a1)).bind fun t46=>
 some (y1,(b39&&(decide (t46=0))))
def xE (a0:Mapping) (a1:Int):Option (Int):=
(kZ a0.From a1).bind fun t8=>
 some t8
def xN (a0:Norm) (a1:Int) (a2:Bool):Option ((List Int)×Bool):=
(zAB a1).bind fun t11=>
 cond (decide (4≤t11)) ((uD a1).bind fun t14=>
 some (t14,true)) ((z1 a0.Decomp a1 (fun x0 x1=>xE x0 x1)).bind fun t19=>
(pv (!t19.2)).bind fun b24=>
(gM (!b24) (kM a0.Decomp t19.1)).bind fun t28=>
(pv (!(t28.Tag== []))).bind fun b32=>
 cond (b24 ||(b32&&(!a2))) (some ([],false)) ((kM a0.Decomp t19.1).bind fun t40=>
 some (t40.To,true)))
def kK (t18:(List Int)×Bool) (rec:(Int→Norm→(List (Int×Int))→Bool→Bool→Option (Int×Bool×Bool×(List (Int×Int))))) (a1:Norm) (v12:Int) (v46:Int) (k3003_0:Bool) (k3005_0:Bool) (r3140:(List (Int×Int))):Option (Stp (Int×Int×Bool×Bool×(List (Int×Int))) ((Int×Bool×Bool×(List (Int×Int))))):=
 cond (decide (v46 < (t18.1.length:Int))) ((kM t18.1 v46).bind fun t48=>
(rec t48 a1 r3140 k3003_0 k3005_0).bind fun t53=>
 some (.next (min (wi (v12+t53.1)) 65,wi (v46+1),t53.2.1,t53.2.2.1,t53.2.2.2))) (some (.done (v12,k3003_0,k3005_0,r3140)))
def kE (rec:Int→Norm→(List (Int×Int))→Bool→Bool→Option (Int×Bool×Bool×(List (Int×Int)))) (a0:Int) (a1:Norm) (a2:(List (Int×Int))) (a3:Bool) (a5:Bool):Option (Int×Bool×Bool×(List (Int×Int))):=
(xN a1 a0 true).bind fun t18=>
(pv (!t18.2)).bind fun b23=>
 cond (b23 ||(decide ((t18.1.length:Int)=0))) (some (1,a3,a5,a2)) (cond (uQ a2 a0) ((pv a3).bind fun b36=>
 some (max (wW a2 a0 0) 1,(b36 ||(decide ((wW a2 a0 0)=(-1)))),a5,a2)) ((zD (fun (x:Int×Int×Bool×Bool×(List (Int×Int)))=>kK t18 rec a1 x.1 x.2.1 x.2.2.1 x.2.2.2.1 x.2.2.2.2) (0,0,a3,a5,w6 a2 a0 (-1))).bind fun (y1:Int×Bool×Bool×(List (Int×Int)))=>
(pv y1.2.2.1).bind fun b61=>
 some (y1.1,y1.2.1,(b61 ||(decide (64 < y1.1))),w6 y1.2.2.2 a0 y1.1)))
def zU:Nat→Int→Norm→(List (Int×Int))→Bool→Bool→Option (Int×Bool×Bool×(List (Int×Int)))
 | 0=>fun _ _ _ _ _=>none
 | n+1=>kE (zU n)
def yT (a0:Norm) (v13:Int) (k2_0:Bool) (k3_0:Bool) (r8:(List (Int×Int))):Option (Stp (Int×Bool×Bool×(List (Int×Int))) ((Bool×Bool))):=
 cond (decide (v13 < (a0.Decomp.length:Int))) ((kM a0.Decomp v13).bind fun t15=>
(zU 100 t15.From a0 r8 k2_0 k3_0).bind fun t20=>
 some (.next (wi (v13+1),t20.2.1,t20.2.2.1,t20.2.2.2))) (some (.done (k2_0,k3_0)))
def decompose_measure (a0:Norm):Option (Bool×Bool):=
(zD (fun (x:Int×Bool×Bool×(List (Int×Int)))=>yT a0 x.1 x.2.1 x.2.2.1 x.2.2.2) (0,false,false,[])).bind fun (y1:Bool×Bool)=>
 some (y1.1,y1.2)
def xF (a0:Norm) (v5:Int):Option (Stp (Int) ((Unit)⊕(Int))):=
 cond (decide (v5 < (a0.Decomp.length:Int))) ((kM a0.Decomp v5).bind fun t39=>
(kM a0.Decomp (wi (v5 - 1))).bind fun t46=>
 cond (decide (t39.From=t46.From)) (some (.done (.inr (5)))) (some (.next (wi (v5+1))))) (some (.done (.inl (()))))
def xG (a0:Norm) (v53:Int):Option (Stp (Int) ((Unit)⊕(Int))):=
 cond (decide (v53 < (a0.Decomp.length:Int))) ((kM a0.Decomp v53).bind fun t55=>
(pv (t55.Tag== [])).bind fun b60=>
(pv (b60&&(!decide ((t55.To.length:Int)=1)))).bind fun b66=>
 cond (b66&&(!decide ((t55.To.length:Int)=2))) (some (.done (.inr (8)))) (some (.next (wi (v53+1))))) (some (.done (.inl (()))))
def z9 (a0:Norm) (v76:Int) (r1008:(List Int)):Option (Stp (Int×(List Int)) (((List Int))⊕(Int))):=
 cond (decide (v76 < (a0.Decomp.length:Int))) (((kM a0.Decomp v76).bind fun t78=>
(zAB t78.From).bind fun t82=>
 cond (!decide (t82=0)) (some (.inr (()))) (cond (!(t78.Tag== [])) ((app r1008 [t78.From]).bind fun r1008_5=>
 some (.inl (r1008_5))) (some (.inl (r1008))))).bind fun (y4:((List Int))⊕(Unit))=>
 y4.elim (fun y4=>some (.next (wi (v76+1),y4))) (fun y4=>some (.done (.inr (11))))) (some (.done (.inl (r1008))))
def vB (a0:Norm):Option (Int):=
(uA a0.Classes).bind fun t15=>
 cond (!decide (t15=0)) (some t15) ((zAW a0.Decomp).bind fun t21=>
 cond (!decide (t21=0)) (some t21) ((zB3 a0.Excluded).bind fun t27=>
 cond (!t27) (some 11) ((zD (fun (x:Int)=>xF a0 x) 1).bind fun (y1:(Unit)⊕(Int))=>
 y1.elim (fun y1=>(zD (fun (x:Int)=>xG a0 x) 0).bind fun (y2:(Unit)⊕(Int))=>
 y2.elim (fun y2=>(zD (fun (x:Int×(List Int))=>z9 a0 x.1 x.2) (0,[])).bind fun (y3:((List Int))⊕(Int))=>
 y3.elim (fun y3=>(zAY a0.Classes y3).bind fun t96=>
 cond (decide (0 < (t96.length:Int))) (some 11) ((decompose_measure a0).bind fun t101=>
 cond t101.1 (some 12) (cond t101.2 (some 13) (some 0)))) (fun y3=>some y3)) (fun y2=>some y2)) (fun y1=>some y1))))
def kP (y1:(List Span)) (v20:Int) (k3000_8:Int):Option (Stp (Int×Int) ((Int))):=
 cond (decide (v20 < (y1.length:Int))) ((kM y1 v20).bind fun t22=>
 some (.next (wi (v20+1),max k3000_8 t22.Value))) (some (.done k3000_8))
def xO (a0:Colltable_table) (a1:Norm):Option (Colltable_table):=
(vB a1).bind fun t8=>
(cond (decide (t8=0)) (some a1.Classes) (some a0.classes)).bind fun (y1:(List Span))=>
(zD (fun (x:Int×Int)=>kP y1 x.1 x.2) (0,a0.top)).bind fun (y2:Int)=>
 some ({c:=({Entries:=a0.c.Entries,Groups:=a0.c.Groups,Base:=a0.c.Base,Second:=a0.c.Second,Third:=a0.c.Third}:Collation),entries:=a0.entries,longest:=a0.longest,classes:=y1,top:=y2}:Colltable_table)
def wK (a0:Norm):Option (Norm):=
(vB a0).bind fun t4=>
 cond (!decide (t4=0)) (some ({Classes:=({Classes:=[],Decomp:=[],Excluded:=(({Ranges:=[]}):Set)}:Norm).Classes,Decomp:=({Classes:=[],Decomp:=[],Excluded:=(({Ranges:=[]}):Set)}:Norm).Decomp,Excluded:=({Ranges:=(({Classes:=[],Decomp:=[],Excluded:=(({Ranges:=[]}):Set)}:Norm).Excluded).Ranges}:Set)}:Norm)) (some a0)
def kF (t26:(List Int)×Bool) (rec:(Int→(List (Int×(List Int)))→Norm→Bool→Option ((List Int)×(List (Int×(List Int)))))) (a2:Norm) (a3:Bool) (v35:Int) (r1011:(List Int)) (r3120:(List (Int×(List Int)))):Option (Stp (Int×(List Int)×(List (Int×(List Int)))) (((List Int)×(List (Int×(List Int)))))):=
 cond (decide (v35 < (t26.1.length:Int))) ((kM t26.1 v35).bind fun t37=>
(rec t37 r3120 a2 a3).bind fun t42=>
(app r1011 t42.1).bind fun r1011_2=>
 some (.next (wi (v35+1),r1011_2,t42.2))) (some (.done (r1011,r3120)))
def jU (rec:Int→(List (Int×(List Int)))→Norm→Bool→Option ((List Int)×(List (Int×(List Int))))) (a0:Int) (a1:(List (Int×(List Int)))) (a2:Norm) (a3:Bool):Option ((List Int)×(List (Int×(List Int)))):=
 cond (uQ a1 a0) (some (wW a1 a0 [],a1)) ((xN a2 a0 a3).bind fun t26=>
 cond (!t26.2) (some ([a0],a1)) ((zD (fun (x:Int×(List Int)×(List (Int×(List Int))))=>kF t26 rec a2 a3 x.1 x.2.1 x.2.2) (0,[],a1)).bind fun (y1:(List Int)×(List (Int×(List Int))))=>
 some (y1.1,w6 y1.2 a0 y1.1)))
def yL:Nat→Int→(List (Int×(List Int)))→Norm→Bool→Option ((List Int)×(List (Int×(List Int))))
 | 0=>fun _ _ _ _=>none
 | n+1=>jU (yL n)
def uM (a0:Norm) (a1:Bool):Option (Unit):=
 some ()
def vK (a0:(List Int)):Option ((List Int)):=app [] a0
def j6 (a0:Int) (a1:Int) (a2:(List Span)):Option (Int):=
(yZ a2 a0).bind fun t8=>
(yZ a2 a1).bind fun t11=>
(kZ t8 t11).bind fun t12=>
 some t12
def zQ (a1:Int) (a3:Int→Int→Option (Int)) (v9:Int) (r3000:(List Int)):Option (Stp (Int×(List Int)) (((List Int)))):=
(pv (decide (a1 < v9))).bind fun b21=>
(gM b21 (kM r3000 v9)).bind fun t25=>
(gM b21 (kM r3000 (wi (v9 - 1)))).bind fun t30=>
(gM b21 (a3 t25 t30)).bind fun t32=>
 cond (b21&&(decide (t32 < 0))) ((kM r3000 (wi (v9 - 1))).bind fun t45=>
(kM r3000 v9).bind fun t49=>
(kM r3000 v9).bind fun t51=>
(u3 r3000 v9 t45).bind fun r3000_6x15=>
(kM r3000_6x15 (wi (v9 - 1))).bind fun t52=>
(u3 r3000_6x15 (wi (v9 - 1)) t49).bind fun r3000_6x17=>
 some (.next (wi (v9 - 1),r3000_6x17))) (some (.done r3000))
def zM (a2:Int) (a1:Int) (a3:Int→Int→Option (Int)) (v8:Int) (r3000:(List Int)):Option (Stp (Int×(List Int)) (((List Int)))):=
 cond (decide (v8 < a2)) ((zD (fun (x:Int×(List Int))=>zQ a1 a3 x.1 x.2) (v8,r3000)).bind fun (y2:(List Int))=>
 some (.next (wi (v8+1),y2))) (some (.done r3000))
def yO (a0:(List Int)) (a1:Int) (a2:Int) (a3:Int→Int→Option (Int)):Option ((List Int)):=
(zD (fun (x:Int×(List Int))=>zM a2 a1 a3 x.1 x.2) (wi (a1+1),a0)).bind fun (y1:(List Int))=>
 some y1
def yC (a3:Int) (a2:Int) (a1:Int) (v10:Int) (r3000:(List Int)):Option (Stp (Int×(List Int)) (((List Int)))):=
 cond (decide (v10 < a3)) ((kM r3000 (wi (a2+v10))).bind fun t28=>
(kM r3000 (wi (a1+v10))).bind fun t34=>
(kM r3000 (wi (a1+v10))).bind fun t36=>
(u3 r3000 (wi (a1+v10)) t28).bind fun r3000_3x21=>
(kM r3000_3x21 (wi (a2+v10))).bind fun t37=>
(u3 r3000_3x21 (wi (a2+v10)) t34).bind fun r3000_3x23=>
 some (.next (wi (v10+1),r3000_3x23))) (some (.done r3000))
def yP (a0:(List Int)) (a1:Int) (a2:Int) (a3:Int) (a4:Int→Int→Option (Int)):Option ((List Int)):=
(zD (fun (x:Int×(List Int))=>yC a3 a2 a1 x.1 x.2) (0,a0)).bind fun (y1:(List Int))=>
 some y1
def z4 (a2:Int) (a4:Int→Int→Option (Int)) (v10:Int) (v11:Int) (r3000:(List Int)):Option (Stp (Int×Int×(List Int)) ((Int×(List Int)))):=
 cond (!decide (v10=v11)) ((cond (decide (v11 < v10)) ((yP r3000 (wi (a2 - v10)) a2 v11 a4).bind fun t31=>
 some (wi (v10 - v11),v11,t31)) ((yP r3000 (wi (a2 - v10)) (wi ((wi (a2+v11)) - v10)) v10 a4).bind fun t46=>
 some (v10,wi (v11 - v10),t46))).bind fun (y2:Int×Int×(List Int))=>
 some (.next (y2.1,y2.2.1,y2.2.2))) (some (.done (v10,r3000)))
def k7 (a0:(List Int)) (a1:Int) (a2:Int) (a3:Int) (a4:Int→Int→Option (Int)):Option ((List Int)):=
(zD (fun (x:Int×Int×(List Int))=>z4 a2 a4 x.1 x.2.1 x.2.2) (wi (a2 - a1),wi (a3 - a2),a0)).bind fun (y1:Int×(List Int))=>
(yP y1.2 (wi (a2 - y1.1)) a2 y1.1 a4).bind fun t57=>
 some t57
def yD (a0:(List Int)) (a1:Int) (a4:Int→Int→Option (Int)) (v10:Int) (v11:Int):Option (Stp (Int×Int) ((Int))):=
 cond (decide (v10 < v11)) (((kM a0 (wi ((wu (wi (v10+v11))) / 2 ^ 1))).bind fun t43=>
(kM a0 a1).bind fun t47=>
(a4 t43 t47).bind fun t49=>
 cond (decide (t49 < 0)) (some (wi ((wi ((wu (wi (v10+v11))) / 2 ^ 1))+1),v11)) (some (v10,wi ((wu (wi (v10+v11))) / 2 ^ 1)))).bind fun (y2:Int×Int)=>
 some (.next (y2.1,y2.2))) (some (.done v10))
def yE (y1:Int) (v13:Int) (r3000:(List Int)):Option (Stp (Int×(List Int)) (((List Int)))):=
 cond (decide (v13 < (wi (y1 - 1)))) ((kM r3000 (wi (v13+1))).bind fun t69=>
(kM r3000 v13).bind fun t73=>
(kM r3000 v13).bind fun t75=>
(u3 r3000 v13 t69).bind fun r3000_11x15=>
(kM r3000_11x15 (wi (v13+1))).bind fun t76=>
(u3 r3000_11x15 (wi (v13+1)) t73).bind fun r3000_11x17=>
 some (.next (wi (v13+1),r3000_11x17))) (some (.done r3000))
def yF (a0:(List Int)) (a2:Int) (a4:Int→Int→Option (Int)) (v14:Int) (v15:Int):Option (Stp (Int×Int) ((Int))):=
 cond (decide (v14 < v15)) (((kM a0 a2).bind fun t95=>
(kM a0 (wi ((wu (wi (v14+v15))) / 2 ^ 1))).bind fun t99=>
(a4 t95 t99).bind fun t101=>
 cond (!(decide (t101 < 0))) (some (wi ((wi ((wu (wi (v14+v15))) / 2 ^ 1))+1),v15)) (some (v14,wi ((wu (wi (v14+v15))) / 2 ^ 1)))).bind fun (y5:Int×Int)=>
 some (.next (y5.1,y5.2))) (some (.done v14))
def yG (y4:Int) (v17:Int) (r3000:(List Int)):Option (Stp (Int×(List Int)) (((List Int)))):=
 cond (decide (y4 < v17)) ((kM r3000 (wi (v17 - 1))).bind fun t121=>
(kM r3000 v17).bind fun t125=>
(kM r3000 v17).bind fun t127=>
(u3 r3000 v17 t121).bind fun r3000_23x15=>
(kM r3000_23x15 (wi (v17 - 1))).bind fun t128=>
(u3 r3000_23x15 (wi (v17 - 1)) t125).bind fun r3000_23x17=>
 some (.next (wi (v17 - 1),r3000_23x17))) (some (.done r3000))
def yH (a0:(List Int)) (a1:Int) (a3:Int) (a2:Int) (a4:Int→Int→Option (Int)) (v20:Int) (v21:Int):Option (Stp (Int×Int) ((Int))):=
 cond (decide (v20 < v21)) (((kM a0 (wi ((wi ((wi ((wi ((wu (wi (a1+a3))) / 2 ^ 1))+a2)) - 1)) - (wi ((wu (wi (v20+v21))) / 2 ^ 1))))).bind fun t163=>
(kM a0 (wi ((wu (wi (v20+v21))) / 2 ^ 1))).bind fun t167=>
(a4 t163 t167).bind fun t169=>
 cond (!(decide (t169 < 0))) (some (wi ((wi ((wu (wi (v20+v21))) / 2 ^ 1))+1),v21)) (some (v20,wi ((wu (wi (v20+v21))) / 2 ^ 1)))).bind fun (y9:Int×Int)=>
 some (.next (y9.1,y9.2))) (some (.done v20))
def z2 (rec:((List Int))→(Int)→(Int)→(Int)→(Int→Int→Option (Int))→Option ((List Int))) (a0:(List Int)) (a1:Int) (a2:Int) (a3:Int) (a4:Int→Int→Option (Int)):Option ((List Int)):=
 cond (decide ((wi (a2 - a1))=1)) ((zD (fun (x:Int×Int)=>yD a0 a1 a4 x.1 x.2) (a2,a3)).bind fun (y1:Int)=>
(zD (fun (x:Int×(List Int))=>yE y1 x.1 x.2) (a1,a0)).bind fun (y3:(List Int))=>
 some y3) (cond (decide ((wi (a3 - a2))=1)) ((zD (fun (x:Int×Int)=>yF a0 a2 a4 x.1 x.2) (a1,a2)).bind fun (y4:Int)=>
(zD (fun (x:Int×(List Int))=>yG y4 x.1 x.2) (a2,a0)).bind fun (y6:(List Int))=>
 some y6) ((cond (decide ((wi ((wu (wi (a1+a3))) / 2 ^ 1)) < a2)) (some (wi ((wi ((wi ((wu (wi (a1+a3))) / 2 ^ 1))+a2)) - a3),wi ((wu (wi (a1+a3))) / 2 ^ 1))) (some (a1,a2))).bind fun (y7:Int×Int)=>
(zD (fun (x:Int×Int)=>yH a0 a1 a3 a2 a4 x.1 x.2) (y7.1,y7.2)).bind fun (y8:Int)=>
(pv (decide (y8 < a2))).bind fun b181=>
(cond (b181&&(decide (a2 < (wi ((wi ((wi ((wu (wi (a1+a3))) / 2 ^ 1))+a2)) - y8))))) ((k7 a0 y8 a2 (wi ((wi ((wi ((wu (wi (a1+a3))) / 2 ^ 1))+a2)) - y8)) a4).bind fun t191=>
 some t191) (some a0)).bind fun (y10:(List Int))=>
(pv (decide (a1 < y8))).bind fun b195=>
(cond (b195&&(decide (y8 < (wi ((wu (wi (a1+a3))) / 2 ^ 1))))) ((rec y10 a1 y8 (wi ((wu (wi (a1+a3))) / 2 ^ 1)) a4).bind fun t205=>
 some t205) (some y10)).bind fun (y11:(List Int))=>
(pv (decide ((wi ((wu (wi (a1+a3))) / 2 ^ 1)) < (wi ((wi ((wi ((wu (wi (a1+a3))) / 2 ^ 1))+a2)) - y8))))).bind fun b209=>
 cond (b209&&(decide ((wi ((wi ((wi ((wu (wi (a1+a3))) / 2 ^ 1))+a2)) - y8)) < a3))) ((rec y11 (wi ((wu (wi (a1+a3))) / 2 ^ 1)) (wi ((wi ((wi ((wu (wi (a1+a3))) / 2 ^ 1))+a2)) - y8)) a3 a4).bind fun t219=>
 some t219) (some y11)))
def yJ:Nat→((List Int))→(Int)→(Int)→(Int)→(Int→Int→Option (Int))→Option ((List Int))
 | 0=>fun _ _ _ _ _=>none
 | n+1=>z2 (yJ n)
def zY (a1:Int) (a2:Int→Int→Option (Int)) (v7:Int) (v8:Int) (r3000:(List Int)):Option (Stp (Int×Int×(List Int)) ((Int×(List Int)))):=
 cond (decide (v8≤a1)) ((yO r3000 v7 v8 a2).bind fun t18=>
 some (.next (v8,wi (v8+20),t18))) (some (.done (v7,r3000)))
def zZ (a1:Int) (v6:Int) (a2:Int→Int→Option (Int)) (v7:Int) (v8:Int) (r3000:(List Int)):Option (Stp (Int×Int×(List Int)) ((Int×(List Int)))):=
 cond (decide (v8≤a1)) ((yJ 60 r3000 v7 (wi (v7+v6)) v8 a2).bind fun t43=>
 some (.next (v8,wi (v8+(wi (2*v6))),t43))) (some (.done (v7,r3000)))
def z5 (a1:Int) (a2:Int→Int→Option (Int)) (v6:Int) (r3000:(List Int)):Option (Stp (Int×(List Int)) (((List Int)))):=
 cond (decide (v6 < a1)) ((zD (fun (x:Int×Int×(List Int))=>zZ a1 v6 a2 x.1 x.2.1 x.2.2) (0,wi (2*v6),r3000)).bind fun (y3:Int×(List Int))=>
(cond (decide ((wi (y3.1+v6)) < a1)) ((yJ 60 y3.2 y3.1 (wi (y3.1+v6)) a1 a2).bind fun t60=>
 some t60) (some y3.2)).bind fun (y4:(List Int))=>
 some (.next (wi (v6*2),y4))) (some (.done r3000))
def xJ (a0:(List Int)) (a1:Int) (a2:Int→Int→Option (Int)):Option ((List Int)):=
(zD (fun (x:Int×Int×(List Int))=>zY a1 a2 x.1 x.2.1 x.2.2) (0,20,a0)).bind fun (y1:Int×(List Int))=>
(yO y1.2 y1.1 a1 a2).bind fun t27=>
(zD (fun (x:Int×(List Int))=>z5 a1 a2 x.1 x.2) (20,t27)).bind fun (y2:(List Int))=>
 some y2
def yU (a0:(List Int)) (a1:Int→Int→Option (Int)):Option ((List Int)):=
(xJ a0 (a0.length:Int) a1).bind fun t8=>
 some t8
def vS (a0:List Span) (a1:List Int):Option (List Int):=(w9 a0).bind fun t8=>(vK a1).bind fun t10=>(vA (jC (fun c=>yZ t8 c==some 0) a1 0 (-1)) a1 t8).bind fun _=>wO (fun p=>yU p (fun x0 x1=>j6 x0 x1 t8)) Range.Lo Range.Hi t10 (jC (fun c=>yZ t8 c==some 0) a1 0 (-1))
def jB (a1:(List Int)) (t12:Norm) (a2:Bool) (v18:Int) (r1008:(List Int)) (r3515:(List (Int×(List Int)))):Option (Stp (Int×(List Int)×(List (Int×(List Int)))) (((List Int)))):=
 cond (decide (v18 < (a1.length:Int))) ((kM a1 v18).bind fun t20=>
(yL 100 t20 r3515 ({Classes:=t12.Classes,Decomp:=t12.Decomp,Excluded:=({Ranges:=t12.Excluded.Ranges}:Set)}:Norm) a2).bind fun t25=>
(app r1008 t25.1).bind fun r1008_2=>
 some (.next (wi (v18+1),r1008_2,t25.2))) (some (.done r1008))
def jV (a0:Norm) (a1:(List Int)) (a2:Bool):Option ((List Int)):=
(wK ({Classes:=a0.Classes,Decomp:=a0.Decomp,Excluded:=({Ranges:=a0.Excluded.Ranges}:Set)}:Norm)).bind fun t12=>
(uM ({Classes:=t12.Classes,Decomp:=t12.Decomp,Excluded:=({Ranges:=t12.Excluded.Ranges}:Set)}:Norm) a2).bind fun t15=>
(zD (fun (x:Int×(List Int)×(List (Int×(List Int))))=>jB a1 t12 a2 x.1 x.2.1 x.2.2) (0,[],[])).bind fun (y1:(List Int))=>
(vS t12.Classes y1).bind fun t31=>
 some t31
def kT (a0:Colltable_table) (a1:(List Int)):Option ((List Element)×Bool):=
(pv (decide ((a1.length:Int)=0))).bind fun b11=>
 cond (b11 ||(decide (a0.longest < (a1.length:Int)))) (some ([],false)) ((uS a1).bind fun t26=>
 some (wW a0.entries t26 [],uQ a0.entries t26))
def k8 (a0:Colltable_table) (a1:Int):Option ((List Element)):=
(xY a1).bind fun t6=>
 cond (!t6) (some []) ((zPK wi a1 32768).bind fun t14=>
(zLR a1 32768).bind fun t28=>
 some [({Primary:=wi (a0.c.Base+t14),Secondary:=a0.c.Second,Tertiary:=a0.c.Third,Variable:=false}:Element),({Primary:=wi (32768+t28),Secondary:=0,Tertiary:=0,Variable:=false}:Element)])
def jR (a0:Int) (a1:Colltable_table) (a2:Int):Option (Bool):=
(kM a1.classes a0).bind fun t10=>
 some (decide (a2≤t10.Hi))
def uE (a1:Int→Option (Bool)) (v5:Int) (v6:Int):Option (Stp (Int×Int) ((Int))):=
 cond (decide (v5 < v6)) (((a1 (wi ((wu (wi (v5+v6))) / 2 ^ 1))).bind fun t20=>
 cond (!t20) (some (wi ((wi ((wu (wi (v5+v6))) / 2 ^ 1))+1),v6)) (some (v5,wi ((wu (wi (v5+v6))) / 2 ^ 1)))).bind fun (y2:Int×Int)=>
 some (.next (y2.1,y2.2))) (some (.done v5))
def zDI (a0:Int) (a1:Int→Option (Bool)):Option (Int):=
(zD (fun (x:Int×Int)=>uE a1 x.1 x.2) (0,a0)).bind fun (y1:Int)=>
 some y1
def j8 (a0:Colltable_table) (a1:Int):Option (Int):=
(zDI (a0.classes.length:Int) (fun x0=>jR x0 a0 a1)).bind fun t12=>
(pv (decide (t12 < (a0.classes.length:Int)))).bind fun b20=>
(gM b20 (kM a0.classes t12)).bind fun t26=>
 cond (b20&&(decide (t26.Lo≤a1))) ((kM a0.classes t12).bind fun t37=>
 some t37.Value) (some 0)
def kD (a1:(List Int)) (a0:Colltable_table) (v7:Int):Option (Stp (Int) ((Int))):=
 cond (decide (0 < v7)) ((slc a1 0 v7).bind fun t31=>
(kT a0 t31).bind fun t32=>
 cond t32.2 (some (.done v7)) (some (.next (wi (v7 - 1))))) (some (.done v7))
def yI (a0:Colltable_table) (v7:Int) (v10:Int) (v11:Int) (r3001:(List Int)):Option (Stp (Int×Int×Int×(List Int)) ((Int×(List Int)))):=
(pv (decide (v11 < (r3001.length:Int)))).bind fun b50=>
 cond (b50&&(decide (v10 < a0.top))) (((kM r3001 v11).bind fun t62=>
(j8 a0 t62).bind fun t66=>
 cond (decide (t66=0)) (some (.inl (()))) (cond (decide (t66≤v10)) (some (.inr ((v7,v10,r3001)))) ((slc r3001 0 v7).bind fun t77=>
(app t77 [t62]).bind fun r80_4=>
(kT a0 r80_4).bind fun t81=>
 cond (!t81.2) (some (.inr ((v7,t66,r3001)))) ((slc r3001 (wi (v7+1)) (wi (v11+1))).bind fun t92=>
(slc r3001 v7 v11).bind fun t96=>
(kM (cpM r3001 (wi (v7+1)) (wi (v11+1)) v7 v11) v7).bind fun t101=>
(u3 (cpM r3001 (wi (v7+1)) (wi (v11+1)) v7 v11) v7 t62).bind fun r3001_5=>
 some (.inr ((wi (v7+1),v10,r3001_5))))))).bind fun (y3:(Unit)⊕(Int×Int×(List Int)))=>
 y3.elim (fun y3=>some (.done (v7,r3001))) (fun y3=>some (.next (y3.1,y3.2.1,wi (v11+1),y3.2.2)))) (some (.done (v7,r3001)))
def j9 (a0:Colltable_table) (a1:(List Int)):Option (Int×(List Element)×Bool×(List Int)):=
(zD (fun (x:Int)=>kD a1 a0 x) (min a0.longest (a1.length:Int))).bind fun (y1:Int)=>
 cond (decide (y1=0)) ((kM a1 (0:Int)).bind fun t42=>
(k8 a0 t42).bind fun t44=>
 some (1,t44,false,a1)) ((zD (fun (x:Int×Int×Int×(List Int))=>yI a0 x.1 x.2.1 x.2.2.1 x.2.2.2) (y1,0,y1,a1)).bind fun (y2:Int×(List Int))=>
(slc y2.2 0 y2.1).bind fun t108=>
(kT a0 t108).bind fun t109=>
 some (y2.1,t109.1,true,y2.2))
def jA (t16:Colltable_table) (r1008:(List Element)) (r2519:(List Int)):Option (Stp ((List Element)×(List Int)) (((List Element)))):=
 cond (decide (0 < (r2519.length:Int))) ((j9 t16 r2519).bind fun t26=>
(app r1008 t26.2.1).bind fun r1008_2=>
(slc t26.2.2.2 t26.1 (t26.2.2.2.length)).bind fun r2519_3=>
 some (.next (r1008_2,r2519_3))) (some (.done r1008))
def wR (a0:Norm) (a1:Collation) (a2:(List Int)):Option ((List Element)):=
(u9 a1).bind fun t14=>
(xO t14 a0).bind fun t16=>
(jV a0 a2 false).bind fun t19=>
(zD (fun (x:(List Element)×(List Int))=>jA t16 x.1 x.2) ([],t19)).bind fun (y1:(List Element))=>
 some y1
def xZ (a0:Element) (a1:Int) (a2:Bool):Option (A4Int×Bool):=
(cond (!decide (({x0:=({x0:=a0.Primary,x1:=a0.Secondary,x2:=a0.Tertiary,x3:=0}:A4Int).x0,x1:=({x0:=a0.Primary,x1:=a0.Secondary,x2:=a0.Tertiary,x3:=0}:A4Int).x1,x2:=({x0:=a0.Primary,x1:=a0.Secondary,x2:=a0.Tertiary,x3:=0}:A4Int).x2,x3:=({x0:=a0.Primary,x1:=a0.Secondary,x2:=a0.Tertiary,x3:=0}:A4Int).x3}:A4Int)=({x0:=0,x1:=0,x2:=0,x3:=0}:A4Int))) (some 65535) (some (({x0:=a0.Primary,x1:=a0.Secondary,x2:=a0.Tertiary,x3:=0}:A4Int).x3))).bind fun (y1:Int)=>
 cond (decide (a1=1)) (some (({x0:=({x0:=a0.Primary,x1:=a0.Secondary,x2:=a0.Tertiary,x3:=0}:A4Int).x0,x1:=({x0:=a0.Primary,x1:=a0.Secondary,x2:=a0.Tertiary,x3:=0}:A4Int).x1,x2:=({x0:=a0.Primary,x1:=a0.Secondary,x2:=a0.Tertiary,x3:=0}:A4Int).x2,x3:=y1}:A4Int),a2)) ((cond a0.Variable (some (({x0:=0,x1:=0,x2:=0,x3:=a0.Primary}:A4Int).x0,({x0:=0,x1:=0,x2:=0,x3:=a0.Primary}:A4Int).x1,({x0:=0,x1:=0,x2:=0,x3:=a0.Primary}:A4Int).x2,({x0:=0,x1:=0,x2:=0,x3:=a0.Primary}:A4Int).x3,true)) (cond (!decide (a0.Primary=0)) (some (({x0:=a0.Primary,x1:=a0.Secondary,x2:=a0.Tertiary,x3:=0}:A4Int).x0,({x0:=a0.Primary,x1:=a0.Secondary,x2:=a0.Tertiary,x3:=0}:A4Int).x1,({x0:=a0.Primary,x1:=a0.Secondary,x2:=a0.Tertiary,x3:=0}:A4Int).x2,y1,false)) (cond a2 (some (({x0:=0,x1:=0,x2:=0,x3:=0}:A4Int).x0,({x0:=0,x1:=0,x2:=0,x3:=0}:A4Int).x1,({x0:=0,x1:=0,x2:=0,x3:=0}:A4Int).x2,({x0:=0,x1:=0,x2:=0,x3:=0}:A4Int).x3,a2)) (some (({x0:=a0.Primary,x1:=a0.Secondary,x2:=a0.Tertiary,x3:=0}:A4Int).x0,({x0:=a0.Primary,x1:=a0.Secondary,x2:=a0.Tertiary,x3:=0}:A4Int).x1,({x0:=a0.Primary,x1:=a0.Secondary,x2:=a0.Tertiary,x3:=0}:A4Int).x2,y1,a2))))).bind fun (y2:Int×Int×Int×Int×Bool)=>
(cond (decide (a1=2)) (some 0) (some y2.2.2.2.1)).bind fun (y3:Int)=>
 some (({x0:=y2.1,x1:=y2.2.1,x2:=y2.2.2.1,x3:=y3}:A4Int),y2.2.2.2.2))
def uZ (a0:Int):Option (Unit):=
 some ()
def kW (v2:Int) (v3:Int) (r3000:(List Int)):Option (Stp (Int×Int×(List Int)) (((List Int)))):=
 cond (decide (v2 < v3)) ((kM r3000 v3).bind fun t20=>
(kM r3000 v2).bind fun t24=>
(kM r3000 v2).bind fun t26=>
(u3 r3000 v2 t20).bind fun r3000_3x13=>
(kM r3000_3x13 v3).bind fun t27=>
(u3 r3000_3x13 v3 t24).bind fun r3000_3x15=>
 some (.next (wi (v2+1),wi (v3 - 1),r3000_3x15))) (some (.done r3000))
def jJ (a0:(List Int)):Option ((List Int)):=
(zD (fun (x:Int×Int×(List Int))=>kW x.1 x.2.1 x.2.2) (0,wi ((a0.length:Int) - 1),a0)).bind fun (y1:(List Int))=>
 some y1
def kX (t24:A4Int×Bool) (v25:Int) (r4100:(List Int)) (r4101:(List Int)) (r4102:(List Int)) (r4103:(List Int)):Option (Stp (Int×(List Int)×(List Int)×(List Int)×(List Int)) (((List Int)×(List Int)×(List Int)×(List Int)))):=
 cond (decide (v25=0)) (((kM [t24.1.x0,t24.1.x1,t24.1.x2,t24.1.x3] (0:Int)).bind fun t28=>
 cond (!decide (t28=0)) ((app r4100 [t28]).bind fun r4100_4=>
 some r4100_4) (some r4100)).bind fun (y3:(List Int))=>
 some (.next (wi ((0:Int)+1),y3,r4101,r4102,r4103))) (cond (decide (v25=1)) (((kM [t24.1.x0,t24.1.x1,t24.1.x2,t24.1.x3] (1:Int)).bind fun t28=>
 cond (!decide (t28=0)) ((app r4101 [t28]).bind fun r4101_6=>
 some r4101_6) (some r4101)).bind fun (y5:(List Int))=>
 some (.next (wi ((1:Int)+1),r4100,y5,r4102,r4103))) (cond (decide (v25=2)) (((kM [t24.1.x0,t24.1.x1,t24.1.x2,t24.1.x3] (2:Int)).bind fun t28=>
 cond (!decide (t28=0)) ((app r4102 [t28]).bind fun r4102_8=>
 some r4102_8) (some r4102)).bind fun (y7:(List Int))=>
 some (.next (wi ((2:Int)+1),r4100,r4101,y7,r4103))) (cond (decide (v25=3)) (((kM [t24.1.x0,t24.1.x1,t24.1.x2,t24.1.x3] (3:Int)).bind fun t28=>
 cond (!decide (t28=0)) ((app r4103 [t28]).bind fun r4103_10=>
 some r4103_10) (some r4103)).bind fun (y9:(List Int))=>
 some (.next (wi ((3:Int)+1),r4100,r4101,r4102,y9))) (cond (decide (v25=4)) (some (.done (r4100,r4101,r4102,r4103))) (none)))))
def xH (a0:(List Element)) (t12:Options) (v18:Int) (k2515_0:Bool) (r4100:(List Int)) (r4101:(List Int)) (r4102:(List Int)) (r4103:(List Int)):Option (Stp (Int×Bool×(List Int)×(List Int)×(List Int)×(List Int)) (((List Int)×(List Int)×(List Int)×(List Int)))):=
 cond (decide (v18 < (a0.length:Int))) ((kM a0 v18).bind fun t20=>
(xZ t20 t12.Variable k2515_0).bind fun t24=>
(zD (fun (x:Int×(List Int)×(List Int)×(List Int)×(List Int))=>kX t24 x.1 x.2.1 x.2.2.1 x.2.2.2.1 x.2.2.2.2) (0,r4100,r4101,r4102,r4103)).bind fun (y2:(List Int)×(List Int)×(List Int)×(List Int))=>
 some (.next (wi (v18+1),t24.2,y2.1,y2.2.1,y2.2.2.1,y2.2.2.2))) (some (.done (r4100,r4101,r4102,r4103)))
def vC (a0:(List Element)) (a1:Options):Option ((List (List Int))):=
(xS ({Strength:=a1.Strength,Variable:=a1.Variable,Backward:=a1.Backward,Identical:=a1.Identical}:Options)).bind fun t12=>
(uZ t12.Variable).bind fun t15=>
(zD (fun (x:Int×Bool×(List Int)×(List Int)×(List Int)×(List Int))=>xH a0 t12 x.1 x.2.1 x.2.2.1 x.2.2.2.1 x.2.2.2.2.1 x.2.2.2.2.2) (0,false,[],[],[],[])).bind fun (y1:(List Int)×(List Int)×(List Int)×(List Int))=>
(cond t12.Backward ((jJ y1.2.1).bind fun t45=>
 some t45) (some y1.2.1)).bind fun (y11:(List Int))=>
(slc [({x0:=y1.1,x1:=y11,x2:=y1.2.2.1,x3:=y1.2.2.2}:A4ListInt).x0,({x0:=y1.1,x1:=y11,x2:=y1.2.2.1,x3:=y1.2.2.2}:A4ListInt).x1,({x0:=y1.1,x1:=y11,x2:=y1.2.2.1,x3:=y1.2.2.2}:A4ListInt).x2,({x0:=y1.1,x1:=y11,x2:=y1.2.2.1,x3:=y1.2.2.2}:A4ListInt).x3] 0 t12.Strength).bind fun t48=>
(app [] t48).bind fun r49_12=>
 some r49_12
def uF (t21:(List (List Int))) (v23:Int) (r1009:(List Int)):Option (Stp (Int×(List Int)) (((List Int)))):=
 cond (decide (v23 < (t21.length:Int))) ((kM t21 v23).bind fun t26=>
(cond (decide (0 < v23)) ((app r1009 [0]).bind fun r1009_3=>
 some r1009_3) (some r1009)).bind fun (y2:(List Int))=>
(app y2 t26).bind fun r1009_4=>
 some (.next (wi (v23+1),r1009_4))) (some (.done r1009))
def uG (t46:(List Int)) (v48:Int) (r1009:(List Int)):Option (Stp (Int×(List Int)) (((List Int)))):=
 cond (decide (v48 < (t46.length:Int))) (((kM t46 v48).bind fun t50=>
(pv (decide (0≤t50))).bind fun b54=>
 cond (b54&&(decide (t50≤1114111))) ((app r1009 [wi (t50+1)]).bind fun r1009_8=>
 some r1009_8) (some r1009)).bind fun (y7:(List Int))=>
 some (.next (wi (v48+1),y7))) (some (.done r1009))
def zAC (a0:Norm) (a1:Collation) (a2:Options) (a3:(List Int)):Option ((List Int)):=
(xS ({Strength:=a2.Strength,Variable:=a2.Variable,Backward:=a2.Backward,Identical:=a2.Identical}:Options)).bind fun t15=>
(wR a0 a1 a3).bind fun t19=>
(vC t19 ({Strength:=t15.Strength,Variable:=t15.Variable,Backward:=t15.Backward,Identical:=t15.Identical}:Options)).bind fun t21=>
(zD (fun (x:Int×(List Int))=>uF t21 x.1 x.2) (0,[])).bind fun (y1:(List Int))=>
 cond (!t15.Identical) (some y1) ((app y1 [0]).bind fun r1009_5=>
(jV a0 a3 false).bind fun t46=>
(zD (fun (x:Int×(List Int))=>uG t46 x.1 x.2) (0,r1009_5)).bind fun (y6:(List Int))=>
 some y6)
def wL (a0:(List Int)) (a1:(List Int)) (v5:Int):Option (Stp (Int) ((Unit)⊕(Int))):=
(pv (decide (v5 < (a0.length:Int)))).bind fun b10=>
 cond (b10&&(decide (v5 < (a1.length:Int)))) ((kM a0 v5).bind fun t20=>
(kM a1 v5).bind fun t24=>
 cond (decide (t20 < t24)) (some (.done (.inr ((-1))))) ((kM a0 v5).bind fun t29=>
(kM a1 v5).bind fun t33=>
 cond (decide (t33 < t29)) (some (.done (.inr (1)))) (some (.next (wi (v5+1)))))) (some (.done (.inl (()))))
def vT (a0:(List Int)) (a1:(List Int)):Option (Int):=
(zD (fun (x:Int)=>wL a0 a1 x) 0).bind fun (y1:(Unit)⊕(Int))=>
 y1.elim (fun y1=>cond (decide ((a0.length:Int) < (a1.length:Int))) (some (-1)) (cond (decide ((a1.length:Int) < (a0.length:Int))) (some 1) (some 0))) (fun y1=>some y1)
def zAD (a0:(List Int)) (a1:(List Int)):Option (Bool):=
(vT a0 a1).bind fun t7=>
 some (decide (t7=0))
def xP (a0:Norm) (v3:Int):Option (Stp (Int) ((Unit)⊕(Bool))):=
 cond (decide (v3 < (a0.Decomp.length:Int))) ((kM a0.Decomp v3).bind fun t31=>
(pv (decide (70 < (t31.To.length:Int)))).bind fun b36=>
(gM (!b36) (kM a0.Decomp v3)).bind fun t40=>
 cond (b36 ||(decide (40 < (t40.Tag.length:Int)))) (some (.done (.inr (false)))) (some (.next (wi (v3+1))))) (some (.done (.inl (()))))
def zB4 (a0:Norm):Option (Bool):=
(pv (decide (40 < (a0.Classes.length:Int)))).bind fun b8=>
(pv (b8 ||(decide (40 < (a0.Decomp.length:Int))))).bind fun b14=>
 cond (b14 ||(decide (12 < (a0.Excluded.Ranges.length:Int)))) (some false) ((zD (fun (x:Int)=>xP a0 x) 0).bind fun (y1:(Unit)⊕(Bool))=>
 y1.elim (fun y1=>some true) (fun y1=>some y1))
def x9 (a0:(List Element)):Option (Bool):=
 some (decide ((a0.length:Int)≤16))
def vL (a0:Collation) (v3:Int):Option (Stp (Int) ((Unit)⊕(Bool))):=
 cond (decide (v3 < (a0.Entries.length:Int))) ((kM a0.Entries v3).bind fun t25=>
(pv (decide (16 < (t25.Codes.length:Int)))).bind fun b30=>
(gM (!b30) (kM a0.Entries v3)).bind fun t34=>
(gM (!b30) (x9 t34.Elements)).bind fun t37=>
 cond (b30 ||(!t37)) (some (.done (.inr (false)))) (some (.next (wi (v3+1))))) (some (.done (.inl (()))))
def uN (a0:Collation) (v4:Int):Option (Stp (Int) ((Unit)⊕(Bool))):=
 cond (decide (v4 < (a0.Groups.length:Int))) ((kM a0.Groups v4).bind fun t50=>
 cond (decide (40 < (t50.Name.length:Int))) (some (.done (.inr (false)))) (some (.next (wi (v4+1))))) (some (.done (.inl (()))))
def zD5 (a0:Collation):Option (Bool):=
(pv (decide (12 < (a0.Entries.length:Int)))).bind fun b9=>
 cond (b9 ||(decide (8 < (a0.Groups.length:Int)))) (some false) ((zD (fun (x:Int)=>vL a0 x) 0).bind fun (y1:(Unit)⊕(Bool))=>
 y1.elim (fun y1=>(zD (fun (x:Int)=>uN a0 x) 0).bind fun (y2:(Unit)⊕(Bool))=>
 y2.elim (fun y2=>some true) (fun y2=>some y2)) (fun y1=>some y1))
def zB5 (a0:Unicodetextlaw44_Data):Option (Bool):=
(zB4 a0.Norm).bind fun t5=>
(pv t5).bind fun b6=>
(gM b6 (zD5 a0.Collation)).bind fun t9=>
 some (b6&&t9)
def zAL (a0:(List Int)) (v9:Int) (r1003:(List Int)):Option (Stp (Int×(List Int)) (((List Int)))):=
 cond (decide (v9 < (a0.length:Int))) ((kM a0 v9).bind fun t11=>
(app r1003 [(IntKind.u8.wrap) (((IntKind.u32.wrap) t11) / 2 ^ 24),(IntKind.u8.wrap) (((IntKind.u32.wrap) t11) / 2 ^ 16),(IntKind.u8.wrap) (((IntKind.u32.wrap) t11) / 2 ^ 8),(IntKind.u8.wrap) ((IntKind.u32.wrap) t11)]).bind fun r1003_2=>
 some (.next (wi (v9+1),r1003_2))) (some (.done r1003))
def zAZ (a0:(List Int)):Option (Str):=
(zD (fun (x:Int×(List Int))=>zAL a0 x.1 x.2) (0,[])).bind fun (y1:(List Int))=>
 some (z7W y1)
def zA8:Option (Bool):=
(vC [({Primary:=16,Secondary:=32,Tertiary:=2,Variable:=false}:Element),({Primary:=17,Secondary:=32,Tertiary:=2,Variable:=false}:Element)] ({Strength:=2,Variable:=1,Backward:=false,Identical:=false}:Options)).bind fun t10=>
(slc [({Primary:=16,Secondary:=32,Tertiary:=2,Variable:=false}:Element),({Primary:=17,Secondary:=32,Tertiary:=2,Variable:=false}:Element)] 0 1).bind fun t13=>
(slc [({Primary:=16,Secondary:=32,Tertiary:=2,Variable:=false}:Element),({Primary:=17,Secondary:=32,Tertiary:=2,Variable:=false}:Element)] 1 ([({Primary:=16,Secondary:=32,Tertiary:=2,Variable:=false}:Element),({Primary:=17,Secondary:=32,Tertiary:=2,Variable:=false}:Element)].length)).bind fun t17=>
(zAC ({Classes:=[],Decomp:=[],Excluded:=(({Ranges:=[]}):Set)}:Norm) ({Entries:=[({Codes:=[97],Elements:=t13}:Entry),({Codes:=[98],Elements:=t17}:Entry)],Groups:=[],Base:=100,Second:=32,Third:=2}:Collation) ({Strength:=2,Variable:=1,Backward:=false,Identical:=false}:Options) [97,98]).bind fun t25=>
(pv (decide ((t10.length:Int)=2))).bind fun b29=>
(gM b29 (zAD t25 [16,17,0,32,32])).bind fun t32=>
(pv (b29&&t32)).bind fun b34=>
(gM b34 (zAZ [258])).bind fun t36=>
(pv (b34&&(t36== [0,0,1,2]))).bind fun b39=>
(gM b39 (xI ({Strength:=0,Variable:=0,Backward:=false,Identical:=false}:Options))).bind fun t41=>
(pv (b39&&(decide (t41=1)))).bind fun b44=>
(gM b44 (xI ({Strength:=1,Variable:=0,Backward:=false,Identical:=false}:Options))).bind fun t46=>
 some (b44&&(decide (t46=8)))
def jW (a0:Norm) (a1:Collation) (a2:Options) (a3:(List Int)) (a4:Int):Option ((List Int)):=
(zAC a0 a1 ({Strength:=a4,Variable:=a2.Variable,Backward:=a2.Backward,Identical:=false}:Options) a3).bind fun t18=>
 some t18
def vM (a0:(List Int)) (a1:(List Int)):Option (Bool):=
(pv (decide ((a1.length:Int)≤(a0.length:Int)))).bind fun b10=>
(gM b10 (slc a0 0 (a1.length:Int))).bind fun t14=>
(gM b10 (zAD t14 a1)).bind fun t16=>
 some (b10&&t16)
def vN (a0:Unicodetextlaw44_Data) (a1:Unicodetextlaw44_Pair):Option (Bool):=
(zB5 a0).bind fun t11=>
(pv (!t11)).bind fun b13=>
(pv (b13 ||(decide (10 < (a1.A.length:Int))))).bind fun b19=>
(pv (b19 ||(decide (10 < (a1.B.length:Int))))).bind fun b25=>
(pv (b25 ||(decide (a1.Low < 1)))).bind fun b30=>
(pv (b30 ||(decide (4 < a1.High)))).bind fun b35=>
(pv (b35 ||(decide (a1.High < a1.Low)))).bind fun b42=>
(pv (b42 ||(decide (a0.Options.Variable < 1)))).bind fun b48=>
 cond (b48 ||(decide (3 < a0.Options.Variable))) ((zA8).bind fun t54=>
 some t54) ((jW a0.Norm a0.Collation a0.Options a1.A a1.Low).bind fun t65=>
(jW a0.Norm a0.Collation a0.Options a1.B a1.Low).bind fun t76=>
(jW a0.Norm a0.Collation a0.Options a1.A a1.High).bind fun t87=>
(jW a0.Norm a0.Collation a0.Options a1.B a1.High).bind fun t98=>
(vM t87 t65).bind fun t101=>
(pv (!t101)).bind fun b103=>
(gM (!b103) (vM t98 t76)).bind fun t106=>
 cond (b103 ||(!t106)) (some false) ((vT t65 t76).bind fun t111=>
(pv (decide (t111=0))).bind fun b114=>
(gM (!b114) (vM t65 t76)).bind fun t117=>
(pv (b114 ||t117)).bind fun b119=>
(gM (!b119) (vM t76 t65)).bind fun t122=>
(pv (b119 ||t122)).bind fun b124=>
(gM (!b124) (vT t87 t98)).bind fun t127=>
(pv (b124 ||(decide (t127=t111)))).bind fun b131=>
(gM b131 (zA8)).bind fun t132=>
 some (b131&&t132)))
end
end Go.M


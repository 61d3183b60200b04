/- Plain counterparts of the program's functions, printed from its form. Conditions: none. -/
import Derived.Test.YtlcjeomefjmhgaaGreatDoorLa3
set_option linter.unusedSimpArgs false
set_option linter.unusedVariables false
set_option linter.unnecessarySimpa false
namespace Go.M
structure A3Int where
 x0:Int
 x1:Int
 x2:Int
 deriving DecidableEq,Inhabited
structure A4Int where
 x0:Int
 x1:Int
 x2:Int
 x3:Int
 deriving DecidableEq,Inhabited
structure A4ListInt where
 x0:(List Int)
 x1:(List Int)
 x2:(List Int)
 x3:(List Int)
 deriving DecidableEq,Inhabited
structure Range where
 Lo:Int
 Hi:Int
 deriving DecidableEq,Inhabited
structure A4Range where
 x0:Range
 x1:Range
 x2:Range
 x3:Range
 deriving DecidableEq,Inhabited
structure A9Int where
 x0:Int
 x1:Int
 x2:Int
 x3:Int
 x4:Int
 x5:Int
 x6:Int
 x7:Int
 x8:Int
 deriving DecidableEq,Inhabited
structure Element where
 Primary:Int
 Secondary:Int
 Tertiary:Int
 Variable:Bool
 deriving DecidableEq,Inhabited
structure Entry where
 Codes:(List Int)
 Elements:(List Element)
 deriving DecidableEq,Inhabited
structure Group where
 Name:Str
 Lo:Int
 Hi:Int
 deriving DecidableEq,Inhabited
structure Collation where
 Entries:(List Entry)
 Groups:(List Group)
 Base:Int
 Second:Int
 Third:Int
 deriving DecidableEq,Inhabited
structure Span where
 Lo:Int
 Hi:Int
 Value:Int
 deriving DecidableEq,Inhabited
structure Colltable_table where
 c:Collation
 entries:(List (A9Int×(List Element)))
 longest:Int
 classes:(List Span)
 top:Int
 deriving DecidableEq,Inhabited
structure Mapping where
 From:Int
 To:(List Int)
 Tag:Str
 deriving DecidableEq,Inhabited
structure Mapping_key where
 from_:Int
 tag:Str
 deriving DecidableEq,Inhabited
structure Set where
 Ranges:(List Range)
 deriving DecidableEq,Inhabited
structure Norm where
 Classes:(List Span)
 Decomp:(List Mapping)
 Excluded:Set
 deriving DecidableEq,Inhabited
structure Options where
 Strength:Int
 Variable:Int
 Backward:Bool
 Identical:Bool
 deriving DecidableEq,Inhabited
structure Unicodetextlaw44_Data where
 Norm:Norm
 Collation:Collation
 Options:Options
 deriving DecidableEq,Inhabited
def z6Q (x:Range):Prop:=(-9223372036854775808≤x.Lo∧x.Lo≤9223372036854775807)∧(-9223372036854775808≤x.Hi∧x.Hi≤9223372036854775807)
def zW5 (x:Element):Prop:=(-9223372036854775808≤x.Primary∧x.Primary≤9223372036854775807)∧(-9223372036854775808≤x.Secondary∧x.Secondary≤9223372036854775807)∧(-9223372036854775808≤x.Tertiary∧x.Tertiary≤9223372036854775807)∧True
def z6R (x:Entry):Prop:=(x.Codes.length≤9223372036854775807∧∀h∈x.Codes,(-9223372036854775808≤h∧h≤9223372036854775807))∧(x.Elements.length≤9223372036854775807∧∀h∈x.Elements,(zW5 h))
def z6S (x:Group):Prop:=(x.Name.length≤9223372036854775807)∧(-9223372036854775808≤x.Lo∧x.Lo≤9223372036854775807)∧(-9223372036854775808≤x.Hi∧x.Hi≤9223372036854775807)
def zME (x:Collation):Prop:=(x.Entries.length≤9223372036854775807∧∀h∈x.Entries,(z6R h))∧(x.Groups.length≤9223372036854775807∧∀h∈x.Groups,(z6S h))∧(-9223372036854775808≤x.Base∧x.Base≤9223372036854775807)∧(-9223372036854775808≤x.Second∧x.Second≤9223372036854775807)∧(-9223372036854775808≤x.Third∧x.Third≤9223372036854775807)
def okSpan (x:Span):Prop:=(-9223372036854775808≤x.Lo∧x.Lo≤9223372036854775807)∧(-9223372036854775808≤x.Hi∧x.Hi≤9223372036854775807)∧(-9223372036854775808≤x.Value∧x.Value≤9223372036854775807)
def zW6 (x:Mapping):Prop:=(-9223372036854775808≤x.From∧x.From≤9223372036854775807)∧(x.To.length≤9223372036854775807∧∀h∈x.To,(-9223372036854775808≤h∧h≤9223372036854775807))∧(x.Tag.length≤9223372036854775807)
def yJ2 (x:Set):Prop:=(x.Ranges.length≤9223372036854775807∧∀h∈x.Ranges,(z6Q h))
def zC5 (x:Norm):Prop:=(x.Classes.length≤9223372036854775807∧∀h∈x.Classes,(okSpan h))∧(x.Decomp.length≤9223372036854775807∧∀h∈x.Decomp,(zW6 h))∧(yJ2 x.Excluded)
def zW7 (x:Options):Prop:=(-9223372036854775808≤x.Strength∧x.Strength≤9223372036854775807)∧(-9223372036854775808≤x.Variable∧x.Variable≤9223372036854775807)∧True∧True
def zEU (x:Unicodetextlaw44_Data):Prop:=(zC5 x.Norm)∧(zME x.Collation)∧(zW7 x.Options)
end Go.M
namespace Go.AV
open Go.M
def zFU (x:A9Int):Value:= .agg #[.int IntKind.i64 x.x0,.int IntKind.i64 x.x1,.int IntKind.i64 x.x2,.int IntKind.i64 x.x3,.int IntKind.i64 x.x4,.int IntKind.i64 x.x5,.int IntKind.i64 x.x6,.int IntKind.i64 x.x7,.int IntKind.i64 x.x8]
def zHQ (x:Mapping_key):Value:= .agg #[.int IntKind.i64 x.from_,.string ⟨x.tag.toArray⟩]
def eA3Int:En A3Int:=⟨fun x=> .agg [(di x.x0),(di x.x1),(di x.x2)],3,fun _=>rfl⟩
def eA4Int:En A4Int:=⟨fun x=> .agg [(di x.x0),(di x.x1),(di x.x2),(di x.x3)],4,fun _=>rfl⟩
def eRange:En Range:=⟨fun x=> .agg [(di x.Lo),(di x.Hi)],2,fun _=>rfl⟩
def eA4Range:En A4Range:=⟨fun x=> .agg [(di x.x0.Lo),(di x.x0.Hi),(di x.x1.Lo),(di x.x1.Hi),(di x.x2.Lo),(di x.x2.Hi),(di x.x3.Lo),(di x.x3.Hi)],8,fun _=>rfl⟩
def eA9Int:En A9Int:=⟨fun x=> .agg [(di x.x0),(di x.x1),(di x.x2),(di x.x3),(di x.x4),(di x.x5),(di x.x6),(di x.x7),(di x.x8)],9,fun _=>rfl⟩
def eElement:En Element:=⟨fun x=> .agg [(di x.Primary),(di x.Secondary),(di x.Tertiary),(db x.Variable)],4,fun _=>rfl⟩
def eEntry:En Entry:=⟨fun x=> .agg [(zN eI x.Codes),(zN eElement x.Elements)],2,fun _=>rfl⟩
def eGroup:En Group:=⟨fun x=> .agg [(ds x.Name),(di x.Lo),(di x.Hi)],3,fun _=>rfl⟩
def eCollation:En Collation:=⟨fun x=> .agg [(zN eEntry x.Entries),(zN eGroup x.Groups),(di x.Base),(di x.Second),(di x.Third)],5,fun _=>rfl⟩
def eSpan:En Span:=⟨fun x=> .agg [(di x.Lo),(di x.Hi),(di x.Value)],3,fun _=>rfl⟩
def eColltable_table:En Colltable_table:=⟨fun x=> .agg [(zN eEntry x.c.Entries),(zN eGroup x.c.Groups),(di x.c.Base),(di x.c.Second),(di x.c.Third),(mpD zFU (eL eElement) x.entries),(di x.longest),(zN eSpan x.classes),(di x.top)],9,fun _=>rfl⟩
def eMapping:En Mapping:=⟨fun x=> .agg [(di x.From),(zN eI x.To),(ds x.Tag)],3,fun _=>rfl⟩
def eMapping_key:En Mapping_key:=⟨fun x=> .agg [(di x.from_),(ds x.tag)],2,fun _=>rfl⟩
def eSet:En Set:=⟨fun x=> .agg [(zN eRange x.Ranges)],1,fun _=>rfl⟩
def eNorm:En Norm:=⟨fun x=> .agg [(zN eSpan x.Classes),(zN eMapping x.Decomp),(zN eRange x.Excluded.Ranges)],3,fun _=>rfl⟩
def eOptions:En Options:=⟨fun x=> .agg [(di x.Strength),(di x.Variable),(db x.Backward),(db x.Identical)],4,fun _=>rfl⟩
def eUnicodetextlaw44_Data:En Unicodetextlaw44_Data:=⟨fun x=> .agg [(zN eSpan x.Norm.Classes),(zN eMapping x.Norm.Decomp),(zN eRange x.Norm.Excluded.Ranges),(zN eEntry x.Collation.Entries),(zN eGroup x.Collation.Groups),(di x.Collation.Base),(di x.Collation.Second),(di x.Collation.Third),(di x.Options.Strength),(di x.Options.Variable),(db x.Options.Backward),(db x.Options.Identical)],12,fun _=>rfl⟩
end Go.AV
namespace Go.M
open Go.AV
noncomputable section
def vJ (z:Norm) (k:Int):Option (Stp (Int) ((Unit)⊕(Bool))):=
 cond (decide (k<(z.Decomp.length:Int))) ((z7 z.Decomp k).bind fun G=>
(pv (decide (70<(G.To.length:Int)))).bind fun h=>
(gM (!h) (z7 z.Decomp k)).bind fun H=>
 cond (h ||(decide (40<(H.Tag.length:Int)))) (some (.done (.inr (false)))) (some (.next (wi (k+1))))) (some (.done (.inl (()))))
def zGU (h:Norm):Option (Bool):=
(pv (decide (40<(h.Classes.length:Int)))).bind fun b8=>
(pv (b8 ||(decide (40<(h.Decomp.length:Int))))).bind fun z=>
 cond (z ||(decide (12<(h.Excluded.Ranges.length:Int)))) (some false) ((zC (fun (x:Int)=>vJ h x) 0).bind fun (k:(Unit)⊕(Bool))=>
 k.elim (fun k=>some true) (fun k=>some k))
def uM (h:(List Element)):Option (Bool):=
 some (decide ((h.length:Int)≤16))
def zA4 (z:Collation) (k:Int):Option (Stp (Int) ((Unit)⊕(Bool))):=
 cond (decide (k<(z.Entries.length:Int))) ((z7 z.Entries k).bind fun G=>
(pv (decide (16<(G.Codes.length:Int)))).bind fun h=>
(gM (!h) (z7 z.Entries k)).bind fun H=>
(gM (!h) (uM H.Elements)).bind fun O=>
 cond (h ||(!O)) (some (.done (.inr (false)))) (some (.next (wi (k+1))))) (some (.done (.inl (()))))
def zCH (z:Collation) (k:Int):Option (Stp (Int) ((Unit)⊕(Bool))):=
 cond (decide (k<(z.Groups.length:Int))) ((z7 z.Groups k).bind fun h=>
 cond (decide (40<(h.Name.length:Int))) (some (.done (.inr (false)))) (some (.next (wi (k+1))))) (some (.done (.inl (()))))
def zJX (h:Collation):Option (Bool):=
(pv (decide (12<(h.Entries.length:Int)))).bind fun G=>
 cond (G ||(decide (8<(h.Groups.length:Int)))) (some false) ((zC (fun (x:Int)=>zA4 h x) 0).bind fun (k:(Unit)⊕(Bool))=>
 k.elim (fun k=>(zC (fun (x:Int)=>zCH h x) 0).bind fun (z:(Unit)⊕(Bool))=>
 z.elim (fun z=>some true) (fun z=>some z)) (fun k=>some k))
def zGV (h:Unicodetextlaw44_Data):Option (Bool):=
(zGU h.Norm).bind fun z=>
(pv z).bind fun k=>
(gM k (zJX h.Collation)).bind fun G=>
 some (k&&G)
def xV (h:Int):Option (Int):=
(pv (decide (h<1))).bind fun k=>
 cond (k ||(decide (65535<h))) (some 65535) (some h)
def wB (a1:(List Int)) (H:Int) (k:Int):Option (Stp (Int) ((Int))):=
(pv (decide (k<(a1.length:Int)))).bind fun h=>
(gM h (z7 a1 k)).bind fun z=>
(gM h (z7 a1 H)).bind fun G=>
 cond (h&&(decide (z=G))) (some (.next (wi (k+1)))) (some (.done k))
def wC (a1:(List Int)) (items:(List (Int×Int))) (k:Bool) (z:Int) (h:Nat):Option (Stp (Int×Nat) ((Nat)⊕(Nat))):=
 cond (decide (z<(a1.length:Int))) ((zC (fun (x:Int)=>wB a1 z x) (wi (z+1))).bind fun (H:Int)=>
(z7 a1 z).bind fun G=>
(yM items h (G,wi (H-z))).bind fun O=>
 cond (!(goB k items.length h)) (some (.done (.inr (h+1)))) (some (.next (H,h+1)))) (some (.done (.inl (h))))
def zBQ (items:List (Int×Int)) (h:Bool) (a1:(List Int)):Option Unit:=
(zC (fun (x:Int×Nat)=>wC a1 items h x.1 x.2) (0,0)).bind fun (k:(Nat)⊕(Nat))=>
 k.elim (fun k=>zVG items k) (fun k=>zVG items k)
def jW (h:List Int) (a1:Int):Option (List Int):=yLR h a1
def zAS (O:(List Int)) (h:Int) (k:(List Int)):Option (Stp (Int×(List Int)) (((List Int)))):=
 cond (decide (h<(O.length:Int))) (((z7 O h).bind fun G=>
(pv (decide (0≤G))).bind fun H=>
 cond (H&&(decide (G≤65535))) ((z7 k h).bind fun T=>
(uQ k h G).bind fun z=>
 some z) (some k)).bind fun (Y:(List Int))=>
 some (.next (wi (h+1),Y))) (some (.done k))
def wJ (G:Int) (y1:(List Int)) (h:Int) (O:(List Int)) (H:Int×Int):Option (Bool×(Int×(List Int))):=
((cond (decide (G<H.1)) (some (wi (H.1+14))) (some H.1)).bind fun (y6:Int)=>
 cond (!decide (y6=G)) ((jW [y6] H.2).bind fun ab=>
(app O ab).bind fun T=>
 some (wi (h+H.2),T)) ((zIX wi H.2 8).bind fun ac=>
(jW [wi ((wi (G+8))-1)] ac).bind fun ad=>
(app O ad).bind fun k=>
(zD3 H.2 8).bind fun Z=>
 cond (!decide (Z=0)) ((pv (decide ((wi (h+H.2))=(y1.length:Int)))).bind fun aa=>
(gM (!aa) (z7 y1 (wi (h+H.2)))).bind fun ag=>
 cond (aa ||(decide (ag<G))) ((app k [wi ((wi (G+Z))-1)]).bind fun Y=>
 some (wi (h+H.2),Y)) ((app k [wi ((wi ((wi (G+16))-1))-Z)]).bind fun z=>
 some (wi (h+H.2),z))) (some (wi (h+H.2),k)))).bind fun (y5:Int×(List Int))=>
 some (true,(y5.1,y5.2))
def jY (H:(List Int)) (a1:Int):Option ((List Int)):=
(xV a1).bind fun G=>
(mkM 0 (H.length:Int)).bind fun z=>
(zC (fun (x:Int×(List Int))=>zAS H x.1 x.2) (0,z)).bind fun (h:(List Int))=>
(zO4 (fun (s:Int×(List Int)) (x:Int×Int)=>wJ G h s.1 s.2 x) (0,[]) (zA3 h)).bind fun (k:Nat×Bool×(Int×(List Int)))=>
(zBQ ((zA3 h).take k.1) (!k.2.1) h).bind fun O=>
 cond k.2.1 (some k.2.2.2) (none)
def zIC (h:Int) (a1:Int):Option (Int×Int×Bool):=
(pv (decide (h<0))).bind fun k=>
 cond (k ||(decide (65549<h))) (some (0,0,false)) (cond (decide (h<a1)) (some (h,1,true)) (cond (decide (h<(wi (a1+8)))) (some (a1,wi ((wi (h-a1))+1),true)) (cond (decide (h≤(wi (a1+14)))) (some (a1,wi ((wi ((wi (a1+16))-1))-h),true)) (some (wi (h-14),1,true)))))
def zD6 (h:Int):Option (Bool):=
 some (!decide (h=h))
def jP (k:Int) (a1:Int):Option (Int):=
(zD6 k).bind fun z=>
(zD6 a1).bind fun h=>
 cond z (cond h (some 0) (some (-1))) (cond h (some 1) (cond (decide (k<a1)) (some (-1)) (cond (decide (a1<k)) (some 1) (some 0))))
def xW (k:(List Int)) (a1:(List Int)) (h:Int):Option (Stp (Int) ((Unit)⊕(Int))):=
 cond (decide (h<(min (k.length:Int) (a1.length:Int)))) ((z7 k h).bind fun z=>
(z7 a1 h).bind fun G=>
 cond (!decide (z=G)) ((z7 k h).bind fun H=>
(z7 a1 h).bind fun O=>
(jP H O).bind fun T=>
 some (.done (.inr (T)))) (some (.next (wi (h+1))))) (some (.done (.inl (()))))
def vY (z:(List Int)) (a1:(List Int)):Option (Int):=
(zC (fun (x:Int)=>xW z a1 x) 0).bind fun (h:(Unit)⊕(Int))=>
 h.elim (fun h=>(jP (z.length:Int) (a1.length:Int)).bind fun k=>
 some k) (fun h=>some h)
def zCQ (h:(List Int)) (a1:(List Int)):Option (Bool):=
(vY h a1).bind fun k=>
 some (decide (k=0))
def zE7 (Y:(List Int)) (H:Int) (G:Int) (h:(List Int)):Option (Stp (Int×(List Int)) (((List Int))⊕(Int×(List Int)))):=
 cond (decide (G<(Y.length:Int))) ((z7 Y G).bind fun O=>
(zIC O H).bind fun z=>
 cond (!z.2.2) (some (.done (.inr ((11,[]))))) ((jW [z.1] z.2.1).bind fun T=>
(app h T).bind fun k=>
 some (.next (wi (G+1),k)))) (some (.done (.inl (h))))
def vK (H:(List Int)) (a1:Int):Option ((List Int)×Int):=
(xV a1).bind fun k=>
(zC (fun (x:Int×(List Int))=>zE7 H k x.1 x.2) (0,[])).bind fun (h:((List Int))⊕(Int×(List Int)))=>
 h.elim (fun h=>(jY h k).bind fun z=>
(zCQ z H).bind fun G=>
 cond (!G) (some ([],11)) (some (h,0))) (fun h=>some (h.2,h.1))
def uX (k:(List Int)) (a1:(List Int)) (h:Int):Option (Stp (Int) ((Unit)⊕(Int))):=
(pv (decide (h<(k.length:Int)))).bind fun z=>
 cond (z&&(decide (h<(a1.length:Int)))) ((z7 k h).bind fun G=>
(z7 a1 h).bind fun H=>
 cond (decide (G<H)) (some (.done (.inr ((-1))))) ((z7 k h).bind fun O=>
(z7 a1 h).bind fun T=>
 cond (decide (T<O)) (some (.done (.inr (1)))) (some (.next (wi (h+1)))))) (some (.done (.inl (()))))
def uS (k:(List Int)) (a1:(List Int)):Option (Int):=
(zC (fun (x:Int)=>uX k a1 x) 0).bind fun (h:(Unit)⊕(Int))=>
 h.elim (fun h=>cond (decide ((k.length:Int)<(a1.length:Int))) (some (-1)) (cond (decide ((a1.length:Int)<(k.length:Int))) (some 1) (some 0))) (fun h=>some h)
def uT (h:(List Int)) (a1:(List Int)):Option (Bool):=
(uS h a1).bind fun k=>
 some (decide (k=0))
def vL (a1:(List Int)) (G:Int) (h:(List Int)):Option (Stp (Int×(List Int)) (((List Int)))):=
 cond (decide (G<(a1.length:Int))) ((z7 a1 G).bind fun z=>
(app h [(IntKind.u8.wrap) z]).bind fun k=>
 some (.next (wi (G+1),k))) (some (.done h))
def kW (h:(List Int)) (a1:(List Int)):Option ((List Int)):=
(zC (fun (x:Int×(List Int))=>vL a1 x.1 x.2) (0,h)).bind fun (k:(List Int))=>
 some k
def xL (a0:(List Int)) (v8:Int) (h:(List Int)):Option (Stp (Int×(List Int)) (((List Int)))):=
 cond (decide (v8<(a0.length:Int))) (((z7 a0 v8).bind fun k=>
((pv (decide (k<0))).bind fun z=>
 cond (z ||(decide (16777216≤k))) ((kW h [0]).bind fun T=>
 some T) (cond (decide (k<64)) ((kW h [k]).bind fun Y=>
 some Y) (cond (decide (k<16384)) ((zIX wi k 256).bind fun Z=>
(zD3 k 256).bind fun aa=>
(kW h [wi (64+Z),aa]).bind fun ab=>
 some ab) ((zD3 (k/2 ^ 8) 256).bind fun G=>
(zD3 k 256).bind fun H=>
(kW h [128,k/2 ^ 16,G,H]).bind fun O=>
 some O)))).bind fun (y3:(List Int))=>
 some y3).bind fun (y2:(List Int))=>
 some (.next (wi (v8+1),y2))) (some (.done h))
def vM (h:(List Int)):Option (Str):=
(zC (fun (x:Int×(List Int))=>xL h x.1 x.2) (0,[])).bind fun (k:(List Int))=>
 some (yN3 k)
def zD7 (h:(List Int)) (a1:Int):Option (Int):=
(jY h a1).bind fun k=>
(vM k).bind fun z=>
 some (z.length:Int)
def zEV:Option (Bool):=
(jY [32,32,32,33] 32).bind fun t7=>
(vK [34] 32).bind fun G=>
(vK [44] 32).bind fun T=>
(uT t7 [44,47]).bind fun Y=>
(pv Y).bind fun h=>
(gM h (uT G.1 [32,32,32])).bind fun Z=>
(pv (h&&Z)).bind fun H=>
(pv (H&&(decide (G.2=0)))).bind fun O=>
(pv (O&&(decide (T.2=11)))).bind fun k=>
(gM k (vM [63,64,16384])).bind fun aa=>
(pv (k&&(aa== [63,64,64,128,0,64,0]))).bind fun z=>
(gM z (zD7 [32,32,32,33] 32)).bind fun ab=>
 some (z&&(decide (ab=2)))
def zAF (h:Int):Option (Bool):=
(pv (decide (1≤h))).bind fun k=>
 some (k&&(decide (h≤65535)))
def xI (Z:Str) (Y:Int):Option (Stp (Int) ((Unit)⊕(Bool))):=
 cond (decide (Y<(Z.length:Int))) ((z03 Z Y).bind fun h=>
(pv (decide (65≤h))).bind fun k=>
(pv (k&&(decide (h≤90)))).bind fun z=>
(pv (decide (97≤h))).bind fun G=>
(pv (z ||(G&&(decide (h≤122))))).bind fun H=>
(pv (decide (48≤h))).bind fun O=>
(pv (H ||(O&&(decide (h≤57))))).bind fun T=>
 cond (!(T ||(decide (h=95)))) (some (.done (.inr (false)))) (some (.next (wi (Y+1))))) (some (.done (.inl (()))))
def zBR (k:Str):Option (Bool):=
(zC (fun (x:Int)=>xI k x) 0).bind fun (h:(Unit)⊕(Bool))=>
 h.elim (fun h=>(pv (!(k== []))).bind fun z=>
 some (z&&(decide ((k.length:Int)≤32)))) (fun h=>some h)
def jR (G:Collation) (h:Int):Option (Stp (Int) ((Unit)⊕(Int))):=
 cond (decide (h<(G.Groups.length:Int))) ((z7 G.Groups h).bind fun k=>
(zBR k.Name).bind fun z=>
 cond (!z) (some (.done (.inr (6)))) (some (.next (wi (h+1))))) (some (.done (.inl (()))))
def jC (G:Collation) (h:Int) (k:(List (Str×Bool))):Option (Stp (Int×(List (Str×Bool))) ((Unit)⊕(Int))):=
 cond (decide (h<(G.Groups.length:Int))) ((z7 G.Groups h).bind fun z=>
 cond (zAN k z.Name false) (some (.done (.inr (5)))) (some (.next (wi (h+1),zAQ k z.Name true)))) (some (.done (.inl (()))))
def jS (z:Collation) (k:Int):Option (Stp (Int) ((Unit)⊕(Int))):=
 cond (decide (k<(z.Groups.length:Int))) ((z7 z.Groups k).bind fun h=>
(pv (decide (h.Lo<1))).bind fun G=>
(pv (G ||(decide (h.Hi<h.Lo)))).bind fun H=>
 cond (H ||(decide (z.Base≤h.Hi))) (some (.done (.inr (1)))) (some (.next (wi (k+1))))) (some (.done (.inl (()))))
def jT (z:Collation) (h:Int):Option (Stp (Int) ((Unit)⊕(Int))):=
 cond (decide (h<(z.Groups.length:Int))) ((z7 z.Groups h).bind fun G=>
(pv (decide (0<h))).bind fun k=>
(gM k (z7 z.Groups (wi (h-1)))).bind fun H=>
 cond (k&&(!decide (G.Lo=(wi (H.Hi+1))))) (some (.done (.inr (4)))) (some (.next (wi (h+1))))) (some (.done (.inl (()))))
def wN (h:Collation):Option (Int):=
(zC (fun (x:Int)=>jR h x) 0).bind fun (k:(Unit)⊕(Int))=>
 k.elim (fun k=>(zC (fun (x:Int×(List (Str×Bool)))=>jC h x.1 x.2) (0,[])).bind fun (z:(Unit)⊕(Int))=>
 z.elim (fun z=>(zC (fun (x:Int)=>jS h x) 0).bind fun (G:(Unit)⊕(Int))=>
 G.elim (fun G=>(zC (fun (x:Int)=>jT h x) 0).bind fun (H:(Unit)⊕(Int))=>
 H.elim (fun H=>some 0) (fun H=>some H)) (fun G=>some G)) (fun z=>some z)) (fun k=>some k)
def uH (h:Int):Option (Bool):=
(pv (decide (0≤h))).bind fun k=>
 some (k&&(decide (h≤1114111)))
def uY (h:Element) (k:Int):Option (Stp (Int) ((Unit)⊕(Int))):=
 cond (decide (k<3)) ((z7 [({x0:=h.Primary,x1:=h.Secondary,x2:=h.Tertiary}:A3Int).x0,({x0:=h.Primary,x1:=h.Secondary,x2:=h.Tertiary}:A3Int).x1,({x0:=h.Primary,x1:=h.Secondary,x2:=h.Tertiary}:A3Int).x2] k).bind fun z=>
(pv (decide (z<0))).bind fun G=>
 cond (G ||(decide (65535<z))) (some (.done (.inr (1)))) (some (.next (wi (k+1))))) (some (.done (.inl (()))))
def zD8 (h:Element):Option (Int):=
(zC (fun (x:Int)=>uY h x) 0).bind fun (k:(Unit)⊕(Int))=>
 k.elim (fun k=>(pv (!decide (h.Primary=0))).bind fun z=>
(pv (decide (h.Secondary=0))).bind fun G=>
 cond (z&&(G ||(decide (h.Tertiary=0)))) (some 11) ((pv (!decide (h.Secondary=0))).bind fun H=>
 cond (H&&(decide (h.Tertiary=0))) (some 11) ((pv h.Variable).bind fun O=>
 cond (O&&(decide (h.Primary=0))) (some 11) (some 0)))) (fun k=>some k)
def jF (G:Entry) (h:Int):Option (Stp (Int) ((Unit)⊕(Int))):=
 cond (decide (h<(G.Codes.length:Int))) ((z7 G.Codes h).bind fun k=>
(uH k).bind fun z=>
 cond (!z) (some (.done (.inr (1)))) (some (.next (wi (h+1))))) (some (.done (.inl (()))))
def j8 (G:Entry) (h:Int):Option (Stp (Int) ((Unit)⊕(Int))):=
 cond (decide (h<(G.Elements.length:Int))) ((z7 G.Elements h).bind fun z=>
(zD8 z).bind fun k=>
 cond (!decide (k=0)) (some (.done (.inr (k)))) (some (.next (wi (h+1))))) (some (.done (.inl (()))))
def jG (z:Entry) (a1:Int) (h:Int):Option (Stp (Int) ((Unit)⊕(Int))):=
 cond (decide (h<(z.Elements.length:Int))) ((z7 z.Elements h).bind fun k=>
 cond (decide (a1≤k.Primary)) (some (.done (.inr (1)))) (some (.next (wi (h+1))))) (some (.done (.inl (()))))
def vN (h:Entry) (a1:Int):Option (Int):=
(pv (decide ((h.Codes.length:Int)<1))).bind fun H=>
(pv (H ||(decide (8<(h.Codes.length:Int))))).bind fun O=>
 cond (O ||(decide (16<(h.Elements.length:Int)))) (some 2) ((zC (fun (x:Int)=>jF h x) 0).bind fun (k:(Unit)⊕(Int))=>
 k.elim (fun k=>(zC (fun (x:Int)=>j8 h x) 0).bind fun (z:(Unit)⊕(Int))=>
 z.elim (fun z=>(zC (fun (x:Int)=>jG h a1 x) 0).bind fun (G:(Unit)⊕(Int))=>
 G.elim (fun G=>some 0) (fun G=>some G)) (fun z=>some z)) (fun k=>some k))
def wS (H:Collation) (h:Int):Option (Stp (Int) ((Unit)⊕(Int))):=
 cond (decide (h<(H.Entries.length:Int))) ((z7 H.Entries h).bind fun z=>
(vN z H.Base).bind fun G=>
 cond (!decide (G=0)) (some (.done (.inr (G)))) ((pv (decide (0<h))).bind fun k=>
(gM k (z7 H.Entries (wi (h-1)))).bind fun O=>
(gM k (vY O.Codes z.Codes)).bind fun T=>
 cond (k&&(decide (0≤T))) (some (.done (.inr (4)))) (some (.next (wi (h+1)))))) (some (.done (.inl (()))))
def uI (h:Collation):Option (Int):=
(pv (decide (h.Base<1))).bind fun O=>
(pv (O ||(decide (65502<h.Base)))).bind fun k=>
(gM (!k) (zAF h.Second)).bind fun T=>
(pv (k ||(!T))).bind fun z=>
(gM (!z) (zAF h.Third)).bind fun Y=>
 cond (z ||(!Y)) (some 1) ((wN h).bind fun G=>
 cond (!decide (G=0)) (some G) ((zC (fun (x:Int)=>wS h x) 0).bind fun (H:(Unit)⊕(Int))=>
 H.elim (fun H=>some 0) (fun H=>some H)))
def zCR (h:(List Int)):Option (A9Int):=
 some ({x0:=({x0:=(h.length:Int),x1:=0,x2:=0,x3:=0,x4:=0,x5:=0,x6:=0,x7:=0,x8:=0}:A9Int).x0,x1:=cpA h 0 (({x0:=(h.length:Int),x1:=0,x2:=0,x3:=0,x4:=0,x5:=0,x6:=0,x7:=0,x8:=0}:A9Int).x1),x2:=cpA h 1 (({x0:=(h.length:Int),x1:=0,x2:=0,x3:=0,x4:=0,x5:=0,x6:=0,x7:=0,x8:=0}:A9Int).x2),x3:=cpA h 2 (({x0:=(h.length:Int),x1:=0,x2:=0,x3:=0,x4:=0,x5:=0,x6:=0,x7:=0,x8:=0}:A9Int).x3),x4:=cpA h 3 (({x0:=(h.length:Int),x1:=0,x2:=0,x3:=0,x4:=0,x5:=0,x6:=0,x7:=0,x8:=0}:A9Int).x4),x5:=cpA h 4 (({x0:=(h.length:Int),x1:=0,x2:=0,x3:=0,x4:=0,x5:=0,x6:=0,x7:=0,x8:=0}:A9Int).x5),x6:=cpA h 5 (({x0:=(h.length:Int),x1:=0,x2:=0,x3:=0,x4:=0,x5:=0,x6:=0,x7:=0,x8:=0}:A9Int).x6),x7:=cpA h 6 (({x0:=(h.length:Int),x1:=0,x2:=0,x3:=0,x4:=0,x5:=0,x6:=0,x7:=0,x8:=0}:A9Int).x7),x8:=cpA h 7 (({x0:=(h.length:Int),x1:=0,x2:=0,x3:=0,x4:=0,x5:=0,x6:=0,x7:=0,x8:=0}:A9Int).x8)}:A9Int)
def xM (O:(List Entry)×(List Group)×Int×Int×Int) (z:Int) (G:(List (A9Int×(List Element)))) (h:Int):Option (Stp (Int×(List (A9Int×(List Element)))×Int) (((List (A9Int×(List Element)))×Int))):=
 cond (decide (z<(O.1.length:Int))) ((z7 O.1 z).bind fun k=>
(zCR k.Codes).bind fun H=>
 some (.next (wi (z+1),zAQ G H k.Elements,max h (k.Codes.length:Int)))) (some (.done (G,h)))
def zDI (k:Collation):Option (Colltable_table):=
(uI ({Entries:=k.Entries,Groups:=k.Groups,Base:=k.Base,Second:=k.Second,Third:=k.Third}:Collation)).bind fun G=>
(cond (!decide (G=0)) (some (({Entries:=[],Groups:=[],Base:=64448,Second:=32,Third:=2}:Collation).Entries,({Entries:=[],Groups:=[],Base:=64448,Second:=32,Third:=2}:Collation).Groups,({Entries:=[],Groups:=[],Base:=64448,Second:=32,Third:=2}:Collation).Base,({Entries:=[],Groups:=[],Base:=64448,Second:=32,Third:=2}:Collation).Second,({Entries:=[],Groups:=[],Base:=64448,Second:=32,Third:=2}:Collation).Third)) (some (k.Entries,k.Groups,k.Base,k.Second,k.Third))).bind fun (h:(List Entry)×(List Group)×Int×Int×Int)=>
(zC (fun (x:Int×(List (A9Int×(List Element)))×Int)=>xM h x.1 x.2.1 x.2.2) (0,[],0)).bind fun (z:(List (A9Int×(List Element)))×Int)=>
 some ({c:=({Entries:=({Entries:=h.1,Groups:=h.2.1,Base:=h.2.2.1,Second:=h.2.2.2.1,Third:=h.2.2.2.2}:Collation).Entries,Groups:=({Entries:=h.1,Groups:=h.2.1,Base:=h.2.2.1,Second:=h.2.2.2.1,Third:=h.2.2.2.2}:Collation).Groups,Base:=({Entries:=h.1,Groups:=h.2.1,Base:=h.2.2.1,Second:=h.2.2.2.1,Third:=h.2.2.2.2}:Collation).Base,Second:=({Entries:=h.1,Groups:=h.2.1,Base:=h.2.2.1,Second:=h.2.2.2.1,Third:=h.2.2.2.2}:Collation).Second,Third:=({Entries:=h.1,Groups:=h.2.1,Base:=h.2.2.1,Second:=h.2.2.2.1,Third:=h.2.2.2.2}:Collation).Third}:Collation),entries:=z.1,longest:=z.2,classes:=[],top:=0}:Colltable_table)
def vZ (T:(List Span)) (k:Int):Option (Stp (Int) ((Unit)⊕(Int))):=
 cond (decide (k<(T.length:Int))) ((z7 T k).bind fun h=>
(pv (decide (h.Lo<0))).bind fun z=>
(pv (z ||(decide (1114111<h.Hi)))).bind fun G=>
(pv (G ||(decide (h.Hi<h.Lo)))).bind fun H=>
(pv (H ||(decide (h.Value<1)))).bind fun O=>
 cond (O ||(decide (254<h.Value))) (some (.done (.inr (1)))) (some (.next (wi (k+1))))) (some (.done (.inl (()))))
def uA (G:(List Span)) (z:Int):Option (Stp (Int) ((Unit)⊕(Int))):=
 cond (decide (z<(G.length:Int))) ((z7 G (wi (z-1))).bind fun h=>
(z7 G z).bind fun k=>
(pv (decide (k.Lo≤h.Hi))).bind fun H=>
(pv (decide (k.Lo=(wi (h.Hi+1))))).bind fun O=>
 cond (H ||(O&&(decide (k.Value=h.Value)))) (some (.done (.inr (4)))) (some (.next (wi (z+1))))) (some (.done (.inl (()))))
def xN (h:A4Range) (z:Span) (k:Int):Option (Stp (Int) ((Unit)⊕(Int))):=
 cond (decide (k<4)) ((z7 [h.x0,h.x1,h.x2,h.x3] k).bind fun G=>
(pv (decide (z.Lo≤G.Hi))).bind fun H=>
 cond (H&&(decide (G.Lo≤z.Hi))) (some (.done (.inr (11)))) (some (.next (wi (k+1))))) (some (.done (.inl (()))))
def uB (H:(List Span)) (h:Int):Option (Stp (Int) ((Unit)⊕(Int))):=
 cond (decide (h<(H.length:Int))) ((z7 H h).bind fun z=>
(pv ({x0:=({Lo:=4352,Hi:=4370}:Range),x1:=({Lo:=4449,Hi:=4469}:Range),x2:=({Lo:=4520,Hi:=4546}:Range),x3:=({Lo:=44032,Hi:=55203}:Range)}:A4Range)).bind fun G=>
(zC (fun (x:Int)=>xN G z x) 0).bind fun (k:(Unit)⊕(Int))=>
 k.elim (fun k=>some (.next (wi (h+1)))) (fun k=>some (.done (.inr (k))))) (some (.done (.inl (()))))
def zBS (G:(List Span)):Option (Int):=
(zC (fun (x:Int)=>vZ G x) 0).bind fun (h:(Unit)⊕(Int))=>
 h.elim (fun h=>(zC (fun (x:Int)=>uA G x) 1).bind fun (k:(Unit)⊕(Int))=>
 k.elim (fun k=>(zC (fun (x:Int)=>uB G x) 0).bind fun (z:(Unit)⊕(Int))=>
 z.elim (fun z=>some 0) (fun z=>some z)) (fun k=>some k)) (fun h=>some h)
def uC (Z:Str) (k:Int):Option (Stp (Int) ((Unit)⊕(Bool))):=
 cond (decide (k<(Z.length:Int))) ((z03 Z k).bind fun h=>
(pv (decide (65≤h))).bind fun z=>
(pv (z&&(decide (h≤90)))).bind fun G=>
(pv (decide (97≤h))).bind fun H=>
(pv (!(G ||(H&&(decide (h≤122)))))).bind fun O=>
(pv (decide (48≤h))).bind fun T=>
(pv (O&&(!(T&&(decide (h≤57)))))).bind fun Y=>
 cond (Y&&(!decide (h=95))) (some (.done (.inr (false)))) (some (.next (wi (k+1))))) (some (.done (.inl (()))))
def zDJ (k:Str):Option (Bool):=
(pv (k== [])).bind fun b8=>
 cond (b8 ||(decide (32<(k.length:Int)))) (some false) ((zC (fun (x:Int)=>uC k x) 0).bind fun (h:(Unit)⊕(Bool))=>
 h.elim (fun h=>some true) (fun h=>some h))
def uZ (k:Mapping) (h:Int):Option (Stp (Int) ((Unit)⊕(Int))):=
 cond (decide (h<(k.To.length:Int))) ((z7 k.To h).bind fun z=>
(uH z).bind fun G=>
 cond (!G) (some (.done (.inr (1)))) (some (.next (wi (h+1))))) (some (.done (.inl (()))))
def u0 (H:(List Mapping)) (h:Int):Option (Stp (Int) ((Unit)⊕(Int))):=
 cond (decide (h<(H.length:Int))) ((z7 H h).bind fun k=>
(uH k.From).bind fun G=>
 cond (!G) (some (.done (.inr (1)))) ((zC (fun (x:Int)=>uZ k x) 0).bind fun (z:(Unit)⊕(Int))=>
 z.elim (fun z=>some (.next (wi (h+1)))) (fun z=>some (.done (.inr (z)))))) (some (.done (.inl (()))))
def u2 (z:(List Mapping)) (h:Int):Option (Stp (Int) ((Unit)⊕(Int))):=
 cond (decide (h<(z.length:Int))) ((z7 z h).bind fun k=>
 cond (decide (64<(k.To.length:Int))) (some (.done (.inr (2)))) (some (.next (wi (h+1))))) (some (.done (.inl (()))))
def u3 (H:(List Mapping)) (h:Int):Option (Stp (Int) ((Unit)⊕(Int))):=
 cond (decide (h<(H.length:Int))) ((z7 H h).bind fun z=>
(pv (!(z.Tag== []))).bind fun k=>
(gM k (zDJ z.Tag)).bind fun G=>
 cond (k&&(!G)) (some (.done (.inr (6)))) (some (.next (wi (h+1))))) (some (.done (.inl (()))))
def zD9 (G:(List Mapping)):Option (Int):=
(zC (fun (x:Int)=>u0 G x) 0).bind fun (h:(Unit)⊕(Int))=>
 h.elim (fun h=>(zC (fun (x:Int)=>u2 G x) 0).bind fun (k:(Unit)⊕(Int))=>
 k.elim (fun k=>(zC (fun (x:Int)=>u3 G x) 0).bind fun (z:(Unit)⊕(Int))=>
 z.elim (fun z=>some 0) (fun z=>some z)) (fun k=>some k)) (fun h=>some h)
def zBT (h:Str):Option (Bool):=
 some (!(h==h))
def zAG (k:Str) (a1:Str):Option (Int):=
(zBT k).bind fun z=>
(zBT a1).bind fun h=>
 cond z (cond h (some 0) (some (-1))) (cond h (some 1) (cond (Op.bytesLess k a1) (some (-1)) (cond (!Op.bytesLess k a1&& !(k==a1)) (some 1) (some 0))))
def zCX (z:(List Int)) (k:Int):Option (Stp (Int) ((Unit)⊕(Int))):=
 cond (decide (k<(z.length:Int))) ((z7 z k).bind fun h=>
 cond (!decide (h=0)) (some (.done (.inr (h)))) (some (.next (wi (k+1))))) (some (.done (.inl (()))))
def zFV (k:(List Int)):Option (Int):=
(zC (fun (x:Int)=>zCX k x) 0).bind fun (h:(Unit)⊕(Int))=>
 h.elim (fun h=>some 0) (fun h=>some h)
def zCS (z:Mapping) (a1:Mapping):Option (Int):=
(jP z.From a1.From).bind fun G=>
(zAG z.Tag a1.Tag).bind fun h=>
(zFV [G,h]).bind fun k=>
 some k
def zEA (h:Mapping):Option (Mapping_key):=
 some ({from_:=h.From,tag:=h.Tag}:Mapping_key)
def wT (k:(List Mapping)) (O:Bool) (h:Int):Option (Stp (Bool×Int) ((Bool))):=
 cond (decide (h<(k.length:Int))) (((z7 k (wi (h-1))).bind fun z=>
(z7 k h).bind fun G=>
(zCS z G).bind fun H=>
 cond (decide (0≤H)) (some false) (some O)).bind fun (T:Bool)=>
 some (.next (T,wi (h+1)))) (some (.done O))
def wU (O:(List Mapping)) (h:Int) (k:(List (Mapping_key×Bool))):Option (Stp (Int×(List (Mapping_key×Bool))) ((Unit)⊕(Int))):=
 cond (decide (h<(O.length:Int))) ((z7 O h).bind fun z=>
(zEA z).bind fun G=>
 cond (zAN k G false) (some (.done (.inr (5)))) ((zEA z).bind fun H=>
 some (.next (wi (h+1),zAQ k H true)))) (some (.done (.inl (()))))
def zEB (z:(List Mapping)):Option (Int):=
(zD9 z).bind fun h=>
 cond (!decide (h=0)) (some h) ((zC (fun (x:Bool×Int)=>wT z x.1 x.2) (true,1)).bind fun (G:Bool)=>
 cond G (some 0) ((zC (fun (x:Int×(List (Mapping_key×Bool)))=>wU z x.1 x.2) (0,[])).bind fun (k:(Unit)⊕(Int))=>
 k.elim (fun k=>some 4) (fun k=>some k)))
def zHG (z:Int):Option (Int):=
(cond (decide (4294967296≤z)) (some (z/2 ^ 32,32)) (some (z,0))).bind fun (h:Int×Int)=>
(cond (decide (65536≤h.1)) (some (h.1/2 ^ 16,wi (h.2+16))) (some (h.1,h.2))).bind fun (k:Int×Int)=>
(cond (decide (256≤k.1)) (some (k.1/2 ^ 8,wi (k.2+8))) (some (k.1,k.2))).bind fun (H:Int×Int)=>
(z03 [0,1,2,2,3,3,3,3,4,4,4,4,4,4,4,4,5,5,5,5,5,5,5,5,5,5,5,5,5,5,5,5,6,6,6,6,6,6,6,6,6,6,6,6,6,6,6,6,6,6,6,6,6,6,6,6,6,6,6,6,6,6,6,6,7,7,7,7,7,7,7,7,7,7,7,7,7,7,7,7,7,7,7,7,7,7,7,7,7,7,7,7,7,7,7,7,7,7,7,7,7,7,7,7,7,7,7,7,7,7,7,7,7,7,7,7,7,7,7,7,7,7,7,7,7,7,7,7,8,8,8,8,8,8,8,8,8,8,8,8,8,8,8,8,8,8,8,8,8,8,8,8,8,8,8,8,8,8,8,8,8,8,8,8,8,8,8,8,8,8,8,8,8,8,8,8,8,8,8,8,8,8,8,8,8,8,8,8,8,8,8,8,8,8,8,8,8,8,8,8,8,8,8,8,8,8,8,8,8,8,8,8,8,8,8,8,8,8,8,8,8,8,8,8,8,8,8,8,8,8,8,8,8,8,8,8,8,8,8,8,8,8,8,8,8,8,8,8,8,8,8,8,8,8,8,8] ((IntKind.u8.wrap) H.1)).bind fun G=>
 some (wi (H.2+(wi G)))
def zEC (h:Int):Option (Int):=
 cond false (none) ((zHG h).bind fun k=>
 some k)
def yN (a1:Int) (a3:Range→Range→Option (Int)) (G:Int) (h:(List Range)):Option (Stp (Int×(List Range)) (((List Range)))):=
(pv (decide (a1<G))).bind fun H=>
(gM H (z7 h G)).bind fun O=>
(gM H (z7 h (wi (G-1)))).bind fun T=>
(gM H (a3 O T)).bind fun Y=>
 cond (H&&(decide (Y<0))) ((z7 h (wi (G-1))).bind fun Z=>
(z7 h G).bind fun aa=>
(z7 h G).bind fun ac=>
(uQ h G Z).bind fun k=>
(z7 k (wi (G-1))).bind fun ad=>
(uQ k (wi (G-1)) aa).bind fun z=>
 some (.next (wi (G-1),z))) (some (.done h))
def yB (a2:Int) (a1:Int) (z:Range→Range→Option (Int)) (k:Int) (h:(List Range)):Option (Stp (Int×(List Range)) (((List Range)))):=
 cond (decide (k<a2)) ((zC (fun (x:Int×(List Range))=>yN a1 z x.1 x.2) (k,h)).bind fun (G:(List Range))=>
 some (.next (wi (k+1),G))) (some (.done h))
def kO (h:(List Range)) (a1:Int) (a2:Int) (k:Range→Range→Option (Int)):Option ((List Range)):=
(zC (fun (x:Int×(List Range))=>yB a2 a1 k x.1 x.2) (wi (a1+1),h)).bind fun (z:(List Range))=>
 some z
def kH (a2:Int) (a1:Int) (k:(List Range)) (G:Range→Range→Option (Int)) (z:Int):Option (Stp (Unit) (((List Range)))):=
(cond (decide ((wi (a2-a1))≤12)) ((kO k a1 a2 G).bind fun h=>
 some h) (cond (decide (z=0)) (none) ((cond (!true) (none) (some ())).bind fun (O:Unit)=>
 none))).bind fun (H:(List Range))=>
 some (.done H)
def xA (h:(List Range)) (a1:Int) (a2:Int) (k:Int) (z:Range→Range→Option (Int)):Option ((List Range)):=
(zC (fun (_:Unit)=>kH a2 a1 h z k) ()).bind fun (G:(List Range))=>
 some G
def kX (h:(List Range)) (a1:Range→Range→Option (Int)):Option ((List Range)):=
(zEC (wu (h.length:Int))).bind fun k=>
(xA h 0 (h.length:Int) k a1).bind fun z=>
 some z
def zA5 (z:Range) (a1:Range):Option (Int):=
(jP z.Lo a1.Lo).bind fun G=>
(jP z.Hi a1.Hi).bind fun h=>
(zFV [G,h]).bind fun k=>
 some k
def zBF (H:(List Range)) (G:Int) (h:(List Range)):Option (Stp (Int×(List Range)) (((List Range)))):=
 cond (decide (G<(H.length:Int))) (((z7 H G).bind fun k=>
 cond (decide ((({Lo:=max k.Lo 0,Hi:=min k.Hi 1114111}:Range).Lo)≤(({Lo:=max k.Lo 0,Hi:=min k.Hi 1114111}:Range).Hi))) ((app h [({Lo:=max k.Lo 0,Hi:=min k.Hi 1114111}:Range)]).bind fun z=>
 some z) (some h)).bind fun (O:(List Range))=>
 some (.next (wi (G+1),O))) (some (.done h))
def zBG (T:(List Range)) (H:Int) (h:(List Range)):Option (Stp (Int×(List Range)) (((List Range)))):=
 cond (decide (H<(T.length:Int))) (((z7 T H).bind fun G=>
(pv (decide (0<(h.length:Int)))).bind fun O=>
(gM O (z7 h (wi ((h.length:Int)-1)))).bind fun Y=>
 cond (O&&(decide (G.Lo≤(wi (Y.Hi+1))))) ((z7 h (wi ((h.length:Int)-1))).bind fun Z=>
(z7 h (wi ((h.length:Int)-1))).bind fun aa=>
(uQ h (wi ((h.length:Int)-1)) ({aa with Hi:=max Z.Hi G.Hi})).bind fun k=>
 some k) ((app h [G]).bind fun z=>
 some z)).bind fun (y5:(List Range))=>
 some (.next (wi (H+1),y5))) (some (.done h))
def zID (k:(List Range)):Option (Set):=
(zC (fun (x:Int×(List Range))=>zBF k x.1 x.2) (0,[])).bind fun (z:(List Range))=>
(kX z (fun x0 x1=>zA5 x0 x1)).bind fun h=>
(zC (fun (x:Int×(List Range))=>zBG h x.1 x.2) (0,[])).bind fun (G:(List Range))=>
 some ({Ranges:=G}:Set)
def zBU (G:Set) (H:Set) (h:Int):Option (Stp (Int) ((Unit)⊕(Bool))):=
 cond (decide (h<(G.Ranges.length:Int))) ((z7 G.Ranges h).bind fun k=>
(z7 H.Ranges h).bind fun z=>
 cond (!decide (k=z)) (some (.done (.inr (false)))) (some (.next (wi (h+1))))) (some (.done (.inl (()))))
def zGW (k:Set):Option (Bool):=
(zID k.Ranges).bind fun z=>
 cond (!decide ((z.Ranges.length:Int)=(k.Ranges.length:Int))) (some false) ((zC (fun (x:Int)=>zBU z k x) 0).bind fun (h:(Unit)⊕(Bool))=>
 h.elim (fun h=>some true) (fun h=>some h))
def zDK (h:Int):Option (Int):=
(pv (decide (4352≤h))).bind fun O=>
 cond (O&&(decide (h<4371))) (some 1) ((pv (decide (4449≤h))).bind fun k=>
 cond (k&&(decide (h<4470))) (some 2) ((pv (decide (4520≤h))).bind fun z=>
 cond (z&&(decide (h<4547))) (some 3) ((pv (decide (h<44032))).bind fun G=>
 cond (G ||(decide (55204≤h))) (some 0) ((zD3 (wi (h-44032)) 28).bind fun H=>
 cond (decide (H=0)) (some 4) (some 5)))))
def zAT (h:(List Span)):Option ((List Span)):=
(zBS h).bind fun k=>
 cond (!decide (k=0)) (some []) (some h)
def z5 (O:(List Span)) (a2:Span→Int→Option (Int)) (a1:Int) (k:Int) (h:Int):Option (Stp (Int×Int) ((Int))):=
 cond (decide (k<h)) (((z7 O (wi ((wu (wi (k+h)))/2 ^ 1))).bind fun z=>
(a2 z a1).bind fun G=>
 cond (decide (G<0)) (some (wi ((wi ((wu (wi (k+h)))/2 ^ 1))+1),h)) (some (k,wi ((wu (wi (k+h)))/2 ^ 1)))).bind fun (H:Int×Int)=>
 some (.next (H.1,H.2))) (some (.done k))
def kN (k:(List Span)) (a1:Int) (a2:Span→Int→Option (Int)):Option (Int×Bool):=
(zC (fun (x:Int×Int)=>z5 k a2 a1 x.1 x.2) (0,(k.length:Int))).bind fun (H:Int)=>
(pv (decide (H<(k.length:Int)))).bind fun h=>
(gM h (z7 k H)).bind fun z=>
(gM h (a2 z a1)).bind fun G=>
 some (H,(h&&(decide (G=0))))
def u5 (h:Span) (a1:Int):Option (Int):=
 cond (decide (h.Hi<a1)) (some (-1)) (cond (decide (a1<h.Lo)) (some 1) (some 0))
def kT (z:(List Span)) (a1:Int):Option (Int):=
(kN z a1 (fun x0 x1=>u5 x0 x1)).bind fun h=>
 cond (!h.2) (some 0) ((z7 z h.1).bind fun k=>
 some k.Value)
def kJ (a1:(List Int)) (a2:(List Span)) (items:(List (Range))) (O:Int) (k:Int) (h:Nat):Option (Stp (Int×Int×Nat) ((Int×Nat)⊕(Nat))):=
 cond (decide (k<(a1.length:Int))) (((z7 a1 k).bind fun Z=>
(kT a2 Z).bind fun H=>
((pv (!(decide (H=0)))).bind fun T=>
 cond (T&&(decide (O<0))) (some (.inl ((k,h)))) ((pv (decide (H=0))).bind fun Y=>
 cond (Y&&(decide (0≤O))) ((yM items h ({Lo:=O,Hi:=k}:Range)).bind fun aa=>
 cond (!true) (some (.inr (h+1))) (some (.inl (((-1),h+1))))) (some (.inl ((O,h)))))).bind fun (G:(Int×Nat)⊕(Nat))=>
 G.elim (fun G=>some (.inl ((G.1,G.2)))) (fun G=>some (.inr (G)))).bind fun (z:(Int×Nat)⊕(Nat))=>
 z.elim (fun z=>some (.next (z.1,wi (k+1),z.2))) (fun z=>some (.done (.inr (z))))) (some (.done (.inl ((O,h)))))
def zAU (items:List Range) (a1:(List Int)) (a2:(List Span)):Option Unit:=
(zC (fun (x:Int×Int×Nat)=>kJ a1 a2 items x.1 x.2.1 x.2.2) ((-1),0,0)).bind fun (h:(Int×Nat)⊕(Nat))=>
 h.elim (fun h=>cond (decide (0≤h.1)) ((yM items h.2 ({Lo:=h.1,Hi:=(a1.length:Int)}:Range)).bind fun k=>
 zVG items (h.2+1)) (zVG items h.2)) (fun h=>zVG items h)
def jZ (st:Int→Bool):List Int→Int→Int→List Range
 | [],i,s=>if 0≤s then [{Lo:=s,Hi:=i}] else []
 | c::r,i,s=>if !st c&&decide (s<0) then jZ st r (i+1) i else if st c&&decide (0≤s) then {Lo:=s,Hi:=i}::jZ st r (i+1) (-1) else jZ st r (i+1) s
def yLS {h:Type} (l:List h):Option (List h):=if l.length≤LIM then some l else none
def zED (k:List Span) (a1:List Int):Option (List Range):=(zAT k).bind fun h=>(zAU (jZ (fun c=>kT h c==some 0) a1 0 (-1)) a1 h).bind fun _=>yLS (jZ (fun c=>kT h c==some 0) a1 0 (-1))
def zHR (z:Int):Option (A3Int):=
(zDK z).bind fun Y=>
 cond (decide (Y<4)) (some ({x0:=0,x1:=0,x2:=0}:A3Int)) ((zIX wi (wi (z-44032)) 28).bind fun G=>
(zIX wi G 21).bind fun h=>
(zIX wi (wi (z-44032)) 28).bind fun H=>
(zD3 H 21).bind fun k=>
(zD3 (wi (z-44032)) 28).bind fun O=>
(cond (decide (0<O)) ((zD3 (wi (z-44032)) 28).bind fun T=>
 some (wi ((wi (4520+T))-1))) (some (({x0:=wi (4352+h),x1:=wi (4449+k),x2:=0}:A3Int).x2))).bind fun (Z:Int)=>
 some ({x0:=({x0:=wi (4352+h),x1:=wi (4449+k),x2:=0}:A3Int).x0,x1:=({x0:=wi (4352+h),x1:=wi (4449+k),x2:=0}:A3Int).x1,x2:=Z}:A3Int))
def zBV (k:Int):Option ((List Int)):=
(zHR k).bind fun h=>
 cond (decide (h=({x0:=0,x1:=0,x2:=0}:A3Int))) (some [k]) (cond (decide (h.x2=0)) (some [h.x0,h.x1]) (some [h.x0,h.x1,h.x2]))
def zY (O:(List Mapping)) (a2:Mapping→Int→Option (Int)) (a1:Int) (k:Int) (h:Int):Option (Stp (Int×Int) ((Int))):=
 cond (decide (k<h)) (((z7 O (wi ((wu (wi (k+h)))/2 ^ 1))).bind fun z=>
(a2 z a1).bind fun G=>
 cond (decide (G<0)) (some (wi ((wi ((wu (wi (k+h)))/2 ^ 1))+1),h)) (some (k,wi ((wu (wi (k+h)))/2 ^ 1)))).bind fun (H:Int×Int)=>
 some (.next (H.1,H.2))) (some (.done k))
def yF (k:(List Mapping)) (a1:Int) (a2:Mapping→Int→Option (Int)):Option (Int×Bool):=
(zC (fun (x:Int×Int)=>zY k a2 a1 x.1 x.2) (0,(k.length:Int))).bind fun (H:Int)=>
(pv (decide (H<(k.length:Int)))).bind fun h=>
(gM h (z7 k H)).bind fun z=>
(gM h (a2 z a1)).bind fun G=>
 some (H,(h&&(decide (G=0))))
def wV (h:Mapping) (a1:Int):Option (Int):=
(jP h.From a1).bind fun k=>
 some k
def vO (z:Norm) (a1:Int) (a2:Bool):Option ((List Int)×Bool):=
(zDK a1).bind fun H=>
 cond (decide (4≤H)) ((zBV a1).bind fun O=>
 some (O,true)) ((yF z.Decomp a1 (fun x0 x1=>wV x0 x1)).bind fun h=>
(pv (!h.2)).bind fun k=>
(gM (!k) (z7 z.Decomp h.1)).bind fun T=>
(pv (!(T.Tag== []))).bind fun G=>
 cond (k ||(G&&(!a2))) (some ([],false)) ((z7 z.Decomp h.1).bind fun Y=>
 some (Y.To,true)))
def jA (O:(List Int)×Bool) (Y:(Int→Norm→(List (Int×Int))→Bool→Bool→Option (Int×Bool×Bool×(List (Int×Int))))) (a1:Norm) (T:Int) (H:Int) (h:Bool) (k:Bool) (z:(List (Int×Int))):Option (Stp (Int×Int×Bool×Bool×(List (Int×Int))) ((Int×Bool×Bool×(List (Int×Int))))):=
 cond (decide (H<(O.1.length:Int))) ((z7 O.1 H).bind fun Z=>
(Y Z a1 z h k).bind fun G=>
 some (.next (min (wi (T+G.1)) 65,wi (H+1),G.2.1,G.2.2.1,G.2.2.2))) (some (.done (T,h,k,z)))
def k5 (Z:Int→Norm→(List (Int×Int))→Bool→Bool→Option (Int×Bool×Bool×(List (Int×Int)))) (k:Int) (a1:Norm) (a2:(List (Int×Int))) (G:Bool) (H:Bool):Option (Int×Bool×Bool×(List (Int×Int))):=
(vO a1 k true).bind fun h=>
(pv (!h.2)).bind fun O=>
 cond (O ||(decide ((h.1.length:Int)=0))) (some (1,G,H,a2)) (cond (zCO a2 k) ((pv G).bind fun T=>
 some (max (zAN a2 k 0) 1,(T ||(decide ((zAN a2 k 0)=(-1)))),H,a2)) ((zC (fun (x:Int×Int×Bool×Bool×(List (Int×Int)))=>jA h Z a1 x.1 x.2.1 x.2.2.1 x.2.2.2.1 x.2.2.2.2) (0,0,G,H,zAQ a2 k (-1))).bind fun (z:Int×Bool×Bool×(List (Int×Int)))=>
(pv z.2.2.1).bind fun Y=>
 some (z.1,z.2.1,(Y ||(decide (64<z.1))),zAQ z.2.2.2 k z.1)))
def z9:Nat→Int→Norm→(List (Int×Int))→Bool→Bool→Option (Int×Bool×Bool×(List (Int×Int)))
 | 0=>fun _ _ _ _ _=>none
 | n+1=>k5 (z9 n)
def kL (H:Norm) (G:Int) (h:Bool) (k:Bool) (T:(List (Int×Int))):Option (Stp (Int×Bool×Bool×(List (Int×Int))) ((Bool×Bool))):=
 cond (decide (G<(H.Decomp.length:Int))) ((z7 H.Decomp G).bind fun O=>
(z9 100 O.From H T h k).bind fun z=>
 some (.next (wi (G+1),z.2.1,z.2.2.1,z.2.2.2))) (some (.done (h,k)))
def decompose_measure (k:Norm):Option (Bool×Bool):=
(zC (fun (x:Int×Bool×Bool×(List (Int×Int)))=>kL k x.1 x.2.1 x.2.2.1 x.2.2.2) (0,false,false,[])).bind fun (h:Bool×Bool)=>
 some (h.1,h.2)
def wW (k:Norm) (h:Int):Option (Stp (Int) ((Unit)⊕(Int))):=
 cond (decide (h<(k.Decomp.length:Int))) ((z7 k.Decomp h).bind fun z=>
(z7 k.Decomp (wi (h-1))).bind fun G=>
 cond (decide (z.From=G.From)) (some (.done (.inr (5)))) (some (.next (wi (h+1))))) (some (.done (.inl (()))))
def wX (H:Norm) (k:Int):Option (Stp (Int) ((Unit)⊕(Int))):=
 cond (decide (k<(H.Decomp.length:Int))) ((z7 H.Decomp k).bind fun h=>
(pv (h.Tag== [])).bind fun z=>
(pv (z&&(!decide ((h.To.length:Int)=1)))).bind fun G=>
 cond (G&&(!decide ((h.To.length:Int)=2))) (some (.done (.inr (8)))) (some (.next (wi (k+1))))) (some (.done (.inl (()))))
def yP (T:Norm) (G:Int) (h:(List Int)):Option (Stp (Int×(List Int)) (((List Int))⊕(Int))):=
 cond (decide (G<(T.Decomp.length:Int))) (((z7 T.Decomp G).bind fun z=>
(zDK z.From).bind fun O=>
 cond (!decide (O=0)) (some (.inr (()))) (cond (!(z.Tag== [])) ((app h [z.From]).bind fun k=>
 some (.inl (k))) (some (.inl (h))))).bind fun (H:((List Int))⊕(Unit))=>
 H.elim (fun H=>some (.next (wi (G+1),H))) (fun H=>some (.done (.inr (11))))) (some (.done (.inl (h))))
def zAV (h:Norm):Option (Int):=
(zBS h.Classes).bind fun z=>
 cond (!decide (z=0)) (some z) ((zEB h.Decomp).bind fun G=>
 cond (!decide (G=0)) (some G) ((zGW h.Excluded).bind fun Y=>
 cond (!Y) (some 11) ((zC (fun (x:Int)=>wW h x) 1).bind fun (O:(Unit)⊕(Int))=>
 O.elim (fun O=>(zC (fun (x:Int)=>wX h x) 0).bind fun (T:(Unit)⊕(Int))=>
 T.elim (fun T=>(zC (fun (x:Int×(List Int))=>yP h x.1 x.2) (0,[])).bind fun (H:((List Int))⊕(Int))=>
 H.elim (fun H=>(zED h.Classes H).bind fun Z=>
 cond (decide (0<(Z.length:Int))) (some 11) ((decompose_measure h).bind fun k=>
 cond k.1 (some 12) (cond k.2 (some 13) (some 0)))) (fun H=>some H)) (fun T=>some T)) (fun O=>some O))))
def jH (G:(List Span)) (k:Int) (h:Int):Option (Stp (Int×Int) ((Int))):=
 cond (decide (k<(G.length:Int))) ((z7 G k).bind fun z=>
 some (.next (wi (k+1),max h z.Value))) (some (.done h))
def vP (h:Colltable_table) (a1:Norm):Option (Colltable_table):=
(zAV a1).bind fun z=>
(cond (decide (z=0)) (some a1.Classes) (some h.classes)).bind fun (k:(List Span))=>
(zC (fun (x:Int×Int)=>jH k x.1 x.2) (0,h.top)).bind fun (G:Int)=>
 some ({c:=({Entries:=h.c.Entries,Groups:=h.c.Groups,Base:=h.c.Base,Second:=h.c.Second,Third:=h.c.Third}:Collation),entries:=h.entries,longest:=h.longest,classes:=k,top:=G}:Colltable_table)
def u6 (h:Norm):Option (Norm):=
(zAV h).bind fun k=>
 cond (!decide (k=0)) (some ({Classes:=({Classes:=[],Decomp:=[],Excluded:=(({Ranges:=[]}):Set)}:Norm).Classes,Decomp:=({Classes:=[],Decomp:=[],Excluded:=(({Ranges:=[]}):Set)}:Norm).Decomp,Excluded:=({Ranges:=(({Classes:=[],Decomp:=[],Excluded:=(({Ranges:=[]}):Set)}:Norm).Excluded).Ranges}:Set)}:Norm)) (some h)
def k6 (H:(List Int)×Bool) (T:(Int→(List (Int×(List Int)))→Norm→Bool→Option ((List Int)×(List (Int×(List Int)))))) (a2:Norm) (Z:Bool) (G:Int) (h:(List Int)) (z:(List (Int×(List Int)))):Option (Stp (Int×(List Int)×(List (Int×(List Int)))) (((List Int)×(List (Int×(List Int)))))):=
 cond (decide (G<(H.1.length:Int))) ((z7 H.1 G).bind fun Y=>
(T Y z a2 Z).bind fun O=>
(app h O.1).bind fun k=>
 some (.next (wi (G+1),k,O.2))) (some (.done (h,z)))
def wD (z:Int→(List (Int×(List Int)))→Norm→Bool→Option ((List Int)×(List (Int×(List Int))))) (h:Int) (a1:(List (Int×(List Int)))) (a2:Norm) (H:Bool):Option ((List Int)×(List (Int×(List Int)))):=
 cond (zCO a1 h) (some (zAN a1 h [],a1)) ((vO a2 h H).bind fun k=>
 cond (!k.2) (some ([h],a1)) ((zC (fun (x:Int×(List Int)×(List (Int×(List Int))))=>k6 k z a2 H x.1 x.2.1 x.2.2) (0,[],a1)).bind fun (G:(List Int)×(List (Int×(List Int))))=>
 some (G.1,zAQ G.2 h G.1)))
def kA:Nat→Int→(List (Int×(List Int)))→Norm→Bool→Option ((List Int)×(List (Int×(List Int))))
 | 0=>fun _ _ _ _=>none
 | n+1=>wD (kA n)
def zCI (h:Norm) (a1:Bool):Option (Unit):=
 some ()
def zA6 (h:(List Int)):Option ((List Int)):=app [] h
def wK (z:Int) (a1:Int) (a2:(List Span)):Option (Int):=
(kT a2 z).bind fun G=>
(kT a2 a1).bind fun h=>
(jP G h).bind fun k=>
 some k
def zZ (a1:Int) (a3:Int→Int→Option (Int)) (G:Int) (h:(List Int)):Option (Stp (Int×(List Int)) (((List Int)))):=
(pv (decide (a1<G))).bind fun H=>
(gM H (z7 h G)).bind fun O=>
(gM H (z7 h (wi (G-1)))).bind fun T=>
(gM H (a3 O T)).bind fun Y=>
 cond (H&&(decide (Y<0))) ((z7 h (wi (G-1))).bind fun Z=>
(z7 h G).bind fun aa=>
(z7 h G).bind fun ac=>
(uQ h G Z).bind fun k=>
(z7 k (wi (G-1))).bind fun ad=>
(uQ k (wi (G-1)) aa).bind fun z=>
 some (.next (wi (G-1),z))) (some (.done h))
def zU (a2:Int) (a1:Int) (z:Int→Int→Option (Int)) (k:Int) (h:(List Int)):Option (Stp (Int×(List Int)) (((List Int)))):=
 cond (decide (k<a2)) ((zC (fun (x:Int×(List Int))=>zZ a1 z x.1 x.2) (k,h)).bind fun (G:(List Int))=>
 some (.next (wi (k+1),G))) (some (.done h))
def kD (h:(List Int)) (a1:Int) (a2:Int) (k:Int→Int→Option (Int)):Option ((List Int)):=
(zC (fun (x:Int×(List Int))=>zU a2 a1 k x.1 x.2) (wi (a1+1),h)).bind fun (z:(List Int))=>
 some z
def yQ (T:Int) (a2:Int) (a1:Int) (G:Int) (k:(List Int)):Option (Stp (Int×(List Int)) (((List Int)))):=
 cond (decide (G<T)) ((z7 k (wi (a2+G))).bind fun H=>
(z7 k (wi (a1+G))).bind fun O=>
(z7 k (wi (a1+G))).bind fun Y=>
(uQ k (wi (a1+G)) H).bind fun h=>
(z7 h (wi (a2+G))).bind fun Z=>
(uQ h (wi (a2+G)) O).bind fun z=>
 some (.next (wi (G+1),z))) (some (.done k))
def kG (h:(List Int)) (a1:Int) (a2:Int) (k:Int) (G:Int→Int→Option (Int)):Option ((List Int)):=
(zC (fun (x:Int×(List Int))=>yQ k a2 a1 x.1 x.2) (0,h)).bind fun (z:(List Int))=>
 some z
def yJ (a2:Int) (T:Int→Int→Option (Int)) (h:Int) (z:Int) (k:(List Int)):Option (Stp (Int×Int×(List Int)) ((Int×(List Int)))):=
 cond (!decide (h=z)) ((cond (decide (z<h)) ((kG k (wi (a2-h)) a2 z T).bind fun G=>
 some (wi (h-z),z,G)) ((kG k (wi (a2-h)) (wi ((wi (a2+z))-h)) h T).bind fun H=>
 some (h,wi (z-h),H))).bind fun (O:Int×Int×(List Int))=>
 some (.next (O.1,O.2.1,O.2.2))) (some (.done (h,k)))
def jU (G:(List Int)) (a1:Int) (a2:Int) (H:Int) (z:Int→Int→Option (Int)):Option ((List Int)):=
(zC (fun (x:Int×Int×(List Int))=>yJ a2 z x.1 x.2.1 x.2.2) (wi (a2-a1),wi (H-a2),G)).bind fun (k:Int×(List Int))=>
(kG k.2 (wi (a2-k.1)) a2 k.1 z).bind fun h=>
 some h
def yR (O:(List Int)) (a1:Int) (Y:Int→Int→Option (Int)) (h:Int) (k:Int):Option (Stp (Int×Int) ((Int))):=
 cond (decide (h<k)) (((z7 O (wi ((wu (wi (h+k)))/2 ^ 1))).bind fun z=>
(z7 O a1).bind fun G=>
(Y z G).bind fun H=>
 cond (decide (H<0)) (some (wi ((wi ((wu (wi (h+k)))/2 ^ 1))+1),k)) (some (h,wi ((wu (wi (h+k)))/2 ^ 1)))).bind fun (T:Int×Int)=>
 some (.next (T.1,T.2))) (some (.done h))
def yS (Z:Int) (G:Int) (k:(List Int)):Option (Stp (Int×(List Int)) (((List Int)))):=
 cond (decide (G<(wi (Z-1)))) ((z7 k (wi (G+1))).bind fun H=>
(z7 k G).bind fun O=>
(z7 k G).bind fun T=>
(uQ k G H).bind fun h=>
(z7 h (wi (G+1))).bind fun Y=>
(uQ h (wi (G+1)) O).bind fun z=>
 some (.next (wi (G+1),z))) (some (.done k))
def yT (O:(List Int)) (a2:Int) (Y:Int→Int→Option (Int)) (h:Int) (k:Int):Option (Stp (Int×Int) ((Int))):=
 cond (decide (h<k)) (((z7 O a2).bind fun G=>
(z7 O (wi ((wu (wi (h+k)))/2 ^ 1))).bind fun H=>
(Y G H).bind fun z=>
 cond (!(decide (z<0))) (some (wi ((wi ((wu (wi (h+k)))/2 ^ 1))+1),k)) (some (h,wi ((wu (wi (h+k)))/2 ^ 1)))).bind fun (T:Int×Int)=>
 some (.next (T.1,T.2))) (some (.done h))
def yU (Z:Int) (G:Int) (k:(List Int)):Option (Stp (Int×(List Int)) (((List Int)))):=
 cond (decide (Z<G)) ((z7 k (wi (G-1))).bind fun H=>
(z7 k G).bind fun O=>
(z7 k G).bind fun T=>
(uQ k G H).bind fun h=>
(z7 h (wi (G-1))).bind fun Y=>
(uQ h (wi (G-1)) O).bind fun z=>
 some (.next (wi (G-1),z))) (some (.done k))
def yV (O:(List Int)) (a1:Int) (Y:Int) (a2:Int) (Z:Int→Int→Option (Int)) (h:Int) (k:Int):Option (Stp (Int×Int) ((Int))):=
 cond (decide (h<k)) (((z7 O (wi ((wi ((wi ((wi ((wu (wi (a1+Y)))/2 ^ 1))+a2))-1))-(wi ((wu (wi (h+k)))/2 ^ 1))))).bind fun z=>
(z7 O (wi ((wu (wi (h+k)))/2 ^ 1))).bind fun G=>
(Z z G).bind fun H=>
 cond (!(decide (H<0))) (some (wi ((wi ((wu (wi (h+k)))/2 ^ 1))+1),k)) (some (h,wi ((wu (wi (h+k)))/2 ^ 1)))).bind fun (T:Int×Int)=>
 some (.next (T.1,T.2))) (some (.done h))
def yH (Y:((List Int))→(Int)→(Int)→(Int)→(Int→Int→Option (Int))→Option ((List Int))) (z:(List Int)) (a1:Int) (a2:Int) (h:Int) (G:Int→Int→Option (Int)):Option ((List Int)):=
 cond (decide ((wi (a2-a1))=1)) ((zC (fun (x:Int×Int)=>yR z a1 G x.1 x.2) (a2,h)).bind fun (y1:Int)=>
(zC (fun (x:Int×(List Int))=>yS y1 x.1 x.2) (a1,z)).bind fun (y3:(List Int))=>
 some y3) (cond (decide ((wi (h-a2))=1)) ((zC (fun (x:Int×Int)=>yT z a2 G x.1 x.2) (a1,a2)).bind fun (y4:Int)=>
(zC (fun (x:Int×(List Int))=>yU y4 x.1 x.2) (a2,z)).bind fun (y6:(List Int))=>
 some y6) ((cond (decide ((wi ((wu (wi (a1+h)))/2 ^ 1))<a2)) (some (wi ((wi ((wi ((wu (wi (a1+h)))/2 ^ 1))+a2))-h),wi ((wu (wi (a1+h)))/2 ^ 1))) (some (a1,a2))).bind fun (y7:Int×Int)=>
(zC (fun (x:Int×Int)=>yV z a1 h a2 G x.1 x.2) (y7.1,y7.2)).bind fun (k:Int)=>
(pv (decide (k<a2))).bind fun H=>
(cond (H&&(decide (a2<(wi ((wi ((wi ((wu (wi (a1+h)))/2 ^ 1))+a2))-k))))) ((jU z k a2 (wi ((wi ((wi ((wu (wi (a1+h)))/2 ^ 1))+a2))-k)) G).bind fun Z=>
 some Z) (some z)).bind fun (ac:(List Int))=>
(pv (decide (a1<k))).bind fun O=>
(cond (O&&(decide (k<(wi ((wu (wi (a1+h)))/2 ^ 1))))) ((Y ac a1 k (wi ((wu (wi (a1+h)))/2 ^ 1)) G).bind fun aa=>
 some aa) (some ac)).bind fun (ad:(List Int))=>
(pv (decide ((wi ((wu (wi (a1+h)))/2 ^ 1))<(wi ((wi ((wi ((wu (wi (a1+h)))/2 ^ 1))+a2))-k))))).bind fun T=>
 cond (T&&(decide ((wi ((wi ((wi ((wu (wi (a1+h)))/2 ^ 1))+a2))-k))<h))) ((Y ad (wi ((wu (wi (a1+h)))/2 ^ 1)) (wi ((wi ((wi ((wu (wi (a1+h)))/2 ^ 1))+a2))-k)) h G).bind fun ab=>
 some ab) (some ad)))
def yX:Nat→((List Int))→(Int)→(Int)→(Int)→(Int→Int→Option (Int))→Option ((List Int))
 | 0=>fun _ _ _ _ _=>none
 | n+1=>yH (yX n)
def yC (a1:Int) (a2:Int→Int→Option (Int)) (G:Int) (k:Int) (h:(List Int)):Option (Stp (Int×Int×(List Int)) ((Int×(List Int)))):=
 cond (decide (k≤a1)) ((kD h G k a2).bind fun z=>
 some (.next (k,wi (k+20),z))) (some (.done (G,h)))
def yD (a1:Int) (H:Int) (a2:Int→Int→Option (Int)) (G:Int) (k:Int) (h:(List Int)):Option (Stp (Int×Int×(List Int)) ((Int×(List Int)))):=
 cond (decide (k≤a1)) ((yX 60 h G (wi (G+H)) k a2).bind fun z=>
 some (.next (k,wi (k+(wi (2*H))),z))) (some (.done (G,h)))
def yK (a1:Int) (a2:Int→Int→Option (Int)) (k:Int) (h:(List Int)):Option (Stp (Int×(List Int)) (((List Int)))):=
 cond (decide (k<a1)) ((zC (fun (x:Int×Int×(List Int))=>yD a1 k a2 x.1 x.2.1 x.2.2) (0,wi (2*k),h)).bind fun (z:Int×(List Int))=>
(cond (decide ((wi (z.1+k))<a1)) ((yX 60 z.2 z.1 (wi (z.1+k)) a1 a2).bind fun G=>
 some G) (some z.2)).bind fun (H:(List Int))=>
 some (.next (wi (k*2),H))) (some (.done h))
def vA (z:(List Int)) (a1:Int) (a2:Int→Int→Option (Int)):Option ((List Int)):=
(zC (fun (x:Int×Int×(List Int))=>yC a1 a2 x.1 x.2.1 x.2.2) (0,20,z)).bind fun (k:Int×(List Int))=>
(kD k.2 k.1 a1 a2).bind fun h=>
(zC (fun (x:Int×(List Int))=>yK a1 a2 x.1 x.2) (20,h)).bind fun (G:(List Int))=>
 some G
def kM (h:(List Int)) (a1:Int→Int→Option (Int)):Option ((List Int)):=
(vA h (h.length:Int) a1).bind fun k=>
 some k
def zBH (z:List Span) (a1:List Int):Option (List Int):=(zAT z).bind fun h=>(zA6 a1).bind fun k=>(zAU (jZ (fun c=>kT h c==some 0) a1 0 (-1)) a1 h).bind fun _=>zAD (fun p=>kM p (fun x0 x1=>wK x0 x1 h)) Range.Lo Range.Hi k (jZ (fun c=>kT h c==some 0) a1 0 (-1))
def wE (a1:(List Int)) (G:Norm) (a2:Bool) (H:Int) (h:(List Int)) (z:(List (Int×(List Int)))):Option (Stp (Int×(List Int)×(List (Int×(List Int)))) (((List Int)))):=
 cond (decide (H<(a1.length:Int))) ((z7 a1 H).bind fun T=>
(kA 100 T z ({Classes:=G.Classes,Decomp:=G.Decomp,Excluded:=({Ranges:=G.Excluded.Ranges}:Set)}:Norm) a2).bind fun O=>
(app h O.1).bind fun k=>
 some (.next (wi (H+1),k,O.2))) (some (.done h))
def zBW (k:Norm) (a1:(List Int)) (a2:Bool):Option ((List Int)):=
(u6 ({Classes:=k.Classes,Decomp:=k.Decomp,Excluded:=({Ranges:=k.Excluded.Ranges}:Set)}:Norm)).bind fun h=>
(zCI ({Classes:=h.Classes,Decomp:=h.Decomp,Excluded:=({Ranges:=h.Excluded.Ranges}:Set)}:Norm) a2).bind fun G=>
(zC (fun (x:Int×(List Int)×(List (Int×(List Int))))=>wE a1 h a2 x.1 x.2.1 x.2.2) (0,[],[])).bind fun (H:(List Int))=>
(zBH h.Classes H).bind fun z=>
 some z
def jJ (k:Colltable_table) (a1:(List Int)):Option ((List Element)×Bool):=
(pv (decide ((a1.length:Int)=0))).bind fun z=>
 cond (z ||(decide (k.longest<(a1.length:Int)))) (some ([],false)) ((zCR a1).bind fun h=>
 some (zAN k.entries h [],zCO k.entries h))
def jV (h:Colltable_table) (a1:Int):Option ((List Element)):=
(uH a1).bind fun G=>
 cond (!G) (some []) ((zIX wi a1 32768).bind fun k=>
(zD3 a1 32768).bind fun z=>
 some [({Primary:=wi (h.c.Base+k),Secondary:=h.c.Second,Tertiary:=h.c.Third,Variable:=false}:Element),({Primary:=wi (32768+z),Secondary:=0,Tertiary:=0,Variable:=false}:Element)])
def xX (k:Int) (a1:Colltable_table) (a2:Int):Option (Bool):=
(z7 a1.classes k).bind fun h=>
 some (decide (a2≤h.Hi))
def zBX (a1:Int→Option (Bool)) (h:Int) (k:Int):Option (Stp (Int×Int) ((Int))):=
 cond (decide (h<k)) (((a1 (wi ((wu (wi (h+k)))/2 ^ 1))).bind fun z=>
 cond (!z) (some (wi ((wi ((wu (wi (h+k)))/2 ^ 1))+1),k)) (some (h,wi ((wu (wi (h+k)))/2 ^ 1)))).bind fun (G:Int×Int)=>
 some (.next (G.1,G.2))) (some (.done h))
def zI6 (h:Int) (a1:Int→Option (Bool)):Option (Int):=
(zC (fun (x:Int×Int)=>zBX a1 x.1 x.2) (0,h)).bind fun (k:Int)=>
 some k
def wO (k:Colltable_table) (a1:Int):Option (Int):=
(zI6 (k.classes.length:Int) (fun x0=>xX x0 k a1)).bind fun h=>
(pv (decide (h<(k.classes.length:Int)))).bind fun z=>
(gM z (z7 k.classes h)).bind fun G=>
 cond (z&&(decide (G.Lo≤a1))) ((z7 k.classes h).bind fun H=>
 some H.Value) (some 0)
def kY (a1:(List Int)) (G:Colltable_table) (h:Int):Option (Stp (Int) ((Int))):=
 cond (decide (0<h)) ((slc a1 0 h).bind fun k=>
(jJ G k).bind fun z=>
 cond z.2 (some (.done h)) (some (.next (wi (h-1))))) (some (.done h))
def yW (a0:Colltable_table) (z:Int) (H:Int) (k:Int) (h:(List Int)):Option (Stp (Int×Int×Int×(List Int)) ((Int×(List Int)))):=
(pv (decide (k<(h.length:Int)))).bind fun ab=>
 cond (ab&&(decide (H<a0.top))) (((z7 h k).bind fun T=>
(wO a0 T).bind fun Y=>
 cond (decide (Y=0)) (some (.inl (()))) (cond (decide (Y≤H)) (some (.inr ((z,H,h)))) ((slc h 0 z).bind fun ac=>
(app ac [T]).bind fun O=>
(jJ a0 O).bind fun ad=>
 cond (!ad.2) (some (.inr ((z,Y,h)))) ((slc h (wi (z+1)) (wi (k+1))).bind fun ah=>
(slc h z k).bind fun ai=>
(z7 (cpM h (wi (z+1)) (wi (k+1)) z k) z).bind fun ag=>
(uQ (cpM h (wi (z+1)) (wi (k+1)) z k) z T).bind fun G=>
 some (.inr ((wi (z+1),H,G))))))).bind fun (Z:(Unit)⊕(Int×Int×(List Int)))=>
 Z.elim (fun Z=>some (.done (z,h))) (fun Z=>some (.next (Z.1,Z.2.1,wi (k+1),Z.2.2)))) (some (.done (z,h)))
def wP (h:Colltable_table) (a1:(List Int)):Option (Int×(List Element)×Bool×(List Int)):=
(zC (fun (x:Int)=>kY a1 h x) (min h.longest (a1.length:Int))).bind fun (T:Int)=>
 cond (decide (T=0)) ((z7 a1 (0:Int)).bind fun H=>
(jV h H).bind fun O=>
 some (1,O,false,a1)) ((zC (fun (x:Int×Int×Int×(List Int))=>yW h x.1 x.2.1 x.2.2.1 x.2.2.2) (T,0,T,a1)).bind fun (G:Int×(List Int))=>
(slc G.2 0 G.1).bind fun k=>
(jJ h k).bind fun z=>
 some (G.1,z.1,true,G.2))
def jX (O:Colltable_table) (h:(List Element)) (z:(List Int)):Option (Stp ((List Element)×(List Int)) (((List Element)))):=
 cond (decide (0<(z.length:Int))) ((wP O z).bind fun H=>
(app h H.2.1).bind fun k=>
(slc H.2.2.2 H.1 (H.2.2.2.length)).bind fun G=>
 some (.next (k,G))) (some (.done h))
def wY (G:Norm) (a1:Collation) (a2:(List Int)):Option ((List Element)):=
(zDI a1).bind fun h=>
(vP h G).bind fun k=>
(zBW G a2 false).bind fun z=>
(zC (fun (x:(List Element)×(List Int))=>jX k x.1 x.2) ([],z)).bind fun (H:(List Element))=>
 some H
def zEE (h:Options):Option (Int):=
(pv (decide (h.Strength<1))).bind fun k=>
 cond (k ||(decide (4<h.Strength))) (some 1) ((cond (decide (h.Variable=1)) (some (decide (h.Variable=1))) (cond (decide (h.Variable=2)) (some (decide (h.Variable=2))) (some (decide (h.Variable=3))))).bind fun (z:Bool)=>
 cond z (some 0) (some 8))
def zA7 (h:Options):Option (Options):=
(zEE h).bind fun k=>
 cond (!decide (k=0)) (some ({Strength:=3,Variable:=1,Backward:=false,Identical:=false}:Options)) (some h)
def uN (h:Element) (a1:Int) (a2:Bool):Option (A4Int×Bool):=
(cond (!decide (({x0:=({x0:=h.Primary,x1:=h.Secondary,x2:=h.Tertiary,x3:=0}:A4Int).x0,x1:=({x0:=h.Primary,x1:=h.Secondary,x2:=h.Tertiary,x3:=0}:A4Int).x1,x2:=({x0:=h.Primary,x1:=h.Secondary,x2:=h.Tertiary,x3:=0}:A4Int).x2,x3:=({x0:=h.Primary,x1:=h.Secondary,x2:=h.Tertiary,x3:=0}:A4Int).x3}:A4Int)=({x0:=0,x1:=0,x2:=0,x3:=0}:A4Int))) (some 65535) (some (({x0:=h.Primary,x1:=h.Secondary,x2:=h.Tertiary,x3:=0}:A4Int).x3))).bind fun (z:Int)=>
 cond (decide (a1=1)) (some (({x0:=({x0:=h.Primary,x1:=h.Secondary,x2:=h.Tertiary,x3:=0}:A4Int).x0,x1:=({x0:=h.Primary,x1:=h.Secondary,x2:=h.Tertiary,x3:=0}:A4Int).x1,x2:=({x0:=h.Primary,x1:=h.Secondary,x2:=h.Tertiary,x3:=0}:A4Int).x2,x3:=z}:A4Int),a2)) ((cond h.Variable (some (({x0:=0,x1:=0,x2:=0,x3:=h.Primary}:A4Int).x0,({x0:=0,x1:=0,x2:=0,x3:=h.Primary}:A4Int).x1,({x0:=0,x1:=0,x2:=0,x3:=h.Primary}:A4Int).x2,({x0:=0,x1:=0,x2:=0,x3:=h.Primary}:A4Int).x3,true)) (cond (!decide (h.Primary=0)) (some (({x0:=h.Primary,x1:=h.Secondary,x2:=h.Tertiary,x3:=0}:A4Int).x0,({x0:=h.Primary,x1:=h.Secondary,x2:=h.Tertiary,x3:=0}:A4Int).x1,({x0:=h.Primary,x1:=h.Secondary,x2:=h.Tertiary,x3:=0}:A4Int).x2,z,false)) (cond a2 (some (({x0:=0,x1:=0,x2:=0,x3:=0}:A4Int).x0,({x0:=0,x1:=0,x2:=0,x3:=0}:A4Int).x1,({x0:=0,x1:=0,x2:=0,x3:=0}:A4Int).x2,({x0:=0,x1:=0,x2:=0,x3:=0}:A4Int).x3,a2)) (some (({x0:=h.Primary,x1:=h.Secondary,x2:=h.Tertiary,x3:=0}:A4Int).x0,({x0:=h.Primary,x1:=h.Secondary,x2:=h.Tertiary,x3:=0}:A4Int).x1,({x0:=h.Primary,x1:=h.Secondary,x2:=h.Tertiary,x3:=0}:A4Int).x2,z,a2))))).bind fun (k:Int×Int×Int×Int×Bool)=>
(cond (decide (a1=2)) (some 0) (some k.2.2.2.1)).bind fun (G:Int)=>
 some (({x0:=k.1,x1:=k.2.1,x2:=k.2.2.1,x3:=G}:A4Int),k.2.2.2.2))
def zC7 (h:Int):Option (Unit):=
 some ()
def jK (G:Int) (H:Int) (k:(List Int)):Option (Stp (Int×Int×(List Int)) (((List Int)))):=
 cond (decide (G<H)) ((z7 k H).bind fun O=>
(z7 k G).bind fun T=>
(z7 k G).bind fun Y=>
(uQ k G O).bind fun h=>
(z7 h H).bind fun Z=>
(uQ h H T).bind fun z=>
 some (.next (wi (G+1),wi (H-1),z))) (some (.done k))
def xD (h:(List Int)):Option ((List Int)):=
(zC (fun (x:Int×Int×(List Int))=>jK x.1 x.2.1 x.2.2) (0,wi ((h.length:Int)-1),h)).bind fun (k:(List Int))=>
 some k
def jL (h:A4Int×Bool) (ab:Int) (k:(List Int)) (z:(List Int)) (G:(List Int)) (H:(List Int)):Option (Stp (Int×(List Int)×(List Int)×(List Int)×(List Int)) (((List Int)×(List Int)×(List Int)×(List Int)))):=
 cond (decide (ab=0)) (((z7 [h.1.x0,h.1.x1,h.1.x2,h.1.x3] (0:Int)).bind fun O=>
 cond (!decide (O=0)) ((app k [O]).bind fun Y=>
 some Y) (some k)).bind fun (y3:(List Int))=>
 some (.next (wi ((0:Int)+1),y3,z,G,H))) (cond (decide (ab=1)) (((z7 [h.1.x0,h.1.x1,h.1.x2,h.1.x3] (1:Int)).bind fun O=>
 cond (!decide (O=0)) ((app z [O]).bind fun Z=>
 some Z) (some z)).bind fun (y5:(List Int))=>
 some (.next (wi ((1:Int)+1),k,y5,G,H))) (cond (decide (ab=2)) (((z7 [h.1.x0,h.1.x1,h.1.x2,h.1.x3] (2:Int)).bind fun O=>
 cond (!decide (O=0)) ((app G [O]).bind fun aa=>
 some aa) (some G)).bind fun (y7:(List Int))=>
 some (.next (wi ((2:Int)+1),k,z,y7,H))) (cond (decide (ab=3)) (((z7 [h.1.x0,h.1.x1,h.1.x2,h.1.x3] (3:Int)).bind fun O=>
 cond (!decide (O=0)) ((app H [O]).bind fun T=>
 some T) (some H)).bind fun (y9:(List Int))=>
 some (.next (wi ((3:Int)+1),k,z,G,y9))) (cond (decide (ab=4)) (some (.done (k,z,G,H))) (none)))))
def wZ (a0:(List Element)) (Z:Options) (O:Int) (h:Bool) (k:(List Int)) (z:(List Int)) (G:(List Int)) (H:(List Int)):Option (Stp (Int×Bool×(List Int)×(List Int)×(List Int)×(List Int)) (((List Int)×(List Int)×(List Int)×(List Int)))):=
 cond (decide (O<(a0.length:Int))) ((z7 a0 O).bind fun aa=>
(uN aa Z.Variable h).bind fun T=>
(zC (fun (x:Int×(List Int)×(List Int)×(List Int)×(List Int))=>jL T x.1 x.2.1 x.2.2.1 x.2.2.2.1 x.2.2.2.2) (0,k,z,G,H)).bind fun (Y:(List Int)×(List Int)×(List Int)×(List Int))=>
 some (.next (wi (O+1),T.2,Y.1,Y.2.1,Y.2.2.1,Y.2.2.2))) (some (.done (k,z,G,H)))
def zCT (T:(List Element)) (a1:Options):Option ((List (List Int))):=
(zA7 ({Strength:=a1.Strength,Variable:=a1.Variable,Backward:=a1.Backward,Identical:=a1.Identical}:Options)).bind fun z=>
(zC7 z.Variable).bind fun Y=>
(zC (fun (x:Int×Bool×(List Int)×(List Int)×(List Int)×(List Int))=>wZ T z x.1 x.2.1 x.2.2.1 x.2.2.2.1 x.2.2.2.2.1 x.2.2.2.2.2) (0,false,[],[],[],[])).bind fun (h:(List Int)×(List Int)×(List Int)×(List Int))=>
(cond z.Backward ((xD h.2.1).bind fun H=>
 some H) (some h.2.1)).bind fun (G:(List Int))=>
(slc [({x0:=h.1,x1:=G,x2:=h.2.2.1,x3:=h.2.2.2}:A4ListInt).x0,({x0:=h.1,x1:=G,x2:=h.2.2.1,x3:=h.2.2.2}:A4ListInt).x1,({x0:=h.1,x1:=G,x2:=h.2.2.1,x3:=h.2.2.2}:A4ListInt).x2,({x0:=h.1,x1:=G,x2:=h.2.2.1,x3:=h.2.2.2}:A4ListInt).x3] 0 z.Strength).bind fun O=>
(app [] O).bind fun k=>
 some k
def zAH (O:(List (List Int))) (Z:Int×Int) (k:Int) (h:(List Int)):Option (Stp (Int×(List Int)) (((List Int)))):=
 cond (decide (k<(O.length:Int))) ((z7 O k).bind fun H=>
(cond (decide (0<k)) ((app h [0]).bind fun z=>
 some z) (some h)).bind fun (y3:(List Int))=>
(cond (decide (k=1)) ((jY H Z.1).bind fun T=>
 some T) (cond (decide (k=2)) ((jY H Z.2).bind fun Y=>
 some Y) (some H))).bind fun (y5:(List Int))=>
(app y3 y5).bind fun G=>
 some (.next (wi (k+1),G))) (some (.done h))
def zEW (G:Norm) (a1:Collation) (a2:Options) (H:(List Int)):Option ((List Int)):=
(uI a1).bind fun h=>
(cond (!decide (h=0)) (some (32,2)) (some (a1.Second,a1.Third))).bind fun (O:Int×Int)=>
(wY G a1 H).bind fun k=>
(zCT k a2).bind fun z=>
(zC (fun (x:Int×(List Int))=>zAH z O x.1 x.2) (0,[])).bind fun (T:(List Int))=>
 some T
def xY (h:Int):Option (Bool):=
(pv (decide (0≤h))).bind fun k=>
 some (k&&(decide (h≤1114111)))
def zHS:Option ((List Range)):=
 some [({Lo:=4352,Hi:=4370}:Range),({Lo:=4449,Hi:=4469}:Range),({Lo:=4520,Hi:=4546}:Range),({Lo:=44032,Hi:=55203}:Range)]
def zBY (k:(List Span)) (h:Int):Option (Stp (Int) ((Unit)⊕(Int))):=
 cond (decide (h<(k.length:Int))) ((z7 k h).bind fun T=>
(xY T.Lo).bind fun Y=>
(pv (!Y)).bind fun z=>
(gM (!z) (z7 k h)).bind fun Z=>
(gM (!z) (xY Z.Hi)).bind fun aa=>
(pv (z ||(!aa))).bind fun G=>
(gM (!G) (z7 k h)).bind fun ab=>
(gM (!G) (z7 k h)).bind fun ac=>
(pv (G ||(decide (ac.Hi<ab.Lo)))).bind fun H=>
(gM (!H) (z7 k h)).bind fun ad=>
(pv (H ||(decide (ad.Value<1)))).bind fun O=>
(gM (!O) (z7 k h)).bind fun ag=>
 cond (O ||(decide (254<ag.Value))) (some (.done (.inr (1)))) (some (.next (wi (h+1))))) (some (.done (.inl (()))))
def zBZ (z:(List Span)) (k:Int):Option (Stp (Int) ((Unit)⊕(Int))):=
 cond (decide (k<(z.length:Int))) ((z7 z k).bind fun O=>
(z7 z (wi (k-1))).bind fun T=>
(pv (decide (O.Lo≤T.Hi))).bind fun h=>
(gM (!h) (z7 z k)).bind fun Y=>
(gM (!h) (z7 z (wi (k-1)))).bind fun Z=>
(pv (decide (Y.Lo=(wi (Z.Hi+1))))).bind fun G=>
(gM (!h&&G) (z7 z k)).bind fun aa=>
(gM (!h&&G) (z7 z (wi (k-1)))).bind fun H=>
 cond (h ||(G&&(decide (aa.Value=H.Value)))) (some (.done (.inr (4)))) (some (.next (wi (k+1))))) (some (.done (.inl (()))))
def vQ (k:(List Range)) (Y:(List Span)) (Z:Int) (T:Int):Option (Stp (Int) ((Unit)⊕(Int))):=
 cond (decide (T<(k.length:Int))) ((z7 Y Z).bind fun z=>
(z7 k T).bind fun G=>
(pv (decide (z.Lo≤G.Hi))).bind fun h=>
(gM h (z7 k T)).bind fun H=>
(gM h (z7 Y Z)).bind fun O=>
 cond (h&&(decide (H.Lo≤O.Hi))) (some (.done (.inr (11)))) (some (.next (wi (T+1))))) (some (.done (.inl (()))))
def zB0 (G:(List Span)) (h:(List Range)) (z:Int):Option (Stp (Int) ((Unit)⊕(Int))):=
 cond (decide (z<(G.length:Int))) ((zC (fun (x:Int)=>vQ h G z x) 0).bind fun (k:(Unit)⊕(Int))=>
 k.elim (fun k=>some (.next (wi (z+1)))) (fun k=>some (.done (.inr (k))))) (some (.done (.inl (()))))
def zEX (H:(List Span)):Option (Int):=
(zC (fun (x:Int)=>zBY H x) 0).bind fun (k:(Unit)⊕(Int))=>
 k.elim (fun k=>(zC (fun (x:Int)=>zBZ H x) 1).bind fun (z:(Unit)⊕(Int))=>
 z.elim (fun z=>(zHS).bind fun h=>
(zC (fun (x:Int)=>zB0 H h x) 0).bind fun (G:(Unit)⊕(Int))=>
 G.elim (fun G=>some 0) (fun G=>some G)) (fun z=>some z)) (fun k=>some k)
def zB1 (G:Mapping) (z:Int):Option (Stp (Int) ((Unit)⊕(Bool))):=
 cond (decide (z<(G.To.length:Int))) ((z7 G.To z).bind fun h=>
(xY h).bind fun k=>
 cond (!k) (some (.done (.inr (false)))) (some (.next (wi (z+1))))) (some (.done (.inl (()))))
def zGX (z:Mapping):Option (Bool):=
(zC (fun (x:Int)=>zB1 z x) 0).bind fun (h:(Unit)⊕(Bool))=>
 h.elim (fun h=>(xY z.From).bind fun k=>
 some k) (fun h=>some h)
def zGK (Z:Str) (Y:Int):Option (Stp (Int) ((Unit)⊕(Bool))):=
 cond (decide (Y<(Z.length:Int))) ((z03 Z Y).bind fun h=>
(pv (decide (65≤h))).bind fun k=>
(pv (k&&(decide (h≤90)))).bind fun z=>
(pv (decide (97≤h))).bind fun G=>
(pv (z ||(G&&(decide (h≤122))))).bind fun H=>
(pv (decide (48≤h))).bind fun O=>
(pv (H ||(O&&(decide (h≤57))))).bind fun T=>
 cond (!(T ||(decide (h=95)))) (some (.done (.inr (false)))) (some (.next (wi (Y+1))))) (some (.done (.inl (()))))
def zFW (k:Str):Option (Bool):=
(zC (fun (x:Int)=>zGK k x) 0).bind fun (h:(Unit)⊕(Bool))=>
 h.elim (fun h=>(pv (decide (1≤(k.length:Int)))).bind fun z=>
 some (z&&(decide ((k.length:Int)≤32)))) (fun h=>some h)
def vR (Y:Int) (k:(List Mapping)) (z:Int):Option (Stp (Int) ((Unit)⊕(Bool))):=
 cond (decide (z<Y)) ((z7 k Y).bind fun G=>
(z7 k z).bind fun H=>
(pv (decide (G.From=H.From))).bind fun h=>
(gM h (z7 k Y)).bind fun O=>
(gM h (z7 k z)).bind fun T=>
 cond (h&&(O.Tag==T.Tag)) (some (.done (.inr (true)))) (some (.next (wi (z+1))))) (some (.done (.inl (()))))
def zB2 (z:(List Mapping)) (k:Int):Option (Stp (Int) ((Unit)⊕(Bool))):=
 cond (decide (k<(z.length:Int))) ((zC (fun (x:Int)=>vR k z x) 0).bind fun (h:(Unit)⊕(Bool))=>
 h.elim (fun h=>some (.next (wi (k+1)))) (fun h=>some (.done (.inr (h))))) (some (.done (.inl (()))))
def zGY (k:(List Mapping)):Option (Bool):=
(zC (fun (x:Int)=>zB2 k x) 0).bind fun (h:(Unit)⊕(Bool))=>
 h.elim (fun h=>some false) (fun h=>some h)
def uD (G:(List Mapping)) (z:Int):Option (Stp (Int) ((Unit)⊕(Int))):=
 cond (decide (z<(G.length:Int))) ((z7 G z).bind fun h=>
(zGX h).bind fun k=>
 cond (!k) (some (.done (.inr (1)))) (some (.next (wi (z+1))))) (some (.done (.inl (()))))
def uE (z:(List Mapping)) (k:Int):Option (Stp (Int) ((Unit)⊕(Int))):=
 cond (decide (k<(z.length:Int))) ((z7 z k).bind fun h=>
 cond (decide (64<(h.To.length:Int))) (some (.done (.inr (2)))) (some (.next (wi (k+1))))) (some (.done (.inl (()))))
def uF (z:(List Mapping)) (k:Int):Option (Stp (Int) ((Unit)⊕(Int))):=
 cond (decide (k<(z.length:Int))) ((z7 z k).bind fun G=>
(pv (!(G.Tag== []))).bind fun h=>
(gM h (z7 z k)).bind fun H=>
(gM h (zFW H.Tag)).bind fun O=>
 cond (h&&(!O)) (some (.done (.inr (6)))) (some (.next (wi (k+1))))) (some (.done (.inl (()))))
def zDL (h:(List Mapping)):Option (Int):=
(zC (fun (x:Int)=>uD h x) 0).bind fun (k:(Unit)⊕(Int))=>
 k.elim (fun k=>(zC (fun (x:Int)=>uE h x) 0).bind fun (z:(Unit)⊕(Int))=>
 z.elim (fun z=>(zC (fun (x:Int)=>uF h x) 0).bind fun (G:(Unit)⊕(Int))=>
 G.elim (fun G=>(zGY h).bind fun H=>
 cond H (some 5) (some 0)) (fun G=>some G)) (fun z=>some z)) (fun k=>some k)
def zHT (h:Mapping) (a1:Mapping):Option (Bool):=
(pv (decide (h.From<a1.From))).bind fun k=>
(pv (decide (h.From=a1.From))).bind fun z=>
 some (k ||(z&&(Op.bytesLess h.Tag a1.Tag)))
def zB3 (k:(List Mapping)) (h:Int):Option (Stp (Int) ((Unit)⊕(Int))):=
 cond (decide (h<(k.length:Int))) ((z7 k (wi (h-1))).bind fun z=>
(z7 k h).bind fun G=>
(zHT z G).bind fun H=>
 cond (!H) (some (.done (.inr (4)))) (some (.next (wi (h+1))))) (some (.done (.inl (()))))
def zGZ (k:(List Mapping)):Option (Int):=
(zDL k).bind fun z=>
 cond (!decide (z=0)) (some z) ((zC (fun (x:Int)=>zB3 k x) 1).bind fun (h:(Unit)⊕(Int))=>
 h.elim (fun h=>some 0) (fun h=>some h))
def jI (O:(List Int)) (a1:Int) (v6:Bool) (H:Int) (h:(List Int)):Option (Stp (Bool×Int×(List Int)) ((Bool×(List Int)))):=
 cond (decide (H<(O.length:Int))) ((pv (!v6)).bind fun G=>
(gM G (z7 O H)).bind fun T=>
(cond (G&&(decide (a1≤T))) ((z7 O H).bind fun Y=>
 cond (decide (a1<Y)) ((app h [a1]).bind fun k=>
 some (true,k)) (some (true,h))) (some (v6,h))).bind fun (y2:Bool×(List Int))=>
(z7 O H).bind fun Z=>
(app y2.2 [Z]).bind fun z=>
 some (.next (y2.1,wi (H+1),z))) (some (.done (v6,h)))
def zDM (z:(List Int)) (a1:Int):Option ((List Int)):=
(zC (fun (x:Bool×Int×(List Int))=>jI z a1 x.1 x.2.1 x.2.2) (false,0,[])).bind fun (k:Bool×(List Int))=>
(cond (!k.1) ((app k.2 [a1]).bind fun h=>
 some h) (some k.2)).bind fun (G:(List Int))=>
 some G
def vB (a1:Set) (Y:(List Int)) (z:Int):Option (Stp ((List Int)×Int) (((List Int)))):=
 cond (decide (z<(a1.Ranges.length:Int))) (((z7 a1.Ranges z).bind fun k=>
(z7 a1.Ranges z).bind fun h=>
(xY k.Lo).bind fun H=>
(cond H ((zDM Y k.Lo).bind fun O=>
 some O) (some Y)).bind fun (Z:(List Int))=>
(pv (decide (0≤h.Hi))).bind fun G=>
 cond (G&&(decide (h.Hi<1114111))) ((zDM Z (wi (h.Hi+1))).bind fun T=>
 some T) (some Z)).bind fun (y2:(List Int))=>
 some (.next (y2,wi (z+1)))) (some (.done Y))
def zFX (k:(List Int)) (a1:Set):Option ((List Int)):=
(zC (fun (x:(List Int)×Int)=>vB a1 x.1 x.2) (k,0)).bind fun (z:(List Int))=>
(zDM z 0).bind fun h=>
 some h
def zDV (G:Set) (a1:Int) (z:Int):Option (Stp (Int) ((Unit)⊕(Bool))):=
 cond (decide (z<(G.Ranges.length:Int))) ((xY a1).bind fun H=>
(pv H).bind fun h=>
(gM h (z7 G.Ranges z)).bind fun O=>
(pv (h&&(decide (O.Lo≤a1)))).bind fun k=>
(gM k (z7 G.Ranges z)).bind fun T=>
 cond (k&&(decide (a1≤T.Hi))) (some (.done (.inr (true)))) (some (.next (wi (z+1))))) (some (.done (.inl (()))))
def zFY (k:Set) (a1:Int):Option (Bool):=
(zC (fun (x:Int)=>zDV k a1 x) 0).bind fun (h:(Unit)⊕(Bool))=>
 h.elim (fun h=>some false) (fun h=>some h)
def zI7 (G:Int) (a1:Bool) (a2:Bool):Option (Bool):=
 cond (decide (G=1)) ((pv a1).bind fun h=>
 some (h ||a2)) (cond (decide (G=2)) ((pv a1).bind fun k=>
 some (k&&a2)) ((pv a1).bind fun z=>
 some (z&&(!a2))))
def k8 (z:(List Int)) (a0:Set) (a1:Set) (a2:Int) (v9:Bool) (k:Int) (h:(List Range)):Option (Stp (Bool×Int×(List Range)) (((List Range)))):=
 cond (decide (k<(z.length:Int))) ((cond (decide ((wi (k+1))<(z.length:Int))) ((z7 z (wi (k+1))).bind fun Z=>
 some (wi (Z-1))) (some 1114111)).bind fun (y2:Int)=>
(z7 z k).bind fun aa=>
(zFY a0 aa).bind fun ab=>
(z7 z k).bind fun ac=>
(zFY a1 ac).bind fun ad=>
(zI7 a2 ab ad).bind fun O=>
(pv O).bind fun T=>
(cond (T&&v9) ((z7 h (wi ((h.length:Int)-1))).bind fun ag=>
(uQ h (wi ((h.length:Int)-1)) ({ag with Hi:=y2})).bind fun G=>
 some G) (some h)).bind fun (y3:(List Range))=>
(pv O).bind fun Y=>
(cond (Y&&(!v9)) ((z7 z k).bind fun ah=>
(app y3 [({Lo:=ah,Hi:=y2}:Range)]).bind fun H=>
 some H) (some y3)).bind fun (y5:(List Range))=>
 some (.next (O,wi (k+1),y5))) (some (.done h))
def zGL (z:Set) (a1:Set) (a2:Int):Option (Set):=
(zFX [] z).bind fun h=>
(zFX h a1).bind fun k=>
(zC (fun (x:Bool×Int×(List Range))=>k8 k z a1 a2 x.1 x.2.1 x.2.2) (false,0,[])).bind fun (G:(List Range))=>
 some ({Ranges:=G}:Set)
def zIE (h:(List Range)):Option (Set):=
(zGL ({Ranges:=h}:Set) ({Ranges:=[]}:Set) 1).bind fun k=>
 some k
def zCY (G:Set) (a1:Set) (h:Int):Option (Stp (Int) ((Unit)⊕(Bool))):=
 cond (decide (h<(G.Ranges.length:Int))) ((z7 G.Ranges h).bind fun k=>
(z7 a1.Ranges h).bind fun z=>
 cond (!decide (k=z)) (some (.done (.inr (false)))) (some (.next (wi (h+1))))) (some (.done (.inl (()))))
def zIF (k:Set) (a1:Set):Option (Bool):=
 cond (!decide ((k.Ranges.length:Int)=(a1.Ranges.length:Int))) (some false) ((zC (fun (x:Int)=>zCY k a1 x) 0).bind fun (h:(Unit)⊕(Bool))=>
 h.elim (fun h=>some true) (fun h=>some h))
def zG0 (h:Set):Option (Bool):=
(zIE h.Ranges).bind fun k=>
(zIF h k).bind fun z=>
 some z
def zCZ (G:(List Mapping)) (a1:Int) (a2:Bool) (z:Int):Option (Stp (Int) ((Unit)⊕(Int))):=
 cond (decide (z<(G.length:Int))) ((z7 G z).bind fun H=>
(pv (decide (H.From=a1))).bind fun h=>
(pv a2).bind fun k=>
(gM (h&& !k) (z7 G z)).bind fun O=>
 cond (h&&(k ||(O.Tag== []))) (some (.done (.inr (z)))) (some (.next (wi (z+1))))) (some (.done (.inl (()))))
def zDN (k:(List Mapping)) (a1:Int) (a2:Bool):Option (Int):=
(zC (fun (x:Int)=>zCZ k a1 a2 x) 0).bind fun (h:(Unit)⊕(Int))=>
 h.elim (fun h=>some (-1)) (fun h=>some h)
def zFZ (h:Int):Option (Int):=
(pv (decide (4352≤h))).bind fun O=>
 cond (O&&(decide (h≤4370))) (some 1) ((pv (decide (4449≤h))).bind fun k=>
 cond (k&&(decide (h≤4469))) (some 2) ((pv (decide (4520≤h))).bind fun z=>
 cond (z&&(decide (h≤4546))) (some 3) ((pv (decide (44032≤h))).bind fun G=>
 cond (G&&(decide (h≤55203))) ((zD3 (wi (h-44032)) 28).bind fun H=>
 cond (decide (H=0)) (some 4) (some 5)) (some 0))))
def wF (z:(List Span)) (a1:Int) (k:Int):Option (Stp (Int) ((Unit)⊕(Int))):=
 cond (decide (k<(z.length:Int))) ((z7 z k).bind fun G=>
(pv (decide (G.Lo≤a1))).bind fun h=>
(gM h (z7 z k)).bind fun H=>
 cond (h&&(decide (a1≤H.Hi))) ((z7 z k).bind fun O=>
 some (.done (.inr (O.Value)))) (some (.next (wi (k+1))))) (some (.done (.inl (()))))
def zA8 (k:(List Span)) (a1:Int):Option (Int):=
(zEX k).bind fun z=>
 cond (!decide (z=0)) (some 0) ((zC (fun (x:Int)=>wF k a1 x) 0).bind fun (h:(Unit)⊕(Int))=>
 h.elim (fun h=>some 0) (fun h=>some h))
def vC (G:(List Mapping)) (v5:Int) (H:(List Bool)) (v6:Bool) (v7:Int):Option (Stp (Bool×Int) ((Bool))):=
(z7 G v5).bind fun O=>
 cond (decide (v7<(O.To.length:Int))) ((z7 G v5).bind fun T=>
(z7 T.To v7).bind fun Y=>
(zDN G Y true).bind fun z=>
(pv v6).bind fun h=>
(pv (decide (z<0))).bind fun k=>
(gM (h&& !k) (z7 H z)).bind fun Z=>
 some (.next ((h&&(k ||Z)),wi (v7+1)))) (some (.done v6))
def zBI (G:(List Mapping)) (z:Int) (h:(List Bool)):Option (Stp (Int×(List Bool)) (((List Bool)))):=
 cond (decide (z<(G.length:Int))) ((zC (fun (x:Bool×Int)=>vC G z h x.1 x.2) (true,0)).bind fun (O:Bool)=>
(z7 h z).bind fun H=>
(uQ h z O).bind fun k=>
 some (.next (wi (z+1),k))) (some (.done h))
def zBJ (k:(List Mapping)) (z:Int) (h:(List Bool)):Option (Stp (Int×(List Bool)) (((List Bool)))):=
 cond (decide (z<(k.length:Int))) ((zC (fun (x:Int×(List Bool))=>zBI k x.1 x.2) (0,h)).bind fun (G:(List Bool))=>
 some (.next (wi (z+1),G))) (some (.done h))
def zIG (k:(List Mapping)):Option ((List Bool)):=
(mkM false (k.length:Int)).bind fun h=>
(zC (fun (x:Int×(List Bool))=>zBJ k x.1 x.2) (0,h)).bind fun (z:(List Bool))=>
 some z
def zAW (k:Int):Option ((List Int)):=
(zFZ k).bind fun Z=>
 cond (decide (Z<4)) (some [k]) ((zIX wi (wi (k-44032)) 28).bind fun H=>
(zIX wi H 21).bind fun z=>
(zIX wi (wi (k-44032)) 28).bind fun O=>
(zD3 O 21).bind fun G=>
(zD3 (wi (k-44032)) 28).bind fun T=>
(cond (decide (0<T)) ((zD3 (wi (k-44032)) 28).bind fun Y=>
(app [wi (4352+z),wi (4449+G)] [wi ((wi (4520+Y))-1)]).bind fun h=>
 some h) (some [wi (4352+z),wi (4449+G)])).bind fun (y1:(List Int))=>
 some y1)
def xE (k:(List Mapping)) (v7:Int) (a1:Bool) (G:(List Int)) (v8:Int) (z:Int):Option (Stp (Int×Int) ((Int))):=
(z7 k v7).bind fun H=>
 cond (decide (z<(H.To.length:Int))) (((z7 k v7).bind fun O=>
(z7 O.To z).bind fun T=>
(zDN k T a1).bind fun h=>
 cond (decide (0≤h)) ((z7 G h).bind fun Y=>
 some (wi (v8+Y))) ((z7 k v7).bind fun Z=>
(z7 Z.To z).bind fun aa=>
(zAW aa).bind fun ab=>
 some (wi (v8+(ab.length:Int))))).bind fun (y5:Int)=>
 some (.next (y5,wi (z+1)))) (some (.done v8))
def w6 (H:(List Mapping)) (a1:Bool) (z:Int) (k:(List Int)):Option (Stp (Int×(List Int)) (((List Int)))):=
 cond (decide (z<(H.length:Int))) (((zC (fun (x:Int×Int)=>xE H z a1 k x.1 x.2) (0,0)).bind fun (y4:Int)=>
(z7 k z).bind fun Y=>
(uQ k z (min (max y4 1) 65)).bind fun h=>
(z7 H z).bind fun T=>
(pv (!(T.Tag== []))).bind fun O=>
 cond (O&&(!a1)) ((z7 h z).bind fun Z=>
(uQ h z 1).bind fun G=>
 some G) (some h)).bind fun (y3:(List Int))=>
 some (.next (wi (z+1),y3))) (some (.done k))
def w7 (k:(List Mapping)) (a1:Bool) (z:Int) (h:(List Int)):Option (Stp (Int×(List Int)) (((List Int)))):=
 cond (decide (z<(k.length:Int))) ((zC (fun (x:Int×(List Int))=>w6 k a1 x.1 x.2) (0,h)).bind fun (G:(List Int))=>
 some (.next (wi (z+1),G))) (some (.done h))
def zC0 (k:(List Mapping)) (a1:Bool):Option ((List Int)):=
(mkM 0 (k.length:Int)).bind fun h=>
(zC (fun (x:Int×(List Int))=>w7 k a1 x.1 x.2) (0,h)).bind fun (z:(List Int))=>
 some z
def zB4 (k:Norm) (h:Int):Option (Stp (Int) ((Unit)⊕(Int))):=
 cond (decide (h<(k.Decomp.length:Int))) ((z7 k.Decomp h).bind fun z=>
(zDN k.Decomp z.From true).bind fun G=>
 cond (decide (G<h)) (some (.done (.inr (5)))) (some (.next (wi (h+1))))) (some (.done (.inl (()))))
def zB5 (G:Norm) (z:Int):Option (Stp (Int) ((Unit)⊕(Int))):=
 cond (decide (z<(G.Decomp.length:Int))) ((z7 G.Decomp z).bind fun H=>
(pv (H.Tag== [])).bind fun h=>
(gM h (z7 G.Decomp z)).bind fun O=>
(pv (h&&(!decide ((O.To.length:Int)=1)))).bind fun k=>
(gM k (z7 G.Decomp z)).bind fun T=>
 cond (k&&(!decide ((T.To.length:Int)=2))) (some (.done (.inr (8)))) (some (.next (wi (z+1))))) (some (.done (.inl (()))))
def zB6 (z:Norm) (O:Int):Option (Stp (Int) ((Unit)⊕(Int))):=
 cond (decide (O<(z.Decomp.length:Int))) ((z7 z.Decomp O).bind fun T=>
(zFZ T.From).bind fun Y=>
(pv (!decide (Y=0))).bind fun h=>
(gM (!h) (z7 z.Decomp O)).bind fun Z=>
(pv (!(Z.Tag== []))).bind fun k=>
(gM (!h&&k) (z7 z.Decomp O)).bind fun G=>
(gM (!h&&k) (zA8 z.Classes G.From)).bind fun H=>
 cond (h ||(k&&(!decide (H=0)))) (some (.done (.inr (11)))) (some (.next (wi (O+1))))) (some (.done (.inl (()))))
def zB7 (G:Norm) (k:(List Bool)) (h:Int):Option (Stp (Int) ((Unit)⊕(Int))):=
 cond (decide (h<(G.Decomp.length:Int))) ((z7 k h).bind fun z=>
 cond (!z) (some (.done (.inr (12)))) (some (.next (wi (h+1))))) (some (.done (.inl (()))))
def zB8 (T:Norm) (z:(List Int)) (G:(List Int)) (h:Int):Option (Stp (Int) ((Unit)⊕(Int))):=
 cond (decide (h<(T.Decomp.length:Int))) ((z7 z h).bind fun H=>
(pv (decide (64<H))).bind fun k=>
(gM (!k) (z7 G h)).bind fun O=>
 cond (k ||(decide (64<O))) (some (.done (.inr (13)))) (some (.next (wi (h+1))))) (some (.done (.inl (()))))
def zG1 (h:Norm):Option (Int):=
(zEX h.Classes).bind fun H=>
 cond (!decide (H=0)) (some H) ((zGZ h.Decomp).bind fun O=>
 cond (!decide (O=0)) (some O) ((zG0 h.Excluded).bind fun ac=>
 cond (!ac) (some 11) ((zC (fun (x:Int)=>zB4 h x) 0).bind fun (T:(Unit)⊕(Int))=>
 T.elim (fun T=>(zC (fun (x:Int)=>zB5 h x) 0).bind fun (Y:(Unit)⊕(Int))=>
 Y.elim (fun Y=>(zC (fun (x:Int)=>zB6 h x) 0).bind fun (Z:(Unit)⊕(Int))=>
 Z.elim (fun Z=>(zIG h.Decomp).bind fun k=>
(zC (fun (x:Int)=>zB7 h k x) 0).bind fun (y4:(Unit)⊕(Int))=>
 y4.elim (fun y4=>(zC0 h.Decomp false).bind fun z=>
(zC0 h.Decomp true).bind fun G=>
(zC (fun (x:Int)=>zB8 h z G x) 0).bind fun (y5:(Unit)⊕(Int))=>
 y5.elim (fun y5=>some 0) (fun y5=>some y5)) (fun y4=>some y4)) (fun Z=>some Z)) (fun Y=>some Y)) (fun T=>some T))))
def zF0 (h:Norm):Option (Norm):=
(zG1 h).bind fun k=>
 cond (!decide (k=0)) (some ({Classes:=({Classes:=[],Decomp:=[],Excluded:=(({Ranges:=[]}):Set)}:Norm).Classes,Decomp:=({Classes:=[],Decomp:=[],Excluded:=(({Ranges:=[]}):Set)}:Norm).Decomp,Excluded:=({Ranges:=(({Classes:=[],Decomp:=[],Excluded:=(({Ranges:=[]}):Set)}:Norm).Excluded).Ranges}:Set)}:Norm)) (some h)
def zE8 (h:Int):Option (Bool):=
(pv (decide (1≤h))).bind fun k=>
 some (k&&(decide (h≤65535)))
def zAX (G:Collation) (z:Int):Option (Stp (Int) ((Unit)⊕(Int))):=
 cond (decide (z<(G.Groups.length:Int))) ((z7 G.Groups z).bind fun h=>
(zFW h.Name).bind fun k=>
 cond (!k) (some (.done (.inr (6)))) (some (.next (wi (z+1))))) (some (.done (.inl (()))))
def zAY (H:Int) (G:Collation) (z:Int):Option (Stp (Int) ((Unit)⊕(Int))):=
 cond (decide (z<H)) ((z7 G.Groups z).bind fun h=>
(z7 G.Groups H).bind fun k=>
 cond (h.Name==k.Name) (some (.done (.inr (5)))) (some (.next (wi (z+1))))) (some (.done (.inl (()))))
def zAZ (z:Collation) (k:Int):Option (Stp (Int) ((Unit)⊕(Int))):=
 cond (decide (k<(z.Groups.length:Int))) ((zC (fun (x:Int)=>zAY k z x) 0).bind fun (h:(Unit)⊕(Int))=>
 h.elim (fun h=>some (.next (wi (k+1)))) (fun h=>some (.done (.inr (h))))) (some (.done (.inl (()))))
def zA0 (k:Collation) (z:Int):Option (Stp (Int) ((Unit)⊕(Int))):=
 cond (decide (z<(k.Groups.length:Int))) ((z7 k.Groups z).bind fun H=>
(pv (decide (H.Lo<1))).bind fun h=>
(gM (!h) (z7 k.Groups z)).bind fun O=>
(gM (!h) (z7 k.Groups z)).bind fun T=>
(pv (h ||(decide (O.Hi<T.Lo)))).bind fun G=>
(gM (!G) (z7 k.Groups z)).bind fun Y=>
 cond (G ||(decide (k.Base≤Y.Hi))) (some (.done (.inr (1)))) (some (.next (wi (z+1))))) (some (.done (.inl (()))))
def uJ (k:Collation) (h:Int):Option (Stp (Int) ((Unit)⊕(Int))):=
 cond (decide (h<(k.Groups.length:Int))) ((z7 k.Groups h).bind fun z=>
(z7 k.Groups (wi (h-1))).bind fun G=>
 cond (!decide (z.Lo=(wi (G.Hi+1)))) (some (.done (.inr (4)))) (some (.next (wi (h+1))))) (some (.done (.inl (()))))
def zE9 (h:Collation):Option (Int):=
(zC (fun (x:Int)=>zAX h x) 0).bind fun (k:(Unit)⊕(Int))=>
 k.elim (fun k=>(zC (fun (x:Int)=>zAZ h x) 0).bind fun (z:(Unit)⊕(Int))=>
 z.elim (fun z=>(zC (fun (x:Int)=>zA0 h x) 0).bind fun (G:(Unit)⊕(Int))=>
 G.elim (fun G=>(zC (fun (x:Int)=>uJ h x) 1).bind fun (H:(Unit)⊕(Int))=>
 H.elim (fun H=>some 0) (fun H=>some H)) (fun G=>some G)) (fun z=>some z)) (fun k=>some k)
def zDW (h:Int):Option (Bool):=
(pv (decide (0≤h))).bind fun k=>
 some (k&&(decide (h≤65535)))
def zG2 (h:Element):Option (Int):=
(zDW h.Primary).bind fun t5=>
(pv (!t5)).bind fun b7=>
(gM (!b7) (zDW h.Secondary)).bind fun Z=>
(pv (b7 ||(!Z))).bind fun k=>
(gM (!k) (zDW h.Tertiary)).bind fun aa=>
 cond (k ||(!aa)) (some 1) ((pv (!decide (h.Primary=0))).bind fun z=>
(pv (decide (h.Secondary=0))).bind fun G=>
(pv (z&&(G ||(decide (h.Tertiary=0))))).bind fun H=>
(pv (!decide (h.Secondary=0))).bind fun O=>
(pv (H ||(O&&(decide (h.Tertiary=0))))).bind fun T=>
(pv h.Variable).bind fun Y=>
 cond (T ||(Y&&(decide (h.Primary=0)))) (some 11) (some 0))
def zFA (h:Entry) (G:Int):Option (Stp (Int) ((Unit)⊕(Int))):=
 cond (decide (G<(h.Codes.length:Int))) ((z7 h.Codes G).bind fun k=>
(xY k).bind fun z=>
 cond (!z) (some (.done (.inr (1)))) (some (.next (wi (G+1))))) (some (.done (.inl (()))))
def zB9 (h:Entry) (G:Int):Option (Stp (Int) ((Unit)⊕(Int))):=
 cond (decide (G<(h.Elements.length:Int))) ((z7 h.Elements G).bind fun z=>
(zG2 z).bind fun k=>
 cond (!decide (k=0)) (some (.done (.inr (k)))) (some (.next (wi (G+1))))) (some (.done (.inl (()))))
def zFB (h:Entry) (G:Collation) (z:Int):Option (Stp (Int) ((Unit)⊕(Int))):=
 cond (decide (z<(h.Elements.length:Int))) ((z7 h.Elements z).bind fun k=>
 cond (decide (G.Base≤k.Primary)) (some (.done (.inr (1)))) (some (.next (wi (z+1))))) (some (.done (.inl (()))))
def zG3 (O:Collation) (a1:Int):Option (Int):=
(z7 O.Entries a1).bind fun h=>
(pv (decide ((h.Codes.length:Int)<1))).bind fun T=>
(pv (T ||(decide (8<(h.Codes.length:Int))))).bind fun Y=>
 cond (Y ||(decide (16<(h.Elements.length:Int)))) (some 2) ((zC (fun (x:Int)=>zFA h x) 0).bind fun (z:(Unit)⊕(Int))=>
 z.elim (fun z=>(zC (fun (x:Int)=>zB9 h x) 0).bind fun (G:(Unit)⊕(Int))=>
 G.elim (fun G=>(zC (fun (x:Int)=>zFB h O x) 0).bind fun (H:(Unit)⊕(Int))=>
 H.elim (fun H=>(pv (decide (0<a1))).bind fun k=>
(gM k (z7 O.Entries (wi (a1-1)))).bind fun Z=>
(gM k (uS Z.Codes h.Codes)).bind fun aa=>
 cond (k&&(decide (0≤aa))) (some 4) (some 0)) (fun H=>some H)) (fun G=>some G)) (fun z=>some z))
def zCA (z:Collation) (k:Int):Option (Stp (Int) ((Unit)⊕(Int))):=
 cond (decide (k<(z.Entries.length:Int))) ((zG3 z k).bind fun h=>
 cond (!decide (h=0)) (some (.done (.inr (h)))) (some (.next (wi (k+1))))) (some (.done (.inl (()))))
def zEY (h:Collation):Option (Int):=
(pv (decide (h.Base<1))).bind fun Y=>
(pv (Y ||(decide (65502<h.Base)))).bind fun k=>
(gM (!k) (zE8 h.Second)).bind fun O=>
(pv (k ||(!O))).bind fun z=>
(gM (!z) (zE8 h.Third)).bind fun T=>
 cond (z ||(!T)) (some 1) ((zE9 h).bind fun G=>
 cond (!decide (G=0)) (some G) ((zC (fun (x:Int)=>zCA h x) 0).bind fun (H:(Unit)⊕(Int))=>
 H.elim (fun H=>some 0) (fun H=>some H)))
def zF1 (h:Collation):Option (Collation):=
(zEY h).bind fun k=>
 cond (!decide (k=0)) (some ({Entries:=[],Groups:=[],Base:=64448,Second:=32,Third:=2}:Collation)) (some h)
def jB (a2:(List Int)) (a0:(List Mapping)) (a3:Bool) (a1:(List (List Int))) (G:Int) (h:(List Int)):Option (Stp (Int×(List Int)) (((List Int)))):=
 cond (decide (G<(a2.length:Int))) (((z7 a2 G).bind fun O=>
(zDN a0 O a3).bind fun H=>
 cond (decide (0≤H)) ((z7 a1 H).bind fun T=>
(app h T).bind fun k=>
 some k) ((z7 a2 G).bind fun Y=>
(zAW Y).bind fun Z=>
(app h Z).bind fun z=>
 some z)).bind fun (y2:(List Int))=>
 some (.next (wi (G+1),y2))) (some (.done h))
def vS (h:(List Mapping)) (a1:(List (List Int))) (a2:(List Int)) (k:Bool):Option ((List Int)):=
(zC (fun (x:Int×(List Int))=>jB a2 h k a1 x.1 x.2) (0,[])).bind fun (z:(List Int))=>
 some z
def zAI (H:(List Mapping)) (a1:Bool) (z:Int) (h:(List (List Int))):Option (Stp (Int×(List (List Int))) (((List (List Int))))):=
 cond (decide (z<(H.length:Int))) (((pv a1).bind fun G=>
(gM (!G) (z7 H z)).bind fun O=>
 cond (G ||(O.Tag== [])) ((z7 H z).bind fun T=>
(vS H h T.To a1).bind fun Y=>
(z7 h z).bind fun Z=>
(uQ h z Y).bind fun k=>
 some k) (some h)).bind fun (y3:(List (List Int)))=>
 some (.next (wi (z+1),y3))) (some (.done h))
def zAJ (k:(List Mapping)) (a1:Bool) (z:Int) (h:(List (List Int))):Option (Stp (Int×(List (List Int))) (((List (List Int))))):=
 cond (decide (z<(k.length:Int))) ((zC (fun (x:Int×(List (List Int)))=>zAI k a1 x.1 x.2) (0,h)).bind fun (G:(List (List Int)))=>
 some (.next (wi (z+1),G))) (some (.done h))
def zG4 (k:(List Mapping)) (a1:Bool):Option ((List (List Int))):=
(mkM [] (k.length:Int)).bind fun h=>
(zC (fun (x:Int×(List (List Int)))=>zAJ k a1 x.1 x.2) (0,h)).bind fun (z:(List (List Int)))=>
 some z
def zIH (z:Norm) (a1:(List Int)) (a2:Bool):Option ((List Int)):=
(zG4 z.Decomp a2).bind fun h=>
(vS z.Decomp h a1 a2).bind fun k=>
 some k
def uU (O:Int) (a0:(List Span)) (a1:(List Int)) (v6:Int) (G:Int) (h:(List Int)):Option (Stp (Int×(List Int)) (((List Int)))):=
(pv (decide (0<G))).bind fun T=>
(pv (T&&(decide (0<O)))).bind fun H=>
(gM H (z7 h (wi (G-1)))).bind fun Y=>
(gM H (zA8 a0 Y)).bind fun Z=>
 cond (H&&(decide (O<Z))) ((z7 h (wi (G-1))).bind fun aa=>
(z7 h G).bind fun ad=>
(uQ h G aa).bind fun k=>
(z7 a1 v6).bind fun ab=>
(z7 k (wi (G-1))).bind fun ag=>
(uQ k (wi (G-1)) ab).bind fun z=>
 some (.next (wi (G-1),z))) (some (.done h))
def vD (a1:(List Int)) (T:(List Span)) (z:Int) (k:(List Int)):Option (Stp (Int×(List Int)) (((List Int)))):=
 cond (decide (z<(a1.length:Int))) ((z7 a1 z).bind fun G=>
(app k [G]).bind fun h=>
(z7 a1 z).bind fun H=>
(zA8 T H).bind fun O=>
(zC (fun (x:Int×(List Int))=>uU O T a1 z x.1 x.2) (wi ((h.length:Int)-1),h)).bind fun (Y:(List Int))=>
 some (.next (wi (z+1),Y))) (some (.done k))
def zF2 (h:(List Span)) (a1:(List Int)):Option ((List Int)):=
(zC (fun (x:Int×(List Int))=>vD a1 h x.1 x.2) (0,[])).bind fun (k:(List Int))=>
 some k
def zF3 (G:Norm) (a1:(List Int)) (a2:Bool):Option ((List Int)):=
(zF0 G).bind fun z=>
(zIH z a1 a2).bind fun h=>
(zF2 z.Classes h).bind fun k=>
 some k
def zC1 (z:Collation) (a1:(List Int)) (k:Int):Option (Stp (Int) ((Unit)⊕(Bool×(List Element)))):=
 cond (decide (k<(z.Entries.length:Int))) ((z7 z.Entries k).bind fun G=>
(uT G.Codes a1).bind fun H=>
 cond H ((z7 z.Entries k).bind fun O=>
(app [] O.Elements).bind fun h=>
 some (.done (.inr ((true,h))))) (some (.next (wi (k+1))))) (some (.done (.inl (()))))
def zDO (k:Collation) (a1:(List Int)):Option ((List Element)×Bool):=
(zC (fun (x:Int)=>zC1 k a1 x) 0).bind fun (h:(Unit)⊕(Bool×(List Element)))=>
 h.elim (fun h=>some ([],false)) (fun h=>some (h.2,h.1))
def zEF (h:(List Span)) (a1:Int):Option (Bool):=
(zA8 h a1).bind fun k=>
 some (decide (k=0))
def zF4 (z:(List Int)) (a1:Int):Option ((List Int)):=
(app [] z).bind fun h=>
(app h [a1]).bind fun k=>
 some k
def xF (a2:(List Int)) (a1:Collation) (G:Int) (h:Int):Option (Stp (Int×Int) ((Int))):=
 cond (decide (h≤(a2.length:Int))) (((slc a2 0 h).bind fun k=>
(zDO a1 k).bind fun z=>
 cond z.2 (some h) (some G)).bind fun (H:Int)=>
 some (.next (H,wi (h+1)))) (some (.done G))
def xZ (a2:(List Int)) (a0:(List Span)) (a1:Collation) (G:(List Int)) (O:Int) (h:Int) (k:(List Int)):Option (Stp ((List Int)×Int×Int×(List Int)) (((List Int)×Int×(List Int)))):=
(pv (decide (h<(a2.length:Int)))).bind fun H=>
(gM H (z7 a2 h)).bind fun Z=>
(gM H (zEF a0 Z)).bind fun aa=>
 cond (H&&(!aa)) ((z7 a2 h).bind fun ab=>
(zA8 a0 ab).bind fun T=>
(z7 a2 h).bind fun ac=>
(zF4 G ac).bind fun ad=>
(zDO a1 ad).bind fun ag=>
(pv ag.2).bind fun Y=>
(cond (Y&&(decide (O<T))) ((z7 a2 h).bind fun ah=>
(zF4 G ah).bind fun ai=>
 some (ai,O,k)) ((z7 a2 h).bind fun aj=>
(app k [aj]).bind fun z=>
 some (G,max O T,z))).bind fun (y5:(List Int)×Int×(List Int))=>
 some (.next (y5.1,y5.2.1,wi (h+1),y5.2.2))) (some (.done (G,h,k)))
def zEG (Z:(List Span)) (a1:Collation) (a2:(List Int)):Option ((List Int)×(List Int)×Bool):=
(zC (fun (x:Int×Int)=>xF a2 a1 x.1 x.2) (0,1)).bind fun (T:Int)=>
 cond (decide (T=0)) ((slc a2 0 1).bind fun G=>
(slc a2 1 (a2.length)).bind fun H=>
 some (G,H,false)) ((slc a2 0 T).bind fun O=>
(app [] O).bind fun k=>
(zC (fun (x:(List Int)×Int×Int×(List Int))=>xZ a2 Z a1 x.1 x.2.1 x.2.2.1 x.2.2.2) (k,0,T,[])).bind fun (Y:(List Int)×Int×(List Int))=>
(slc a2 Y.2.1 (a2.length)).bind fun z=>
(app Y.2.2 z).bind fun h=>
 some (Y.1,h,true))
def zDP (G:Collation) (a1:Int):Option ((List Element)):=
(xY a1).bind fun H=>
 cond (!H) (some []) ((zF1 G).bind fun h=>
(zIX wi a1 32768).bind fun k=>
(zD3 a1 32768).bind fun z=>
 some [({Primary:=wi (h.Base+k),Secondary:=h.Second,Tertiary:=h.Third,Variable:=false}:Element),({Primary:=wi (32768+z),Secondary:=0,Tertiary:=0,Variable:=false}:Element)])
def vE (Y:Norm) (G:Collation) (a1:Collation) (H:(List Int)) (O:Bool) (h:(List Element)):Option (Stp ((List Int)×Bool×(List Element)) ((Bool×(List Element)))):=
 cond (decide (0<(H.length:Int))) ((zEG Y.Classes G H).bind fun z=>
(z7 z.1 (0:Int)).bind fun Z=>
(zDP a1 Z).bind fun aa=>
(cond z.2.2 ((zDO G z.1).bind fun ab=>
 some ab.1) (some aa)).bind fun (y2:(List Element))=>
(app h y2).bind fun k=>
(pv O).bind fun T=>
 some (.next (z.2.1,(T&&z.2.2),k))) (some (.done (O,h)))
def zII (G:Norm) (a1:Collation) (a2:(List Int)):Option ((List Element)×Bool):=
(zF0 G).bind fun h=>
(zF1 a1).bind fun k=>
(zF3 G a2 false).bind fun z=>
(zC (fun (x:(List Int)×Bool×(List Element))=>vE h k a1 x.1 x.2.1 x.2.2) (z,true,[])).bind fun (H:Bool×(List Element))=>
 some (H.2,H.1)
def vT (k:Norm) (a1:Collation) (a2:(List Int)):Option ((List Element)):=
(zII k a1 a2).bind fun h=>
 some h.1
def zG5 (h:Options):Option (Int):=
(pv (decide (h.Strength<1))).bind fun z=>
 cond (z ||(decide (4<h.Strength))) (some 1) ((pv (decide (h.Variable<1))).bind fun k=>
 cond (k ||(decide (3<h.Variable))) (some 8) (some 0))
def zC2 (h:Options):Option (Options):=
(zG5 h).bind fun k=>
 cond (!decide (k=0)) (some ({Strength:=3,Variable:=1,Backward:=false,Identical:=false}:Options)) (some h)
def u7 (a0:(List Element)) (a1:Int) (v6:Bool) (v7:Int) (k:(List A4Int)):Option (Stp (Bool×Int×(List A4Int)) (((List A4Int)))):=
 cond (decide (v7<(a0.length:Int))) ((z7 a0 v7).bind fun h=>
(pv (decide (h.Primary=0))).bind fun O=>
(pv (O&&(decide (h.Secondary=0)))).bind fun G=>
(pv h.Variable).bind fun T=>
(cond (T ||(!decide (h.Primary=0))) (some h.Variable) (some v6)).bind fun (y2:Bool)=>
(cond (decide (a1=1)) (cond (!(G&&(decide (h.Tertiary=0)))) (some (({x0:=h.Primary,x1:=h.Secondary,x2:=h.Tertiary,x3:=0}:A4Int).x0,({x0:=h.Primary,x1:=h.Secondary,x2:=h.Tertiary,x3:=0}:A4Int).x1,({x0:=h.Primary,x1:=h.Secondary,x2:=h.Tertiary,x3:=0}:A4Int).x2,65535)) (some (({x0:=h.Primary,x1:=h.Secondary,x2:=h.Tertiary,x3:=0}:A4Int).x0,({x0:=h.Primary,x1:=h.Secondary,x2:=h.Tertiary,x3:=0}:A4Int).x1,({x0:=h.Primary,x1:=h.Secondary,x2:=h.Tertiary,x3:=0}:A4Int).x2,({x0:=h.Primary,x1:=h.Secondary,x2:=h.Tertiary,x3:=0}:A4Int).x3))) (cond y2 ((pv (decide (a1=3))).bind fun Y=>
 cond (Y&&h.Variable) (some (({x0:=0,x1:=0,x2:=0,x3:=0}:A4Int).x0,({x0:=0,x1:=0,x2:=0,x3:=0}:A4Int).x1,({x0:=0,x1:=0,x2:=0,x3:=0}:A4Int).x2,h.Primary)) (some (({x0:=0,x1:=0,x2:=0,x3:=0}:A4Int).x0,({x0:=0,x1:=0,x2:=0,x3:=0}:A4Int).x1,({x0:=0,x1:=0,x2:=0,x3:=0}:A4Int).x2,({x0:=0,x1:=0,x2:=0,x3:=0}:A4Int).x3))) ((pv (decide (a1=3))).bind fun Z=>
 cond (Z&&(!(G&&(decide (h.Tertiary=0))))) (some (({x0:=h.Primary,x1:=h.Secondary,x2:=h.Tertiary,x3:=0}:A4Int).x0,({x0:=h.Primary,x1:=h.Secondary,x2:=h.Tertiary,x3:=0}:A4Int).x1,({x0:=h.Primary,x1:=h.Secondary,x2:=h.Tertiary,x3:=0}:A4Int).x2,65535)) (some (({x0:=h.Primary,x1:=h.Secondary,x2:=h.Tertiary,x3:=0}:A4Int).x0,({x0:=h.Primary,x1:=h.Secondary,x2:=h.Tertiary,x3:=0}:A4Int).x1,({x0:=h.Primary,x1:=h.Secondary,x2:=h.Tertiary,x3:=0}:A4Int).x2,({x0:=h.Primary,x1:=h.Secondary,x2:=h.Tertiary,x3:=0}:A4Int).x3))))).bind fun (H:Int×Int×Int×Int)=>
(app k [({x0:=H.1,x1:=H.2.1,x2:=H.2.2.1,x3:=H.2.2.2}:A4Int)]).bind fun z=>
 some (.next (y2,wi (v7+1),z))) (some (.done k))
def zEH (h:(List Element)) (a1:Int):Option ((List A4Int)):=
(zC (fun (x:Bool×Int×(List A4Int))=>u7 h a1 x.1 x.2.1 x.2.2) (false,0,[])).bind fun (k:(List A4Int))=>
 some k
def u9 (z:(List A4Int)) (v7:Int) (Y:Options) (O:Int) (h:(List Int)):Option (Stp (Int×(List Int)) (((List Int)))):=
 cond (decide (O<(z.length:Int))) (((pv (decide (v7=1))).bind fun T=>
(cond (T&&Y.Backward) (some (wi ((wi ((z.length:Int)-1))-O))) (some O)).bind fun (y4:Int)=>
(z7 z y4).bind fun G=>
(z7 [G.x0,G.x1,G.x2,G.x3] v7).bind fun Z=>
 cond (!decide (Z=0)) ((z7 z y4).bind fun H=>
(z7 [H.x0,H.x1,H.x2,H.x3] v7).bind fun aa=>
(app h [aa]).bind fun k=>
 some k) (some h)).bind fun (y3:(List Int))=>
 some (.next (wi (O+1),y3))) (some (.done h))
def zAA (z:Options) (G:(List A4Int)) (H:Int) (h:(List (List Int))):Option (Stp (Int×(List (List Int))) (((List (List Int))))):=
 cond (decide (H<z.Strength)) ((zC (fun (x:Int×(List Int))=>u9 G H z x.1 x.2) (0,[])).bind fun (O:(List Int))=>
(app h [O]).bind fun k=>
 some (.next (wi (H+1),k))) (some (.done h))
def zC3 (z:(List Element)) (a1:Options):Option ((List (List Int))):=
(zC2 ({Strength:=a1.Strength,Variable:=a1.Variable,Backward:=a1.Backward,Identical:=a1.Identical}:Options)).bind fun h=>
(zEH z h.Variable).bind fun k=>
(zC (fun (x:Int×(List (List Int)))=>zAA h k x.1 x.2) (0,[])).bind fun (G:(List (List Int)))=>
 some G
def zFC (h:Int):Option (Int):=
(pv (decide (h<1))).bind fun k=>
 cond (k ||(decide (65535<h))) (some 65535) (some h)
def zAK (O:(List Int)) (H:Int) (h:(List Int)):Option (Stp (Int×(List Int)) (((List Int)))):=
 cond (decide (H<(O.length:Int))) (((z7 O H).bind fun T=>
(pv (decide (T<0))).bind fun G=>
(gM (!G) (z7 O H)).bind fun Y=>
 cond (G ||(decide (65535<Y))) ((app h [0]).bind fun k=>
 some k) ((z7 O H).bind fun Z=>
(app h [Z]).bind fun z=>
 some z)).bind fun (y2:(List Int))=>
 some (.next (wi (H+1),y2))) (some (.done h))
def zG6 (h:(List Int)):Option ((List Int)):=
(zC (fun (x:Int×(List Int))=>zAK h x.1 x.2) (0,[])).bind fun (k:(List Int))=>
 some k
def zBK (O:Int) (k:(List Int)) (G:Int) (z:Int):Option (Stp (Int) ((Int))):=
(pv (decide ((wi (O+z))<(k.length:Int)))).bind fun h=>
(gM h (z7 k (wi (O+z)))).bind fun H=>
 cond (h&&(decide (H=G))) (some (.next (wi (z+1)))) (some (.done z))
def uV (O:Int) (z:Int) (H:Int) (h:(List Int)):Option (Stp (Int×(List Int)) (((List Int)))):=
(zIX wi O 8).bind fun G=>
 cond (decide (H<G)) ((app h [wi (z+7)]).bind fun k=>
 some (.next (wi (H+1),k))) (some (.done h))
def kP (k:(List Int)) (H:Int) (Y:Int) (h:(List Int)):Option (Stp (Int×(List Int)) (((List Int)))):=
 cond (decide (Y<(k.length:Int))) (((zC (fun (x:Int)=>zBK Y k H x) 0).bind fun (Z:Int)=>
(cond (decide (0<Z)) ((zC (fun (x:Int×(List Int))=>uV Z H x.1 x.2) (0,h)).bind fun (y5:(List Int))=>
(zD3 Z 8).bind fun ah=>
(pv (decide (0<ah))).bind fun ab=>
(pv (decide ((wi (Y+Z))=(k.length:Int)))).bind fun ac=>
(gM (ab&& !ac) (z7 k (wi (Y+Z)))).bind fun ai=>
(cond (ab&&(ac ||(decide (ai<H)))) ((zD3 Z 8).bind fun aj=>
(app y5 [wi ((wi (H+aj))-1)]).bind fun O=>
 some O) ((zD3 Z 8).bind fun ak=>
 cond (decide (0<ak)) ((zD3 Z 8).bind fun al=>
(app y5 [wi ((wi (H+15))-al)]).bind fun T=>
 some T) (some y5))).bind fun (y7:(List Int))=>
 some (.inl ((wi (Y+Z),y7)))) ((z7 k Y).bind fun am=>
 cond (decide (am<H)) ((z7 k Y).bind fun ad=>
(app h [ad]).bind fun z=>
 some (.inr (z))) ((z7 k Y).bind fun ag=>
(app h [wi (ag+14)]).bind fun G=>
 some (.inr (G))))).bind fun (y4:(Int×(List Int))⊕((List Int)))=>
 y4.elim (fun y4=>some (y4.1,y4.2)) (fun y4=>some (wi (Y+1),y4))).bind fun (y2:Int×(List Int))=>
 some (.next (y2.1,y2.2))) (some (.done h))
def zF5 (z:(List Int)) (a1:Int):Option ((List Int)):=
(zFC a1).bind fun h=>
(zG6 z).bind fun k=>
(zC (fun (x:Int×(List Int))=>kP k h x.1 x.2) (0,[])).bind fun (G:(List Int))=>
 some G
def zC4 (O:(List (List Int))) (G:Int) (h:(List Int)):Option (Stp (Int×(List Int)) (((List Int)))):=
 cond (decide (G<(O.length:Int))) ((cond (decide (0<G)) ((app h [0]).bind fun k=>
 some k) (some h)).bind fun (T:(List Int))=>
(z7 O G).bind fun H=>
(app T H).bind fun z=>
 some (.next (wi (G+1),z))) (some (.done h))
def zF6 (h:(List (List Int))):Option ((List Int)):=
(zC (fun (x:Int×(List Int))=>zC4 h x.1 x.2) (0,[])).bind fun (k:(List Int))=>
 some k
def zCJ (y1:Int×Int) (k:Int) (h:(List (List Int))):Option (Stp (Int×(List (List Int))) (((List (List Int))))):=
 cond (decide (k<(h.length:Int))) (((cond (decide (k=1)) ((z7 h k).bind fun O=>
(zF5 O y1.1).bind fun T=>
(z7 h k).bind fun ab=>
(uQ h k T).bind fun z=>
 some z) (some h)).bind fun (H:(List (List Int)))=>
 cond (decide (k=2)) ((z7 H k).bind fun Y=>
(zF5 Y y1.2).bind fun Z=>
(z7 H k).bind fun ac=>
(uQ H k Z).bind fun G=>
 some G) (some H)).bind fun (y3:(List (List Int)))=>
 some (.next (wi (k+1),y3))) (some (.done h))
def zJY (H:Norm) (a1:Collation) (a2:Options) (O:(List Int)):Option ((List Int)):=
(vT H a1 O).bind fun h=>
(zC3 h a2).bind fun k=>
(zEY a1).bind fun z=>
(cond (!decide (z=0)) (some (32,2)) (some (a1.Second,a1.Third))).bind fun (T:Int×Int)=>
(zC (fun (x:Int×(List (List Int)))=>zCJ T x.1 x.2) (0,k)).bind fun (Y:(List (List Int)))=>
(zF6 Y).bind fun G=>
 some G
def zDX (G:(List Int)) (z:Int) (h:(List Int)):Option (Stp (Int×(List Int)) (((List Int)))):=
 cond (decide (z<(G.length:Int))) (((z7 G z).bind fun H=>
(xY H).bind fun O=>
 cond O ((z7 G z).bind fun T=>
(app h [wi (T+1)]).bind fun k=>
 some k) (some h)).bind fun (Y:(List Int))=>
 some (.next (wi (z+1),Y))) (some (.done h))
def zF7 (T:Norm) (a1:Collation) (a2:Options) (Y:(List Int)):Option ((List Int)):=
(zC2 ({Strength:=a2.Strength,Variable:=a2.Variable,Backward:=a2.Backward,Identical:=a2.Identical}:Options)).bind fun k=>
(vT T a1 Y).bind fun G=>
(zC3 G ({Strength:=k.Strength,Variable:=k.Variable,Backward:=k.Backward,Identical:=k.Identical}:Options)).bind fun H=>
(zF6 H).bind fun z=>
 cond (!k.Identical) (some z) ((app z [0]).bind fun h=>
(zF3 T Y false).bind fun O=>
(zC (fun (x:Int×(List Int))=>zDX O x.1 x.2) (0,h)).bind fun (Z:(List Int))=>
 some Z)
def zC8 (h:Unicodetextlaw44_Data) (a1:(List Int)) (a2:(List Int)):Option (Bool):=
(zGV h).bind fun O=>
(pv (!O)).bind fun G=>
(pv (G ||(decide (10<(a1.length:Int))))).bind fun H=>
 cond (H ||(decide (10<(a2.length:Int)))) ((zEV).bind fun T=>
 some T) ((zEW h.Norm h.Collation h.Options a1).bind fun z=>
(zEW h.Norm h.Collation h.Options a2).bind fun Y=>
(zJY h.Norm h.Collation h.Options a1).bind fun Z=>
(uT z Z).bind fun aa=>
 cond (!aa) (some false) ((zF7 h.Norm h.Collation ({Strength:=h.Options.Strength,Variable:=h.Options.Variable,Backward:=h.Options.Backward,Identical:=false}:Options) a1).bind fun ab=>
(zF7 h.Norm h.Collation ({Strength:=h.Options.Strength,Variable:=h.Options.Variable,Backward:=h.Options.Backward,Identical:=false}:Options) a2).bind fun ac=>
(uS z Y).bind fun ad=>
(uS ab ac).bind fun ag=>
(pv (decide (ad=ag))).bind fun k=>
(gM k (zEV)).bind fun ah=>
 some (k&&ah)))
end
end Go.M


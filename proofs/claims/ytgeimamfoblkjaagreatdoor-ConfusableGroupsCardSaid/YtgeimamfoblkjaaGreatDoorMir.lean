/- Plain counterparts of the program's functions, printed from its form. Conditions: none. -/
import Derived.Test.YtgeimamfoblkjaaGreatDoorLa3
set_option linter.unusedSimpArgs false
set_option linter.unusedVariables false
set_option linter.unnecessarySimpa false
namespace Go.M
structure A3Int where
 x0:Int
 x1:Int
 x2:Int
 deriving DecidableEq,Inhabited
structure Range where
 Lo:Int
 Hi:Int
 deriving DecidableEq,Inhabited
structure A4Range where
 x0:Range
 x1:Range
 x2:Range
 x3:Range
 deriving DecidableEq,Inhabited
structure Mapping where
 From:Int
 To:(List Int)
 Tag:Str
 deriving DecidableEq,Inhabited
structure Mapping_key where
 from_:Int
 tag:Str
 deriving DecidableEq,Inhabited
structure Span where
 Lo:Int
 Hi:Int
 Value:Int
 deriving DecidableEq,Inhabited
structure Set where
 Ranges:(List Range)
 deriving DecidableEq,Inhabited
structure Norm where
 Classes:(List Span)
 Decomp:(List Mapping)
 Excluded:Set
 deriving DecidableEq,Inhabited
structure Normalize_steps where
 norm:Norm
 deriving DecidableEq,Inhabited
structure Property where
 Names:(List Str)
 Spans:(List Span)
 deriving DecidableEq,Inhabited
structure Unicodetextlaw41_Data where
 Norm:Norm
 Map:(List Mapping)
 deriving DecidableEq,Inhabited
structure Unicodetextlaw41_Pair where
 P:Property
 A:(List Int)
 B:(List Int)
 deriving DecidableEq,Inhabited
def zSG (x:Range):Prop:=(-9223372036854775808≤x.Lo∧x.Lo≤9223372036854775807)∧(-9223372036854775808≤x.Hi∧x.Hi≤9223372036854775807)
def zER (x:Mapping):Prop:=(-9223372036854775808≤x.From∧x.From≤9223372036854775807)∧(x.To.length≤9223372036854775807∧∀y0∈x.To,(-9223372036854775808≤y0∧y0≤9223372036854775807))∧(x.Tag.length≤9223372036854775807)
def okSpan (x:Span):Prop:=(-9223372036854775808≤x.Lo∧x.Lo≤9223372036854775807)∧(-9223372036854775808≤x.Hi∧x.Hi≤9223372036854775807)∧(-9223372036854775808≤x.Value∧x.Value≤9223372036854775807)
def zXP (x:Set):Prop:=(x.Ranges.length≤9223372036854775807∧∀y0∈x.Ranges,(zSG y0))
def vV (x:Norm):Prop:=(x.Classes.length≤9223372036854775807∧∀y0∈x.Classes,(okSpan y0))∧(x.Decomp.length≤9223372036854775807∧∀y0∈x.Decomp,(zER y0))∧(zXP x.Excluded)
def okProperty (x:Property):Prop:=(x.Names.length≤9223372036854775807∧∀y0∈x.Names,(y0.length≤9223372036854775807))∧(x.Spans.length≤9223372036854775807∧∀y0∈x.Spans,(okSpan y0))
def wA (x:Unicodetextlaw41_Data):Prop:=(vV x.Norm)∧(x.Map.length≤9223372036854775807∧∀y0∈x.Map,(zER y0))
end Go.M
namespace Go.AV
open Go.M
def wE (x:Mapping_key):Value:= .agg #[.int IntKind.i64 x.from_,.string ⟨x.tag.toArray⟩]
def eA3Int:En A3Int:=⟨fun x=> .agg [(di x.x0),(di x.x1),(di x.x2)],3,fun _=>rfl⟩
def eRange:En Range:=⟨fun x=> .agg [(di x.Lo),(di x.Hi)],2,fun _=>rfl⟩
def eA4Range:En A4Range:=⟨fun x=> .agg [(di x.x0.Lo),(di x.x0.Hi),(di x.x1.Lo),(di x.x1.Hi),(di x.x2.Lo),(di x.x2.Hi),(di x.x3.Lo),(di x.x3.Hi)],8,fun _=>rfl⟩
def eMapping:En Mapping:=⟨fun x=> .agg [(di x.From),(yH eI x.To),(ds x.Tag)],3,fun _=>rfl⟩
def eMapping_key:En Mapping_key:=⟨fun x=> .agg [(di x.from_),(ds x.tag)],2,fun _=>rfl⟩
def eSpan:En Span:=⟨fun x=> .agg [(di x.Lo),(di x.Hi),(di x.Value)],3,fun _=>rfl⟩
def eSet:En Set:=⟨fun x=> .agg [(yH eRange x.Ranges)],1,fun _=>rfl⟩
def eNorm:En Norm:=⟨fun x=> .agg [(yH eSpan x.Classes),(yH eMapping x.Decomp),(yH eRange x.Excluded.Ranges)],3,fun _=>rfl⟩
def eNormalize_steps:En Normalize_steps:=⟨fun x=> .agg [(yH eSpan x.norm.Classes),(yH eMapping x.norm.Decomp),(yH eRange x.norm.Excluded.Ranges)],3,fun _=>rfl⟩
def eProperty:En Property:=⟨fun x=> .agg [(yH eS x.Names),(yH eSpan x.Spans)],2,fun _=>rfl⟩
def eUnicodetextlaw41_Data:En Unicodetextlaw41_Data:=⟨fun x=> .agg [(yH eSpan x.Norm.Classes),(yH eMapping x.Norm.Decomp),(yH eRange x.Norm.Excluded.Ranges),(yH eMapping x.Map)],4,fun _=>rfl⟩
end Go.AV
namespace Go.M
open Go.AV
noncomputable section
def vW (a0:Norm) (v3:Int):Option (Stp (Int) ((Unit)⊕(Bool))):=
 cond (decide (v3<(a0.Decomp.length:Int))) ((kZ a0.Decomp v3).bind fun t31=>
(pv (decide (70<(t31.To.length:Int)))).bind fun b36=>
(gM (!b36) (kZ a0.Decomp v3)).bind fun t40=>
 cond (b36 ||(decide (40<(t40.Tag.length:Int)))) (some (.done (.inr (false)))) (some (.next (wi (v3+1))))) (some (.done (.inl (()))))
def zFB (a0:Norm):Option (Bool):=
(pv (decide (40<(a0.Classes.length:Int)))).bind fun b8=>
(pv (b8 ||(decide (40<(a0.Decomp.length:Int))))).bind fun b14=>
 cond (b14 ||(decide (12<(a0.Excluded.Ranges.length:Int)))) (some false) ((zX (fun (x:Int)=>vW a0 x) 0).bind fun (y1:(Unit)⊕(Bool))=>
 y1.elim (fun y1=>some true) (fun y1=>some y1))
def zBN (a0:(List Mapping)) (v3:Int):Option (Stp (Int) ((Unit)⊕(Bool))):=
(pv (decide (v3<(a0.length:Int)))).bind fun b8=>
 cond (b8&&(decide (v3<30))) ((kZ a0 v3).bind fun t16=>
(pv (decide (65<(t16.To.length:Int)))).bind fun b21=>
(gM (!b21) (kZ a0 v3)).bind fun t24=>
 cond (b21 ||(decide (40<(t24.Tag.length:Int)))) (some (.done (.inr (false)))) (some (.next (wi (v3+1))))) (some (.done (.inl (()))))
def zFC (a0:(List Mapping)):Option (Bool):=
(zX (fun (x:Int)=>zBN a0 x) 0).bind fun (y1:(Unit)⊕(Bool))=>
 y1.elim (fun y1=>some (decide ((a0.length:Int)≤20))) (fun y1=>some y1)
def zGB (a0:Unicodetextlaw41_Data):Option (Bool):=
(zFB a0.Norm).bind fun t5=>
(pv t5).bind fun b6=>
(gM b6 (zFC a0.Map)).bind fun t9=>
 some (b6&&t9)
def zA5 (a0:Int):Option (Bool):=
(pv (decide (0≤a0))).bind fun b5=>
 some (b5&&(decide (a0≤1114111)))
def zF3:Option ((List Range)):=
 some [({Lo:=4352,Hi:=4370}:Range),({Lo:=4449,Hi:=4469}:Range),({Lo:=4520,Hi:=4546}:Range),({Lo:=44032,Hi:=55203}:Range)]
def zBO (a0:(List Span)) (v3:Int):Option (Stp (Int) ((Unit)⊕(Int))):=
 cond (decide (v3<(a0.length:Int))) ((kZ a0 v3).bind fun t16=>
(zA5 t16.Lo).bind fun t19=>
(pv (!t19)).bind fun b21=>
(gM (!b21) (kZ a0 v3)).bind fun t24=>
(gM (!b21) (zA5 t24.Hi)).bind fun t27=>
(pv (b21 ||(!t27))).bind fun b30=>
(gM (!b30) (kZ a0 v3)).bind fun t33=>
(gM (!b30) (kZ a0 v3)).bind fun t38=>
(pv (b30 ||(decide (t38.Hi<t33.Lo)))).bind fun b43=>
(gM (!b43) (kZ a0 v3)).bind fun t46=>
(pv (b43 ||(decide (t46.Value<1)))).bind fun b51=>
(gM (!b51) (kZ a0 v3)).bind fun t54=>
 cond (b51 ||(decide (254<t54.Value))) (some (.done (.inr (1)))) (some (.next (wi (v3+1))))) (some (.done (.inl (()))))
def zBP (a0:(List Span)) (v4:Int):Option (Stp (Int) ((Unit)⊕(Int))):=
 cond (decide (v4<(a0.length:Int))) ((kZ a0 v4).bind fun t67=>
(kZ a0 (wi (v4-1))).bind fun t73=>
(pv (decide (t67.Lo≤t73.Hi))).bind fun b77=>
(gM (!b77) (kZ a0 v4)).bind fun t80=>
(gM (!b77) (kZ a0 (wi (v4-1)))).bind fun t86=>
(pv (decide (t80.Lo=(wi (t86.Hi+1))))).bind fun b91=>
(gM (!b77&&b91) (kZ a0 v4)).bind fun t94=>
(gM (!b77&&b91) (kZ a0 (wi (v4-1)))).bind fun t100=>
 cond (b77 ||(b91&&(decide (t94.Value=t100.Value)))) (some (.done (.inr (4)))) (some (.next (wi (v4+1))))) (some (.done (.inl (()))))
def vX (t106:(List Range)) (a0:(List Span)) (v6:Int) (v7:Int):Option (Stp (Int) ((Unit)⊕(Int))):=
 cond (decide (v7<(t106.length:Int))) ((kZ a0 v6).bind fun t121=>
(kZ t106 v7).bind fun t126=>
(pv (decide (t121.Lo≤t126.Hi))).bind fun b130=>
(gM b130 (kZ t106 v7)).bind fun t133=>
(gM b130 (kZ a0 v6)).bind fun t138=>
 cond (b130&&(decide (t133.Lo≤t138.Hi))) (some (.done (.inr (11)))) (some (.next (wi (v7+1))))) (some (.done (.inl (()))))
def zBQ (a0:(List Span)) (t106:(List Range)) (v6:Int):Option (Stp (Int) ((Unit)⊕(Int))):=
 cond (decide (v6<(a0.length:Int))) ((zX (fun (x:Int)=>vX t106 a0 v6 x) 0).bind fun (y4:(Unit)⊕(Int))=>
 y4.elim (fun y4=>some (.next (wi (v6+1)))) (fun y4=>some (.done (.inr (y4))))) (some (.done (.inl (()))))
def zD0 (a0:(List Span)):Option (Int):=
(zX (fun (x:Int)=>zBO a0 x) 0).bind fun (y1:(Unit)⊕(Int))=>
 y1.elim (fun y1=>(zX (fun (x:Int)=>zBP a0 x) 1).bind fun (y2:(Unit)⊕(Int))=>
 y2.elim (fun y2=>(zF3).bind fun t106=>
(zX (fun (x:Int)=>zBQ a0 t106 x) 0).bind fun (y3:(Unit)⊕(Int))=>
 y3.elim (fun y3=>some 0) (fun y3=>some y3)) (fun y2=>some y2)) (fun y1=>some y1)
def zBR (a0:Mapping) (v3:Int):Option (Stp (Int) ((Unit)⊕(Bool))):=
 cond (decide (v3<(a0.To.length:Int))) ((kZ a0.To v3).bind fun t14=>
(zA5 t14).bind fun t16=>
 cond (!t16) (some (.done (.inr (false)))) (some (.next (wi (v3+1))))) (some (.done (.inl (()))))
def zFD (a0:Mapping):Option (Bool):=
(zX (fun (x:Int)=>zBR a0 x) 0).bind fun (y1:(Unit)⊕(Bool))=>
 y1.elim (fun y1=>(zA5 a0.From).bind fun t20=>
 some t20) (fun y1=>some y1)
def zCL (a0:Str) (v3:Int):Option (Stp (Int) ((Unit)⊕(Bool))):=
 cond (decide (v3<(a0.length:Int))) ((zT7 a0 v3).bind fun t13=>
(pv (decide (65≤t13))).bind fun b16=>
(pv (b16&&(decide (t13≤90)))).bind fun b20=>
(pv (decide (97≤t13))).bind fun b23=>
(pv (b20 ||(b23&&(decide (t13≤122))))).bind fun b28=>
(pv (decide (48≤t13))).bind fun b31=>
(pv (b28 ||(b31&&(decide (t13≤57))))).bind fun b36=>
 cond (!(b36 ||(decide (t13=95)))) (some (.done (.inr (false)))) (some (.next (wi (v3+1))))) (some (.done (.inl (()))))
def zGL (a0:Str):Option (Bool):=
(zX (fun (x:Int)=>zCL a0 x) 0).bind fun (y1:(Unit)⊕(Bool))=>
 y1.elim (fun y1=>(pv (decide (1≤(a0.length:Int)))).bind fun b44=>
 some (b44&&(decide ((a0.length:Int)≤32)))) (fun y1=>some y1)
def vY (v3:Int) (a0:(List Mapping)) (v4:Int):Option (Stp (Int) ((Unit)⊕(Bool))):=
 cond (decide (v4<v3)) ((kZ a0 v3).bind fun t18=>
(kZ a0 v4).bind fun t23=>
(pv (decide (t18.From=t23.From))).bind fun b27=>
(gM b27 (kZ a0 v3)).bind fun t30=>
(gM b27 (kZ a0 v4)).bind fun t35=>
 cond (b27&&(t30.Tag==t35.Tag)) (some (.done (.inr (true)))) (some (.next (wi (v4+1))))) (some (.done (.inl (()))))
def zBS (a0:(List Mapping)) (v3:Int):Option (Stp (Int) ((Unit)⊕(Bool))):=
 cond (decide (v3<(a0.length:Int))) ((zX (fun (x:Int)=>vY v3 a0 x) 0).bind fun (y2:(Unit)⊕(Bool))=>
 y2.elim (fun y2=>some (.next (wi (v3+1)))) (fun y2=>some (.done (.inr (y2))))) (some (.done (.inl (()))))
def zFE (a0:(List Mapping)):Option (Bool):=
(zX (fun (x:Int)=>zBS a0 x) 0).bind fun (y1:(Unit)⊕(Bool))=>
 y1.elim (fun y1=>some false) (fun y1=>some y1)
def uI (a0:(List Mapping)) (v3:Int):Option (Stp (Int) ((Unit)⊕(Int))):=
 cond (decide (v3<(a0.length:Int))) ((kZ a0 v3).bind fun t14=>
(zFD t14).bind fun t16=>
 cond (!t16) (some (.done (.inr (1)))) (some (.next (wi (v3+1))))) (some (.done (.inl (()))))
def uJ (a0:(List Mapping)) (v4:Int):Option (Stp (Int) ((Unit)⊕(Int))):=
 cond (decide (v4<(a0.length:Int))) ((kZ a0 v4).bind fun t26=>
 cond (decide (64<(t26.To.length:Int))) (some (.done (.inr (2)))) (some (.next (wi (v4+1))))) (some (.done (.inl (()))))
def uK (a0:(List Mapping)) (v5:Int):Option (Stp (Int) ((Unit)⊕(Int))):=
 cond (decide (v5<(a0.length:Int))) ((kZ a0 v5).bind fun t39=>
(pv (!(t39.Tag== []))).bind fun b43=>
(gM b43 (kZ a0 v5)).bind fun t46=>
(gM b43 (zGL t46.Tag)).bind fun t49=>
 cond (b43&&(!t49)) (some (.done (.inr (6)))) (some (.next (wi (v5+1))))) (some (.done (.inl (()))))
def zC0 (a0:(List Mapping)):Option (Int):=
(zX (fun (x:Int)=>uI a0 x) 0).bind fun (y1:(Unit)⊕(Int))=>
 y1.elim (fun y1=>(zX (fun (x:Int)=>uJ a0 x) 0).bind fun (y2:(Unit)⊕(Int))=>
 y2.elim (fun y2=>(zX (fun (x:Int)=>uK a0 x) 0).bind fun (y3:(Unit)⊕(Int))=>
 y3.elim (fun y3=>(zFE a0).bind fun t53=>
 cond t53 (some 5) (some 0)) (fun y3=>some y3)) (fun y2=>some y2)) (fun y1=>some y1)
def zF4 (a0:Mapping) (a1:Mapping):Option (Bool):=
(pv (decide (a0.From<a1.From))).bind fun b10=>
(pv (decide (a0.From=a1.From))).bind fun b16=>
 some (b10 ||(b16&&(Op.bytesLess a0.Tag a1.Tag)))
def zBT (a0:(List Mapping)) (v4:Int):Option (Stp (Int) ((Unit)⊕(Int))):=
 cond (decide (v4<(a0.length:Int))) ((kZ a0 (wi (v4-1))).bind fun t19=>
(kZ a0 v4).bind fun t23=>
(zF4 t19 t23).bind fun t25=>
 cond (!t25) (some (.done (.inr (4)))) (some (.next (wi (v4+1))))) (some (.done (.inl (()))))
def zB8 (a0:(List Mapping)):Option (Int):=
(zC0 a0).bind fun t6=>
 cond (!decide (t6=0)) (some t6) ((zX (fun (x:Int)=>zBT a0 x) 1).bind fun (y1:(Unit)⊕(Int))=>
 y1.elim (fun y1=>some 0) (fun y1=>some y1))
def xB (a0:(List Int)) (a1:Int) (v6:Bool) (v7:Int) (r1005:(List Int)):Option (Stp (Bool×Int×(List Int)) ((Bool×(List Int)))):=
 cond (decide (v7<(a0.length:Int))) ((pv (!v6)).bind fun b16=>
(gM b16 (kZ a0 v7)).bind fun t19=>
(cond (b16&&(decide (a1≤t19))) ((kZ a0 v7).bind fun t26=>
 cond (decide (a1<t26)) ((app r1005 [a1]).bind fun r1005_3=>
 some (true,r1005_3)) (some (true,r1005))) (some (v6,r1005))).bind fun (y2:Bool×(List Int))=>
(kZ a0 v7).bind fun t37=>
(app y2.2 [t37]).bind fun r1005_4=>
 some (.next (y2.1,wi (v7+1),r1005_4))) (some (.done (v6,r1005)))
def zC1 (a0:(List Int)) (a1:Int):Option ((List Int)):=
(zX (fun (x:Bool×Int×(List Int))=>xB a0 a1 x.1 x.2.1 x.2.2) (false,0,[])).bind fun (y1:Bool×(List Int))=>
(cond (!y1.1) ((app y1.2 [a1]).bind fun r1005_6=>
 some r1005_6) (some y1.2)).bind fun (y5:(List Int))=>
 some y5
def vG (a1:Set) (v0:(List Int)) (v5:Int):Option (Stp ((List Int)×Int) (((List Int)))):=
 cond (decide (v5<(a1.Ranges.length:Int))) (((kZ a1.Ranges v5).bind fun t18=>
(kZ a1.Ranges v5).bind fun t24=>
(zA5 t18.Lo).bind fun t28=>
(cond t28 ((zC1 v0 t18.Lo).bind fun t31=>
 some t31) (some v0)).bind fun (y3:(List Int))=>
(pv (decide (0≤t24.Hi))).bind fun b34=>
 cond (b34&&(decide (t24.Hi<1114111))) ((zC1 y3 (wi (t24.Hi+1))).bind fun t41=>
 some t41) (some y3)).bind fun (y2:(List Int))=>
 some (.next (y2,wi (v5+1)))) (some (.done v0))
def zES (a0:(List Int)) (a1:Set):Option ((List Int)):=
(zX (fun (x:(List Int)×Int)=>vG a1 x.1 x.2) (a0,0)).bind fun (y1:(List Int))=>
(zC1 y1 0).bind fun t43=>
 some t43
def zDD (a0:Set) (a1:Int) (v5:Int):Option (Stp (Int) ((Unit)⊕(Bool))):=
 cond (decide (v5<(a0.Ranges.length:Int))) ((zA5 a1).bind fun t14=>
(pv t14).bind fun b15=>
(gM b15 (kZ a0.Ranges v5)).bind fun t19=>
(pv (b15&&(decide (t19.Lo≤a1)))).bind fun b25=>
(gM b25 (kZ a0.Ranges v5)).bind fun t30=>
 cond (b25&&(decide (a1≤t30.Hi))) (some (.done (.inr (true)))) (some (.next (wi (v5+1))))) (some (.done (.inl (()))))
def zET (a0:Set) (a1:Int):Option (Bool):=
(zX (fun (x:Int)=>zDD a0 a1 x) 0).bind fun (y1:(Unit)⊕(Bool))=>
 y1.elim (fun y1=>some false) (fun y1=>some y1)
def zHD (a0:Int) (a1:Bool) (a2:Bool):Option (Bool):=
 cond (decide (a0=1)) ((pv a1).bind fun b11=>
 some (b11 ||a2)) (cond (decide (a0=2)) ((pv a1).bind fun b17=>
 some (b17&&a2)) ((pv a1).bind fun b21=>
 some (b21&&(!a2))))
def jZ (t16:(List Int)) (a0:Set) (a1:Set) (a2:Int) (v9:Bool) (v10:Int) (r4160:(List Range)):Option (Stp (Bool×Int×(List Range)) (((List Range)))):=
 cond (decide (v10<(t16.length:Int))) ((cond (decide ((wi (v10+1))<(t16.length:Int))) ((kZ t16 (wi (v10+1))).bind fun t31=>
 some (wi (t31-1))) (some 1114111)).bind fun (y2:Int)=>
(kZ t16 v10).bind fun t38=>
(zET a0 t38).bind fun t40=>
(kZ t16 v10).bind fun t44=>
(zET a1 t44).bind fun t46=>
(zHD a2 t40 t46).bind fun t47=>
(pv t47).bind fun b49=>
(cond (b49&&v9) ((kZ r4160 (wi ((r4160.length:Int)-1))).bind fun t59=>
(zBM r4160 (wi ((r4160.length:Int)-1)) ({t59 with Hi:=y2})).bind fun r4160_4=>
 some r4160_4) (some r4160)).bind fun (y3:(List Range))=>
(pv t47).bind fun b62=>
(cond (b62&&(!v9)) ((kZ t16 v10).bind fun t70=>
(app y3 [({Lo:=t70,Hi:=y2}:Range)]).bind fun r4160_6=>
 some r4160_6) (some y3)).bind fun (y5:(List Range))=>
 some (.next (t47,wi (v10+1),y5))) (some (.done r4160))
def zE3 (a0:Set) (a1:Set) (a2:Int):Option (Set):=
(zES [] a0).bind fun t14=>
(zES t14 a1).bind fun t16=>
(zX (fun (x:Bool×Int×(List Range))=>jZ t16 a0 a1 a2 x.1 x.2.1 x.2.2) (false,0,[])).bind fun (y1:(List Range))=>
 some ({Ranges:=y1}:Set)
def zGM (a0:(List Range)):Option (Set):=
(zE3 ({Ranges:=a0}:Set) ({Ranges:=[]}:Set) 1).bind fun t6=>
 some t6
def zCM (a0:Set) (a1:Set) (v5:Int):Option (Stp (Int) ((Unit)⊕(Bool))):=
 cond (decide (v5<(a0.Ranges.length:Int))) ((kZ a0.Ranges v5).bind fun t23=>
(kZ a1.Ranges v5).bind fun t28=>
 cond (!decide (t23=t28)) (some (.done (.inr (false)))) (some (.next (wi (v5+1))))) (some (.done (.inl (()))))
def zGN (a0:Set) (a1:Set):Option (Bool):=
 cond (!decide ((a0.Ranges.length:Int)=(a1.Ranges.length:Int))) (some false) ((zX (fun (x:Int)=>zCM a0 a1 x) 0).bind fun (y1:(Unit)⊕(Bool))=>
 y1.elim (fun y1=>some true) (fun y1=>some y1))
def zFF (a0:Set):Option (Bool):=
(zGM a0.Ranges).bind fun t6=>
(zGN a0 t6).bind fun t7=>
 some t7
def zCN (a0:(List Mapping)) (a1:Int) (a2:Bool) (v7:Int):Option (Stp (Int) ((Unit)⊕(Int))):=
 cond (decide (v7<(a0.length:Int))) ((kZ a0 v7).bind fun t16=>
(pv (decide (t16.From=a1))).bind fun b21=>
(pv a2).bind fun b23=>
(gM (b21&& !b23) (kZ a0 v7)).bind fun t26=>
 cond (b21&&(b23 ||(t26.Tag== []))) (some (.done (.inr (v7)))) (some (.next (wi (v7+1))))) (some (.done (.inl (()))))
def zC2 (a0:(List Mapping)) (a1:Int) (a2:Bool):Option (Int):=
(zX (fun (x:Int)=>zCN a0 a1 a2 x) 0).bind fun (y1:(Unit)⊕(Int))=>
 y1.elim (fun y1=>some (-1)) (fun y1=>some y1)
def zEU (a0:Int):Option (Int):=
(pv (decide (4352≤a0))).bind fun b5=>
 cond (b5&&(decide (a0≤4370))) (some 1) ((pv (decide (4449≤a0))).bind fun b11=>
 cond (b11&&(decide (a0≤4469))) (some 2) ((pv (decide (4520≤a0))).bind fun b17=>
 cond (b17&&(decide (a0≤4546))) (some 3) ((pv (decide (44032≤a0))).bind fun b23=>
 cond (b23&&(decide (a0≤55203))) ((zIS (wi (a0-44032)) 28).bind fun t29=>
 cond (decide (t29=0)) (some 4) (some 5)) (some 0))))
def wF (a0:(List Span)) (a1:Int) (v5:Int):Option (Stp (Int) ((Unit)⊕(Int))):=
 cond (decide (v5<(a0.length:Int))) ((kZ a0 v5).bind fun t17=>
(pv (decide (t17.Lo≤a1))).bind fun b22=>
(gM b22 (kZ a0 v5)).bind fun t26=>
 cond (b22&&(decide (a1≤t26.Hi))) ((kZ a0 v5).bind fun t33=>
 some (.done (.inr (t33.Value)))) (some (.next (wi (v5+1))))) (some (.done (.inl (()))))
def zC3 (a0:(List Span)) (a1:Int):Option (Int):=
(zD0 a0).bind fun t7=>
 cond (!decide (t7=0)) (some 0) ((zX (fun (x:Int)=>wF a0 a1 x) 0).bind fun (y1:(Unit)⊕(Int))=>
 y1.elim (fun y1=>some 0) (fun y1=>some y1))
def vH (a0:(List Mapping)) (v5:Int) (r11:(List Bool)) (v6:Bool) (v7:Int):Option (Stp (Bool×Int) ((Bool))):=
(kZ a0 v5).bind fun t27=>
 cond (decide (v7<(t27.To.length:Int))) ((kZ a0 v5).bind fun t37=>
(kZ t37.To v7).bind fun t41=>
(zC2 a0 t41 true).bind fun t43=>
(pv v6).bind fun b45=>
(pv (decide (t43<0))).bind fun b48=>
(gM (b45&& !b48) (kZ r11 t43)).bind fun t51=>
 some (.next ((b45&&(b48 ||t51)),wi (v7+1)))) (some (.done v6))
def zBE (a0:(List Mapping)) (v5:Int) (r11:(List Bool)):Option (Stp (Int×(List Bool)) (((List Bool)))):=
 cond (decide (v5<(a0.length:Int))) ((zX (fun (x:Bool×Int)=>vH a0 v5 r11 x.1 x.2) (true,0)).bind fun (y3:Bool)=>
(kZ r11 v5).bind fun t58=>
(zBM r11 v5 y3).bind fun r11_4=>
 some (.next (wi (v5+1),r11_4))) (some (.done r11))
def zBF (a0:(List Mapping)) (v4:Int) (r11:(List Bool)):Option (Stp (Int×(List Bool)) (((List Bool)))):=
 cond (decide (v4<(a0.length:Int))) ((zX (fun (x:Int×(List Bool))=>zBE a0 x.1 x.2) (0,r11)).bind fun (y2:(List Bool))=>
 some (.next (wi (v4+1),y2))) (some (.done r11))
def zGO (a0:(List Mapping)):Option ((List Bool)):=
(mkM false (a0.length:Int)).bind fun r11=>
(zX (fun (x:Int×(List Bool))=>zBF a0 x.1 x.2) (0,r11)).bind fun (y1:(List Bool))=>
 some y1
def zAY (a0:Int):Option ((List Int)):=
(zEU a0).bind fun t6=>
 cond (decide (t6<4)) (some [a0]) ((zL7 wi (wi (a0-44032)) 28).bind fun t13=>
(zL7 wi t13 21).bind fun t14=>
(zL7 wi (wi (a0-44032)) 28).bind fun t17=>
(zIS t17 21).bind fun t18=>
(zIS (wi (a0-44032)) 28).bind fun t22=>
(cond (decide (0<t22)) ((zIS (wi (a0-44032)) 28).bind fun t26=>
(app [wi (4352+t14),wi (4449+t18)] [wi ((wi (4520+t26))-1)]).bind fun r20_2=>
 some r20_2) (some [wi (4352+t14),wi (4449+t18)])).bind fun (y1:(List Int))=>
 some y1)
def xT (a0:(List Mapping)) (v7:Int) (a1:Bool) (r13:(List Int)) (v8:Int) (v9:Int):Option (Stp (Int×Int) ((Int))):=
(kZ a0 v7).bind fun t29=>
 cond (decide (v9<(t29.To.length:Int))) (((kZ a0 v7).bind fun t39=>
(kZ t39.To v9).bind fun t43=>
(zC2 a0 t43 a1).bind fun t46=>
 cond (decide (0≤t46)) ((kZ r13 t46).bind fun t52=>
 some (wi (v8+t52))) ((kZ a0 v7).bind fun t58=>
(kZ t58.To v9).bind fun t62=>
(zAY t62).bind fun t64=>
 some (wi (v8+(t64.length:Int))))).bind fun (y5:Int)=>
 some (.next (y5,wi (v9+1)))) (some (.done v8))
def wV (a0:(List Mapping)) (a1:Bool) (v7:Int) (r13:(List Int)):Option (Stp (Int×(List Int)) (((List Int)))):=
 cond (decide (v7<(a0.length:Int))) (((zX (fun (x:Int×Int)=>xT a0 v7 a1 r13 x.1 x.2) (0,0)).bind fun (y4:Int)=>
(kZ r13 v7).bind fun t72=>
(zBM r13 v7 (min (max y4 1) 65)).bind fun r13_6=>
(kZ a0 v7).bind fun t75=>
(pv (!(t75.Tag== []))).bind fun b79=>
 cond (b79&&(!a1)) ((kZ r13_6 v7).bind fun t85=>
(zBM r13_6 v7 1).bind fun r13_7=>
 some r13_7) (some r13_6)).bind fun (y3:(List Int))=>
 some (.next (wi (v7+1),y3))) (some (.done r13))
def wW (a0:(List Mapping)) (a1:Bool) (v6:Int) (r13:(List Int)):Option (Stp (Int×(List Int)) (((List Int)))):=
 cond (decide (v6<(a0.length:Int))) ((zX (fun (x:Int×(List Int))=>wV a0 a1 x.1 x.2) (0,r13)).bind fun (y2:(List Int))=>
 some (.next (wi (v6+1),y2))) (some (.done r13))
def zCO (a0:(List Mapping)) (a1:Bool):Option ((List Int)):=
(mkM 0 (a0.length:Int)).bind fun r13=>
(zX (fun (x:Int×(List Int))=>wW a0 a1 x.1 x.2) (0,r13)).bind fun (y1:(List Int))=>
 some y1
def zBU (a0:Norm) (v6:Int):Option (Stp (Int) ((Unit)⊕(Int))):=
 cond (decide (v6<(a0.Decomp.length:Int))) ((kZ a0.Decomp v6).bind fun t41=>
(zC2 a0.Decomp t41.From true).bind fun t44=>
 cond (decide (t44<v6)) (some (.done (.inr (5)))) (some (.next (wi (v6+1))))) (some (.done (.inl (()))))
def zBV (a0:Norm) (v7:Int):Option (Stp (Int) ((Unit)⊕(Int))):=
 cond (decide (v7<(a0.Decomp.length:Int))) ((kZ a0.Decomp v7).bind fun t55=>
(pv (t55.Tag== [])).bind fun b59=>
(gM b59 (kZ a0.Decomp v7)).bind fun t62=>
(pv (b59&&(!decide ((t62.To.length:Int)=1)))).bind fun b68=>
(gM b68 (kZ a0.Decomp v7)).bind fun t71=>
 cond (b68&&(!decide ((t71.To.length:Int)=2))) (some (.done (.inr (8)))) (some (.next (wi (v7+1))))) (some (.done (.inl (()))))
def zBW (a0:Norm) (v8:Int):Option (Stp (Int) ((Unit)⊕(Int))):=
 cond (decide (v8<(a0.Decomp.length:Int))) ((kZ a0.Decomp v8).bind fun t85=>
(zEU t85.From).bind fun t88=>
(pv (!decide (t88=0))).bind fun b90=>
(gM (!b90) (kZ a0.Decomp v8)).bind fun t93=>
(pv (!(t93.Tag== []))).bind fun b97=>
(gM (!b90&&b97) (kZ a0.Decomp v8)).bind fun t102=>
(gM (!b90&&b97) (zC3 a0.Classes t102.From)).bind fun t105=>
 cond (b90 ||(b97&&(!decide (t105=0)))) (some (.done (.inr (11)))) (some (.next (wi (v8+1))))) (some (.done (.inl (()))))
def zBX (a0:Norm) (t110:(List Bool)) (v10:Int):Option (Stp (Int) ((Unit)⊕(Int))):=
 cond (decide (v10<(a0.Decomp.length:Int))) ((kZ t110 v10).bind fun t119=>
 cond (!t119) (some (.done (.inr (12)))) (some (.next (wi (v10+1))))) (some (.done (.inl (()))))
def zBY (a0:Norm) (t123:(List Int)) (t125:(List Int)) (v13:Int):Option (Stp (Int) ((Unit)⊕(Int))):=
 cond (decide (v13<(a0.Decomp.length:Int))) ((kZ t123 v13).bind fun t134=>
(pv (decide (64<t134))).bind fun b137=>
(gM (!b137) (kZ t125 v13)).bind fun t140=>
 cond (b137 ||(decide (64<t140))) (some (.done (.inr (13)))) (some (.next (wi (v13+1))))) (some (.done (.inl (()))))
def zFG (a0:Norm):Option (Int):=
(zD0 a0.Classes).bind fun t16=>
 cond (!decide (t16=0)) (some t16) ((zB8 a0.Decomp).bind fun t22=>
 cond (!decide (t22=0)) (some t22) ((zFF a0.Excluded).bind fun t28=>
 cond (!t28) (some 11) ((zX (fun (x:Int)=>zBU a0 x) 0).bind fun (y1:(Unit)⊕(Int))=>
 y1.elim (fun y1=>(zX (fun (x:Int)=>zBV a0 x) 0).bind fun (y2:(Unit)⊕(Int))=>
 y2.elim (fun y2=>(zX (fun (x:Int)=>zBW a0 x) 0).bind fun (y3:(Unit)⊕(Int))=>
 y3.elim (fun y3=>(zGO a0.Decomp).bind fun t110=>
(zX (fun (x:Int)=>zBX a0 t110 x) 0).bind fun (y4:(Unit)⊕(Int))=>
 y4.elim (fun y4=>(zCO a0.Decomp false).bind fun t123=>
(zCO a0.Decomp true).bind fun t125=>
(zX (fun (x:Int)=>zBY a0 t123 t125 x) 0).bind fun (y5:(Unit)⊕(Int))=>
 y5.elim (fun y5=>some 0) (fun y5=>some y5)) (fun y4=>some y4)) (fun y3=>some y3)) (fun y2=>some y2)) (fun y1=>some y1))))
def zGP (a0:Norm):Option (Norm):=
(zFG a0).bind fun t4=>
 cond (!decide (t4=0)) (some ({Classes:=({Classes:=[],Decomp:=[],Excluded:=(({Ranges:=[]}):Set)}:Norm).Classes,Decomp:=({Classes:=[],Decomp:=[],Excluded:=(({Ranges:=[]}):Set)}:Norm).Decomp,Excluded:=({Ranges:=(({Classes:=[],Decomp:=[],Excluded:=(({Ranges:=[]}):Set)}:Norm).Excluded).Ranges}:Set)}:Norm)) (some a0)
def j6 (a2:(List Int)) (a0:(List Mapping)) (a3:Bool) (a1:(List (List Int))) (v10:Int) (r1009:(List Int)):Option (Stp (Int×(List Int)) (((List Int)))):=
 cond (decide (v10<(a2.length:Int))) (((kZ a2 v10).bind fun t21=>
(zC2 a0 t21 a3).bind fun t24=>
 cond (decide (0≤t24)) ((kZ a1 t24).bind fun t30=>
(app r1009 t30).bind fun r1009_3=>
 some r1009_3) ((kZ a2 v10).bind fun t36=>
(zAY t36).bind fun t38=>
(app r1009 t38).bind fun r1009_4=>
 some r1009_4)).bind fun (y2:(List Int))=>
 some (.next (wi (v10+1),y2))) (some (.done r1009))
def vZ (a0:(List Mapping)) (a1:(List (List Int))) (a2:(List Int)) (a3:Bool):Option ((List Int)):=
(zX (fun (x:Int×(List Int))=>j6 a2 a0 a3 a1 x.1 x.2) (0,[])).bind fun (y1:(List Int))=>
 some y1
def zAN (a0:(List Mapping)) (a1:Bool) (v7:Int) (r10:(List (List Int))):Option (Stp (Int×(List (List Int))) (((List (List Int))))):=
 cond (decide (v7<(a0.length:Int))) (((pv a1).bind fun b24=>
(gM (!b24) (kZ a0 v7)).bind fun t27=>
 cond (b24 ||(t27.Tag== [])) ((kZ a0 v7).bind fun t38=>
(vZ a0 r10 t38.To a1).bind fun t42=>
(kZ r10 v7).bind fun t43=>
(zBM r10 v7 t42).bind fun r10_4=>
 some r10_4) (some r10)).bind fun (y3:(List (List Int)))=>
 some (.next (wi (v7+1),y3))) (some (.done r10))
def zAO (a0:(List Mapping)) (a1:Bool) (v6:Int) (r10:(List (List Int))):Option (Stp (Int×(List (List Int))) (((List (List Int))))):=
 cond (decide (v6<(a0.length:Int))) ((zX (fun (x:Int×(List (List Int)))=>zAN a0 a1 x.1 x.2) (0,r10)).bind fun (y2:(List (List Int)))=>
 some (.next (wi (v6+1),y2))) (some (.done r10))
def zFH (a0:(List Mapping)) (a1:Bool):Option ((List (List Int))):=
(mkM [] (a0.length:Int)).bind fun r10=>
(zX (fun (x:Int×(List (List Int)))=>zAO a0 a1 x.1 x.2) (0,r10)).bind fun (y1:(List (List Int)))=>
 some y1
def zGQ (a0:Norm) (a1:(List Int)) (a2:Bool):Option ((List Int)):=
(zFH a0.Decomp a2).bind fun t12=>
(vZ a0.Decomp t12 a1 a2).bind fun t15=>
 some t15
def u7 (t27:Int) (a0:(List Span)) (a1:(List Int)) (v6:Int) (v8:Int) (r1005:(List Int)):Option (Stp (Int×(List Int)) (((List Int)))):=
(pv (decide (0<v8))).bind fun b33=>
(pv (b33&&(decide (0<t27)))).bind fun b37=>
(gM b37 (kZ r1005 (wi (v8-1)))).bind fun t42=>
(gM b37 (zC3 a0 t42)).bind fun t44=>
 cond (b37&&(decide (t27<t44))) ((kZ r1005 (wi (v8-1))).bind fun t55=>
(kZ r1005 v8).bind fun t57=>
(zBM r1005 v8 t55).bind fun r1005_4=>
(kZ a1 v6).bind fun t63=>
(kZ r1005_4 (wi (v8-1))).bind fun t65=>
(zBM r1005_4 (wi (v8-1)) t63).bind fun r1005_5=>
 some (.next (wi (v8-1),r1005_5))) (some (.done r1005))
def vI (a1:(List Int)) (a0:(List Span)) (v6:Int) (r1005:(List Int)):Option (Stp (Int×(List Int)) (((List Int)))):=
 cond (decide (v6<(a1.length:Int))) ((kZ a1 v6).bind fun t18=>
(app r1005 [t18]).bind fun r1005_2=>
(kZ a1 v6).bind fun t25=>
(zC3 a0 t25).bind fun t27=>
(zX (fun (x:Int×(List Int))=>u7 t27 a0 a1 v6 x.1 x.2) (wi ((r1005_2.length:Int)-1),r1005_2)).bind fun (y3:(List Int))=>
 some (.next (wi (v6+1),y3))) (some (.done r1005))
def zEV (a0:(List Span)) (a1:(List Int)):Option ((List Int)):=
(zX (fun (x:Int×(List Int))=>vI a1 a0 x.1 x.2) (0,[])).bind fun (y1:(List Int))=>
 some y1
def zGR (a0:Norm) (a1:(List Int)) (a2:Bool):Option ((List Int)):=
(zGP a0).bind fun t9=>
(zGQ t9 a1 a2).bind fun t15=>
(zEV t9.Classes t15).bind fun t16=>
 some t16
def zAP (a0:Norm) (a2:(List Int)):Option ((List Int)):=
(zGR a0 a2 false).bind fun t12=>
 some t12
def zD1 (a0:(List Mapping)):Option ((List Mapping)):=
(zB8 a0).bind fun t4=>
 cond (!decide (t4=0)) (some []) (some a0)
def zCP (a0:(List Mapping)) (a1:Int) (a2:Str) (v8:Int):Option (Stp (Int) ((Unit)⊕(Bool×(List Int)))):=
 cond (decide (v8<(a0.length:Int))) ((kZ a0 v8).bind fun t17=>
(pv (decide (t17.From=a1))).bind fun b22=>
(gM b22 (kZ a0 v8)).bind fun t25=>
 cond (b22&&(t25.Tag==a2)) ((kZ a0 v8).bind fun t34=>
(app [] t34.To).bind fun r31_2=>
 some (.done (.inr ((true,r31_2))))) (some (.next (wi (v8+1))))) (some (.done (.inl (()))))
def zEW (a0:(List Mapping)) (a1:Int) (a2:Str):Option ((List Int)×Bool):=
(zX (fun (x:Int)=>zCP a0 a1 a2 x) 0).bind fun (y1:(Unit)⊕(Bool×(List Int)))=>
 y1.elim (fun y1=>some ([],false)) (fun y1=>some (y1.2,y1.1))
def zAQ (a2:(List Int)) (t12:(List Mapping)) (a1:Str) (v8:Int) (r1007:(List Int)):Option (Stp (Int×(List Int)) (((List Int)))):=
 cond (decide (v8<(a2.length:Int))) (((kZ a2 v8).bind fun t23=>
(zEW t12 t23 a1).bind fun t26=>
 cond t26.2 ((app r1007 t26.1).bind fun r1007_3=>
 some r1007_3) ((kZ a2 v8).bind fun t36=>
(app r1007 [t36]).bind fun r1007_4=>
 some r1007_4)).bind fun (y2:(List Int))=>
 some (.next (wi (v8+1),y2))) (some (.done r1007))
def zD2 (a0:(List Mapping)) (a1:Str) (a2:(List Int)):Option ((List Int)):=
(zD1 a0).bind fun t12=>
(zX (fun (x:Int×(List Int))=>zAQ a2 t12 a1 x.1 x.2) (0,[])).bind fun (y1:(List Int))=>
 some y1
def zFI (a0:Norm) (a1:(List Mapping)) (a2:(List Int)):Option (Bool):=
(zAP a0 a2).bind fun t10=>
 cond (decide (400<(t10.length:Int))) (some false) ((zD2 a1 [] t10).bind fun t16=>
(pv (decide ((t16.length:Int)≤400))).bind fun b20=>
(gM b20 (zAP a0 t16)).bind fun t23=>
 some (b20&&(decide ((t23.length:Int)≤400))))
def zBZ (a1:(List (List Int))) (a0:Unicodetextlaw41_Data) (v5:Int):Option (Stp (Int) ((Unit)⊕(Bool))):=
 cond (decide (v5<(a1.length:Int))) ((kZ a1 v5).bind fun t18=>
(zFI a0.Norm a0.Map t18).bind fun t20=>
 cond (!t20) (some (.done (.inr (false)))) (some (.next (wi (v5+1))))) (some (.done (.inl (()))))
def zC4 (a0:Unicodetextlaw41_Data) (a1:(List (List Int))):Option (Bool):=
(zX (fun (x:Int)=>zBZ a1 a0 x) 0).bind fun (y1:(Unit)⊕(Bool))=>
 y1.elim (fun y1=>some true) (fun y1=>some y1)
def uL (a0:(List Span)) (v14:Int):Option (Stp (Int) ((Unit)⊕(Int))):=
 cond (decide (v14<(a0.length:Int))) ((kZ a0 v14).bind fun t16=>
(pv (decide (t16.Lo<0))).bind fun b21=>
(pv (b21 ||(decide (1114111<t16.Hi)))).bind fun b26=>
(pv (b26 ||(decide (t16.Hi<t16.Lo)))).bind fun b33=>
(pv (b33 ||(decide (t16.Value<1)))).bind fun b38=>
 cond (b38 ||(decide (254<t16.Value))) (some (.done (.inr (1)))) (some (.next (wi (v14+1))))) (some (.done (.inl (()))))
def uM (a0:(List Span)) (v5:Int):Option (Stp (Int) ((Unit)⊕(Int))):=
 cond (decide (v5<(a0.length:Int))) ((kZ a0 (wi (v5-1))).bind fun t53=>
(kZ a0 v5).bind fun t57=>
(pv (decide (t57.Lo≤t53.Hi))).bind fun b64=>
(pv (decide (t57.Lo=(wi (t53.Hi+1))))).bind fun b71=>
 cond (b64 ||(b71&&(decide (t57.Value=t53.Value)))) (some (.done (.inr (4)))) (some (.next (wi (v5+1))))) (some (.done (.inl (()))))
def xZ (t85:A4Range) (t83:Span) (v86:Int):Option (Stp (Int) ((Unit)⊕(Int))):=
 cond (decide (v86<4)) ((kZ [t85.x0,t85.x1,t85.x2,t85.x3] v86).bind fun t88=>
(pv (decide (t83.Lo≤t88.Hi))).bind fun b94=>
 cond (b94&&(decide (t88.Lo≤t83.Hi))) (some (.done (.inr (11)))) (some (.next (wi (v86+1))))) (some (.done (.inl (()))))
def uN (a0:(List Span)) (v81:Int):Option (Stp (Int) ((Unit)⊕(Int))):=
 cond (decide (v81<(a0.length:Int))) ((kZ a0 v81).bind fun t83=>
(pv ({x0:=({Lo:=4352,Hi:=4370}:Range),x1:=({Lo:=4449,Hi:=4469}:Range),x2:=({Lo:=4520,Hi:=4546}:Range),x3:=({Lo:=44032,Hi:=55203}:Range)}:A4Range)).bind fun t85=>
(zX (fun (x:Int)=>xZ t85 t83 x) 0).bind fun (y4:(Unit)⊕(Int))=>
 y4.elim (fun y4=>some (.next (wi (v81+1)))) (fun y4=>some (.done (.inr (y4))))) (some (.done (.inl (()))))
def zB0 (a0:(List Span)):Option (Int):=
(zX (fun (x:Int)=>uL a0 x) 0).bind fun (y1:(Unit)⊕(Int))=>
 y1.elim (fun y1=>(zX (fun (x:Int)=>uM a0 x) 1).bind fun (y2:(Unit)⊕(Int))=>
 y2.elim (fun y2=>(zX (fun (x:Int)=>uN a0 x) 0).bind fun (y3:(Unit)⊕(Int))=>
 y3.elim (fun y3=>some 0) (fun y3=>some y3)) (fun y2=>some y2)) (fun y1=>some y1)
def wM (a0:Int):Option (Bool):=
(pv (decide (0≤a0))).bind fun b5=>
 some (b5&&(decide (a0≤1114111)))
def uO (a0:Str) (v15:Int):Option (Stp (Int) ((Unit)⊕(Bool))):=
 cond (decide (v15<(a0.length:Int))) ((zT7 a0 v15).bind fun t20=>
(pv (decide (65≤t20))).bind fun b23=>
(pv (b23&&(decide (t20≤90)))).bind fun b27=>
(pv (decide (97≤t20))).bind fun b30=>
(pv (!(b27 ||(b30&&(decide (t20≤122)))))).bind fun b37=>
(pv (decide (48≤t20))).bind fun b40=>
(pv (b37&&(!(b40&&(decide (t20≤57)))))).bind fun b46=>
 cond (b46&&(!decide (t20=95))) (some (.done (.inr (false)))) (some (.next (wi (v15+1))))) (some (.done (.inl (()))))
def zC5 (a0:Str):Option (Bool):=
(pv (a0== [])).bind fun b8=>
 cond (b8 ||(decide (32<(a0.length:Int)))) (some false) ((zX (fun (x:Int)=>uO a0 x) 0).bind fun (y1:(Unit)⊕(Bool))=>
 y1.elim (fun y1=>some true) (fun y1=>some y1))
def zAD (t15:Mapping) (v24:Int):Option (Stp (Int) ((Unit)⊕(Int))):=
 cond (decide (v24<(t15.To.length:Int))) ((kZ t15.To v24).bind fun t26=>
(wM t26).bind fun t29=>
 cond (!t29) (some (.done (.inr (1)))) (some (.next (wi (v24+1))))) (some (.done (.inl (()))))
def zAE (a0:(List Mapping)) (v13:Int):Option (Stp (Int) ((Unit)⊕(Int))):=
 cond (decide (v13<(a0.length:Int))) ((kZ a0 v13).bind fun t15=>
(wM t15.From).bind fun t19=>
 cond (!t19) (some (.done (.inr (1)))) ((zX (fun (x:Int)=>zAD t15 x) 0).bind fun (y2:(Unit)⊕(Int))=>
 y2.elim (fun y2=>some (.next (wi (v13+1)))) (fun y2=>some (.done (.inr (y2)))))) (some (.done (.inl (()))))
def zAF (a0:(List Mapping)) (v35:Int):Option (Stp (Int) ((Unit)⊕(Int))):=
 cond (decide (v35<(a0.length:Int))) ((kZ a0 v35).bind fun t37=>
 cond (decide (64<(t37.To.length:Int))) (some (.done (.inr (2)))) (some (.next (wi (v35+1))))) (some (.done (.inl (()))))
def zAG (a0:(List Mapping)) (v46:Int):Option (Stp (Int) ((Unit)⊕(Int))):=
 cond (decide (v46<(a0.length:Int))) ((kZ a0 v46).bind fun t48=>
(pv (!(t48.Tag== []))).bind fun b53=>
(gM b53 (zC5 t48.Tag)).bind fun t56=>
 cond (b53&&(!t56)) (some (.done (.inr (6)))) (some (.next (wi (v46+1))))) (some (.done (.inl (()))))
def zDM (a0:(List Mapping)):Option (Int):=
(zX (fun (x:Int)=>zAE a0 x) 0).bind fun (y1:(Unit)⊕(Int))=>
 y1.elim (fun y1=>(zX (fun (x:Int)=>zAF a0 x) 0).bind fun (y3:(Unit)⊕(Int))=>
 y3.elim (fun y3=>(zX (fun (x:Int)=>zAG a0 x) 0).bind fun (y4:(Unit)⊕(Int))=>
 y4.elim (fun y4=>some 0) (fun y4=>some y4)) (fun y3=>some y3)) (fun y1=>some y1)
def zDN (a0:Int):Option (Bool):=
 some (!decide (a0=a0))
def x8 (a0:Int) (a1:Int):Option (Int):=
(zDN a0).bind fun t8=>
(zDN a1).bind fun t10=>
 cond t8 (cond t10 (some 0) (some (-1))) (cond t10 (some 1) (cond (decide (a0<a1)) (some (-1)) (cond (decide (a1<a0)) (some 1) (some 0))))
def zB1 (a0:Str):Option (Bool):=
 some (!(a0==a0))
def zAR (a0:Str) (a1:Str):Option (Int):=
(zB1 a0).bind fun t8=>
(zB1 a1).bind fun t10=>
 cond t8 (cond t10 (some 0) (some (-1))) (cond t10 (some 1) (cond (Op.bytesLess a0 a1) (some (-1)) (cond (!Op.bytesLess a0 a1&& !(a0==a1)) (some 1) (some 0))))
def zCQ (a0:(List Int)) (v8:Int):Option (Stp (Int) ((Unit)⊕(Int))):=
 cond (decide (v8<(a0.length:Int))) ((kZ a0 v8).bind fun t10=>
 cond (!decide (t10=0)) (some (.done (.inr (t10)))) (some (.next (wi (v8+1))))) (some (.done (.inl (()))))
def zEX (a0:(List Int)):Option (Int):=
(zX (fun (x:Int)=>zCQ a0 x) 0).bind fun (y1:(Unit)⊕(Int))=>
 y1.elim (fun y1=>some 0) (fun y1=>some y1)
def zCG (a0:Mapping) (a1:Mapping):Option (Int):=
(x8 a0.From a1.From).bind fun t9=>
(zAR a0.Tag a1.Tag).bind fun t14=>
(zEX [t9,t14]).bind fun t16=>
 some t16
def zBG (a0:Mapping):Option (Mapping_key):=
 some ({from_:=a0.From,tag:=a0.Tag}:Mapping_key)
def wX (a0:(List Mapping)) (v4:Bool) (v5:Int):Option (Stp (Bool×Int) ((Bool))):=
 cond (decide (v5<(a0.length:Int))) (((kZ a0 (wi (v5-1))).bind fun t23=>
(kZ a0 v5).bind fun t27=>
(zCG t23 t27).bind fun t29=>
 cond (decide (0≤t29)) (some false) (some v4)).bind fun (y2:Bool)=>
 some (.next (y2,wi (v5+1)))) (some (.done v4))
def wY (a0:(List Mapping)) (v35:Int) (r32:(List (Mapping_key×Bool))):Option (Stp (Int×(List (Mapping_key×Bool))) ((Unit)⊕(Int))):=
 cond (decide (v35<(a0.length:Int))) ((kZ a0 v35).bind fun t37=>
(zBG t37).bind fun t41=>
 cond (xM r32 t41 false) (some (.done (.inr (5)))) ((zBG t37).bind fun t45=>
 some (.next (wi (v35+1),wD r32 t45 true)))) (some (.done (.inl (()))))
def u9 (a0:(List Mapping)):Option (Int):=
(zDM a0).bind fun t10=>
 cond (!decide (t10=0)) (some t10) ((zX (fun (x:Bool×Int)=>wX a0 x.1 x.2) (true,1)).bind fun (y1:Bool)=>
 cond y1 (some 0) ((zX (fun (x:Int×(List (Mapping_key×Bool)))=>wY a0 x.1 x.2) (0,[])).bind fun (y3:(Unit)⊕(Int))=>
 y3.elim (fun y3=>some 4) (fun y3=>some y3)))
def zFS (a0:Int):Option (Int):=
(cond (decide (4294967296≤a0)) (some (a0/2 ^ 32,32)) (some (a0,0))).bind fun (y1:Int×Int)=>
(cond (decide (65536≤y1.1)) (some (y1.1/2 ^ 16,wi (y1.2+16))) (some (y1.1,y1.2))).bind fun (y2:Int×Int)=>
(cond (decide (256≤y2.1)) (some (y2.1/2 ^ 8,wi (y2.2+8))) (some (y2.1,y2.2))).bind fun (y3:Int×Int)=>
(zT7 [0,1,2,2,3,3,3,3,4,4,4,4,4,4,4,4,5,5,5,5,5,5,5,5,5,5,5,5,5,5,5,5,6,6,6,6,6,6,6,6,6,6,6,6,6,6,6,6,6,6,6,6,6,6,6,6,6,6,6,6,6,6,6,6,7,7,7,7,7,7,7,7,7,7,7,7,7,7,7,7,7,7,7,7,7,7,7,7,7,7,7,7,7,7,7,7,7,7,7,7,7,7,7,7,7,7,7,7,7,7,7,7,7,7,7,7,7,7,7,7,7,7,7,7,7,7,7,7,8,8,8,8,8,8,8,8,8,8,8,8,8,8,8,8,8,8,8,8,8,8,8,8,8,8,8,8,8,8,8,8,8,8,8,8,8,8,8,8,8,8,8,8,8,8,8,8,8,8,8,8,8,8,8,8,8,8,8,8,8,8,8,8,8,8,8,8,8,8,8,8,8,8,8,8,8,8,8,8,8,8,8,8,8,8,8,8,8,8,8,8,8,8,8,8,8,8,8,8,8,8,8,8,8,8,8,8,8,8,8,8,8,8,8,8,8,8,8,8,8,8,8,8,8,8,8,8] ((IntKind.u8.wrap) y3.1)).bind fun t22=>
 some (wi (y3.2+(wi t22)))
def zDO (a0:Int):Option (Int):=
(zFS a0).bind fun t7=>
 some t7
def kT (a1:Int) (a3:Range→Range→Option (Int)) (v9:Int) (r3000:(List Range)):Option (Stp (Int×(List Range)) (((List Range)))):=
(pv (decide (a1<v9))).bind fun b21=>
(gM b21 (kZ r3000 v9)).bind fun t25=>
(gM b21 (kZ r3000 (wi (v9-1)))).bind fun t30=>
(gM b21 (a3 t25 t30)).bind fun t32=>
 cond (b21&&(decide (t32<0))) ((kZ r3000 (wi (v9-1))).bind fun t45=>
(kZ r3000 v9).bind fun t49=>
(kZ r3000 v9).bind fun t51=>
(zBM r3000 v9 t45).bind fun r3000_6x15=>
(kZ r3000_6x15 (wi (v9-1))).bind fun t52=>
(zBM r3000_6x15 (wi (v9-1)) t49).bind fun r3000_6x17=>
 some (.next (wi (v9-1),r3000_6x17))) (some (.done r3000))
def kC (a2:Int) (a1:Int) (a3:Range→Range→Option (Int)) (v8:Int) (r3000:(List Range)):Option (Stp (Int×(List Range)) (((List Range)))):=
 cond (decide (v8<a2)) ((zX (fun (x:Int×(List Range))=>kT a1 a3 x.1 x.2) (v8,r3000)).bind fun (y2:(List Range))=>
 some (.next (wi (v8+1),y2))) (some (.done r3000))
def jO (a0:(List Range)) (a1:Int) (a2:Int) (a3:Range→Range→Option (Int)):Option ((List Range)):=
(zX (fun (x:Int×(List Range))=>kC a2 a1 a3 x.1 x.2) (wi (a1+1),a0)).bind fun (y1:(List Range))=>
 some y1
def jI (a2:Int) (a1:Int) (a0:(List Range)) (a4:Range→Range→Option (Int)) (a3:Int):Option (Stp (Unit) (((List Range)))):=
(cond (decide ((wi (a2-a1))≤12)) ((jO a0 a1 a2 a4).bind fun t30=>
 some t30) (cond (decide (a3=0)) (none) ((cond (!true) (none) (some ())).bind fun (y3:Unit)=>
 none))).bind fun (y2:(List Range))=>
 some (.done y2)
def xR (a0:(List Range)) (a1:Int) (a2:Int) (a3:Int) (a4:Range→Range→Option (Int)):Option ((List Range)):=
(zX (fun (_:Unit)=>jI a2 a1 a0 a4 a3) ()).bind fun (y1:(List Range))=>
 some y1
def jS (a0:(List Range)) (a1:Range→Range→Option (Int)):Option ((List Range)):=
(zDO (wu (a0.length:Int))).bind fun t11=>
(xR a0 0 (a0.length:Int) t11 a1).bind fun t13=>
 some t13
def zA6 (a0:Range) (a1:Range):Option (Int):=
(x8 a0.Lo a1.Lo).bind fun t9=>
(x8 a0.Hi a1.Hi).bind fun t14=>
(zEX [t9,t14]).bind fun t16=>
 some t16
def zBH (a0:(List Range)) (v13:Int) (r1003:(List Range)):Option (Stp (Int×(List Range)) (((List Range)))):=
 cond (decide (v13<(a0.length:Int))) (((kZ a0 v13).bind fun t15=>
 cond (decide ((({Lo:=max t15.Lo 0,Hi:=min t15.Hi 1114111}:Range).Lo)≤(({Lo:=max t15.Lo 0,Hi:=min t15.Hi 1114111}:Range).Hi))) ((app r1003 [({Lo:=max t15.Lo 0,Hi:=min t15.Hi 1114111}:Range)]).bind fun r1003_3=>
 some r1003_3) (some r1003)).bind fun (y2:(List Range))=>
 some (.next (wi (v13+1),y2))) (some (.done r1003))
def zBI (t35:(List Range)) (v38:Int) (r1007:(List Range)):Option (Stp (Int×(List Range)) (((List Range)))):=
 cond (decide (v38<(t35.length:Int))) (((kZ t35 v38).bind fun t40=>
(pv (decide (0<(r1007.length:Int)))).bind fun b46=>
(gM b46 (kZ r1007 (wi ((r1007.length:Int)-1)))).bind fun t52=>
 cond (b46&&(decide (t40.Lo≤(wi (t52.Hi+1))))) ((kZ r1007 (wi ((r1007.length:Int)-1))).bind fun t64=>
(kZ r1007 (wi ((r1007.length:Int)-1))).bind fun t70=>
(zBM r1007 (wi ((r1007.length:Int)-1)) ({t70 with Hi:=max t64.Hi t40.Hi})).bind fun r1007_6=>
 some r1007_6) ((app r1007 [t40]).bind fun r1007_7=>
 some r1007_7)).bind fun (y5:(List Range))=>
 some (.next (wi (v38+1),y5))) (some (.done r1007))
def zGS (a0:(List Range)):Option (Set):=
(zX (fun (x:Int×(List Range))=>zBH a0 x.1 x.2) (0,[])).bind fun (y1:(List Range))=>
(jS y1 (fun x0 x1=>zA6 x0 x1)).bind fun t35=>
(zX (fun (x:Int×(List Range))=>zBI t35 x.1 x.2) (0,[])).bind fun (y4:(List Range))=>
 some ({Ranges:=y4}:Set)
def zB2 (t8:Set) (a0:Set) (v19:Int):Option (Stp (Int) ((Unit)⊕(Bool))):=
 cond (decide (v19<(t8.Ranges.length:Int))) ((kZ t8.Ranges v19).bind fun t22=>
(kZ a0.Ranges v19).bind fun t28=>
 cond (!decide (t22=t28)) (some (.done (.inr (false)))) (some (.next (wi (v19+1))))) (some (.done (.inl (()))))
def zFJ (a0:Set):Option (Bool):=
(zGS a0.Ranges).bind fun t8=>
 cond (!decide ((t8.Ranges.length:Int)=(a0.Ranges.length:Int))) (some false) ((zX (fun (x:Int)=>zB2 t8 a0 x) 0).bind fun (y1:(Unit)⊕(Bool))=>
 y1.elim (fun y1=>some true) (fun y1=>some y1))
def zC6 (a0:Int):Option (Int):=
(pv (decide (4352≤a0))).bind fun b6=>
 cond (b6&&(decide (a0<4371))) (some 1) ((pv (decide (4449≤a0))).bind fun b13=>
 cond (b13&&(decide (a0<4470))) (some 2) ((pv (decide (4520≤a0))).bind fun b20=>
 cond (b20&&(decide (a0<4547))) (some 3) ((pv (decide (a0<44032))).bind fun b27=>
 cond (b27 ||(decide (55204≤a0))) (some 0) ((zIS (wi (a0-44032)) 28).bind fun t34=>
 cond (decide (t34=0)) (some 4) (some 5)))))
def zAZ (a0:(List Span)):Option ((List Span)):=
(zB0 a0).bind fun t4=>
 cond (!decide (t4=0)) (some []) (some a0)
def yY (a0:(List Span)) (a2:Span→Int→Option (Int)) (a1:Int) (v9:Int) (v10:Int):Option (Stp (Int×Int) ((Int))):=
 cond (decide (v9<v10)) (((kZ a0 (wi ((wu (wi (v9+v10)))/2 ^ 1))).bind fun t27=>
(a2 t27 a1).bind fun t30=>
 cond (decide (t30<0)) (some (wi ((wi ((wu (wi (v9+v10)))/2 ^ 1))+1),v10)) (some (v9,wi ((wu (wi (v9+v10)))/2 ^ 1)))).bind fun (y2:Int×Int)=>
 some (.next (y2.1,y2.2))) (some (.done v9))
def jN (a0:(List Span)) (a1:Int) (a2:Span→Int→Option (Int)):Option (Int×Bool):=
(zX (fun (x:Int×Int)=>yY a0 a2 a1 x.1 x.2) (0,(a0.length:Int))).bind fun (y1:Int)=>
(pv (decide (y1<(a0.length:Int)))).bind fun b39=>
(gM b39 (kZ a0 y1)).bind fun t43=>
(gM b39 (a2 t43 a1)).bind fun t46=>
 some (y1,(b39&&(decide (t46=0))))
def zAH (a0:Span) (a1:Int):Option (Int):=
 cond (decide (a0.Hi<a1)) (some (-1)) (cond (decide (a1<a0.Lo)) (some 1) (some 0))
def jQ (a0:(List Span)) (a1:Int):Option (Int):=
(jN a0 a1 (fun x0 x1=>zAH x0 x1)).bind fun t10=>
 cond (!t10.2) (some 0) ((kZ a0 t10.1).bind fun t17=>
 some t17.Value)
def jJ (a1:(List Int)) (a2:(List Span)) (items:(List (Range))) (v4:Int) (v10:Int) (v1000000:Nat):Option (Stp (Int×Int×Nat) ((Int×Nat)⊕(Nat))):=
 cond (decide (v10<(a1.length:Int))) (((kZ a1 v10).bind fun t13=>
(jQ a2 t13).bind fun t17=>
((pv (!(decide (t17=0)))).bind fun b22=>
 cond (b22&&(decide (v4<0))) (some (.inl ((v10,v1000000)))) ((pv (decide (t17=0))).bind fun b29=>
 cond (b29&&(decide (0≤v4))) ((yM items v1000000 ({Lo:=v4,Hi:=v10}:Range)).bind fun u37=>
 cond (!true) (some (.inr (v1000000+1))) (some (.inl (((-1),v1000000+1))))) (some (.inl ((v4,v1000000)))))).bind fun (y3:(Int×Nat)⊕(Nat))=>
 y3.elim (fun y3=>some (.inl ((y3.1,y3.2)))) (fun y3=>some (.inr (y3)))).bind fun (y2:(Int×Nat)⊕(Nat))=>
 y2.elim (fun y2=>some (.next (y2.1,wi (v10+1),y2.2))) (fun y2=>some (.done (.inr (y2))))) (some (.done (.inl ((v4,v1000000)))))
def zA0 (items:List Range) (a1:(List Int)) (a2:(List Span)):Option Unit:=
(zX (fun (x:Int×Int×Nat)=>jJ a1 a2 items x.1 x.2.1 x.2.2) ((-1),0,0)).bind fun (y1:(Int×Nat)⊕(Nat))=>
 y1.elim (fun y1=>cond (decide (0≤y1.1)) ((yM items y1.2 ({Lo:=y1.1,Hi:=(a1.length:Int)}:Range)).bind fun u47=>
 zWM items (y1.2+1)) (zWM items y1.2)) (fun y1=>zWM items y1)
def xN (st:Int→Bool):List Int→Int→Int→List Range
 | [],i,s=>if 0≤s then [{Lo:=s,Hi:=i}] else []
 | c::r,i,s=>if !st c&&decide (s<0) then xN st r (i+1) i else if st c&&decide (0≤s) then {Lo:=s,Hi:=i}::xN st r (i+1) (-1) else xN st r (i+1) s
def z7M {α:Type} (l:List α):Option (List α):=if l.length≤LIM then some l else none
def zDP (a0:List Span) (a1:List Int):Option (List Range):=(zAZ a0).bind fun t6=>(zA0 (xN (fun c=>jQ t6 c==some 0) a1 0 (-1)) a1 t6).bind fun _=>z7M (xN (fun c=>jQ t6 c==some 0) a1 0 (-1))
def zF5 (a0:Int):Option (A3Int):=
(zC6 a0).bind fun t6=>
 cond (decide (t6<4)) (some ({x0:=0,x1:=0,x2:=0}:A3Int)) ((zL7 wi (wi (a0-44032)) 28).bind fun t12=>
(zL7 wi t12 21).bind fun t13=>
(zL7 wi (wi (a0-44032)) 28).bind fun t16=>
(zIS t16 21).bind fun t17=>
(zIS (wi (a0-44032)) 28).bind fun t21=>
(cond (decide (0<t21)) ((zIS (wi (a0-44032)) 28).bind fun t24=>
 some (wi ((wi (4520+t24))-1))) (some (({x0:=wi (4352+t13),x1:=wi (4449+t17),x2:=0}:A3Int).x2))).bind fun (y1:Int)=>
 some ({x0:=({x0:=wi (4352+t13),x1:=wi (4449+t17),x2:=0}:A3Int).x0,x1:=({x0:=wi (4352+t13),x1:=wi (4449+t17),x2:=0}:A3Int).x1,x2:=y1}:A3Int))
def zB3 (a0:Int):Option ((List Int)):=
(zF5 a0).bind fun t5=>
 cond (decide (t5=({x0:=0,x1:=0,x2:=0}:A3Int))) (some [a0]) (cond (decide (t5.x2=0)) (some [t5.x0,t5.x1]) (some [t5.x0,t5.x1,t5.x2]))
def yT (a0:(List Mapping)) (a2:Mapping→Int→Option (Int)) (a1:Int) (v9:Int) (v10:Int):Option (Stp (Int×Int) ((Int))):=
 cond (decide (v9<v10)) (((kZ a0 (wi ((wu (wi (v9+v10)))/2 ^ 1))).bind fun t27=>
(a2 t27 a1).bind fun t30=>
 cond (decide (t30<0)) (some (wi ((wi ((wu (wi (v9+v10)))/2 ^ 1))+1),v10)) (some (v9,wi ((wu (wi (v9+v10)))/2 ^ 1)))).bind fun (y2:Int×Int)=>
 some (.next (y2.1,y2.2))) (some (.done v9))
def kK (a0:(List Mapping)) (a1:Int) (a2:Mapping→Int→Option (Int)):Option (Int×Bool):=
(zX (fun (x:Int×Int)=>yT a0 a2 a1 x.1 x.2) (0,(a0.length:Int))).bind fun (y1:Int)=>
(pv (decide (y1<(a0.length:Int)))).bind fun b39=>
(gM b39 (kZ a0 y1)).bind fun t43=>
(gM b39 (a2 t43 a1)).bind fun t46=>
 some (y1,(b39&&(decide (t46=0))))
def wZ (a0:Mapping) (a1:Int):Option (Int):=
(x8 a0.From a1).bind fun t8=>
 some t8
def uA (a0:Norm) (a1:Int) (a2:Bool):Option ((List Int)×Bool):=
(zC6 a1).bind fun t11=>
 cond (decide (4≤t11)) ((zB3 a1).bind fun t14=>
 some (t14,true)) ((kK a0.Decomp a1 (fun x0 x1=>wZ x0 x1)).bind fun t19=>
(pv (!t19.2)).bind fun b24=>
(gM (!b24) (kZ a0.Decomp t19.1)).bind fun t28=>
(pv (!(t28.Tag== []))).bind fun b32=>
 cond (b24 ||(b32&&(!a2))) (some ([],false)) ((kZ a0.Decomp t19.1).bind fun t40=>
 some (t40.To,true)))
def j7 (t18:(List Int)×Bool) (rec:(Int→Norm→(List (Int×Int))→Bool→Bool→Option (Int×Bool×Bool×(List (Int×Int))))) (a1:Norm) (v12:Int) (v46:Int) (k3003_0:Bool) (k3005_0:Bool) (r3140:(List (Int×Int))):Option (Stp (Int×Int×Bool×Bool×(List (Int×Int))) ((Int×Bool×Bool×(List (Int×Int))))):=
 cond (decide (v46<(t18.1.length:Int))) ((kZ t18.1 v46).bind fun t48=>
(rec t48 a1 r3140 k3003_0 k3005_0).bind fun t53=>
 some (.next (min (wi (v12+t53.1)) 65,wi (v46+1),t53.2.1,t53.2.2.1,t53.2.2.2))) (some (.done (v12,k3003_0,k3005_0,r3140)))
def jU (rec:Int→Norm→(List (Int×Int))→Bool→Bool→Option (Int×Bool×Bool×(List (Int×Int)))) (a0:Int) (a1:Norm) (a2:(List (Int×Int))) (a3:Bool) (a5:Bool):Option (Int×Bool×Bool×(List (Int×Int))):=
(uA a1 a0 true).bind fun t18=>
(pv (!t18.2)).bind fun b23=>
 cond (b23 ||(decide ((t18.1.length:Int)=0))) (some (1,a3,a5,a2)) (cond (wL a2 a0) ((pv a3).bind fun b36=>
 some (max (xM a2 a0 0) 1,(b36 ||(decide ((xM a2 a0 0)=(-1)))),a5,a2)) ((zX (fun (x:Int×Int×Bool×Bool×(List (Int×Int)))=>j7 t18 rec a1 x.1 x.2.1 x.2.2.1 x.2.2.2.1 x.2.2.2.2) (0,0,a3,a5,wD a2 a0 (-1))).bind fun (y1:Int×Bool×Bool×(List (Int×Int)))=>
(pv y1.2.2.1).bind fun b61=>
 some (y1.1,y1.2.1,(b61 ||(decide (64<y1.1))),wD y1.2.2.2 a0 y1.1)))
def kB:Nat→Int→Norm→(List (Int×Int))→Bool→Bool→Option (Int×Bool×Bool×(List (Int×Int)))
 | 0=>fun _ _ _ _ _=>none
 | n+1=>jU (kB n)
def jL (a0:Norm) (v13:Int) (k2_0:Bool) (k3_0:Bool) (r8:(List (Int×Int))):Option (Stp (Int×Bool×Bool×(List (Int×Int))) ((Bool×Bool))):=
 cond (decide (v13<(a0.Decomp.length:Int))) ((kZ a0.Decomp v13).bind fun t15=>
(kB 100 t15.From a0 r8 k2_0 k3_0).bind fun t20=>
 some (.next (wi (v13+1),t20.2.1,t20.2.2.1,t20.2.2.2))) (some (.done (k2_0,k3_0)))
def decompose_measure (a0:Norm):Option (Bool×Bool):=
(zX (fun (x:Int×Bool×Bool×(List (Int×Int)))=>jL a0 x.1 x.2.1 x.2.2.1 x.2.2.2) (0,false,false,[])).bind fun (y1:Bool×Bool)=>
 some (y1.1,y1.2)
def w7 (a0:Norm) (v5:Int):Option (Stp (Int) ((Unit)⊕(Int))):=
 cond (decide (v5<(a0.Decomp.length:Int))) ((kZ a0.Decomp v5).bind fun t39=>
(kZ a0.Decomp (wi (v5-1))).bind fun t46=>
 cond (decide (t39.From=t46.From)) (some (.done (.inr (5)))) (some (.next (wi (v5+1))))) (some (.done (.inl (()))))
def w8 (a0:Norm) (v53:Int):Option (Stp (Int) ((Unit)⊕(Int))):=
 cond (decide (v53<(a0.Decomp.length:Int))) ((kZ a0.Decomp v53).bind fun t55=>
(pv (t55.Tag== [])).bind fun b60=>
(pv (b60&&(!decide ((t55.To.length:Int)=1)))).bind fun b66=>
 cond (b66&&(!decide ((t55.To.length:Int)=2))) (some (.done (.inr (8)))) (some (.next (wi (v53+1))))) (some (.done (.inl (()))))
def kV (a0:Norm) (v76:Int) (r1008:(List Int)):Option (Stp (Int×(List Int)) (((List Int))⊕(Int))):=
 cond (decide (v76<(a0.Decomp.length:Int))) (((kZ a0.Decomp v76).bind fun t78=>
(zC6 t78.From).bind fun t82=>
 cond (!decide (t82=0)) (some (.inr (()))) (cond (!(t78.Tag== [])) ((app r1008 [t78.From]).bind fun r1008_5=>
 some (.inl (r1008_5))) (some (.inl (r1008))))).bind fun (y4:((List Int))⊕(Unit))=>
 y4.elim (fun y4=>some (.next (wi (v76+1),y4))) (fun y4=>some (.done (.inr (11))))) (some (.done (.inl (r1008))))
def zCH (a0:Norm):Option (Int):=
(zB0 a0.Classes).bind fun t15=>
 cond (!decide (t15=0)) (some t15) ((u9 a0.Decomp).bind fun t21=>
 cond (!decide (t21=0)) (some t21) ((zFJ a0.Excluded).bind fun t27=>
 cond (!t27) (some 11) ((zX (fun (x:Int)=>w7 a0 x) 1).bind fun (y1:(Unit)⊕(Int))=>
 y1.elim (fun y1=>(zX (fun (x:Int)=>w8 a0 x) 0).bind fun (y2:(Unit)⊕(Int))=>
 y2.elim (fun y2=>(zX (fun (x:Int×(List Int))=>kV a0 x.1 x.2) (0,[])).bind fun (y3:((List Int))⊕(Int))=>
 y3.elim (fun y3=>(zDP a0.Classes y3).bind fun t96=>
 cond (decide (0<(t96.length:Int))) (some 11) ((decompose_measure a0).bind fun t101=>
 cond t101.1 (some 12) (cond t101.2 (some 13) (some 0)))) (fun y3=>some y3)) (fun y2=>some y2)) (fun y1=>some y1))))
def zAI (a0:Norm):Option (Norm):=
(zCH a0).bind fun t4=>
 cond (!decide (t4=0)) (some ({Classes:=({Classes:=[],Decomp:=[],Excluded:=(({Ranges:=[]}):Set)}:Norm).Classes,Decomp:=({Classes:=[],Decomp:=[],Excluded:=(({Ranges:=[]}):Set)}:Norm).Decomp,Excluded:=({Ranges:=(({Classes:=[],Decomp:=[],Excluded:=(({Ranges:=[]}):Set)}:Norm).Excluded).Ranges}:Set)}:Norm)) (some a0)
def jW (t26:(List Int)×Bool) (rec:(Int→(List (Int×(List Int)))→Norm→Bool→Option ((List Int)×(List (Int×(List Int)))))) (a2:Norm) (a3:Bool) (v35:Int) (r1011:(List Int)) (r3120:(List (Int×(List Int)))):Option (Stp (Int×(List Int)×(List (Int×(List Int)))) (((List Int)×(List (Int×(List Int)))))):=
 cond (decide (v35<(t26.1.length:Int))) ((kZ t26.1 v35).bind fun t37=>
(rec t37 r3120 a2 a3).bind fun t42=>
(app r1011 t42.1).bind fun r1011_2=>
 some (.next (wi (v35+1),r1011_2,t42.2))) (some (.done (r1011,r3120)))
def wG (rec:Int→(List (Int×(List Int)))→Norm→Bool→Option ((List Int)×(List (Int×(List Int))))) (a0:Int) (a1:(List (Int×(List Int)))) (a2:Norm) (a3:Bool):Option ((List Int)×(List (Int×(List Int)))):=
 cond (wL a1 a0) (some (xM a1 a0 [],a1)) ((uA a2 a0 a3).bind fun t26=>
 cond (!t26.2) (some ([a0],a1)) ((zX (fun (x:Int×(List Int)×(List (Int×(List Int))))=>jW t26 rec a2 a3 x.1 x.2.1 x.2.2) (0,[],a1)).bind fun (y1:(List Int)×(List (Int×(List Int))))=>
 some (y1.1,wD y1.2 a0 y1.1)))
def jB:Nat→Int→(List (Int×(List Int)))→Norm→Bool→Option ((List Int)×(List (Int×(List Int))))
 | 0=>fun _ _ _ _=>none
 | n+1=>wG (jB n)
def zCB (a0:Norm) (a1:Bool):Option (Unit):=
 some ()
def zA7 (a0:(List Int)):Option ((List Int)):=app [] a0
def wN (a0:Int) (a1:Int) (a2:(List Span)):Option (Int):=
(jQ a2 a0).bind fun t8=>
(jQ a2 a1).bind fun t11=>
(x8 t8 t11).bind fun t12=>
 some t12
def yU (a1:Int) (a3:Int→Int→Option (Int)) (v9:Int) (r3000:(List Int)):Option (Stp (Int×(List Int)) (((List Int)))):=
(pv (decide (a1<v9))).bind fun b21=>
(gM b21 (kZ r3000 v9)).bind fun t25=>
(gM b21 (kZ r3000 (wi (v9-1)))).bind fun t30=>
(gM b21 (a3 t25 t30)).bind fun t32=>
 cond (b21&&(decide (t32<0))) ((kZ r3000 (wi (v9-1))).bind fun t45=>
(kZ r3000 v9).bind fun t49=>
(kZ r3000 v9).bind fun t51=>
(zBM r3000 v9 t45).bind fun r3000_6x15=>
(kZ r3000_6x15 (wi (v9-1))).bind fun t52=>
(zBM r3000_6x15 (wi (v9-1)) t49).bind fun r3000_6x17=>
 some (.next (wi (v9-1),r3000_6x17))) (some (.done r3000))
def yQ (a2:Int) (a1:Int) (a3:Int→Int→Option (Int)) (v8:Int) (r3000:(List Int)):Option (Stp (Int×(List Int)) (((List Int)))):=
 cond (decide (v8<a2)) ((zX (fun (x:Int×(List Int))=>yU a1 a3 x.1 x.2) (v8,r3000)).bind fun (y2:(List Int))=>
 some (.next (wi (v8+1),y2))) (some (.done r3000))
def jE (a0:(List Int)) (a1:Int) (a2:Int) (a3:Int→Int→Option (Int)):Option ((List Int)):=
(zX (fun (x:Int×(List Int))=>yQ a2 a1 a3 x.1 x.2) (wi (a1+1),a0)).bind fun (y1:(List Int))=>
 some y1
def kW (a3:Int) (a2:Int) (a1:Int) (v10:Int) (r3000:(List Int)):Option (Stp (Int×(List Int)) (((List Int)))):=
 cond (decide (v10<a3)) ((kZ r3000 (wi (a2+v10))).bind fun t28=>
(kZ r3000 (wi (a1+v10))).bind fun t34=>
(kZ r3000 (wi (a1+v10))).bind fun t36=>
(zBM r3000 (wi (a1+v10)) t28).bind fun r3000_3x21=>
(kZ r3000_3x21 (wi (a2+v10))).bind fun t37=>
(zBM r3000_3x21 (wi (a2+v10)) t34).bind fun r3000_3x23=>
 some (.next (wi (v10+1),r3000_3x23))) (some (.done r3000))
def jG (a0:(List Int)) (a1:Int) (a2:Int) (a3:Int) (a4:Int→Int→Option (Int)):Option ((List Int)):=
(zX (fun (x:Int×(List Int))=>kW a3 a2 a1 x.1 x.2) (0,a0)).bind fun (y1:(List Int))=>
 some y1
def kQ (a2:Int) (a4:Int→Int→Option (Int)) (v10:Int) (v11:Int) (r3000:(List Int)):Option (Stp (Int×Int×(List Int)) ((Int×(List Int)))):=
 cond (!decide (v10=v11)) ((cond (decide (v11<v10)) ((jG r3000 (wi (a2-v10)) a2 v11 a4).bind fun t31=>
 some (wi (v10-v11),v11,t31)) ((jG r3000 (wi (a2-v10)) (wi ((wi (a2+v11))-v10)) v10 a4).bind fun t46=>
 some (v10,wi (v11-v10),t46))).bind fun (y2:Int×Int×(List Int))=>
 some (.next (y2.1,y2.2.1,y2.2.2))) (some (.done (v10,r3000)))
def xL (a0:(List Int)) (a1:Int) (a2:Int) (a3:Int) (a4:Int→Int→Option (Int)):Option ((List Int)):=
(zX (fun (x:Int×Int×(List Int))=>kQ a2 a4 x.1 x.2.1 x.2.2) (wi (a2-a1),wi (a3-a2),a0)).bind fun (y1:Int×(List Int))=>
(jG y1.2 (wi (a2-y1.1)) a2 y1.1 a4).bind fun t57=>
 some t57
def k3 (a0:(List Int)) (a1:Int) (a4:Int→Int→Option (Int)) (v10:Int) (v11:Int):Option (Stp (Int×Int) ((Int))):=
 cond (decide (v10<v11)) (((kZ a0 (wi ((wu (wi (v10+v11)))/2 ^ 1))).bind fun t43=>
(kZ a0 a1).bind fun t47=>
(a4 t43 t47).bind fun t49=>
 cond (decide (t49<0)) (some (wi ((wi ((wu (wi (v10+v11)))/2 ^ 1))+1),v11)) (some (v10,wi ((wu (wi (v10+v11)))/2 ^ 1)))).bind fun (y2:Int×Int)=>
 some (.next (y2.1,y2.2))) (some (.done v10))
def k4 (y1:Int) (v13:Int) (r3000:(List Int)):Option (Stp (Int×(List Int)) (((List Int)))):=
 cond (decide (v13<(wi (y1-1)))) ((kZ r3000 (wi (v13+1))).bind fun t69=>
(kZ r3000 v13).bind fun t73=>
(kZ r3000 v13).bind fun t75=>
(zBM r3000 v13 t69).bind fun r3000_11x15=>
(kZ r3000_11x15 (wi (v13+1))).bind fun t76=>
(zBM r3000_11x15 (wi (v13+1)) t73).bind fun r3000_11x17=>
 some (.next (wi (v13+1),r3000_11x17))) (some (.done r3000))
def k5 (a0:(List Int)) (a2:Int) (a4:Int→Int→Option (Int)) (v14:Int) (v15:Int):Option (Stp (Int×Int) ((Int))):=
 cond (decide (v14<v15)) (((kZ a0 a2).bind fun t95=>
(kZ a0 (wi ((wu (wi (v14+v15)))/2 ^ 1))).bind fun t99=>
(a4 t95 t99).bind fun t101=>
 cond (!(decide (t101<0))) (some (wi ((wi ((wu (wi (v14+v15)))/2 ^ 1))+1),v15)) (some (v14,wi ((wu (wi (v14+v15)))/2 ^ 1)))).bind fun (y5:Int×Int)=>
 some (.next (y5.1,y5.2))) (some (.done v14))
def k6 (y4:Int) (v17:Int) (r3000:(List Int)):Option (Stp (Int×(List Int)) (((List Int)))):=
 cond (decide (y4<v17)) ((kZ r3000 (wi (v17-1))).bind fun t121=>
(kZ r3000 v17).bind fun t125=>
(kZ r3000 v17).bind fun t127=>
(zBM r3000 v17 t121).bind fun r3000_23x15=>
(kZ r3000_23x15 (wi (v17-1))).bind fun t128=>
(zBM r3000_23x15 (wi (v17-1)) t125).bind fun r3000_23x17=>
 some (.next (wi (v17-1),r3000_23x17))) (some (.done r3000))
def k7 (a0:(List Int)) (a1:Int) (a3:Int) (a2:Int) (a4:Int→Int→Option (Int)) (v20:Int) (v21:Int):Option (Stp (Int×Int) ((Int))):=
 cond (decide (v20<v21)) (((kZ a0 (wi ((wi ((wi ((wi ((wu (wi (a1+a3)))/2 ^ 1))+a2))-1))-(wi ((wu (wi (v20+v21)))/2 ^ 1))))).bind fun t163=>
(kZ a0 (wi ((wu (wi (v20+v21)))/2 ^ 1))).bind fun t167=>
(a4 t163 t167).bind fun t169=>
 cond (!(decide (t169<0))) (some (wi ((wi ((wu (wi (v20+v21)))/2 ^ 1))+1),v21)) (some (v20,wi ((wu (wi (v20+v21)))/2 ^ 1)))).bind fun (y9:Int×Int)=>
 some (.next (y9.1,y9.2))) (some (.done v20))
def kN (rec:((List Int))→(Int)→(Int)→(Int)→(Int→Int→Option (Int))→Option ((List Int))) (a0:(List Int)) (a1:Int) (a2:Int) (a3:Int) (a4:Int→Int→Option (Int)):Option ((List Int)):=
 cond (decide ((wi (a2-a1))=1)) ((zX (fun (x:Int×Int)=>k3 a0 a1 a4 x.1 x.2) (a2,a3)).bind fun (y1:Int)=>
(zX (fun (x:Int×(List Int))=>k4 y1 x.1 x.2) (a1,a0)).bind fun (y3:(List Int))=>
 some y3) (cond (decide ((wi (a3-a2))=1)) ((zX (fun (x:Int×Int)=>k5 a0 a2 a4 x.1 x.2) (a1,a2)).bind fun (y4:Int)=>
(zX (fun (x:Int×(List Int))=>k6 y4 x.1 x.2) (a2,a0)).bind fun (y6:(List Int))=>
 some y6) ((cond (decide ((wi ((wu (wi (a1+a3)))/2 ^ 1))<a2)) (some (wi ((wi ((wi ((wu (wi (a1+a3)))/2 ^ 1))+a2))-a3),wi ((wu (wi (a1+a3)))/2 ^ 1))) (some (a1,a2))).bind fun (y7:Int×Int)=>
(zX (fun (x:Int×Int)=>k7 a0 a1 a3 a2 a4 x.1 x.2) (y7.1,y7.2)).bind fun (y8:Int)=>
(pv (decide (y8<a2))).bind fun b181=>
(cond (b181&&(decide (a2<(wi ((wi ((wi ((wu (wi (a1+a3)))/2 ^ 1))+a2))-y8))))) ((xL a0 y8 a2 (wi ((wi ((wi ((wu (wi (a1+a3)))/2 ^ 1))+a2))-y8)) a4).bind fun t191=>
 some t191) (some a0)).bind fun (y10:(List Int))=>
(pv (decide (a1<y8))).bind fun b195=>
(cond (b195&&(decide (y8<(wi ((wu (wi (a1+a3)))/2 ^ 1))))) ((rec y10 a1 y8 (wi ((wu (wi (a1+a3)))/2 ^ 1)) a4).bind fun t205=>
 some t205) (some y10)).bind fun (y11:(List Int))=>
(pv (decide ((wi ((wu (wi (a1+a3)))/2 ^ 1))<(wi ((wi ((wi ((wu (wi (a1+a3)))/2 ^ 1))+a2))-y8))))).bind fun b209=>
 cond (b209&&(decide ((wi ((wi ((wi ((wu (wi (a1+a3)))/2 ^ 1))+a2))-y8))<a3))) ((rec y11 (wi ((wu (wi (a1+a3)))/2 ^ 1)) (wi ((wi ((wi ((wu (wi (a1+a3)))/2 ^ 1))+a2))-y8)) a3 a4).bind fun t219=>
 some t219) (some y11)))
def k8:Nat→((List Int))→(Int)→(Int)→(Int)→(Int→Int→Option (Int))→Option ((List Int))
 | 0=>fun _ _ _ _ _=>none
 | n+1=>kN (k8 n)
def kD (a1:Int) (a2:Int→Int→Option (Int)) (v7:Int) (v8:Int) (r3000:(List Int)):Option (Stp (Int×Int×(List Int)) ((Int×(List Int)))):=
 cond (decide (v8≤a1)) ((jE r3000 v7 v8 a2).bind fun t18=>
 some (.next (v8,wi (v8+20),t18))) (some (.done (v7,r3000)))
def kF (a1:Int) (v6:Int) (a2:Int→Int→Option (Int)) (v7:Int) (v8:Int) (r3000:(List Int)):Option (Stp (Int×Int×(List Int)) ((Int×(List Int)))):=
 cond (decide (v8≤a1)) ((k8 60 r3000 v7 (wi (v7+v6)) v8 a2).bind fun t43=>
 some (.next (v8,wi (v8+(wi (2*v6))),t43))) (some (.done (v7,r3000)))
def kR (a1:Int) (a2:Int→Int→Option (Int)) (v6:Int) (r3000:(List Int)):Option (Stp (Int×(List Int)) (((List Int)))):=
 cond (decide (v6<a1)) ((zX (fun (x:Int×Int×(List Int))=>kF a1 v6 a2 x.1 x.2.1 x.2.2) (0,wi (2*v6),r3000)).bind fun (y3:Int×(List Int))=>
(cond (decide ((wi (y3.1+v6))<a1)) ((k8 60 y3.2 y3.1 (wi (y3.1+v6)) a1 a2).bind fun t60=>
 some t60) (some y3.2)).bind fun (y4:(List Int))=>
 some (.next (wi (v6*2),y4))) (some (.done r3000))
def vJ (a0:(List Int)) (a1:Int) (a2:Int→Int→Option (Int)):Option ((List Int)):=
(zX (fun (x:Int×Int×(List Int))=>kD a1 a2 x.1 x.2.1 x.2.2) (0,20,a0)).bind fun (y1:Int×(List Int))=>
(jE y1.2 y1.1 a1 a2).bind fun t27=>
(zX (fun (x:Int×(List Int))=>kR a1 a2 x.1 x.2) (20,t27)).bind fun (y2:(List Int))=>
 some y2
def jM (a0:(List Int)) (a1:Int→Int→Option (Int)):Option ((List Int)):=
(vJ a0 (a0.length:Int) a1).bind fun t8=>
 some t8
def zBJ (a0:List Span) (a1:List Int):Option (List Int):=(zAZ a0).bind fun t8=>(zA7 a1).bind fun t10=>(zA0 (xN (fun c=>jQ t8 c==some 0) a1 0 (-1)) a1 t8).bind fun _=>zAM (fun p=>jM p (fun x0 x1=>wN x0 x1 t8)) Range.Lo Range.Hi t10 (xN (fun c=>jQ t8 c==some 0) a1 0 (-1))
def wH (a1:(List Int)) (t12:Norm) (a2:Bool) (v18:Int) (r1008:(List Int)) (r3515:(List (Int×(List Int)))):Option (Stp (Int×(List Int)×(List (Int×(List Int)))) (((List Int)))):=
 cond (decide (v18<(a1.length:Int))) ((kZ a1 v18).bind fun t20=>
(jB 100 t20 r3515 ({Classes:=t12.Classes,Decomp:=t12.Decomp,Excluded:=({Ranges:=t12.Excluded.Ranges}:Set)}:Norm) a2).bind fun t25=>
(app r1008 t25.1).bind fun r1008_2=>
 some (.next (wi (v18+1),r1008_2,t25.2))) (some (.done r1008))
def zB4 (a0:Norm) (a1:(List Int)) (a2:Bool):Option ((List Int)):=
(zAI ({Classes:=a0.Classes,Decomp:=a0.Decomp,Excluded:=({Ranges:=a0.Excluded.Ranges}:Set)}:Norm)).bind fun t12=>
(zCB ({Classes:=t12.Classes,Decomp:=t12.Decomp,Excluded:=({Ranges:=t12.Excluded.Ranges}:Set)}:Norm) a2).bind fun t15=>
(zX (fun (x:Int×(List Int)×(List (Int×(List Int))))=>wH a1 t12 a2 x.1 x.2.1 x.2.2) (0,[],[])).bind fun (y1:(List Int))=>
(zBJ t12.Classes y1).bind fun t31=>
 some t31
def xV (a0:Normalize_steps) (a1:(List Int)):Option ((List Int)):=
(zB4 a0.norm a1 false).bind fun t8=>
 some t8
def uB (a0:Norm) (a2:(List Int)):Option ((List Int)):=
(((some ()).bind fun (y3:Unit)=>
 some ()).bind fun (y2:Unit)=>
 some ()).bind fun (y1:Unit)=>
(xV ({norm:=({Classes:=(({norm:=a0}:Normalize_steps).norm).Classes,Decomp:=(({norm:=a0}:Normalize_steps).norm).Decomp,Excluded:=({Ranges:=((({norm:=a0}:Normalize_steps).norm).Excluded).Ranges}:Set)}:Norm)}:Normalize_steps) a2).bind fun t34=>
(some ()).bind fun (y4:Unit)=>
 some t34
def vA (a0:(List Mapping)) (v21:Int) (r15:(List (Mapping_key×(List Int)))):Option (Stp (Int×(List (Mapping_key×(List Int)))) (((List (Mapping_key×(List Int)))))):=
 cond (decide (v21<(a0.length:Int))) ((kZ a0 v21).bind fun t23=>
(zBG t23).bind fun t27=>
 some (.next (wi (v21+1),wD r15 t27 t23.To))) (some (.done r15))
def vB (a2:(List Int)) (y1:(List (Mapping_key×(List Int)))) (a1:Str) (v33:Int) (r1010:(List Int)):Option (Stp (Int×(List Int)) (((List Int)))):=
 cond (decide (v33<(a2.length:Int))) (((kZ a2 v33).bind fun t35=>
 cond (wL y1 ({from_:=t35,tag:=a1}:Mapping_key)) ((app r1010 (xM y1 ({from_:=t35,tag:=a1}:Mapping_key) [])).bind fun r1010_5=>
 some r1010_5) ((app r1010 [t35]).bind fun r1010_6=>
 some r1010_6)).bind fun (y4:(List Int))=>
 some (.next (wi (v33+1),y4))) (some (.done r1010))
def zDQ (a0:(List Mapping)) (a1:Str) (a2:(List Int)):Option ((List Int)):=
(u9 a0).bind fun t17=>
(cond (decide (t17=0)) ((zX (fun (x:Int×(List (Mapping_key×(List Int))))=>vA a0 x.1 x.2) (0,[])).bind fun (y2:(List (Mapping_key×(List Int))))=>
 some y2) (some [])).bind fun (y1:(List (Mapping_key×(List Int))))=>
(zX (fun (x:Int×(List Int))=>vB a2 y1 a1 x.1 x.2) (0,[])).bind fun (y3:(List Int))=>
 some y3
def kM (a0:Norm) (a1:(List Mapping)) (a2:(List Int)):Option ((List Int)):=
(uB a0 a2).bind fun t11=>
(zDQ a1 [] t11).bind fun t12=>
(uB a0 t12).bind fun t13=>
 some t13
def x7 (a0:List Int):Option Str:=z7K a0
def wI (a0:Norm) (a1:List Mapping) (a2:List (List Int)):Option (List (List Int)):=if a2.length≤1000000 then (a2.mapM fun t=>(kM a0 a1 t).bind x7).map zWN else none
def xP (a0:(List Int)) (a1:(List Int)) (v13:Int):Option (Stp (Int) ((Unit)⊕(Bool))):=
 cond (decide (v13<(a0.length:Int))) ((kZ a0 v13).bind fun t18=>
(kZ a1 v13).bind fun t22=>
 cond (!decide (t18=t22)) (some (.done (.inr (false)))) (some (.next (wi (v13+1))))) (some (.done (.inl (()))))
def uC (a0:(List Int)) (a1:(List Int)):Option (Bool):=
 cond (!decide ((a0.length:Int)=(a1.length:Int))) (some false) ((zX (fun (x:Int)=>xP a0 a1 x) 0).bind fun (y1:(Unit)⊕(Bool))=>
 y1.elim (fun y1=>some true) (fun y1=>some y1))
def vC (a0:Norm) (a1:(List Mapping)) (a2:(List Int)) (a3:(List Int)):Option (Bool):=
(kM a0 a1 a2).bind fun t12=>
(kM a0 a1 a3).bind fun t16=>
(uC t12 t16).bind fun t17=>
 some t17
def vD (a0:Str) (v15:Int):Option (Stp (Int) ((Unit)⊕(Bool))):=
 cond (decide (v15<(a0.length:Int))) ((zT7 a0 v15).bind fun t20=>
(pv (decide (65≤t20))).bind fun b23=>
(pv (b23&&(decide (t20≤90)))).bind fun b27=>
(pv (decide (97≤t20))).bind fun b30=>
(pv (!(b27 ||(b30&&(decide (t20≤122)))))).bind fun b37=>
(pv (decide (48≤t20))).bind fun b40=>
(pv (b37&&(!(b40&&(decide (t20≤57)))))).bind fun b46=>
 cond (b46&&(!decide (t20=95))) (some (.done (.inr (false)))) (some (.next (wi (v15+1))))) (some (.done (.inl (()))))
def zCI (a0:Str):Option (Bool):=
(pv (a0== [])).bind fun b8=>
 cond (b8 ||(decide (32<(a0.length:Int)))) (some false) ((zX (fun (x:Int)=>vD a0 x) 0).bind fun (y1:(Unit)⊕(Bool))=>
 y1.elim (fun y1=>some true) (fun y1=>some y1))
def uP (a0:(List Str)) (v20:Int) (r17:(List (Str×Int))):Option (Stp (Int×(List (Str×Int))) (((List (Str×Int)))⊕(Bool))):=
 cond (decide (v20<(a0.length:Int))) ((kZ a0 v20).bind fun t23=>
(pv (wL r17 t23)).bind fun b32=>
(gM (!b32) (zCI t23)).bind fun t34=>
 cond (b32 ||(!t34)) (some (.done (.inr (false)))) (some (.next (wi (v20+1),wD r17 t23 v20)))) (some (.done (.inl (r17))))
def zC7 (a0:(List Str)):Option (Bool):=
(pv (decide ((a0.length:Int)=0))).bind fun b12=>
 cond (b12 ||(decide (250<(a0.length:Int)))) (some false) ((zX (fun (x:Int×(List (Str×Int)))=>uP a0 x.1 x.2) (0,[])).bind fun (y1:((List (Str×Int)))⊕(Bool))=>
 y1.elim (fun y1=>some true) (fun y1=>some y1))
def zDU (a0:Span):Option (Bool):=
(wM a0.Lo).bind fun t5=>
(pv t5).bind fun b6=>
(gM b6 (wM a0.Hi)).bind fun t9=>
(pv (b6&&t9)).bind fun b11=>
 some (b11&&(decide (a0.Lo≤a0.Hi)))
def uQ (a0:Property) (v19:Int):Option (Stp (Int) ((Unit)⊕(Bool))):=
 cond (decide (v19<(a0.Spans.length:Int))) (((kZ a0.Spans v19).bind fun t22=>
(zDU t22).bind fun t25=>
(pv (!t25)).bind fun b27=>
(pv (b27 ||(decide (t22.Value<1)))).bind fun b32=>
 cond (b32 ||(decide ((a0.Names.length:Int)≤t22.Value))) (some (.inr (()))) (cond (decide (v19=0)) (some (.inl (()))) ((kZ a0.Spans (wi (v19-1))).bind fun t46=>
(pv (decide (t22.Lo≤t46.Hi))).bind fun b53=>
(pv (decide (t22.Lo=(wi (t46.Hi+1))))).bind fun b60=>
 cond (b53 ||(b60&&(decide (t22.Value=t46.Value)))) (some (.inr (()))) (some (.inl (())))))).bind fun (y2:(Unit)⊕(Unit))=>
 y2.elim (fun y2=>some (.next (wi (v19+1)))) (fun y2=>some (.done (.inr (false))))) (some (.done (.inl (()))))
def zC8 (a0:Property):Option (Bool):=
(zC7 a0.Names).bind fun t11=>
 cond (!t11) (some false) ((zX (fun (x:Int)=>uQ a0 x) 0).bind fun (y1:(Unit)⊕(Bool))=>
 y1.elim (fun y1=>some true) (fun y1=>some y1))
def zAJ (a0:Property):Option (Property):=
(zC8 a0).bind fun t4=>
 cond t4 (some a0) (some ({Names:=[[79,116,104,101,114]],Spans:=[]}:Property))
def zB5 (a0:Int) (a1:(List Span)) (a2:Int):Option (Bool):=
(kZ a1 a0).bind fun t7=>
 some (decide (a2≤t7.Hi))
def zAS (a1:Int→Option (Bool)) (v5:Int) (v6:Int):Option (Stp (Int×Int) ((Int))):=
 cond (decide (v5<v6)) (((a1 (wi ((wu (wi (v5+v6)))/2 ^ 1))).bind fun t20=>
 cond (!t20) (some (wi ((wi ((wu (wi (v5+v6)))/2 ^ 1))+1),v6)) (some (v5,wi ((wu (wi (v5+v6)))/2 ^ 1)))).bind fun (y2:Int×Int)=>
 some (.next (y2.1,y2.2))) (some (.done v5))
def zFK (a0:Int) (a1:Int→Option (Bool)):Option (Int):=
(zX (fun (x:Int×Int)=>zAS a1 x.1 x.2) (0,a0)).bind fun (y1:Int)=>
 some y1
def zD9 (a0:Property) (a1:Int):Option (Int):=
(zAJ a0).bind fun t8=>
(zFK (t8.Spans.length:Int) (fun x0=>zB5 x0 t8.Spans a1)).bind fun t13=>
(pv (decide (t13<(t8.Spans.length:Int)))).bind fun b18=>
(gM b18 (kZ t8.Spans t13)).bind fun t21=>
 cond (b18&&(decide (t21.Lo≤a1))) ((kZ t8.Spans t13).bind fun t29=>
 some t29.Value) (some 0)
def zDR (a0:Property) (a1:Int):Option (Str):=
(zAJ a0).bind fun t6=>
(zD9 a0 a1).bind fun t10=>
(kZ t6.Names t10).bind fun t11=>
 some t11
def j8 (a1:(List Int)) (a0:Property) (v17:Int) (r11:(List (Int×Str))) (r14:(List Str)):Option (Stp (Int×(List (Int×Str))×(List Str)) (((List Str)))):=
 cond (decide (v17<(a1.length:Int))) ((kZ a1 v17).bind fun t20=>
(cond (!(wL r11 t20)) ((zDR a0 t20).bind fun t32=>
((cond (t32== [67,111,109,109,111,110]) (some (t32== [67,111,109,109,111,110])) (cond (t32== [73,110,104,101,114,105,116,101,100]) (some (t32== [73,110,104,101,114,105,116,101,100])) (some (t32== [79,116,104,101,114])))).bind fun (y4:Bool)=>
 cond y4 (some []) (some t32)).bind fun (y3:Str)=>
 some (y3,wD r11 t20 y3)) (some (xM r11 t20 [],r11))).bind fun (y2:Str×(List (Int×Str)))=>
(kZ r14 v17).bind fun t44=>
(zBM r14 v17 y2.1).bind fun r14_5=>
 some (.next (wi (v17+1),y2.2,r14_5))) (some (.done r14))
def uY (a0:Property) (a1:(List Int)):Option ((List Str)):=
(mkM [] (a1.length:Int)).bind fun r14=>
(zX (fun (x:Int×(List (Int×Str))×(List Str))=>j8 a1 a0 x.1 x.2.1 x.2.2) (0,[],r14)).bind fun (y1:(List Str))=>
 some y1
def zAA (t12:(List Str)) (v14:Int) (r9:(List (Str×Bool))) (r1006:(List Str)):Option (Stp (Int×(List (Str×Bool))×(List Str)) (((List Str)))):=
 cond (decide (v14<(t12.length:Int))) (((kZ t12 v14).bind fun t16=>
(pv (!(t16== []))).bind fun b20=>
 cond (b20&&(!(xM r9 t16 false))) ((app r1006 [t16]).bind fun r1006_3=>
 some (wD r9 t16 true,r1006_3)) (some (r9,r1006))).bind fun (y2:(List (Str×Bool))×(List Str))=>
 some (.next (wi (v14+1),y2.1,y2.2))) (some (.done r1006))
def zC9 (a0:Property) (a1:(List Int)):Option ((List Str)):=
(uY a0 a1).bind fun t12=>
(zX (fun (x:Int×(List (Str×Bool))×(List Str))=>zAA t12 x.1 x.2.1 x.2.2) (0,[],[])).bind fun (y1:(List Str))=>
(zXN y1).bind fun r1006_4=>
 some r1006_4
def jX (a0:(List Str)) (a1:(List Str)) (v13:Int):Option (Stp (Int) ((Unit)⊕(Bool))):=
 cond (decide (v13<(a0.length:Int))) ((kZ a0 v13).bind fun t18=>
(kZ a1 v13).bind fun t22=>
 cond (!(t18==t22)) (some (.done (.inr (false)))) (some (.next (wi (v13+1))))) (some (.done (.inl (()))))
def xS (a0:(List Str)) (a1:(List Str)):Option (Bool):=
 cond (!decide ((a0.length:Int)=(a1.length:Int))) (some false) ((zX (fun (x:Int)=>jX a0 a1 x) 0).bind fun (y1:(Unit)⊕(Bool))=>
 y1.elim (fun y1=>some true) (fun y1=>some y1))
def wO (a0:Norm) (a1:(List Mapping)) (a2:Property) (a3:(List Int)) (a4:(List Int)):Option (Int):=
(vC a0 a1 a3 a4).bind fun t18=>
 cond (!t18) (some 0) ((zC9 a2 a3).bind fun t22=>
(zC9 a2 a4).bind fun t25=>
(((pv (!decide ((t22.length:Int)=(t25.length:Int)))).bind fun b32=>
 cond (b32 ||(decide (1<(t22.length:Int)))) (some (.inr (wi (0+1)))) ((xS t22 t25).bind fun t40=>
 cond (!t40) (some (.inr (0))) (some (.inl (()))))).bind fun (y2:(Unit)⊕(Int))=>
 y2.elim (fun y2=>some 0) (fun y2=>some (wi (y2+1)))).bind fun (y1:Int)=>
 some (wi (y1+1)))
def zAK (a0:(List Int)) (a1:(List Int)) (v5:Int):Option (Stp (Int) ((Unit)⊕(Int))):=
(pv (decide (v5<(a0.length:Int)))).bind fun b10=>
 cond (b10&&(decide (v5<(a1.length:Int)))) ((kZ a0 v5).bind fun t20=>
(kZ a1 v5).bind fun t24=>
 cond (decide (t20<t24)) (some (.done (.inr ((-1))))) ((kZ a0 v5).bind fun t29=>
(kZ a1 v5).bind fun t33=>
 cond (decide (t33<t29)) (some (.done (.inr (1)))) (some (.next (wi (v5+1)))))) (some (.done (.inl (()))))
def zDS (a0:(List Int)) (a1:(List Int)):Option (Int):=
(zX (fun (x:Int)=>zAK a0 a1 x) 0).bind fun (y1:(Unit)⊕(Int))=>
 y1.elim (fun y1=>cond (decide ((a0.length:Int)<(a1.length:Int))) (some (-1)) (cond (decide ((a1.length:Int)<(a0.length:Int))) (some 1) (some 0))) (fun y1=>some y1)
def zAB (a0:(List Int)) (a1:(List Int)):Option (Bool):=
(zDS a0 a1).bind fun t7=>
 some (decide (t7=0))
def xE (a1:(List Mapping)) (v18:Int) (r15:(List (Int×Bool))):Option (Stp (Int×(List (Int×Bool))) (((List (Int×Bool))))):=
 cond (decide (v18<(a1.length:Int))) (((kZ a1 v18).bind fun t20=>
 cond (t20.Tag== []) (some (wD r15 t20.From true)) (some r15)).bind fun (y2:(List (Int×Bool)))=>
 some (.next (wi (v18+1),y2))) (some (.done r15))
def wB (t41:(List Int)) (y1:(List (Int×Bool))) (v43:Int):Option (Stp (Int) ((Unit)⊕(Bool))):=
 cond (decide (v43<(t41.length:Int))) ((kZ t41 v43).bind fun t45=>
 cond (xM y1 t45 false) (some (.done (.inr (false)))) (some (.next (wi (v43+1))))) (some (.done (.inl (()))))
def wC (a1:(List Mapping)) (a0:Norm) (y1:(List (Int×Bool))) (v31:Int):Option (Stp (Int) ((Unit)⊕(Bool))):=
 cond (decide (v31<(a1.length:Int))) (((kZ a1 v31).bind fun t33=>
 cond (!(t33.Tag== [])) (some (.inl (()))) ((uB a0 t33.To).bind fun t41=>
(zX (fun (x:Int)=>wB t41 y1 x) 0).bind fun (y5:(Unit)⊕(Bool))=>
 y5.elim (fun y5=>some (.inl (()))) (fun y5=>some (.inr (y5))))).bind fun (y4:(Unit)⊕(Bool))=>
 y4.elim (fun y4=>some (.next (wi (v31+1)))) (fun y4=>some (.done (.inr (y4))))) (some (.done (.inl (()))))
def wJ (a0:Norm) (a1:(List Mapping)):Option (Bool):=
(u9 a1).bind fun t13=>
 cond (!decide (t13=0)) (some true) ((zX (fun (x:Int×(List (Int×Bool)))=>xE a1 x.1 x.2) (0,[])).bind fun (y1:(List (Int×Bool)))=>
(zX (fun (x:Int)=>wC a1 a0 y1 x) 0).bind fun (y3:(Unit)⊕(Bool))=>
 y3.elim (fun y3=>some true) (fun y3=>some y3))
def zA8:Option (Bool):=
(wI ({Classes:=[],Decomp:=[],Excluded:=(({Ranges:=[]}):Set)}:Norm) ([({From:=1072,To:=[97],Tag:=[]}:Mapping)]) ([[97],[98],[1072]])).bind fun t22=>
(vC ({Classes:=[],Decomp:=[],Excluded:=(({Ranges:=[]}):Set)}:Norm) ([({From:=1072,To:=[97],Tag:=[]}:Mapping)]) [97] [1072]).bind fun t27=>
(pv t27).bind fun b28=>
(gM b28 (wO ({Classes:=[],Decomp:=[],Excluded:=(({Ranges:=[]}):Set)}:Norm) ([({From:=1072,To:=[97],Tag:=[]}:Mapping)]) ({Names:=[[79,116,104,101,114],[76,97,116,105,110],[67,121,114,105,108,108,105,99]],Spans:=[({Lo:=97,Hi:=122,Value:=1}:Span),({Lo:=1072,Hi:=1103,Value:=2}:Span)]}:Property) [97] [1072])).bind fun t34=>
(pv (b28&&(decide (t34=2)))).bind fun b37=>
(gM b37 (wO ({Classes:=[],Decomp:=[],Excluded:=(({Ranges:=[]}):Set)}:Norm) ([({From:=1072,To:=[97],Tag:=[]}:Mapping)]) ({Names:=[[79,116,104,101,114],[76,97,116,105,110],[67,121,114,105,108,108,105,99]],Spans:=[({Lo:=97,Hi:=122,Value:=1}:Span),({Lo:=1072,Hi:=1103,Value:=2}:Span)]}:Property) [97] [97])).bind fun t43=>
(pv (b37&&(decide (t43=1)))).bind fun b46=>
(pv (b46&&(decide ((t22.length:Int)=1)))).bind fun b51=>
(gM b51 (kZ t22 (0:Int))).bind fun t53=>
(gM b51 (zAB t53 [0,2])).bind fun t56=>
(pv (b51&&t56)).bind fun b58=>
(gM b58 (wJ ({Classes:=[],Decomp:=[],Excluded:=(({Ranges:=[]}):Set)}:Norm) ([({From:=1072,To:=[97],Tag:=[]}:Mapping)]))).bind fun t61=>
 some (b58&&t61)
def zB6 (a0:Norm) (a1:(List Mapping)) (a2:(List Int)):Option ((List Int)):=
(zAP a0 a2).bind fun t10=>
(zD2 a1 [] t10).bind fun t14=>
(zAP a0 t14).bind fun t15=>
 some t15
def zFL (a0:Norm) (a1:(List Mapping)) (a2:(List Int)) (a3:(List Int)):Option (Bool):=
(zB6 a0 a1 a2).bind fun t12=>
(zB6 a0 a1 a3).bind fun t16=>
(zAB t12 t16).bind fun t17=>
 some t17
def uU (a2:(List (List Int))) (v8:Int) (a0:Norm) (a1:(List Mapping)) (v10:Bool) (v11:Int) (r1009:(List Int)):Option (Stp (Bool×Int×(List Int)) ((Bool×(List Int)))):=
 cond (decide (v11<(a2.length:Int))) (((kZ a2 v8).bind fun t28=>
(kZ a2 v11).bind fun t32=>
(zFL a0 a1 t28 t32).bind fun t34=>
 cond t34 ((app r1009 [v11]).bind fun r1009_5=>
(pv v10).bind fun b40=>
 some ((b40&&(decide (v8≤v11))),r1009_5)) (some (v10,r1009))).bind fun (y4:Bool×(List Int))=>
 some (.next (y4.1,wi (v11+1),y4.2))) (some (.done (v10,r1009)))
def uV (a2:(List (List Int))) (a0:Norm) (a1:(List Mapping)) (v8:Int) (r1007:(List (List Int))):Option (Stp (Int×(List (List Int))) (((List (List Int))))):=
 cond (decide (v8<(a2.length:Int))) (((zX (fun (x:Bool×Int×(List Int))=>uU a2 v8 a0 a1 x.1 x.2.1 x.2.2) (true,0,[])).bind fun (y3:Bool×(List Int))=>
(pv y3.1).bind fun b46=>
 cond (b46&&(decide (1<(y3.2.length:Int)))) ((app r1007 [y3.2]).bind fun r1007_6=>
 some r1007_6) (some r1007)).bind fun (y2:(List (List Int)))=>
 some (.next (wi (v8+1),y2))) (some (.done r1007))
def zEA (a0:Norm) (a1:(List Mapping)) (a2:(List (List Int))):Option ((List (List Int))):=
(zX (fun (x:Int×(List (List Int)))=>uV a2 a0 a1 x.1 x.2) (0,[])).bind fun (y1:(List (List Int)))=>
 some y1
def xG (a1:(List (List Int))) (a0:Unicodetextlaw41_Data) (v5:Int):Option (Stp (Int) ((Unit)⊕(Bool))):=
 cond (decide (v5<(a1.length:Int))) ((kZ a1 v5).bind fun t26=>
(pv (decide (8<(t26.length:Int)))).bind fun b30=>
(gM (!b30) (kZ a1 v5)).bind fun t34=>
(gM (!b30) (zC4 a0 [t34])).bind fun t37=>
 cond (b30 ||(!t37)) ((zA8).bind fun t40=>
 some (.done (.inr (t40)))) (some (.next (wi (v5+1))))) (some (.done (.inl (()))))
def xH (t46:(List (List Int))) (t52:(List (List Int))) (v8:Int):Option (Stp (Int) ((Unit)⊕(Bool))):=
 cond (decide (v8<(t46.length:Int))) ((kZ t46 v8).bind fun t66=>
(kZ t52 v8).bind fun t70=>
(zAB t66 t70).bind fun t72=>
 cond (!t72) (some (.done (.inr (false)))) (some (.next (wi (v8+1))))) (some (.done (.inl (()))))
def u2 (a0:Unicodetextlaw41_Data) (a1:(List (List Int))):Option (Bool):=
(zGB a0).bind fun t10=>
(pv (!t10)).bind fun b12=>
 cond (b12 ||(decide (8<(a1.length:Int)))) ((zA8).bind fun t17=>
 some t17) ((zX (fun (x:Int)=>xG a1 a0 x) 0).bind fun (y1:(Unit)⊕(Bool))=>
 y1.elim (fun y1=>(wI a0.Norm a0.Map a1).bind fun t46=>
(zEA a0.Norm a0.Map a1).bind fun t52=>
 cond (!decide ((t46.length:Int)=(t52.length:Int))) (some false) ((zX (fun (x:Int)=>xH t46 t52 x) 0).bind fun (y2:(Unit)⊕(Bool))=>
 y2.elim (fun y2=>(zA8).bind fun t74=>
 some t74) (fun y2=>some y2))) (fun y1=>some y1))
def zHW (a0:(List Mapping)) (a1:Int) (a2:Str):Option ((List Int)×Bool):=
(zD1 a0).bind fun t9=>
(zEW t9 a1 a2).bind fun t12=>
 some (t12.1,t12.2)
def zA1 (t31:(List Int)) (a1:(List Mapping)) (v7:Int):Option (Stp (Int) ((Unit)⊕(Bool))):=
 cond (decide (v7<(t31.length:Int))) ((kZ t31 v7).bind fun t42=>
(zHW a1 t42 []).bind fun t44=>
 cond t44.2 (some (.done (.inr (false)))) (some (.next (wi (v7+1))))) (some (.done (.inl (()))))
def zA2 (a1:(List Mapping)) (a0:Norm) (v5:Int):Option (Stp (Int) ((Unit)⊕(Bool))):=
 cond (decide (v5<(a1.length:Int))) (((kZ a1 v5).bind fun t21=>
 cond (!(t21.Tag== [])) (some (.inl (()))) ((kZ a1 v5).bind fun t28=>
(zAP a0 t28.To).bind fun t31=>
(zX (fun (x:Int)=>zA1 t31 a1 x) 0).bind fun (y3:(Unit)⊕(Bool))=>
 y3.elim (fun y3=>some (.inl (()))) (fun y3=>some (.inr (y3))))).bind fun (y2:(Unit)⊕(Bool))=>
 y2.elim (fun y2=>some (.next (wi (v5+1)))) (fun y2=>some (.done (.inr (y2))))) (some (.done (.inl (()))))
def zEB (a0:Norm) (a1:(List Mapping)):Option (Bool):=
(zB8 a1).bind fun t11=>
 cond (!decide (t11=0)) (some true) ((zX (fun (x:Int)=>zA2 a1 a0 x) 0).bind fun (y1:(Unit)⊕(Bool))=>
 y1.elim (fun y1=>some true) (fun y1=>some y1))
def u5 (a0:Unicodetextlaw41_Data) (a1:(List Int)):Option (Bool):=
(zGB a0).bind fun t8=>
(pv (!t8)).bind fun b10=>
(pv (b10 ||(decide (12<(a1.length:Int))))).bind fun b15=>
(gM (!b15) (zC4 a0 [a1])).bind fun t19=>
 cond (b15 ||(!t19)) ((zA8).bind fun t22=>
 some t22) ((wJ a0.Norm a0.Map).bind fun t27=>
(kM a0.Norm a0.Map a1).bind fun t33=>
(zEB a0.Norm a0.Map).bind fun t39=>
(pv (t27==t39)).bind fun b41=>
(pv (!t27)).bind fun b44=>
(gM (b41&& !b44) (zC4 a0 [t33])).bind fun t48=>
(pv (b44 ||(!t48))).bind fun b51=>
(gM (b41&& !b51) (kM a0.Norm a0.Map t33)).bind fun t57=>
(gM (b41&& !b51) (zAB t57 t33)).bind fun t59=>
(pv (b41&&(b51 ||t59))).bind fun b62=>
(gM b62 (zA8)).bind fun t63=>
 some (b62&&t63))
end
end Go.M


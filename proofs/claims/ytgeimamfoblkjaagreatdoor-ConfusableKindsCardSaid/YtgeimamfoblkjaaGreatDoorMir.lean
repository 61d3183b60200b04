/- Plain counterparts of the program's functions, printed from its form. Conditions: none. -/
import Derived.Test.YtgeimamfoblkjaaGreatDoorLa3
set_option linter.unusedSimpArgs false
set_option linter.unusedVariables false
set_option linter.unnecessarySimpa false
namespace Go.M
structure A3Int where
 x0:Int
 x1:Int
 x2:Int
 deriving DecidableEq,Inhabited
structure Range where
 Lo:Int
 Hi:Int
 deriving DecidableEq,Inhabited
structure A4Range where
 x0:Range
 x1:Range
 x2:Range
 x3:Range
 deriving DecidableEq,Inhabited
structure Mapping where
 From:Int
 To:(List Int)
 Tag:Str
 deriving DecidableEq,Inhabited
structure Mapping_key where
 from_:Int
 tag:Str
 deriving DecidableEq,Inhabited
structure Span where
 Lo:Int
 Hi:Int
 Value:Int
 deriving DecidableEq,Inhabited
structure Set where
 Ranges:(List Range)
 deriving DecidableEq,Inhabited
structure Norm where
 Classes:(List Span)
 Decomp:(List Mapping)
 Excluded:Set
 deriving DecidableEq,Inhabited
structure Normalize_steps where
 norm:Norm
 deriving DecidableEq,Inhabited
structure Property where
 Names:(List Str)
 Spans:(List Span)
 deriving DecidableEq,Inhabited
structure Unicodetextlaw41_Data where
 Norm:Norm
 Map:(List Mapping)
 deriving DecidableEq,Inhabited
structure Unicodetextlaw41_Pair where
 P:Property
 A:(List Int)
 B:(List Int)
 deriving DecidableEq,Inhabited
def zYD (x:Range):Prop:=(-9223372036854775808≤x.Lo∧x.Lo≤9223372036854775807)∧(-9223372036854775808≤x.Hi∧x.Hi≤9223372036854775807)
def zGC (x:Mapping):Prop:=(-9223372036854775808≤x.From∧x.From≤9223372036854775807)∧(x.To.length≤9223372036854775807∧∀y0∈x.To,(-9223372036854775808≤y0∧y0≤9223372036854775807))∧(x.Tag.length≤9223372036854775807)
def okSpan (x:Span):Prop:=(-9223372036854775808≤x.Lo∧x.Lo≤9223372036854775807)∧(-9223372036854775808≤x.Hi∧x.Hi≤9223372036854775807)∧(-9223372036854775808≤x.Value∧x.Value≤9223372036854775807)
def z2K (x:Set):Prop:=(x.Ranges.length≤9223372036854775807∧∀y0∈x.Ranges,(zYD y0))
def zAM (x:Norm):Prop:=(x.Classes.length≤9223372036854775807∧∀y0∈x.Classes,(okSpan y0))∧(x.Decomp.length≤9223372036854775807∧∀y0∈x.Decomp,(zGC y0))∧(z2K x.Excluded)
def okProperty (x:Property):Prop:=(x.Names.length≤9223372036854775807∧∀y0∈x.Names,(y0.length≤9223372036854775807))∧(x.Spans.length≤9223372036854775807∧∀y0∈x.Spans,(okSpan y0))
def zBF (x:Unicodetextlaw41_Data):Prop:=(zAM x.Norm)∧(x.Map.length≤9223372036854775807∧∀y0∈x.Map,(zGC y0))
def zD1 (x:Unicodetextlaw41_Pair):Prop:=(okProperty x.P)∧(x.A.length≤9223372036854775807∧∀y0∈x.A,(-9223372036854775808≤y0∧y0≤9223372036854775807))∧(x.B.length≤9223372036854775807∧∀y0∈x.B,(-9223372036854775808≤y0∧y0≤9223372036854775807))
end Go.M
namespace Go.AV
open Go.M
def wG (x:Mapping_key):Value:= .agg #[.int IntKind.i64 x.from_,.string ⟨x.tag.toArray⟩]
def eA3Int:En A3Int:=⟨fun x=> .agg [(di x.x0),(di x.x1),(di x.x2)],3,fun _=>rfl⟩
def eRange:En Range:=⟨fun x=> .agg [(di x.Lo),(di x.Hi)],2,fun _=>rfl⟩
def eA4Range:En A4Range:=⟨fun x=> .agg [(di x.x0.Lo),(di x.x0.Hi),(di x.x1.Lo),(di x.x1.Hi),(di x.x2.Lo),(di x.x2.Hi),(di x.x3.Lo),(di x.x3.Hi)],8,fun _=>rfl⟩
def eMapping:En Mapping:=⟨fun x=> .agg [(di x.From),(yG eI x.To),(ds x.Tag)],3,fun _=>rfl⟩
def eMapping_key:En Mapping_key:=⟨fun x=> .agg [(di x.from_),(ds x.tag)],2,fun _=>rfl⟩
def eSpan:En Span:=⟨fun x=> .agg [(di x.Lo),(di x.Hi),(di x.Value)],3,fun _=>rfl⟩
def eSet:En Set:=⟨fun x=> .agg [(yG eRange x.Ranges)],1,fun _=>rfl⟩
def eNorm:En Norm:=⟨fun x=> .agg [(yG eSpan x.Classes),(yG eMapping x.Decomp),(yG eRange x.Excluded.Ranges)],3,fun _=>rfl⟩
def eNormalize_steps:En Normalize_steps:=⟨fun x=> .agg [(yG eSpan x.norm.Classes),(yG eMapping x.norm.Decomp),(yG eRange x.norm.Excluded.Ranges)],3,fun _=>rfl⟩
def eProperty:En Property:=⟨fun x=> .agg [(yG eS x.Names),(yG eSpan x.Spans)],2,fun _=>rfl⟩
def eUnicodetextlaw41_Data:En Unicodetextlaw41_Data:=⟨fun x=> .agg [(yG eSpan x.Norm.Classes),(yG eMapping x.Norm.Decomp),(yG eRange x.Norm.Excluded.Ranges),(yG eMapping x.Map)],4,fun _=>rfl⟩
def eUnicodetextlaw41_Pair:En Unicodetextlaw41_Pair:=⟨fun x=> .agg [(yG eS x.P.Names),(yG eSpan x.P.Spans),(yG eI x.A),(yG eI x.B)],4,fun _=>rfl⟩
end Go.AV
namespace Go.M
open Go.AV
noncomputable section
def vI (a0:Norm) (v3:Int):Option (Stp (Int) ((Unit)⊕(Bool))):=
 cond (decide (v3<(a0.Decomp.length:Int))) ((kV a0.Decomp v3).bind fun t31=>
(pv (decide (70<(t31.To.length:Int)))).bind fun b36=>
(gM (!b36) (kV a0.Decomp v3)).bind fun t40=>
 cond (b36 ||(decide (40<(t40.Tag.length:Int)))) (some (.done (.inr (false)))) (some (.next (wi (v3+1))))) (some (.done (.inl (()))))
def zE8 (a0:Norm):Option (Bool):=
(pv (decide (40<(a0.Classes.length:Int)))).bind fun b8=>
(pv (b8 ||(decide (40<(a0.Decomp.length:Int))))).bind fun b14=>
 cond (b14 ||(decide (12<(a0.Excluded.Ranges.length:Int)))) (some false) ((zX (fun (x:Int)=>vI a0 x) 0).bind fun (y1:(Unit)⊕(Bool))=>
 y1.elim (fun y1=>some true) (fun y1=>some y1))
def zBG (a0:(List Mapping)) (v3:Int):Option (Stp (Int) ((Unit)⊕(Bool))):=
(pv (decide (v3<(a0.length:Int)))).bind fun b8=>
 cond (b8&&(decide (v3<30))) ((kV a0 v3).bind fun t16=>
(pv (decide (65<(t16.To.length:Int)))).bind fun b21=>
(gM (!b21) (kV a0 v3)).bind fun t24=>
 cond (b21 ||(decide (40<(t24.Tag.length:Int)))) (some (.done (.inr (false)))) (some (.next (wi (v3+1))))) (some (.done (.inl (()))))
def zE9 (a0:(List Mapping)):Option (Bool):=
(zX (fun (x:Int)=>zBG a0 x) 0).bind fun (y1:(Unit)⊕(Bool))=>
 y1.elim (fun y1=>some (decide ((a0.length:Int)≤20))) (fun y1=>some y1)
def zH3 (a0:Unicodetextlaw41_Data):Option (Bool):=
(zE8 a0.Norm).bind fun t5=>
(pv t5).bind fun b6=>
(gM b6 (zE9 a0.Map)).bind fun t9=>
 some (b6&&t9)
def zAX (a0:Int):Option (Bool):=
(pv (decide (0≤a0))).bind fun b5=>
 some (b5&&(decide (a0≤1114111)))
def zF2:Option ((List Range)):=
 some [({Lo:=4352,Hi:=4370}:Range),({Lo:=4449,Hi:=4469}:Range),({Lo:=4520,Hi:=4546}:Range),({Lo:=44032,Hi:=55203}:Range)]
def zBH (a0:(List Span)) (v3:Int):Option (Stp (Int) ((Unit)⊕(Int))):=
 cond (decide (v3<(a0.length:Int))) ((kV a0 v3).bind fun t16=>
(zAX t16.Lo).bind fun t19=>
(pv (!t19)).bind fun b21=>
(gM (!b21) (kV a0 v3)).bind fun t24=>
(gM (!b21) (zAX t24.Hi)).bind fun t27=>
(pv (b21 ||(!t27))).bind fun b30=>
(gM (!b30) (kV a0 v3)).bind fun t33=>
(gM (!b30) (kV a0 v3)).bind fun t38=>
(pv (b30 ||(decide (t38.Hi<t33.Lo)))).bind fun b43=>
(gM (!b43) (kV a0 v3)).bind fun t46=>
(pv (b43 ||(decide (t46.Value<1)))).bind fun b51=>
(gM (!b51) (kV a0 v3)).bind fun t54=>
 cond (b51 ||(decide (254<t54.Value))) (some (.done (.inr (1)))) (some (.next (wi (v3+1))))) (some (.done (.inl (()))))
def zBI (a0:(List Span)) (v4:Int):Option (Stp (Int) ((Unit)⊕(Int))):=
 cond (decide (v4<(a0.length:Int))) ((kV a0 v4).bind fun t67=>
(kV a0 (wi (v4-1))).bind fun t73=>
(pv (decide (t67.Lo≤t73.Hi))).bind fun b77=>
(gM (!b77) (kV a0 v4)).bind fun t80=>
(gM (!b77) (kV a0 (wi (v4-1)))).bind fun t86=>
(pv (decide (t80.Lo=(wi (t86.Hi+1))))).bind fun b91=>
(gM (!b77&&b91) (kV a0 v4)).bind fun t94=>
(gM (!b77&&b91) (kV a0 (wi (v4-1)))).bind fun t100=>
 cond (b77 ||(b91&&(decide (t94.Value=t100.Value)))) (some (.done (.inr (4)))) (some (.next (wi (v4+1))))) (some (.done (.inl (()))))
def vJ (t106:(List Range)) (a0:(List Span)) (v6:Int) (v7:Int):Option (Stp (Int) ((Unit)⊕(Int))):=
 cond (decide (v7<(t106.length:Int))) ((kV a0 v6).bind fun t121=>
(kV t106 v7).bind fun t126=>
(pv (decide (t121.Lo≤t126.Hi))).bind fun b130=>
(gM b130 (kV t106 v7)).bind fun t133=>
(gM b130 (kV a0 v6)).bind fun t138=>
 cond (b130&&(decide (t133.Lo≤t138.Hi))) (some (.done (.inr (11)))) (some (.next (wi (v7+1))))) (some (.done (.inl (()))))
def zBJ (a0:(List Span)) (t106:(List Range)) (v6:Int):Option (Stp (Int) ((Unit)⊕(Int))):=
 cond (decide (v6<(a0.length:Int))) ((zX (fun (x:Int)=>vJ t106 a0 v6 x) 0).bind fun (y4:(Unit)⊕(Int))=>
 y4.elim (fun y4=>some (.next (wi (v6+1)))) (fun y4=>some (.done (.inr (y4))))) (some (.done (.inl (()))))
def zD2 (a0:(List Span)):Option (Int):=
(zX (fun (x:Int)=>zBH a0 x) 0).bind fun (y1:(Unit)⊕(Int))=>
 y1.elim (fun y1=>(zX (fun (x:Int)=>zBI a0 x) 1).bind fun (y2:(Unit)⊕(Int))=>
 y2.elim (fun y2=>(zF2).bind fun t106=>
(zX (fun (x:Int)=>zBJ a0 t106 x) 0).bind fun (y3:(Unit)⊕(Int))=>
 y3.elim (fun y3=>some 0) (fun y3=>some y3)) (fun y2=>some y2)) (fun y1=>some y1)
def zBK (a0:Mapping) (v3:Int):Option (Stp (Int) ((Unit)⊕(Bool))):=
 cond (decide (v3<(a0.To.length:Int))) ((kV a0.To v3).bind fun t14=>
(zAX t14).bind fun t16=>
 cond (!t16) (some (.done (.inr (false)))) (some (.next (wi (v3+1))))) (some (.done (.inl (()))))
def zFA (a0:Mapping):Option (Bool):=
(zX (fun (x:Int)=>zBK a0 x) 0).bind fun (y1:(Unit)⊕(Bool))=>
 y1.elim (fun y1=>(zAX a0.From).bind fun t20=>
 some t20) (fun y1=>some y1)
def zCE (a0:Str) (v3:Int):Option (Stp (Int) ((Unit)⊕(Bool))):=
 cond (decide (v3<(a0.length:Int))) ((zSI a0 v3).bind fun t13=>
(pv (decide (65≤t13))).bind fun b16=>
(pv (b16&&(decide (t13≤90)))).bind fun b20=>
(pv (decide (97≤t13))).bind fun b23=>
(pv (b20 ||(b23&&(decide (t13≤122))))).bind fun b28=>
(pv (decide (48≤t13))).bind fun b31=>
(pv (b28 ||(b31&&(decide (t13≤57))))).bind fun b36=>
 cond (!(b36 ||(decide (t13=95)))) (some (.done (.inr (false)))) (some (.next (wi (v3+1))))) (some (.done (.inl (()))))
def zGL (a0:Str):Option (Bool):=
(zX (fun (x:Int)=>zCE a0 x) 0).bind fun (y1:(Unit)⊕(Bool))=>
 y1.elim (fun y1=>(pv (decide (1≤(a0.length:Int)))).bind fun b44=>
 some (b44&&(decide ((a0.length:Int)≤32)))) (fun y1=>some y1)
def vK (v3:Int) (a0:(List Mapping)) (v4:Int):Option (Stp (Int) ((Unit)⊕(Bool))):=
 cond (decide (v4<v3)) ((kV a0 v3).bind fun t18=>
(kV a0 v4).bind fun t23=>
(pv (decide (t18.From=t23.From))).bind fun b27=>
(gM b27 (kV a0 v3)).bind fun t30=>
(gM b27 (kV a0 v4)).bind fun t35=>
 cond (b27&&(t30.Tag==t35.Tag)) (some (.done (.inr (true)))) (some (.next (wi (v4+1))))) (some (.done (.inl (()))))
def zBL (a0:(List Mapping)) (v3:Int):Option (Stp (Int) ((Unit)⊕(Bool))):=
 cond (decide (v3<(a0.length:Int))) ((zX (fun (x:Int)=>vK v3 a0 x) 0).bind fun (y2:(Unit)⊕(Bool))=>
 y2.elim (fun y2=>some (.next (wi (v3+1)))) (fun y2=>some (.done (.inr (y2))))) (some (.done (.inl (()))))
def zFB (a0:(List Mapping)):Option (Bool):=
(zX (fun (x:Int)=>zBL a0 x) 0).bind fun (y1:(Unit)⊕(Bool))=>
 y1.elim (fun y1=>some false) (fun y1=>some y1)
def vZ (a0:(List Mapping)) (v3:Int):Option (Stp (Int) ((Unit)⊕(Int))):=
 cond (decide (v3<(a0.length:Int))) ((kV a0 v3).bind fun t14=>
(zFA t14).bind fun t16=>
 cond (!t16) (some (.done (.inr (1)))) (some (.next (wi (v3+1))))) (some (.done (.inl (()))))
def uA (a0:(List Mapping)) (v4:Int):Option (Stp (Int) ((Unit)⊕(Int))):=
 cond (decide (v4<(a0.length:Int))) ((kV a0 v4).bind fun t26=>
 cond (decide (64<(t26.To.length:Int))) (some (.done (.inr (2)))) (some (.next (wi (v4+1))))) (some (.done (.inl (()))))
def uB (a0:(List Mapping)) (v5:Int):Option (Stp (Int) ((Unit)⊕(Int))):=
 cond (decide (v5<(a0.length:Int))) ((kV a0 v5).bind fun t39=>
(pv (!(t39.Tag== []))).bind fun b43=>
(gM b43 (kV a0 v5)).bind fun t46=>
(gM b43 (zGL t46.Tag)).bind fun t49=>
 cond (b43&&(!t49)) (some (.done (.inr (6)))) (some (.next (wi (v5+1))))) (some (.done (.inl (()))))
def zCX (a0:(List Mapping)):Option (Int):=
(zX (fun (x:Int)=>vZ a0 x) 0).bind fun (y1:(Unit)⊕(Int))=>
 y1.elim (fun y1=>(zX (fun (x:Int)=>uA a0 x) 0).bind fun (y2:(Unit)⊕(Int))=>
 y2.elim (fun y2=>(zX (fun (x:Int)=>uB a0 x) 0).bind fun (y3:(Unit)⊕(Int))=>
 y3.elim (fun y3=>(zFB a0).bind fun t53=>
 cond t53 (some 5) (some 0)) (fun y3=>some y3)) (fun y2=>some y2)) (fun y1=>some y1)
def zF3 (a0:Mapping) (a1:Mapping):Option (Bool):=
(pv (decide (a0.From<a1.From))).bind fun b10=>
(pv (decide (a0.From=a1.From))).bind fun b16=>
 some (b10 ||(b16&&(Op.bytesLess a0.Tag a1.Tag)))
def zBM (a0:(List Mapping)) (v4:Int):Option (Stp (Int) ((Unit)⊕(Int))):=
 cond (decide (v4<(a0.length:Int))) ((kV a0 (wi (v4-1))).bind fun t19=>
(kV a0 v4).bind fun t23=>
(zF3 t19 t23).bind fun t25=>
 cond (!t25) (some (.done (.inr (4)))) (some (.next (wi (v4+1))))) (some (.done (.inl (()))))
def zCY (a0:(List Mapping)):Option (Int):=
(zCX a0).bind fun t6=>
 cond (!decide (t6=0)) (some t6) ((zX (fun (x:Int)=>zBM a0 x) 1).bind fun (y1:(Unit)⊕(Int))=>
 y1.elim (fun y1=>some 0) (fun y1=>some y1))
def j8 (a0:(List Int)) (a1:Int) (v6:Bool) (v7:Int) (r1005:(List Int)):Option (Stp (Bool×Int×(List Int)) ((Bool×(List Int)))):=
 cond (decide (v7<(a0.length:Int))) ((pv (!v6)).bind fun b16=>
(gM b16 (kV a0 v7)).bind fun t19=>
(cond (b16&&(decide (a1≤t19))) ((kV a0 v7).bind fun t26=>
 cond (decide (a1<t26)) ((app r1005 [a1]).bind fun r1005_3=>
 some (true,r1005_3)) (some (true,r1005))) (some (v6,r1005))).bind fun (y2:Bool×(List Int))=>
(kV a0 v7).bind fun t37=>
(app y2.2 [t37]).bind fun r1005_4=>
 some (.next (y2.1,wi (v7+1),r1005_4))) (some (.done (v6,r1005)))
def zCZ (a0:(List Int)) (a1:Int):Option ((List Int)):=
(zX (fun (x:Bool×Int×(List Int))=>j8 a0 a1 x.1 x.2.1 x.2.2) (false,0,[])).bind fun (y1:Bool×(List Int))=>
(cond (!y1.1) ((app y1.2 [a1]).bind fun r1005_6=>
 some r1005_6) (some y1.2)).bind fun (y5:(List Int))=>
 some y5
def vC (a1:Set) (v0:(List Int)) (v5:Int):Option (Stp ((List Int)×Int) (((List Int)))):=
 cond (decide (v5<(a1.Ranges.length:Int))) (((kV a1.Ranges v5).bind fun t18=>
(kV a1.Ranges v5).bind fun t24=>
(zAX t18.Lo).bind fun t28=>
(cond t28 ((zCZ v0 t18.Lo).bind fun t31=>
 some t31) (some v0)).bind fun (y3:(List Int))=>
(pv (decide (0≤t24.Hi))).bind fun b34=>
 cond (b34&&(decide (t24.Hi<1114111))) ((zCZ y3 (wi (t24.Hi+1))).bind fun t41=>
 some t41) (some y3)).bind fun (y2:(List Int))=>
 some (.next (y2,wi (v5+1)))) (some (.done v0))
def zES (a0:(List Int)) (a1:Set):Option ((List Int)):=
(zX (fun (x:(List Int)×Int)=>vC a1 x.1 x.2) (a0,0)).bind fun (y1:(List Int))=>
(zCZ y1 0).bind fun t43=>
 some t43
def zDD (a0:Set) (a1:Int) (v5:Int):Option (Stp (Int) ((Unit)⊕(Bool))):=
 cond (decide (v5<(a0.Ranges.length:Int))) ((zAX a1).bind fun t14=>
(pv t14).bind fun b15=>
(gM b15 (kV a0.Ranges v5)).bind fun t19=>
(pv (b15&&(decide (t19.Lo≤a1)))).bind fun b25=>
(gM b25 (kV a0.Ranges v5)).bind fun t30=>
 cond (b25&&(decide (a1≤t30.Hi))) (some (.done (.inr (true)))) (some (.next (wi (v5+1))))) (some (.done (.inl (()))))
def zET (a0:Set) (a1:Int):Option (Bool):=
(zX (fun (x:Int)=>zDD a0 a1 x) 0).bind fun (y1:(Unit)⊕(Bool))=>
 y1.elim (fun y1=>some false) (fun y1=>some y1)
def zHJ (a0:Int) (a1:Bool) (a2:Bool):Option (Bool):=
 cond (decide (a0=1)) ((pv a1).bind fun b11=>
 some (b11 ||a2)) (cond (decide (a0=2)) ((pv a1).bind fun b17=>
 some (b17&&a2)) ((pv a1).bind fun b21=>
 some (b21&&(!a2))))
def jW (t16:(List Int)) (a0:Set) (a1:Set) (a2:Int) (v9:Bool) (v10:Int) (r4160:(List Range)):Option (Stp (Bool×Int×(List Range)) (((List Range)))):=
 cond (decide (v10<(t16.length:Int))) ((cond (decide ((wi (v10+1))<(t16.length:Int))) ((kV t16 (wi (v10+1))).bind fun t31=>
 some (wi (t31-1))) (some 1114111)).bind fun (y2:Int)=>
(kV t16 v10).bind fun t38=>
(zET a0 t38).bind fun t40=>
(kV t16 v10).bind fun t44=>
(zET a1 t44).bind fun t46=>
(zHJ a2 t40 t46).bind fun t47=>
(pv t47).bind fun b49=>
(cond (b49&&v9) ((kV r4160 (wi ((r4160.length:Int)-1))).bind fun t59=>
(zBE r4160 (wi ((r4160.length:Int)-1)) ({t59 with Hi:=y2})).bind fun r4160_4=>
 some r4160_4) (some r4160)).bind fun (y3:(List Range))=>
(pv t47).bind fun b62=>
(cond (b62&&(!v9)) ((kV t16 v10).bind fun t70=>
(app y3 [({Lo:=t70,Hi:=y2}:Range)]).bind fun r4160_6=>
 some r4160_6) (some y3)).bind fun (y5:(List Range))=>
 some (.next (t47,wi (v10+1),y5))) (some (.done r4160))
def zE3 (a0:Set) (a1:Set) (a2:Int):Option (Set):=
(zES [] a0).bind fun t14=>
(zES t14 a1).bind fun t16=>
(zX (fun (x:Bool×Int×(List Range))=>jW t16 a0 a1 a2 x.1 x.2.1 x.2.2) (false,0,[])).bind fun (y1:(List Range))=>
 some ({Ranges:=y1}:Set)
def zGM (a0:(List Range)):Option (Set):=
(zE3 ({Ranges:=a0}:Set) ({Ranges:=[]}:Set) 1).bind fun t6=>
 some t6
def zCF (a0:Set) (a1:Set) (v5:Int):Option (Stp (Int) ((Unit)⊕(Bool))):=
 cond (decide (v5<(a0.Ranges.length:Int))) ((kV a0.Ranges v5).bind fun t23=>
(kV a1.Ranges v5).bind fun t28=>
 cond (!decide (t23=t28)) (some (.done (.inr (false)))) (some (.next (wi (v5+1))))) (some (.done (.inl (()))))
def zGN (a0:Set) (a1:Set):Option (Bool):=
 cond (!decide ((a0.Ranges.length:Int)=(a1.Ranges.length:Int))) (some false) ((zX (fun (x:Int)=>zCF a0 a1 x) 0).bind fun (y1:(Unit)⊕(Bool))=>
 y1.elim (fun y1=>some true) (fun y1=>some y1))
def zFC (a0:Set):Option (Bool):=
(zGM a0.Ranges).bind fun t6=>
(zGN a0 t6).bind fun t7=>
 some t7
def zCG (a0:(List Mapping)) (a1:Int) (a2:Bool) (v7:Int):Option (Stp (Int) ((Unit)⊕(Int))):=
 cond (decide (v7<(a0.length:Int))) ((kV a0 v7).bind fun t16=>
(pv (decide (t16.From=a1))).bind fun b21=>
(pv a2).bind fun b23=>
(gM (b21&& !b23) (kV a0 v7)).bind fun t26=>
 cond (b21&&(b23 ||(t26.Tag== []))) (some (.done (.inr (v7)))) (some (.next (wi (v7+1))))) (some (.done (.inl (()))))
def zC0 (a0:(List Mapping)) (a1:Int) (a2:Bool):Option (Int):=
(zX (fun (x:Int)=>zCG a0 a1 a2 x) 0).bind fun (y1:(Unit)⊕(Int))=>
 y1.elim (fun y1=>some (-1)) (fun y1=>some y1)
def zEU (a0:Int):Option (Int):=
(pv (decide (4352≤a0))).bind fun b5=>
 cond (b5&&(decide (a0≤4370))) (some 1) ((pv (decide (4449≤a0))).bind fun b11=>
 cond (b11&&(decide (a0≤4469))) (some 2) ((pv (decide (4520≤a0))).bind fun b17=>
 cond (b17&&(decide (a0≤4546))) (some 3) ((pv (decide (44032≤a0))).bind fun b23=>
 cond (b23&&(decide (a0≤55203))) ((zI3 (wi (a0-44032)) 28).bind fun t29=>
 cond (decide (t29=0)) (some 4) (some 5)) (some 0))))
def wH (a0:(List Span)) (a1:Int) (v5:Int):Option (Stp (Int) ((Unit)⊕(Int))):=
 cond (decide (v5<(a0.length:Int))) ((kV a0 v5).bind fun t17=>
(pv (decide (t17.Lo≤a1))).bind fun b22=>
(gM b22 (kV a0 v5)).bind fun t26=>
 cond (b22&&(decide (a1≤t26.Hi))) ((kV a0 v5).bind fun t33=>
 some (.done (.inr (t33.Value)))) (some (.next (wi (v5+1))))) (some (.done (.inl (()))))
def zC1 (a0:(List Span)) (a1:Int):Option (Int):=
(zD2 a0).bind fun t7=>
 cond (!decide (t7=0)) (some 0) ((zX (fun (x:Int)=>wH a0 a1 x) 0).bind fun (y1:(Unit)⊕(Int))=>
 y1.elim (fun y1=>some 0) (fun y1=>some y1))
def vD (a0:(List Mapping)) (v5:Int) (r11:(List Bool)) (v6:Bool) (v7:Int):Option (Stp (Bool×Int) ((Bool))):=
(kV a0 v5).bind fun t27=>
 cond (decide (v7<(t27.To.length:Int))) ((kV a0 v5).bind fun t37=>
(kV t37.To v7).bind fun t41=>
(zC0 a0 t41 true).bind fun t43=>
(pv v6).bind fun b45=>
(pv (decide (t43<0))).bind fun b48=>
(gM (b45&& !b48) (kV r11 t43)).bind fun t51=>
 some (.next ((b45&&(b48 ||t51)),wi (v7+1)))) (some (.done v6))
def zA4 (a0:(List Mapping)) (v5:Int) (r11:(List Bool)):Option (Stp (Int×(List Bool)) (((List Bool)))):=
 cond (decide (v5<(a0.length:Int))) ((zX (fun (x:Bool×Int)=>vD a0 v5 r11 x.1 x.2) (true,0)).bind fun (y3:Bool)=>
(kV r11 v5).bind fun t58=>
(zBE r11 v5 y3).bind fun r11_4=>
 some (.next (wi (v5+1),r11_4))) (some (.done r11))
def zA5 (a0:(List Mapping)) (v4:Int) (r11:(List Bool)):Option (Stp (Int×(List Bool)) (((List Bool)))):=
 cond (decide (v4<(a0.length:Int))) ((zX (fun (x:Int×(List Bool))=>zA4 a0 x.1 x.2) (0,r11)).bind fun (y2:(List Bool))=>
 some (.next (wi (v4+1),y2))) (some (.done r11))
def zGO (a0:(List Mapping)):Option ((List Bool)):=
(mkM false (a0.length:Int)).bind fun r11=>
(zX (fun (x:Int×(List Bool))=>zA5 a0 x.1 x.2) (0,r11)).bind fun (y1:(List Bool))=>
 some y1
def zAQ (a0:Int):Option ((List Int)):=
(zEU a0).bind fun t6=>
 cond (decide (t6<4)) (some [a0]) ((zME wi (wi (a0-44032)) 28).bind fun t13=>
(zME wi t13 21).bind fun t14=>
(zME wi (wi (a0-44032)) 28).bind fun t17=>
(zI3 t17 21).bind fun t18=>
(zI3 (wi (a0-44032)) 28).bind fun t22=>
(cond (decide (0<t22)) ((zI3 (wi (a0-44032)) 28).bind fun t26=>
(app [wi (4352+t14),wi (4449+t18)] [wi ((wi (4520+t26))-1)]).bind fun r20_2=>
 some r20_2) (some [wi (4352+t14),wi (4449+t18)])).bind fun (y1:(List Int))=>
 some y1)
def xT (a0:(List Mapping)) (v7:Int) (a1:Bool) (r13:(List Int)) (v8:Int) (v9:Int):Option (Stp (Int×Int) ((Int))):=
(kV a0 v7).bind fun t29=>
 cond (decide (v9<(t29.To.length:Int))) (((kV a0 v7).bind fun t39=>
(kV t39.To v9).bind fun t43=>
(zC0 a0 t43 a1).bind fun t46=>
 cond (decide (0≤t46)) ((kV r13 t46).bind fun t52=>
 some (wi (v8+t52))) ((kV a0 v7).bind fun t58=>
(kV t58.To v9).bind fun t62=>
(zAQ t62).bind fun t64=>
 some (wi (v8+(t64.length:Int))))).bind fun (y5:Int)=>
 some (.next (y5,wi (v9+1)))) (some (.done v8))
def wS (a0:(List Mapping)) (a1:Bool) (v7:Int) (r13:(List Int)):Option (Stp (Int×(List Int)) (((List Int)))):=
 cond (decide (v7<(a0.length:Int))) (((zX (fun (x:Int×Int)=>xT a0 v7 a1 r13 x.1 x.2) (0,0)).bind fun (y4:Int)=>
(kV r13 v7).bind fun t72=>
(zBE r13 v7 (min (max y4 1) 65)).bind fun r13_6=>
(kV a0 v7).bind fun t75=>
(pv (!(t75.Tag== []))).bind fun b79=>
 cond (b79&&(!a1)) ((kV r13_6 v7).bind fun t85=>
(zBE r13_6 v7 1).bind fun r13_7=>
 some r13_7) (some r13_6)).bind fun (y3:(List Int))=>
 some (.next (wi (v7+1),y3))) (some (.done r13))
def wT (a0:(List Mapping)) (a1:Bool) (v6:Int) (r13:(List Int)):Option (Stp (Int×(List Int)) (((List Int)))):=
 cond (decide (v6<(a0.length:Int))) ((zX (fun (x:Int×(List Int))=>wS a0 a1 x.1 x.2) (0,r13)).bind fun (y2:(List Int))=>
 some (.next (wi (v6+1),y2))) (some (.done r13))
def zCH (a0:(List Mapping)) (a1:Bool):Option ((List Int)):=
(mkM 0 (a0.length:Int)).bind fun r13=>
(zX (fun (x:Int×(List Int))=>wT a0 a1 x.1 x.2) (0,r13)).bind fun (y1:(List Int))=>
 some y1
def zBN (a0:Norm) (v6:Int):Option (Stp (Int) ((Unit)⊕(Int))):=
 cond (decide (v6<(a0.Decomp.length:Int))) ((kV a0.Decomp v6).bind fun t41=>
(zC0 a0.Decomp t41.From true).bind fun t44=>
 cond (decide (t44<v6)) (some (.done (.inr (5)))) (some (.next (wi (v6+1))))) (some (.done (.inl (()))))
def zBO (a0:Norm) (v7:Int):Option (Stp (Int) ((Unit)⊕(Int))):=
 cond (decide (v7<(a0.Decomp.length:Int))) ((kV a0.Decomp v7).bind fun t55=>
(pv (t55.Tag== [])).bind fun b59=>
(gM b59 (kV a0.Decomp v7)).bind fun t62=>
(pv (b59&&(!decide ((t62.To.length:Int)=1)))).bind fun b68=>
(gM b68 (kV a0.Decomp v7)).bind fun t71=>
 cond (b68&&(!decide ((t71.To.length:Int)=2))) (some (.done (.inr (8)))) (some (.next (wi (v7+1))))) (some (.done (.inl (()))))
def zBP (a0:Norm) (v8:Int):Option (Stp (Int) ((Unit)⊕(Int))):=
 cond (decide (v8<(a0.Decomp.length:Int))) ((kV a0.Decomp v8).bind fun t85=>
(zEU t85.From).bind fun t88=>
(pv (!decide (t88=0))).bind fun b90=>
(gM (!b90) (kV a0.Decomp v8)).bind fun t93=>
(pv (!(t93.Tag== []))).bind fun b97=>
(gM (!b90&&b97) (kV a0.Decomp v8)).bind fun t102=>
(gM (!b90&&b97) (zC1 a0.Classes t102.From)).bind fun t105=>
 cond (b90 ||(b97&&(!decide (t105=0)))) (some (.done (.inr (11)))) (some (.next (wi (v8+1))))) (some (.done (.inl (()))))
def zBQ (a0:Norm) (t110:(List Bool)) (v10:Int):Option (Stp (Int) ((Unit)⊕(Int))):=
 cond (decide (v10<(a0.Decomp.length:Int))) ((kV t110 v10).bind fun t119=>
 cond (!t119) (some (.done (.inr (12)))) (some (.next (wi (v10+1))))) (some (.done (.inl (()))))
def zBR (a0:Norm) (t123:(List Int)) (t125:(List Int)) (v13:Int):Option (Stp (Int) ((Unit)⊕(Int))):=
 cond (decide (v13<(a0.Decomp.length:Int))) ((kV t123 v13).bind fun t134=>
(pv (decide (64<t134))).bind fun b137=>
(gM (!b137) (kV t125 v13)).bind fun t140=>
 cond (b137 ||(decide (64<t140))) (some (.done (.inr (13)))) (some (.next (wi (v13+1))))) (some (.done (.inl (()))))
def zFD (a0:Norm):Option (Int):=
(zD2 a0.Classes).bind fun t16=>
 cond (!decide (t16=0)) (some t16) ((zCY a0.Decomp).bind fun t22=>
 cond (!decide (t22=0)) (some t22) ((zFC a0.Excluded).bind fun t28=>
 cond (!t28) (some 11) ((zX (fun (x:Int)=>zBN a0 x) 0).bind fun (y1:(Unit)⊕(Int))=>
 y1.elim (fun y1=>(zX (fun (x:Int)=>zBO a0 x) 0).bind fun (y2:(Unit)⊕(Int))=>
 y2.elim (fun y2=>(zX (fun (x:Int)=>zBP a0 x) 0).bind fun (y3:(Unit)⊕(Int))=>
 y3.elim (fun y3=>(zGO a0.Decomp).bind fun t110=>
(zX (fun (x:Int)=>zBQ a0 t110 x) 0).bind fun (y4:(Unit)⊕(Int))=>
 y4.elim (fun y4=>(zCH a0.Decomp false).bind fun t123=>
(zCH a0.Decomp true).bind fun t125=>
(zX (fun (x:Int)=>zBR a0 t123 t125 x) 0).bind fun (y5:(Unit)⊕(Int))=>
 y5.elim (fun y5=>some 0) (fun y5=>some y5)) (fun y4=>some y4)) (fun y3=>some y3)) (fun y2=>some y2)) (fun y1=>some y1))))
def zGP (a0:Norm):Option (Norm):=
(zFD a0).bind fun t4=>
 cond (!decide (t4=0)) (some ({Classes:=({Classes:=[],Decomp:=[],Excluded:=(({Ranges:=[]}):Set)}:Norm).Classes,Decomp:=({Classes:=[],Decomp:=[],Excluded:=(({Ranges:=[]}):Set)}:Norm).Decomp,Excluded:=({Ranges:=(({Classes:=[],Decomp:=[],Excluded:=(({Ranges:=[]}):Set)}:Norm).Excluded).Ranges}:Set)}:Norm)) (some a0)
def jX (a2:(List Int)) (a0:(List Mapping)) (a3:Bool) (a1:(List (List Int))) (v10:Int) (r1009:(List Int)):Option (Stp (Int×(List Int)) (((List Int)))):=
 cond (decide (v10<(a2.length:Int))) (((kV a2 v10).bind fun t21=>
(zC0 a0 t21 a3).bind fun t24=>
 cond (decide (0≤t24)) ((kV a1 t24).bind fun t30=>
(app r1009 t30).bind fun r1009_3=>
 some r1009_3) ((kV a2 v10).bind fun t36=>
(zAQ t36).bind fun t38=>
(app r1009 t38).bind fun r1009_4=>
 some r1009_4)).bind fun (y2:(List Int))=>
 some (.next (wi (v10+1),y2))) (some (.done r1009))
def vM (a0:(List Mapping)) (a1:(List (List Int))) (a2:(List Int)) (a3:Bool):Option ((List Int)):=
(zX (fun (x:Int×(List Int))=>jX a2 a0 a3 a1 x.1 x.2) (0,[])).bind fun (y1:(List Int))=>
 some y1
def zAC (a0:(List Mapping)) (a1:Bool) (v7:Int) (r10:(List (List Int))):Option (Stp (Int×(List (List Int))) (((List (List Int))))):=
 cond (decide (v7<(a0.length:Int))) (((pv a1).bind fun b24=>
(gM (!b24) (kV a0 v7)).bind fun t27=>
 cond (b24 ||(t27.Tag== [])) ((kV a0 v7).bind fun t38=>
(vM a0 r10 t38.To a1).bind fun t42=>
(kV r10 v7).bind fun t43=>
(zBE r10 v7 t42).bind fun r10_4=>
 some r10_4) (some r10)).bind fun (y3:(List (List Int)))=>
 some (.next (wi (v7+1),y3))) (some (.done r10))
def zAD (a0:(List Mapping)) (a1:Bool) (v6:Int) (r10:(List (List Int))):Option (Stp (Int×(List (List Int))) (((List (List Int))))):=
 cond (decide (v6<(a0.length:Int))) ((zX (fun (x:Int×(List (List Int)))=>zAC a0 a1 x.1 x.2) (0,r10)).bind fun (y2:(List (List Int)))=>
 some (.next (wi (v6+1),y2))) (some (.done r10))
def zFE (a0:(List Mapping)) (a1:Bool):Option ((List (List Int))):=
(mkM [] (a0.length:Int)).bind fun r10=>
(zX (fun (x:Int×(List (List Int)))=>zAD a0 a1 x.1 x.2) (0,r10)).bind fun (y1:(List (List Int)))=>
 some y1
def zGQ (a0:Norm) (a1:(List Int)) (a2:Bool):Option ((List Int)):=
(zFE a0.Decomp a2).bind fun t12=>
(vM a0.Decomp t12 a1 a2).bind fun t15=>
 some t15
def uQ (t27:Int) (a0:(List Span)) (a1:(List Int)) (v6:Int) (v8:Int) (r1005:(List Int)):Option (Stp (Int×(List Int)) (((List Int)))):=
(pv (decide (0<v8))).bind fun b33=>
(pv (b33&&(decide (0<t27)))).bind fun b37=>
(gM b37 (kV r1005 (wi (v8-1)))).bind fun t42=>
(gM b37 (zC1 a0 t42)).bind fun t44=>
 cond (b37&&(decide (t27<t44))) ((kV r1005 (wi (v8-1))).bind fun t55=>
(kV r1005 v8).bind fun t57=>
(zBE r1005 v8 t55).bind fun r1005_4=>
(kV a1 v6).bind fun t63=>
(kV r1005_4 (wi (v8-1))).bind fun t65=>
(zBE r1005_4 (wi (v8-1)) t63).bind fun r1005_5=>
 some (.next (wi (v8-1),r1005_5))) (some (.done r1005))
def vE (a1:(List Int)) (a0:(List Span)) (v6:Int) (r1005:(List Int)):Option (Stp (Int×(List Int)) (((List Int)))):=
 cond (decide (v6<(a1.length:Int))) ((kV a1 v6).bind fun t18=>
(app r1005 [t18]).bind fun r1005_2=>
(kV a1 v6).bind fun t25=>
(zC1 a0 t25).bind fun t27=>
(zX (fun (x:Int×(List Int))=>uQ t27 a0 a1 v6 x.1 x.2) (wi ((r1005_2.length:Int)-1),r1005_2)).bind fun (y3:(List Int))=>
 some (.next (wi (v6+1),y3))) (some (.done r1005))
def zEV (a0:(List Span)) (a1:(List Int)):Option ((List Int)):=
(zX (fun (x:Int×(List Int))=>vE a1 a0 x.1 x.2) (0,[])).bind fun (y1:(List Int))=>
 some y1
def zGR (a0:Norm) (a1:(List Int)) (a2:Bool):Option ((List Int)):=
(zGP a0).bind fun t9=>
(zGQ t9 a1 a2).bind fun t15=>
(zEV t9.Classes t15).bind fun t16=>
 some t16
def zA6 (a0:Norm) (a2:(List Int)):Option ((List Int)):=
(zGR a0 a2 false).bind fun t12=>
 some t12
def zFF (a0:(List Mapping)):Option ((List Mapping)):=
(zCY a0).bind fun t4=>
 cond (!decide (t4=0)) (some []) (some a0)
def zCI (a0:(List Mapping)) (a1:Int) (a2:Str) (v8:Int):Option (Stp (Int) ((Unit)⊕(Bool×(List Int)))):=
 cond (decide (v8<(a0.length:Int))) ((kV a0 v8).bind fun t17=>
(pv (decide (t17.From=a1))).bind fun b22=>
(gM b22 (kV a0 v8)).bind fun t25=>
 cond (b22&&(t25.Tag==a2)) ((kV a0 v8).bind fun t34=>
(app [] t34.To).bind fun r31_2=>
 some (.done (.inr ((true,r31_2))))) (some (.next (wi (v8+1))))) (some (.done (.inl (()))))
def zGS (a0:(List Mapping)) (a1:Int) (a2:Str):Option ((List Int)×Bool):=
(zX (fun (x:Int)=>zCI a0 a1 a2 x) 0).bind fun (y1:(Unit)⊕(Bool×(List Int)))=>
 y1.elim (fun y1=>some ([],false)) (fun y1=>some (y1.2,y1.1))
def zAE (a2:(List Int)) (t12:(List Mapping)) (a1:Str) (v8:Int) (r1007:(List Int)):Option (Stp (Int×(List Int)) (((List Int)))):=
 cond (decide (v8<(a2.length:Int))) (((kV a2 v8).bind fun t23=>
(zGS t12 t23 a1).bind fun t26=>
 cond t26.2 ((app r1007 t26.1).bind fun r1007_3=>
 some r1007_3) ((kV a2 v8).bind fun t36=>
(app r1007 [t36]).bind fun r1007_4=>
 some r1007_4)).bind fun (y2:(List Int))=>
 some (.next (wi (v8+1),y2))) (some (.done r1007))
def zD3 (a0:(List Mapping)) (a1:Str) (a2:(List Int)):Option ((List Int)):=
(zFF a0).bind fun t12=>
(zX (fun (x:Int×(List Int))=>zAE a2 t12 a1 x.1 x.2) (0,[])).bind fun (y1:(List Int))=>
 some y1
def zFG (a0:Norm) (a1:(List Mapping)) (a2:(List Int)):Option (Bool):=
(zA6 a0 a2).bind fun t10=>
 cond (decide (400<(t10.length:Int))) (some false) ((zD3 a1 [] t10).bind fun t16=>
(pv (decide ((t16.length:Int)≤400))).bind fun b20=>
(gM b20 (zA6 a0 t16)).bind fun t23=>
 some (b20&&(decide ((t23.length:Int)≤400))))
def zBS (a1:(List (List Int))) (a0:Unicodetextlaw41_Data) (v5:Int):Option (Stp (Int) ((Unit)⊕(Bool))):=
 cond (decide (v5<(a1.length:Int))) ((kV a1 v5).bind fun t18=>
(zFG a0.Norm a0.Map t18).bind fun t20=>
 cond (!t20) (some (.done (.inr (false)))) (some (.next (wi (v5+1))))) (some (.done (.inl (()))))
def zFH (a0:Unicodetextlaw41_Data) (a1:(List (List Int))):Option (Bool):=
(zX (fun (x:Int)=>zBS a1 a0 x) 0).bind fun (y1:(Unit)⊕(Bool))=>
 y1.elim (fun y1=>some true) (fun y1=>some y1)
def uC (a0:(List Span)) (v14:Int):Option (Stp (Int) ((Unit)⊕(Int))):=
 cond (decide (v14<(a0.length:Int))) ((kV a0 v14).bind fun t16=>
(pv (decide (t16.Lo<0))).bind fun b21=>
(pv (b21 ||(decide (1114111<t16.Hi)))).bind fun b26=>
(pv (b26 ||(decide (t16.Hi<t16.Lo)))).bind fun b33=>
(pv (b33 ||(decide (t16.Value<1)))).bind fun b38=>
 cond (b38 ||(decide (254<t16.Value))) (some (.done (.inr (1)))) (some (.next (wi (v14+1))))) (some (.done (.inl (()))))
def uD (a0:(List Span)) (v5:Int):Option (Stp (Int) ((Unit)⊕(Int))):=
 cond (decide (v5<(a0.length:Int))) ((kV a0 (wi (v5-1))).bind fun t53=>
(kV a0 v5).bind fun t57=>
(pv (decide (t57.Lo≤t53.Hi))).bind fun b64=>
(pv (decide (t57.Lo=(wi (t53.Hi+1))))).bind fun b71=>
 cond (b64 ||(b71&&(decide (t57.Value=t53.Value)))) (some (.done (.inr (4)))) (some (.next (wi (v5+1))))) (some (.done (.inl (()))))
def xZ (t85:A4Range) (t83:Span) (v86:Int):Option (Stp (Int) ((Unit)⊕(Int))):=
 cond (decide (v86<4)) ((kV [t85.x0,t85.x1,t85.x2,t85.x3] v86).bind fun t88=>
(pv (decide (t83.Lo≤t88.Hi))).bind fun b94=>
 cond (b94&&(decide (t88.Lo≤t83.Hi))) (some (.done (.inr (11)))) (some (.next (wi (v86+1))))) (some (.done (.inl (()))))
def uE (a0:(List Span)) (v81:Int):Option (Stp (Int) ((Unit)⊕(Int))):=
 cond (decide (v81<(a0.length:Int))) ((kV a0 v81).bind fun t83=>
(pv ({x0:=({Lo:=4352,Hi:=4370}:Range),x1:=({Lo:=4449,Hi:=4469}:Range),x2:=({Lo:=4520,Hi:=4546}:Range),x3:=({Lo:=44032,Hi:=55203}:Range)}:A4Range)).bind fun t85=>
(zX (fun (x:Int)=>xZ t85 t83 x) 0).bind fun (y4:(Unit)⊕(Int))=>
 y4.elim (fun y4=>some (.next (wi (v81+1)))) (fun y4=>some (.done (.inr (y4))))) (some (.done (.inl (()))))
def zBT (a0:(List Span)):Option (Int):=
(zX (fun (x:Int)=>uC a0 x) 0).bind fun (y1:(Unit)⊕(Int))=>
 y1.elim (fun y1=>(zX (fun (x:Int)=>uD a0 x) 1).bind fun (y2:(Unit)⊕(Int))=>
 y2.elim (fun y2=>(zX (fun (x:Int)=>uE a0 x) 0).bind fun (y3:(Unit)⊕(Int))=>
 y3.elim (fun y3=>some 0) (fun y3=>some y3)) (fun y2=>some y2)) (fun y1=>some y1)
def wL (a0:Int):Option (Bool):=
(pv (decide (0≤a0))).bind fun b5=>
 some (b5&&(decide (a0≤1114111)))
def uF (a0:Str) (v15:Int):Option (Stp (Int) ((Unit)⊕(Bool))):=
 cond (decide (v15<(a0.length:Int))) ((zSI a0 v15).bind fun t20=>
(pv (decide (65≤t20))).bind fun b23=>
(pv (b23&&(decide (t20≤90)))).bind fun b27=>
(pv (decide (97≤t20))).bind fun b30=>
(pv (!(b27 ||(b30&&(decide (t20≤122)))))).bind fun b37=>
(pv (decide (48≤t20))).bind fun b40=>
(pv (b37&&(!(b40&&(decide (t20≤57)))))).bind fun b46=>
 cond (b46&&(!decide (t20=95))) (some (.done (.inr (false)))) (some (.next (wi (v15+1))))) (some (.done (.inl (()))))
def zC2 (a0:Str):Option (Bool):=
(pv (a0== [])).bind fun b8=>
 cond (b8 ||(decide (32<(a0.length:Int)))) (some false) ((zX (fun (x:Int)=>uF a0 x) 0).bind fun (y1:(Unit)⊕(Bool))=>
 y1.elim (fun y1=>some true) (fun y1=>some y1))
def uU (t15:Mapping) (v24:Int):Option (Stp (Int) ((Unit)⊕(Int))):=
 cond (decide (v24<(t15.To.length:Int))) ((kV t15.To v24).bind fun t26=>
(wL t26).bind fun t29=>
 cond (!t29) (some (.done (.inr (1)))) (some (.next (wi (v24+1))))) (some (.done (.inl (()))))
def uV (a0:(List Mapping)) (v13:Int):Option (Stp (Int) ((Unit)⊕(Int))):=
 cond (decide (v13<(a0.length:Int))) ((kV a0 v13).bind fun t15=>
(wL t15.From).bind fun t19=>
 cond (!t19) (some (.done (.inr (1)))) ((zX (fun (x:Int)=>uU t15 x) 0).bind fun (y2:(Unit)⊕(Int))=>
 y2.elim (fun y2=>some (.next (wi (v13+1)))) (fun y2=>some (.done (.inr (y2)))))) (some (.done (.inl (()))))
def uW (a0:(List Mapping)) (v35:Int):Option (Stp (Int) ((Unit)⊕(Int))):=
 cond (decide (v35<(a0.length:Int))) ((kV a0 v35).bind fun t37=>
 cond (decide (64<(t37.To.length:Int))) (some (.done (.inr (2)))) (some (.next (wi (v35+1))))) (some (.done (.inl (()))))
def uX (a0:(List Mapping)) (v46:Int):Option (Stp (Int) ((Unit)⊕(Int))):=
 cond (decide (v46<(a0.length:Int))) ((kV a0 v46).bind fun t48=>
(pv (!(t48.Tag== []))).bind fun b53=>
(gM b53 (zC2 t48.Tag)).bind fun t56=>
 cond (b53&&(!t56)) (some (.done (.inr (6)))) (some (.next (wi (v46+1))))) (some (.done (.inl (()))))
def zDM (a0:(List Mapping)):Option (Int):=
(zX (fun (x:Int)=>uV a0 x) 0).bind fun (y1:(Unit)⊕(Int))=>
 y1.elim (fun y1=>(zX (fun (x:Int)=>uW a0 x) 0).bind fun (y3:(Unit)⊕(Int))=>
 y3.elim (fun y3=>(zX (fun (x:Int)=>uX a0 x) 0).bind fun (y4:(Unit)⊕(Int))=>
 y4.elim (fun y4=>some 0) (fun y4=>some y4)) (fun y3=>some y3)) (fun y1=>some y1)
def zDN (a0:Int):Option (Bool):=
 some (!decide (a0=a0))
def x7 (a0:Int) (a1:Int):Option (Int):=
(zDN a0).bind fun t8=>
(zDN a1).bind fun t10=>
 cond t8 (cond t10 (some 0) (some (-1))) (cond t10 (some 1) (cond (decide (a0<a1)) (some (-1)) (cond (decide (a1<a0)) (some 1) (some 0))))
def zBU (a0:Str):Option (Bool):=
 some (!(a0==a0))
def zAF (a0:Str) (a1:Str):Option (Int):=
(zBU a0).bind fun t8=>
(zBU a1).bind fun t10=>
 cond t8 (cond t10 (some 0) (some (-1))) (cond t10 (some 1) (cond (Op.bytesLess a0 a1) (some (-1)) (cond (!Op.bytesLess a0 a1&& !(a0==a1)) (some 1) (some 0))))
def zCJ (a0:(List Int)) (v8:Int):Option (Stp (Int) ((Unit)⊕(Int))):=
 cond (decide (v8<(a0.length:Int))) ((kV a0 v8).bind fun t10=>
 cond (!decide (t10=0)) (some (.done (.inr (t10)))) (some (.next (wi (v8+1))))) (some (.done (.inl (()))))
def zEW (a0:(List Int)):Option (Int):=
(zX (fun (x:Int)=>zCJ a0 x) 0).bind fun (y1:(Unit)⊕(Int))=>
 y1.elim (fun y1=>some 0) (fun y1=>some y1)
def zCA (a0:Mapping) (a1:Mapping):Option (Int):=
(x7 a0.From a1.From).bind fun t9=>
(zAF a0.Tag a1.Tag).bind fun t14=>
(zEW [t9,t14]).bind fun t16=>
 some t16
def zA7 (a0:Mapping):Option (Mapping_key):=
 some ({from_:=a0.From,tag:=a0.Tag}:Mapping_key)
def wU (a0:(List Mapping)) (v4:Bool) (v5:Int):Option (Stp (Bool×Int) ((Bool))):=
 cond (decide (v5<(a0.length:Int))) (((kV a0 (wi (v5-1))).bind fun t23=>
(kV a0 v5).bind fun t27=>
(zCA t23 t27).bind fun t29=>
 cond (decide (0≤t29)) (some false) (some v4)).bind fun (y2:Bool)=>
 some (.next (y2,wi (v5+1)))) (some (.done v4))
def wV (a0:(List Mapping)) (v35:Int) (r32:(List (Mapping_key×Bool))):Option (Stp (Int×(List (Mapping_key×Bool))) ((Unit)⊕(Int))):=
 cond (decide (v35<(a0.length:Int))) ((kV a0 v35).bind fun t37=>
(zA7 t37).bind fun t41=>
 cond (xI r32 t41 false) (some (.done (.inr (5)))) ((zA7 t37).bind fun t45=>
 some (.next (wi (v35+1),wD r32 t45 true)))) (some (.done (.inl (()))))
def uR (a0:(List Mapping)):Option (Int):=
(zDM a0).bind fun t10=>
 cond (!decide (t10=0)) (some t10) ((zX (fun (x:Bool×Int)=>wU a0 x.1 x.2) (true,1)).bind fun (y1:Bool)=>
 cond y1 (some 0) ((zX (fun (x:Int×(List (Mapping_key×Bool)))=>wV a0 x.1 x.2) (0,[])).bind fun (y3:(Unit)⊕(Int))=>
 y3.elim (fun y3=>some 4) (fun y3=>some y3)))
def zFT (a0:Int):Option (Int):=
(cond (decide (4294967296≤a0)) (some (a0/2 ^ 32,32)) (some (a0,0))).bind fun (y1:Int×Int)=>
(cond (decide (65536≤y1.1)) (some (y1.1/2 ^ 16,wi (y1.2+16))) (some (y1.1,y1.2))).bind fun (y2:Int×Int)=>
(cond (decide (256≤y2.1)) (some (y2.1/2 ^ 8,wi (y2.2+8))) (some (y2.1,y2.2))).bind fun (y3:Int×Int)=>
(zSI [0,1,2,2,3,3,3,3,4,4,4,4,4,4,4,4,5,5,5,5,5,5,5,5,5,5,5,5,5,5,5,5,6,6,6,6,6,6,6,6,6,6,6,6,6,6,6,6,6,6,6,6,6,6,6,6,6,6,6,6,6,6,6,6,7,7,7,7,7,7,7,7,7,7,7,7,7,7,7,7,7,7,7,7,7,7,7,7,7,7,7,7,7,7,7,7,7,7,7,7,7,7,7,7,7,7,7,7,7,7,7,7,7,7,7,7,7,7,7,7,7,7,7,7,7,7,7,7,8,8,8,8,8,8,8,8,8,8,8,8,8,8,8,8,8,8,8,8,8,8,8,8,8,8,8,8,8,8,8,8,8,8,8,8,8,8,8,8,8,8,8,8,8,8,8,8,8,8,8,8,8,8,8,8,8,8,8,8,8,8,8,8,8,8,8,8,8,8,8,8,8,8,8,8,8,8,8,8,8,8,8,8,8,8,8,8,8,8,8,8,8,8,8,8,8,8,8,8,8,8,8,8,8,8,8,8,8,8,8,8,8,8,8,8,8,8,8,8,8,8,8,8,8,8,8,8] ((IntKind.u8.wrap) y3.1)).bind fun t22=>
 some (wi (y3.2+(wi t22)))
def zDO (a0:Int):Option (Int):=
(zFT a0).bind fun t7=>
 some t7
def kR (a1:Int) (a3:Range→Range→Option (Int)) (v9:Int) (r3000:(List Range)):Option (Stp (Int×(List Range)) (((List Range)))):=
(pv (decide (a1<v9))).bind fun b21=>
(gM b21 (kV r3000 v9)).bind fun t25=>
(gM b21 (kV r3000 (wi (v9-1)))).bind fun t30=>
(gM b21 (a3 t25 t30)).bind fun t32=>
 cond (b21&&(decide (t32<0))) ((kV r3000 (wi (v9-1))).bind fun t45=>
(kV r3000 v9).bind fun t49=>
(kV r3000 v9).bind fun t51=>
(zBE r3000 v9 t45).bind fun r3000_6x15=>
(kV r3000_6x15 (wi (v9-1))).bind fun t52=>
(zBE r3000_6x15 (wi (v9-1)) t49).bind fun r3000_6x17=>
 some (.next (wi (v9-1),r3000_6x17))) (some (.done r3000))
def kD (a2:Int) (a1:Int) (a3:Range→Range→Option (Int)) (v8:Int) (r3000:(List Range)):Option (Stp (Int×(List Range)) (((List Range)))):=
 cond (decide (v8<a2)) ((zX (fun (x:Int×(List Range))=>kR a1 a3 x.1 x.2) (v8,r3000)).bind fun (y2:(List Range))=>
 some (.next (wi (v8+1),y2))) (some (.done r3000))
def jN (a0:(List Range)) (a1:Int) (a2:Int) (a3:Range→Range→Option (Int)):Option ((List Range)):=
(zX (fun (x:Int×(List Range))=>kD a2 a1 a3 x.1 x.2) (wi (a1+1),a0)).bind fun (y1:(List Range))=>
 some y1
def jG (a2:Int) (a1:Int) (a0:(List Range)) (a4:Range→Range→Option (Int)) (a3:Int):Option (Stp (Unit) (((List Range)))):=
(cond (decide ((wi (a2-a1))≤12)) ((jN a0 a1 a2 a4).bind fun t30=>
 some t30) (cond (decide (a3=0)) (none) ((cond (!true) (none) (some ())).bind fun (y3:Unit)=>
 none))).bind fun (y2:(List Range))=>
 some (.done y2)
def xM (a0:(List Range)) (a1:Int) (a2:Int) (a3:Int) (a4:Range→Range→Option (Int)):Option ((List Range)):=
(zX (fun (_:Unit)=>jG a2 a1 a0 a4 a3) ()).bind fun (y1:(List Range))=>
 some y1
def jP (a0:(List Range)) (a1:Range→Range→Option (Int)):Option ((List Range)):=
(zDO (wu (a0.length:Int))).bind fun t11=>
(xM a0 0 (a0.length:Int) t11 a1).bind fun t13=>
 some t13
def zAY (a0:Range) (a1:Range):Option (Int):=
(x7 a0.Lo a1.Lo).bind fun t9=>
(x7 a0.Hi a1.Hi).bind fun t14=>
(zEW [t9,t14]).bind fun t16=>
 some t16
def zA8 (a0:(List Range)) (v13:Int) (r1003:(List Range)):Option (Stp (Int×(List Range)) (((List Range)))):=
 cond (decide (v13<(a0.length:Int))) (((kV a0 v13).bind fun t15=>
 cond (decide ((({Lo:=max t15.Lo 0,Hi:=min t15.Hi 1114111}:Range).Lo)≤(({Lo:=max t15.Lo 0,Hi:=min t15.Hi 1114111}:Range).Hi))) ((app r1003 [({Lo:=max t15.Lo 0,Hi:=min t15.Hi 1114111}:Range)]).bind fun r1003_3=>
 some r1003_3) (some r1003)).bind fun (y2:(List Range))=>
 some (.next (wi (v13+1),y2))) (some (.done r1003))
def zA9 (t35:(List Range)) (v38:Int) (r1007:(List Range)):Option (Stp (Int×(List Range)) (((List Range)))):=
 cond (decide (v38<(t35.length:Int))) (((kV t35 v38).bind fun t40=>
(pv (decide (0<(r1007.length:Int)))).bind fun b46=>
(gM b46 (kV r1007 (wi ((r1007.length:Int)-1)))).bind fun t52=>
 cond (b46&&(decide (t40.Lo≤(wi (t52.Hi+1))))) ((kV r1007 (wi ((r1007.length:Int)-1))).bind fun t64=>
(kV r1007 (wi ((r1007.length:Int)-1))).bind fun t70=>
(zBE r1007 (wi ((r1007.length:Int)-1)) ({t70 with Hi:=max t64.Hi t40.Hi})).bind fun r1007_6=>
 some r1007_6) ((app r1007 [t40]).bind fun r1007_7=>
 some r1007_7)).bind fun (y5:(List Range))=>
 some (.next (wi (v38+1),y5))) (some (.done r1007))
def zGT (a0:(List Range)):Option (Set):=
(zX (fun (x:Int×(List Range))=>zA8 a0 x.1 x.2) (0,[])).bind fun (y1:(List Range))=>
(jP y1 (fun x0 x1=>zAY x0 x1)).bind fun t35=>
(zX (fun (x:Int×(List Range))=>zA9 t35 x.1 x.2) (0,[])).bind fun (y4:(List Range))=>
 some ({Ranges:=y4}:Set)
def zBV (t8:Set) (a0:Set) (v19:Int):Option (Stp (Int) ((Unit)⊕(Bool))):=
 cond (decide (v19<(t8.Ranges.length:Int))) ((kV t8.Ranges v19).bind fun t22=>
(kV a0.Ranges v19).bind fun t28=>
 cond (!decide (t22=t28)) (some (.done (.inr (false)))) (some (.next (wi (v19+1))))) (some (.done (.inl (()))))
def zFI (a0:Set):Option (Bool):=
(zGT a0.Ranges).bind fun t8=>
 cond (!decide ((t8.Ranges.length:Int)=(a0.Ranges.length:Int))) (some false) ((zX (fun (x:Int)=>zBV t8 a0 x) 0).bind fun (y1:(Unit)⊕(Bool))=>
 y1.elim (fun y1=>some true) (fun y1=>some y1))
def zC3 (a0:Int):Option (Int):=
(pv (decide (4352≤a0))).bind fun b6=>
 cond (b6&&(decide (a0<4371))) (some 1) ((pv (decide (4449≤a0))).bind fun b13=>
 cond (b13&&(decide (a0<4470))) (some 2) ((pv (decide (4520≤a0))).bind fun b20=>
 cond (b20&&(decide (a0<4547))) (some 3) ((pv (decide (a0<44032))).bind fun b27=>
 cond (b27 ||(decide (55204≤a0))) (some 0) ((zI3 (wi (a0-44032)) 28).bind fun t34=>
 cond (decide (t34=0)) (some 4) (some 5)))))
def zAR (a0:(List Span)):Option ((List Span)):=
(zBT a0).bind fun t4=>
 cond (!decide (t4=0)) (some []) (some a0)
def yY (a0:(List Span)) (a2:Span→Int→Option (Int)) (a1:Int) (v9:Int) (v10:Int):Option (Stp (Int×Int) ((Int))):=
 cond (decide (v9<v10)) (((kV a0 (wi ((wu (wi (v9+v10)))/2 ^ 1))).bind fun t27=>
(a2 t27 a1).bind fun t30=>
 cond (decide (t30<0)) (some (wi ((wi ((wu (wi (v9+v10)))/2 ^ 1))+1),v10)) (some (v9,wi ((wu (wi (v9+v10)))/2 ^ 1)))).bind fun (y2:Int×Int)=>
 some (.next (y2.1,y2.2))) (some (.done v9))
def jL (a0:(List Span)) (a1:Int) (a2:Span→Int→Option (Int)):Option (Int×Bool):=
(zX (fun (x:Int×Int)=>yY a0 a2 a1 x.1 x.2) (0,(a0.length:Int))).bind fun (y1:Int)=>
(pv (decide (y1<(a0.length:Int)))).bind fun b39=>
(gM b39 (kV a0 y1)).bind fun t43=>
(gM b39 (a2 t43 a1)).bind fun t46=>
 some (y1,(b39&&(decide (t46=0))))
def uY (a0:Span) (a1:Int):Option (Int):=
 cond (decide (a0.Hi<a1)) (some (-1)) (cond (decide (a1<a0.Lo)) (some 1) (some 0))
def jO (a0:(List Span)) (a1:Int):Option (Int):=
(jL a0 a1 (fun x0 x1=>uY x0 x1)).bind fun t10=>
 cond (!t10.2) (some 0) ((kV a0 t10.1).bind fun t17=>
 some t17.Value)
def jH (a1:(List Int)) (a2:(List Span)) (items:(List (Range))) (v4:Int) (v10:Int) (v1000000:Nat):Option (Stp (Int×Int×Nat) ((Int×Nat)⊕(Nat))):=
 cond (decide (v10<(a1.length:Int))) (((kV a1 v10).bind fun t13=>
(jO a2 t13).bind fun t17=>
((pv (!(decide (t17=0)))).bind fun b22=>
 cond (b22&&(decide (v4<0))) (some (.inl ((v10,v1000000)))) ((pv (decide (t17=0))).bind fun b29=>
 cond (b29&&(decide (0≤v4))) ((yM items v1000000 ({Lo:=v4,Hi:=v10}:Range)).bind fun u37=>
 cond (!true) (some (.inr (v1000000+1))) (some (.inl (((-1),v1000000+1))))) (some (.inl ((v4,v1000000)))))).bind fun (y3:(Int×Nat)⊕(Nat))=>
 y3.elim (fun y3=>some (.inl ((y3.1,y3.2)))) (fun y3=>some (.inr (y3)))).bind fun (y2:(Int×Nat)⊕(Nat))=>
 y2.elim (fun y2=>some (.next (y2.1,wi (v10+1),y2.2))) (fun y2=>some (.done (.inr (y2))))) (some (.done (.inl ((v4,v1000000)))))
def zAS (items:List Range) (a1:(List Int)) (a2:(List Span)):Option Unit:=
(zX (fun (x:Int×Int×Nat)=>jH a1 a2 items x.1 x.2.1 x.2.2) ((-1),0,0)).bind fun (y1:(Int×Nat)⊕(Nat))=>
 y1.elim (fun y1=>cond (decide (0≤y1.1)) ((yM items y1.2 ({Lo:=y1.1,Hi:=(a1.length:Int)}:Range)).bind fun u47=>
 zXF items (y1.2+1)) (zXF items y1.2)) (fun y1=>zXF items y1)
def xJ (st:Int→Bool):List Int→Int→Int→List Range
 | [],i,s=>if 0≤s then [{Lo:=s,Hi:=i}] else []
 | c::r,i,s=>if !st c&&decide (s<0) then xJ st r (i+1) i else if st c&&decide (0≤s) then {Lo:=s,Hi:=i}::xJ st r (i+1) (-1) else xJ st r (i+1) s
def z8J {α:Type} (l:List α):Option (List α):=if l.length≤LIM then some l else none
def zDP (a0:List Span) (a1:List Int):Option (List Range):=(zAR a0).bind fun t6=>(zAS (xJ (fun c=>jO t6 c==some 0) a1 0 (-1)) a1 t6).bind fun _=>z8J (xJ (fun c=>jO t6 c==some 0) a1 0 (-1))
def zF4 (a0:Int):Option (A3Int):=
(zC3 a0).bind fun t6=>
 cond (decide (t6<4)) (some ({x0:=0,x1:=0,x2:=0}:A3Int)) ((zME wi (wi (a0-44032)) 28).bind fun t12=>
(zME wi t12 21).bind fun t13=>
(zME wi (wi (a0-44032)) 28).bind fun t16=>
(zI3 t16 21).bind fun t17=>
(zI3 (wi (a0-44032)) 28).bind fun t21=>
(cond (decide (0<t21)) ((zI3 (wi (a0-44032)) 28).bind fun t24=>
 some (wi ((wi (4520+t24))-1))) (some (({x0:=wi (4352+t13),x1:=wi (4449+t17),x2:=0}:A3Int).x2))).bind fun (y1:Int)=>
 some ({x0:=({x0:=wi (4352+t13),x1:=wi (4449+t17),x2:=0}:A3Int).x0,x1:=({x0:=wi (4352+t13),x1:=wi (4449+t17),x2:=0}:A3Int).x1,x2:=y1}:A3Int))
def zBW (a0:Int):Option ((List Int)):=
(zF4 a0).bind fun t5=>
 cond (decide (t5=({x0:=0,x1:=0,x2:=0}:A3Int))) (some [a0]) (cond (decide (t5.x2=0)) (some [t5.x0,t5.x1]) (some [t5.x0,t5.x1,t5.x2]))
def yT (a0:(List Mapping)) (a2:Mapping→Int→Option (Int)) (a1:Int) (v9:Int) (v10:Int):Option (Stp (Int×Int) ((Int))):=
 cond (decide (v9<v10)) (((kV a0 (wi ((wu (wi (v9+v10)))/2 ^ 1))).bind fun t27=>
(a2 t27 a1).bind fun t30=>
 cond (decide (t30<0)) (some (wi ((wi ((wu (wi (v9+v10)))/2 ^ 1))+1),v10)) (some (v9,wi ((wu (wi (v9+v10)))/2 ^ 1)))).bind fun (y2:Int×Int)=>
 some (.next (y2.1,y2.2))) (some (.done v9))
def kL (a0:(List Mapping)) (a1:Int) (a2:Mapping→Int→Option (Int)):Option (Int×Bool):=
(zX (fun (x:Int×Int)=>yT a0 a2 a1 x.1 x.2) (0,(a0.length:Int))).bind fun (y1:Int)=>
(pv (decide (y1<(a0.length:Int)))).bind fun b39=>
(gM b39 (kV a0 y1)).bind fun t43=>
(gM b39 (a2 t43 a1)).bind fun t46=>
 some (y1,(b39&&(decide (t46=0))))
def wW (a0:Mapping) (a1:Int):Option (Int):=
(x7 a0.From a1).bind fun t8=>
 some t8
def vO (a0:Norm) (a1:Int) (a2:Bool):Option ((List Int)×Bool):=
(zC3 a1).bind fun t11=>
 cond (decide (4≤t11)) ((zBW a1).bind fun t14=>
 some (t14,true)) ((kL a0.Decomp a1 (fun x0 x1=>wW x0 x1)).bind fun t19=>
(pv (!t19.2)).bind fun b24=>
(gM (!b24) (kV a0.Decomp t19.1)).bind fun t28=>
(pv (!(t28.Tag== []))).bind fun b32=>
 cond (b24 ||(b32&&(!a2))) (some ([],false)) ((kV a0.Decomp t19.1).bind fun t40=>
 some (t40.To,true)))
def jY (t18:(List Int)×Bool) (rec:(Int→Norm→(List (Int×Int))→Bool→Bool→Option (Int×Bool×Bool×(List (Int×Int))))) (a1:Norm) (v12:Int) (v46:Int) (k3003_0:Bool) (k3005_0:Bool) (r3140:(List (Int×Int))):Option (Stp (Int×Int×Bool×Bool×(List (Int×Int))) ((Int×Bool×Bool×(List (Int×Int))))):=
 cond (decide (v46<(t18.1.length:Int))) ((kV t18.1 v46).bind fun t48=>
(rec t48 a1 r3140 k3003_0 k3005_0).bind fun t53=>
 some (.next (min (wi (v12+t53.1)) 65,wi (v46+1),t53.2.1,t53.2.2.1,t53.2.2.2))) (some (.done (v12,k3003_0,k3005_0,r3140)))
def jS (rec:Int→Norm→(List (Int×Int))→Bool→Bool→Option (Int×Bool×Bool×(List (Int×Int)))) (a0:Int) (a1:Norm) (a2:(List (Int×Int))) (a3:Bool) (a5:Bool):Option (Int×Bool×Bool×(List (Int×Int))):=
(vO a1 a0 true).bind fun t18=>
(pv (!t18.2)).bind fun b23=>
 cond (b23 ||(decide ((t18.1.length:Int)=0))) (some (1,a3,a5,a2)) (cond (wK a2 a0) ((pv a3).bind fun b36=>
 some (max (xI a2 a0 0) 1,(b36 ||(decide ((xI a2 a0 0)=(-1)))),a5,a2)) ((zX (fun (x:Int×Int×Bool×Bool×(List (Int×Int)))=>jY t18 rec a1 x.1 x.2.1 x.2.2.1 x.2.2.2.1 x.2.2.2.2) (0,0,a3,a5,wD a2 a0 (-1))).bind fun (y1:Int×Bool×Bool×(List (Int×Int)))=>
(pv y1.2.2.1).bind fun b61=>
 some (y1.1,y1.2.1,(b61 ||(decide (64<y1.1))),wD y1.2.2.2 a0 y1.1)))
def kB:Nat→Int→Norm→(List (Int×Int))→Bool→Bool→Option (Int×Bool×Bool×(List (Int×Int)))
 | 0=>fun _ _ _ _ _=>none
 | n+1=>jS (kB n)
def jJ (a0:Norm) (v13:Int) (k2_0:Bool) (k3_0:Bool) (r8:(List (Int×Int))):Option (Stp (Int×Bool×Bool×(List (Int×Int))) ((Bool×Bool))):=
 cond (decide (v13<(a0.Decomp.length:Int))) ((kV a0.Decomp v13).bind fun t15=>
(kB 100 t15.From a0 r8 k2_0 k3_0).bind fun t20=>
 some (.next (wi (v13+1),t20.2.1,t20.2.2.1,t20.2.2.2))) (some (.done (k2_0,k3_0)))
def decompose_measure (a0:Norm):Option (Bool×Bool):=
(zX (fun (x:Int×Bool×Bool×(List (Int×Int)))=>jJ a0 x.1 x.2.1 x.2.2.1 x.2.2.2) (0,false,false,[])).bind fun (y1:Bool×Bool)=>
 some (y1.1,y1.2)
def wX (a0:Norm) (v5:Int):Option (Stp (Int) ((Unit)⊕(Int))):=
 cond (decide (v5<(a0.Decomp.length:Int))) ((kV a0.Decomp v5).bind fun t39=>
(kV a0.Decomp (wi (v5-1))).bind fun t46=>
 cond (decide (t39.From=t46.From)) (some (.done (.inr (5)))) (some (.next (wi (v5+1))))) (some (.done (.inl (()))))
def wY (a0:Norm) (v53:Int):Option (Stp (Int) ((Unit)⊕(Int))):=
 cond (decide (v53<(a0.Decomp.length:Int))) ((kV a0.Decomp v53).bind fun t55=>
(pv (t55.Tag== [])).bind fun b60=>
(pv (b60&&(!decide ((t55.To.length:Int)=1)))).bind fun b66=>
 cond (b66&&(!decide ((t55.To.length:Int)=2))) (some (.done (.inr (8)))) (some (.next (wi (v53+1))))) (some (.done (.inl (()))))
def kU (a0:Norm) (v76:Int) (r1008:(List Int)):Option (Stp (Int×(List Int)) (((List Int))⊕(Int))):=
 cond (decide (v76<(a0.Decomp.length:Int))) (((kV a0.Decomp v76).bind fun t78=>
(zC3 t78.From).bind fun t82=>
 cond (!decide (t82=0)) (some (.inr (()))) (cond (!(t78.Tag== [])) ((app r1008 [t78.From]).bind fun r1008_5=>
 some (.inl (r1008_5))) (some (.inl (r1008))))).bind fun (y4:((List Int))⊕(Unit))=>
 y4.elim (fun y4=>some (.next (wi (v76+1),y4))) (fun y4=>some (.done (.inr (11))))) (some (.done (.inl (r1008))))
def zCB (a0:Norm):Option (Int):=
(zBT a0.Classes).bind fun t15=>
 cond (!decide (t15=0)) (some t15) ((uR a0.Decomp).bind fun t21=>
 cond (!decide (t21=0)) (some t21) ((zFI a0.Excluded).bind fun t27=>
 cond (!t27) (some 11) ((zX (fun (x:Int)=>wX a0 x) 1).bind fun (y1:(Unit)⊕(Int))=>
 y1.elim (fun y1=>(zX (fun (x:Int)=>wY a0 x) 0).bind fun (y2:(Unit)⊕(Int))=>
 y2.elim (fun y2=>(zX (fun (x:Int×(List Int))=>kU a0 x.1 x.2) (0,[])).bind fun (y3:((List Int))⊕(Int))=>
 y3.elim (fun y3=>(zDP a0.Classes y3).bind fun t96=>
 cond (decide (0<(t96.length:Int))) (some 11) ((decompose_measure a0).bind fun t101=>
 cond t101.1 (some 12) (cond t101.2 (some 13) (some 0)))) (fun y3=>some y3)) (fun y2=>some y2)) (fun y1=>some y1))))
def uZ (a0:Norm):Option (Norm):=
(zCB a0).bind fun t4=>
 cond (!decide (t4=0)) (some ({Classes:=({Classes:=[],Decomp:=[],Excluded:=(({Ranges:=[]}):Set)}:Norm).Classes,Decomp:=({Classes:=[],Decomp:=[],Excluded:=(({Ranges:=[]}):Set)}:Norm).Decomp,Excluded:=({Ranges:=(({Classes:=[],Decomp:=[],Excluded:=(({Ranges:=[]}):Set)}:Norm).Excluded).Ranges}:Set)}:Norm)) (some a0)
def jU (t26:(List Int)×Bool) (rec:(Int→(List (Int×(List Int)))→Norm→Bool→Option ((List Int)×(List (Int×(List Int)))))) (a2:Norm) (a3:Bool) (v35:Int) (r1011:(List Int)) (r3120:(List (Int×(List Int)))):Option (Stp (Int×(List Int)×(List (Int×(List Int)))) (((List Int)×(List (Int×(List Int)))))):=
 cond (decide (v35<(t26.1.length:Int))) ((kV t26.1 v35).bind fun t37=>
(rec t37 r3120 a2 a3).bind fun t42=>
(app r1011 t42.1).bind fun r1011_2=>
 some (.next (wi (v35+1),r1011_2,t42.2))) (some (.done (r1011,r3120)))
def wI (rec:Int→(List (Int×(List Int)))→Norm→Bool→Option ((List Int)×(List (Int×(List Int))))) (a0:Int) (a1:(List (Int×(List Int)))) (a2:Norm) (a3:Bool):Option ((List Int)×(List (Int×(List Int)))):=
 cond (wK a1 a0) (some (xI a1 a0 [],a1)) ((vO a2 a0 a3).bind fun t26=>
 cond (!t26.2) (some ([a0],a1)) ((zX (fun (x:Int×(List Int)×(List (Int×(List Int))))=>jU t26 rec a2 a3 x.1 x.2.1 x.2.2) (0,[],a1)).bind fun (y1:(List Int)×(List (Int×(List Int))))=>
 some (y1.1,wD y1.2 a0 y1.1)))
def jA:Nat→Int→(List (Int×(List Int)))→Norm→Bool→Option ((List Int)×(List (Int×(List Int))))
 | 0=>fun _ _ _ _=>none
 | n+1=>wI (jA n)
def zB5 (a0:Norm) (a1:Bool):Option (Unit):=
 some ()
def zAZ (a0:(List Int)):Option ((List Int)):=app [] a0
def wM (a0:Int) (a1:Int) (a2:(List Span)):Option (Int):=
(jO a2 a0).bind fun t8=>
(jO a2 a1).bind fun t11=>
(x7 t8 t11).bind fun t12=>
 some t12
def yV (a1:Int) (a3:Int→Int→Option (Int)) (v9:Int) (r3000:(List Int)):Option (Stp (Int×(List Int)) (((List Int)))):=
(pv (decide (a1<v9))).bind fun b21=>
(gM b21 (kV r3000 v9)).bind fun t25=>
(gM b21 (kV r3000 (wi (v9-1)))).bind fun t30=>
(gM b21 (a3 t25 t30)).bind fun t32=>
 cond (b21&&(decide (t32<0))) ((kV r3000 (wi (v9-1))).bind fun t45=>
(kV r3000 v9).bind fun t49=>
(kV r3000 v9).bind fun t51=>
(zBE r3000 v9 t45).bind fun r3000_6x15=>
(kV r3000_6x15 (wi (v9-1))).bind fun t52=>
(zBE r3000_6x15 (wi (v9-1)) t49).bind fun r3000_6x17=>
 some (.next (wi (v9-1),r3000_6x17))) (some (.done r3000))
def yP (a2:Int) (a1:Int) (a3:Int→Int→Option (Int)) (v8:Int) (r3000:(List Int)):Option (Stp (Int×(List Int)) (((List Int)))):=
 cond (decide (v8<a2)) ((zX (fun (x:Int×(List Int))=>yV a1 a3 x.1 x.2) (v8,r3000)).bind fun (y2:(List Int))=>
 some (.next (wi (v8+1),y2))) (some (.done r3000))
def jC (a0:(List Int)) (a1:Int) (a2:Int) (a3:Int→Int→Option (Int)):Option ((List Int)):=
(zX (fun (x:Int×(List Int))=>yP a2 a1 a3 x.1 x.2) (wi (a1+1),a0)).bind fun (y1:(List Int))=>
 some y1
def kX (a3:Int) (a2:Int) (a1:Int) (v10:Int) (r3000:(List Int)):Option (Stp (Int×(List Int)) (((List Int)))):=
 cond (decide (v10<a3)) ((kV r3000 (wi (a2+v10))).bind fun t28=>
(kV r3000 (wi (a1+v10))).bind fun t34=>
(kV r3000 (wi (a1+v10))).bind fun t36=>
(zBE r3000 (wi (a1+v10)) t28).bind fun r3000_3x21=>
(kV r3000_3x21 (wi (a2+v10))).bind fun t37=>
(zBE r3000_3x21 (wi (a2+v10)) t34).bind fun r3000_3x23=>
 some (.next (wi (v10+1),r3000_3x23))) (some (.done r3000))
def jE (a0:(List Int)) (a1:Int) (a2:Int) (a3:Int) (a4:Int→Int→Option (Int)):Option ((List Int)):=
(zX (fun (x:Int×(List Int))=>kX a3 a2 a1 x.1 x.2) (0,a0)).bind fun (y1:(List Int))=>
 some y1
def kP (a2:Int) (a4:Int→Int→Option (Int)) (v10:Int) (v11:Int) (r3000:(List Int)):Option (Stp (Int×Int×(List Int)) ((Int×(List Int)))):=
 cond (!decide (v10=v11)) ((cond (decide (v11<v10)) ((jE r3000 (wi (a2-v10)) a2 v11 a4).bind fun t31=>
 some (wi (v10-v11),v11,t31)) ((jE r3000 (wi (a2-v10)) (wi ((wi (a2+v11))-v10)) v10 a4).bind fun t46=>
 some (v10,wi (v11-v10),t46))).bind fun (y2:Int×Int×(List Int))=>
 some (.next (y2.1,y2.2.1,y2.2.2))) (some (.done (v10,r3000)))
def xG (a0:(List Int)) (a1:Int) (a2:Int) (a3:Int) (a4:Int→Int→Option (Int)):Option ((List Int)):=
(zX (fun (x:Int×Int×(List Int))=>kP a2 a4 x.1 x.2.1 x.2.2) (wi (a2-a1),wi (a3-a2),a0)).bind fun (y1:Int×(List Int))=>
(jE y1.2 (wi (a2-y1.1)) a2 y1.1 a4).bind fun t57=>
 some t57
def kY (a0:(List Int)) (a1:Int) (a4:Int→Int→Option (Int)) (v10:Int) (v11:Int):Option (Stp (Int×Int) ((Int))):=
 cond (decide (v10<v11)) (((kV a0 (wi ((wu (wi (v10+v11)))/2 ^ 1))).bind fun t43=>
(kV a0 a1).bind fun t47=>
(a4 t43 t47).bind fun t49=>
 cond (decide (t49<0)) (some (wi ((wi ((wu (wi (v10+v11)))/2 ^ 1))+1),v11)) (some (v10,wi ((wu (wi (v10+v11)))/2 ^ 1)))).bind fun (y2:Int×Int)=>
 some (.next (y2.1,y2.2))) (some (.done v10))
def kZ (y1:Int) (v13:Int) (r3000:(List Int)):Option (Stp (Int×(List Int)) (((List Int)))):=
 cond (decide (v13<(wi (y1-1)))) ((kV r3000 (wi (v13+1))).bind fun t69=>
(kV r3000 v13).bind fun t73=>
(kV r3000 v13).bind fun t75=>
(zBE r3000 v13 t69).bind fun r3000_11x15=>
(kV r3000_11x15 (wi (v13+1))).bind fun t76=>
(zBE r3000_11x15 (wi (v13+1)) t73).bind fun r3000_11x17=>
 some (.next (wi (v13+1),r3000_11x17))) (some (.done r3000))
def k3 (a0:(List Int)) (a2:Int) (a4:Int→Int→Option (Int)) (v14:Int) (v15:Int):Option (Stp (Int×Int) ((Int))):=
 cond (decide (v14<v15)) (((kV a0 a2).bind fun t95=>
(kV a0 (wi ((wu (wi (v14+v15)))/2 ^ 1))).bind fun t99=>
(a4 t95 t99).bind fun t101=>
 cond (!(decide (t101<0))) (some (wi ((wi ((wu (wi (v14+v15)))/2 ^ 1))+1),v15)) (some (v14,wi ((wu (wi (v14+v15)))/2 ^ 1)))).bind fun (y5:Int×Int)=>
 some (.next (y5.1,y5.2))) (some (.done v14))
def k4 (y4:Int) (v17:Int) (r3000:(List Int)):Option (Stp (Int×(List Int)) (((List Int)))):=
 cond (decide (y4<v17)) ((kV r3000 (wi (v17-1))).bind fun t121=>
(kV r3000 v17).bind fun t125=>
(kV r3000 v17).bind fun t127=>
(zBE r3000 v17 t121).bind fun r3000_23x15=>
(kV r3000_23x15 (wi (v17-1))).bind fun t128=>
(zBE r3000_23x15 (wi (v17-1)) t125).bind fun r3000_23x17=>
 some (.next (wi (v17-1),r3000_23x17))) (some (.done r3000))
def k5 (a0:(List Int)) (a1:Int) (a3:Int) (a2:Int) (a4:Int→Int→Option (Int)) (v20:Int) (v21:Int):Option (Stp (Int×Int) ((Int))):=
 cond (decide (v20<v21)) (((kV a0 (wi ((wi ((wi ((wi ((wu (wi (a1+a3)))/2 ^ 1))+a2))-1))-(wi ((wu (wi (v20+v21)))/2 ^ 1))))).bind fun t163=>
(kV a0 (wi ((wu (wi (v20+v21)))/2 ^ 1))).bind fun t167=>
(a4 t163 t167).bind fun t169=>
 cond (!(decide (t169<0))) (some (wi ((wi ((wu (wi (v20+v21)))/2 ^ 1))+1),v21)) (some (v20,wi ((wu (wi (v20+v21)))/2 ^ 1)))).bind fun (y9:Int×Int)=>
 some (.next (y9.1,y9.2))) (some (.done v20))
def kM (rec:((List Int))→(Int)→(Int)→(Int)→(Int→Int→Option (Int))→Option ((List Int))) (a0:(List Int)) (a1:Int) (a2:Int) (a3:Int) (a4:Int→Int→Option (Int)):Option ((List Int)):=
 cond (decide ((wi (a2-a1))=1)) ((zX (fun (x:Int×Int)=>kY a0 a1 a4 x.1 x.2) (a2,a3)).bind fun (y1:Int)=>
(zX (fun (x:Int×(List Int))=>kZ y1 x.1 x.2) (a1,a0)).bind fun (y3:(List Int))=>
 some y3) (cond (decide ((wi (a3-a2))=1)) ((zX (fun (x:Int×Int)=>k3 a0 a2 a4 x.1 x.2) (a1,a2)).bind fun (y4:Int)=>
(zX (fun (x:Int×(List Int))=>k4 y4 x.1 x.2) (a2,a0)).bind fun (y6:(List Int))=>
 some y6) ((cond (decide ((wi ((wu (wi (a1+a3)))/2 ^ 1))<a2)) (some (wi ((wi ((wi ((wu (wi (a1+a3)))/2 ^ 1))+a2))-a3),wi ((wu (wi (a1+a3)))/2 ^ 1))) (some (a1,a2))).bind fun (y7:Int×Int)=>
(zX (fun (x:Int×Int)=>k5 a0 a1 a3 a2 a4 x.1 x.2) (y7.1,y7.2)).bind fun (y8:Int)=>
(pv (decide (y8<a2))).bind fun b181=>
(cond (b181&&(decide (a2<(wi ((wi ((wi ((wu (wi (a1+a3)))/2 ^ 1))+a2))-y8))))) ((xG a0 y8 a2 (wi ((wi ((wi ((wu (wi (a1+a3)))/2 ^ 1))+a2))-y8)) a4).bind fun t191=>
 some t191) (some a0)).bind fun (y10:(List Int))=>
(pv (decide (a1<y8))).bind fun b195=>
(cond (b195&&(decide (y8<(wi ((wu (wi (a1+a3)))/2 ^ 1))))) ((rec y10 a1 y8 (wi ((wu (wi (a1+a3)))/2 ^ 1)) a4).bind fun t205=>
 some t205) (some y10)).bind fun (y11:(List Int))=>
(pv (decide ((wi ((wu (wi (a1+a3)))/2 ^ 1))<(wi ((wi ((wi ((wu (wi (a1+a3)))/2 ^ 1))+a2))-y8))))).bind fun b209=>
 cond (b209&&(decide ((wi ((wi ((wi ((wu (wi (a1+a3)))/2 ^ 1))+a2))-y8))<a3))) ((rec y11 (wi ((wu (wi (a1+a3)))/2 ^ 1)) (wi ((wi ((wi ((wu (wi (a1+a3)))/2 ^ 1))+a2))-y8)) a3 a4).bind fun t219=>
 some t219) (some y11)))
def k7:Nat→((List Int))→(Int)→(Int)→(Int)→(Int→Int→Option (Int))→Option ((List Int))
 | 0=>fun _ _ _ _ _=>none
 | n+1=>kM (k7 n)
def kF (a1:Int) (a2:Int→Int→Option (Int)) (v7:Int) (v8:Int) (r3000:(List Int)):Option (Stp (Int×Int×(List Int)) ((Int×(List Int)))):=
 cond (decide (v8≤a1)) ((jC r3000 v7 v8 a2).bind fun t18=>
 some (.next (v8,wi (v8+20),t18))) (some (.done (v7,r3000)))
def kG (a1:Int) (v6:Int) (a2:Int→Int→Option (Int)) (v7:Int) (v8:Int) (r3000:(List Int)):Option (Stp (Int×Int×(List Int)) ((Int×(List Int)))):=
 cond (decide (v8≤a1)) ((k7 60 r3000 v7 (wi (v7+v6)) v8 a2).bind fun t43=>
 some (.next (v8,wi (v8+(wi (2*v6))),t43))) (some (.done (v7,r3000)))
def kQ (a1:Int) (a2:Int→Int→Option (Int)) (v6:Int) (r3000:(List Int)):Option (Stp (Int×(List Int)) (((List Int)))):=
 cond (decide (v6<a1)) ((zX (fun (x:Int×Int×(List Int))=>kG a1 v6 a2 x.1 x.2.1 x.2.2) (0,wi (2*v6),r3000)).bind fun (y3:Int×(List Int))=>
(cond (decide ((wi (y3.1+v6))<a1)) ((k7 60 y3.2 y3.1 (wi (y3.1+v6)) a1 a2).bind fun t60=>
 some t60) (some y3.2)).bind fun (y4:(List Int))=>
 some (.next (wi (v6*2),y4))) (some (.done r3000))
def vF (a0:(List Int)) (a1:Int) (a2:Int→Int→Option (Int)):Option ((List Int)):=
(zX (fun (x:Int×Int×(List Int))=>kF a1 a2 x.1 x.2.1 x.2.2) (0,20,a0)).bind fun (y1:Int×(List Int))=>
(jC y1.2 y1.1 a1 a2).bind fun t27=>
(zX (fun (x:Int×(List Int))=>kQ a1 a2 x.1 x.2) (20,t27)).bind fun (y2:(List Int))=>
 some y2
def jK (a0:(List Int)) (a1:Int→Int→Option (Int)):Option ((List Int)):=
(vF a0 (a0.length:Int) a1).bind fun t8=>
 some t8
def zBA (a0:List Span) (a1:List Int):Option (List Int):=(zAR a0).bind fun t8=>(zAZ a1).bind fun t10=>(zAS (xJ (fun c=>jO t8 c==some 0) a1 0 (-1)) a1 t8).bind fun _=>zAB (fun p=>jK p (fun x0 x1=>wM x0 x1 t8)) Range.Lo Range.Hi t10 (xJ (fun c=>jO t8 c==some 0) a1 0 (-1))
def wJ (a1:(List Int)) (t12:Norm) (a2:Bool) (v18:Int) (r1008:(List Int)) (r3515:(List (Int×(List Int)))):Option (Stp (Int×(List Int)×(List (Int×(List Int)))) (((List Int)))):=
 cond (decide (v18<(a1.length:Int))) ((kV a1 v18).bind fun t20=>
(jA 100 t20 r3515 ({Classes:=t12.Classes,Decomp:=t12.Decomp,Excluded:=({Ranges:=t12.Excluded.Ranges}:Set)}:Norm) a2).bind fun t25=>
(app r1008 t25.1).bind fun r1008_2=>
 some (.next (wi (v18+1),r1008_2,t25.2))) (some (.done r1008))
def zBX (a0:Norm) (a1:(List Int)) (a2:Bool):Option ((List Int)):=
(uZ ({Classes:=a0.Classes,Decomp:=a0.Decomp,Excluded:=({Ranges:=a0.Excluded.Ranges}:Set)}:Norm)).bind fun t12=>
(zB5 ({Classes:=t12.Classes,Decomp:=t12.Decomp,Excluded:=({Ranges:=t12.Excluded.Ranges}:Set)}:Norm) a2).bind fun t15=>
(zX (fun (x:Int×(List Int)×(List (Int×(List Int))))=>wJ a1 t12 a2 x.1 x.2.1 x.2.2) (0,[],[])).bind fun (y1:(List Int))=>
(zBA t12.Classes y1).bind fun t31=>
 some t31
def xW (a0:Normalize_steps) (a1:(List Int)):Option ((List Int)):=
(zBX a0.norm a1 false).bind fun t8=>
 some t8
def vQ (a0:Norm) (a2:(List Int)):Option ((List Int)):=
(((some ()).bind fun (y3:Unit)=>
 some ()).bind fun (y2:Unit)=>
 some ()).bind fun (y1:Unit)=>
(xW ({norm:=({Classes:=(({norm:=a0}:Normalize_steps).norm).Classes,Decomp:=(({norm:=a0}:Normalize_steps).norm).Decomp,Excluded:=({Ranges:=((({norm:=a0}:Normalize_steps).norm).Excluded).Ranges}:Set)}:Norm)}:Normalize_steps) a2).bind fun t34=>
(some ()).bind fun (y4:Unit)=>
 some t34
def wZ (a0:(List Mapping)) (v21:Int) (r15:(List (Mapping_key×(List Int)))):Option (Stp (Int×(List (Mapping_key×(List Int)))) (((List (Mapping_key×(List Int)))))):=
 cond (decide (v21<(a0.length:Int))) ((kV a0 v21).bind fun t23=>
(zA7 t23).bind fun t27=>
 some (.next (wi (v21+1),wD r15 t27 t23.To))) (some (.done r15))
def w7 (a2:(List Int)) (y1:(List (Mapping_key×(List Int)))) (a1:Str) (v33:Int) (r1010:(List Int)):Option (Stp (Int×(List Int)) (((List Int)))):=
 cond (decide (v33<(a2.length:Int))) (((kV a2 v33).bind fun t35=>
 cond (wK y1 ({from_:=t35,tag:=a1}:Mapping_key)) ((app r1010 (xI y1 ({from_:=t35,tag:=a1}:Mapping_key) [])).bind fun r1010_5=>
 some r1010_5) ((app r1010 [t35]).bind fun r1010_6=>
 some r1010_6)).bind fun (y4:(List Int))=>
 some (.next (wi (v33+1),y4))) (some (.done r1010))
def zDQ (a0:(List Mapping)) (a1:Str) (a2:(List Int)):Option ((List Int)):=
(uR a0).bind fun t17=>
(cond (decide (t17=0)) ((zX (fun (x:Int×(List (Mapping_key×(List Int))))=>wZ a0 x.1 x.2) (0,[])).bind fun (y2:(List (Mapping_key×(List Int))))=>
 some y2) (some [])).bind fun (y1:(List (Mapping_key×(List Int))))=>
(zX (fun (x:Int×(List Int))=>w7 a2 y1 a1 x.1 x.2) (0,[])).bind fun (y3:(List Int))=>
 some y3
def kW (a0:Norm) (a1:(List Mapping)) (a2:(List Int)):Option ((List Int)):=
(vQ a0 a2).bind fun t11=>
(zDQ a1 [] t11).bind fun t12=>
(vQ a0 t12).bind fun t13=>
 some t13
def x6 (a0:List Int):Option Str:=z8H a0
def uG (a0:Norm) (a1:List Mapping) (a2:List (List Int)):Option (List (List Int)):=if a2.length≤1000000 then (a2.mapM fun t=>(kW a0 a1 t).bind x6).map zXG else none
def xK (a0:(List Int)) (a1:(List Int)) (v13:Int):Option (Stp (Int) ((Unit)⊕(Bool))):=
 cond (decide (v13<(a0.length:Int))) ((kV a0 v13).bind fun t18=>
(kV a1 v13).bind fun t22=>
 cond (!decide (t18=t22)) (some (.done (.inr (false)))) (some (.next (wi (v13+1))))) (some (.done (.inl (()))))
def vR (a0:(List Int)) (a1:(List Int)):Option (Bool):=
 cond (!decide ((a0.length:Int)=(a1.length:Int))) (some false) ((zX (fun (x:Int)=>xK a0 a1 x) 0).bind fun (y1:(Unit)⊕(Bool))=>
 y1.elim (fun y1=>some true) (fun y1=>some y1))
def x9 (a0:Norm) (a1:(List Mapping)) (a2:(List Int)) (a3:(List Int)):Option (Bool):=
(kW a0 a1 a2).bind fun t12=>
(kW a0 a1 a3).bind fun t16=>
(vR t12 t16).bind fun t17=>
 some t17
def w8 (a0:Str) (v15:Int):Option (Stp (Int) ((Unit)⊕(Bool))):=
 cond (decide (v15<(a0.length:Int))) ((zSI a0 v15).bind fun t20=>
(pv (decide (65≤t20))).bind fun b23=>
(pv (b23&&(decide (t20≤90)))).bind fun b27=>
(pv (decide (97≤t20))).bind fun b30=>
(pv (!(b27 ||(b30&&(decide (t20≤122)))))).bind fun b37=>
(pv (decide (48≤t20))).bind fun b40=>
(pv (b37&&(!(b40&&(decide (t20≤57)))))).bind fun b46=>
 cond (b46&&(!decide (t20=95))) (some (.done (.inr (false)))) (some (.next (wi (v15+1))))) (some (.done (.inl (()))))
def zCC (a0:Str):Option (Bool):=
(pv (a0== [])).bind fun b8=>
 cond (b8 ||(decide (32<(a0.length:Int)))) (some false) ((zX (fun (x:Int)=>w8 a0 x) 0).bind fun (y1:(Unit)⊕(Bool))=>
 y1.elim (fun y1=>some true) (fun y1=>some y1))
def uH (a0:(List Str)) (v20:Int) (r17:(List (Str×Int))):Option (Stp (Int×(List (Str×Int))) (((List (Str×Int)))⊕(Bool))):=
 cond (decide (v20<(a0.length:Int))) ((kV a0 v20).bind fun t23=>
(pv (wK r17 t23)).bind fun b32=>
(gM (!b32) (zCC t23)).bind fun t34=>
 cond (b32 ||(!t34)) (some (.done (.inr (false)))) (some (.next (wi (v20+1),wD r17 t23 v20)))) (some (.done (.inl (r17))))
def zC4 (a0:(List Str)):Option (Bool):=
(pv (decide ((a0.length:Int)=0))).bind fun b12=>
 cond (b12 ||(decide (250<(a0.length:Int)))) (some false) ((zX (fun (x:Int×(List (Str×Int)))=>uH a0 x.1 x.2) (0,[])).bind fun (y1:((List (Str×Int)))⊕(Bool))=>
 y1.elim (fun y1=>some true) (fun y1=>some y1))
def zDV (a0:Span):Option (Bool):=
(wL a0.Lo).bind fun t5=>
(pv t5).bind fun b6=>
(gM b6 (wL a0.Hi)).bind fun t9=>
(pv (b6&&t9)).bind fun b11=>
 some (b11&&(decide (a0.Lo≤a0.Hi)))
def uI (a0:Property) (v19:Int):Option (Stp (Int) ((Unit)⊕(Bool))):=
 cond (decide (v19<(a0.Spans.length:Int))) (((kV a0.Spans v19).bind fun t22=>
(zDV t22).bind fun t25=>
(pv (!t25)).bind fun b27=>
(pv (b27 ||(decide (t22.Value<1)))).bind fun b32=>
 cond (b32 ||(decide ((a0.Names.length:Int)≤t22.Value))) (some (.inr (()))) (cond (decide (v19=0)) (some (.inl (()))) ((kV a0.Spans (wi (v19-1))).bind fun t46=>
(pv (decide (t22.Lo≤t46.Hi))).bind fun b53=>
(pv (decide (t22.Lo=(wi (t46.Hi+1))))).bind fun b60=>
 cond (b53 ||(b60&&(decide (t22.Value=t46.Value)))) (some (.inr (()))) (some (.inl (())))))).bind fun (y2:(Unit)⊕(Unit))=>
 y2.elim (fun y2=>some (.next (wi (v19+1)))) (fun y2=>some (.done (.inr (false))))) (some (.done (.inl (()))))
def zC5 (a0:Property):Option (Bool):=
(zC4 a0.Names).bind fun t11=>
 cond (!t11) (some false) ((zX (fun (x:Int)=>uI a0 x) 0).bind fun (y1:(Unit)⊕(Bool))=>
 y1.elim (fun y1=>some true) (fun y1=>some y1))
def u2 (a0:Property):Option (Property):=
(zC5 a0).bind fun t4=>
 cond t4 (some a0) (some ({Names:=[[79,116,104,101,114]],Spans:=[]}:Property))
def zBY (a0:Int) (a1:(List Span)) (a2:Int):Option (Bool):=
(kV a1 a0).bind fun t7=>
 some (decide (a2≤t7.Hi))
def zAG (a1:Int→Option (Bool)) (v5:Int) (v6:Int):Option (Stp (Int×Int) ((Int))):=
 cond (decide (v5<v6)) (((a1 (wi ((wu (wi (v5+v6)))/2 ^ 1))).bind fun t20=>
 cond (!t20) (some (wi ((wi ((wu (wi (v5+v6)))/2 ^ 1))+1),v6)) (some (v5,wi ((wu (wi (v5+v6)))/2 ^ 1)))).bind fun (y2:Int×Int)=>
 some (.next (y2.1,y2.2))) (some (.done v5))
def zFJ (a0:Int) (a1:Int→Option (Bool)):Option (Int):=
(zX (fun (x:Int×Int)=>zAG a1 x.1 x.2) (0,a0)).bind fun (y1:Int)=>
 some y1
def zEF (a0:Property) (a1:Int):Option (Int):=
(u2 a0).bind fun t8=>
(zFJ (t8.Spans.length:Int) (fun x0=>zBY x0 t8.Spans a1)).bind fun t13=>
(pv (decide (t13<(t8.Spans.length:Int)))).bind fun b18=>
(gM b18 (kV t8.Spans t13)).bind fun t21=>
 cond (b18&&(decide (t21.Lo≤a1))) ((kV t8.Spans t13).bind fun t29=>
 some t29.Value) (some 0)
def zDR (a0:Property) (a1:Int):Option (Str):=
(u2 a0).bind fun t6=>
(zEF a0 a1).bind fun t10=>
(kV t6.Names t10).bind fun t11=>
 some t11
def jZ (a1:(List Int)) (a0:Property) (v17:Int) (r11:(List (Int×Str))) (r14:(List Str)):Option (Stp (Int×(List (Int×Str))×(List Str)) (((List Str)))):=
 cond (decide (v17<(a1.length:Int))) ((kV a1 v17).bind fun t20=>
(cond (!(wK r11 t20)) ((zDR a0 t20).bind fun t32=>
((cond (t32== [67,111,109,109,111,110]) (some (t32== [67,111,109,109,111,110])) (cond (t32== [73,110,104,101,114,105,116,101,100]) (some (t32== [73,110,104,101,114,105,116,101,100])) (some (t32== [79,116,104,101,114])))).bind fun (y4:Bool)=>
 cond y4 (some []) (some t32)).bind fun (y3:Str)=>
 some (y3,wD r11 t20 y3)) (some (xI r11 t20 [],r11))).bind fun (y2:Str×(List (Int×Str)))=>
(kV r14 v17).bind fun t44=>
(zBE r14 v17 y2.1).bind fun r14_5=>
 some (.next (wi (v17+1),y2.2,r14_5))) (some (.done r14))
def uM (a0:Property) (a1:(List Int)):Option ((List Str)):=
(mkM [] (a1.length:Int)).bind fun r14=>
(zX (fun (x:Int×(List (Int×Str))×(List Str))=>jZ a1 a0 x.1 x.2.1 x.2.2) (0,[],r14)).bind fun (y1:(List Str))=>
 some y1
def uS (t12:(List Str)) (v14:Int) (r9:(List (Str×Bool))) (r1006:(List Str)):Option (Stp (Int×(List (Str×Bool))×(List Str)) (((List Str)))):=
 cond (decide (v14<(t12.length:Int))) (((kV t12 v14).bind fun t16=>
(pv (!(t16== []))).bind fun b20=>
 cond (b20&&(!(xI r9 t16 false))) ((app r1006 [t16]).bind fun r1006_3=>
 some (wD r9 t16 true,r1006_3)) (some (r9,r1006))).bind fun (y2:(List (Str×Bool))×(List Str))=>
 some (.next (wi (v14+1),y2.1,y2.2))) (some (.done r1006))
def zC6 (a0:Property) (a1:(List Int)):Option ((List Str)):=
(uM a0 a1).bind fun t12=>
(zX (fun (x:Int×(List (Str×Bool))×(List Str))=>uS t12 x.1 x.2.1 x.2.2) (0,[],[])).bind fun (y1:(List Str))=>
(zYA y1).bind fun r1006_4=>
 some r1006_4
def jV (a0:(List Str)) (a1:(List Str)) (v13:Int):Option (Stp (Int) ((Unit)⊕(Bool))):=
 cond (decide (v13<(a0.length:Int))) ((kV a0 v13).bind fun t18=>
(kV a1 v13).bind fun t22=>
 cond (!(t18==t22)) (some (.done (.inr (false)))) (some (.next (wi (v13+1))))) (some (.done (.inl (()))))
def xP (a0:(List Str)) (a1:(List Str)):Option (Bool):=
 cond (!decide ((a0.length:Int)=(a1.length:Int))) (some false) ((zX (fun (x:Int)=>jV a0 a1 x) 0).bind fun (y1:(Unit)⊕(Bool))=>
 y1.elim (fun y1=>some true) (fun y1=>some y1))
def xQ (a0:Norm) (a1:(List Mapping)) (a2:Property) (a3:(List Int)) (a4:(List Int)):Option (Int):=
(x9 a0 a1 a3 a4).bind fun t18=>
 cond (!t18) (some 0) ((zC6 a2 a3).bind fun t22=>
(zC6 a2 a4).bind fun t25=>
(((pv (!decide ((t22.length:Int)=(t25.length:Int)))).bind fun b32=>
 cond (b32 ||(decide (1<(t22.length:Int)))) (some (.inr (wi (0+1)))) ((xP t22 t25).bind fun t40=>
 cond (!t40) (some (.inr (0))) (some (.inl (()))))).bind fun (y2:(Unit)⊕(Int))=>
 y2.elim (fun y2=>some 0) (fun y2=>some (wi (y2+1)))).bind fun (y1:Int)=>
 some (wi (y1+1)))
def u5 (a0:(List Int)) (a1:(List Int)) (v5:Int):Option (Stp (Int) ((Unit)⊕(Int))):=
(pv (decide (v5<(a0.length:Int)))).bind fun b10=>
 cond (b10&&(decide (v5<(a1.length:Int)))) ((kV a0 v5).bind fun t20=>
(kV a1 v5).bind fun t24=>
 cond (decide (t20<t24)) (some (.done (.inr ((-1))))) ((kV a0 v5).bind fun t29=>
(kV a1 v5).bind fun t33=>
 cond (decide (t33<t29)) (some (.done (.inr (1)))) (some (.next (wi (v5+1)))))) (some (.done (.inl (()))))
def zDS (a0:(List Int)) (a1:(List Int)):Option (Int):=
(zX (fun (x:Int)=>u5 a0 a1 x) 0).bind fun (y1:(Unit)⊕(Int))=>
 y1.elim (fun y1=>cond (decide ((a0.length:Int)<(a1.length:Int))) (some (-1)) (cond (decide ((a1.length:Int)<(a0.length:Int))) (some 1) (some 0))) (fun y1=>some y1)
def zB3 (a0:(List Int)) (a1:(List Int)):Option (Bool):=
(zDS a0 a1).bind fun t7=>
 some (decide (t7=0))
def xA (a1:(List Mapping)) (v18:Int) (r15:(List (Int×Bool))):Option (Stp (Int×(List (Int×Bool))) (((List (Int×Bool))))):=
 cond (decide (v18<(a1.length:Int))) (((kV a1 v18).bind fun t20=>
 cond (t20.Tag== []) (some (wD r15 t20.From true)) (some r15)).bind fun (y2:(List (Int×Bool)))=>
 some (.next (wi (v18+1),y2))) (some (.done r15))
def wA (t41:(List Int)) (y1:(List (Int×Bool))) (v43:Int):Option (Stp (Int) ((Unit)⊕(Bool))):=
 cond (decide (v43<(t41.length:Int))) ((kV t41 v43).bind fun t45=>
 cond (xI y1 t45 false) (some (.done (.inr (false)))) (some (.next (wi (v43+1))))) (some (.done (.inl (()))))
def wB (a1:(List Mapping)) (a0:Norm) (y1:(List (Int×Bool))) (v31:Int):Option (Stp (Int) ((Unit)⊕(Bool))):=
 cond (decide (v31<(a1.length:Int))) (((kV a1 v31).bind fun t33=>
 cond (!(t33.Tag== [])) (some (.inl (()))) ((vQ a0 t33.To).bind fun t41=>
(zX (fun (x:Int)=>wA t41 y1 x) 0).bind fun (y5:(Unit)⊕(Bool))=>
 y5.elim (fun y5=>some (.inl (()))) (fun y5=>some (.inr (y5))))).bind fun (y4:(Unit)⊕(Bool))=>
 y4.elim (fun y4=>some (.next (wi (v31+1)))) (fun y4=>some (.done (.inr (y4))))) (some (.done (.inl (()))))
def uJ (a0:Norm) (a1:(List Mapping)):Option (Bool):=
(uR a1).bind fun t13=>
 cond (!decide (t13=0)) (some true) ((zX (fun (x:Int×(List (Int×Bool)))=>xA a1 x.1 x.2) (0,[])).bind fun (y1:(List (Int×Bool)))=>
(zX (fun (x:Int)=>wB a1 a0 y1 x) 0).bind fun (y3:(Unit)⊕(Bool))=>
 y3.elim (fun y3=>some true) (fun y3=>some y3))
def zD4:Option (Bool):=
(uG ({Classes:=[],Decomp:=[],Excluded:=(({Ranges:=[]}):Set)}:Norm) ([({From:=1072,To:=[97],Tag:=[]}:Mapping)]) ([[97],[98],[1072]])).bind fun t22=>
(x9 ({Classes:=[],Decomp:=[],Excluded:=(({Ranges:=[]}):Set)}:Norm) ([({From:=1072,To:=[97],Tag:=[]}:Mapping)]) [97] [1072]).bind fun t27=>
(pv t27).bind fun b28=>
(gM b28 (xQ ({Classes:=[],Decomp:=[],Excluded:=(({Ranges:=[]}):Set)}:Norm) ([({From:=1072,To:=[97],Tag:=[]}:Mapping)]) ({Names:=[[79,116,104,101,114],[76,97,116,105,110],[67,121,114,105,108,108,105,99]],Spans:=[({Lo:=97,Hi:=122,Value:=1}:Span),({Lo:=1072,Hi:=1103,Value:=2}:Span)]}:Property) [97] [1072])).bind fun t34=>
(pv (b28&&(decide (t34=2)))).bind fun b37=>
(gM b37 (xQ ({Classes:=[],Decomp:=[],Excluded:=(({Ranges:=[]}):Set)}:Norm) ([({From:=1072,To:=[97],Tag:=[]}:Mapping)]) ({Names:=[[79,116,104,101,114],[76,97,116,105,110],[67,121,114,105,108,108,105,99]],Spans:=[({Lo:=97,Hi:=122,Value:=1}:Span),({Lo:=1072,Hi:=1103,Value:=2}:Span)]}:Property) [97] [97])).bind fun t43=>
(pv (b37&&(decide (t43=1)))).bind fun b46=>
(pv (b46&&(decide ((t22.length:Int)=1)))).bind fun b51=>
(gM b51 (kV t22 (0:Int))).bind fun t53=>
(gM b51 (zB3 t53 [0,2])).bind fun t56=>
(pv (b51&&t56)).bind fun b58=>
(gM b58 (uJ ({Classes:=[],Decomp:=[],Excluded:=(({Ranges:=[]}):Set)}:Norm) ([({From:=1072,To:=[97],Tag:=[]}:Mapping)]))).bind fun t61=>
 some (b58&&t61)
def zBZ (a0:Norm) (a1:(List Mapping)) (a2:(List Int)):Option ((List Int)):=
(zA6 a0 a2).bind fun t10=>
(zD3 a1 [] t10).bind fun t14=>
(zA6 a0 t14).bind fun t15=>
 some t15
def zFK (a0:Norm) (a1:(List Mapping)) (a2:(List Int)) (a3:(List Int)):Option (Bool):=
(zBZ a0 a1 a2).bind fun t12=>
(zBZ a0 a1 a3).bind fun t16=>
(zB3 t12 t16).bind fun t17=>
 some t17
def zJY (a0:Property) (a1:Int):Option (Bool):=
(pv (decide ((a0.Names.length:Int)≤300))).bind fun b9=>
 some (b9&&(decide ((a0.Spans.length:Int)≤a1)))
def zB0 (a0:Str) (v3:Int):Option (Stp (Int) ((Unit)⊕(Bool))):=
 cond (decide (v3<(a0.length:Int))) ((zSI a0 v3).bind fun t21=>
(pv (decide (65≤t21))).bind fun b24=>
(pv (b24&&(decide (t21≤90)))).bind fun b28=>
(pv (decide (97≤t21))).bind fun b31=>
(pv (b28 ||(b31&&(decide (t21≤122))))).bind fun b36=>
(pv (decide (48≤t21))).bind fun b39=>
(pv (b36 ||(b39&&(decide (t21≤57))))).bind fun b44=>
 cond (!(b44 ||(decide (t21=95)))) (some (.done (.inr (false)))) (some (.next (wi (v3+1))))) (some (.done (.inl (()))))
def zFL (a0:Str):Option (Bool):=
(pv (decide ((a0.length:Int)<1))).bind fun b8=>
 cond (b8 ||(decide (32<(a0.length:Int)))) (some false) ((zX (fun (x:Int)=>zB0 a0 x) 0).bind fun (y1:(Unit)⊕(Bool))=>
 y1.elim (fun y1=>some true) (fun y1=>some y1))
def zAH (v3:Int) (a0:(List Str)) (v4:Int):Option (Stp (Int) ((Unit)⊕(Bool))):=
 cond (decide (v4<v3)) ((kV a0 v4).bind fun t32=>
(kV a0 v3).bind fun t36=>
 cond (t32==t36) (some (.done (.inr (false)))) (some (.next (wi (v4+1))))) (some (.done (.inl (()))))
def zB1 (a0:(List Str)) (v3:Int):Option (Stp (Int) ((Unit)⊕(Bool))):=
 cond (decide (v3<(a0.length:Int))) ((kV a0 v3).bind fun t21=>
(zFL t21).bind fun t23=>
 cond (!t23) (some (.done (.inr (false)))) ((zX (fun (x:Int)=>zAH v3 a0 x) 0).bind fun (y2:(Unit)⊕(Bool))=>
 y2.elim (fun y2=>some (.next (wi (v3+1)))) (fun y2=>some (.done (.inr (y2)))))) (some (.done (.inl (()))))
def zFM (a0:(List Str)):Option (Bool):=
(pv (decide ((a0.length:Int)<1))).bind fun b8=>
 cond (b8 ||(decide (250<(a0.length:Int)))) (some false) ((zX (fun (x:Int)=>zB1 a0 x) 0).bind fun (y1:(Unit)⊕(Bool))=>
 y1.elim (fun y1=>some true) (fun y1=>some y1))
def zB2 (a0:Property) (v3:Int):Option (Stp (Int) ((Unit)⊕(Bool))):=
 cond (decide (v3<(a0.Spans.length:Int))) ((kV a0.Spans v3).bind fun t19=>
(pv (decide (t19.Lo<0))).bind fun b24=>
(pv (b24 ||(decide (t19.Hi<t19.Lo)))).bind fun b31=>
(pv (b31 ||(decide (1114111<t19.Hi)))).bind fun b36=>
(pv (b36 ||(decide (t19.Value<1)))).bind fun b41=>
 cond (b41 ||(decide ((a0.Names.length:Int)≤t19.Value))) (some (.done (.inr (false)))) ((pv (decide (0<v3))).bind fun b51=>
(gM b51 (kV a0.Spans (wi (v3-1)))).bind fun t58=>
(pv (decide (t19.Lo≤t58.Hi))).bind fun b62=>
(gM (b51&& !b62) (kV a0.Spans (wi (v3-1)))).bind fun t69=>
(pv (decide (t19.Lo=(wi (t69.Hi+1))))).bind fun b74=>
(gM (b51&& !b62&&b74) (kV a0.Spans (wi (v3-1)))).bind fun t81=>
 cond (b51&&(b62 ||(b74&&(decide (t19.Value=t81.Value))))) (some (.done (.inr (false)))) (some (.next (wi (v3+1)))))) (some (.done (.inl (()))))
def zFN (a0:Property):Option (Bool):=
(zFM a0.Names).bind fun t7=>
 cond (!t7) (some false) ((zX (fun (x:Int)=>zB2 a0 x) 0).bind fun (y1:(Unit)⊕(Bool))=>
 y1.elim (fun y1=>some true) (fun y1=>some y1))
def zCK (a0:Property):Option (Property):=
(zFN a0).bind fun t4=>
 cond (!t4) (some ({Names:=[[79,116,104,101,114]],Spans:=[]}:Property)) (some a0)
def zDE (t8:Property) (a1:Int) (v6:Int):Option (Stp (Int) ((Unit)⊕(Int))):=
 cond (decide (v6<(t8.Spans.length:Int))) ((kV t8.Spans v6).bind fun t20=>
(pv (decide (t20.Lo≤a1))).bind fun b24=>
(gM b24 (kV t8.Spans v6)).bind fun t29=>
 cond (b24&&(decide (a1≤t29.Hi))) ((kV t8.Spans v6).bind fun t37=>
 some (.done (.inr (t37.Value)))) (some (.next (wi (v6+1))))) (some (.done (.inl (()))))
def zH4 (a0:Property) (a1:Int):Option (Int):=
(zCK a0).bind fun t8=>
(zX (fun (x:Int)=>zDE t8 a1 x) 0).bind fun (y1:(Unit)⊕(Int))=>
 y1.elim (fun y1=>some 0) (fun y1=>some y1)
def zGU (a0:Property) (a1:Int):Option (Str):=
(zCK a0).bind fun t6=>
(zH4 a0 a1).bind fun t10=>
(kV t6.Names t10).bind fun t11=>
 some t11
def zIM (a0:Str):Option (Bool):=
(pv (!(a0== [67,111,109,109,111,110]))).bind fun b5=>
(pv (b5&&(!(a0== [73,110,104,101,114,105,116,101,100])))).bind fun b9=>
 some (b9&&(!(a0== [79,116,104,101,114])))
def zDF (a0:(List Str)) (a1:Str) (v5:Int):Option (Stp (Int) ((Unit)⊕(Bool))):=
 cond (decide (v5<(a0.length:Int))) ((kV a0 v5).bind fun t14=>
 cond (t14==a1) (some (.done (.inr (true)))) (some (.next (wi (v5+1))))) (some (.done (.inl (()))))
def zH5 (a0:(List Str)) (a1:Str):Option (Bool):=
(zX (fun (x:Int)=>zDF a0 a1 x) 0).bind fun (y1:(Unit)⊕(Bool))=>
 y1.elim (fun y1=>some false) (fun y1=>some y1)
def zBB (a0:(List Str)) (a1:Str) (v5:Int):Option (Stp (Int) ((Int))):=
(pv (decide (v5<(a0.length:Int)))).bind fun b15=>
(gM b15 (kV a0 v5)).bind fun t18=>
 cond (b15&&(Op.bytesLess t18 a1)) (some (.next (wi (v5+1)))) (some (.done v5))
def zGV (a0:(List Str)) (a1:Str):Option ((List Str)):=
(zH5 a0 a1).bind fun t9=>
 cond t9 (some a0) ((zX (fun (x:Int)=>zBB a0 a1 x) 0).bind fun (y1:Int)=>
(slc a0 0 y1).bind fun t28=>
(app [] t28).bind fun r25_2=>
(app r25_2 [a1]).bind fun r25_3=>
(slc a0 y1 (a0.length)).bind fun t37=>
(app r25_3 t37).bind fun r25_4=>
 some r25_4)
def zC7 (a1:(List Int)) (a0:Property) (v5:(List Str)) (v6:Int):Option (Stp ((List Str)×Int) (((List Str)))):=
 cond (decide (v6<(a1.length:Int))) (((kV a1 v6).bind fun t17=>
(zGU a0 t17).bind fun t19=>
(zIM t19).bind fun t21=>
 cond t21 ((zGV v5 t19).bind fun t24=>
 some t24) (some v5)).bind fun (y2:(List Str))=>
 some (.next (y2,wi (v6+1)))) (some (.done v5))
def zGW (a0:Property) (a1:(List Int)):Option ((List Str)):=
(zX (fun (x:(List Str)×Int)=>zC7 a1 a0 x.1 x.2) ([],0)).bind fun (y1:(List Str))=>
 some y1
def u6 (a0:(List Str)) (a1:(List Str)) (v5:Int):Option (Stp (Int) ((Unit)⊕(Bool))):=
 cond (decide (v5<(a0.length:Int))) ((kV a0 v5).bind fun t19=>
(kV a1 v5).bind fun t23=>
 cond (!(t19==t23)) (some (.done (.inr (false)))) (some (.next (wi (v5+1))))) (some (.done (.inl (()))))
def zDT (a0:(List Str)) (a1:(List Str)):Option (Bool):=
 cond (!decide ((a0.length:Int)=(a1.length:Int))) (some false) ((zX (fun (x:Int)=>u6 a0 a1 x) 0).bind fun (y1:(Unit)⊕(Bool))=>
 y1.elim (fun y1=>some true) (fun y1=>some y1))
def zGX (a0:Norm) (a1:(List Mapping)) (a2:Property) (a3:(List Int)) (a4:(List Int)):Option (Int):=
(zFK a0 a1 a3 a4).bind fun t18=>
 cond (!t18) (some 0) ((zGW a2 a3).bind fun t22=>
(zGW a2 a4).bind fun t25=>
(zDT t22 t25).bind fun t28=>
(pv t28).bind fun b30=>
 cond (b30&&(decide ((t22.length:Int)≤1))) (some 1) ((pv (!t28)).bind fun b37=>
(pv (b37&&(decide ((t22.length:Int)=1)))).bind fun b42=>
 cond (b42&&(decide ((t25.length:Int)=1))) (some 2) (some 3)))
def zAJ (a0:Unicodetextlaw41_Data) (a1:Unicodetextlaw41_Pair):Option (Bool):=
(zH3 a0).bind fun t7=>
(pv (!t7)).bind fun b9=>
(gM (!b9) (zJY a1.P 30)).bind fun t12=>
(pv (b9 ||(!t12))).bind fun b15=>
(pv (b15 ||(decide (12<(a1.A.length:Int))))).bind fun b21=>
(pv (b21 ||(decide (12<(a1.B.length:Int))))).bind fun b27=>
(gM (!b27) (zFH a0 [a1.A,a1.B])).bind fun t34=>
 cond (b27 ||(!t34)) ((zD4).bind fun t37=>
 some t37) ((xQ a0.Norm a0.Map a1.P a1.A a1.B).bind fun t48=>
(zGX a0.Norm a0.Map a1.P a1.A a1.B).bind fun t60=>
(pv (decide (t48=t60))).bind fun b62=>
(gM b62 (xQ a0.Norm a0.Map a1.P a1.B a1.A)).bind fun t74=>
(pv (b62&&(decide (t48=t74)))).bind fun b77=>
(gM b77 (x9 a0.Norm a0.Map a1.A a1.B)).bind fun t88=>
(pv (b77&&((decide (0<t48))==t88))).bind fun b91=>
(gM b91 (zD4)).bind fun t92=>
 some (b91&&t92))
end
end Go.M


/- Plain counterparts of the program's functions, printed from its form. Conditions: none. -/
import Derived.Test.YtedjilemjidllaaGreatDoorLa4
set_option linter.unusedSimpArgs false
set_option linter.unusedVariables false
set_option linter.unnecessarySimpa false
namespace Go.M
abbrev LI:=List Int
structure bD where
 x0:Int
 x1:Int
 deriving DecidableEq,Inhabited
structure dB where
 x0:Int
 x1:Int
 x2:Int
 deriving DecidableEq,Inhabited
structure dc where
 x0:Int
 x1:Int
 x2:Int
 x3:Int
 deriving DecidableEq,Inhabited
structure Range where
 Lo:Int
 Hi:Int
 deriving DecidableEq,Inhabited
structure dA where
 x0:Range
 x1:Range
 x2:Range
 x3:Range
 deriving DecidableEq,Inhabited
structure dL where
 x0:Int
 x1:Int
 x2:Int
 x3:Int
 x4:Int
 x5:Int
 x6:Int
 x7:Int
 x8:Int
 deriving DecidableEq,Inhabited
structure Charset where
 bB:LI
 deriving DecidableEq,Inhabited
structure cC where
 cJ:Int
 bZ:Int
 b9:Int
 aV:Bool
 deriving DecidableEq,Inhabited
structure dH where
 bB:LI
 dJ:(List cC)
 deriving DecidableEq,Inhabited
structure dI where
 dM:Str
 Lo:Int
 Hi:Int
 deriving DecidableEq,Inhabited
structure bY where
 b5:(List dH)
 cG:(List dI)
 cW:Int
 b7:Int
 cL:Int
 deriving DecidableEq,Inhabited
structure bL where
 Lo:Int
 Hi:Int
 Value:Int
 deriving DecidableEq,Inhabited
structure bH where
 c:bY
 entries:(List (dL×(List cC)))
 cD:Int
 cY:(List bL)
 top:Int
 deriving DecidableEq,Inhabited
structure bR where
 deriving DecidableEq,Inhabited
structure bS where
 rest:Str
 done:Int
 deriving DecidableEq,Inhabited
structure bC where
 bK:Int
 Charset:Charset
 deriving DecidableEq,Inhabited
structure aJ where
 aD:bS
 aO:Bool
 aY:bC
 cO:bC
 bJ:Int
 deriving DecidableEq,Inhabited
structure cP where
 cK:Int
 At:Int
 deriving DecidableEq,Inhabited
structure aG where
 aN:Int
 To:LI
 bU:Str
 deriving DecidableEq,Inhabited
structure bT where
 aY:Int
 dK:Str
 deriving DecidableEq,Inhabited
structure Set where
 Ranges:(List Range)
 deriving DecidableEq,Inhabited
structure Norm where
 aI:(List bL)
 aA:(List aG)
 aL:Set
 deriving DecidableEq,Inhabited
structure aQ where
 norm:Norm
 deriving DecidableEq,Inhabited
structure bI where
 pending:LI
 deriving DecidableEq,Inhabited
structure aM where
 aD:bI
 norm:Norm
 form:Int
 aO:Bool
 deriving DecidableEq,Inhabited
structure cM where
 bO:Int
 aV:Int
 bX:Bool
 bQ:Bool
 deriving DecidableEq,Inhabited
structure dD where
 Code:Int
 bW:Int
 deriving DecidableEq,Inhabited
structure bV where
 norm:Norm
 form:Int
 cX:Bool
 cU:Set
 deriving DecidableEq,Inhabited
structure aE where
 aR:(List Set)
 aX:(List Set)
 bP:(List Set)
 Result:(List dD)
 deriving DecidableEq,Inhabited
structure aP where
 c9:Int
 code:Int
 deriving DecidableEq,Inhabited
structure aW where
 rules:(List aE)
 next:(List (aP×Int))
 cg:(List LI)
 deriving DecidableEq,Inhabited
structure bG where
 items:LI
 at_:Int
 deriving DecidableEq,Inhabited
structure aK where
 aD:bG
 rules:(List aE)
 before:Int
 ahead:Int
 aO:Bool
 deriving DecidableEq,Inhabited
structure cE where
 Norm:Norm
 cS:Int
 cV:(List aE)
 cN:Str
 dE:LI
 deriving DecidableEq,Inhabited
structure aZ where
 bytes:aJ
 b4:aM
 rules:aK
 out:LI
 deriving DecidableEq,Inhabited
def yDD (x:Range):Prop:=(-9223372036854775808<=x.Lo/\x.Lo<=9223372036854775807)/\(-9223372036854775808<=x.Hi/\x.Hi<=9223372036854775807)
def cZ (x:bL):Prop:=(-9223372036854775808<=x.Lo/\x.Lo<=9223372036854775807)/\(-9223372036854775808<=x.Hi/\x.Hi<=9223372036854775807)/\(-9223372036854775808<=x.Value/\x.Value<=9223372036854775807)
def zT5 (x:aG):Prop:=(-9223372036854775808<=x.aN/\x.aN<=9223372036854775807)/\(x.To.length<=9223372036854775807/\∀h∈x.To,(-9223372036854775808<=h/\h<=9223372036854775807))/\(x.bU.length<=9223372036854775807)
def z1M (x:Set):Prop:=(x.Ranges.length<=9223372036854775807/\∀h∈x.Ranges,(yDD h))
def uV (x:Norm):Prop:=(x.aI.length<=9223372036854775807/\∀h∈x.aI,(cZ h))/\(x.aA.length<=9223372036854775807/\∀h∈x.aA,(zT5 h))/\(z1M x.aL)
def yDE (x:dD):Prop:=(-9223372036854775808<=x.Code/\x.Code<=9223372036854775807)/\(-9223372036854775808<=x.bW/\x.bW<=9223372036854775807)
def zVC (x:aE):Prop:=(x.aR.length<=9223372036854775807/\∀h∈x.aR,(z1M h))/\(x.aX.length<=9223372036854775807/\∀h∈x.aX,(z1M h))/\(x.bP.length<=9223372036854775807/\∀h∈x.bP,(z1M h))/\(x.Result.length<=9223372036854775807/\∀h∈x.Result,(yDE h))
def zHW (x:cE):Prop:=(uV x.Norm)/\(-9223372036854775808<=x.cS/\x.cS<=9223372036854775807)/\(x.cV.length<=9223372036854775807/\∀h∈x.cV,(zVC h))/\(x.cN.length<=9223372036854775807)/\(x.dE.length<=9223372036854775807/\∀h∈x.dE,(0<=h/\h<256))
end Go.M
namespace Go.AV
open Go.M
def zJK (x:bT):Value:= .agg #[.int IntKind.i64 x.aY,.string ⟨x.dK.toArray⟩]
def yG (x:aP):Value:= .agg #[.int IntKind.i64 x.c9,.int IntKind.i64 x.code]
def zLP (x:dL):Value:= .agg #[.int IntKind.i64 x.x0,.int IntKind.i64 x.x1,.int IntKind.i64 x.x2,.int IntKind.i64 x.x3,.int IntKind.i64 x.x4,.int IntKind.i64 x.x5,.int IntKind.i64 x.x6,.int IntKind.i64 x.x7,.int IntKind.i64 x.x8]
def zEX (x:bD):Value:= .agg #[.int IntKind.i64 x.x0,.int IntKind.i64 x.x1]
def yAY:En bD:=⟨λx=> .agg [(di x.x0),(di x.x1)],2,λ_=>rfl⟩
def dG:En dB:=⟨λx=> .agg [(di x.x0),(di x.x1),(di x.x2)],3,λ_=>rfl⟩
def dr:En dc:=⟨λx=> .agg [(di x.x0),(di x.x1),(di x.x2),(di x.x3)],4,λ_=>rfl⟩
def aF:En Range:=⟨λx=> .agg [(di x.Lo),(di x.Hi)],2,λ_=>rfl⟩
def dF:En dA:=⟨λx=> .agg [(di x.x0.Lo),(di x.x0.Hi),(di x.x1.Lo),(di x.x1.Hi),(di x.x2.Lo),(di x.x2.Hi),(di x.x3.Lo),(di x.x3.Hi)],8,λ_=>rfl⟩
def bF:En cC:=⟨λx=> .agg [(di x.cJ),(di x.bZ),(di x.b9),(db x.aV)],4,λ_=>rfl⟩
def zH2:En dH:=⟨λx=> .agg [(zJ eI x.bB),(zJ bF x.dJ)],2,λ_=>rfl⟩
def zI5:En dI:=⟨λx=> .agg [(ds x.dM),(di x.Lo),(di x.Hi)],3,λ_=>rfl⟩
def b0:En bY:=⟨λx=> .agg [(zJ zH2 x.b5),(zJ zI5 x.cG),(di x.cW),(di x.b7),(di x.cL)],5,λ_=>rfl⟩
def aH:En bL:=⟨λx=> .agg [(di x.Lo),(di x.Hi),(di x.Value)],3,λ_=>rfl⟩
def cH:En bH:=⟨λx=> .agg [(zJ zH2 x.c.b5),(zJ zI5 x.c.cG),(di x.c.cW),(di x.c.b7),(di x.c.cL),(mpD zLP (eL bF) x.entries),(di x.cD),(zJ aH x.cY),(di x.top)],9,λ_=>rfl⟩
def eConvert_utf8Coder:En bR:=⟨λx=> .agg [],0,λ_=>rfl⟩
def bN:En bC:=⟨λx=> .agg [(di x.bK),(zJ eI x.Charset.bB)],2,λ_=>rfl⟩
def c8:En cP:=⟨λx=> .agg [(di x.cK),(di x.At)],2,λ_=>rfl⟩
def aB:En aG:=⟨λx=> .agg [(di x.aN),(zJ eI x.To),(ds x.bU)],3,λ_=>rfl⟩
def dC:En bT:=⟨λx=> .agg [(di x.aY),(ds x.dK)],2,λ_=>rfl⟩
def bA:En Set:=⟨λx=> .agg [(zJ aF x.Ranges)],1,λ_=>rfl⟩
def aU:En Norm:=⟨λx=> .agg [(zJ aH x.aI),(zJ aB x.aA),(zJ aF x.aL.Ranges)],3,λ_=>rfl⟩
def aS:En aQ:=⟨λx=> .agg [(zJ aH x.norm.aI),(zJ aB x.norm.aA),(zJ aF x.norm.aL.Ranges)],3,λ_=>rfl⟩
def cQ:En cM:=⟨λx=> .agg [(di x.bO),(di x.aV),(db x.bX),(db x.bQ)],4,λ_=>rfl⟩
def b6:En dD:=⟨λx=> .agg [(di x.Code),(di x.bW)],2,λ_=>rfl⟩
def bM:En bV:=⟨λx=> .agg [(zJ aH x.norm.aI),(zJ aB x.norm.aA),(zJ aF x.norm.aL.Ranges),(di x.form),(db x.cX),(zJ aF x.cU.Ranges)],6,λ_=>rfl⟩
def aC:En aE:=⟨λx=> .agg [(zJ bA x.aR),(zJ bA x.aX),(zJ bA x.bP),(zJ b6 x.Result)],4,λ_=>rfl⟩
def zVP:En aP:=⟨λx=> .agg [(di x.c9),(di x.code)],2,λ_=>rfl⟩
def aT:En cE:=⟨λx=> .agg [(zJ aH x.Norm.aI),(zJ aB x.Norm.aA),(zJ aF x.Norm.aL.Ranges),(di x.cS),(zJ aC x.cV),(ds x.cN),(zJ e8 x.dE)],7,λ_=>rfl⟩
end Go.AV
namespace Go.M
open Go.AV
noncomputable section
def zLF (a0:(List bL)):Option Bool:=
 some (decide ((a0.length:Int)<=16))
def zCW (a0:(List aG)) (k:Int):Option (Stp Int (Unit⊕Bool)):=
(pv (decide (k<(a0.length:Int)))).bind λH=>
 cond (H&&(decide (k<30))) ((yO a0 k).bind λD=>
(pv (decide (65<(D.To.length:Int)))).bind λh=>
(gM (!h) (yO a0 k)).bind λG=>
 cond (h ||(decide (40<(G.bU.length:Int)))) (some (.done (.inr (false)))) (some (.next (wi (k+1))))) (some (.done (.inl ())))
def zIN (a0:(List aG)):Option Bool:=
(zE (λ(x:Int)=>zCW a0 x) 0).bind λ(h:Unit⊕Bool)=>
 h.elim (λh=>some (decide ((a0.length:Int)<=20))) (λh=>some h)
def zGY (a0:Set):Option Bool:=
 some (decide ((a0.Ranges.length:Int)<=12))
def zIO (a0:Norm):Option Bool:=
(zLF a0.aI).bind λG=>
(pv G).bind λD=>
(gM D (zIN a0.aA)).bind λH=>
(pv (D&&H)).bind λh=>
(gM h (zGY a0.aL)).bind λk=>
 some (h&&k)
def zEF (a0:(List Set)) (h:Int):Option (Stp Int (Unit⊕Bool)):=
(pv (decide (h<(a0.length:Int)))).bind λG=>
 cond (G&&(decide (h<20))) ((yO a0 h).bind λk=>
(zGY k).bind λD=>
 cond (!D) (some (.done (.inr (false)))) (some (.next (wi (h+1))))) (some (.done (.inl ())))
def zCE (a0:(List Set)):Option Bool:=
(zE (λ(x:Int)=>zEF a0 x) 0).bind λ(h:Unit⊕Bool)=>
 h.elim (λh=>some (decide ((a0.length:Int)<=10))) (λh=>some h)
def zCX (a0:(List aE)) (D:Int):Option (Stp Int (Unit⊕Bool)):=
(pv (decide (D<(a0.length:Int)))).bind λb8=>
 cond (b8&&(decide (D<10))) ((yO a0 D).bind λH=>
(zCE H.aR).bind λK=>
(pv (!K)).bind λh=>
(gM (!h) (yO a0 D)).bind λO=>
(gM (!h) (zCE O.aX)).bind λT=>
(pv (h ||(!T))).bind λk=>
(gM (!k) (yO a0 D)).bind λZ=>
(gM (!k) (zCE Z.bP)).bind λaa=>
(pv (k ||(!aa))).bind λG=>
(gM (!G) (yO a0 D)).bind λab=>
 cond (G ||(decide (20<(ab.Result.length:Int)))) (some (.done (.inr (false)))) (some (.next (wi (D+1))))) (some (.done (.inl ())))
def zIP (a0:(List aE)):Option Bool:=
(zE (λ(x:Int)=>zCX a0 x) 0).bind λ(h:Unit⊕Bool)=>
 h.elim (λh=>some (decide ((a0.length:Int)<=6))) (λh=>some h)
def zAY (a0:Int):Option Bool:=
(pv (decide (0<=a0))).bind λh=>
 some (h&&(decide (a0<=1114111)))
def ref20_hangul:Option (List Range):=
 some [({Lo:=4352,Hi:=4370}:Range),({Lo:=4449,Hi:=4469}:Range),({Lo:=4520,Hi:=4546}:Range),({Lo:=44032,Hi:=55203}:Range)]
def zCY (a0:(List bL)) (h:Int):Option (Stp Int (Unit⊕Int)):=
 cond (decide (h<(a0.length:Int))) ((yO a0 h).bind λK=>
(zAY K.Lo).bind λO=>
(pv (!O)).bind λk=>
(gM (!k) (yO a0 h)).bind λT=>
(gM (!k) (zAY T.Hi)).bind λZ=>
(pv (k ||(!Z))).bind λD=>
(gM (!D) (yO a0 h)).bind λaa=>
(gM (!D) (yO a0 h)).bind λab=>
(pv (D ||(decide (ab.Hi<aa.Lo)))).bind λG=>
(gM (!G) (yO a0 h)).bind λac=>
(pv (G ||(decide (ac.Value<1)))).bind λH=>
(gM (!H) (yO a0 h)).bind λad=>
 cond (H ||(decide (254<ad.Value))) (some (.done (.inr (1)))) (some (.next (wi (h+1))))) (some (.done (.inl ())))
def zCZ (a0:(List bL)) (k:Int):Option (Stp Int (Unit⊕Int)):=
 cond (decide (k<(a0.length:Int))) ((yO a0 k).bind λH=>
(yO a0 (wi (k-1))).bind λK=>
(pv (decide (H.Lo<=K.Hi))).bind λh=>
(gM (!h) (yO a0 k)).bind λO=>
(gM (!h) (yO a0 (wi (k-1)))).bind λT=>
(pv (decide (O.Lo=(wi (T.Hi+1))))).bind λD=>
(gM (!h&&D) (yO a0 k)).bind λZ=>
(gM (!h&&D) (yO a0 (wi (k-1)))).bind λG=>
 cond (h ||(D&&(decide (Z.Value=G.Value)))) (some (.done (.inr (4)))) (some (.next (wi (k+1))))) (some (.done (.inl ())))
def uW (k:(List Range)) (a0:(List bL)) (T:Int) (O:Int):Option (Stp Int (Unit⊕Int)):=
 cond (decide (O<(k.length:Int))) ((yO a0 T).bind λD=>
(yO k O).bind λG=>
(pv (decide (D.Lo<=G.Hi))).bind λh=>
(gM h (yO k O)).bind λH=>
(gM h (yO a0 T)).bind λK=>
 cond (h&&(decide (H.Lo<=K.Hi))) (some (.done (.inr (11)))) (some (.next (wi (O+1))))) (some (.done (.inl ())))
def zC0 (a0:(List bL)) (h:(List Range)) (D:Int):Option (Stp Int (Unit⊕Int)):=
 cond (decide (D<(a0.length:Int))) ((zE (λ(x:Int)=>uW h a0 D x) 0).bind λ(k:Unit⊕Int)=>
 k.elim (λk=>some (.next (wi (D+1)))) (λk=>some (.done (.inr (k))))) (some (.done (.inl ())))
def zGZ (a0:(List bL)):Option Int:=
(zE (λ(x:Int)=>zCY a0 x) 0).bind λ(k:Unit⊕Int)=>
 k.elim (λk=>(zE (λ(x:Int)=>zCZ a0 x) 1).bind λ(D:Unit⊕Int)=>
 D.elim (λD=>ref20_hangul.bind λh=>
(zE (λ(x:Int)=>zC0 a0 h x) 0).bind λ(G:Unit⊕Int)=>
 G.elim (λG=>some 0) (λG=>some G)) (λD=>some D)) (λk=>some k)
def zC1 (a0:aG) (D:Int):Option (Stp Int (Unit⊕Bool)):=
 cond (decide (D<(a0.To.length:Int))) ((yO a0.To D).bind λh=>
(zAY h).bind λk=>
 cond (!k) (some (.done (.inr (false)))) (some (.next (wi (D+1))))) (some (.done (.inl ())))
def zIQ (a0:aG):Option Bool:=
(zE (λ(x:Int)=>zC1 a0 x) 0).bind λ(h:Unit⊕Bool)=>
 h.elim (λh=>(zAY a0.aN).bind λk=>
 some k) (λh=>some h)
def zIE (a0:Str) (T:Int):Option (Stp Int (Unit⊕Bool)):=
 cond (decide (T<(a0.length:Int))) ((zM0 a0 T).bind λh=>
(pv (decide (65<=h))).bind λk=>
(pv (k&&(decide (h<=90)))).bind λD=>
(pv (decide (97<=h))).bind λG=>
(pv (D ||(G&&(decide (h<=122))))).bind λH=>
(pv (decide (48<=h))).bind λK=>
(pv (H ||(K&&(decide (h<=57))))).bind λO=>
 cond (!(O ||(decide (h=95)))) (some (.done (.inr (false)))) (some (.next (wi (T+1))))) (some (.done (.inl ())))
def zJ8 (a0:Str):Option Bool:=
(zE (λ(x:Int)=>zIE a0 x) 0).bind λ(h:Unit⊕Bool)=>
 h.elim (λh=>(pv (decide (1<=(a0.length:Int)))).bind λk=>
 some (k&&(decide ((a0.length:Int)<=32)))) (λh=>some h)
def uX (O:Int) (a0:(List aG)) (k:Int):Option (Stp Int (Unit⊕Bool)):=
 cond (decide (k<O)) ((yO a0 O).bind λD=>
(yO a0 k).bind λG=>
(pv (decide (D.aN=G.aN))).bind λh=>
(gM h (yO a0 O)).bind λH=>
(gM h (yO a0 k)).bind λK=>
 cond (h&&(H.bU==K.bU)) (some (.done (.inr (true)))) (some (.next (wi (k+1))))) (some (.done (.inl ())))
def zC2 (a0:(List aG)) (k:Int):Option (Stp Int (Unit⊕Bool)):=
 cond (decide (k<(a0.length:Int))) ((zE (λ(x:Int)=>uX k a0 x) 0).bind λ(h:Unit⊕Bool)=>
 h.elim (λh=>some (.next (wi (k+1)))) (λh=>some (.done (.inr (h))))) (some (.done (.inl ())))
def zIR (a0:(List aG)):Option Bool:=
(zE (λ(x:Int)=>zC2 a0 x) 0).bind λ(h:Unit⊕Bool)=>
 h.elim (λh=>some false) (λh=>some h)
def zAD (a0:(List aG)) (D:Int):Option (Stp Int (Unit⊕Int)):=
 cond (decide (D<(a0.length:Int))) ((yO a0 D).bind λh=>
(zIQ h).bind λk=>
 cond (!k) (some (.done (.inr (1)))) (some (.next (wi (D+1))))) (some (.done (.inl ())))
def zAE (a0:(List aG)) (k:Int):Option (Stp Int (Unit⊕Int)):=
 cond (decide (k<(a0.length:Int))) ((yO a0 k).bind λh=>
 cond (decide (64<(h.To.length:Int))) (some (.done (.inr (2)))) (some (.next (wi (k+1))))) (some (.done (.inl ())))
def zAF (a0:(List aG)) (k:Int):Option (Stp Int (Unit⊕Int)):=
 cond (decide (k<(a0.length:Int))) ((yO a0 k).bind λD=>
(pv (!(D.bU== []))).bind λh=>
(gM h (yO a0 k)).bind λG=>
(gM h (zJ8 G.bU)).bind λH=>
 cond (h&&(!H)) (some (.done (.inr (6)))) (some (.next (wi (k+1))))) (some (.done (.inl ())))
def zEY (a0:(List aG)):Option Int:=
(zE (λ(x:Int)=>zAD a0 x) 0).bind λ(h:Unit⊕Int)=>
 h.elim (λh=>(zE (λ(x:Int)=>zAE a0 x) 0).bind λ(k:Unit⊕Int)=>
 k.elim (λk=>(zE (λ(x:Int)=>zAF a0 x) 0).bind λ(D:Unit⊕Int)=>
 D.elim (λD=>(zIR a0).bind λG=>
 cond G (some 5) (some 0)) (λD=>some D)) (λk=>some k)) (λh=>some h)
def zJL (a0:aG) (h:aG):Option Bool:=
(pv (decide (a0.aN<h.aN))).bind λk=>
(pv (decide (a0.aN=h.aN))).bind λD=>
 some (k ||(D&&(Op.bytesLess a0.bU h.bU)))
def zC3 (a0:(List aG)) (h:Int):Option (Stp Int (Unit⊕Int)):=
 cond (decide (h<(a0.length:Int))) ((yO a0 (wi (h-1))).bind λk=>
(yO a0 h).bind λD=>
(zJL k D).bind λG=>
 cond (!G) (some (.done (.inr (4)))) (some (.next (wi (h+1))))) (some (.done (.inl ())))
def zIS (a0:(List aG)):Option Int:=
(zEY a0).bind λk=>
 cond (!decide (k=0)) (some k) ((zE (λ(x:Int)=>zC3 a0 x) 1).bind λ(h:Unit⊕Int)=>
 h.elim (λh=>some 0) (λh=>some h))
def xC (a0:LI) (K:Int) (v6:Bool) (H:Int) (h:LI):Option (Stp (Bool×Int×LI) (Bool×LI)):=
 cond (decide (H<(a0.length:Int))) ((pv (!v6)).bind λG=>
(gM G (yO a0 H)).bind λO=>
(cond (G&&(decide (K<=O))) ((yO a0 H).bind λT=>
 cond (decide (K<T)) ((app h [K]).bind λk=>
 some (true,k)) (some (true,h))) (some (v6,h))).bind λ(y2:Bool×LI)=>
(yO a0 H).bind λZ=>
(app y2.2 [Z]).bind λD=>
 some (.next (y2.1,wi (H+1),D))) (some (.done (v6,h)))
def zEZ (a0:LI) (D:Int):Option LI:=
(zE (λ(x:Bool×Int×LI)=>xC a0 D x.1 x.2.1 x.2.2) (false,0,[])).bind λ(k:Bool×LI)=>
(cond (!k.1) ((app k.2 [D]).bind λh=>
 some h) (some k.2)).bind λ(G:LI)=>
 some G
def uO (G:Set) (Z:LI) (D:Int):Option (Stp (LI×Int) LI):=
 cond (decide (D<(G.Ranges.length:Int))) (((yO G.Ranges D).bind λk=>
(yO G.Ranges D).bind λh=>
(zAY k.Lo).bind λK=>
(cond K ((zEZ Z k.Lo).bind λO=>
 some O) (some Z)).bind λ(y3:LI)=>
(pv (decide (0<=h.Hi))).bind λH=>
 cond (H&&(decide (h.Hi<1114111))) ((zEZ y3 (wi (h.Hi+1))).bind λT=>
 some T) (some y3)).bind λ(y2:LI)=>
 some (.next (y2,wi (D+1)))) (some (.done Z))
def zH3 (a0:LI) (k:Set):Option LI:=
(zE (λ(x:LI×Int)=>uO k x.1 x.2) (a0,0)).bind λ(D:LI)=>
(zEZ D 0).bind λh=>
 some h
def zFG (a0:Set) (G:Int) (D:Int):Option (Stp Int (Unit⊕Bool)):=
 cond (decide (D<(a0.Ranges.length:Int))) ((zAY G).bind λH=>
(pv H).bind λh=>
(gM h (yO a0.Ranges D)).bind λK=>
(pv (h&&(decide (K.Lo<=G)))).bind λk=>
(gM k (yO a0.Ranges D)).bind λO=>
 cond (k&&(decide (G<=O.Hi))) (some (.done (.inr (true)))) (some (.next (wi (D+1))))) (some (.done (.inl ())))
def zH4 (a0:Set) (k:Int):Option Bool:=
(zE (λ(x:Int)=>zFG a0 k x) 0).bind λ(h:Unit⊕Bool)=>
 h.elim (λh=>some false) (λh=>some h)
def zLG (a0:Int) (h:Bool) (k:Bool):Option Bool:=
 cond (decide (a0=1)) ((pv h).bind λD=>
 some (D ||k)) (cond (decide (a0=2)) ((pv h).bind λG=>
 some (G&&k)) ((pv h).bind λH=>
 some (H&&(!k))))
def jR (D:LI) (a0:Set) (a1:Set) (a2:Int) (v9:Bool) (k:Int) (h:(List Range)):Option (Stp (Bool×Int×(List Range)) (List Range)):=
 cond (decide (k<(D.length:Int))) ((cond (decide ((wi (k+1))<(D.length:Int))) ((yO D (wi (k+1))).bind λZ=>
 some (wi (Z-1))) (some 1114111)).bind λ(y2:Int)=>
(yO D k).bind λaa=>
(zH4 a0 aa).bind λab=>
(yO D k).bind λac=>
(zH4 a1 ac).bind λad=>
(zLG a2 ab ad).bind λK=>
(pv K).bind λO=>
(cond (O&&v9) ((yO h (wi ((h.length:Int)-1))).bind λag=>
(zCV h (wi ((h.length:Int)-1)) ({ag with Hi:=y2})).bind λG=>
 some G) (some h)).bind λ(y3:(List Range))=>
(pv K).bind λT=>
(cond (T&&(!v9)) ((yO D k).bind λah=>
(app y3 [({Lo:=ah,Hi:=y2}:Range)]).bind λH=>
 some H) (some y3)).bind λ(y5:(List Range))=>
 some (.next (K,wi (k+1),y5))) (some (.done h))
def zIF (a0:Set) (D:Set) (G:Int):Option (Set):=
(zH3 [] a0).bind λh=>
(zH3 h D).bind λk=>
(zE (λ(x:Bool×Int×(List Range))=>jR k a0 D G x.1 x.2.1 x.2.2) (false,0,[])).bind λ(H:(List Range))=>
 some ({Ranges:=H}:Set)
def zJ9 (a0:(List Range)):Option (Set):=
(zIF ({Ranges:=a0}:Set) ({Ranges:=[]}:Set) 1).bind λh=>
 some h
def zEG (a0:Set) (G:Set) (h:Int):Option (Stp Int (Unit⊕Bool)):=
 cond (decide (h<(a0.Ranges.length:Int))) ((yO a0.Ranges h).bind λk=>
(yO G.Ranges h).bind λD=>
 cond (!decide (k=D)) (some (.done (.inr (false)))) (some (.next (wi (h+1))))) (some (.done (.inl ())))
def zKA (a0:Set) (k:Set):Option Bool:=
 cond (!decide ((a0.Ranges.length:Int)=(k.Ranges.length:Int))) (some false) ((zE (λ(x:Int)=>zEG a0 k x) 0).bind λ(h:Unit⊕Bool)=>
 h.elim (λh=>some true) (λh=>some h))
def zG0 (a0:Set):Option Bool:=
(zJ9 a0.Ranges).bind λh=>
(zKA a0 h).bind λk=>
 some k
def zEH (a0:(List aG)) (K:Int) (O:Bool) (D:Int):Option (Stp Int (Unit⊕Int)):=
 cond (decide (D<(a0.length:Int))) ((yO a0 D).bind λG=>
(pv (decide (G.aN=K))).bind λh=>
(pv O).bind λk=>
(gM (h&& !k) (yO a0 D)).bind λH=>
 cond (h&&(k ||(H.bU== []))) (some (.done (.inr (D)))) (some (.next (wi (D+1))))) (some (.done (.inl ())))
def zGM (a0:(List aG)) (k:Int) (D:Bool):Option Int:=
(zE (λ(x:Int)=>zEH a0 k D x) 0).bind λ(h:Unit⊕Int)=>
 h.elim (λh=>some (-1)) (λh=>some h)
def zH5 (a0:Int):Option Int:=
(pv (decide (4352<=a0))).bind λH=>
 cond (H&&(decide (a0<=4370))) (some 1) ((pv (decide (4449<=a0))).bind λh=>
 cond (h&&(decide (a0<=4469))) (some 2) ((pv (decide (4520<=a0))).bind λk=>
 cond (k&&(decide (a0<=4546))) (some 3) ((pv (decide (44032<=a0))).bind λD=>
 cond (D&&(decide (a0<=55203))) ((zKY (wi (a0-44032)) 28).bind λG=>
 cond (decide (G=0)) (some 4) (some 5)) (some 0))))
def vK (a0:(List bL)) (K:Int) (k:Int):Option (Stp Int (Unit⊕Int)):=
 cond (decide (k<(a0.length:Int))) ((yO a0 k).bind λD=>
(pv (decide (D.Lo<=K))).bind λh=>
(gM h (yO a0 k)).bind λG=>
 cond (h&&(decide (K<=G.Hi))) ((yO a0 k).bind λH=>
 some (.done (.inr (H.Value)))) (some (.next (wi (k+1))))) (some (.done (.inl ())))
def zIT (a0:(List bL)) (k:Int):Option Int:=
(zGZ a0).bind λD=>
 cond (!decide (D=0)) (some 0) ((zE (λ(x:Int)=>vK a0 k x) 0).bind λ(h:Unit⊕Int)=>
 h.elim (λh=>some 0) (λh=>some h))
def uP (a0:(List aG)) (v5:Int) (G:(List Bool)) (v6:Bool) (Z:Int):Option (Stp (Bool×Int) Bool):=
(yO a0 v5).bind λH=>
 cond (decide (Z<(H.To.length:Int))) ((yO a0 v5).bind λK=>
(yO K.To Z).bind λO=>
(zGM a0 O true).bind λD=>
(pv v6).bind λh=>
(pv (decide (D<0))).bind λk=>
(gM (h&& !k) (yO G D)).bind λT=>
 some (.next ((h&&(k ||T)),wi (Z+1)))) (some (.done v6))
def zCF (a0:(List aG)) (D:Int) (h:(List Bool)):Option (Stp (Int×(List Bool)) (List Bool)):=
 cond (decide (D<(a0.length:Int))) ((zE (λ(x:Bool×Int)=>uP a0 D h x.1 x.2) (true,0)).bind λ(H:Bool)=>
(yO h D).bind λG=>
(zCV h D H).bind λk=>
 some (.next (wi (D+1),k))) (some (.done h))
def zCG (a0:(List aG)) (k:Int) (h:(List Bool)):Option (Stp (Int×(List Bool)) (List Bool)):=
 cond (decide (k<(a0.length:Int))) ((zE (λ(x:Int×(List Bool))=>zCF a0 x.1 x.2) (0,h)).bind λ(D:(List Bool))=>
 some (.next (wi (k+1),D))) (some (.done h))
def zKB (a0:(List aG)):Option (List Bool):=
(mkM false (a0.length:Int)).bind λh=>
(zE (λ(x:Int×(List Bool))=>zCG a0 x.1 x.2) (0,h)).bind λ(k:(List Bool))=>
 some k
def zD2 (a0:Int):Option LI:=
(zH5 a0).bind λT=>
 cond (decide (T<4)) (some [a0]) ((zR7 wi (wi (a0-44032)) 28).bind λG=>
(zR7 wi G 21).bind λk=>
(zR7 wi (wi (a0-44032)) 28).bind λH=>
(zKY H 21).bind λD=>
(zKY (wi (a0-44032)) 28).bind λK=>
(cond (decide (0<K)) ((zKY (wi (a0-44032)) 28).bind λO=>
(app [wi (4352+k),wi (4449+D)] [wi ((wi (4520+O))-1)]).bind λh=>
 some h) (some [wi (4352+k),wi (4449+D)])).bind λ(Z:LI)=>
 some Z)
def wM (a0:(List aG)) (v7:Int) (a1:Bool) (D:LI) (v8:Int) (k:Int):Option (Stp (Int×Int) Int):=
(yO a0 v7).bind λG=>
 cond (decide (k<(G.To.length:Int))) (((yO a0 v7).bind λH=>
(yO H.To k).bind λK=>
(zGM a0 K a1).bind λh=>
 cond (decide (0<=h)) ((yO D h).bind λO=>
 some (wi (v8+O))) ((yO a0 v7).bind λT=>
(yO T.To k).bind λZ=>
(zD2 Z).bind λaa=>
 some (wi (v8+(aa.length:Int))))).bind λ(y5:Int)=>
 some (.next (y5,wi (k+1)))) (some (.done v8))
def uB (a0:(List aG)) (O:Bool) (D:Int) (k:LI):Option (Stp (Int×LI) LI):=
 cond (decide (D<(a0.length:Int))) (((zE (λ(x:Int×Int)=>wM a0 D O k x.1 x.2) (0,0)).bind λ(y4:Int)=>
(yO k D).bind λT=>
(zCV k D (min (max y4 1) 65)).bind λh=>
(yO a0 D).bind λK=>
(pv (!(K.bU== []))).bind λH=>
 cond (H&&(!O)) ((yO h D).bind λZ=>
(zCV h D 1).bind λG=>
 some G) (some h)).bind λ(y3:LI)=>
 some (.next (wi (D+1),y3))) (some (.done k))
def uC (a0:(List aG)) (D:Bool) (k:Int) (h:LI):Option (Stp (Int×LI) LI):=
 cond (decide (k<(a0.length:Int))) ((zE (λ(x:Int×LI)=>uB a0 D x.1 x.2) (0,h)).bind λ(G:LI)=>
 some (.next (wi (k+1),G))) (some (.done h))
def zEI (a0:(List aG)) (k:Bool):Option LI:=
(mkM 0 (a0.length:Int)).bind λh=>
(zE (λ(x:Int×LI)=>uC a0 k x.1 x.2) (0,h)).bind λ(D:LI)=>
 some D
def zC4 (a0:Norm) (h:Int):Option (Stp Int (Unit⊕Int)):=
 cond (decide (h<(a0.aA.length:Int))) ((yO a0.aA h).bind λk=>
(zGM a0.aA k.aN true).bind λD=>
 cond (decide (D<h)) (some (.done (.inr (5)))) (some (.next (wi (h+1))))) (some (.done (.inl ())))
def zC5 (a0:Norm) (D:Int):Option (Stp Int (Unit⊕Int)):=
 cond (decide (D<(a0.aA.length:Int))) ((yO a0.aA D).bind λG=>
(pv (G.bU== [])).bind λh=>
(gM h (yO a0.aA D)).bind λH=>
(pv (h&&(!decide ((H.To.length:Int)=1)))).bind λk=>
(gM k (yO a0.aA D)).bind λK=>
 cond (k&&(!decide ((K.To.length:Int)=2))) (some (.done (.inr (8)))) (some (.next (wi (D+1))))) (some (.done (.inl ())))
def zC6 (a0:Norm) (H:Int):Option (Stp Int (Unit⊕Int)):=
 cond (decide (H<(a0.aA.length:Int))) ((yO a0.aA H).bind λK=>
(zH5 K.aN).bind λO=>
(pv (!decide (O=0))).bind λh=>
(gM (!h) (yO a0.aA H)).bind λT=>
(pv (!(T.bU== []))).bind λk=>
(gM (!h&&k) (yO a0.aA H)).bind λD=>
(gM (!h&&k) (zIT a0.aI D.aN)).bind λG=>
 cond (h ||(k&&(!decide (G=0)))) (some (.done (.inr (11)))) (some (.next (wi (H+1))))) (some (.done (.inl ())))
def zC7 (a0:Norm) (k:(List Bool)) (h:Int):Option (Stp Int (Unit⊕Int)):=
 cond (decide (h<(a0.aA.length:Int))) ((yO k h).bind λD=>
 cond (!D) (some (.done (.inr (12)))) (some (.next (wi (h+1))))) (some (.done (.inl ())))
def zC8 (a0:Norm) (D:LI) (G:LI) (h:Int):Option (Stp Int (Unit⊕Int)):=
 cond (decide (h<(a0.aA.length:Int))) ((yO D h).bind λH=>
(pv (decide (64<H))).bind λk=>
(gM (!k) (yO G h)).bind λK=>
 cond (k ||(decide (64<K))) (some (.done (.inr (13)))) (some (.next (wi (h+1))))) (some (.done (.inl ())))
def zIU (a0:Norm):Option Int:=
(zGZ a0.aI).bind λG=>
 cond (!decide (G=0)) (some G) ((zIS a0.aA).bind λH=>
 cond (!decide (H=0)) (some H) ((zG0 a0.aL).bind λab=>
 cond (!ab) (some 11) ((zE (λ(x:Int)=>zC4 a0 x) 0).bind λ(K:Unit⊕Int)=>
 K.elim (λK=>(zE (λ(x:Int)=>zC5 a0 x) 0).bind λ(O:Unit⊕Int)=>
 O.elim (λO=>(zE (λ(x:Int)=>zC6 a0 x) 0).bind λ(T:Unit⊕Int)=>
 T.elim (λT=>(zKB a0.aA).bind λh=>
(zE (λ(x:Int)=>zC7 a0 h x) 0).bind λ(Z:Unit⊕Int)=>
 Z.elim (λZ=>(zEI a0.aA false).bind λk=>
(zEI a0.aA true).bind λD=>
(zE (λ(x:Int)=>zC8 a0 k D x) 0).bind λ(y5:Unit⊕Int)=>
 y5.elim (λy5=>some 0) (λy5=>some y5)) (λZ=>some Z)) (λT=>some T)) (λO=>some O)) (λK=>some K))))
def zC9 (a0:(List Set)) (k:Int):Option (Stp Int (Unit⊕Bool)):=
 cond (decide (k<(a0.length:Int))) ((yO a0 k).bind λD=>
(zG0 D).bind λG=>
(pv (!G)).bind λh=>
(gM (!h) (yO a0 k)).bind λH=>
 cond (h ||(decide ((H.Ranges.length:Int)=0))) (some (.done (.inr (false)))) (some (.next (wi (k+1))))) (some (.done (.inl ())))
def zE0 (a0:(List Set)):Option Bool:=
(zE (λ(x:Int)=>zC9 a0 x) 0).bind λ(h:Unit⊕Bool)=>
 h.elim (λh=>some true) (λh=>some h)
def zFH (a0:aE) (O:Int):Option (Stp Int (Unit⊕Int)):=
 cond (decide (O<(a0.Result.length:Int))) ((yO a0.Result O).bind λh=>
(pv (decide (h.bW=0))).bind λk=>
(gM k (zAY h.Code)).bind λK=>
(pv (decide (h.Code=0))).bind λD=>
(pv (D&&(decide (1<=h.bW)))).bind λG=>
(pv (!(k&&K))).bind λH=>
 cond (H&&(!(G&&(decide (h.bW<=(a0.aX.length:Int)))))) (some (.done (.inr (1)))) (some (.next (wi (O+1))))) (some (.done (.inl ())))
def zJR (a0:aE):Option Int:=
(pv (decide ((a0.aX.length:Int)<1))).bind λG=>
(pv (G ||(decide (8<(a0.aX.length:Int))))).bind λH=>
(pv (H ||(decide (8<(a0.aR.length:Int))))).bind λK=>
(pv (K ||(decide (8<(a0.bP.length:Int))))).bind λO=>
 cond (O ||(decide (16<(a0.Result.length:Int)))) (some 2) ((zE0 a0.aR).bind λT=>
(pv (!T)).bind λh=>
(gM (!h) (zE0 a0.aX)).bind λZ=>
(pv (h ||(!Z))).bind λk=>
(gM (!k) (zE0 a0.bP)).bind λaa=>
 cond (k ||(!aa)) (some 11) ((zE (λ(x:Int)=>zFH a0 x) 0).bind λ(D:Unit⊕Int)=>
 D.elim (λD=>some 0) (λD=>some D)))
def zDA (a0:(List aE)) (D:Int):Option (Stp Int (Unit⊕Int)):=
 cond (decide (D<(a0.length:Int))) ((yO a0 D).bind λk=>
(zJR k).bind λh=>
 cond (!decide (h=0)) (some (.done (.inr (h)))) (some (.next (wi (D+1))))) (some (.done (.inl ())))
def zIV (a0:(List aE)):Option Int:=
 cond (decide (200<(a0.length:Int))) (some 2) ((zE (λ(x:Int)=>zDA a0 x) 0).bind λ(h:Unit⊕Int)=>
 h.elim (λh=>some 0) (λh=>some h))
def zAG (a0:(List bL)) (k:Int):Option (Stp Int (Unit⊕Int)):=
 cond (decide (k<(a0.length:Int))) ((yO a0 k).bind λh=>
(pv (decide (h.Lo<0))).bind λD=>
(pv (D ||(decide (1114111<h.Hi)))).bind λG=>
(pv (G ||(decide (h.Hi<h.Lo)))).bind λH=>
(pv (H ||(decide (h.Value<1)))).bind λK=>
 cond (K ||(decide (254<h.Value))) (some (.done (.inr (1)))) (some (.next (wi (k+1))))) (some (.done (.inl ())))
def zAH (a0:(List bL)) (D:Int):Option (Stp Int (Unit⊕Int)):=
 cond (decide (D<(a0.length:Int))) ((yO a0 (wi (D-1))).bind λh=>
(yO a0 D).bind λk=>
(pv (decide (k.Lo<=h.Hi))).bind λG=>
(pv (decide (k.Lo=(wi (h.Hi+1))))).bind λH=>
 cond (G ||(H&&(decide (k.Value=h.Value)))) (some (.done (.inr (4)))) (some (.next (wi (D+1))))) (some (.done (.inl ())))
def wS (h:dA) (D:bL) (k:Int):Option (Stp Int (Unit⊕Int)):=
 cond (decide (k<4)) ((yO [h.x0,h.x1,h.x2,h.x3] k).bind λG=>
(pv (decide (D.Lo<=G.Hi))).bind λH=>
 cond (H&&(decide (G.Lo<=D.Hi))) (some (.done (.inr (11)))) (some (.next (wi (k+1))))) (some (.done (.inl ())))
def zAI (a0:(List bL)) (h:Int):Option (Stp Int (Unit⊕Int)):=
 cond (decide (h<(a0.length:Int))) ((yO a0 h).bind λD=>
(pv ({x0:=({Lo:=4352,Hi:=4370}:Range),x1:=({Lo:=4449,Hi:=4469}:Range),x2:=({Lo:=4520,Hi:=4546}:Range),x3:=({Lo:=44032,Hi:=55203}:Range)}:dA)).bind λG=>
(zE (λ(x:Int)=>wS G D x) 0).bind λ(k:Unit⊕Int)=>
 k.elim (λk=>some (.next (wi (h+1)))) (λk=>some (.done (.inr (k))))) (some (.done (.inl ())))
def zDB (a0:(List bL)):Option Int:=
(zE (λ(x:Int)=>zAG a0 x) 0).bind λ(h:Unit⊕Int)=>
 h.elim (λh=>(zE (λ(x:Int)=>zAH a0 x) 1).bind λ(k:Unit⊕Int)=>
 k.elim (λk=>(zE (λ(x:Int)=>zAI a0 x) 0).bind λ(D:Unit⊕Int)=>
 D.elim (λD=>some 0) (λD=>some D)) (λk=>some k)) (λh=>some h)
def wI (a0:Int):Option Bool:=
(pv (decide (0<=a0))).bind λh=>
 some (h&&(decide (a0<=1114111)))
def zAJ (a0:Str) (k:Int):Option (Stp Int (Unit⊕Bool)):=
 cond (decide (k<(a0.length:Int))) ((zM0 a0 k).bind λh=>
(pv (decide (65<=h))).bind λD=>
(pv (D&&(decide (h<=90)))).bind λG=>
(pv (decide (97<=h))).bind λH=>
(pv (!(G ||(H&&(decide (h<=122)))))).bind λK=>
(pv (decide (48<=h))).bind λO=>
(pv (K&&(!(O&&(decide (h<=57)))))).bind λT=>
 cond (T&&(!decide (h=95))) (some (.done (.inr (false)))) (some (.next (wi (k+1))))) (some (.done (.inl ())))
def zE1 (a0:Str):Option Bool:=
(pv (a0== [])).bind λk=>
 cond (k ||(decide (32<(a0.length:Int)))) (some false) ((zE (λ(x:Int)=>zAJ a0 x) 0).bind λ(h:Unit⊕Bool)=>
 h.elim (λh=>some true) (λh=>some h))
def zA1 (k:aG) (h:Int):Option (Stp Int (Unit⊕Int)):=
 cond (decide (h<(k.To.length:Int))) ((yO k.To h).bind λD=>
(wI D).bind λG=>
 cond (!G) (some (.done (.inr (1)))) (some (.next (wi (h+1))))) (some (.done (.inl ())))
def zA2 (a0:(List aG)) (h:Int):Option (Stp Int (Unit⊕Int)):=
 cond (decide (h<(a0.length:Int))) ((yO a0 h).bind λk=>
(wI k.aN).bind λG=>
 cond (!G) (some (.done (.inr (1)))) ((zE (λ(x:Int)=>zA1 k x) 0).bind λ(D:Unit⊕Int)=>
 D.elim (λD=>some (.next (wi (h+1)))) (λD=>some (.done (.inr (D)))))) (some (.done (.inl ())))
def zA3 (a0:(List aG)) (h:Int):Option (Stp Int (Unit⊕Int)):=
 cond (decide (h<(a0.length:Int))) ((yO a0 h).bind λk=>
 cond (decide (64<(k.To.length:Int))) (some (.done (.inr (2)))) (some (.next (wi (h+1))))) (some (.done (.inl ())))
def zA4 (a0:(List aG)) (h:Int):Option (Stp Int (Unit⊕Int)):=
 cond (decide (h<(a0.length:Int))) ((yO a0 h).bind λD=>
(pv (!(D.bU== []))).bind λk=>
(gM k (zE1 D.bU)).bind λG=>
 cond (k&&(!G)) (some (.done (.inr (6)))) (some (.next (wi (h+1))))) (some (.done (.inl ())))
def zFW (a0:(List aG)):Option Int:=
(zE (λ(x:Int)=>zA2 a0 x) 0).bind λ(h:Unit⊕Int)=>
 h.elim (λh=>(zE (λ(x:Int)=>zA3 a0 x) 0).bind λ(k:Unit⊕Int)=>
 k.elim (λk=>(zE (λ(x:Int)=>zA4 a0 x) 0).bind λ(D:Unit⊕Int)=>
 D.elim (λD=>some 0) (λD=>some D)) (λk=>some k)) (λh=>some h)
def zFX (a0:Int):Option Bool:=
 some (!decide (a0=a0))
def cmp_Compare_int (a0:Int) (k:Int):Option Int:=
(zFX a0).bind λD=>
(zFX k).bind λh=>
 cond D (cond h (some 0) (some (-1))) (cond h (some 1) (cond (decide (a0<k)) (some (-1)) (cond (decide (k<a0)) (some 1) (some 0))))
def zDC (a0:Str):Option Bool:=
 some (!(a0==a0))
def zBA (a0:Str) (k:Str):Option Int:=
(zDC a0).bind λD=>
(zDC k).bind λh=>
 cond D (cond h (some 0) (some (-1))) (cond h (some 1) (cond (Op.bytesLess a0 k) (some (-1)) (cond (!Op.bytesLess a0 k&& !(a0==k)) (some 1) (some 0))))
def zEJ (a0:LI) (k:Int):Option (Stp Int (Unit⊕Int)):=
 cond (decide (k<(a0.length:Int))) ((yO a0 k).bind λh=>
 cond (!decide (h=0)) (some (.done (.inr (h)))) (some (.next (wi (k+1))))) (some (.done (.inl ())))
def zKC (a0:LI):Option Int:=
(zE (λ(x:Int)=>zEJ a0 x) 0).bind λ(h:Unit⊕Int)=>
 h.elim (λh=>some 0) (λh=>some h)
def zD3 (a0:aG) (D:aG):Option Int:=
(cmp_Compare_int a0.aN D.aN).bind λG=>
(zBA a0.bU D.bU).bind λh=>
(zKC [G,h]).bind λk=>
 some k
def zFY (a0:aG):Option (bT):=
 some ({aY:=a0.aN,dK:=a0.bU}:bT)
def uD (a0:(List aG)) (H:Bool) (h:Int):Option (Stp (Bool×Int) Bool):=
 cond (decide (h<(a0.length:Int))) (((yO a0 (wi (h-1))).bind λk=>
(yO a0 h).bind λD=>
(zD3 k D).bind λG=>
 cond (decide (0<=G)) (some false) (some H)).bind λ(K:Bool)=>
 some (.next (K,wi (h+1)))) (some (.done H))
def uE (a0:(List aG)) (h:Int) (k:(List (bT×Bool))):Option (Stp (Int×(List (bT×Bool))) (Unit⊕Int)):=
 cond (decide (h<(a0.length:Int))) ((yO a0 h).bind λD=>
(zFY D).bind λG=>
 cond (wR k G false) (some (.done (.inr (5)))) ((zFY D).bind λH=>
 some (.next (wi (h+1),vS k H true)))) (some (.done (.inl ())))
def zFZ (a0:(List aG)):Option Int:=
(zFW a0).bind λh=>
 cond (!decide (h=0)) (some h) ((zE (λ(x:Bool×Int)=>uD a0 x.1 x.2) (true,1)).bind λ(D:Bool)=>
 cond D (some 0) ((zE (λ(x:Int×(List (bT×Bool)))=>uE a0 x.1 x.2) (0,[])).bind λ(k:Unit⊕Int)=>
 k.elim (λk=>some 4) (λk=>some k)))
def z3J (a b:Range):Bool:=decide (a.Lo<b.Lo) ||(decide (a.Lo=b.Lo)&&decide (a.Hi<b.Hi))
def zXU (l:List Range):Option (List Range):=yKR z3J l
def zCH (a0:(List Range)) (G:Int) (h:(List Range)):Option (Stp (Int×(List Range)) (List Range)):=
 cond (decide (G<(a0.length:Int))) (((yO a0 G).bind λD=>
 cond (decide ((max D.Lo 0)<=(min D.Hi 1114111))) ((app h [({Lo:=max D.Lo 0,Hi:=min D.Hi 1114111}:Range)]).bind λk=>
 some k) (some h)).bind λ(H:(List Range))=>
 some (.next (wi (G+1),H))) (some (.done h))
def zCI (k:(List Range)) (K:Int) (h:(List Range)):Option (Stp (Int×(List Range)) (List Range)):=
 cond (decide (K<(k.length:Int))) (((yO k K).bind λH=>
(pv (decide (0<(h.length:Int)))).bind λO=>
(gM O (yO h (wi ((h.length:Int)-1)))).bind λT=>
 cond (O&&(decide (H.Lo<=(wi (T.Hi+1))))) ((yO h (wi ((h.length:Int)-1))).bind λZ=>
(yO h (wi ((h.length:Int)-1))).bind λaa=>
(zCV h (wi ((h.length:Int)-1)) ({aa with Hi:=max Z.Hi H.Hi})).bind λD=>
 some D) ((app h [H]).bind λG=>
 some G)).bind λ(y6:(List Range))=>
 some (.next (wi (K+1),y6))) (some (.done h))
def zGN (a0:(List Range)):Option (Set):=
(zE (λ(x:Int×(List Range))=>zCH a0 x.1 x.2) (0,[])).bind λ(k:(List Range))=>
(zXU k).bind λh=>
(zE (λ(x:Int×(List Range))=>zCI h x.1 x.2) (0,[])).bind λ(D:(List Range))=>
 some ({Ranges:=D}:Set)
def zDD (G:Set) (a0:Set) (h:Int):Option (Stp Int (Unit⊕Bool)):=
 cond (decide (h<(G.Ranges.length:Int))) ((yO G.Ranges h).bind λk=>
(yO a0.Ranges h).bind λD=>
 cond (!decide (k=D)) (some (.done (.inr (false)))) (some (.next (wi (h+1))))) (some (.done (.inl ())))
def zG1 (a0:Set):Option Bool:=
(zGN a0.Ranges).bind λk=>
 cond (!decide ((k.Ranges.length:Int)=(a0.Ranges.length:Int))) (some false) ((zE (λ(x:Int)=>zDD k a0 x) 0).bind λ(h:Unit⊕Bool)=>
 h.elim (λh=>some true) (λh=>some h))
def zB6 (a0:Int):Option Int:=
(pv (decide (4352<=a0))).bind λH=>
 cond (H&&(decide (a0<4371))) (some 1) ((pv (decide (4449<=a0))).bind λh=>
 cond (h&&(decide (a0<4470))) (some 2) ((pv (decide (4520<=a0))).bind λk=>
 cond (k&&(decide (a0<4547))) (some 3) ((pv (decide (a0<44032))).bind λD=>
 cond (D ||(decide (55204<=a0))) (some 0) ((zKY (wi (a0-44032)) 28).bind λG=>
 cond (decide (G=0)) (some 4) (some 5)))))
def zAQ (a0:(List bL)):Option (List bL):=
(zDB a0).bind λh=>
 cond (!decide (h=0)) (some []) (some a0)
def yB (a0:(List bL)) (O:bL->Int->Option Int) (K:Int) (k:Int) (h:Int):Option (Stp (Int×Int) Int):=
 cond (decide (k<h)) (((yO a0 (wi ((wu (wi (k+h)))/2 ^ 1))).bind λD=>
(O D K).bind λG=>
 cond (decide (G<0)) (some (wi ((wi ((wu (wi (k+h)))/2 ^ 1))+1),h)) (some (k,wi ((wu (wi (k+h)))/2 ^ 1)))).bind λ(H:Int×Int)=>
 some (.next (H.1,H.2))) (some (.done k))
def kZ (a0:(List bL)) (H:Int) (K:bL->Int->Option Int):Option (Int×Bool):=
(zE (λ(x:Int×Int)=>yB a0 K H x.1 x.2) (0,(a0.length:Int))).bind λ(G:Int)=>
(pv (decide (G<(a0.length:Int)))).bind λh=>
(gM h (yO a0 G)).bind λk=>
(gM h (K k H)).bind λD=>
 some (G,(h&&(decide (D=0))))
def zA5 (a0:bL) (h:Int):Option Int:=
 cond (decide (a0.Hi<h)) (some (-1)) (cond (decide (h<a0.Lo)) (some 1) (some 0))
def kX (a0:(List bL)) (D:Int):Option Int:=
(kZ a0 D (λx0 x1=>zA5 x0 x1)).bind λh=>
 cond (!h.2) (some 0) ((yO a0 h.1).bind λk=>
 some k.Value)
def kP (a1:LI) (a2:(List bL)) (items:(List (Range))) (K:Int) (k:Int) (h:Nat):Option (Stp (Int×Int×Nat) ((Int×Nat)⊕Nat)):=
 cond (decide (k<(a1.length:Int))) (((yO a1 k).bind λZ=>
(kX a2 Z).bind λH=>
((pv (!(decide (H=0)))).bind λO=>
 cond (O&&(decide (K<0))) (some (.inl (k,h))) ((pv (decide (H=0))).bind λT=>
 cond (T&&(decide (0<=K))) ((yM items h ({Lo:=K,Hi:=k}:Range)).bind λac=>
 cond (!true) (some (.inr (h+1))) (some (.inl ((-1),h+1)))) (some (.inl (K,h))))).bind λ(G:(Int×Nat)⊕Nat)=>
 G.elim (λG=>some (.inl (G.1,G.2))) (λG=>some (.inr (G)))).bind λ(D:(Int×Nat)⊕Nat)=>
 D.elim (λD=>some (.next (D.1,wi (k+1),D.2))) (λD=>some (.done (.inr (D))))) (some (.done (.inl (K,h))))
def zBT (items:List Range) (k:LI) (D:(List bL)):Option Unit:=
(zE (λ(x:Int×Int×Nat)=>kP k D items x.1 x.2.1 x.2.2) ((-1),0,0)).bind λ(h:(Int×Nat)⊕Nat)=>
 h.elim (λh=>cond (decide (0<=h.1)) ((yM items h.2 ({Lo:=h.1,Hi:=(k.length:Int)}:Range)).bind λG=>
 zZL items (h.2+1)) (zZL items h.2)) (λh=>zZL items h)
def wB (st:Int->Bool):LI->Int->Int->List Range
 | [],i,s=>if 0<=s then [{Lo:=s,Hi:=i}] else []
 | c::r,i,s=>if !st c&&decide (s<0) then wB st r (i+1) i else if st c&&decide (0<=s) then {Lo:=s,Hi:=i}::wB st r (i+1) (-1) else wB st r (i+1) s
def z7H {h:Type} (l:List h):Option (List h):=if l.length<=LIM then some l else none
def zF0 (a0:List bL) (h:LI):Option (List Range):=(zAQ a0).bind λk=>(zBT (wB (λc=>kX k c==some 0) h 0 (-1)) h k).bind λ_=>z7H (wB (λc=>kX k c==some 0) h 0 (-1))
def zJM (a0:Int):Option (dB):=
(zB6 a0).bind λO=>
 cond (decide (O<4)) (some ({x0:=0,x1:=0,x2:=0}:dB)) ((zR7 wi (wi (a0-44032)) 28).bind λh=>
(zR7 wi h 21).bind λk=>
(zR7 wi (wi (a0-44032)) 28).bind λD=>
(zKY D 21).bind λG=>
(zKY (wi (a0-44032)) 28).bind λH=>
(cond (decide (0<H)) ((zKY (wi (a0-44032)) 28).bind λK=>
 some (wi ((wi (4520+K))-1))) (some (0))).bind λ(T:Int)=>
 some ({x0:=(wi (4352+k)),x1:=(wi (4449+G)),x2:=T}:dB))
def zDE (a0:Int):Option LI:=
(zJM a0).bind λh=>
 cond (decide (h=({x0:=0,x1:=0,x2:=0}:dB))) (some [a0]) (cond (decide (h.x2=0)) (some [h.x0,h.x1]) (some [h.x0,h.x1,h.x2]))
def z2 (a0:(List aG)) (O:aG->Int->Option Int) (K:Int) (k:Int) (h:Int):Option (Stp (Int×Int) Int):=
 cond (decide (k<h)) (((yO a0 (wi ((wu (wi (k+h)))/2 ^ 1))).bind λD=>
(O D K).bind λG=>
 cond (decide (G<0)) (some (wi ((wi ((wu (wi (k+h)))/2 ^ 1))+1),h)) (some (k,wi ((wu (wi (k+h)))/2 ^ 1)))).bind λ(H:Int×Int)=>
 some (.next (H.1,H.2))) (some (.done k))
def yI (a0:(List aG)) (H:Int) (K:aG->Int->Option Int):Option (Int×Bool):=
(zE (λ(x:Int×Int)=>z2 a0 K H x.1 x.2) (0,(a0.length:Int))).bind λ(G:Int)=>
(pv (decide (G<(a0.length:Int)))).bind λh=>
(gM h (yO a0 G)).bind λk=>
(gM h (K k H)).bind λD=>
 some (G,(h&&(decide (D=0))))
def uF (a0:aG) (h:Int):Option Int:=
(cmp_Compare_int a0.aN h).bind λk=>
 some k
def uY (a0:Norm) (D:Int) (Z:Bool):Option (LI×Bool):=
(zB6 D).bind λH=>
 cond (decide (4<=H)) ((zDE D).bind λK=>
 some (K,true)) ((yI a0.aA D (λx0 x1=>uF x0 x1)).bind λh=>
(pv (!h.2)).bind λk=>
(gM (!k) (yO a0.aA h.1)).bind λO=>
(pv (!(O.bU== []))).bind λG=>
 cond (k ||(G&&(!Z))) (some ([],false)) ((yO a0.aA h.1).bind λT=>
 some (T.To,true)))
def wN (K:LI×Bool) (T:(Int->Norm->(List (Int×Int))->Bool->Bool->Option (Int×Bool×Bool×(List (Int×Int))))) (a1:Norm) (O:Int) (H:Int) (h:Bool) (k:Bool) (D:(List (Int×Int))):Option (Stp (Int×Int×Bool×Bool×(List (Int×Int))) (Int×Bool×Bool×(List (Int×Int)))):=
 cond (decide (H<(K.1.length:Int))) ((yO K.1 H).bind λZ=>
(T Z a1 D h k).bind λG=>
 some (.next (min (wi (O+G.1)) 65,wi (H+1),G.2.1,G.2.2.1,G.2.2.2))) (some (.done (O,h,k,D)))
def j8 (Z:Int->Norm->(List (Int×Int))->Bool->Bool->Option (Int×Bool×Bool×(List (Int×Int)))) (a0:Int) (a1:Norm) (k:(List (Int×Int))) (G:Bool) (H:Bool):Option (Int×Bool×Bool×(List (Int×Int))):=
(uY a1 a0 true).bind λh=>
(pv (!h.2)).bind λK=>
 cond (K ||(decide ((h.1.length:Int)=0))) (some (1,G,H,k)) (cond (zB0 k a0) ((pv G).bind λO=>
 some (max (wR k a0 0) 1,(O ||(decide ((wR k a0 0)=(-1)))),H,k)) ((zE (λ(x:Int×Int×Bool×Bool×(List (Int×Int)))=>wN h Z a1 x.1 x.2.1 x.2.2.1 x.2.2.2.1 x.2.2.2.2) (0,0,G,H,vS k a0 (-1))).bind λ(D:Int×Bool×Bool×(List (Int×Int)))=>
(pv D.2.2.1).bind λT=>
 some (D.1,D.2.1,(T ||(decide (64<D.1))),vS D.2.2.2 a0 D.1)))
def jA:Nat->Int->Norm->(List (Int×Int))->Bool->Bool->Option (Int×Bool×Bool×(List (Int×Int)))
 | 0=>λ_ _ _ _ _=>none
 | n+1=>j8 (jA n)
def wF (a0:Norm) (G:Int) (h:Bool) (k:Bool) (K:(List (Int×Int))):Option (Stp (Int×Bool×Bool×(List (Int×Int))) (Bool×Bool)):=
 cond (decide (G<(a0.aA.length:Int))) ((yO a0.aA G).bind λH=>
(jA 100 H.aN a0 K h k).bind λD=>
 some (.next (wi (G+1),D.2.1,D.2.2.1,D.2.2.2))) (some (.done (h,k)))
def zAK (a0:Norm):Option (Bool×Bool):=
(zE (λ(x:Int×Bool×Bool×(List (Int×Int)))=>wF a0 x.1 x.2.1 x.2.2.1 x.2.2.2) (0,false,false,[])).bind λ(h:Bool×Bool)=>
 some (h.1,h.2)
def uG (a0:Norm) (h:Int):Option (Stp Int (Unit⊕Int)):=
 cond (decide (h<(a0.aA.length:Int))) ((yO a0.aA h).bind λk=>
(yO a0.aA (wi (h-1))).bind λD=>
 cond (decide (k.aN=D.aN)) (some (.done (.inr (5)))) (some (.next (wi (h+1))))) (some (.done (.inl ())))
def uH (a0:Norm) (k:Int):Option (Stp Int (Unit⊕Int)):=
 cond (decide (k<(a0.aA.length:Int))) ((yO a0.aA k).bind λh=>
(pv (h.bU== [])).bind λD=>
(pv (D&&(!decide ((h.To.length:Int)=1)))).bind λG=>
 cond (G&&(!decide ((h.To.length:Int)=2))) (some (.done (.inr (8)))) (some (.next (wi (k+1))))) (some (.done (.inl ())))
def kH (a0:Norm) (G:Int) (h:LI):Option (Stp (Int×LI) (LI⊕Int)):=
 cond (decide (G<(a0.aA.length:Int))) (((yO a0.aA G).bind λD=>
(zB6 D.aN).bind λK=>
 cond (!decide (K=0)) (some (.inr ())) (cond (!(D.bU== [])) ((app h [D.aN]).bind λk=>
 some (.inl (k))) (some (.inl (h))))).bind λ(H:LI⊕Unit)=>
 H.elim (λH=>some (.next (wi (G+1),H))) (λH=>some (.done (.inr (11))))) (some (.done (.inl (h))))
def xN (a0:Norm):Option Int:=
(zDB a0.aI).bind λk=>
 cond (!decide (k=0)) (some k) ((zFZ a0.aA).bind λD=>
 cond (!decide (D=0)) (some D) ((zG1 a0.aL).bind λO=>
 cond (!O) (some 11) ((zE (λ(x:Int)=>uG a0 x) 1).bind λ(H:Unit⊕Int)=>
 H.elim (λH=>(zE (λ(x:Int)=>uH a0 x) 0).bind λ(K:Unit⊕Int)=>
 K.elim (λK=>(zE (λ(x:Int×LI)=>kH a0 x.1 x.2) (0,[])).bind λ(G:LI⊕Int)=>
 G.elim (λG=>(zF0 a0.aI G).bind λT=>
 cond (decide (0<(T.length:Int))) (some 11) ((zAK a0).bind λh=>
 cond h.1 (some 12) (cond h.2 (some 13) (some 0)))) (λG=>some G)) (λK=>some K)) (λH=>some H))))
def zBB (a0:Norm):Option (Norm):=
(xN a0).bind λh=>
 cond (!decide (h=0)) (some ({aI:=[],aA:=[],aL:=({Ranges:=(({Ranges:=[]}):Set).Ranges}:Set)}:Norm)) (some a0)
def uQ (a0:Set) (G:Int) (h:Int):Option (Stp Int (Unit⊕Bool)):=
 cond (decide (h<(a0.Ranges.length:Int))) ((yO a0.Ranges h).bind λk=>
(pv (decide (k.Lo<=G))).bind λD=>
 cond (D&&(decide (G<=k.Hi))) (some (.done (.inr (true)))) (some (.next (wi (h+1))))) (some (.done (.inl ())))
def zG2 (a0:Set) (k:Int):Option Bool:=
(wI k).bind λD=>
 cond (!D) (some false) ((zE (λ(x:Int)=>uQ a0 k x) 0).bind λ(h:Unit⊕Bool)=>
 h.elim (λh=>some false) (λh=>some h))
def zBC (a0:(List bL)) (h:Int):Option Int:=
(zAQ a0).bind λk=>
(kX k h).bind λD=>
 some D
def uI (a0:(List bL)) (h:Int):Option Bool:=
(zBC a0 h).bind λk=>
 some (decide (k=0))
def uZ (a0:Int) (k:Int):Option (Int×Bool):=
(zB6 a0).bind λD=>
(zB6 k).bind λh=>
 cond (decide (({x0:=D,x1:=h}:bD)=({x0:=1,x1:=2}:bD))) (some (wi (44032+(wi ((wi ((wi ((wi ((wi (a0-4352))*21))+k))-4449))*28))),true)) (cond (decide (({x0:=D,x1:=h}:bD)=({x0:=4,x1:=3}:bD))) (some (wi ((wi ((wi (a0+1))+k))-4520),true)) (some (0,false)))
def jO (a0:Norm) (K:Int) (k:(List (bD×Int))):Option (Stp (Int×(List (bD×Int))) (List (bD×Int))):=
 cond (decide (K<(a0.aA.length:Int))) (((yO a0.aA K).bind λh=>
(pv (!(h.bU== []))).bind λT=>
(pv (T ||(!decide ((h.To.length:Int)=2)))).bind λO=>
(gM (!O) (zG2 a0.aL h.aN)).bind λaa=>
 cond (O ||aa) (some k) ((uI a0.aI h.aN).bind λab=>
(pv (!ab)).bind λH=>
(gM (!H) (yO h.To (0:Int))).bind λac=>
(gM (!H) (uI a0.aI ac)).bind λad=>
 cond (H ||(!ad)) (some k) ((yO h.To (0:Int)).bind λD=>
(yO h.To (1:Int)).bind λG=>
(uZ (D) (G)).bind λag=>
 cond ag.2 (some k) ((pv (!(zB0 k ({x0:=D,x1:=G}:bD)))).bind λZ=>
 cond (Z ||(decide (h.aN<(wR k ({x0:=D,x1:=G}:bD) 0)))) (some (vS k ({x0:=D,x1:=G}:bD) h.aN)) (some k))))).bind λ(y2:(List (bD×Int)))=>
 some (.next (wi (K+1),y2))) (some (.done k))
def xI (a0:Norm):Option (List (bD×Int)):=
(zE (λ(x:Int×(List (bD×Int)))=>jO a0 x.1 x.2) (0,[])).bind λ(h:(List (bD×Int)))=>
 some h
def zHA (a0:(List (bD×Int))) (k:Int) (D:Int):Option (Int×Bool):=
(uZ k D).bind λh=>
 cond h.2 (some (h.1,true)) (some (wR a0 ({x0:=k,x1:=D}:bD) 0,zB0 a0 ({x0:=k,x1:=D}:bD)))
def wW (a1:LI) (ac:Norm) (ad:(List (bD×Int))) (O:Int) (v8:Int) (K:Int) (h:LI):Option (Stp (Int×Int×Int×LI) LI):=
 cond (decide (K<(a1.length:Int))) (((yO a1 K).bind λG=>
(zBC ac.aI G).bind λH=>
(pv (decide (O<(wi ((h.length:Int)-1))))).bind λaa=>
(pv (decide (0<=O))).bind λab=>
(cond (ab&&(!(aa&&(decide (H<=v8))))) ((yO h O).bind λag=>
(zHA ad ag G).bind λT=>
 cond T.2 ((yO h O).bind λak=>
(zCV h O T.1).bind λk=>
 some (.inl (k))) (some (.inr ()))) (some (.inr ()))).bind λ(Z:LI⊕Unit)=>
 Z.elim (λZ=>some (O,v8,Z)) (λZ=>(cond (decide (H=0)) (some (h.length:Int)) (some O)).bind λ(y5:Int)=>
(app h [G]).bind λD=>
 some (y5,H,D))).bind λ(y2:Int×Int×LI)=>
 some (.next (y2.1,y2.2.1,wi (K+1),y2.2.2))) (some (.done h))
def zFI (a0:Norm) (D:LI):Option LI:=
(zBB a0).bind λh=>
(xI h).bind λk=>
(zE (λ(x:Int×Int×Int×LI)=>wW D h k x.1 x.2.1 x.2.2.1 x.2.2.2) ((-1),0,0,[])).bind λ(G:LI)=>
 some G
def jP (a0:aQ) (h:LI):Option LI:=
(zFI a0.norm h).bind λk=>
 some k
def uJ (a0:Norm):Option (Norm):=
(xN a0).bind λh=>
 cond (!decide (h=0)) (some ({aI:=[],aA:=[],aL:=({Ranges:=(({Ranges:=[]}):Set).Ranges}:Set)}:Norm)) (some a0)
def jQ (H:LI×Bool) (O:(Int->(List (Int×LI))->Norm->Bool->Option (LI×(List (Int×LI))))) (Z:Norm) (a3:Bool) (G:Int) (h:LI) (D:(List (Int×LI))):Option (Stp (Int×LI×(List (Int×LI))) (LI×(List (Int×LI)))):=
 cond (decide (G<(H.1.length:Int))) ((yO H.1 G).bind λT=>
(O T D Z a3).bind λK=>
(app h K.1).bind λk=>
 some (.next (wi (G+1),k,K.2))) (some (.done (h,D)))
def vL (D:Int->(List (Int×LI))->Norm->Bool->Option (LI×(List (Int×LI)))) (a0:Int) (h:(List (Int×LI))) (H:Norm) (K:Bool):Option (LI×(List (Int×LI))):=
 cond (zB0 h a0) (some (wR h a0 [],h)) ((uY H a0 K).bind λk=>
 cond (!k.2) (some ([a0],h)) ((zE (λ(x:Int×LI×(List (Int×LI)))=>jQ k D H K x.1 x.2.1 x.2.2) (0,[],h)).bind λ(G:LI×(List (Int×LI)))=>
 some (G.1,vS G.2 a0 G.1)))
def kL:Nat->Int->(List (Int×LI))->Norm->Bool->Option (LI×(List (Int×LI)))
 | 0=>λ_ _ _ _=>none
 | n+1=>vL (kL n)
def zDS (a0:Norm) (h:Bool):Option Unit:=
 some ()
def yR (a0:LI):Option (LI):=app [] a0
def vP (a0:Int) (G:Int) (D:(List bL)):Option Int:=
(kX D a0).bind λH=>
(kX D G).bind λh=>
(cmp_Compare_int H h).bind λk=>
 some k
def z6 (a1:Int) (a3:Int->Int->Option Int) (G:Int) (h:LI):Option (Stp (Int×LI) LI):=
(pv (decide (a1<G))).bind λH=>
(gM H (yO h G)).bind λK=>
(gM H (yO h (wi (G-1)))).bind λO=>
(gM H (a3 K O)).bind λT=>
 cond (H&&(decide (T<0))) ((yO h (wi (G-1))).bind λZ=>
(yO h G).bind λaa=>
(yO h G).bind λad=>
(zCV h G Z).bind λk=>
(yO k (wi (G-1))).bind λag=>
(zCV k (wi (G-1)) aa).bind λD=>
 some (.next (wi (G-1),D))) (some (.done h))
def zZ (G:Int) (D:Int) (H:Int->Int->Option Int) (k:Int) (h:LI):Option (Stp (Int×LI) LI):=
 cond (decide (k<G)) ((zE (λ(x:Int×LI)=>z6 D H x.1 x.2) (k,h)).bind λ(K:LI)=>
 some (.next (wi (k+1),K))) (some (.done h))
def kM (a0:LI) (h:Int) (k:Int) (D:Int->Int->Option Int):Option LI:=
(zE (λ(x:Int×LI)=>zZ k h D x.1 x.2) (wi (h+1),a0)).bind λ(G:LI)=>
 some G
def yZ (Z:Int) (K:Int) (H:Int) (G:Int) (k:LI):Option (Stp (Int×LI) LI):=
 cond (decide (G<Z)) ((yO k (wi (K+G))).bind λO=>
(yO k (wi (H+G))).bind λT=>
(yO k (wi (H+G))).bind λaa=>
(zCV k (wi (H+G)) O).bind λh=>
(yO h (wi (K+G))).bind λab=>
(zCV h (wi (K+G)) T).bind λD=>
 some (.next (wi (G+1),D))) (some (.done k))
def kO (a0:LI) (h:Int) (k:Int) (D:Int) (H:Int->Int->Option Int):Option LI:=
(zE (λ(x:Int×LI)=>yZ D k h x.1 x.2) (0,a0)).bind λ(G:LI)=>
 some G
def yK (G:Int) (T:Int->Int->Option Int) (h:Int) (D:Int) (k:LI):Option (Stp (Int×Int×LI) (Int×LI)):=
 cond (!decide (h=D)) ((cond (decide (D<h)) ((kO k (wi (G-h)) G D T).bind λH=>
 some (wi (h-D),D,H)) ((kO k (wi (G-h)) (wi ((wi (G+D))-h)) h T).bind λK=>
 some (h,wi (D-h),K))).bind λ(O:Int×Int×LI)=>
 some (.next (O.1,O.2.1,O.2.2))) (some (.done (h,k)))
def xO (a0:LI) (H:Int) (h:Int) (K:Int) (G:Int->Int->Option Int):Option LI:=
(zE (λ(x:Int×Int×LI)=>yK h G x.1 x.2.1 x.2.2) (wi (h-H),wi (K-h),a0)).bind λ(D:Int×LI)=>
(kO D.2 (wi (h-D.1)) h D.1 G).bind λk=>
 some k
def kC (a0:LI) (O:Int) (T:Int->Int->Option Int) (h:Int) (k:Int):Option (Stp (Int×Int) Int):=
 cond (decide (h<k)) (((yO a0 (wi ((wu (wi (h+k)))/2 ^ 1))).bind λD=>
(yO a0 O).bind λG=>
(T D G).bind λH=>
 cond (decide (H<0)) (some (wi ((wi ((wu (wi (h+k)))/2 ^ 1))+1),k)) (some (h,wi ((wu (wi (h+k)))/2 ^ 1)))).bind λ(K:Int×Int)=>
 some (.next (K.1,K.2))) (some (.done h))
def kD (Z:Int) (G:Int) (k:LI):Option (Stp (Int×LI) LI):=
 cond (decide (G<(wi (Z-1)))) ((yO k (wi (G+1))).bind λH=>
(yO k G).bind λK=>
(yO k G).bind λO=>
(zCV k G H).bind λh=>
(yO h (wi (G+1))).bind λT=>
(zCV h (wi (G+1)) K).bind λD=>
 some (.next (wi (G+1),D))) (some (.done k))
def kE (a0:LI) (O:Int) (T:Int->Int->Option Int) (h:Int) (k:Int):Option (Stp (Int×Int) Int):=
 cond (decide (h<k)) (((yO a0 O).bind λG=>
(yO a0 (wi ((wu (wi (h+k)))/2 ^ 1))).bind λH=>
(T G H).bind λD=>
 cond (!(decide (D<0))) (some (wi ((wi ((wu (wi (h+k)))/2 ^ 1))+1),k)) (some (h,wi ((wu (wi (h+k)))/2 ^ 1)))).bind λ(K:Int×Int)=>
 some (.next (K.1,K.2))) (some (.done h))
def kF (Z:Int) (G:Int) (k:LI):Option (Stp (Int×LI) LI):=
 cond (decide (Z<G)) ((yO k (wi (G-1))).bind λH=>
(yO k G).bind λK=>
(yO k G).bind λO=>
(zCV k G H).bind λh=>
(yO h (wi (G-1))).bind λT=>
(zCV h (wi (G-1)) K).bind λD=>
 some (.next (wi (G-1),D))) (some (.done k))
def kG (a0:LI) (O:Int) (Z:Int) (T:Int) (a4:Int->Int->Option Int) (h:Int) (k:Int):Option (Stp (Int×Int) Int):=
 cond (decide (h<k)) (((yO a0 (wi ((wi ((wi ((wi ((wu (wi (O+Z)))/2 ^ 1))+T))-1))-(wi ((wu (wi (h+k)))/2 ^ 1))))).bind λD=>
(yO a0 (wi ((wu (wi (h+k)))/2 ^ 1))).bind λG=>
(a4 D G).bind λH=>
 cond (!(decide (H<0))) (some (wi ((wi ((wu (wi (h+k)))/2 ^ 1))+1),k)) (some (h,wi ((wu (wi (h+k)))/2 ^ 1)))).bind λ(K:Int×Int)=>
 some (.next (K.1,K.2))) (some (.done h))
def yJ (Z:LI->Int->Int->Int->(Int->Int->Option Int)->Option LI) (a0:LI) (h:Int) (k:Int) (D:Int) (H:Int->Int->Option Int):Option LI:=
 cond (decide ((wi (k-h))=1)) ((zE (λ(x:Int×Int)=>kC a0 h H x.1 x.2) (k,D)).bind λ(y1:Int)=>
(zE (λ(x:Int×LI)=>kD y1 x.1 x.2) (h,a0)).bind λ(y3:LI)=>
 some y3) (cond (decide ((wi (D-k))=1)) ((zE (λ(x:Int×Int)=>kE a0 k H x.1 x.2) (h,k)).bind λ(y4:Int)=>
(zE (λ(x:Int×LI)=>kF y4 x.1 x.2) (k,a0)).bind λ(y6:LI)=>
 some y6) ((cond (decide ((wi ((wu (wi (h+D)))/2 ^ 1))<k)) (some (wi ((wi ((wi ((wu (wi (h+D)))/2 ^ 1))+k))-D),wi ((wu (wi (h+D)))/2 ^ 1))) (some (h,k))).bind λ(y7:Int×Int)=>
(zE (λ(x:Int×Int)=>kG a0 h D k H x.1 x.2) (y7.1,y7.2)).bind λ(G:Int)=>
(pv (decide (G<k))).bind λK=>
(cond (K&&(decide (k<(wi ((wi ((wi ((wu (wi (h+D)))/2 ^ 1))+k))-G))))) ((xO a0 G k (wi ((wi ((wi ((wu (wi (h+D)))/2 ^ 1))+k))-G)) H).bind λaa=>
 some aa) (some a0)).bind λ(ad:LI)=>
(pv (decide (h<G))).bind λO=>
(cond (O&&(decide (G<(wi ((wu (wi (h+D)))/2 ^ 1))))) ((Z ad h G (wi ((wu (wi (h+D)))/2 ^ 1)) H).bind λab=>
 some ab) (some ad)).bind λ(ag:LI)=>
(pv (decide ((wi ((wu (wi (h+D)))/2 ^ 1))<(wi ((wi ((wi ((wu (wi (h+D)))/2 ^ 1))+k))-G))))).bind λT=>
 cond (T&&(decide ((wi ((wi ((wi ((wu (wi (h+D)))/2 ^ 1))+k))-G))<D))) ((Z ag (wi ((wu (wi (h+D)))/2 ^ 1)) (wi ((wi ((wi ((wu (wi (h+D)))/2 ^ 1))+k))-G)) D H).bind λac=>
 some ac) (some ag)))
def kJ:Nat->LI->Int->Int->Int->(Int->Int->Option Int)->Option LI
 | 0=>λ_ _ _ _ _=>none
 | n+1=>yJ (kJ n)
def yE (H:Int) (K:Int->Int->Option Int) (G:Int) (k:Int) (h:LI):Option (Stp (Int×Int×LI) (Int×LI)):=
 cond (decide (k<=H)) ((kM h G k K).bind λD=>
 some (.next (k,wi (k+20),D))) (some (.done (G,h)))
def yF (K:Int) (H:Int) (O:Int->Int->Option Int) (G:Int) (k:Int) (h:LI):Option (Stp (Int×Int×LI) (Int×LI)):=
 cond (decide (k<=K)) ((kJ 60 h G (wi (G+H)) k O).bind λD=>
 some (.next (k,wi (k+(wi (2*H))),D))) (some (.done (G,h)))
def yL (G:Int) (K:Int->Int->Option Int) (k:Int) (h:LI):Option (Stp (Int×LI) LI):=
 cond (decide (k<G)) ((zE (λ(x:Int×Int×LI)=>yF G k K x.1 x.2.1 x.2.2) (0,wi (2*k),h)).bind λ(D:Int×LI)=>
(cond (decide ((wi (D.1+k))<G)) ((kJ 60 D.2 D.1 (wi (D.1+k)) G K).bind λH=>
 some H) (some D.2)).bind λ(O:LI)=>
 some (.next (wi (k*2),O))) (some (.done h))
def uR (a0:LI) (h:Int) (k:Int->Int->Option Int):Option LI:=
(zE (λ(x:Int×Int×LI)=>yE h k x.1 x.2.1 x.2.2) (0,20,a0)).bind λ(G:Int×LI)=>
(kM G.2 G.1 h k).bind λD=>
(zE (λ(x:Int×LI)=>yL h k x.1 x.2) (20,D)).bind λ(H:LI)=>
 some H
def kY (a0:LI) (h:Int->Int->Option Int):Option LI:=
(uR a0 (a0.length:Int) h).bind λk=>
 some k
def zCJ (a0:List bL) (h:LI):Option LI:=(zAQ a0).bind λk=>(yR h).bind λD=>(zBT (wB (λc=>kX k c==some 0) h 0 (-1)) h k).bind λ_=>zA9 (λp=>kY p (λx0 x1=>vP x0 x1 k)) Range.Lo Range.Hi D (wB (λc=>kX k c==some 0) h 0 (-1))
def xW (T:LI) (K:Norm) (Z:Bool) (G:Int) (h:LI) (D:(List (Int×LI))):Option (Stp (Int×LI×(List (Int×LI))) LI):=
 cond (decide (G<(T.length:Int))) ((yO T G).bind λO=>
(kL 100 O D K Z).bind λH=>
(app h H.1).bind λk=>
 some (.next (wi (G+1),k,H.2))) (some (.done h))
def jL (a0:Norm) (G:LI) (D:Bool):Option LI:=
(uJ a0).bind λh=>
(zDS h D).bind λH=>
(zE (λ(x:Int×LI×(List (Int×LI)))=>xW G h D x.1 x.2.1 x.2.2) (0,[],[])).bind λ(K:LI)=>
(zCJ h.aI K).bind λk=>
 some k
def k8 (a0:aQ) (h:LI):Option LI:=
(jL a0.norm h false).bind λk=>
 some k
def jV (a0:aQ) (h:LI):Option LI:=
(jL a0.norm h true).bind λk=>
 some k
def zD4 (a0:Norm) (D:LI):Option LI:=
(((some ()).bind λ(O:Unit)=>
 some ()).bind λ(K:Unit)=>
 some ()).bind λ(H:Unit)=>
(k8 ({norm:=a0}:aQ) D).bind λh=>
((jP ({norm:=a0}:aQ) h).bind λk=>
 some k).bind λ(G:LI)=>
 some G
def zD5 (a0:Norm) (k:LI):Option LI:=
(((some ()).bind λ(H:Unit)=>
 some ()).bind λ(G:Unit)=>
 some ()).bind λ(D:Unit)=>
(k8 ({norm:=a0}:aQ) k).bind λh=>
(some ()).bind λ(K:Unit)=>
 some h
def zDF (a0:Norm) (D:LI):Option LI:=
(((some ()).bind λ(O:Unit)=>
 some ()).bind λ(K:Unit)=>
 some ()).bind λ(H:Unit)=>
(jV ({norm:=a0}:aQ) D).bind λh=>
((jP ({norm:=a0}:aQ) h).bind λk=>
 some k).bind λ(G:LI)=>
 some G
def zDG (a0:Norm) (k:LI):Option LI:=
(((some ()).bind λ(H:Unit)=>
 some ()).bind λ(G:Unit)=>
 some ()).bind λ(D:Unit)=>
(jV ({norm:=a0}:aQ) k).bind λh=>
(some ()).bind λ(K:Unit)=>
 some h
def jM (a0:Norm) (h:Int) (k:LI):Option LI:=cond (decide (h=1)) (zD4 a0 k) (cond (decide (h=2)) (zD5 a0 k) (cond (decide (h=3)) (zDF a0 k) (cond (decide (h=4)) (zDG a0 k) (none))))
def zA6 (a0:LI) (k:LI) (h:Int):Option (Stp Int (Unit⊕Int)):=
(pv (decide (h<(a0.length:Int)))).bind λD=>
 cond (D&&(decide (h<(k.length:Int)))) ((yO a0 h).bind λG=>
(yO k h).bind λH=>
 cond (decide (G<H)) (some (.done (.inr (-1)))) ((yO a0 h).bind λK=>
(yO k h).bind λO=>
 cond (decide (O<K)) (some (.done (.inr (1)))) (some (.next (wi (h+1)))))) (some (.done (.inl ())))
def zF1 (a0:LI) (k:LI):Option Int:=
(zE (λ(x:Int)=>zA6 a0 k x) 0).bind λ(h:Unit⊕Int)=>
 h.elim (λh=>cond (decide ((a0.length:Int)<(k.length:Int))) (some (-1)) (cond (decide ((k.length:Int)<(a0.length:Int))) (some 1) (some 0))) (λh=>some h)
def zIW (a0:LI) (h:LI):Option Bool:=
(zF1 a0 h).bind λk=>
 some (decide (k=0))
def zG3 (a0:LI) (h:LI):Option Bool:=
(zIW a0 h).bind λk=>
 some k
def zE2 (a0:LI) (k:LI) (h:Int):Option (Stp Int (Unit⊕Int)):=
 cond (decide (h<(min (a0.length:Int) (k.length:Int)))) ((yO a0 h).bind λD=>
(yO k h).bind λG=>
 cond (!decide (D=G)) ((yO a0 h).bind λH=>
(yO k h).bind λK=>
(cmp_Compare_int H K).bind λO=>
 some (.done (.inr (O)))) (some (.next (wi (h+1))))) (some (.done (.inl ())))
def zAL (a0:LI) (D:LI):Option Int:=
(zE (λ(x:Int)=>zE2 a0 D x) 0).bind λ(h:Unit⊕Int)=>
 h.elim (λh=>(cmp_Compare_int (a0.length:Int) (D.length:Int)).bind λk=>
 some k) (λh=>some h)
def zGC (a0:LI) (h:LI):Option Bool:=
(zAL a0 h).bind λk=>
 some (decide (k=0))
def zDH (a0:Norm) (G:LI) (H:LI) (K:Bool):Option Bool:=
(cond K (none) (some ())).bind λ(O:Unit)=>
(jM a0 2 G).bind λh=>
(jM a0 2 H).bind λk=>
(zGC h k).bind λD=>
 some D
def zLQ (a0:cM):Option Int:=
(pv (decide (a0.bO<1))).bind λh=>
 cond (h ||(decide (4<a0.bO))) (none) ((cond (decide (a0.aV=1)) (some ()) (none)).bind λ(k:Unit)=>
 cond (decide (a0.aV=1)) (some 0) (none))
def zB7 (a0:cM):Option (cM):=
(zLQ a0).bind λh=>
 cond (!decide (h=0)) (none) (some a0)
def zDT (a0:Int):Option Bool:=
(pv (decide (1<=a0))).bind λh=>
 some (h&&(decide (a0<=65535)))
def zCR (a0:Str) (T:Int):Option (Stp Int (Unit⊕Bool)):=
 cond (decide (T<(a0.length:Int))) ((zM0 a0 T).bind λh=>
(pv (decide (65<=h))).bind λk=>
(pv (k&&(decide (h<=90)))).bind λD=>
(pv (decide (97<=h))).bind λG=>
(pv (D ||(G&&(decide (h<=122))))).bind λH=>
(pv (decide (48<=h))).bind λK=>
(pv (H ||(K&&(decide (h<=57))))).bind λO=>
 cond (!(O ||(decide (h=95)))) (some (.done (.inr (false)))) (some (.next (wi (T+1))))) (some (.done (.inl ())))
def zI6 (a0:bY):Option Int:=
(pv (decide (a0.cW<1))).bind λD=>
(pv (D ||(decide (65502<a0.cW)))).bind λh=>
(gM (!h) (zDT a0.b7)).bind λG=>
(pv (h ||(!G))).bind λk=>
(gM (!k) (zDT a0.cL)).bind λH=>
 cond (k ||(!H)) (some 1) (none)
def zEQ (h:(List dH)×(List dI)×Int×Int×Int):Option (Stp Unit Unit):=
 cond (decide (0<(h.1.length:Int))) (none) (some (.done ()))
def zE3 (a0:bY):Option (bH):=
(zI6 a0).bind λk=>
(cond (!decide (k=0)) (some ([],[],64448,32,2)) (some (a0.b5,a0.cG,a0.cW,a0.b7,a0.cL))).bind λ(h:(List dH)×(List dI)×Int×Int×Int)=>
(zE (λ(_:Unit)=>zEQ h) ()).bind λ(D:Unit)=>
 some ({c:=({b5:=h.1,cG:=h.2.1,cW:=h.2.2.1,b7:=h.2.2.2.1,cL:=h.2.2.2.2}:bY),entries:=[],cD:=0,cY:=[],top:=0}:bH)
def zAM (h:(List bL)):Option (Stp Unit Unit):=
 cond (decide (0<(h.length:Int))) (none) (some (.done ()))
def u0 (a0:bH) (h:Norm):Option (bH):=
(xN h).bind λD=>
(cond (decide (D=0)) (some h.aI) (some a0.cY)).bind λ(k:(List bL))=>
(zE (λ(_:Unit)=>zAM k) ()).bind λ(G:Unit)=>
 some ({c:=a0.c,entries:=a0.entries,cD:=a0.cD,cY:=k,top:=a0.top}:bH)
def zCK (a0:bH) (h:Int):Option (List cC):=
(wI h).bind λG=>
 cond (!G) (none) ((zR7 wi h 32768).bind λk=>
(zKY h 32768).bind λD=>
 some [({cJ:=wi (a0.c.cW+k),bZ:=a0.c.b7,b9:=a0.c.cL,aV:=false}:cC),({cJ:=wi (32768+D),bZ:=0,b9:=0,aV:=false}:cC)])
def zCL (a0:bH) (h:LI):Option (Stp Unit Unit):=
 cond (decide (0<(min a0.cD (h.length:Int)))) (none) (some (.done ()))
def vT (a0:bH) (h:LI):Option (Int×(List cC)×Bool×LI):=
(zE (λ(_:Unit)=>zCL a0 h) ()).bind λ(G:Unit)=>
 cond (decide ((min a0.cD (h.length:Int))=0)) ((yO h (0:Int)).bind λk=>
(zCK a0 k).bind λD=>
 some (1,D,false,h)) (none)
def zBL (K:bH) (h:(List cC)) (D:LI):Option (Stp ((List cC)×LI) (List cC)):=
 cond (decide (0<(D.length:Int))) ((vT K D).bind λH=>
(app h H.2.1).bind λk=>
(slc H.2.2.2 H.1 (H.2.2.2.length)).bind λG=>
 some (.next (k,G))) (some (.done h))
def zBD (a0:Norm) (G:bY) (H:LI):Option (List cC):=
(zE3 G).bind λh=>
(u0 h a0).bind λk=>
(jL a0 H false).bind λD=>
(zE (λ(x:(List cC)×LI)=>zBL k x.1 x.2) ([],D)).bind λ(K:(List cC))=>
 some K
def zFR (a0:cC) (h:Int) (k:Bool):Option (dc×Bool):=
(cond (!decide (({x0:=a0.cJ,x1:=a0.bZ,x2:=a0.b9,x3:=0}:dc)=({x0:=0,x1:=0,x2:=0,x3:=0}:dc))) (some 65535) (some (0))).bind λ(D:Int)=>
 cond (decide (h=1)) (some (({x0:=a0.cJ,x1:=a0.bZ,x2:=a0.b9,x3:=D}:dc),k)) (none)
def zHB (a0:Int):Option Unit:=
 some ()
def zGO (h:dc×Bool) (ab:Int) (k:LI) (D:LI) (G:LI) (H:LI):Option (Stp (Int×LI×LI×LI×LI) (LI×LI×LI×LI)):=
 cond (decide (ab=0)) (((yO [h.1.x0,h.1.x1,h.1.x2,h.1.x3] (0:Int)).bind λK=>
 cond (!decide (K=0)) ((app k [K]).bind λT=>
 some T) (some k)).bind λ(y3:LI)=>
 some (.next (wi ((0:Int)+1),y3,D,G,H))) (cond (decide (ab=1)) (((yO [h.1.x0,h.1.x1,h.1.x2,h.1.x3] (1:Int)).bind λK=>
 cond (!decide (K=0)) ((app D [K]).bind λZ=>
 some Z) (some D)).bind λ(y5:LI)=>
 some (.next (wi ((1:Int)+1),k,y5,G,H))) (cond (decide (ab=2)) (((yO [h.1.x0,h.1.x1,h.1.x2,h.1.x3] (2:Int)).bind λK=>
 cond (!decide (K=0)) ((app G [K]).bind λaa=>
 some aa) (some G)).bind λ(y7:LI)=>
 some (.next (wi ((2:Int)+1),k,D,y7,H))) (cond (decide (ab=3)) (((yO [h.1.x0,h.1.x1,h.1.x2,h.1.x3] (3:Int)).bind λK=>
 cond (!decide (K=0)) ((app H [K]).bind λO=>
 some O) (some H)).bind λ(y9:LI)=>
 some (.next (wi ((3:Int)+1),k,D,G,y9))) (cond (decide (ab=4)) (some (.done (k,D,G,H))) (none)))))
def zBE (a0:(List cC)) (Z:cM) (K:Int) (h:Bool) (k:LI) (D:LI) (G:LI) (H:LI):Option (Stp (Int×Bool×LI×LI×LI×LI) (LI×LI×LI×LI)):=
 cond (decide (K<(a0.length:Int))) ((yO a0 K).bind λaa=>
(zFR aa Z.aV h).bind λO=>
(zE (λ(x:Int×LI×LI×LI×LI)=>zGO O x.1 x.2.1 x.2.2.1 x.2.2.2.1 x.2.2.2.2) (0,k,D,G,H)).bind λ(T:LI×LI×LI×LI)=>
 some (.next (wi (K+1),O.2,T.1,T.2.1,T.2.2.1,T.2.2.2))) (some (.done (k,D,G,H)))
def zBU (a0:(List cC)) (H:cM):Option (List LI):=
(zB7 H).bind λk=>
(zHB k.aV).bind λK=>
(zE (λ(x:Int×Bool×LI×LI×LI×LI)=>zBE a0 k x.1 x.2.1 x.2.2.1 x.2.2.2.1 x.2.2.2.2.1 x.2.2.2.2.2) (0,false,[],[],[],[])).bind λ(D:LI×LI×LI×LI)=>
(cond k.bX (none) (some ())).bind λ(O:Unit)=>
(slc [D.1,D.2.1,D.2.2.1,D.2.2.2] 0 k.bO).bind λG=>
(app [] G).bind λh=>
 some h
def zKD (H:(List LI)) (G:Int) (h:LI):Option (Stp (Int×LI) LI):=
 cond (decide (G<(H.length:Int))) ((yO H G).bind λK=>
(cond (decide (0<G)) ((app h [0]).bind λk=>
 some k) (some h)).bind λ(O:LI)=>
(app O K).bind λD=>
 some (.next (wi (G+1),D))) (some (.done h))
def zDO (a0:Norm) (G:bY) (H:cM) (K:LI):Option LI:=
(zB7 H).bind λh=>
(zBD a0 G K).bind λk=>
(zBU k h).bind λD=>
(zE (λ(x:Int×LI)=>zKD D x.1 x.2) (0,[])).bind λ(O:LI)=>
 cond (!h.bQ) (some O) (none)
def zBV (a0:Norm) (G:bY) (H:cM) (K:LI) (O:LI):Option Int:=
(zDO a0 G H K).bind λh=>
(zDO a0 G H O).bind λk=>
(zAL h k).bind λD=>
 some D
def top_alive7:Option Bool:=
(jM ({aI:=[],aA:=[({aN:=225,To:=[97,769],bU:=[]}:aG)],aL:=({Ranges:=(({Ranges:=[]}):Set).Ranges}:Set)}:Norm) 2 [225]).bind λG=>
(zG3 G [97,769]).bind λH=>
(pv H).bind λh=>
(gM h (zDH ({aI:=[],aA:=[({aN:=225,To:=[97,769],bU:=[]}:aG)],aL:=({Ranges:=(({Ranges:=[]}):Set).Ranges}:Set)}:Norm) [225] [97,769] false)).bind λK=>
(pv (h&&K)).bind λk=>
(gM k (zBV ({aI:=[],aA:=[({aN:=225,To:=[97,769],bU:=[]}:aG)],aL:=({Ranges:=(({Ranges:=[]}):Set).Ranges}:Set)}:Norm) ({b5:=[],cG:=[],cW:=0,b7:=0,cL:=0}:bY) ({bO:=3,aV:=1,bX:=false,bQ:=false}:cM) [97] [98])).bind λO=>
(pv (k&&(decide (O=(-1))))).bind λD=>
(gM D (zDO ({aI:=[],aA:=[({aN:=225,To:=[97,769],bU:=[]}:aG)],aL:=({Ranges:=(({Ranges:=[]}):Set).Ranges}:Set)}:Norm) ({b5:=[],cG:=[],cW:=0,b7:=0,cL:=0}:bY) ({bO:=3,aV:=1,bX:=false,bQ:=false}:cM) [97])).bind λT=>
 some (D&&(decide ((T.length:Int)=6)))
def zCS (a0:Int):Option Bool:=
(pv (decide (55296<=a0))).bind λh=>
 some (h&&(decide (a0<=57343)))
def zA7 (a0:Int):Option Bool:=
(wI a0).bind λk=>
(pv k).bind λh=>
(gM h (zCS a0)).bind λD=>
 some (h&&(!D))
def zF2 (a0:bC):Option Int:=
(cond (decide (a0.bK=1)) (some ()) (none)).bind λ(h:Unit)=>
 cond (decide (a0.bK=1)) (some 0) (none)
def zHC (a0:bC):Option (bC):=
 cond (!decide (a0.bK=4)) (some ({bK:=a0.bK,Charset:=({bB:=(({bB:=[]}):Charset).bB}:Charset)}:bC)) (none)
def zE4 (a0:bC) (O:bC) (k:Int):Option (aJ×Int):=
(zF2 a0).bind λT=>
(pv (!decide (T=0))).bind λh=>
(gM (!h) (zF2 O)).bind λG=>
 cond (h ||(!decide (G=0))) (none) ((pv (decide (k<1))).bind λD=>
 cond (D ||(decide (4<k))) (none) ((zHC a0).bind λH=>
(zHC O).bind λK=>
 some (({aD:=({rest:=(({rest:=[],done:=0}):bS).rest,done:=(({rest:=[],done:=0}):bS).done}:bS),aO:=true,aY:=H,cO:=K,bJ:=k}:aJ),0)))
def wO (a0:(List bL)):Option ((List bL)):=app [] a0
def xA (a0:(List aG)):Option ((List aG)):=app [] a0
def yS (a0:(List Range)):Option ((List Range)):=app [] a0
def wG (G:(List aG)) (D:Int) (h:(List aG)):Option (Stp (Int×(List aG)) (List aG)):=
 cond (decide (D<(G.length:Int))) ((yO h D).bind λH=>
(yR H.To).bind λK=>
(yO h D).bind λO=>
(zCV h D ({O with To:=K})).bind λk=>
 some (.next (wi (D+1),k))) (some (.done h))
def zB8 (a0:Norm):Option (Norm):=
(wO a0.aI).bind λD=>
(xA a0.aA).bind λh=>
(yS a0.aL.Ranges).bind λk=>
(zE (λ(x:Int×(List aG))=>wG h x.1 x.2) (0,h)).bind λ(G:(List aG))=>
 some ({aI:=D,aA:=G,aL:=({Ranges:=k}:Set)}:Norm)
def zE5 (a0:Norm) (h:Int):Option (aM×Int):=
(cond (decide (h=1)) (some (decide (h=1))) (cond (decide (h=2)) (some (decide (h=2))) (cond (decide (h=3)) (some (decide (h=3))) (some (decide (h=4)))))).bind λ(G:Bool)=>
 cond G ((xN a0).bind λk=>
 cond (!decide (k=0)) (none) ((zB8 a0).bind λD=>
 some (({aD:=({pending:=[]}:bI),norm:=D,form:=h,aO:=true}:aM),0))) (none)
def yT (a0:(List (List Set))) (D:Int) (h:Int):Option (Stp (Int×Int) Int):=
 cond (decide (h<(a0.length:Int))) (((yO a0 h).bind λk=>
 cond (decide ((wi (D+(k.length:Int)))<0)) (none) (some (wi (D+(k.length:Int))))).bind λ(G:Int)=>
 some (.next (G,wi (h+1)))) (some (.done D))
def yU (a0:(List (List Set))) (D:Int) (h:(List Set)):Option (Stp (Int×(List Set)) (List Set)):=
 cond (decide (D<(a0.length:Int))) ((yO a0 D).bind λG=>
(app h G).bind λk=>
 some (.next (wi (D+1),k))) (some (.done h))
def xH (a0:(List (List Set))):Option (List Set):=
(zE (λ(x:Int×Int)=>yT a0 x.1 x.2) (0,0)).bind λ(k:Int)=>
(z61 k).bind λh=>
(zE (λ(x:Int×(List Set))=>yU a0 x.1 x.2) (0,[])).bind λ(D:(List Set))=>
 some D
def vB (k:(List Set)) (h:Int):Option (Stp Int (Unit⊕Int)):=
 cond (decide (h<(k.length:Int))) ((yO k h).bind λD=>
(zG1 D).bind λH=>
(pv (!H)).bind λG=>
 cond (G ||(decide ((D.Ranges.length:Int)=0))) (some (.done (.inr (11)))) (some (.next (wi (h+1))))) (some (.done (.inl ())))
def vC (a0:aE) (k:Int):Option (Stp Int (Unit⊕Int)):=
 cond (decide (k<(a0.Result.length:Int))) ((yO a0.Result k).bind λh=>
(pv (decide (h.bW=0))).bind λD=>
(gM D (wI h.Code)).bind λO=>
 cond (D&&(!O)) (some (.done (.inr (1)))) ((pv (!decide (h.bW=0))).bind λG=>
(pv (!decide (h.Code=0))).bind λH=>
(pv (H ||(decide (h.bW<1)))).bind λK=>
 cond (G&&(K ||(decide ((a0.aX.length:Int)<h.bW)))) (some (.done (.inr (1)))) (some (.next (wi (k+1)))))) (some (.done (.inl ())))
def zB9 (a0:aE):Option Int:=
(pv (decide ((a0.aX.length:Int)<1))).bind λD=>
(pv (D ||(decide (8<(max (max (a0.aR.length:Int) (a0.aX.length:Int)) (a0.bP.length:Int)))))).bind λG=>
 cond (G ||(decide (16<(a0.Result.length:Int)))) (some 2) ((xH [a0.aR,a0.aX,a0.bP]).bind λH=>
(zE (λ(x:Int)=>vB H x) 0).bind λ(h:Unit⊕Int)=>
 h.elim (λh=>(zE (λ(x:Int)=>vC a0 x) 0).bind λ(k:Unit⊕Int)=>
 k.elim (λk=>some 0) (λk=>some k)) (λh=>some h))
def uK (a0:(List aE)) (h:Int):Option (Stp Int (Unit⊕Int)):=
 cond (decide (h<(a0.length:Int))) ((yO a0 h).bind λD=>
(zB9 D).bind λk=>
 cond (!decide (k=0)) (some (.done (.inr (k)))) (some (.next (wi (h+1))))) (some (.done (.inl ())))
def zAR (a0:(List aE)):Option Int:=
 cond (decide (200<(a0.length:Int))) (some 2) ((zE (λ(x:Int)=>uK a0 x) 0).bind λ(h:Unit⊕Int)=>
 h.elim (λh=>some 0) (λh=>some h))
def wX (a0:(List Set)):Option ((List Set)):=app [] a0
def xT (O:(List Set)) (D:Int) (h:(List Set)):Option (Stp (Int×(List Set)) (List Set)):=
 cond (decide (D<(O.length:Int))) ((yO h D).bind λG=>
(yS G.Ranges).bind λH=>
(yO h D).bind λK=>
(zCV h D ({K with Ranges:=H})).bind λk=>
 some (.next (wi (D+1),k))) (some (.done h))
def w6 (a0:(List Set)):Option (List Set):=
(wX a0).bind λh=>
(zE (λ(x:Int×(List Set))=>xT h x.1 x.2) (0,h)).bind λ(k:(List Set))=>
 some k
def xX (a0:(List dD)):Option ((List dD)):=app [] a0
def xU (G:LI) (k:Int) (h:LI):Option (Stp (Int×LI) LI):=
 cond (decide (k<(G.length:Int))) ((yO h k).bind λH=>
(zCV h k k).bind λD=>
 some (.next (wi (k+1),D))) (some (.done h))
def w7 (a0:(List aE)):Option (aW):=
(zAR a0).bind λk=>
(cond (!decide (k=0)) (none) (some ())).bind λ(G:Unit)=>
(mkM 0 (a0.length:Int)).bind λh=>
(zE (λ(x:Int×LI)=>xU h x.1 x.2) (0,h)).bind λ(D:LI)=>
 some ({rules:=a0,next:=[],cg:=[D]}:aW)
def w8 (D:aW) (G:Int) (H:Int) (k:Int):Option (Stp (Int×Int×Int) (Int×Int)):=
 cond (decide (k<(D.rules.length:Int))) ((yO D.rules k).bind λh=>
 some (.next (max G (h.aR.length:Int),max H (wi ((h.aX.length:Int)+(h.bP.length:Int))),wi (k+1)))) (some (.done (G,H)))
def zD6 (a0:(List aE)):Option (Int×Int):=
(w7 a0).bind λk=>
(zE (λ(x:Int×Int×Int)=>w8 k x.1 x.2.1 x.2.2) (0,0,0)).bind λ(h:Int×Int)=>
 some (h.1,h.2)
def w9 (a0:(List aE)) (G:Int) (k:(List aE)):Option (Stp (Int×(List aE)) (List aE)):=
 cond (decide (G<(a0.length:Int))) ((yO a0 G).bind λD=>
(w6 D.aR).bind λH=>
(w6 D.aX).bind λK=>
(w6 D.bP).bind λO=>
(xX D.Result).bind λT=>
(app k [({aR:=H,aX:=K,bP:=O,Result:=T}:aE)]).bind λh=>
 some (.next (wi (G+1),h))) (some (.done k))
def zD7 (a0:(List aE)):Option (aK×Int):=
(zAR a0).bind λk=>
 cond (!decide (k=0)) (none) ((zE (λ(x:Int×(List aE))=>w9 a0 x.1 x.2) (0,[])).bind λ(D:(List aE))=>
(zD6 a0).bind λh=>
 some (({aD:=({items:=[],at_:=0}:bG),rules:=D,before:=h.1,ahead:=max h.2 1,aO:=true}:aK),0))
def zCM (Z:LI) (H:Str) (D:Int) (h:(List Str)):Option (Stp (Str×Int×(List Str)) (Str×(List Str))):=
 cond (decide (D<(Z.length:Int))) ((yO Z D).bind λK=>
(zKY (wi K) (wi ((H.length:Int)+1))).bind λG=>
(slc H 0 G).bind λO=>
(app h [O]).bind λk=>
(slc H G (H.length)).bind λT=>
 some (.next (T,wi (D+1),k))) (some (.done (H,h)))
def zKE (a0:Str) (D:LI):Option (List Str):=
(zE (λ(x:Str×Int×(List Str))=>zCM D x.1 x.2.1 x.2.2) (a0,0,[])).bind λ(k:Str×(List Str))=>
(app k.2 [k.1]).bind λh=>
 some h
def xP (a0:aJ):Option (Bool×aJ):=
(pv false).bind λh=>
 some ((h ||(!a0.aO)),a0)
def vU (a0:aJ) (h:Str):Option (aJ):=
(app a0.aD.rest h).bind λk=>
 some ({aD:=({rest:=k,done:=a0.aD.done}:bS),aO:=a0.aO,aY:=a0.aY,cO:=a0.cO,bJ:=a0.bJ}:aJ)
def zAU (a0:bC):Option (Unit×Bool):=
(zF2 a0).bind λh=>
 cond (!decide (h=0)) (none) ((cond (decide (a0.bK=2)) (some (decide (a0.bK=2))) (some (decide (a0.bK=3)))).bind λ(k:Bool)=>
 cond k (none) (cond (decide (a0.bK=4)) (none) (some ((),true))))
def zF3 (a0:Int):Option Int:=
((((pv (decide (128<=a0))).bind λD=>
(cond (D&&(decide (a0<194))) (some (D&&(decide (a0<194)))) (some (decide (244<a0)))).bind λ(H:Bool)=>
 cond H (some (.inl (0))) (cond (decide (240<=a0)) (some (.inr (.inr (wi (1+1))))) (cond (decide (224<=a0)) (some (.inr (.inr (1)))) (cond (decide (192<=a0)) (some (.inr (.inl ()))) (some (.inl (1))))))).bind λ(h:Int⊕Unit⊕Int)=>
 h.elim (λh=>some (.inl (h))) (λh=>h.elim (λh=>some (.inr (1))) (λh=>some (.inr (wi (h+1)))))).bind λ(k:Int⊕Int)=>
 k.elim (λk=>some k) (λk=>some (wi (k+1)))).bind λ(G:Int)=>
 some G
def zD8 (a0:Int):Option (Int×Int):=
 cond (decide (a0=224)) (some (160,191)) (cond (decide (a0=237)) (some (128,159)) (cond (decide (a0=240)) (some (144,191)) (cond (decide (a0=244)) (some (128,143)) (some (128,191)))))
def uL (G:Int) (a0:Str) (Z:Int) (v7:Int) (v8:Int) (h:Int):Option (Stp (Int×Int×Int×Int) (Int⊕(Int×Int×Bool))):=
 cond (decide (h<G)) ((pv (decide (h=(a0.length:Int)))).bind λk=>
(gM (!k) (zM0 a0 h)).bind λH=>
(pv (k ||(decide (H<v7)))).bind λD=>
(gM (!D) (zM0 a0 h)).bind λK=>
 cond (D ||(decide (v8<K))) (some (.done (.inr (0,h,false)))) ((yKI .i64 Z 6).bind λO=>
(zM0 a0 h).bind λT=>
 some (.next (bOr .i64 O (wi (zRF .u8 T 63)),128,191,wi (h+1))))) (some (.done (.inl (Z))))
def zEK (a0:Str):Option (Int×Int×Bool):=
 cond (a0== []) (some (0,0,false)) ((zM0 a0 0).bind λH=>
(zF3 H).bind λh=>
 cond (decide (h=0)) (some (0,1,false)) ((zM0 a0 0).bind λD=>
(cond (decide (1<h)) ((z62 .i64 127 h).bind λK=>
 some (zRF .i64 (wi D) K)) (some (wi D))).bind λ(T:Int)=>
(zM0 a0 0).bind λO=>
(zD8 O).bind λG=>
(zE (λ(x:Int×Int×Int×Int)=>uL h a0 x.1 x.2.1 x.2.2.1 x.2.2.2) (T,G.1,G.2,1)).bind λ(k:Int⊕(Int×Int×Bool))=>
 k.elim (λk=>some (k,h,true)) (λk=>some (k.1,k.2.1,k.2.2))))
def jC (a0:bR) (k:Str):Option (Int×Int×Bool):=
(zEK k).bind λh=>
 some (h.1,h.2.1,h.2.2)
def zCA (a0:bC) (D:Str):Option (Int×Int×Bool):=
(zAU a0).bind λk=>
 cond (!k.2) (some (0,0,false)) ((jC (({ }):bR) D).bind λh=>
 some (h.1,h.2.1,h.2.2))
def vV (a0:Int) (D:Str):Option Bool:=
(cond (decide (a0=1)) ((zCA ({bK:=1,Charset:=(({bB:=[]}):Charset)}:bC) D).bind λG=>
(pv (decide (G.2.1=(D.length:Int)))).bind λh=>
(gM h (zM0 D 0)).bind λH=>
(pv (h&&(decide (194<=H)))).bind λk=>
(gM k (zM0 D 0)).bind λK=>
 some (k&&(decide (K<=244)))) (none)).bind λ(O:Bool)=>
 some O
def kN (D:Str) (a0:bC) (k:Int):Option (Stp Int Int):=
 cond (decide (k<(D.length:Int))) ((slc D k (D.length)).bind λH=>
(zCA a0 H).bind λG=>
(pv (!G.2.2)).bind λh=>
(gM h (slc D k (D.length))).bind λK=>
(gM h (vV a0.bK K)).bind λO=>
 cond (h&&O) (some (.done k)) (some (.next (wi (k+G.2.1))))) (some (.done k))
def uM (a0:bC) (h:Str):Option Int:=
 cond (decide (a0.bK=4)) (none) ((zE (λ(x:Int)=>kN h a0 x) 0).bind λ(k:Int)=>
 some k)
def xJ (a0:aJ) (h:Int):Option (Str×aJ):=
(slc a0.aD.rest 0 h).bind λk=>
(slc a0.aD.rest h (a0.aD.rest.length)).bind λD=>
 some (k,({aD:=({rest:=D,done:=wi (a0.aD.done+h)}:bS),aO:=a0.aO,aY:=a0.aY,cO:=a0.cO,bJ:=a0.bJ}:aJ))
def zEL (a0:Int):Option Bool:=
(pv (decide (1<=a0))).bind λh=>
 some (h&&(decide (a0<=4)))
def xY (K:Str) (a0:Str->Option (Int×Int×Bool)) (O:Int) (H:Int) (h:LI):Option (Stp (Int×LI) LI):=
 cond (decide (H<(K.length:Int))) (((slc K H (K.length)).bind λT=>
(a0 T).bind λG=>
(slc K H (wi (H+G.2.1))).bind λaa=>
 cond G.2.2 ((app h [G.1]).bind λk=>
 some (wi (H+G.2.1),k)) ((cond (decide (O=1)) (none) (cond (decide (O=2)) ((app h [65533]).bind λD=>
 some D) (cond (decide (O=4)) (none) (some h)))).bind λ(y4:LI)=>
 some (wi (H+G.2.1),y4))).bind λ(Z:Int×LI)=>
 some (.next (Z.1,Z.2))) (some (.done h))
def zHD (a0:Str->Option (Int×Int×Bool)) (h:Str) (k:Int):Option (LI×cP):=
(zE (λ(x:Int×LI)=>xY h a0 k x.1 x.2) (0,[])).bind λ(D:LI)=>
 some (D,({cK:=0,At:=0}:cP))
def zE6 (a0:bC) (H:Str) (G:Int):Option (LI×cP):=
(zAU a0).bind λk=>
 cond (!k.2) (none) ((zEL G).bind λD=>
 cond (!D) (none) ((zHD (λx0=>jC (({ }):bR) x0) H G).bind λh=>
 some (h.1,h.2)))
def zBF (a0:Int):Option Bool:=
(pv (decide (1<=a0))).bind λh=>
 some (h&&(decide (a0<=4)))
def zD9 (a0:Int):Option Int:=
(zA7 a0).bind λh=>
 cond (!h) (some 0) (cond (decide (a0<=127)) (some 1) (cond (decide (a0<=2047)) (some 2) (cond (decide (a0<=65535)) (some 3) (some 4))))
def kQ (G:Int) (D:Int) (h:LI):Option (Stp (Int×Int×LI) (Int×LI)):=
 cond (decide (0<D)) ((yO h D).bind λH=>
(zCV h D ((IntKind.u8.wrap) (bOr .i64 128 (zRF .i64 G 63)))).bind λk=>
 some (.next (G/2 ^ 6,wi (D-1),k))) (some (.done (G,h)))
def zF4 (a0:Int):Option Str:=
(zD9 a0).bind λk=>
 cond (decide (k=1)) (some (yGB [(IntKind.u8.wrap) a0])) ((mkM 0 k).bind λD=>
(zE (λ(x:Int×Int×LI)=>kQ x.1 x.2.1 x.2.2) (a0,wi (k-1),D)).bind λ(H:Int×LI)=>
(z62 .i64 3840 k).bind λG=>
(yO H.2 (0:Int)).bind λK=>
(zCV H.2 (0:Int) ((IntKind.u8.wrap) (bOr .i64 (zRF .i64 G 255) H.1))).bind λh=>
 some (yGB h))
def zGD (a0:LI) (H:Int):Option (Str×cP):=match a0 with
 | [c]=>(zBF H).bind λk=>cond k ((zA7 c).bind λD=>cond D ((zF4 c).bind λG=>(app [] G).bind λh=>cond h.isEmpty none (some (h,{cK:=0,At:=0}))) none) none
 | _=>none
def zHE (a0:Unit) (D:Int):Option (Str×Bool):=
((zGD [D] 1).bind λh=>
 some (h.1,decide (h.2.cK=0))).bind λ(k:Str×Bool)=>
 some (k.1,k.2)
def xZ (G:LI) (h:Int) (out:Str):Option (Stp (Int×Str) Str):=
 cond (decide (h<(G.length:Int))) ((yO G h).bind λD=>(zHE () D).bind λk=>cond k.2 ((app out k.1).bind λo=>cond o.isEmpty none (some (.next (wi (h+1),o)))) none) (some (.done out))
def zE7 (a0:bC) (D:LI) (G:Int):Option (Str×cP):=
(zAU a0).bind λh=>cond h.2 ((zEL G).bind λk=>cond k ((zE (λx=>xZ D x.1 x.2) (0,[])).bind λy=>some (y,{cK:=0,At:=0})) none) none
def zBW (a0:bC) (O:bC) (T:Str) (D:Int):Option (Str×cP):=
(zAU a0).bind λH=>
(zAU O).bind λK=>
(pv (!H.2)).bind λG=>
 cond (G ||(!K.2)) (none) (cond (decide (D=1)) (none) ((zE6 a0 T D).bind λh=>
 cond (!decide (h.2.cK=0)) (none) ((zE7 O h.1 D).bind λk=>
 some (k.1,k.2))))
def vM (a0:aJ):Option (aJ):=
(xJ ({aD:=a0.aD,aO:=false,aY:=a0.aY,cO:=a0.cO,bJ:=a0.bJ}:aJ) (a0.aD.rest.length:Int)).bind λh=>
 some ({aD:=h.2.aD,aO:=false,aY:=a0.aY,cO:=a0.cO,bJ:=a0.bJ}:aJ)
def xK (a0:aJ) (D:Int):Option (Str×cP×aJ):=
(xJ a0 D).bind λh=>
(zBW a0.aY a0.cO h.1 a0.bJ).bind λk=>
 cond (!decide (k.2.cK=0)) (none) (some (k.1,({cK:=0,At:=0}:cP),({aD:=h.2.aD,aO:=a0.aO,aY:=a0.aY,cO:=a0.cO,bJ:=a0.bJ}:aJ)))
def wC (a0:aJ) (H:Str):Option (Str×cP×aJ):=
(xP a0).bind λG=>
 cond G.1 (none) ((vU G.2 H).bind λh=>
(uM h.aY h.aD.rest).bind λD=>
(xK h D).bind λk=>
 some (k.1,k.2.1,k.2.2))
def yX (a0:Str) (K:Int) (H:Int) (h:LI):Option (Stp (Int×LI) LI):=
 cond (decide (H<(a0.length:Int))) (((slc a0 H (a0.length)).bind λT=>
(zEK T).bind λk=>
(slc a0 H (wi (H+k.2.1))).bind λaa=>
 cond k.2.2 ((app h [k.1]).bind λD=>
 some (wi (H+k.2.1),D)) ((cond (decide (K=1)) (none) (cond (decide (K=3)) (some (.inl ())) (cond (decide (K=2)) ((app h [65533]).bind λG=>
 some (.inr (G))) (cond (decide (K=4)) (none) (some (.inr (h))))))).bind λ(O:Unit⊕LI)=>
 O.elim (λO=>some (wi (H+k.2.1),h)) (λO=>some (wi (H+k.2.1),O)))).bind λ(Z:Int×LI)=>
 some (.next (Z.1,Z.2))) (some (.done h))
def vQ (a0:Str) (k:Int):Option (LI×cP):=
(zBF k).bind λh=>
 cond (!h) (none) ((zE (λ(x:Int×LI)=>yX a0 k x.1 x.2) (0,[])).bind λ(D:LI)=>
 some (D,({cK:=0,At:=0}:cP)))
def vW (a0:aM) (k:LI):Option (aM):=
(app a0.aD.pending k).bind λh=>
 some ({aD:=({pending:=h}:bI),norm:=a0.norm,form:=a0.form,aO:=a0.aO}:aM)
def uN (k:bD) (G:Int) (D:(List Range)):Option (Stp (List Range) (List Range)):=
(app D [({Lo:=k.x1,Hi:=k.x1}:Range)]).bind λh=>
 some (.next h)
def zBG (h:(List Range)):Option (Stp (List Range) (List Range)):=
 some (.done h)
def zDI (a0:Norm):Option (Set):=
(zBB a0).bind λD=>
(xI D).bind λh=>
 zT3 h λp=>(zT2 (λ(u:bD×Int) (x:(List Range))=>uN u.1 u.2 x) (λ(x:(List Range))=>zBG x) p [({Lo:=4449,Hi:=4469}:Range),({Lo:=4520,Hi:=4546}:Range)]).bind λ(G:(List Range))=>
(zGN G).bind λk=>
 some k
def zBH (a0:Norm) (h:Int):Option (bV×Bool):=
(xN a0).bind λG=>
(cond (!decide (G=0)) (none) (some ())).bind λ(T:Unit)=>
((cond (decide (h=1)) (some (decide (h=1))) (some (decide (h=3)))).bind λ(K:Bool)=>
 cond K ((zDI a0).bind λD=>
 some D.Ranges) ((cond (decide (h=2)) (some (decide (h=2))) (some (decide (h=4)))).bind λ(O:Bool)=>
 cond O (some ((({Ranges:=[]}):Set).Ranges)) (none))).bind λ(H:(List Range))=>
(pv (decide (h=3))).bind λk=>
 some (({norm:=a0,form:=h,cX:=(k ||(decide (h=4))),cU:=({Ranges:=H}:Set)}:bV),true)
def z7 (Z:LI) (items:LI) (G:Bool) (T:Int) (h:Nat) (O:(List (Int×Bool))):Option (Stp (Int×Nat×(List (Int×Bool))) (Nat⊕Nat)):=
 cond (decide (T<(Z.length:Int))) (((yO Z T).bind λk=>
(pv (decide (k<0))).bind λH=>
(pv (H ||(decide (1114111<k)))).bind λK=>
 cond (K ||(wR O k false)) (some (.inl (h,O))) ((yM items h k).bind λaa=>
 cond (!(goB G items.length h)) (some (.inr (h+1))) (some (.inl (h+1,vS O k true))))).bind λ(D:(Nat×(List (Int×Bool)))⊕Nat)=>
 D.elim (λD=>some (.next (wi (T+1),D.1,D.2))) (λD=>some (.done (.inr (D))))) (some (.done (.inl (h))))
def vX (items:LI) (h:Bool) (D:LI):Option Unit:=
(zE (λ(x:Int×Nat×(List (Int×Bool)))=>z7 D items h x.1 x.2.1 x.2.2) (0,0,[])).bind λ(k:Nat⊕Nat)=>
 k.elim (λk=>zZL items k) (λk=>zZL items k)
def vG:LI->LI
 | []=>[]
 | c::r=>if 0<=c/\c<=1114111 then c::(vG r).filter (λx=>!decide (x=c)) else vG r
def xD (a0:LI) (h:bV):Option (LI):=
(jL h.norm a0 h.cX).bind λk=>
 some k
def wQ (a0:LI) (D:Int) (h:LI):Option (Stp (Int×LI) LI):=
 cond (decide (D<(a0.length:Int))) ((yO a0 D).bind λG=>
(app h [G,(-1)]).bind λk=>
 some (.next (wi (D+1),k))) (some (.done h))
def xS (K:LI) (H:Int) (D:(List LI)) (h:LI):Option (Stp (Int×(List LI)×LI) (List LI)):=
 cond (decide (H<(K.length:Int))) (((yO K H).bind λO=>
 cond (!decide (O=(-1))) ((app h [O]).bind λk=>
 some (D,k)) ((app D [h]).bind λG=>
 some (G,[]))).bind λ(T:(List LI)×LI)=>
 some (.next (wi (H+1),T.1,T.2))) (some (.done D))
def zFJ (a0:LI) (k:LI->Option LI):Option (List LI):=
(zE (λ(x:Int×LI)=>wQ a0 x.1 x.2) (0,[])).bind λ(G:LI)=>
(mkM ([]:LI) (a0.length:Int)).bind λD=>
(k G).bind λh=>
(zE (λ(x:Int×(List LI)×LI)=>xS h x.1 x.2.1 x.2.2) (0,[],[])).bind λ(H:(List LI))=>
 some H
def wU (a0:bV) (h:LI):Option (List LI):=
(zFJ h (λx0=>xD x0 a0)).bind λk=>
 some k
def kR (O:(List LI)) (T:LI) (K:bV×Bool) (h:Int) (H:(List (Int×Bool))):Option (Stp (Int×(List (Int×Bool))) (List (Int×Bool))):=
 cond (decide (h<(O.length:Int))) ((yO O h).bind λG=>
(yO T h).bind λZ=>
(pv (decide ((G.length:Int)=0))).bind λk=>
(gM (!k) (yO G (0:Int))).bind λaa=>
(gM (!k) (uI K.1.norm.aI aa)).bind λab=>
(pv (k ||(!ab))).bind λD=>
(gM (!D) (yO G (0:Int))).bind λac=>
(gM (!D) (zG2 K.1.cU ac)).bind λad=>
 some (.next (wi (h+1),vS H Z (D ||ad)))) (some (.done H))
def jG (H:LI) (K:(List (Int×Bool))) (D:Int) (h:LI):Option (Stp (Int×LI) LI):=
 cond (decide (D<(H.length:Int))) (((yO H D).bind λG=>
 cond (!(wR K G false)) ((app h [D]).bind λk=>
 some k) (some h)).bind λ(O:LI)=>
 some (.next (wi (D+1),O))) (some (.done h))
def xV (a0:Norm) (K:Int) (D:LI):Option LI:=
(zBH a0 K).bind λh=>
(cond h.2 ((vX (vG D) false D).bind λH=>
(z7H (vG D)).bind λk=>
(wU h.1 k).bind λG=>
(zE (λ(x:Int×(List (Int×Bool)))=>kR G k h x.1 x.2) (0,[])).bind λ(T:(List (Int×Bool)))=>
 some T) (some [])).bind λ(O:(List (Int×Bool)))=>
(zE (λ(x:Int×LI)=>jG D O x.1 x.2) (0,[])).bind λ(Z:LI)=>
 some Z
def vY (a0:aM) (H:Int):Option (LI×aM):=
(slc a0.aD.pending 0 H).bind λh=>
(yR h).bind λk=>
(slc a0.aD.pending H (a0.aD.pending.length)).bind λD=>
(yR D).bind λG=>
 some (k,({aD:=({pending:=G}:bI),norm:=a0.norm,form:=a0.form,aO:=a0.aO}:aM))
def zDU (a0:aM):Option (aM):=
 some ({aD:=({pending:=[]}:bI),norm:=({aI:=[],aA:=[],aL:=({Ranges:=[]}:Set)}:Norm),form:=0,aO:=false}:aM)
def xE (a0:aM) (T:LI):Option (LI×Int×aM):=
(pv false).bind λH=>
 cond (H ||(!a0.aO)) (none) ((vW a0 T).bind λh=>
(xV h.norm h.form T).bind λG=>
(cond (decide (0<(G.length:Int))) ((yO G (wi ((G.length:Int)-1))).bind λK=>
(vY h (wi ((a0.aD.pending.length:Int)+K))).bind λk=>
 some (k.1,k.2.norm.aI,k.2.norm.aA,k.2.norm.aL.Ranges,k.2.form,k.2.aO,k.2.aD.pending)) (some ([],h.norm.aI,h.norm.aA,h.norm.aL.Ranges,h.form,h.aO,h.aD.pending))).bind λ(D:LI×(List bL)×(List aG)×(List Range)×Int×Bool×LI)=>
 cond (decide (65536<(D.2.2.2.2.2.2.length:Int))) (none) ((jM ({aI:=D.2.1,aA:=D.2.2.1,aL:=({Ranges:=D.2.2.2.1}:Set)}:Norm) D.2.2.2.2.1 D.1).bind λO=>
 some (O,0,({aD:=({pending:=D.2.2.2.2.2.2}:bI),norm:=({aI:=D.2.1,aA:=D.2.2.1,aL:=({Ranges:=D.2.2.2.1}:Set)}:Norm),form:=D.2.2.2.2.1,aO:=D.2.2.2.2.2.1}:aM))))
def xF (a0:aK) (h:Int):Option (aK):=
 cond (decide (0<(wi (a0.aD.at_-h)))) ((slc a0.aD.items (wi (a0.aD.at_-h)) (a0.aD.items.length)).bind λk=>
(yR k).bind λD=>
 some ({aD:=({items:=D,at_:=wi (a0.aD.at_-(wi (a0.aD.at_-h)))}:bG),rules:=a0.rules,before:=a0.before,ahead:=a0.ahead,aO:=a0.aO}:aK)) (some a0)
def vD (a0:aK):Option (LI×aK):=
(slc a0.aD.items a0.aD.at_ (a0.aD.items.length)).bind λh=>
 some (h,a0)
def zEM (a0:aE) (h:Int):Option (Set×Bool):=
 cond (decide (h<(a0.aX.length:Int))) ((yO a0.aX h).bind λk=>
 some (k,true)) (cond (decide ((wi (h-(a0.aX.length:Int)))<(a0.bP.length:Int))) ((yO a0.bP (wi (h-(a0.aX.length:Int)))).bind λD=>
 some (D,true)) (some (({Ranges:=[]}:Set),false)))
def wT (a0:aE) (H:LI) (K:Int) (h:Int):Option (Stp Int (Unit⊕Bool)):=
 cond (decide (h<(a0.aR.length:Int))) ((yO a0.aR h).bind λk=>
(yO H (wi ((wi (K-(a0.aR.length:Int)))+h))).bind λD=>
(zG2 k D).bind λG=>
 cond (!G) (some (.done (.inr (false)))) (some (.next (wi (h+1))))) (some (.done (.inl ())))
def zBI (a0:aE) (D:LI) (k:Int):Option Bool:=
 cond (decide ((wi (k-(a0.aR.length:Int)))<0)) (some false) ((zE (λ(x:Int)=>wT a0 D k x) 0).bind λ(h:Unit⊕Bool)=>
 h.elim (λh=>some true) (λh=>some h))
def k5 (H:LI) (a0:aW) (a2:Int) (a3:Int) (D:Int) (h:LI):Option (Stp (Int×LI) LI):=
 cond (decide (D<(H.length:Int))) (((yO H D).bind λK=>
(yO a0.rules K).bind λT=>
(zEM T a2).bind λO=>
(pv O.2).bind λG=>
(gM G (zG2 O.1 a3)).bind λZ=>
 cond (G&&Z) ((app h [K]).bind λk=>
 some k) (some h)).bind λ(y2:LI)=>
 some (.next (wi (D+1),y2))) (some (.done h))
def u2 (a0:aW) (k:Int) (H:Int) (D:Int):Option (Int×aW):=
 cond (zB0 a0.next ({c9:=k,code:=D}:aP)) (some (wR a0.next ({c9:=k,code:=D}:aP) 0,a0)) ((yO a0.cg k).bind λG=>
(zE (λ(x:Int×LI)=>k5 G a0 H D x.1 x.2) (0,[])).bind λ(K:LI)=>
(app a0.cg [K]).bind λh=>
 some ((a0.cg.length:Int),({rules:=a0.rules,next:=vS a0.next ({c9:=k,code:=D}:aP) (a0.cg.length:Int),cg:=h}:aW)))
def kS (G:LI) (H:Int) (h:(List aE)) (ac:Int) (a1:LI) (a2:Int) (D:Int):Option (Stp Int Int):=
 cond (decide (D<(G.length:Int))) (((yO G D).bind λk=>
(pv (decide (0<=H))).bind λO=>
 cond (O&&(decide (H<=k))) (some (.inl (H))) ((yO h k).bind λT=>
(zEM T ac).bind λZ=>
 cond Z.2 (some (.inr ())) ((yO h k).bind λaa=>
(zBI aa a1 a2).bind λab=>
 cond ab (some (.inl (k))) (some (.inr ()))))).bind λ(K:Int⊕Unit)=>
 K.elim (λK=>some (.done K)) (λK=>some (.next (wi (D+1))))) (some (.done H))
def xL (K:LI) (O:Int) (v8:Int) (v9:Int) (G:Int) (h:(List aE)) (D:(List (aP×Int))) (k:(List LI)):Option (Stp (Int×Int×Int×(List aE)×(List (aP×Int))×(List LI)) (Int×(List aE)×(List (aP×Int))×(List LI))):=
(yO k v9).bind λT=>
 cond (decide (0<(T.length:Int))) ((yO k v9).bind λZ=>
(zE (λ(x:Int)=>kS Z v8 h G K O x) 0).bind λ(y2:Int)=>
 cond (decide ((K.length:Int)<=(wi (O+G)))) (some (.done (y2,h,D,k))) ((yO K (wi (O+G))).bind λaa=>
(u2 ({rules:=h,next:=D,cg:=k}:aW) v9 G aa).bind λH=>
 some (.next (y2,H.1,wi (G+1),H.2.rules,H.2.next,H.2.cg)))) (some (.done (v8,h,D,k)))
def vO (a0:aW) (D:LI) (G:Int):Option (Int×Int×aW):=
(zE (λ(x:Int×Int×Int×(List aE)×(List (aP×Int))×(List LI))=>xL D G x.1 x.2.1 x.2.2.1 x.2.2.2.1 x.2.2.2.2.1 x.2.2.2.2.2) ((-1),0,0,a0.rules,a0.next,a0.cg)).bind λ(h:Int×(List aE)×(List (aP×Int))×(List LI))=>
 cond (decide (h.1<0)) (some ((-1),1,({rules:=h.2.1,next:=h.2.2.1,cg:=h.2.2.2}:aW))) ((yO h.2.1 h.1).bind λk=>
 some (h.1,(k.aX.length:Int),({rules:=h.2.1,next:=h.2.2.1,cg:=h.2.2.2}:aW)))
def zE8 (a0:(List aE)) (H:LI) (k:Int):Option (Int×Int):=
(pv (decide (k<0))).bind λD=>
 cond (D ||(decide ((H.length:Int)<=k))) (some ((-1),0)) ((w7 a0).bind λG=>
(vO G H k).bind λh=>
 some (h.1,h.2.1))
def yN (O:aE) (K:LI×aK) (H:Int) (h:LI):Option (Stp (Int×LI) LI):=
 cond (decide (H<(O.Result.length:Int))) (((yO O.Result H).bind λG=>
 cond (decide (G.bW=0)) ((app h [G.Code]).bind λk=>
 some k) ((yO K.2.aD.items (wi ((wi (K.2.aD.at_+G.bW))-1))).bind λT=>
(app h [T]).bind λD=>
 some D)).bind λ(Z:LI)=>
 some (.next (wi (H+1),Z))) (some (.done h))
def jD (a1:Int) (k:LI) (D:Int) (G:(List aE)) (H:Int) (K:Int) (O:Bool) (Z:LI):Option (Stp (LI×Int×(List aE)×Int×Int×Bool×LI) (LI×Int×(List aE)×Int×Int×Bool×LI)):=
(vD ({aD:=({items:=Z,at_:=D}:bG),rules:=G,before:=H,ahead:=K,aO:=O}:aK)).bind λh=>
 cond (decide (a1<=(h.1.length:Int))) (((zE8 h.2.rules h.2.aD.items h.2.aD.at_).bind λaa=>
 cond (decide (aa.1<0)) ((yO h.2.aD.items h.2.aD.at_).bind λab=>
(app k [ab]).bind λT=>
 some (T,wi (h.2.aD.at_+1))) ((yO h.2.rules aa.1).bind λac=>
(zE (λ(x:Int×LI)=>yN ac h x.1 x.2) (0,k)).bind λ(y4:LI)=>
 some (y4,wi (h.2.aD.at_+aa.2)))).bind λ(y2:LI×Int)=>
 some (.next (y2.1,y2.2,h.2.rules,h.2.before,h.2.ahead,h.2.aO,h.2.aD.items))) (some (.done (k,h.2.aD.at_,h.2.rules,h.2.before,h.2.ahead,h.2.aO,h.2.aD.items)))
def jH (a0:aK) (k:Int):Option (LI×aK):=
(zE (λ(x:LI×Int×(List aE)×Int×Int×Bool×LI)=>jD k x.1 x.2.1 x.2.2.1 x.2.2.2.1 x.2.2.2.2.1 x.2.2.2.2.2.1 x.2.2.2.2.2.2) ([],a0.aD.at_,a0.rules,a0.before,a0.ahead,a0.aO,a0.aD.items)).bind λ(h:LI×Int×(List aE)×Int×Int×Bool×LI)=>
 some (h.1,({aD:=({items:=h.2.2.2.2.2.2,at_:=h.2.1}:bG),rules:=h.2.2.1,before:=h.2.2.2.1,ahead:=h.2.2.2.2.1,aO:=h.2.2.2.2.2.1}:aK))
def kT (a0:aK) (G:LI):Option (LI×Int×aK):=
(pv false).bind λH=>
 cond (H ||(!a0.aO)) (none) ((app a0.aD.items G).bind λh=>
(jH ({aD:=({items:=h,at_:=a0.aD.at_}:bG),rules:=a0.rules,before:=a0.before,ahead:=a0.ahead,aO:=a0.aO}:aK) a0.ahead).bind λk=>
(xF k.2 a0.before).bind λD=>
 some (k.1,0,D))
def zAZ (a0:aZ) (O:Str):Option (Bool×aZ):=
(vQ O 1).bind λG=>
(xE a0.b4 G.1).bind λk=>
(kT a0.rules k.1).bind λD=>
(app a0.out D.1).bind λh=>
(pv (decide (G.2.cK=0))).bind λH=>
(pv (H&&(decide (k.2.1=0)))).bind λK=>
 some ((K&&(decide (D.2.1=0))),({bytes:=a0.bytes,b4:=k.2.2,rules:=D.2.2,out:=h}:aZ))
def wD (a0:aJ):Option (Str×cP×aJ):=
(xP a0).bind λD=>
 cond D.1 (none) ((xK D.2 (D.2.aD.rest.length:Int)).bind λh=>
(vM h.2.2).bind λk=>
 some (h.1,h.2.1,k))
def wE (a0:aM):Option (LI×Int×aM):=
(pv false).bind λD=>
 cond (D ||(!a0.aO)) (none) ((jM a0.norm a0.form a0.aD.pending).bind λk=>
(zDU a0).bind λh=>
 some (k,0,({aD:=({pending:=[]}:bI),norm:=({aI:=[],aA:=[],aL:=({Ranges:=[]}:Set)}:Norm),form:=h.form,aO:=h.aO}:aM)))
def xQ (a0:aK):Option (LI×Int×aK):=
(pv false).bind λk=>
 cond (k ||(!a0.aO)) (none) ((jH a0 1).bind λh=>
 some (h.1,0,({aD:=({items:=[],at_:=0}:bG),rules:=[],before:=0,ahead:=0,aO:=false}:aK)))
def zDJ (a0:aZ):Option (Bool×aZ):=
(wD a0.bytes).bind λK=>
(pv (!decide (K.2.1.cK=0))).bind λT=>
(z7D T false).bind λab=>
(zAZ ({bytes:=K.2.2,b4:=a0.b4,rules:=a0.rules,out:=a0.out}:aZ) K.1).bind λG=>
 cond (false ||(!G.1)) (none) ((wE G.2.b4).bind λH=>
(kT G.2.rules H.1).bind λO=>
(app G.2.out O.1).bind λk=>
(xQ O.2.2).bind λh=>
(app k h.1).bind λD=>
(pv (decide (H.2.1=0))).bind λZ=>
(pv (Z&&(decide (O.2.1=0)))).bind λaa=>
 some ((aa&&(decide (h.2.1=0))),({bytes:=G.2.bytes,b4:=({aD:=({pending:=[]}:bI),norm:=({aI:=[],aA:=[],aL:=({Ranges:=[]}:Set)}:Norm),form:=H.2.2.form,aO:=H.2.2.aO}:aM),rules:=({aD:=({items:=[],at_:=h.2.2.aD.at_}:bG),rules:=[],before:=h.2.2.before,ahead:=h.2.2.ahead,aO:=h.2.2.aO}:aK),out:=D}:aZ)))
def jZ (K:aE) (T:LI) (Z:Int) (H:Int) (h:LI):Option (Stp (Int×LI) LI):=
 cond (decide (H<(K.Result.length:Int))) (((yO K.Result H).bind λG=>
 cond (decide (G.bW=0)) ((app h [G.Code]).bind λk=>
 some k) ((yO T (wi ((wi (Z+G.bW))-1))).bind λO=>
(app h [O]).bind λD=>
 some D)).bind λ(y5:LI)=>
 some (.next (wi (H+1),y5))) (some (.done h))
def wH (Z:LI) (O:Int) (k:LI) (D:(List aE)) (H:(List (aP×Int))) (K:(List LI)):Option (Stp (Int×LI×(List aE)×(List (aP×Int))×(List LI)) LI):=
 cond (decide (O<(Z.length:Int))) (((vO ({rules:=D,next:=H,cg:=K}:aW) Z O).bind λh=>
 cond (decide (h.1<0)) ((yO Z O).bind λaa=>
(app k [aa]).bind λG=>
 some (wi (O+1),G,h.2.2.rules,h.2.2.next,h.2.2.cg)) ((yO h.2.2.rules h.1).bind λab=>
(zE (λ(x:Int×LI)=>jZ ab Z O x.1 x.2) (0,k)).bind λ(y4:LI)=>
 some (wi (O+h.2.1),y4,h.2.2.rules,h.2.2.next,h.2.2.cg))).bind λ(T:Int×LI×(List aE)×(List (aP×Int))×(List LI))=>
 some (.next (T.1,T.2.1,T.2.2.1,T.2.2.2.1,T.2.2.2.2))) (some (.done k))
def zEA (a0:(List aE)) (k:LI):Option LI:=
(w7 a0).bind λh=>
(zE (λ(x:Int×LI×(List aE)×(List (aP×Int))×(List LI))=>wH k x.1 x.2.1 x.2.2.1 x.2.2.2.1 x.2.2.2.2) (0,[],h.rules,h.next,h.cg)).bind λ(D:LI)=>
 some D
def zAN (ar:(List Str)) (aq:Int) (k:Str) (D:Int) (G:Bool) (H:Int) (K:LI) (O:Int) (T:LI) (Z:Int) (aa:(List bL)) (ab:(List aG)) (ac:(List Range)) (ad:Int) (ag:Bool) (ah:Int) (ai:(List aE)) (aj:Int) (ak:Int) (al:Bool) (am:LI) (an:LI) (ao:LI):Option (Stp (Int×Str×Int×Bool×Int×LI×Int×LI×Int×(List bL)×(List aG)×(List Range)×Int×Bool×Int×(List aE)×Int×Int×Bool×LI×LI×LI) (Str×Int×Bool×Int×LI×Int×LI×Int×(List bL)×(List aG)×(List Range)×Int×Bool×Int×(List aE)×Int×Int×Bool×LI×LI×LI)):=
 cond (decide (aq<(ar.length:Int))) ((yO ar aq).bind λaw=>
(wC ({aD:=({rest:=k,done:=D}:bS),aO:=G,aY:=({bK:=H,Charset:=({bB:=K}:Charset)}:bC),cO:=({bK:=O,Charset:=({bB:=T}:Charset)}:bC),bJ:=Z}:aJ) aw).bind λap=>
(pv (!decide (ap.2.1.cK=0))).bind λau=>
(z7D au false).bind λax=>
(zAZ ({bytes:=ap.2.2,b4:=({aD:=({pending:=am}:bI),norm:=({aI:=aa,aA:=ab,aL:=({Ranges:=ac}:Set)}:Norm),form:=ad,aO:=ag}:aM),rules:=({aD:=({items:=an,at_:=ah}:bG),rules:=ai,before:=aj,ahead:=ak,aO:=al}:aK),out:=ao}:aZ) ap.1).bind λh=>
 cond (false ||(!h.1)) (none) (some (.next (wi (aq+1),h.2.bytes.aD.rest,h.2.bytes.aD.done,h.2.bytes.aO,h.2.bytes.aY.bK,h.2.bytes.aY.Charset.bB,h.2.bytes.cO.bK,h.2.bytes.cO.Charset.bB,h.2.bytes.bJ,h.2.b4.norm.aI,h.2.b4.norm.aA,h.2.b4.norm.aL.Ranges,h.2.b4.form,h.2.b4.aO,h.2.rules.aD.at_,h.2.rules.rules,h.2.rules.before,h.2.rules.ahead,h.2.rules.aO,h.2.b4.aD.pending,h.2.rules.aD.items,h.2.out)))) (some (.done (k,D,G,H,K,O,T,Z,aa,ab,ac,ad,ag,ah,ai,aj,ak,al,am,an,ao)))
def zHF (a0:cE):Option Bool:=
(zIO a0.Norm).bind λau=>
(pv (!au)).bind λaa=>
(gM (!aa) (zIP a0.cV)).bind λaw=>
(pv (aa ||(!aw))).bind λab=>
(gM (!ab) (zIU a0.Norm)).bind λax=>
(pv (ab ||(!decide (ax=0)))).bind λac=>
(gM (!ac) (zIV a0.cV)).bind λay=>
(pv (ac ||(!decide (ay=0)))).bind λak=>
(pv (ak ||(decide (40<(a0.cN.length:Int))))).bind λal=>
(pv (al ||(decide (6<(a0.dE.length:Int))))).bind λam=>
(pv (am ||(decide (a0.cS<1)))).bind λan=>
 cond (an ||(decide (4<a0.cS))) (top_alive7.bind λaz=>
 some az) ((zE4 ({bK:=1,Charset:=({bB:=(({bB:=[]}):Charset).bB}:Charset)}:bC) ({bK:=1,Charset:=({bB:=(({bB:=[]}):Charset).bB}:Charset)}:bC) 2).bind λk=>
(zE5 a0.Norm a0.cS).bind λD=>
(zD7 a0.cV).bind λG=>
(pv (!decide (k.2=0))).bind λao=>
(pv (ao ||(!decide (D.2=0)))).bind λap=>
(pv (ap ||(!decide (G.2=0)))).bind λaq=>
(pv (aq ||false)).bind λar=>
(pv (ar ||false)).bind λZ=>
 cond (Z ||false) (none) ((zKE a0.cN a0.dE).bind λad=>
(zE (λ(x:Int×Str×Int×Bool×Int×LI×Int×LI×Int×(List bL)×(List aG)×(List Range)×Int×Bool×Int×(List aE)×Int×Int×Bool×LI×LI×LI)=>zAN ad x.1 x.2.1 x.2.2.1 x.2.2.2.1 x.2.2.2.2.1 x.2.2.2.2.2.1 x.2.2.2.2.2.2.1 x.2.2.2.2.2.2.2.1 x.2.2.2.2.2.2.2.2.1 x.2.2.2.2.2.2.2.2.2.1 x.2.2.2.2.2.2.2.2.2.2.1 x.2.2.2.2.2.2.2.2.2.2.2.1 x.2.2.2.2.2.2.2.2.2.2.2.2.1 x.2.2.2.2.2.2.2.2.2.2.2.2.2.1 x.2.2.2.2.2.2.2.2.2.2.2.2.2.2.1 x.2.2.2.2.2.2.2.2.2.2.2.2.2.2.2.1 x.2.2.2.2.2.2.2.2.2.2.2.2.2.2.2.2.1 x.2.2.2.2.2.2.2.2.2.2.2.2.2.2.2.2.2.1 x.2.2.2.2.2.2.2.2.2.2.2.2.2.2.2.2.2.2.1 x.2.2.2.2.2.2.2.2.2.2.2.2.2.2.2.2.2.2.2.1 x.2.2.2.2.2.2.2.2.2.2.2.2.2.2.2.2.2.2.2.2.1 x.2.2.2.2.2.2.2.2.2.2.2.2.2.2.2.2.2.2.2.2.2) (0,k.1.aD.rest,k.1.aD.done,k.1.aO,k.1.aY.bK,k.1.aY.Charset.bB,k.1.cO.bK,k.1.cO.Charset.bB,k.1.bJ,D.1.norm.aI,D.1.norm.aA,D.1.norm.aL.Ranges,D.1.form,D.1.aO,G.1.aD.at_,G.1.rules,G.1.before,G.1.ahead,G.1.aO,D.1.aD.pending,G.1.aD.items,[])).bind λ(h:Str×Int×Bool×Int×LI×Int×LI×Int×(List bL)×(List aG)×(List Range)×Int×Bool×Int×(List aE)×Int×Int×Bool×LI×LI×LI)=>
(zDJ ({bytes:=({aD:=({rest:=h.1,done:=h.2.1}:bS),aO:=h.2.2.1,aY:=({bK:=h.2.2.2.1,Charset:=({bB:=h.2.2.2.2.1}:Charset)}:bC),cO:=({bK:=h.2.2.2.2.2.1,Charset:=({bB:=h.2.2.2.2.2.2.1}:Charset)}:bC),bJ:=h.2.2.2.2.2.2.2.1}:aJ),b4:=({aD:=({pending:=h.2.2.2.2.2.2.2.2.2.2.2.2.2.2.2.2.2.2.1}:bI),norm:=({aI:=h.2.2.2.2.2.2.2.2.1,aA:=h.2.2.2.2.2.2.2.2.2.1,aL:=({Ranges:=h.2.2.2.2.2.2.2.2.2.2.1}:Set)}:Norm),form:=h.2.2.2.2.2.2.2.2.2.2.2.1,aO:=h.2.2.2.2.2.2.2.2.2.2.2.2.1}:aM),rules:=({aD:=({items:=h.2.2.2.2.2.2.2.2.2.2.2.2.2.2.2.2.2.2.2.1,at_:=h.2.2.2.2.2.2.2.2.2.2.2.2.2.1}:bG),rules:=h.2.2.2.2.2.2.2.2.2.2.2.2.2.2.1,before:=h.2.2.2.2.2.2.2.2.2.2.2.2.2.2.2.1,ahead:=h.2.2.2.2.2.2.2.2.2.2.2.2.2.2.2.2.1,aO:=h.2.2.2.2.2.2.2.2.2.2.2.2.2.2.2.2.2.1}:aK),out:=h.2.2.2.2.2.2.2.2.2.2.2.2.2.2.2.2.2.2.2.2}:aZ)).bind λO=>
 cond (!O.1) (none) ((vQ a0.cN 2).bind λT=>
(pv (decide (T.2.cK=0))).bind λH=>
(gM H (jM a0.Norm a0.cS T.1)).bind λag=>
(gM H (zEA a0.cV ag)).bind λah=>
(z7D H true).bind λba=>
(zG3 O.2.out ah).bind λai=>
(pv (true&&ai)).bind λK=>
(gM K (top_alive7)).bind λaj=>
 some (K&&aj))))
end
end Go.M


/- Plain counterparts of the program's functions, printed from its form. Conditions: none. -/
import Derived.Test.YtjnpmmedmedokaaGreatDoorLa4
set_option linter.unusedSimpArgs false
set_option linter.unusedVariables false
set_option linter.unnecessarySimpa false
namespace Go.M
structure bZ where
 x0:Int
 x1:Int
 x2:Int
 deriving DecidableEq,Inhabited
structure bC where
 x0:Int
 x1:Int
 x2:Int
 x3:Int
 deriving DecidableEq,Inhabited
structure b0 where
 x0:(List Int)
 x1:(List Int)
 x2:(List Int)
 x3:(List Int)
 deriving DecidableEq,Inhabited
structure Range where
 Lo:Int
 Hi:Int
 deriving DecidableEq,Inhabited
structure cC where
 x0:Range
 x1:Range
 x2:Range
 x3:Range
 deriving DecidableEq,Inhabited
structure bU where
 x0:Int
 x1:Int
 x2:Int
 x3:Int
 x4:Int
 x5:Int
 x6:Int
 x7:Int
 x8:Int
 deriving DecidableEq,Inhabited
structure aP where
 aS:Int
 aL:Int
 aO:Int
 aD:Bool
 deriving DecidableEq,Inhabited
structure bO where
 aW:(List Int)
 aU:(List aP)
 deriving DecidableEq,Inhabited
structure b6 where
 bS:Str
 Lo:Int
 Hi:Int
 deriving DecidableEq,Inhabited
structure Collation where
 aB:(List bO)
 aF:(List b6)
 bJ:Int
 bA:Int
 bI:Int
 deriving DecidableEq,Inhabited
structure bL where
 Lo:Int
 Hi:Int
 Value:Int
 deriving DecidableEq,Inhabited
structure bG where
 c:Collation
 entries:(List (bU×(List aP)))
 bT:Int
 bQ:(List bL)
 top:Int
 deriving DecidableEq,Inhabited
structure aI where
 aV:Int
 To:(List Int)
 bN:Str
 deriving DecidableEq,Inhabited
structure bM where
 cG:Int
 cL:Str
 deriving DecidableEq,Inhabited
structure Set where
 Ranges:(List Range)
 deriving DecidableEq,Inhabited
structure Norm where
 aK:(List bL)
 aA:(List aI)
 aN:Set
 deriving DecidableEq,Inhabited
structure Options where
 aJ:Int
 aD:Int
 aQ:Bool
 aT:Bool
 deriving DecidableEq,Inhabited
structure bP where
 norm:Norm
 bY:Collation
 b8:Options
 text:(List Int)
 wanted:(List (List Int))
 bW:(List aP)
 b4:(List Int)
 b5:(List (Int×Int))
 b3:(List (Int×Int))
 deriving DecidableEq,Inhabited
structure bK where
 Norm:Norm
 Collation:Collation
 Options:Options
 bV:(List Int)
 cf:(List Int)
 cD:(List Int)
 deriving DecidableEq,Inhabited
structure Normalize_steps where
 norm:Norm
 deriving DecidableEq,Inhabited
structure Unicodetexttop_Setting where
 Norm:Norm
 Collation:Collation
 Options:Options
 deriving DecidableEq,Inhabited
def zUP (x:Range):Prop:=(-9223372036854775808<=x.Lo/\x.Lo<=9223372036854775807)/\(-9223372036854775808<=x.Hi/\x.Hi<=9223372036854775807)
def zOV (x:aP):Prop:=(-9223372036854775808<=x.aS/\x.aS<=9223372036854775807)/\(-9223372036854775808<=x.aL/\x.aL<=9223372036854775807)/\(-9223372036854775808<=x.aO/\x.aO<=9223372036854775807)/\True
def zUQ (x:bO):Prop:=(x.aW.length<=9223372036854775807/\∀h∈x.aW,(-9223372036854775808<=h/\h<=9223372036854775807))/\(x.aU.length<=9223372036854775807/\∀h∈x.aU,(zOV h))
def zUR (x:b6):Prop:=(x.bS.length<=9223372036854775807)/\(-9223372036854775808<=x.Lo/\x.Lo<=9223372036854775807)/\(-9223372036854775808<=x.Hi/\x.Hi<=9223372036854775807)
def zHQ (x:Collation):Prop:=(x.aB.length<=9223372036854775807/\∀h∈x.aB,(zUQ h))/\(x.aF.length<=9223372036854775807/\∀h∈x.aF,(zUR h))/\(-9223372036854775808<=x.bJ/\x.bJ<=9223372036854775807)/\(-9223372036854775808<=x.bA/\x.bA<=9223372036854775807)/\(-9223372036854775808<=x.bI/\x.bI<=9223372036854775807)
def b9 (x:bL):Prop:=(-9223372036854775808<=x.Lo/\x.Lo<=9223372036854775807)/\(-9223372036854775808<=x.Hi/\x.Hi<=9223372036854775807)/\(-9223372036854775808<=x.Value/\x.Value<=9223372036854775807)
def zOW (x:aI):Prop:=(-9223372036854775808<=x.aV/\x.aV<=9223372036854775807)/\(x.To.length<=9223372036854775807/\∀h∈x.To,(-9223372036854775808<=h/\h<=9223372036854775807))/\(x.bN.length<=9223372036854775807)
def z4E (x:Set):Prop:=(x.Ranges.length<=9223372036854775807/\∀h∈x.Ranges,(zUP h))
def vZ (x:Norm):Prop:=(x.aK.length<=9223372036854775807/\∀h∈x.aK,(b9 h))/\(x.aA.length<=9223372036854775807/\∀h∈x.aA,(zOW h))/\(z4E x.aN)
def zOX (x:Options):Prop:=(-9223372036854775808<=x.aJ/\x.aJ<=9223372036854775807)/\(-9223372036854775808<=x.aD/\x.aD<=9223372036854775807)/\True/\True
def wH (x:bK):Prop:=(vZ x.Norm)/\(zHQ x.Collation)/\(zOX x.Options)/\(x.bV.length<=9223372036854775807/\∀h∈x.bV,(-9223372036854775808<=h/\h<=9223372036854775807))/\(x.cf.length<=9223372036854775807/\∀h∈x.cf,(-9223372036854775808<=h/\h<=9223372036854775807))/\(x.cD.length<=9223372036854775807/\∀h∈x.cD,(-9223372036854775808<=h/\h<=9223372036854775807))
end Go.M
namespace Go.AV
open Go.M
def zGX (x:bU):Value:= .agg #[.int IntKind.i64 x.x0,.int IntKind.i64 x.x1,.int IntKind.i64 x.x2,.int IntKind.i64 x.x3,.int IntKind.i64 x.x4,.int IntKind.i64 x.x5,.int IntKind.i64 x.x6,.int IntKind.i64 x.x7,.int IntKind.i64 x.x8]
def zIY (x:bM):Value:= .agg #[.int IntKind.i64 x.cG,.string ⟨x.cL.toArray⟩]
def cJ:En bZ:=⟨λx=> .agg [(di x.x0),(di x.x1),(di x.x2)],3,λ_=>rfl⟩
def bR:En bC:=⟨λx=> .agg [(di x.x0),(di x.x1),(di x.x2),(di x.x3)],4,λ_=>rfl⟩
def aE:En Range:=⟨λx=> .agg [(di x.Lo),(di x.Hi)],2,λ_=>rfl⟩
def cH:En cC:=⟨λx=> .agg [(di x.x0.Lo),(di x.x0.Hi),(di x.x1.Lo),(di x.x1.Hi),(di x.x2.Lo),(di x.x2.Hi),(di x.x3.Lo),(di x.x3.Hi)],8,λ_=>rfl⟩
def cK:En bU:=⟨λx=> .agg [(di x.x0),(di x.x1),(di x.x2),(di x.x3),(di x.x4),(di x.x5),(di x.x6),(di x.x7),(di x.x8)],9,λ_=>rfl⟩
def aG:En aP:=⟨λx=> .agg [(di x.aS),(di x.aL),(di x.aO),(db x.aD)],4,λ_=>rfl⟩
def bB:En bO:=⟨λx=> .agg [(zH eI x.aW),(zH aG x.aU)],2,λ_=>rfl⟩
def aX:En b6:=⟨λx=> .agg [(ds x.bS),(di x.Lo),(di x.Hi)],3,λ_=>rfl⟩
def aH:En Collation:=⟨λx=> .agg [(zH bB x.aB),(zH aX x.aF),(di x.bJ),(di x.bA),(di x.bI)],5,λ_=>rfl⟩
def aR:En bL:=⟨λx=> .agg [(di x.Lo),(di x.Hi),(di x.Value)],3,λ_=>rfl⟩
def a8:En bG:=⟨λx=> .agg [(zH bB x.c.aB),(zH aX x.c.aF),(di x.c.bJ),(di x.c.bA),(di x.c.bI),(mpD zGX (eL aG) x.entries),(di x.bT),(zH aR x.bQ),(di x.top)],9,λ_=>rfl⟩
def aC:En aI:=⟨λx=> .agg [(di x.aV),(zH eI x.To),(ds x.bN)],3,λ_=>rfl⟩
def cE:En bM:=⟨λx=> .agg [(di x.cG),(ds x.cL)],2,λ_=>rfl⟩
def bX:En Set:=⟨λx=> .agg [(zH aE x.Ranges)],1,λ_=>rfl⟩
def aY:En Norm:=⟨λx=> .agg [(zH aR x.aK),(zH aC x.aA),(zH aE x.aN.Ranges)],3,λ_=>rfl⟩
def bF:En Options:=⟨λx=> .agg [(di x.aJ),(di x.aD),(db x.aQ),(db x.aT)],4,λ_=>rfl⟩
def bH:En bP:=⟨λx=> .agg [(zH aR x.norm.aK),(zH aC x.norm.aA),(zH aE x.norm.aN.Ranges),(zH bB x.bY.aB),(zH aX x.bY.aF),(di x.bY.bJ),(di x.bY.bA),(di x.bY.bI),(di x.b8.aJ),(di x.b8.aD),(db x.b8.aQ),(db x.b8.aT),(zH eI x.text),(zH (eL eI) x.wanted),(zH aG x.bW),(zH eI x.b4),(mpD kI eI x.b5),(mpD kI eI x.b3)],18,λ_=>rfl⟩
def bD:En bK:=⟨λx=> .agg [(zH aR x.Norm.aK),(zH aC x.Norm.aA),(zH aE x.Norm.aN.Ranges),(zH bB x.Collation.aB),(zH aX x.Collation.aF),(di x.Collation.bJ),(di x.Collation.bA),(di x.Collation.bI),(di x.Options.aJ),(di x.Options.aD),(db x.Options.aQ),(db x.Options.aT),(zH eI x.bV),(zH eI x.cf),(zH eI x.cD)],15,λ_=>rfl⟩
end Go.AV
namespace Go.M
open Go.AV
noncomputable section
def zKR (h:(List bL)):Option (Bool):=
 some (decide ((h.length:Int)<=16))
def zCN (D:(List aI)) (k:Int):Option (Stp (Int) ((Unit)⊕(Bool))):=
(pv (decide (k<(D.length:Int)))).bind λK=>
 cond (K&&(decide (k<30))) ((yD D k).bind λG=>
(pv (decide (65<(G.To.length:Int)))).bind λh=>
(gM (!h) (yD D k)).bind λH=>
 cond (h ||(decide (40<(H.bN.length:Int)))) (some (.done (.inr (false)))) (some (.next (wi (k+1))))) (some (.done (.inl (()))))
def zHR (k:(List aI)):Option (Bool):=
(zE (λ(x:Int)=>zCN k x) 0).bind λ(h:(Unit)⊕(Bool))=>
 h.elim (λh=>some (decide ((k.length:Int)<=20))) (λh=>some h)
def zKS (h:Set):Option (Bool):=
 some (decide ((h.Ranges.length:Int)<=12))
def zHS (k:Norm):Option (Bool):=
(zKR k.aK).bind λH=>
(pv H).bind λG=>
(gM G (zHR k.aA)).bind λK=>
(pv (G&&K)).bind λh=>
(gM h (zKS k.aN)).bind λD=>
 some (h&&D)
def zCO (D:Collation) (k:Int):Option (Stp (Int) ((Unit)⊕(Bool))):=
 cond (decide (k<(D.aB.length:Int))) ((yD D.aB k).bind λG=>
(pv (decide (10<(G.aW.length:Int)))).bind λh=>
(gM (!h) (yD D.aB k)).bind λH=>
 cond (h ||(decide (20<(H.aU.length:Int)))) (some (.done (.inr (false)))) (some (.next (wi (k+1))))) (some (.done (.inl (()))))
def zHT (k:Collation):Option (Bool):=
(pv (decide (12<(k.aB.length:Int)))).bind λD=>
 cond (D ||(decide (8<(k.aF.length:Int)))) (some false) ((zE (λ(x:Int)=>zCO k x) 0).bind λ(h:(Unit)⊕(Bool))=>
 h.elim (λh=>some true) (λh=>some h))
def zFQ (h:(List Int)) (a1:Int):Option (Bool):=
 some (decide ((h.length:Int)<=a1))
def zGY (h:bK):Option (Bool):=
(zHS h.Norm).bind λY=>
(pv Y).bind λT=>
(gM T (zHT h.Collation)).bind λZ=>
(pv (T&&Z)).bind λk=>
(gM k (zFQ h.bV 4)).bind λH=>
(pv (k&&H)).bind λD=>
(gM D (zFQ h.cf 8)).bind λK=>
(pv (D&&K)).bind λG=>
(gM G (zFQ h.cD 8)).bind λO=>
 some (G&&O)
def zHH:Option (Collation):=
 some ({aB:=[({aW:=[65],aU:=[({aS:=5,aL:=32,aO:=8,aD:=false}:aP)]}:bO),({aW:=[97],aU:=[({aS:=5,aL:=32,aO:=2,aD:=false}:aP)]}:bO),({aW:=[769],aU:=[({aS:=0,aL:=40,aO:=2,aD:=false}:aP)]}:bO)],aF:=[],bJ:=64448,bA:=32,bI:=2}:Collation)
def zIK (D:Int):Option (Int):=
(cond (decide (4294967296<=D)) (some (D/2 ^ 32,32)) (some (D,0))).bind λ(h:Int×Int)=>
(cond (decide (65536<=h.1)) (some (h.1/2 ^ 16,wi (h.2+16))) (some (h.1,h.2))).bind λ(k:Int×Int)=>
(cond (decide (256<=k.1)) (some (k.1/2 ^ 8,wi (k.2+8))) (some (k.1,k.2))).bind λ(H:Int×Int)=>
(z3I [0,1,2,2,3,3,3,3,4,4,4,4,4,4,4,4,5,5,5,5,5,5,5,5,5,5,5,5,5,5,5,5,6,6,6,6,6,6,6,6,6,6,6,6,6,6,6,6,6,6,6,6,6,6,6,6,6,6,6,6,6,6,6,6,7,7,7,7,7,7,7,7,7,7,7,7,7,7,7,7,7,7,7,7,7,7,7,7,7,7,7,7,7,7,7,7,7,7,7,7,7,7,7,7,7,7,7,7,7,7,7,7,7,7,7,7,7,7,7,7,7,7,7,7,7,7,7,7,8,8,8,8,8,8,8,8,8,8,8,8,8,8,8,8,8,8,8,8,8,8,8,8,8,8,8,8,8,8,8,8,8,8,8,8,8,8,8,8,8,8,8,8,8,8,8,8,8,8,8,8,8,8,8,8,8,8,8,8,8,8,8,8,8,8,8,8,8,8,8,8,8,8,8,8,8,8,8,8,8,8,8,8,8,8,8,8,8,8,8,8,8,8,8,8,8,8,8,8,8,8,8,8,8,8,8,8,8,8,8,8,8,8,8,8,8,8,8,8,8,8,8,8,8,8,8,8] ((IntKind.u8.wrap) H.1)).bind λG=>
 some (wi (H.2+(wi G)))
def zE2 (h:Int):Option (Int):=
(zIK h).bind λk=>
 some k
def zE3 (h:Int):Option (Bool):=
 some (!decide (h=h))
def wL (K:(List Int)) (a1:Int) (G:Int) (h:(List Int)):Option (Stp (Int×(List Int)) (((List Int)))):=
 cond (decide (G<(K.length:Int))) (((yD K G).bind λD=>
(pv (decide (0<=D))).bind λH=>
 cond (H&&(decide (D<=a1))) ((app h [D]).bind λk=>
 some k) (some h)).bind λ(O:(List Int))=>
 some (.next (wi (G+1),O))) (some (.done h))
def zCP (D:(List Int)) (a1:Int):Option ((List Int)):=
(zE (λ(x:Int×(List Int))=>wL D a1 x.1 x.2) (0,[])).bind λ(G:(List Int))=>
(z9O G).bind λh=>
(z9P h).bind λk=>
 some k
def zBF (h:Int):Option (Bool):=
(pv (decide (1<=h))).bind λk=>
 some (k&&(decide (h<=65535)))
def wM (Y:Str) (T:Int):Option (Stp (Int) ((Unit)⊕(Bool))):=
 cond (decide (T<(Y.length:Int))) ((z3I Y T).bind λh=>
(pv (decide (65<=h))).bind λk=>
(pv (k&&(decide (h<=90)))).bind λD=>
(pv (decide (97<=h))).bind λG=>
(pv (D ||(G&&(decide (h<=122))))).bind λH=>
(pv (decide (48<=h))).bind λK=>
(pv (H ||(K&&(decide (h<=57))))).bind λO=>
 cond (!(O ||(decide (h=95)))) (some (.done (.inr (false)))) (some (.next (wi (T+1))))) (some (.done (.inl (()))))
def zCQ (k:Str):Option (Bool):=
(zE (λ(x:Int)=>wM k x) 0).bind λ(h:(Unit)⊕(Bool))=>
 h.elim (λh=>(pv (!(k== []))).bind λD=>
 some (D&&(decide ((k.length:Int)<=32)))) (λh=>some h)
def xN (G:Collation) (h:Int):Option (Stp (Int) ((Unit)⊕(Int))):=
 cond (decide (h<(G.aF.length:Int))) ((yD G.aF h).bind λk=>
(zCQ k.bS).bind λD=>
 cond (!D) (some (.done (.inr (6)))) (some (.next (wi (h+1))))) (some (.done (.inl (()))))
def jW (G:Collation) (h:Int) (k:(List (Str×Bool))):Option (Stp (Int×(List (Str×Bool))) ((Unit)⊕(Int))):=
 cond (decide (h<(G.aF.length:Int))) ((yD G.aF h).bind λD=>
 cond (mgetD k D.bS false) (some (.done (.inr (5)))) (some (.next (wi (h+1),wX k D.bS true)))) (some (.done (.inl (()))))
def xO (D:Collation) (k:Int):Option (Stp (Int) ((Unit)⊕(Int))):=
 cond (decide (k<(D.aF.length:Int))) ((yD D.aF k).bind λh=>
(pv (decide (h.Lo<1))).bind λG=>
(pv (G ||(decide (h.Hi<h.Lo)))).bind λH=>
 cond (H ||(decide (D.bJ<=h.Hi))) (some (.done (.inr (1)))) (some (.next (wi (k+1))))) (some (.done (.inl (()))))
def xP (D:Collation) (h:Int):Option (Stp (Int) ((Unit)⊕(Int))):=
 cond (decide (h<(D.aF.length:Int))) ((yD D.aF h).bind λG=>
(pv (decide (0<h))).bind λk=>
(gM k (yD D.aF (wi (h-1)))).bind λH=>
 cond (k&&(!decide (G.Lo=(wi (H.Hi+1))))) (some (.done (.inr (4)))) (some (.next (wi (h+1))))) (some (.done (.inl (()))))
def vV (h:Collation):Option (Int):=
(zE (λ(x:Int)=>xN h x) 0).bind λ(k:(Unit)⊕(Int))=>
 k.elim (λk=>(zE (λ(x:Int×(List (Str×Bool)))=>jW h x.1 x.2) (0,[])).bind λ(D:(Unit)⊕(Int))=>
 D.elim (λD=>(zE (λ(x:Int)=>xO h x) 0).bind λ(G:(Unit)⊕(Int))=>
 G.elim (λG=>(zE (λ(x:Int)=>xP h x) 0).bind λ(H:(Unit)⊕(Int))=>
 H.elim (λH=>some 0) (λH=>some H)) (λG=>some G)) (λD=>some D)) (λk=>some k)
def zAI (h:Int):Option (Bool):=
(pv (decide (0<=h))).bind λk=>
 some (k&&(decide (h<=1114111)))
def zA1 (h:aP) (k:Int):Option (Stp (Int) ((Unit)⊕(Int))):=
 cond (decide (k<3)) ((yD [({x0:=h.aS,x1:=h.aL,x2:=h.aO}:bZ).x0,({x0:=h.aS,x1:=h.aL,x2:=h.aO}:bZ).x1,({x0:=h.aS,x1:=h.aL,x2:=h.aO}:bZ).x2] k).bind λD=>
(pv (decide (D<0))).bind λG=>
 cond (G ||(decide (65535<D))) (some (.done (.inr (1)))) (some (.next (wi (k+1))))) (some (.done (.inl (()))))
def zE4 (h:aP):Option (Int):=
(zE (λ(x:Int)=>zA1 h x) 0).bind λ(k:(Unit)⊕(Int))=>
 k.elim (λk=>(pv (!decide (h.aS=0))).bind λD=>
(pv (decide (h.aL=0))).bind λG=>
 cond (D&&(G ||(decide (h.aO=0)))) (some 11) ((pv (!decide (h.aL=0))).bind λH=>
 cond (H&&(decide (h.aO=0))) (some 11) ((pv h.aD).bind λK=>
 cond (K&&(decide (h.aS=0))) (some 11) (some 0)))) (λk=>some k)
def j6 (G:bO) (h:Int):Option (Stp (Int) ((Unit)⊕(Int))):=
 cond (decide (h<(G.aW.length:Int))) ((yD G.aW h).bind λk=>
(zAI k).bind λD=>
 cond (!D) (some (.done (.inr (1)))) (some (.next (wi (h+1))))) (some (.done (.inl (()))))
def x9 (G:bO) (h:Int):Option (Stp (Int) ((Unit)⊕(Int))):=
 cond (decide (h<(G.aU.length:Int))) ((yD G.aU h).bind λD=>
(zE4 D).bind λk=>
 cond (!decide (k=0)) (some (.done (.inr (k)))) (some (.next (wi (h+1))))) (some (.done (.inl (()))))
def j7 (D:bO) (a1:Int) (h:Int):Option (Stp (Int) ((Unit)⊕(Int))):=
 cond (decide (h<(D.aU.length:Int))) ((yD D.aU h).bind λk=>
 cond (decide (a1<=k.aS)) (some (.done (.inr (1)))) (some (.next (wi (h+1))))) (some (.done (.inl (()))))
def uV (h:bO) (a1:Int):Option (Int):=
(pv (decide ((h.aW.length:Int)<1))).bind λH=>
(pv (H ||(decide (8<(h.aW.length:Int))))).bind λK=>
 cond (K ||(decide (16<(h.aU.length:Int)))) (some 2) ((zE (λ(x:Int)=>j6 h x) 0).bind λ(k:(Unit)⊕(Int))=>
 k.elim (λk=>(zE (λ(x:Int)=>x9 h x) 0).bind λ(D:(Unit)⊕(Int))=>
 D.elim (λD=>(zE (λ(x:Int)=>j7 h a1 x) 0).bind λ(G:(Unit)⊕(Int))=>
 G.elim (λG=>some 0) (λG=>some G)) (λD=>some D)) (λk=>some k))
def xK (k:Int) (a1:Int):Option (Int):=
(zE3 k).bind λD=>
(zE3 a1).bind λh=>
 cond D (cond h (some 0) (some (-1))) (cond h (some 1) (cond (decide (k<a1)) (some (-1)) (cond (decide (a1<k)) (some 1) (some 0))))
def w6 (k:(List Int)) (a1:(List Int)) (h:Int):Option (Stp (Int) ((Unit)⊕(Int))):=
 cond (decide (h<(min (k.length:Int) (a1.length:Int)))) ((yD k h).bind λD=>
(yD a1 h).bind λG=>
 cond (!decide (D=G)) ((yD k h).bind λH=>
(yD a1 h).bind λK=>
(xK H K).bind λO=>
 some (.done (.inr (O)))) (some (.next (wi (h+1))))) (some (.done (.inl (()))))
def zB1 (D:(List Int)) (a1:(List Int)):Option (Int):=
(zE (λ(x:Int)=>w6 D a1 x) 0).bind λ(h:(Unit)⊕(Int))=>
 h.elim (λh=>(xK (D.length:Int) (a1.length:Int)).bind λk=>
 some k) (λh=>some h)
def uA (H:Collation) (h:Int):Option (Stp (Int) ((Unit)⊕(Int))):=
 cond (decide (h<(H.aB.length:Int))) ((yD H.aB h).bind λD=>
(uV D H.bJ).bind λG=>
 cond (!decide (G=0)) (some (.done (.inr (G)))) ((pv (decide (0<h))).bind λk=>
(gM k (yD H.aB (wi (h-1)))).bind λK=>
(gM k (zB1 K.aW D.aW)).bind λO=>
 cond (k&&(decide (0<=O))) (some (.done (.inr (4)))) (some (.next (wi (h+1)))))) (some (.done (.inl (()))))
def zBQ (h:Collation):Option (Int):=
(pv (decide (h.bJ<1))).bind λK=>
(pv (K ||(decide (65502<h.bJ)))).bind λk=>
(gM (!k) (zBF h.bA)).bind λO=>
(pv (k ||(!O))).bind λD=>
(gM (!D) (zBF h.bI)).bind λT=>
 cond (D ||(!T)) (some 1) ((vV h).bind λG=>
 cond (!decide (G=0)) (some G) ((zE (λ(x:Int)=>uA h x) 0).bind λ(H:(Unit)⊕(Int))=>
 H.elim (λH=>some 0) (λH=>some H)))
def zDO (h:(List Int)):Option (bU):=
 some ({x0:=({x0:=(h.length:Int),x1:=0,x2:=0,x3:=0,x4:=0,x5:=0,x6:=0,x7:=0,x8:=0}:bU).x0,x1:=cpA h 0 (({x0:=(h.length:Int),x1:=0,x2:=0,x3:=0,x4:=0,x5:=0,x6:=0,x7:=0,x8:=0}:bU).x1),x2:=cpA h 1 (({x0:=(h.length:Int),x1:=0,x2:=0,x3:=0,x4:=0,x5:=0,x6:=0,x7:=0,x8:=0}:bU).x2),x3:=cpA h 2 (({x0:=(h.length:Int),x1:=0,x2:=0,x3:=0,x4:=0,x5:=0,x6:=0,x7:=0,x8:=0}:bU).x3),x4:=cpA h 3 (({x0:=(h.length:Int),x1:=0,x2:=0,x3:=0,x4:=0,x5:=0,x6:=0,x7:=0,x8:=0}:bU).x4),x5:=cpA h 4 (({x0:=(h.length:Int),x1:=0,x2:=0,x3:=0,x4:=0,x5:=0,x6:=0,x7:=0,x8:=0}:bU).x5),x6:=cpA h 5 (({x0:=(h.length:Int),x1:=0,x2:=0,x3:=0,x4:=0,x5:=0,x6:=0,x7:=0,x8:=0}:bU).x6),x7:=cpA h 6 (({x0:=(h.length:Int),x1:=0,x2:=0,x3:=0,x4:=0,x5:=0,x6:=0,x7:=0,x8:=0}:bU).x7),x8:=cpA h 7 (({x0:=(h.length:Int),x1:=0,x2:=0,x3:=0,x4:=0,x5:=0,x6:=0,x7:=0,x8:=0}:bU).x8)}:bU)
def wO (K:(List bO)×(List b6)×Int×Int×Int) (D:Int) (G:(List (bU×(List aP)))) (h:Int):Option (Stp (Int×(List (bU×(List aP)))×Int) (((List (bU×(List aP)))×Int))):=
 cond (decide (D<(K.1.length:Int))) ((yD K.1 D).bind λk=>
(zDO k.aW).bind λH=>
 some (.next (wi (D+1),wX G H k.aU,max h (k.aW.length:Int)))) (some (.done (G,h)))
def zEF (k:Collation):Option (bG):=
(zBQ ({aB:=k.aB,aF:=k.aF,bJ:=k.bJ,bA:=k.bA,bI:=k.bI}:Collation)).bind λG=>
(cond (!decide (G=0)) (some (({aB:=[],aF:=[],bJ:=64448,bA:=32,bI:=2}:Collation).aB,({aB:=[],aF:=[],bJ:=64448,bA:=32,bI:=2}:Collation).aF,({aB:=[],aF:=[],bJ:=64448,bA:=32,bI:=2}:Collation).bJ,({aB:=[],aF:=[],bJ:=64448,bA:=32,bI:=2}:Collation).bA,({aB:=[],aF:=[],bJ:=64448,bA:=32,bI:=2}:Collation).bI)) (some (k.aB,k.aF,k.bJ,k.bA,k.bI))).bind λ(h:(List bO)×(List b6)×Int×Int×Int)=>
(zE (λ(x:Int×(List (bU×(List aP)))×Int)=>wO h x.1 x.2.1 x.2.2) (0,[],0)).bind λ(D:(List (bU×(List aP)))×Int)=>
 some ({c:=({aB:=({aB:=h.1,aF:=h.2.1,bJ:=h.2.2.1,bA:=h.2.2.2.1,bI:=h.2.2.2.2}:Collation).aB,aF:=({aB:=h.1,aF:=h.2.1,bJ:=h.2.2.1,bA:=h.2.2.2.1,bI:=h.2.2.2.2}:Collation).aF,bJ:=({aB:=h.1,aF:=h.2.1,bJ:=h.2.2.1,bA:=h.2.2.2.1,bI:=h.2.2.2.2}:Collation).bJ,bA:=({aB:=h.1,aF:=h.2.1,bJ:=h.2.2.1,bA:=h.2.2.2.1,bI:=h.2.2.2.2}:Collation).bA,bI:=({aB:=h.1,aF:=h.2.1,bJ:=h.2.2.1,bA:=h.2.2.2.1,bI:=h.2.2.2.2}:Collation).bI}:Collation),entries:=D.1,bT:=D.2,bQ:=[],top:=0}:bG)
def u9 (O:(List bL)) (k:Int):Option (Stp (Int) ((Unit)⊕(Int))):=
 cond (decide (k<(O.length:Int))) ((yD O k).bind λh=>
(pv (decide (h.Lo<0))).bind λD=>
(pv (D ||(decide (1114111<h.Hi)))).bind λG=>
(pv (G ||(decide (h.Hi<h.Lo)))).bind λH=>
(pv (H ||(decide (h.Value<1)))).bind λK=>
 cond (K ||(decide (254<h.Value))) (some (.done (.inr (1)))) (some (.next (wi (k+1))))) (some (.done (.inl (()))))
def zAA (G:(List bL)) (D:Int):Option (Stp (Int) ((Unit)⊕(Int))):=
 cond (decide (D<(G.length:Int))) ((yD G (wi (D-1))).bind λh=>
(yD G D).bind λk=>
(pv (decide (k.Lo<=h.Hi))).bind λH=>
(pv (decide (k.Lo=(wi (h.Hi+1))))).bind λK=>
 cond (H ||(K&&(decide (k.Value=h.Value)))) (some (.done (.inr (4)))) (some (.next (wi (D+1))))) (some (.done (.inl (()))))
def wP (h:cC) (D:bL) (k:Int):Option (Stp (Int) ((Unit)⊕(Int))):=
 cond (decide (k<4)) ((yD [h.x0,h.x1,h.x2,h.x3] k).bind λG=>
(pv (decide (D.Lo<=G.Hi))).bind λH=>
 cond (H&&(decide (G.Lo<=D.Hi))) (some (.done (.inr (11)))) (some (.next (wi (k+1))))) (some (.done (.inl (()))))
def zAB (H:(List bL)) (h:Int):Option (Stp (Int) ((Unit)⊕(Int))):=
 cond (decide (h<(H.length:Int))) ((yD H h).bind λD=>
(pv ({x0:=({Lo:=4352,Hi:=4370}:Range),x1:=({Lo:=4449,Hi:=4469}:Range),x2:=({Lo:=4520,Hi:=4546}:Range),x3:=({Lo:=44032,Hi:=55203}:Range)}:cC)).bind λG=>
(zE (λ(x:Int)=>wP G D x) 0).bind λ(k:(Unit)⊕(Int))=>
 k.elim (λk=>some (.next (wi (h+1)))) (λk=>some (.done (.inr (k))))) (some (.done (.inl (()))))
def zCR (G:(List bL)):Option (Int):=
(zE (λ(x:Int)=>u9 G x) 0).bind λ(h:(Unit)⊕(Int))=>
 h.elim (λh=>(zE (λ(x:Int)=>zAA G x) 1).bind λ(k:(Unit)⊕(Int))=>
 k.elim (λk=>(zE (λ(x:Int)=>zAB G x) 0).bind λ(D:(Unit)⊕(Int))=>
 D.elim (λD=>some 0) (λD=>some D)) (λk=>some k)) (λh=>some h)
def zAC (Y:Str) (k:Int):Option (Stp (Int) ((Unit)⊕(Bool))):=
 cond (decide (k<(Y.length:Int))) ((z3I Y k).bind λh=>
(pv (decide (65<=h))).bind λD=>
(pv (D&&(decide (h<=90)))).bind λG=>
(pv (decide (97<=h))).bind λH=>
(pv (!(G ||(H&&(decide (h<=122)))))).bind λK=>
(pv (decide (48<=h))).bind λO=>
(pv (K&&(!(O&&(decide (h<=57)))))).bind λT=>
 cond (T&&(!decide (h=95))) (some (.done (.inr (false)))) (some (.next (wi (k+1))))) (some (.done (.inl (()))))
def zEG (k:Str):Option (Bool):=
(pv (k== [])).bind λD=>
 cond (D ||(decide (32<(k.length:Int)))) (some false) ((zE (λ(x:Int)=>zAC k x) 0).bind λ(h:(Unit)⊕(Bool))=>
 h.elim (λh=>some true) (λh=>some h))
def zA2 (k:aI) (h:Int):Option (Stp (Int) ((Unit)⊕(Int))):=
 cond (decide (h<(k.To.length:Int))) ((yD k.To h).bind λD=>
(zAI D).bind λG=>
 cond (!G) (some (.done (.inr (1)))) (some (.next (wi (h+1))))) (some (.done (.inl (()))))
def zA3 (H:(List aI)) (h:Int):Option (Stp (Int) ((Unit)⊕(Int))):=
 cond (decide (h<(H.length:Int))) ((yD H h).bind λk=>
(zAI k.aV).bind λG=>
 cond (!G) (some (.done (.inr (1)))) ((zE (λ(x:Int)=>zA2 k x) 0).bind λ(D:(Unit)⊕(Int))=>
 D.elim (λD=>some (.next (wi (h+1)))) (λD=>some (.done (.inr (D)))))) (some (.done (.inl (()))))
def zA4 (D:(List aI)) (h:Int):Option (Stp (Int) ((Unit)⊕(Int))):=
 cond (decide (h<(D.length:Int))) ((yD D h).bind λk=>
 cond (decide (64<(k.To.length:Int))) (some (.done (.inr (2)))) (some (.next (wi (h+1))))) (some (.done (.inl (()))))
def zA5 (H:(List aI)) (h:Int):Option (Stp (Int) ((Unit)⊕(Int))):=
 cond (decide (h<(H.length:Int))) ((yD H h).bind λD=>
(pv (!(D.bN== []))).bind λk=>
(gM k (zEG D.bN)).bind λG=>
 cond (k&&(!G)) (some (.done (.inr (6)))) (some (.next (wi (h+1))))) (some (.done (.inl (()))))
def zE5 (G:(List aI)):Option (Int):=
(zE (λ(x:Int)=>zA3 G x) 0).bind λ(h:(Unit)⊕(Int))=>
 h.elim (λh=>(zE (λ(x:Int)=>zA4 G x) 0).bind λ(k:(Unit)⊕(Int))=>
 k.elim (λk=>(zE (λ(x:Int)=>zA5 G x) 0).bind λ(D:(Unit)⊕(Int))=>
 D.elim (λD=>some 0) (λD=>some D)) (λk=>some k)) (λh=>some h)
def zCS (h:Str):Option (Bool):=
 some (!(h==h))
def zBG (k:Str) (a1:Str):Option (Int):=
(zCS k).bind λD=>
(zCS a1).bind λh=>
 cond D (cond h (some 0) (some (-1))) (cond h (some 1) (cond (Op.bytesLess k a1) (some (-1)) (cond (!Op.bytesLess k a1&& !(k==a1)) (some 1) (some 0))))
def zDR (D:(List Int)) (k:Int):Option (Stp (Int) ((Unit)⊕(Int))):=
 cond (decide (k<(D.length:Int))) ((yD D k).bind λh=>
 cond (!decide (h=0)) (some (.done (.inr (h)))) (some (.next (wi (k+1))))) (some (.done (.inl (()))))
def zGZ (k:(List Int)):Option (Int):=
(zE (λ(x:Int)=>zDR k x) 0).bind λ(h:(Unit)⊕(Int))=>
 h.elim (λh=>some 0) (λh=>some h)
def zDP (D:aI) (a1:aI):Option (Int):=
(xK D.aV a1.aV).bind λG=>
(zBG D.bN a1.bN).bind λh=>
(zGZ [G,h]).bind λk=>
 some k
def zE6 (h:aI):Option (bM):=
 some ({cG:=h.aV,cL:=h.bN}:bM)
def uB (k:(List aI)) (K:Bool) (h:Int):Option (Stp (Bool×Int) ((Bool))):=
 cond (decide (h<(k.length:Int))) (((yD k (wi (h-1))).bind λD=>
(yD k h).bind λG=>
(zDP D G).bind λH=>
 cond (decide (0<=H)) (some false) (some K)).bind λ(O:Bool)=>
 some (.next (O,wi (h+1)))) (some (.done K))
def uC (K:(List aI)) (h:Int) (k:(List (bM×Bool))):Option (Stp (Int×(List (bM×Bool))) ((Unit)⊕(Int))):=
 cond (decide (h<(K.length:Int))) ((yD K h).bind λD=>
(zE6 D).bind λG=>
 cond (mgetD k G false) (some (.done (.inr (5)))) ((zE6 D).bind λH=>
 some (.next (wi (h+1),wX k H true)))) (some (.done (.inl (()))))
def zE7 (D:(List aI)):Option (Int):=
(zE5 D).bind λh=>
 cond (!decide (h=0)) (some h) ((zE (λ(x:Bool×Int)=>uB D x.1 x.2) (true,1)).bind λ(G:Bool)=>
 cond G (some 0) ((zE (λ(x:Int×(List (bM×Bool)))=>uC D x.1 x.2) (0,[])).bind λ(k:(Unit)⊕(Int))=>
 k.elim (λk=>some 4) (λk=>some k)))
def yY (a1:Int) (a3:Range->Range->Option (Int)) (G:Int) (h:(List Range)):Option (Stp (Int×(List Range)) (((List Range)))):=
(pv (decide (a1<G))).bind λH=>
(gM H (yD h G)).bind λK=>
(gM H (yD h (wi (G-1)))).bind λO=>
(gM H (a3 K O)).bind λT=>
 cond (H&&(decide (T<0))) ((yD h (wi (G-1))).bind λY=>
(yD h G).bind λZ=>
(yD h G).bind λaa=>
(zBD h G Y).bind λk=>
(yD k (wi (G-1))).bind λab=>
(zBD k (wi (G-1)) Z).bind λD=>
 some (.next (wi (G-1),D))) (some (.done h))
def yJ (a2:Int) (a1:Int) (a3:Range->Range->Option (Int)) (k:Int) (h:(List Range)):Option (Stp (Int×(List Range)) (((List Range)))):=
 cond (decide (k<a2)) ((zE (λ(x:Int×(List Range))=>yY a1 a3 x.1 x.2) (k,h)).bind λ(D:(List Range))=>
 some (.next (wi (k+1),D))) (some (.done h))
def jC (h:(List Range)) (a1:Int) (a2:Int) (a3:Range->Range->Option (Int)):Option ((List Range)):=
(zE (λ(x:Int×(List Range))=>yJ a2 a1 a3 x.1 x.2) (wi (a1+1),h)).bind λ(k:(List Range))=>
 some k
def kZ (a2:Int) (a1:Int) (k:(List Range)) (D:Range->Range->Option (Int)) (a3:Int):Option (Stp (Unit) (((List Range)))):=
(cond (decide ((wi (a2-a1))<=12)) ((jC k a1 a2 D).bind λh=>
 some h) (cond (decide (a3=0)) (none) ((cond (!true) (none) (some ())).bind λ(H:Unit)=>
 none))).bind λ(G:(List Range))=>
 some (.done G)
def wB (h:(List Range)) (a1:Int) (a2:Int) (a3:Int) (k:Range->Range->Option (Int)):Option ((List Range)):=
(zE (λ(_:Unit)=>kZ a2 a1 h k a3) ()).bind λ(D:(List Range))=>
 some D
def jF (h:(List Range)) (a1:Range->Range->Option (Int)):Option ((List Range)):=
(zE2 (wu (h.length:Int))).bind λk=>
(wB h 0 (h.length:Int) k a1).bind λD=>
 some D
def zB2 (D:Range) (a1:Range):Option (Int):=
(xK D.Lo a1.Lo).bind λG=>
(xK D.Hi a1.Hi).bind λh=>
(zGZ [G,h]).bind λk=>
 some k
def zCB (H:(List Range)) (G:Int) (h:(List Range)):Option (Stp (Int×(List Range)) (((List Range)))):=
 cond (decide (G<(H.length:Int))) (((yD H G).bind λk=>
 cond (decide ((({Lo:=max k.Lo 0,Hi:=min k.Hi 1114111}:Range).Lo)<=(({Lo:=max k.Lo 0,Hi:=min k.Hi 1114111}:Range).Hi))) ((app h [({Lo:=max k.Lo 0,Hi:=min k.Hi 1114111}:Range)]).bind λD=>
 some D) (some h)).bind λ(K:(List Range))=>
 some (.next (wi (G+1),K))) (some (.done h))
def zCC (O:(List Range)) (H:Int) (h:(List Range)):Option (Stp (Int×(List Range)) (((List Range)))):=
 cond (decide (H<(O.length:Int))) (((yD O H).bind λG=>
(pv (decide (0<(h.length:Int)))).bind λK=>
(gM K (yD h (wi ((h.length:Int)-1)))).bind λT=>
 cond (K&&(decide (G.Lo<=(wi (T.Hi+1))))) ((yD h (wi ((h.length:Int)-1))).bind λY=>
(yD h (wi ((h.length:Int)-1))).bind λZ=>
(zBD h (wi ((h.length:Int)-1)) ({Z with Hi:=max Y.Hi G.Hi})).bind λk=>
 some k) ((app h [G]).bind λD=>
 some D)).bind λ(y5:(List Range))=>
 some (.next (wi (H+1),y5))) (some (.done h))
def zJM (k:(List Range)):Option (Set):=
(zE (λ(x:Int×(List Range))=>zCB k x.1 x.2) (0,[])).bind λ(D:(List Range))=>
(jF D (λx0 x1=>zB2 x0 x1)).bind λh=>
(zE (λ(x:Int×(List Range))=>zCC h x.1 x.2) (0,[])).bind λ(G:(List Range))=>
 some ({Ranges:=G}:Set)
def zCT (G:Set) (H:Set) (h:Int):Option (Stp (Int) ((Unit)⊕(Bool))):=
 cond (decide (h<(G.Ranges.length:Int))) ((yD G.Ranges h).bind λk=>
(yD H.Ranges h).bind λD=>
 cond (!decide (k=D)) (some (.done (.inr (false)))) (some (.next (wi (h+1))))) (some (.done (.inl (()))))
def zHU (k:Set):Option (Bool):=
(zJM k.Ranges).bind λD=>
 cond (!decide ((D.Ranges.length:Int)=(k.Ranges.length:Int))) (some false) ((zE (λ(x:Int)=>zCT D k x) 0).bind λ(h:(Unit)⊕(Bool))=>
 h.elim (λh=>some true) (λh=>some h))
def zEH (h:Int):Option (Int):=
(pv (decide (4352<=h))).bind λK=>
 cond (K&&(decide (h<4371))) (some 1) ((pv (decide (4449<=h))).bind λk=>
 cond (k&&(decide (h<4470))) (some 2) ((pv (decide (4520<=h))).bind λD=>
 cond (D&&(decide (h<4547))) (some 3) ((pv (decide (h<44032))).bind λG=>
 cond (G ||(decide (55204<=h))) (some 0) ((zKF (wi (h-44032)) 28).bind λH=>
 cond (decide (H=0)) (some 4) (some 5)))))
def zBR (h:(List bL)):Option ((List bL)):=
(zCR h).bind λk=>
 cond (!decide (k=0)) (some []) (some h)
def yF (K:(List bL)) (a2:bL->Int->Option (Int)) (a1:Int) (k:Int) (h:Int):Option (Stp (Int×Int) ((Int))):=
 cond (decide (k<h)) (((yD K (wi ((wu (wi (k+h)))/2 ^ 1))).bind λD=>
(a2 D a1).bind λG=>
 cond (decide (G<0)) (some (wi ((wi ((wu (wi (k+h)))/2 ^ 1))+1),h)) (some (k,wi ((wu (wi (k+h)))/2 ^ 1)))).bind λ(H:Int×Int)=>
 some (.next (H.1,H.2))) (some (.done k))
def jB (k:(List bL)) (a1:Int) (a2:bL->Int->Option (Int)):Option (Int×Bool):=
(zE (λ(x:Int×Int)=>yF k a2 a1 x.1 x.2) (0,(k.length:Int))).bind λ(H:Int)=>
(pv (decide (H<(k.length:Int)))).bind λh=>
(gM h (yD k H)).bind λD=>
(gM h (a2 D a1)).bind λG=>
 some (H,(h&&(decide (G=0))))
def zA6 (h:bL) (a1:Int):Option (Int):=
 cond (decide (h.Hi<a1)) (some (-1)) (cond (decide (a1<h.Lo)) (some 1) (some 0))
def jE (D:(List bL)) (a1:Int):Option (Int):=
(jB D a1 (λx0 x1=>zA6 x0 x1)).bind λh=>
 cond (!h.2) (some 0) ((yD D h.1).bind λk=>
 some k.Value)
def k4 (a1:(List Int)) (a2:(List bL)) (items:(List (Range))) (K:Int) (k:Int) (h:Nat):Option (Stp (Int×Int×Nat) ((Int×Nat)⊕(Nat))):=
 cond (decide (k<(a1.length:Int))) (((yD a1 k).bind λY=>
(jE a2 Y).bind λH=>
((pv (!(decide (H=0)))).bind λO=>
 cond (O&&(decide (K<0))) (some (.inl ((k,h)))) ((pv (decide (H=0))).bind λT=>
 cond (T&&(decide (0<=K))) ((yM items h ({Lo:=K,Hi:=k}:Range)).bind λZ=>
 cond (!true) (some (.inr (h+1))) (some (.inl (((-1),h+1))))) (some (.inl ((K,h)))))).bind λ(G:(Int×Nat)⊕(Nat))=>
 G.elim (λG=>some (.inl ((G.1,G.2)))) (λG=>some (.inr (G)))).bind λ(D:(Int×Nat)⊕(Nat))=>
 D.elim (λD=>some (.next (D.1,wi (k+1),D.2))) (λD=>some (.done (.inr (D))))) (some (.done (.inl ((K,h)))))
def zBS (items:List Range) (a1:(List Int)) (a2:(List bL)):Option Unit:=
(zE (λ(x:Int×Int×Nat)=>k4 a1 a2 items x.1 x.2.1 x.2.2) ((-1),0,0)).bind λ(h:(Int×Nat)⊕(Nat))=>
 h.elim (λh=>cond (decide (0<=h.1)) ((yM items h.2 ({Lo:=h.1,Hi:=(a1.length:Int)}:Range)).bind λk=>
 zV1 items (h.2+1)) (zV1 items h.2)) (λh=>zV1 items h)
def xZ (st:Int->Bool):List Int->Int->Int->List Range
 | [],i,s=>if 0<=s then [{Lo:=s,Hi:=i}] else []
 | c::r,i,s=>if !st c&&decide (s<0) then xZ st r (i+1) i else if st c&&decide (0<=s) then {Lo:=s,Hi:=i}::xZ st r (i+1) (-1) else xZ st r (i+1) s
def yOY {h:Type} (l:List h):Option (List h):=if l.length<=LIM then some l else none
def zE8 (k:List bL) (a1:List Int):Option (List Range):=(zBR k).bind λh=>(zBS (xZ (λc=>jE h c==some 0) a1 0 (-1)) a1 h).bind λ_=>yOY (xZ (λc=>jE h c==some 0) a1 0 (-1))
def zIZ (D:Int):Option (bZ):=
(zEH D).bind λT=>
 cond (decide (T<4)) (some ({x0:=0,x1:=0,x2:=0}:bZ)) ((zNS wi (wi (D-44032)) 28).bind λG=>
(zNS wi G 21).bind λh=>
(zNS wi (wi (D-44032)) 28).bind λH=>
(zKF H 21).bind λk=>
(zKF (wi (D-44032)) 28).bind λK=>
(cond (decide (0<K)) ((zKF (wi (D-44032)) 28).bind λO=>
 some (wi ((wi (4520+O))-1))) (some (({x0:=wi (4352+h),x1:=wi (4449+k),x2:=0}:bZ).x2))).bind λ(Y:Int)=>
 some ({x0:=({x0:=wi (4352+h),x1:=wi (4449+k),x2:=0}:bZ).x0,x1:=({x0:=wi (4352+h),x1:=wi (4449+k),x2:=0}:bZ).x1,x2:=Y}:bZ))
def zCU (k:Int):Option ((List Int)):=
(zIZ k).bind λh=>
 cond (decide (h=({x0:=0,x1:=0,x2:=0}:bZ))) (some [k]) (cond (decide (h.x2=0)) (some [h.x0,h.x1]) (some [h.x0,h.x1,h.x2]))
def z8 (K:(List aI)) (a2:aI->Int->Option (Int)) (a1:Int) (k:Int) (h:Int):Option (Stp (Int×Int) ((Int))):=
 cond (decide (k<h)) (((yD K (wi ((wu (wi (k+h)))/2 ^ 1))).bind λD=>
(a2 D a1).bind λG=>
 cond (decide (G<0)) (some (wi ((wi ((wu (wi (k+h)))/2 ^ 1))+1),h)) (some (k,wi ((wu (wi (k+h)))/2 ^ 1)))).bind λ(H:Int×Int)=>
 some (.next (H.1,H.2))) (some (.done k))
def yQ (k:(List aI)) (a1:Int) (a2:aI->Int->Option (Int)):Option (Int×Bool):=
(zE (λ(x:Int×Int)=>z8 k a2 a1 x.1 x.2) (0,(k.length:Int))).bind λ(H:Int)=>
(pv (decide (H<(k.length:Int)))).bind λh=>
(gM h (yD k H)).bind λD=>
(gM h (a2 D a1)).bind λG=>
 some (H,(h&&(decide (G=0))))
def uD (h:aI) (a1:Int):Option (Int):=
(xK h.aV a1).bind λk=>
 some k
def uW (D:Norm) (a1:Int) (a2:Bool):Option ((List Int)×Bool):=
(zEH a1).bind λH=>
 cond (decide (4<=H)) ((zCU a1).bind λK=>
 some (K,true)) ((yQ D.aA a1 (λx0 x1=>uD x0 x1)).bind λh=>
(pv (!h.2)).bind λk=>
(gM (!k) (yD D.aA h.1)).bind λO=>
(pv (!(O.bN== []))).bind λG=>
 cond (k ||(G&&(!a2))) (some ([],false)) ((yD D.aA h.1).bind λT=>
 some (T.To,true)))
def jR (K:(List Int)×Bool) (T:(Int->Norm->(List (Int×Int))->Bool->Bool->Option (Int×Bool×Bool×(List (Int×Int))))) (a1:Norm) (O:Int) (H:Int) (h:Bool) (k:Bool) (D:(List (Int×Int))):Option (Stp (Int×Int×Bool×Bool×(List (Int×Int))) ((Int×Bool×Bool×(List (Int×Int))))):=
 cond (decide (H<(K.1.length:Int))) ((yD K.1 H).bind λY=>
(T Y a1 D h k).bind λG=>
 some (.next (min (wi (O+G.1)) 65,wi (H+1),G.2.1,G.2.2.1,G.2.2.2))) (some (.done (O,h,k,D)))
def jK (T:Int->Norm->(List (Int×Int))->Bool->Bool->Option (Int×Bool×Bool×(List (Int×Int)))) (k:Int) (a1:Norm) (a2:(List (Int×Int))) (a3:Bool) (G:Bool):Option (Int×Bool×Bool×(List (Int×Int))):=
(uW a1 k true).bind λh=>
(pv (!h.2)).bind λH=>
 cond (H ||(decide ((h.1.length:Int)=0))) (some (1,a3,G,a2)) (cond (zDM a2 k) ((pv a3).bind λK=>
 some (max (mgetD a2 k 0) 1,(K ||(decide ((mgetD a2 k 0)=(-1)))),G,a2)) ((zE (λ(x:Int×Int×Bool×Bool×(List (Int×Int)))=>jR h T a1 x.1 x.2.1 x.2.2.1 x.2.2.2.1 x.2.2.2.2) (0,0,a3,G,wX a2 k (-1))).bind λ(D:Int×Bool×Bool×(List (Int×Int)))=>
(pv D.2.2.1).bind λO=>
 some (D.1,D.2.1,(O ||(decide (64<D.1))),wX D.2.2.2 k D.1)))
def yH:Nat->Int->Norm->(List (Int×Int))->Bool->Bool->Option (Int×Bool×Bool×(List (Int×Int)))
 | 0=>λ_ _ _ _ _=>none
 | n+1=>jK (yH n)
def k9 (H:Norm) (G:Int) (h:Bool) (k:Bool) (O:(List (Int×Int))):Option (Stp (Int×Bool×Bool×(List (Int×Int))) ((Bool×Bool))):=
 cond (decide (G<(H.aA.length:Int))) ((yD H.aA G).bind λK=>
(yH 100 K.aV H O h k).bind λD=>
 some (.next (wi (G+1),D.2.1,D.2.2.1,D.2.2.2))) (some (.done (h,k)))
def decompose_measure (k:Norm):Option (Bool×Bool):=
(zE (λ(x:Int×Bool×Bool×(List (Int×Int)))=>k9 k x.1 x.2.1 x.2.2.1 x.2.2.2) (0,false,false,[])).bind λ(h:Bool×Bool)=>
 some (h.1,h.2)
def uE (k:Norm) (h:Int):Option (Stp (Int) ((Unit)⊕(Int))):=
 cond (decide (h<(k.aA.length:Int))) ((yD k.aA h).bind λD=>
(yD k.aA (wi (h-1))).bind λG=>
 cond (decide (D.aV=G.aV)) (some (.done (.inr (5)))) (some (.next (wi (h+1))))) (some (.done (.inl (()))))
def uF (H:Norm) (k:Int):Option (Stp (Int) ((Unit)⊕(Int))):=
 cond (decide (k<(H.aA.length:Int))) ((yD H.aA k).bind λh=>
(pv (h.bN== [])).bind λD=>
(pv (D&&(!decide ((h.To.length:Int)=1)))).bind λG=>
 cond (G&&(!decide ((h.To.length:Int)=2))) (some (.done (.inr (8)))) (some (.next (wi (k+1))))) (some (.done (.inl (()))))
def kC (O:Norm) (G:Int) (h:(List Int)):Option (Stp (Int×(List Int)) (((List Int))⊕(Int))):=
 cond (decide (G<(O.aA.length:Int))) (((yD O.aA G).bind λD=>
(zEH D.aV).bind λK=>
 cond (!decide (K=0)) (some (.inr (()))) (cond (!(D.bN== [])) ((app h [D.aV]).bind λk=>
 some (.inl (k))) (some (.inl (h))))).bind λ(H:((List Int))⊕(Unit))=>
 H.elim (λH=>some (.next (wi (G+1),H))) (λH=>some (.done (.inr (11))))) (some (.done (.inl (h))))
def zBT (h:Norm):Option (Int):=
(zCR h.aK).bind λD=>
 cond (!decide (D=0)) (some D) ((zE7 h.aA).bind λG=>
 cond (!decide (G=0)) (some G) ((zHU h.aN).bind λT=>
 cond (!T) (some 11) ((zE (λ(x:Int)=>uE h x) 1).bind λ(K:(Unit)⊕(Int))=>
 K.elim (λK=>(zE (λ(x:Int)=>uF h x) 0).bind λ(O:(Unit)⊕(Int))=>
 O.elim (λO=>(zE (λ(x:Int×(List Int))=>kC h x.1 x.2) (0,[])).bind λ(H:((List Int))⊕(Int))=>
 H.elim (λH=>(zE8 h.aK H).bind λY=>
 cond (decide (0<(Y.length:Int))) (some 11) ((decompose_measure h).bind λk=>
 cond k.1 (some 12) (cond k.2 (some 13) (some 0)))) (λH=>some H)) (λO=>some O)) (λK=>some K))))
def j8 (G:(List bL)) (k:Int) (h:Int):Option (Stp (Int×Int) ((Int))):=
 cond (decide (k<(G.length:Int))) ((yD G k).bind λD=>
 some (.next (wi (k+1),max h D.Value))) (some (.done h))
def uX (h:bG) (a1:Norm):Option (bG):=
(zBT a1).bind λD=>
(cond (decide (D=0)) (some a1.aK) (some h.bQ)).bind λ(k:(List bL))=>
(zE (λ(x:Int×Int)=>j8 k x.1 x.2) (0,h.top)).bind λ(G:Int)=>
 some ({c:=({aB:=h.c.aB,aF:=h.c.aF,bJ:=h.c.bJ,bA:=h.c.bA,bI:=h.c.bI}:Collation),entries:=h.entries,bT:=h.bT,bQ:=k,top:=G}:bG)
def zA7 (h:Norm):Option (Norm):=
(zBT h).bind λk=>
 cond (!decide (k=0)) (some ({aK:=({aK:=[],aA:=[],aN:=(({Ranges:=[]}):Set)}:Norm).aK,aA:=({aK:=[],aA:=[],aN:=(({Ranges:=[]}):Set)}:Norm).aA,aN:=({Ranges:=(({aK:=[],aA:=[],aN:=(({Ranges:=[]}):Set)}:Norm).aN).Ranges}:Set)}:Norm)) (some h)
def jL (H:(List Int)×Bool) (O:(Int->(List (Int×(List Int)))->Norm->Bool->Option ((List Int)×(List (Int×(List Int)))))) (a2:Norm) (a3:Bool) (G:Int) (h:(List Int)) (D:(List (Int×(List Int)))):Option (Stp (Int×(List Int)×(List (Int×(List Int)))) (((List Int)×(List (Int×(List Int)))))):=
 cond (decide (G<(H.1.length:Int))) ((yD H.1 G).bind λT=>
(O T D a2 a3).bind λK=>
(app h K.1).bind λk=>
 some (.next (wi (G+1),k,K.2))) (some (.done (h,D)))
def vH (D:Int->(List (Int×(List Int)))->Norm->Bool->Option ((List Int)×(List (Int×(List Int))))) (h:Int) (a1:(List (Int×(List Int)))) (a2:Norm) (a3:Bool):Option ((List Int)×(List (Int×(List Int)))):=
 cond (zDM a1 h) (some (mgetD a1 h [],a1)) ((uW a2 h a3).bind λk=>
 cond (!k.2) (some ([h],a1)) ((zE (λ(x:Int×(List Int)×(List (Int×(List Int))))=>jL k D a2 a3 x.1 x.2.1 x.2.2) (0,[],a1)).bind λ(G:(List Int)×(List (Int×(List Int))))=>
 some (G.1,wX G.2 h G.1)))
def kU:Nat->Int->(List (Int×(List Int)))->Norm->Bool->Option ((List Int)×(List (Int×(List Int))))
 | 0=>λ_ _ _ _=>none
 | n+1=>vH (kU n)
def zDG (h:Norm) (a1:Bool):Option (Unit):=
 some ()
def zB3 (h:(List Int)):Option ((List Int)):=app [] h
def vT (D:Int) (a1:Int) (a2:(List bL)):Option (Int):=
(jE a2 D).bind λG=>
(jE a2 a1).bind λh=>
(xK G h).bind λk=>
 some k
def yA (a1:Int) (a3:Int->Int->Option (Int)) (G:Int) (h:(List Int)):Option (Stp (Int×(List Int)) (((List Int)))):=
(pv (decide (a1<G))).bind λH=>
(gM H (yD h G)).bind λK=>
(gM H (yD h (wi (G-1)))).bind λO=>
(gM H (a3 K O)).bind λT=>
 cond (H&&(decide (T<0))) ((yD h (wi (G-1))).bind λY=>
(yD h G).bind λZ=>
(yD h G).bind λaa=>
(zBD h G Y).bind λk=>
(yD k (wi (G-1))).bind λab=>
(zBD k (wi (G-1)) Z).bind λD=>
 some (.next (wi (G-1),D))) (some (.done h))
def zZ (a2:Int) (a1:Int) (a3:Int->Int->Option (Int)) (k:Int) (h:(List Int)):Option (Stp (Int×(List Int)) (((List Int)))):=
 cond (decide (k<a2)) ((zE (λ(x:Int×(List Int))=>yA a1 a3 x.1 x.2) (k,h)).bind λ(D:(List Int))=>
 some (.next (wi (k+1),D))) (some (.done h))
def kV (h:(List Int)) (a1:Int) (a2:Int) (a3:Int->Int->Option (Int)):Option ((List Int)):=
(zE (λ(x:Int×(List Int))=>zZ a2 a1 a3 x.1 x.2) (wi (a1+1),h)).bind λ(k:(List Int))=>
 some k
def kF (a3:Int) (a2:Int) (a1:Int) (G:Int) (k:(List Int)):Option (Stp (Int×(List Int)) (((List Int)))):=
 cond (decide (G<a3)) ((yD k (wi (a2+G))).bind λH=>
(yD k (wi (a1+G))).bind λK=>
(yD k (wi (a1+G))).bind λO=>
(zBD k (wi (a1+G)) H).bind λh=>
(yD h (wi (a2+G))).bind λT=>
(zBD h (wi (a2+G)) K).bind λD=>
 some (.next (wi (G+1),D))) (some (.done k))
def kY (h:(List Int)) (a1:Int) (a2:Int) (a3:Int) (D:Int->Int->Option (Int)):Option ((List Int)):=
(zE (λ(x:Int×(List Int))=>kF a3 a2 a1 x.1 x.2) (0,h)).bind λ(k:(List Int))=>
 some k
def yV (a2:Int) (O:Int->Int->Option (Int)) (h:Int) (D:Int) (k:(List Int)):Option (Stp (Int×Int×(List Int)) ((Int×(List Int)))):=
 cond (!decide (h=D)) ((cond (decide (D<h)) ((kY k (wi (a2-h)) a2 D O).bind λG=>
 some (wi (h-D),D,G)) ((kY k (wi (a2-h)) (wi ((wi (a2+D))-h)) h O).bind λH=>
 some (h,wi (D-h),H))).bind λ(K:Int×Int×(List Int))=>
 some (.next (K.1,K.2.1,K.2.2))) (some (.done (h,k)))
def xQ (G:(List Int)) (a1:Int) (a2:Int) (a3:Int) (D:Int->Int->Option (Int)):Option ((List Int)):=
(zE (λ(x:Int×Int×(List Int))=>yV a2 D x.1 x.2.1 x.2.2) (wi (a2-a1),wi (a3-a2),G)).bind λ(k:Int×(List Int))=>
(kY k.2 (wi (a2-k.1)) a2 k.1 D).bind λh=>
 some h
def kL (K:(List Int)) (a1:Int) (T:Int->Int->Option (Int)) (h:Int) (k:Int):Option (Stp (Int×Int) ((Int))):=
 cond (decide (h<k)) (((yD K (wi ((wu (wi (h+k)))/2 ^ 1))).bind λD=>
(yD K a1).bind λG=>
(T D G).bind λH=>
 cond (decide (H<0)) (some (wi ((wi ((wu (wi (h+k)))/2 ^ 1))+1),k)) (some (h,wi ((wu (wi (h+k)))/2 ^ 1)))).bind λ(O:Int×Int)=>
 some (.next (O.1,O.2))) (some (.done h))
def kM (Y:Int) (G:Int) (k:(List Int)):Option (Stp (Int×(List Int)) (((List Int)))):=
 cond (decide (G<(wi (Y-1)))) ((yD k (wi (G+1))).bind λH=>
(yD k G).bind λK=>
(yD k G).bind λO=>
(zBD k G H).bind λh=>
(yD h (wi (G+1))).bind λT=>
(zBD h (wi (G+1)) K).bind λD=>
 some (.next (wi (G+1),D))) (some (.done k))
def kN (K:(List Int)) (a2:Int) (T:Int->Int->Option (Int)) (h:Int) (k:Int):Option (Stp (Int×Int) ((Int))):=
 cond (decide (h<k)) (((yD K a2).bind λG=>
(yD K (wi ((wu (wi (h+k)))/2 ^ 1))).bind λH=>
(T G H).bind λD=>
 cond (!(decide (D<0))) (some (wi ((wi ((wu (wi (h+k)))/2 ^ 1))+1),k)) (some (h,wi ((wu (wi (h+k)))/2 ^ 1)))).bind λ(O:Int×Int)=>
 some (.next (O.1,O.2))) (some (.done h))
def kO (Y:Int) (G:Int) (k:(List Int)):Option (Stp (Int×(List Int)) (((List Int)))):=
 cond (decide (Y<G)) ((yD k (wi (G-1))).bind λH=>
(yD k G).bind λK=>
(yD k G).bind λO=>
(zBD k G H).bind λh=>
(yD h (wi (G-1))).bind λT=>
(zBD h (wi (G-1)) K).bind λD=>
 some (.next (wi (G-1),D))) (some (.done k))
def kP (K:(List Int)) (a1:Int) (a3:Int) (a2:Int) (T:Int->Int->Option (Int)) (h:Int) (k:Int):Option (Stp (Int×Int) ((Int))):=
 cond (decide (h<k)) (((yD K (wi ((wi ((wi ((wi ((wu (wi (a1+a3)))/2 ^ 1))+a2))-1))-(wi ((wu (wi (h+k)))/2 ^ 1))))).bind λD=>
(yD K (wi ((wu (wi (h+k)))/2 ^ 1))).bind λG=>
(T D G).bind λH=>
 cond (!(decide (H<0))) (some (wi ((wi ((wu (wi (h+k)))/2 ^ 1))+1),k)) (some (h,wi ((wu (wi (h+k)))/2 ^ 1)))).bind λ(O:Int×Int)=>
 some (.next (O.1,O.2))) (some (.done h))
def yS (O:((List Int))->(Int)->(Int)->(Int)->(Int->Int->Option (Int))->Option ((List Int))) (k:(List Int)) (a1:Int) (a2:Int) (a3:Int) (D:Int->Int->Option (Int)):Option ((List Int)):=
 cond (decide ((wi (a2-a1))=1)) ((zE (λ(x:Int×Int)=>kL k a1 D x.1 x.2) (a2,a3)).bind λ(y1:Int)=>
(zE (λ(x:Int×(List Int))=>kM y1 x.1 x.2) (a1,k)).bind λ(y3:(List Int))=>
 some y3) (cond (decide ((wi (a3-a2))=1)) ((zE (λ(x:Int×Int)=>kN k a2 D x.1 x.2) (a1,a2)).bind λ(y4:Int)=>
(zE (λ(x:Int×(List Int))=>kO y4 x.1 x.2) (a2,k)).bind λ(y6:(List Int))=>
 some y6) ((cond (decide ((wi ((wu (wi (a1+a3)))/2 ^ 1))<a2)) (some (wi ((wi ((wi ((wu (wi (a1+a3)))/2 ^ 1))+a2))-a3),wi ((wu (wi (a1+a3)))/2 ^ 1))) (some (a1,a2))).bind λ(y7:Int×Int)=>
(zE (λ(x:Int×Int)=>kP k a1 a3 a2 D x.1 x.2) (y7.1,y7.2)).bind λ(h:Int)=>
(pv (decide (h<a2))).bind λG=>
(cond (G&&(decide (a2<(wi ((wi ((wi ((wu (wi (a1+a3)))/2 ^ 1))+a2))-h))))) ((xQ k h a2 (wi ((wi ((wi ((wu (wi (a1+a3)))/2 ^ 1))+a2))-h)) D).bind λT=>
 some T) (some k)).bind λ(aa:(List Int))=>
(pv (decide (a1<h))).bind λH=>
(cond (H&&(decide (h<(wi ((wu (wi (a1+a3)))/2 ^ 1))))) ((O aa a1 h (wi ((wu (wi (a1+a3)))/2 ^ 1)) D).bind λY=>
 some Y) (some aa)).bind λ(ab:(List Int))=>
(pv (decide ((wi ((wu (wi (a1+a3)))/2 ^ 1))<(wi ((wi ((wi ((wu (wi (a1+a3)))/2 ^ 1))+a2))-h))))).bind λK=>
 cond (K&&(decide ((wi ((wi ((wi ((wu (wi (a1+a3)))/2 ^ 1))+a2))-h))<a3))) ((O ab (wi ((wu (wi (a1+a3)))/2 ^ 1)) (wi ((wi ((wi ((wu (wi (a1+a3)))/2 ^ 1))+a2))-h)) a3 D).bind λZ=>
 some Z) (some ab)))
def kR:Nat->((List Int))->(Int)->(Int)->(Int)->(Int->Int->Option (Int))->Option ((List Int))
 | 0=>λ_ _ _ _ _=>none
 | n+1=>yS (kR n)
def yL (a1:Int) (a2:Int->Int->Option (Int)) (G:Int) (k:Int) (h:(List Int)):Option (Stp (Int×Int×(List Int)) ((Int×(List Int)))):=
 cond (decide (k<=a1)) ((kV h G k a2).bind λD=>
 some (.next (k,wi (k+20),D))) (some (.done (G,h)))
def yN (a1:Int) (H:Int) (a2:Int->Int->Option (Int)) (G:Int) (k:Int) (h:(List Int)):Option (Stp (Int×Int×(List Int)) ((Int×(List Int)))):=
 cond (decide (k<=a1)) ((kR 60 h G (wi (G+H)) k a2).bind λD=>
 some (.next (k,wi (k+(wi (2*H))),D))) (some (.done (G,h)))
def yW (a1:Int) (a2:Int->Int->Option (Int)) (k:Int) (h:(List Int)):Option (Stp (Int×(List Int)) (((List Int)))):=
 cond (decide (k<a1)) ((zE (λ(x:Int×Int×(List Int))=>yN a1 k a2 x.1 x.2.1 x.2.2) (0,wi (2*k),h)).bind λ(D:Int×(List Int))=>
(cond (decide ((wi (D.1+k))<a1)) ((kR 60 D.2 D.1 (wi (D.1+k)) a1 a2).bind λG=>
 some G) (some D.2)).bind λ(H:(List Int))=>
 some (.next (wi (k*2),H))) (some (.done h))
def uL (D:(List Int)) (a1:Int) (a2:Int->Int->Option (Int)):Option ((List Int)):=
(zE (λ(x:Int×Int×(List Int))=>yL a1 a2 x.1 x.2.1 x.2.2) (0,20,D)).bind λ(k:Int×(List Int))=>
(kV k.2 k.1 a1 a2).bind λh=>
(zE (λ(x:Int×(List Int))=>yW a1 a2 x.1 x.2) (20,h)).bind λ(G:(List Int))=>
 some G
def jA (h:(List Int)) (a1:Int->Int->Option (Int)):Option ((List Int)):=
(uL h (h.length:Int) a1).bind λk=>
 some k
def zCD (D:List bL) (a1:List Int):Option (List Int):=(zBR D).bind λh=>(zB3 a1).bind λk=>(zBS (xZ (λc=>jE h c==some 0) a1 0 (-1)) a1 h).bind λ_=>zBE (λp=>jA p (λx0 x1=>vT x0 x1 h)) Range.Lo Range.Hi k (xZ (λc=>jE h c==some 0) a1 0 (-1))
def xW (a1:(List Int)) (G:Norm) (a2:Bool) (H:Int) (h:(List Int)) (D:(List (Int×(List Int)))):Option (Stp (Int×(List Int)×(List (Int×(List Int)))) (((List Int)))):=
 cond (decide (H<(a1.length:Int))) ((yD a1 H).bind λO=>
(kU 100 O D ({aK:=G.aK,aA:=G.aA,aN:=({Ranges:=G.aN.Ranges}:Set)}:Norm) a2).bind λK=>
(app h K.1).bind λk=>
 some (.next (wi (H+1),k,K.2))) (some (.done h))
def vI (k:Norm) (a1:(List Int)) (a2:Bool):Option ((List Int)):=
(zA7 ({aK:=k.aK,aA:=k.aA,aN:=({Ranges:=k.aN.Ranges}:Set)}:Norm)).bind λh=>
(zDG ({aK:=h.aK,aA:=h.aA,aN:=({Ranges:=h.aN.Ranges}:Set)}:Norm) a2).bind λG=>
(zE (λ(x:Int×(List Int)×(List (Int×(List Int))))=>xW a1 h a2 x.1 x.2.1 x.2.2) (0,[],[])).bind λ(H:(List Int))=>
(zCD h.aK H).bind λD=>
 some D
def xB (k:bG) (a1:(List Int)):Option ((List aP)×Bool):=
(pv (decide ((a1.length:Int)=0))).bind λD=>
 cond (D ||(decide (k.bT<(a1.length:Int)))) (some ([],false)) ((zDO a1).bind λh=>
 some (mgetD k.entries h [],zDM k.entries h))
def xR (h:bG) (a1:Int):Option ((List aP)):=
(zAI a1).bind λG=>
 cond (!G) (some []) ((zNS wi a1 32768).bind λk=>
(zKF a1 32768).bind λD=>
 some [({aS:=wi (h.c.bJ+k),aL:=h.c.bA,aO:=h.c.bI,aD:=false}:aP),({aS:=wi (32768+D),aL:=0,aO:=0,aD:=false}:aP)])
def w7 (k:Int) (a1:bG) (a2:Int):Option (Bool):=
(yD a1.bQ k).bind λh=>
 some (decide (a2<=h.Hi))
def zCV (a1:Int->Option (Bool)) (h:Int) (k:Int):Option (Stp (Int×Int) ((Int))):=
 cond (decide (h<k)) (((a1 (wi ((wu (wi (h+k)))/2 ^ 1))).bind λD=>
 cond (!D) (some (wi ((wi ((wu (wi (h+k)))/2 ^ 1))+1),k)) (some (h,wi ((wu (wi (h+k)))/2 ^ 1)))).bind λ(G:Int×Int)=>
 some (.next (G.1,G.2))) (some (.done h))
def zKT (h:Int) (a1:Int->Option (Bool)):Option (Int):=
(zE (λ(x:Int×Int)=>zCV a1 x.1 x.2) (0,h)).bind λ(k:Int)=>
 some k
def vW (k:bG) (a1:Int):Option (Int):=
(zKT (k.bQ.length:Int) (λx0=>w7 x0 k a1)).bind λh=>
(pv (decide (h<(k.bQ.length:Int)))).bind λD=>
(gM D (yD k.bQ h)).bind λG=>
 cond (D&&(decide (G.Lo<=a1))) ((yD k.bQ h).bind λH=>
 some H.Value) (some 0)
def jG (a1:(List Int)) (G:bG) (h:Int):Option (Stp (Int) ((Int))):=
 cond (decide (0<h)) ((slc a1 0 h).bind λk=>
(xB G k).bind λD=>
 cond D.2 (some (.done h)) (some (.next (wi (h-1))))) (some (.done h))
def kQ (Z:bG) (D:Int) (H:Int) (k:Int) (h:(List Int)):Option (Stp (Int×Int×Int×(List Int)) ((Int×(List Int)))):=
(pv (decide (k<(h.length:Int)))).bind λaa=>
 cond (aa&&(decide (H<Z.top))) (((yD h k).bind λO=>
(vW Z O).bind λT=>
 cond (decide (T=0)) (some (.inl (()))) (cond (decide (T<=H)) (some (.inr ((D,H,h)))) ((slc h 0 D).bind λab=>
(app ab [O]).bind λK=>
(xB Z K).bind λac=>
 cond (!ac.2) (some (.inr ((D,T,h)))) ((slc h (wi (D+1)) (wi (k+1))).bind λag=>
(slc h D k).bind λah=>
(yD (cpM h (wi (D+1)) (wi (k+1)) D k) D).bind λad=>
(zBD (cpM h (wi (D+1)) (wi (k+1)) D k) D O).bind λG=>
 some (.inr ((wi (D+1),H,G))))))).bind λ(Y:(Unit)⊕(Int×Int×(List Int)))=>
 Y.elim (λY=>some (.done (D,h))) (λY=>some (.next (Y.1,Y.2.1,wi (k+1),Y.2.2)))) (some (.done (D,h)))
def vX (h:bG) (a1:(List Int)):Option (Int×(List aP)×Bool×(List Int)):=
(zE (λ(x:Int)=>jG a1 h x) (min h.bT (a1.length:Int))).bind λ(O:Int)=>
 cond (decide (O=0)) ((yD a1 (0:Int)).bind λH=>
(xR h H).bind λK=>
 some (1,K,false,a1)) ((zE (λ(x:Int×Int×Int×(List Int))=>kQ h x.1 x.2.1 x.2.2.1 x.2.2.2) (O,0,O,a1)).bind λ(G:Int×(List Int))=>
(slc G.2 0 G.1).bind λk=>
(xB h k).bind λD=>
 some (G.1,D.1,true,G.2))
def xU (K:bG) (h:(List aP)) (D:(List Int)):Option (Stp ((List aP)×(List Int)) (((List aP)))):=
 cond (decide (0<(D.length:Int))) ((vX K D).bind λH=>
(app h H.2.1).bind λk=>
(slc H.2.2.2 H.1 (H.2.2.2.length)).bind λG=>
 some (.next (k,G))) (some (.done h))
def kD (G:Norm) (a1:Collation) (a2:(List Int)):Option ((List aP)):=
(zEF a1).bind λh=>
(uX h G).bind λk=>
(vI G a2 false).bind λD=>
(zE (λ(x:(List aP)×(List Int))=>xU k x.1 x.2) ([],D)).bind λ(H:(List aP))=>
 some H
def zE9 (h:Options):Option (Int):=
(pv (decide (h.aJ<1))).bind λk=>
 cond (k ||(decide (4<h.aJ))) (some 1) ((cond (decide (h.aD=1)) (some (decide (h.aD=1))) (cond (decide (h.aD=2)) (some (decide (h.aD=2))) (some (decide (h.aD=3))))).bind λ(D:Bool)=>
 cond D (some 0) (some 8))
def zAD (h:Options):Option (Options):=
(zE9 h).bind λk=>
 cond (!decide (k=0)) (some ({aJ:=3,aD:=1,aQ:=false,aT:=false}:Options)) (some h)
def zAO (h:aP) (a1:Int) (a2:Bool):Option (bC×Bool):=
(cond (!decide (({x0:=({x0:=h.aS,x1:=h.aL,x2:=h.aO,x3:=0}:bC).x0,x1:=({x0:=h.aS,x1:=h.aL,x2:=h.aO,x3:=0}:bC).x1,x2:=({x0:=h.aS,x1:=h.aL,x2:=h.aO,x3:=0}:bC).x2,x3:=({x0:=h.aS,x1:=h.aL,x2:=h.aO,x3:=0}:bC).x3}:bC)=({x0:=0,x1:=0,x2:=0,x3:=0}:bC))) (some 65535) (some (({x0:=h.aS,x1:=h.aL,x2:=h.aO,x3:=0}:bC).x3))).bind λ(D:Int)=>
 cond (decide (a1=1)) (some (({x0:=({x0:=h.aS,x1:=h.aL,x2:=h.aO,x3:=0}:bC).x0,x1:=({x0:=h.aS,x1:=h.aL,x2:=h.aO,x3:=0}:bC).x1,x2:=({x0:=h.aS,x1:=h.aL,x2:=h.aO,x3:=0}:bC).x2,x3:=D}:bC),a2)) ((cond h.aD (some (({x0:=0,x1:=0,x2:=0,x3:=h.aS}:bC).x0,({x0:=0,x1:=0,x2:=0,x3:=h.aS}:bC).x1,({x0:=0,x1:=0,x2:=0,x3:=h.aS}:bC).x2,({x0:=0,x1:=0,x2:=0,x3:=h.aS}:bC).x3,true)) (cond (!decide (h.aS=0)) (some (({x0:=h.aS,x1:=h.aL,x2:=h.aO,x3:=0}:bC).x0,({x0:=h.aS,x1:=h.aL,x2:=h.aO,x3:=0}:bC).x1,({x0:=h.aS,x1:=h.aL,x2:=h.aO,x3:=0}:bC).x2,D,false)) (cond a2 (some (({x0:=0,x1:=0,x2:=0,x3:=0}:bC).x0,({x0:=0,x1:=0,x2:=0,x3:=0}:bC).x1,({x0:=0,x1:=0,x2:=0,x3:=0}:bC).x2,({x0:=0,x1:=0,x2:=0,x3:=0}:bC).x3,a2)) (some (({x0:=h.aS,x1:=h.aL,x2:=h.aO,x3:=0}:bC).x0,({x0:=h.aS,x1:=h.aL,x2:=h.aO,x3:=0}:bC).x1,({x0:=h.aS,x1:=h.aL,x2:=h.aO,x3:=0}:bC).x2,D,a2))))).bind λ(k:Int×Int×Int×Int×Bool)=>
(cond (decide (a1=2)) (some 0) (some k.2.2.2.1)).bind λ(G:Int)=>
 some (({x0:=k.1,x1:=k.2.1,x2:=k.2.2.1,x3:=G}:bC),k.2.2.2.2))
def zD2 (h:Int):Option (Unit):=
 some ()
def xE (G:Int) (H:Int) (k:(List Int)):Option (Stp (Int×Int×(List Int)) (((List Int)))):=
 cond (decide (G<H)) ((yD k H).bind λK=>
(yD k G).bind λO=>
(yD k G).bind λT=>
(zBD k G K).bind λh=>
(yD h H).bind λY=>
(zBD h H O).bind λD=>
 some (.next (wi (G+1),wi (H-1),D))) (some (.done k))
def wI (h:(List Int)):Option ((List Int)):=
(zE (λ(x:Int×Int×(List Int))=>xE x.1 x.2.1 x.2.2) (0,wi ((h.length:Int)-1),h)).bind λ(k:(List Int))=>
 some k
def xF (h:bC×Bool) (aa:Int) (k:(List Int)) (D:(List Int)) (G:(List Int)) (H:(List Int)):Option (Stp (Int×(List Int)×(List Int)×(List Int)×(List Int)) (((List Int)×(List Int)×(List Int)×(List Int)))):=
 cond (decide (aa=0)) (((yD [h.1.x0,h.1.x1,h.1.x2,h.1.x3] (0:Int)).bind λK=>
 cond (!decide (K=0)) ((app k [K]).bind λT=>
 some T) (some k)).bind λ(y3:(List Int))=>
 some (.next (wi ((0:Int)+1),y3,D,G,H))) (cond (decide (aa=1)) (((yD [h.1.x0,h.1.x1,h.1.x2,h.1.x3] (1:Int)).bind λK=>
 cond (!decide (K=0)) ((app D [K]).bind λY=>
 some Y) (some D)).bind λ(y5:(List Int))=>
 some (.next (wi ((1:Int)+1),k,y5,G,H))) (cond (decide (aa=2)) (((yD [h.1.x0,h.1.x1,h.1.x2,h.1.x3] (2:Int)).bind λK=>
 cond (!decide (K=0)) ((app G [K]).bind λZ=>
 some Z) (some G)).bind λ(y7:(List Int))=>
 some (.next (wi ((2:Int)+1),k,D,y7,H))) (cond (decide (aa=3)) (((yD [h.1.x0,h.1.x1,h.1.x2,h.1.x3] (3:Int)).bind λK=>
 cond (!decide (K=0)) ((app H [K]).bind λO=>
 some O) (some H)).bind λ(y9:(List Int))=>
 some (.next (wi ((3:Int)+1),k,D,G,y9))) (cond (decide (aa=4)) (some (.done (k,D,G,H))) (none)))))
def uG (a0:(List aP)) (Y:Options) (K:Int) (h:Bool) (k:(List Int)) (D:(List Int)) (G:(List Int)) (H:(List Int)):Option (Stp (Int×Bool×(List Int)×(List Int)×(List Int)×(List Int)) (((List Int)×(List Int)×(List Int)×(List Int)))):=
 cond (decide (K<(a0.length:Int))) ((yD a0 K).bind λZ=>
(zAO Z Y.aD h).bind λO=>
(zE (λ(x:Int×(List Int)×(List Int)×(List Int)×(List Int))=>xF O x.1 x.2.1 x.2.2.1 x.2.2.2.1 x.2.2.2.2) (0,k,D,G,H)).bind λ(T:(List Int)×(List Int)×(List Int)×(List Int))=>
 some (.next (wi (K+1),O.2,T.1,T.2.1,T.2.2.1,T.2.2.2))) (some (.done (k,D,G,H)))
def vU (O:(List aP)) (a1:Options):Option ((List (List Int))):=
(zAD ({aJ:=a1.aJ,aD:=a1.aD,aQ:=a1.aQ,aT:=a1.aT}:Options)).bind λD=>
(zD2 D.aD).bind λT=>
(zE (λ(x:Int×Bool×(List Int)×(List Int)×(List Int)×(List Int))=>uG O D x.1 x.2.1 x.2.2.1 x.2.2.2.1 x.2.2.2.2.1 x.2.2.2.2.2) (0,false,[],[],[],[])).bind λ(h:(List Int)×(List Int)×(List Int)×(List Int))=>
(cond D.aQ ((wI h.2.1).bind λH=>
 some H) (some h.2.1)).bind λ(G:(List Int))=>
(slc [({x0:=h.1,x1:=G,x2:=h.2.2.1,x3:=h.2.2.2}:b0).x0,({x0:=h.1,x1:=G,x2:=h.2.2.1,x3:=h.2.2.2}:b0).x1,({x0:=h.1,x1:=G,x2:=h.2.2.1,x3:=h.2.2.2}:b0).x2,({x0:=h.1,x1:=G,x2:=h.2.2.1,x3:=h.2.2.2}:b0).x3] 0 D.aJ).bind λK=>
(app [] K).bind λk=>
 some k
def jM (G:(List (List Int))) (a1:(List Int)->Option (Bool)) (h:Int):Option (Stp (Int) ((Unit)⊕(Int))):=
 cond (decide (h<(G.length:Int))) ((yD G h).bind λk=>
(a1 k).bind λD=>
 cond D (some (.done (.inr (h)))) (some (.next (wi (h+1))))) (some (.done (.inl (()))))
def vJ (k:(List (List Int))) (a1:(List Int)->Option (Bool)):Option (Int):=
(zE (λ(x:Int)=>jM k a1 x) 0).bind λ(h:(Unit)⊕(Int))=>
 h.elim (λh=>some (-1)) (λh=>some h)
def jN (h:(List (List Int))) (a1:(List Int)->Option (Bool)):Option (Bool):=
(vJ h a1).bind λk=>
 some (decide (0<=k))
def zBH (h:(List Int)):Option (Bool):=
 some (decide (0<(h.length:Int)))
def kA (G:(List aP)) (a1:(List aP)) (h:Int):Option (Stp (Int) ((Unit)⊕(Bool))):=
 cond (decide (h<(G.length:Int))) ((yD G h).bind λk=>
(yD a1 h).bind λD=>
 cond (!decide (k=D)) (some (.done (.inr (false)))) (some (.next (wi (h+1))))) (some (.done (.inl (()))))
def yI (k:(List aP)) (a1:(List aP)):Option (Bool):=
 cond (!decide ((k.length:Int)=(a1.length:Int))) (some false) ((zE (λ(x:Int)=>kA k a1 x) 0).bind λ(h:(Unit)⊕(Bool))=>
 h.elim (λh=>some true) (λh=>some h))
def vQ (G:(List aP)) (a2:Options) (h:Int) (k:(List Int)):Option (Stp (Int×(List Int)) (((List Int)))):=
 cond (decide (h<(G.length:Int))) ((yD k h).bind λH=>
(slc G h (wi (h+1))).bind λK=>
(vU K a2).bind λO=>
(yD O (0:Int)).bind λT=>
(yD k (wi (h+1))).bind λY=>
(zBD k (wi (h+1)) (wi (H+(T.length:Int)))).bind λD=>
 some (.next (wi (h+1),D))) (some (.done k))
def vR (a5:(List Int)) (a4:(List Int)) (a0:Norm) (a1:Collation) (k:(List aP)) (Y:Int) (O:(List (Int×Int))) (T:(List (Int×Int))):Option (Stp (Int×(List (Int×Int))×(List (Int×Int))) (((List (Int×Int))×(List (Int×Int))))):=
 cond (decide (Y<(a5.length:Int))) (((yD a5 Y).bind λh=>
(slc a4 0 h).bind λag=>
(kD a0 a1 ag).bind λH=>
(slc a4 h (a4.length)).bind λah=>
(kD a0 a1 ah).bind λK=>
(pv (decide ((H.length:Int)<=(k.length:Int)))).bind λD=>
(gM D (slc k 0 (H.length:Int))).bind λZ=>
(gM D (yI H Z)).bind λaa=>
(cond (D&&aa) (some (wX (wX O h (-1)) h (H.length:Int))) (some (wX O h (-1)))).bind λ(y5:(List (Int×Int)))=>
(pv (decide ((K.length:Int)<=(k.length:Int)))).bind λG=>
(gM G (slc k (wi ((k.length:Int)-(K.length:Int))) (k.length))).bind λab=>
(gM G (yI K ab)).bind λac=>
 cond (G&&ac) (some (y5,wX (wX T h (-1)) h (K.length:Int))) (some (y5,wX T h (-1)))).bind λ(y4:(List (Int×Int))×(List (Int×Int)))=>
 some (.next (wi (Y+1),y4.1,y4.2))) (some (.done (O,T)))
def zCW (k:Norm) (a1:Collation) (a2:Options) (a3:(List Int)) (G:(List Int)) (Y:(List Int)):Option ((Option bP)):=
(kD k a1 a3).bind λK=>
(vU K a2).bind λD=>
(jN D (λx0=>zBH x0)).bind λO=>
 cond (!O) (some none) ((kD k a1 G).bind λh=>
(mkM 0 (wi ((h.length:Int)+1))).bind λH=>
(zE (λ(x:Int×(List Int))=>vQ h a2 x.1 x.2) (0,H)).bind λ(Z:(List Int))=>
(zE (λ(x:Int×(List (Int×Int))×(List (Int×Int)))=>vR Y G k a1 h x.1 x.2.1 x.2.2) (0,[],[])).bind λ(T:(List (Int×Int))×(List (Int×Int)))=>
 some (some ({norm:=({aK:=k.aK,aA:=k.aA,aN:=({Ranges:=k.aN.Ranges}:Set)}:Norm),bY:=({aB:=a1.aB,aF:=a1.aF,bJ:=a1.bJ,bA:=a1.bA,bI:=a1.bI}:Collation),b8:=({aJ:=a2.aJ,aD:=a2.aD,aQ:=a2.aQ,aT:=a2.aT}:Options),text:=G,wanted:=D,bW:=h,b4:=Z,b5:=T.1,b3:=T.2}:bP)))
def xG (K:(List Int)) (a1:(List Int)) (items:(List (Range))) (k:Bool) (H:Int) (h:Nat):Option (Stp (Int×Nat) ((Nat)⊕(Nat))):=
 cond (decide (H<(K.length:Int))) ((yD K H).bind λD=>
(yD a1 (0:Int)).bind λG=>
(yM items h ({Lo:=G,Hi:=D}:Range)).bind λO=>
 cond (!(goB k items.length h)) (some (.done (.inr (h+1)))) (some (.next (wi (H+1),h+1)))) (some (.done (.inl (h))))
def zAP (items:List (Range)) (h:Bool) (a1:(List Int)):Option Unit:=
(slc a1 1 (a1.length)).bind λD=>
(zE (λ(x:Int×Nat)=>xG D a1 items h x.1 x.2) (0,0)).bind λ(k:(Nat)⊕(Nat))=>
 k.elim (λk=>zV1 items k) (λk=>zV1 items k)
def kX (H:(List (List Int))) (a1:(List (List Int))) (a2:(List Int)->(List Int)->Option (Bool)) (h:Int):Option (Stp (Int) ((Unit)⊕(Bool))):=
 cond (decide (h<(H.length:Int))) ((yD H h).bind λk=>
(yD a1 h).bind λD=>
(a2 k D).bind λG=>
 cond (!G) (some (.done (.inr (false)))) (some (.next (wi (h+1))))) (some (.done (.inl (()))))
def jS (k:(List (List Int))) (a1:(List (List Int))) (a2:(List Int)->(List Int)->Option (Bool)):Option (Bool):=
 cond (!decide ((k.length:Int)=(a1.length:Int))) (some false) ((zE (λ(x:Int)=>kX k a1 a2 x) 0).bind λ(h:(Unit)⊕(Bool))=>
 h.elim (λh=>some true) (λh=>some h))
def wA (G:(List Int)) (a1:(List Int)) (h:Int):Option (Stp (Int) ((Unit)⊕(Bool))):=
 cond (decide (h<(G.length:Int))) ((yD G h).bind λk=>
(yD a1 h).bind λD=>
 cond (!decide (k=D)) (some (.done (.inr (false)))) (some (.next (wi (h+1))))) (some (.done (.inl (()))))
def xC (k:(List Int)) (a1:(List Int)):Option (Bool):=
 cond (!decide ((k.length:Int)=(a1.length:Int))) (some false) ((zE (λ(x:Int)=>wA k a1 x) 0).bind λ(h:(Unit)⊕(Bool))=>
 h.elim (λh=>some true) (λh=>some h))
def xV (h:bP) (a1:Range):Option (Bool):=
(pv (decide ((mgetD h.b5 a1.Lo 0)<0))).bind λO=>
(pv (O ||(decide ((mgetD h.b3 a1.Hi 0)<0)))).bind λT=>
(pv (T ||(decide ((wi ((h.bW.length:Int)-(mgetD h.b3 a1.Hi 0)))<(mgetD h.b5 a1.Lo 0))))).bind λk=>
(gM (!k) (yD h.b4 (wi ((h.bW.length:Int)-(mgetD h.b3 a1.Hi 0))))).bind λY=>
(gM (!k) (yD h.b4 (mgetD h.b5 a1.Lo 0))).bind λZ=>
(gM (!k) (yD h.wanted (0:Int))).bind λaa=>
 cond (k ||(!decide ((wi (Y-Z))=(aa.length:Int)))) (some false) ((slc h.bW (mgetD h.b5 a1.Lo 0) (wi ((h.bW.length:Int)-(mgetD h.b3 a1.Hi 0)))).bind λK=>
(vU K h.b8).bind λab=>
(jS ab h.wanted (λx0 x1=>xC x0 x1)).bind λac=>
 cond (!ac) (some false) ((slc h.text a1.Lo a1.Hi).bind λD=>
(kD h.norm h.bY D).bind λG=>
(yI K G).bind λH=>
 some H))
def xA (H:bP) (h:(List Range)) (G:Range):Option (Bool×((List Range))):=
(xV H G).bind λD=>
 cond D ((app h [G]).bind λk=>
 some (false,k)) (some (true,h))
def zCE (k:(List Int)) (K:bP) (G:Int) (h:(List Range)):Option (Stp (Int×(List Range)) (((List Range)))):=
 cond (decide (G<(k.length:Int))) (((slc k G (k.length)).bind λD=>
(zMI (λ(s:(List Range)) (x:Range)=>xA K s x) h (zV5 (λa b=>({Lo:=a,Hi:=b}:Range)) D)).bind λ(H:Nat×Bool×((List Range)))=>
(zAP ((zV5 (λa b=>({Lo:=a,Hi:=b}:Range)) D).take H.1) (!H.2.1) D).bind λO=>
 cond H.2.1 (some H.2.2) (some H.2.2)).bind λ(T:(List Range))=>
 some (.next (wi (G+1),T))) (some (.done h))
def zDH (G:Norm) (a1:Collation) (a2:Options) (a3:(List Int)) (D:(List Int)) (H:(List Int)):Option ((List Range)):=
(zCP H (D.length:Int)).bind λh=>
(zCW G a1 a2 a3 D h).bind λk=>
 Option.elim k (some []) (λK=>
(zE (λ(x:Int×(List Range))=>zCE h K x.1 x.2) (0,[])).bind λ(O:(List Range))=>
 some O)
def zJN (H:(List Range)) (K:Int) (G:Int) (h:(List Range)):Option (Stp (Int×Int×(List Range)) (((List Range)))):=
 cond (decide (G<(H.length:Int))) (((yD H G).bind λD=>
 cond (decide (K<=D.Lo)) ((app h [D]).bind λk=>
 some (D.Hi,k)) (some (K,h))).bind λ(O:Int×(List Range))=>
 some (.next (O.1,wi (G+1),O.2))) (some (.done h))
def wQ (k:Norm) (a1:Collation) (a2:Options) (a3:(List Int)) (D:(List Int)) (G:(List Int)):Option ((List Range)):=
(zDH k a1 a2 a3 D G).bind λh=>
(zE (λ(x:Int×Int×(List Range))=>zJN h x.1 x.2.1 x.2.2) (0,0,[])).bind λ(H:(List Range))=>
 some H
def zF8 (H:(List Range)) (Y:(List Int)) (Z:(List Int)) (O:Int) (G:Int) (h:(List Int)):Option (Stp (Int×Int×(List Int)) ((Int×(List Int)))):=
 cond (decide (G<(H.length:Int))) ((yD H G).bind λK=>
(slc Y O K.Lo).bind λT=>
(app h T).bind λk=>
(app k Z).bind λD=>
 some (.next (K.Hi,wi (G+1),D))) (some (.done (O,h)))
def vK (K:Norm) (a1:Collation) (a2:Options) (a3:(List Int)) (k:(List Int)) (O:(List Int)) (T:(List Int)):Option ((List Int)):=
(wQ K a1 a2 a3 k T).bind λD=>
(zE (λ(x:Int×Int×(List Int))=>zF8 D k O x.1 x.2.1 x.2.2) (0,0,[])).bind λ(H:Int×(List Int))=>
(slc k H.1 (k.length)).bind λG=>
(app H.2 G).bind λh=>
 some h
def zDS (G:(List Range)) (a1:(List Range)) (h:Int):Option (Stp (Int) ((Unit)⊕(Bool))):=
 cond (decide (h<(G.length:Int))) ((yD G h).bind λk=>
(yD a1 h).bind λD=>
 cond (!decide (k=D)) (some (.done (.inr (false)))) (some (.next (wi (h+1))))) (some (.done (.inl (()))))
def zAJ (k:(List Range)) (a1:(List Range)):Option (Bool):=
 cond (!decide ((k.length:Int)=(a1.length:Int))) (some false) ((zE (λ(x:Int)=>zDS k a1 x) 0).bind λ(h:(Unit)⊕(Bool))=>
 h.elim (λh=>some true) (λh=>some h))
def zA8 (k:(List Int)) (a1:(List Int)) (h:Int):Option (Stp (Int) ((Unit)⊕(Int))):=
(pv (decide (h<(k.length:Int)))).bind λD=>
 cond (D&&(decide (h<(a1.length:Int)))) ((yD k h).bind λG=>
(yD a1 h).bind λH=>
 cond (decide (G<H)) (some (.done (.inr ((-1))))) ((yD k h).bind λK=>
(yD a1 h).bind λO=>
 cond (decide (O<K)) (some (.done (.inr (1)))) (some (.next (wi (h+1)))))) (some (.done (.inl (()))))
def zDT (k:(List Int)) (a1:(List Int)):Option (Int):=
(zE (λ(x:Int)=>zA8 k a1 x) 0).bind λ(h:(Unit)⊕(Int))=>
 h.elim (λh=>cond (decide ((k.length:Int)<(a1.length:Int))) (some (-1)) (cond (decide ((a1.length:Int)<(k.length:Int))) (some 1) (some 0))) (λh=>some h)
def uY (h:(List Int)) (a1:(List Int)):Option (Bool):=
(zDT h a1).bind λk=>
 some (decide (k=0))
def zCX (H:(List (List Int))) (G:Int) (h:(List Int)):Option (Stp (Int×(List Int)) (((List Int)))):=
 cond (decide (G<(H.length:Int))) ((yD H G).bind λK=>
(cond (decide (0<G)) ((app h [0]).bind λk=>
 some k) (some h)).bind λ(O:(List Int))=>
(app O K).bind λD=>
 some (.next (wi (G+1),D))) (some (.done h))
def zCY (H:(List Int)) (G:Int) (h:(List Int)):Option (Stp (Int×(List Int)) (((List Int)))):=
 cond (decide (G<(H.length:Int))) (((yD H G).bind λD=>
(pv (decide (0<=D))).bind λK=>
 cond (K&&(decide (D<=1114111))) ((app h [wi (D+1)]).bind λk=>
 some k) (some h)).bind λ(O:(List Int))=>
 some (.next (wi (G+1),O))) (some (.done h))
def zHV (K:Norm) (a1:Collation) (a2:Options) (a3:(List Int)):Option ((List Int)):=
(zAD ({aJ:=a2.aJ,aD:=a2.aD,aQ:=a2.aQ,aT:=a2.aT}:Options)).bind λk=>
(kD K a1 a3).bind λD=>
(vU D ({aJ:=k.aJ,aD:=k.aD,aQ:=k.aQ,aT:=k.aT}:Options)).bind λG=>
(zE (λ(x:Int×(List Int))=>zCX G x.1 x.2) (0,[])).bind λ(O:(List Int))=>
 cond (!k.aT) (some O) ((app O [0]).bind λh=>
(vI K a3 false).bind λH=>
(zE (λ(x:Int×(List Int))=>zCY H x.1 x.2) (0,h)).bind λ(T:(List Int))=>
 some T)
def zBI (k:Norm) (a1:Collation) (a2:Options) (a3:(List Int)) (D:Int):Option ((List Int)):=
(zHV k a1 ({aJ:=D,aD:=a2.aD,aQ:=a2.aQ,aT:=false}:Options) a3).bind λh=>
 some h
def jY (G:(List Int)) (a1:Int->Option (Bool)) (h:Int):Option (Stp (Int) ((Unit)⊕(Int))):=
 cond (decide (h<(G.length:Int))) ((yD G h).bind λk=>
(a1 k).bind λD=>
 cond D (some (.done (.inr (h)))) (some (.next (wi (h+1))))) (some (.done (.inl (()))))
def uM (k:(List Int)) (a1:Int->Option (Bool)):Option (Int):=
(zE (λ(x:Int)=>jY k a1 x) 0).bind λ(h:(Unit)⊕(Int))=>
 h.elim (λh=>some (-1)) (λh=>some h)
def xX (h:(List Int)) (a1:Int->Option (Bool)):Option (Bool):=
(uM h a1).bind λk=>
 some (decide (0<=k))
def zF9 (h:Int):Option (Bool):=
 some (!decide (h=0))
def uN (K:Norm) (a1:Collation) (a2:Options) (a3:(List Int)) (O:(List Int)):Option (Bool):=
(zBI K a1 a2 a3 a2.aJ).bind λk=>
(zBI K a1 a2 O a2.aJ).bind λD=>
(xX k (λx0=>zF9 x0)).bind λG=>
(pv G).bind λh=>
(gM h (xC k D)).bind λH=>
 some (h&&H)
def yK (G:(List (List aP))) (D:Int) (h:Int):Option (Stp (Int×Int) ((Int))):=
 cond (decide (h<(G.length:Int))) (((yD G h).bind λk=>
 cond (decide ((wi (D+(k.length:Int)))<0)) (none) (some (wi (D+(k.length:Int))))).bind λ(H:Int)=>
 some (.next (H,wi (h+1)))) (some (.done D))
def yZ (H:(List (List aP))) (D:Int) (h:(List aP)):Option (Stp (Int×(List aP)) (((List aP)))):=
 cond (decide (D<(H.length:Int))) ((yD H D).bind λG=>
(app h G).bind λk=>
 some (.next (wi (D+1),k))) (some (.done h))
def jD (h:(List (List aP))):Option ((List aP)):=
(zE (λ(x:Int×Int)=>yK h x.1 x.2) (0,0)).bind λ(D:Int)=>
(z4B D).bind λk=>
(zE (λ(x:Int×(List aP))=>yZ h x.1 x.2) (0,[])).bind λ(G:(List aP))=>
 some G
def uO (h:Norm) (a1:Collation) (a2:(List Int)) (a3:Range):Option (Bool):=
(pv (decide (a3.Lo<0))).bind λk=>
(pv (k ||(decide (a3.Hi<a3.Lo)))).bind λD=>
 cond (D ||(decide ((a2.length:Int)<a3.Hi))) (some false) ((slc a2 0 a3.Lo).bind λG=>
(kD h a1 G).bind λH=>
(slc a2 a3.Lo a3.Hi).bind λK=>
(kD h a1 K).bind λO=>
(slc a2 a3.Hi (a2.length)).bind λT=>
(kD h a1 T).bind λY=>
(jD [H,O,Y]).bind λZ=>
(kD h a1 a2).bind λaa=>
(yI Z aa).bind λab=>
 some ab)
def zAU:Option (Bool):=
(zHH).bind λh=>
(wQ ({aK:=({aK:=[],aA:=[],aN:=(({Ranges:=[]}):Set)}:Norm).aK,aA:=({aK:=[],aA:=[],aN:=(({Ranges:=[]}):Set)}:Norm).aA,aN:=({Ranges:=(({aK:=[],aA:=[],aN:=(({Ranges:=[]}):Set)}:Norm).aN).Ranges}:Set)}:Norm) h ({aJ:=1,aD:=1,aQ:=false,aT:=false}:Options) [65] [97,769,98,65] [0,2,3,4]).bind λY=>
(zDH ({aK:=({aK:=[],aA:=[],aN:=(({Ranges:=[]}):Set)}:Norm).aK,aA:=({aK:=[],aA:=[],aN:=(({Ranges:=[]}):Set)}:Norm).aA,aN:=({Ranges:=(({aK:=[],aA:=[],aN:=(({Ranges:=[]}):Set)}:Norm).aN).Ranges}:Set)}:Norm) h ({aJ:=1,aD:=1,aQ:=false,aT:=false}:Options) [65] [97,769,98,65] [0,1,2,3,4]).bind λZ=>
(vK ({aK:=({aK:=[],aA:=[],aN:=(({Ranges:=[]}):Set)}:Norm).aK,aA:=({aK:=[],aA:=[],aN:=(({Ranges:=[]}):Set)}:Norm).aA,aN:=({Ranges:=(({aK:=[],aA:=[],aN:=(({Ranges:=[]}):Set)}:Norm).aN).Ranges}:Set)}:Norm) h ({aJ:=1,aD:=1,aQ:=false,aT:=false}:Options) [65] [97,769,98,65] [120] [0,2,3,4]).bind λaa=>
(zAJ Y [({Lo:=0,Hi:=2}:Range),({Lo:=3,Hi:=4}:Range)]).bind λab=>
(pv ab).bind λk=>
(gM k (zAJ Z [({Lo:=0,Hi:=1}:Range),({Lo:=3,Hi:=4}:Range)])).bind λac=>
(pv (k&&ac)).bind λD=>
(gM D (uY aa [120,98,120])).bind λad=>
(pv (D&&ad)).bind λG=>
(gM G (uN ({aK:=({aK:=[],aA:=[],aN:=(({Ranges:=[]}):Set)}:Norm).aK,aA:=({aK:=[],aA:=[],aN:=(({Ranges:=[]}):Set)}:Norm).aA,aN:=({Ranges:=(({aK:=[],aA:=[],aN:=(({Ranges:=[]}):Set)}:Norm).aN).Ranges}:Set)}:Norm) h ({aJ:=1,aD:=1,aQ:=false,aT:=false}:Options) [97] [65])).bind λag=>
(pv (G&&ag)).bind λH=>
(gM H (uN ({aK:=({aK:=[],aA:=[],aN:=(({Ranges:=[]}):Set)}:Norm).aK,aA:=({aK:=[],aA:=[],aN:=(({Ranges:=[]}):Set)}:Norm).aA,aN:=({Ranges:=(({aK:=[],aA:=[],aN:=(({Ranges:=[]}):Set)}:Norm).aN).Ranges}:Set)}:Norm) h ({aJ:=1,aD:=1,aQ:=false,aT:=false}:Options) [] [])).bind λah=>
(pv (H&&(!ah))).bind λK=>
(gM K (uO ({aK:=({aK:=[],aA:=[],aN:=(({Ranges:=[]}):Set)}:Norm).aK,aA:=({aK:=[],aA:=[],aN:=(({Ranges:=[]}):Set)}:Norm).aA,aN:=({Ranges:=(({aK:=[],aA:=[],aN:=(({Ranges:=[]}):Set)}:Norm).aN).Ranges}:Set)}:Norm) h [97,769,98,65] ({Lo:=1,Hi:=2}:Range))).bind λai=>
(pv (K&&ai)).bind λO=>
(gM O (uO ({aK:=({aK:=[],aA:=[],aN:=(({Ranges:=[]}):Set)}:Norm).aK,aA:=({aK:=[],aA:=[],aN:=(({Ranges:=[]}):Set)}:Norm).aA,aN:=({Ranges:=(({aK:=[],aA:=[],aN:=(({Ranges:=[]}):Set)}:Norm).aN).Ranges}:Set)}:Norm) h [97,769,98,65] ({Lo:=2,Hi:=1}:Range))).bind λaj=>
(pv (O&&(!aj))).bind λT=>
(gM T (wQ ({aK:=({aK:=[],aA:=[],aN:=(({Ranges:=[]}):Set)}:Norm).aK,aA:=({aK:=[],aA:=[],aN:=(({Ranges:=[]}):Set)}:Norm).aA,aN:=({Ranges:=(({aK:=[],aA:=[],aN:=(({Ranges:=[]}):Set)}:Norm).aN).Ranges}:Set)}:Norm) h ({aJ:=1,aD:=1,aQ:=false,aT:=false}:Options) [769] [97,769,98,65] [1,2])).bind λak=>
 some (T&&(decide ((ak.length:Int)=0)))
def w8 (h:Int):Option (Bool):=
(pv (decide (0<=h))).bind λk=>
 some (k&&(decide (h<=1114111)))
def zI0:Option ((List Range)):=
 some [({Lo:=4352,Hi:=4370}:Range),({Lo:=4449,Hi:=4469}:Range),({Lo:=4520,Hi:=4546}:Range),({Lo:=44032,Hi:=55203}:Range)]
def zCZ (k:(List bL)) (h:Int):Option (Stp (Int) ((Unit)⊕(Int))):=
 cond (decide (h<(k.length:Int))) ((yD k h).bind λO=>
(w8 O.Lo).bind λT=>
(pv (!T)).bind λD=>
(gM (!D) (yD k h)).bind λY=>
(gM (!D) (w8 Y.Hi)).bind λZ=>
(pv (D ||(!Z))).bind λG=>
(gM (!G) (yD k h)).bind λaa=>
(gM (!G) (yD k h)).bind λab=>
(pv (G ||(decide (ab.Hi<aa.Lo)))).bind λH=>
(gM (!H) (yD k h)).bind λac=>
(pv (H ||(decide (ac.Value<1)))).bind λK=>
(gM (!K) (yD k h)).bind λad=>
 cond (K ||(decide (254<ad.Value))) (some (.done (.inr (1)))) (some (.next (wi (h+1))))) (some (.done (.inl (()))))
def zC0 (D:(List bL)) (k:Int):Option (Stp (Int) ((Unit)⊕(Int))):=
 cond (decide (k<(D.length:Int))) ((yD D k).bind λK=>
(yD D (wi (k-1))).bind λO=>
(pv (decide (K.Lo<=O.Hi))).bind λh=>
(gM (!h) (yD D k)).bind λT=>
(gM (!h) (yD D (wi (k-1)))).bind λY=>
(pv (decide (T.Lo=(wi (Y.Hi+1))))).bind λG=>
(gM (!h&&G) (yD D k)).bind λZ=>
(gM (!h&&G) (yD D (wi (k-1)))).bind λH=>
 cond (h ||(G&&(decide (Z.Value=H.Value)))) (some (.done (.inr (4)))) (some (.next (wi (k+1))))) (some (.done (.inl (()))))
def uZ (k:(List Range)) (T:(List bL)) (Y:Int) (O:Int):Option (Stp (Int) ((Unit)⊕(Int))):=
 cond (decide (O<(k.length:Int))) ((yD T Y).bind λD=>
(yD k O).bind λG=>
(pv (decide (D.Lo<=G.Hi))).bind λh=>
(gM h (yD k O)).bind λH=>
(gM h (yD T Y)).bind λK=>
 cond (h&&(decide (H.Lo<=K.Hi))) (some (.done (.inr (11)))) (some (.next (wi (O+1))))) (some (.done (.inl (()))))
def zC1 (G:(List bL)) (h:(List Range)) (D:Int):Option (Stp (Int) ((Unit)⊕(Int))):=
 cond (decide (D<(G.length:Int))) ((zE (λ(x:Int)=>uZ h G D x) 0).bind λ(k:(Unit)⊕(Int))=>
 k.elim (λk=>some (.next (wi (D+1)))) (λk=>some (.done (.inr (k))))) (some (.done (.inl (()))))
def zFR (H:(List bL)):Option (Int):=
(zE (λ(x:Int)=>zCZ H x) 0).bind λ(k:(Unit)⊕(Int))=>
 k.elim (λk=>(zE (λ(x:Int)=>zC0 H x) 1).bind λ(D:(Unit)⊕(Int))=>
 D.elim (λD=>(zI0).bind λh=>
(zE (λ(x:Int)=>zC1 H h x) 0).bind λ(G:(Unit)⊕(Int))=>
 G.elim (λG=>some 0) (λG=>some G)) (λD=>some D)) (λk=>some k)
def zC2 (G:aI) (D:Int):Option (Stp (Int) ((Unit)⊕(Bool))):=
 cond (decide (D<(G.To.length:Int))) ((yD G.To D).bind λh=>
(w8 h).bind λk=>
 cond (!k) (some (.done (.inr (false)))) (some (.next (wi (D+1))))) (some (.done (.inl (()))))
def zHW (D:aI):Option (Bool):=
(zE (λ(x:Int)=>zC2 D x) 0).bind λ(h:(Unit)⊕(Bool))=>
 h.elim (λh=>(w8 D.aV).bind λk=>
 some k) (λh=>some h)
def zHI (Y:Str) (T:Int):Option (Stp (Int) ((Unit)⊕(Bool))):=
 cond (decide (T<(Y.length:Int))) ((z3I Y T).bind λh=>
(pv (decide (65<=h))).bind λk=>
(pv (k&&(decide (h<=90)))).bind λD=>
(pv (decide (97<=h))).bind λG=>
(pv (D ||(G&&(decide (h<=122))))).bind λH=>
(pv (decide (48<=h))).bind λK=>
(pv (H ||(K&&(decide (h<=57))))).bind λO=>
 cond (!(O ||(decide (h=95)))) (some (.done (.inr (false)))) (some (.next (wi (T+1))))) (some (.done (.inl (()))))
def zG0 (k:Str):Option (Bool):=
(zE (λ(x:Int)=>zHI k x) 0).bind λ(h:(Unit)⊕(Bool))=>
 h.elim (λh=>(pv (decide (1<=(k.length:Int)))).bind λD=>
 some (D&&(decide ((k.length:Int)<=32)))) (λh=>some h)
def u0 (T:Int) (k:(List aI)) (D:Int):Option (Stp (Int) ((Unit)⊕(Bool))):=
 cond (decide (D<T)) ((yD k T).bind λG=>
(yD k D).bind λH=>
(pv (decide (G.aV=H.aV))).bind λh=>
(gM h (yD k T)).bind λK=>
(gM h (yD k D)).bind λO=>
 cond (h&&(K.bN==O.bN)) (some (.done (.inr (true)))) (some (.next (wi (D+1))))) (some (.done (.inl (()))))
def zC3 (D:(List aI)) (k:Int):Option (Stp (Int) ((Unit)⊕(Bool))):=
 cond (decide (k<(D.length:Int))) ((zE (λ(x:Int)=>u0 k D x) 0).bind λ(h:(Unit)⊕(Bool))=>
 h.elim (λh=>some (.next (wi (k+1)))) (λh=>some (.done (.inr (h))))) (some (.done (.inl (()))))
def zHX (k:(List aI)):Option (Bool):=
(zE (λ(x:Int)=>zC3 k x) 0).bind λ(h:(Unit)⊕(Bool))=>
 h.elim (λh=>some false) (λh=>some h)
def zAE (G:(List aI)) (D:Int):Option (Stp (Int) ((Unit)⊕(Int))):=
 cond (decide (D<(G.length:Int))) ((yD G D).bind λh=>
(zHW h).bind λk=>
 cond (!k) (some (.done (.inr (1)))) (some (.next (wi (D+1))))) (some (.done (.inl (()))))
def zAF (D:(List aI)) (k:Int):Option (Stp (Int) ((Unit)⊕(Int))):=
 cond (decide (k<(D.length:Int))) ((yD D k).bind λh=>
 cond (decide (64<(h.To.length:Int))) (some (.done (.inr (2)))) (some (.next (wi (k+1))))) (some (.done (.inl (()))))
def zAG (D:(List aI)) (k:Int):Option (Stp (Int) ((Unit)⊕(Int))):=
 cond (decide (k<(D.length:Int))) ((yD D k).bind λG=>
(pv (!(G.bN== []))).bind λh=>
(gM h (yD D k)).bind λH=>
(gM h (zG0 H.bN)).bind λK=>
 cond (h&&(!K)) (some (.done (.inr (6)))) (some (.next (wi (k+1))))) (some (.done (.inl (()))))
def zEI (h:(List aI)):Option (Int):=
(zE (λ(x:Int)=>zAE h x) 0).bind λ(k:(Unit)⊕(Int))=>
 k.elim (λk=>(zE (λ(x:Int)=>zAF h x) 0).bind λ(D:(Unit)⊕(Int))=>
 D.elim (λD=>(zE (λ(x:Int)=>zAG h x) 0).bind λ(G:(Unit)⊕(Int))=>
 G.elim (λG=>(zHX h).bind λH=>
 cond H (some 5) (some 0)) (λG=>some G)) (λD=>some D)) (λk=>some k)
def zI1 (h:aI) (a1:aI):Option (Bool):=
(pv (decide (h.aV<a1.aV))).bind λk=>
(pv (decide (h.aV=a1.aV))).bind λD=>
 some (k ||(D&&(Op.bytesLess h.bN a1.bN)))
def zC4 (k:(List aI)) (h:Int):Option (Stp (Int) ((Unit)⊕(Int))):=
 cond (decide (h<(k.length:Int))) ((yD k (wi (h-1))).bind λD=>
(yD k h).bind λG=>
(zI1 D G).bind λH=>
 cond (!H) (some (.done (.inr (4)))) (some (.next (wi (h+1))))) (some (.done (.inl (()))))
def zHY (k:(List aI)):Option (Int):=
(zEI k).bind λD=>
 cond (!decide (D=0)) (some D) ((zE (λ(x:Int)=>zC4 k x) 1).bind λ(h:(Unit)⊕(Int))=>
 h.elim (λh=>some 0) (λh=>some h))
def j9 (K:(List Int)) (a1:Int) (Z:Bool) (H:Int) (h:(List Int)):Option (Stp (Bool×Int×(List Int)) ((Bool×(List Int)))):=
 cond (decide (H<(K.length:Int))) ((pv (!Z)).bind λG=>
(gM G (yD K H)).bind λO=>
(cond (G&&(decide (a1<=O))) ((yD K H).bind λT=>
 cond (decide (a1<T)) ((app h [a1]).bind λk=>
 some (true,k)) (some (true,h))) (some (Z,h))).bind λ(y2:Bool×(List Int))=>
(yD K H).bind λY=>
(app y2.2 [Y]).bind λD=>
 some (.next (y2.1,wi (H+1),D))) (some (.done (Z,h)))
def zEJ (D:(List Int)) (a1:Int):Option ((List Int)):=
(zE (λ(x:Bool×Int×(List Int))=>j9 D a1 x.1 x.2.1 x.2.2) (false,0,[])).bind λ(k:Bool×(List Int))=>
(cond (!k.1) ((app k.2 [a1]).bind λh=>
 some h) (some k.2)).bind λ(G:(List Int))=>
 some G
def uP (a1:Set) (T:(List Int)) (D:Int):Option (Stp ((List Int)×Int) (((List Int)))):=
 cond (decide (D<(a1.Ranges.length:Int))) (((yD a1.Ranges D).bind λk=>
(yD a1.Ranges D).bind λh=>
(w8 k.Lo).bind λH=>
(cond H ((zEJ T k.Lo).bind λK=>
 some K) (some T)).bind λ(Y:(List Int))=>
(pv (decide (0<=h.Hi))).bind λG=>
 cond (G&&(decide (h.Hi<1114111))) ((zEJ Y (wi (h.Hi+1))).bind λO=>
 some O) (some Y)).bind λ(Z:(List Int))=>
 some (.next (Z,wi (D+1)))) (some (.done T))
def zG1 (k:(List Int)) (a1:Set):Option ((List Int)):=
(zE (λ(x:(List Int)×Int)=>uP a1 x.1 x.2) (k,0)).bind λ(D:(List Int))=>
(zEJ D 0).bind λh=>
 some h
def zEP (G:Set) (a1:Int) (D:Int):Option (Stp (Int) ((Unit)⊕(Bool))):=
 cond (decide (D<(G.Ranges.length:Int))) ((w8 a1).bind λH=>
(pv H).bind λh=>
(gM h (yD G.Ranges D)).bind λK=>
(pv (h&&(decide (K.Lo<=a1)))).bind λk=>
(gM k (yD G.Ranges D)).bind λO=>
 cond (k&&(decide (a1<=O.Hi))) (some (.done (.inr (true)))) (some (.next (wi (D+1))))) (some (.done (.inl (()))))
def zG2 (k:Set) (a1:Int):Option (Bool):=
(zE (λ(x:Int)=>zEP k a1 x) 0).bind λ(h:(Unit)⊕(Bool))=>
 h.elim (λh=>some false) (λh=>some h)
def zKU (G:Int) (a1:Bool) (a2:Bool):Option (Bool):=
 cond (decide (G=1)) ((pv a1).bind λh=>
 some (h ||a2)) (cond (decide (G=2)) ((pv a1).bind λk=>
 some (k&&a2)) ((pv a1).bind λD=>
 some (D&&(!a2))))
def jP (D:(List Int)) (a0:Set) (a1:Set) (a2:Int) (v9:Bool) (k:Int) (h:(List Range)):Option (Stp (Bool×Int×(List Range)) (((List Range)))):=
 cond (decide (k<(D.length:Int))) ((cond (decide ((wi (k+1))<(D.length:Int))) ((yD D (wi (k+1))).bind λY=>
 some (wi (Y-1))) (some 1114111)).bind λ(y2:Int)=>
(yD D k).bind λZ=>
(zG2 a0 Z).bind λaa=>
(yD D k).bind λab=>
(zG2 a1 ab).bind λac=>
(zKU a2 aa ac).bind λK=>
(pv K).bind λO=>
(cond (O&&v9) ((yD h (wi ((h.length:Int)-1))).bind λad=>
(zBD h (wi ((h.length:Int)-1)) ({ad with Hi:=y2})).bind λG=>
 some G) (some h)).bind λ(y3:(List Range))=>
(pv K).bind λT=>
(cond (T&&(!v9)) ((yD D k).bind λag=>
(app y3 [({Lo:=ag,Hi:=y2}:Range)]).bind λH=>
 some H) (some y3)).bind λ(y5:(List Range))=>
 some (.next (K,wi (k+1),y5))) (some (.done h))
def zHJ (D:Set) (a1:Set) (a2:Int):Option (Set):=
(zG1 [] D).bind λh=>
(zG1 h a1).bind λk=>
(zE (λ(x:Bool×Int×(List Range))=>jP k D a1 a2 x.1 x.2.1 x.2.2) (false,0,[])).bind λ(G:(List Range))=>
 some ({Ranges:=G}:Set)
def zJO (h:(List Range)):Option (Set):=
(zHJ ({Ranges:=h}:Set) ({Ranges:=[]}:Set) 1).bind λk=>
 some k
def zDU (G:Set) (a1:Set) (h:Int):Option (Stp (Int) ((Unit)⊕(Bool))):=
 cond (decide (h<(G.Ranges.length:Int))) ((yD G.Ranges h).bind λk=>
(yD a1.Ranges h).bind λD=>
 cond (!decide (k=D)) (some (.done (.inr (false)))) (some (.next (wi (h+1))))) (some (.done (.inl (()))))
def zJP (k:Set) (a1:Set):Option (Bool):=
 cond (!decide ((k.Ranges.length:Int)=(a1.Ranges.length:Int))) (some false) ((zE (λ(x:Int)=>zDU k a1 x) 0).bind λ(h:(Unit)⊕(Bool))=>
 h.elim (λh=>some true) (λh=>some h))
def zHZ (h:Set):Option (Bool):=
(zJO h.Ranges).bind λk=>
(zJP h k).bind λD=>
 some D
def zDV (G:(List aI)) (a1:Int) (a2:Bool) (D:Int):Option (Stp (Int) ((Unit)⊕(Int))):=
 cond (decide (D<(G.length:Int))) ((yD G D).bind λH=>
(pv (decide (H.aV=a1))).bind λh=>
(pv a2).bind λk=>
(gM (h&& !k) (yD G D)).bind λK=>
 cond (h&&(k ||(K.bN== []))) (some (.done (.inr (D)))) (some (.next (wi (D+1))))) (some (.done (.inl (()))))
def zEK (k:(List aI)) (a1:Int) (a2:Bool):Option (Int):=
(zE (λ(x:Int)=>zDV k a1 a2 x) 0).bind λ(h:(Unit)⊕(Int))=>
 h.elim (λh=>some (-1)) (λh=>some h)
def zG3 (h:Int):Option (Int):=
(pv (decide (4352<=h))).bind λK=>
 cond (K&&(decide (h<=4370))) (some 1) ((pv (decide (4449<=h))).bind λk=>
 cond (k&&(decide (h<=4469))) (some 2) ((pv (decide (4520<=h))).bind λD=>
 cond (D&&(decide (h<=4546))) (some 3) ((pv (decide (44032<=h))).bind λG=>
 cond (G&&(decide (h<=55203))) ((zKF (wi (h-44032)) 28).bind λH=>
 cond (decide (H=0)) (some 4) (some 5)) (some 0))))
def vL (D:(List bL)) (a1:Int) (k:Int):Option (Stp (Int) ((Unit)⊕(Int))):=
 cond (decide (k<(D.length:Int))) ((yD D k).bind λG=>
(pv (decide (G.Lo<=a1))).bind λh=>
(gM h (yD D k)).bind λH=>
 cond (h&&(decide (a1<=H.Hi))) ((yD D k).bind λK=>
 some (.done (.inr (K.Value)))) (some (.next (wi (k+1))))) (some (.done (.inl (()))))
def zB4 (k:(List bL)) (a1:Int):Option (Int):=
(zFR k).bind λD=>
 cond (!decide (D=0)) (some 0) ((zE (λ(x:Int)=>vL k a1 x) 0).bind λ(h:(Unit)⊕(Int))=>
 h.elim (λh=>some 0) (λh=>some h))
def uQ (G:(List aI)) (v5:Int) (H:(List Bool)) (v6:Bool) (Z:Int):Option (Stp (Bool×Int) ((Bool))):=
(yD G v5).bind λK=>
 cond (decide (Z<(K.To.length:Int))) ((yD G v5).bind λO=>
(yD O.To Z).bind λT=>
(zEK G T true).bind λD=>
(pv v6).bind λh=>
(pv (decide (D<0))).bind λk=>
(gM (h&& !k) (yD H D)).bind λY=>
 some (.next ((h&&(k ||Y)),wi (Z+1)))) (some (.done v6))
def zCF (G:(List aI)) (D:Int) (h:(List Bool)):Option (Stp (Int×(List Bool)) (((List Bool)))):=
 cond (decide (D<(G.length:Int))) ((zE (λ(x:Bool×Int)=>uQ G D h x.1 x.2) (true,0)).bind λ(K:Bool)=>
(yD h D).bind λH=>
(zBD h D K).bind λk=>
 some (.next (wi (D+1),k))) (some (.done h))
def zCG (k:(List aI)) (D:Int) (h:(List Bool)):Option (Stp (Int×(List Bool)) (((List Bool)))):=
 cond (decide (D<(k.length:Int))) ((zE (λ(x:Int×(List Bool))=>zCF k x.1 x.2) (0,h)).bind λ(G:(List Bool))=>
 some (.next (wi (D+1),G))) (some (.done h))
def zJQ (k:(List aI)):Option ((List Bool)):=
(mkM false (k.length:Int)).bind λh=>
(zE (λ(x:Int×(List Bool))=>zCG k x.1 x.2) (0,h)).bind λ(D:(List Bool))=>
 some D
def zBU (k:Int):Option ((List Int)):=
(zG3 k).bind λY=>
 cond (decide (Y<4)) (some [k]) ((zNS wi (wi (k-44032)) 28).bind λH=>
(zNS wi H 21).bind λD=>
(zNS wi (wi (k-44032)) 28).bind λK=>
(zKF K 21).bind λG=>
(zKF (wi (k-44032)) 28).bind λO=>
(cond (decide (0<O)) ((zKF (wi (k-44032)) 28).bind λT=>
(app [wi (4352+D),wi (4449+G)] [wi ((wi (4520+T))-1)]).bind λh=>
 some h) (some [wi (4352+D),wi (4449+G)])).bind λ(Z:(List Int))=>
 some Z)
def wJ (k:(List aI)) (v7:Int) (a1:Bool) (G:(List Int)) (v8:Int) (D:Int):Option (Stp (Int×Int) ((Int))):=
(yD k v7).bind λH=>
 cond (decide (D<(H.To.length:Int))) (((yD k v7).bind λK=>
(yD K.To D).bind λO=>
(zEK k O a1).bind λh=>
 cond (decide (0<=h)) ((yD G h).bind λT=>
 some (wi (v8+T))) ((yD k v7).bind λY=>
(yD Y.To D).bind λZ=>
(zBU Z).bind λaa=>
 some (wi (v8+(aa.length:Int))))).bind λ(y5:Int)=>
 some (.next (y5,wi (D+1)))) (some (.done v8))
def uH (H:(List aI)) (a1:Bool) (D:Int) (k:(List Int)):Option (Stp (Int×(List Int)) (((List Int)))):=
 cond (decide (D<(H.length:Int))) (((zE (λ(x:Int×Int)=>wJ H D a1 k x.1 x.2) (0,0)).bind λ(y4:Int)=>
(yD k D).bind λT=>
(zBD k D (min (max y4 1) 65)).bind λh=>
(yD H D).bind λO=>
(pv (!(O.bN== []))).bind λK=>
 cond (K&&(!a1)) ((yD h D).bind λY=>
(zBD h D 1).bind λG=>
 some G) (some h)).bind λ(Z:(List Int))=>
 some (.next (wi (D+1),Z))) (some (.done k))
def uI (k:(List aI)) (a1:Bool) (D:Int) (h:(List Int)):Option (Stp (Int×(List Int)) (((List Int)))):=
 cond (decide (D<(k.length:Int))) ((zE (λ(x:Int×(List Int))=>uH k a1 x.1 x.2) (0,h)).bind λ(G:(List Int))=>
 some (.next (wi (D+1),G))) (some (.done h))
def zDW (k:(List aI)) (a1:Bool):Option ((List Int)):=
(mkM 0 (k.length:Int)).bind λh=>
(zE (λ(x:Int×(List Int))=>uI k a1 x.1 x.2) (0,h)).bind λ(D:(List Int))=>
 some D
def zC5 (k:Norm) (h:Int):Option (Stp (Int) ((Unit)⊕(Int))):=
 cond (decide (h<(k.aA.length:Int))) ((yD k.aA h).bind λD=>
(zEK k.aA D.aV true).bind λG=>
 cond (decide (G<h)) (some (.done (.inr (5)))) (some (.next (wi (h+1))))) (some (.done (.inl (()))))
def zC6 (G:Norm) (D:Int):Option (Stp (Int) ((Unit)⊕(Int))):=
 cond (decide (D<(G.aA.length:Int))) ((yD G.aA D).bind λH=>
(pv (H.bN== [])).bind λh=>
(gM h (yD G.aA D)).bind λK=>
(pv (h&&(!decide ((K.To.length:Int)=1)))).bind λk=>
(gM k (yD G.aA D)).bind λO=>
 cond (k&&(!decide ((O.To.length:Int)=2))) (some (.done (.inr (8)))) (some (.next (wi (D+1))))) (some (.done (.inl (()))))
def zC7 (D:Norm) (K:Int):Option (Stp (Int) ((Unit)⊕(Int))):=
 cond (decide (K<(D.aA.length:Int))) ((yD D.aA K).bind λO=>
(zG3 O.aV).bind λT=>
(pv (!decide (T=0))).bind λh=>
(gM (!h) (yD D.aA K)).bind λY=>
(pv (!(Y.bN== []))).bind λk=>
(gM (!h&&k) (yD D.aA K)).bind λG=>
(gM (!h&&k) (zB4 D.aK G.aV)).bind λH=>
 cond (h ||(k&&(!decide (H=0)))) (some (.done (.inr (11)))) (some (.next (wi (K+1))))) (some (.done (.inl (()))))
def zC8 (G:Norm) (k:(List Bool)) (h:Int):Option (Stp (Int) ((Unit)⊕(Int))):=
 cond (decide (h<(G.aA.length:Int))) ((yD k h).bind λD=>
 cond (!D) (some (.done (.inr (12)))) (some (.next (wi (h+1))))) (some (.done (.inl (()))))
def zC9 (O:Norm) (D:(List Int)) (G:(List Int)) (h:Int):Option (Stp (Int) ((Unit)⊕(Int))):=
 cond (decide (h<(O.aA.length:Int))) ((yD D h).bind λH=>
(pv (decide (64<H))).bind λk=>
(gM (!k) (yD G h)).bind λK=>
 cond (k ||(decide (64<K))) (some (.done (.inr (13)))) (some (.next (wi (h+1))))) (some (.done (.inl (()))))
def zH0 (h:Norm):Option (Int):=
(zFR h.aK).bind λH=>
 cond (!decide (H=0)) (some H) ((zHY h.aA).bind λK=>
 cond (!decide (K=0)) (some K) ((zHZ h.aN).bind λab=>
 cond (!ab) (some 11) ((zE (λ(x:Int)=>zC5 h x) 0).bind λ(O:(Unit)⊕(Int))=>
 O.elim (λO=>(zE (λ(x:Int)=>zC6 h x) 0).bind λ(T:(Unit)⊕(Int))=>
 T.elim (λT=>(zE (λ(x:Int)=>zC7 h x) 0).bind λ(Y:(Unit)⊕(Int))=>
 Y.elim (λY=>(zJQ h.aA).bind λk=>
(zE (λ(x:Int)=>zC8 h k x) 0).bind λ(Z:(Unit)⊕(Int))=>
 Z.elim (λZ=>(zDW h.aA false).bind λD=>
(zDW h.aA true).bind λG=>
(zE (λ(x:Int)=>zC9 h D G x) 0).bind λ(y5:(Unit)⊕(Int))=>
 y5.elim (λy5=>some 0) (λy5=>some y5)) (λZ=>some Z)) (λY=>some Y)) (λT=>some T)) (λO=>some O))))
def zG4 (h:Norm):Option (Norm):=
(zH0 h).bind λk=>
 cond (!decide (k=0)) (some ({aK:=({aK:=[],aA:=[],aN:=(({Ranges:=[]}):Set)}:Norm).aK,aA:=({aK:=[],aA:=[],aN:=(({Ranges:=[]}):Set)}:Norm).aA,aN:=({Ranges:=(({aK:=[],aA:=[],aN:=(({Ranges:=[]}):Set)}:Norm).aN).Ranges}:Set)}:Norm)) (some h)
def zGA (h:Int):Option (Bool):=
(pv (decide (1<=h))).bind λk=>
 some (k&&(decide (h<=65535)))
def zBV (G:Collation) (D:Int):Option (Stp (Int) ((Unit)⊕(Int))):=
 cond (decide (D<(G.aF.length:Int))) ((yD G.aF D).bind λh=>
(zG0 h.bS).bind λk=>
 cond (!k) (some (.done (.inr (6)))) (some (.next (wi (D+1))))) (some (.done (.inl (()))))
def zBW (H:Int) (G:Collation) (D:Int):Option (Stp (Int) ((Unit)⊕(Int))):=
 cond (decide (D<H)) ((yD G.aF D).bind λh=>
(yD G.aF H).bind λk=>
 cond (h.bS==k.bS) (some (.done (.inr (5)))) (some (.next (wi (D+1))))) (some (.done (.inl (()))))
def zBX (D:Collation) (k:Int):Option (Stp (Int) ((Unit)⊕(Int))):=
 cond (decide (k<(D.aF.length:Int))) ((zE (λ(x:Int)=>zBW k D x) 0).bind λ(h:(Unit)⊕(Int))=>
 h.elim (λh=>some (.next (wi (k+1)))) (λh=>some (.done (.inr (h))))) (some (.done (.inl (()))))
def zBY (k:Collation) (D:Int):Option (Stp (Int) ((Unit)⊕(Int))):=
 cond (decide (D<(k.aF.length:Int))) ((yD k.aF D).bind λH=>
(pv (decide (H.Lo<1))).bind λh=>
(gM (!h) (yD k.aF D)).bind λK=>
(gM (!h) (yD k.aF D)).bind λO=>
(pv (h ||(decide (K.Hi<O.Lo)))).bind λG=>
(gM (!G) (yD k.aF D)).bind λT=>
 cond (G ||(decide (k.bJ<=T.Hi))) (some (.done (.inr (1)))) (some (.next (wi (D+1))))) (some (.done (.inl (()))))
def zAK (k:Collation) (h:Int):Option (Stp (Int) ((Unit)⊕(Int))):=
 cond (decide (h<(k.aF.length:Int))) ((yD k.aF h).bind λD=>
(yD k.aF (wi (h-1))).bind λG=>
 cond (!decide (D.Lo=(wi (G.Hi+1)))) (some (.done (.inr (4)))) (some (.next (wi (h+1))))) (some (.done (.inl (()))))
def zGB (h:Collation):Option (Int):=
(zE (λ(x:Int)=>zBV h x) 0).bind λ(k:(Unit)⊕(Int))=>
 k.elim (λk=>(zE (λ(x:Int)=>zBX h x) 0).bind λ(D:(Unit)⊕(Int))=>
 D.elim (λD=>(zE (λ(x:Int)=>zBY h x) 0).bind λ(G:(Unit)⊕(Int))=>
 G.elim (λG=>(zE (λ(x:Int)=>zAK h x) 1).bind λ(H:(Unit)⊕(Int))=>
 H.elim (λH=>some 0) (λH=>some H)) (λG=>some G)) (λD=>some D)) (λk=>some k)
def zEQ (h:Int):Option (Bool):=
(pv (decide (0<=h))).bind λk=>
 some (k&&(decide (h<=65535)))
def zH1 (h:aP):Option (Int):=
(zEQ h.aS).bind λt5=>
(pv (!t5)).bind λb7=>
(gM (!b7) (zEQ h.aL)).bind λY=>
(pv (b7 ||(!Y))).bind λk=>
(gM (!k) (zEQ h.aO)).bind λZ=>
 cond (k ||(!Z)) (some 1) ((pv (!decide (h.aS=0))).bind λD=>
(pv (decide (h.aL=0))).bind λG=>
(pv (D&&(G ||(decide (h.aO=0))))).bind λH=>
(pv (!decide (h.aL=0))).bind λK=>
(pv (H ||(K&&(decide (h.aO=0))))).bind λO=>
(pv h.aD).bind λT=>
 cond (O ||(T&&(decide (h.aS=0)))) (some 11) (some 0))
def zGC (h:bO) (G:Int):Option (Stp (Int) ((Unit)⊕(Int))):=
 cond (decide (G<(h.aW.length:Int))) ((yD h.aW G).bind λk=>
(w8 k).bind λD=>
 cond (!D) (some (.done (.inr (1)))) (some (.next (wi (G+1))))) (some (.done (.inl (()))))
def zDA (h:bO) (G:Int):Option (Stp (Int) ((Unit)⊕(Int))):=
 cond (decide (G<(h.aU.length:Int))) ((yD h.aU G).bind λD=>
(zH1 D).bind λk=>
 cond (!decide (k=0)) (some (.done (.inr (k)))) (some (.next (wi (G+1))))) (some (.done (.inl (()))))
def zGD (h:bO) (G:Collation) (D:Int):Option (Stp (Int) ((Unit)⊕(Int))):=
 cond (decide (D<(h.aU.length:Int))) ((yD h.aU D).bind λk=>
 cond (decide (G.bJ<=k.aS)) (some (.done (.inr (1)))) (some (.next (wi (D+1))))) (some (.done (.inl (()))))
def zH2 (K:Collation) (a1:Int):Option (Int):=
(yD K.aB a1).bind λh=>
(pv (decide ((h.aW.length:Int)<1))).bind λO=>
(pv (O ||(decide (8<(h.aW.length:Int))))).bind λT=>
 cond (T ||(decide (16<(h.aU.length:Int)))) (some 2) ((zE (λ(x:Int)=>zGC h x) 0).bind λ(D:(Unit)⊕(Int))=>
 D.elim (λD=>(zE (λ(x:Int)=>zDA h x) 0).bind λ(G:(Unit)⊕(Int))=>
 G.elim (λG=>(zE (λ(x:Int)=>zGD h K x) 0).bind λ(H:(Unit)⊕(Int))=>
 H.elim (λH=>(pv (decide (0<a1))).bind λk=>
(gM k (yD K.aB (wi (a1-1)))).bind λY=>
(gM k (zDT Y.aW h.aW)).bind λZ=>
 cond (k&&(decide (0<=Z))) (some 4) (some 0)) (λH=>some H)) (λG=>some G)) (λD=>some D))
def zDB (D:Collation) (k:Int):Option (Stp (Int) ((Unit)⊕(Int))):=
 cond (decide (k<(D.aB.length:Int))) ((zH2 D k).bind λh=>
 cond (!decide (h=0)) (some (.done (.inr (h)))) (some (.next (wi (k+1))))) (some (.done (.inl (()))))
def zH3 (h:Collation):Option (Int):=
(pv (decide (h.bJ<1))).bind λT=>
(pv (T ||(decide (65502<h.bJ)))).bind λk=>
(gM (!k) (zGA h.bA)).bind λK=>
(pv (k ||(!K))).bind λD=>
(gM (!D) (zGA h.bI)).bind λO=>
 cond (D ||(!O)) (some 1) ((zGB h).bind λG=>
 cond (!decide (G=0)) (some G) ((zE (λ(x:Int)=>zDB h x) 0).bind λ(H:(Unit)⊕(Int))=>
 H.elim (λH=>some 0) (λH=>some H)))
def zG5 (h:Collation):Option (Collation):=
(zH3 h).bind λk=>
 cond (!decide (k=0)) (some ({aB:=[],aF:=[],bJ:=64448,bA:=32,bI:=2}:Collation)) (some h)
def jT (a2:(List Int)) (Z:(List aI)) (a3:Bool) (a1:(List (List Int))) (G:Int) (h:(List Int)):Option (Stp (Int×(List Int)) (((List Int)))):=
 cond (decide (G<(a2.length:Int))) (((yD a2 G).bind λK=>
(zEK Z K a3).bind λH=>
 cond (decide (0<=H)) ((yD a1 H).bind λO=>
(app h O).bind λk=>
 some k) ((yD a2 G).bind λT=>
(zBU T).bind λY=>
(app h Y).bind λD=>
 some D)).bind λ(y2:(List Int))=>
 some (.next (wi (G+1),y2))) (some (.done h))
def u2 (h:(List aI)) (a1:(List (List Int))) (a2:(List Int)) (a3:Bool):Option ((List Int)):=
(zE (λ(x:Int×(List Int))=>jT a2 h a3 a1 x.1 x.2) (0,[])).bind λ(k:(List Int))=>
 some k
def zBJ (H:(List aI)) (a1:Bool) (D:Int) (h:(List (List Int))):Option (Stp (Int×(List (List Int))) (((List (List Int))))):=
 cond (decide (D<(H.length:Int))) (((pv a1).bind λG=>
(gM (!G) (yD H D)).bind λK=>
 cond (G ||(K.bN== [])) ((yD H D).bind λO=>
(u2 H h O.To a1).bind λT=>
(yD h D).bind λY=>
(zBD h D T).bind λk=>
 some k) (some h)).bind λ(Z:(List (List Int)))=>
 some (.next (wi (D+1),Z))) (some (.done h))
def zBK (k:(List aI)) (a1:Bool) (D:Int) (h:(List (List Int))):Option (Stp (Int×(List (List Int))) (((List (List Int))))):=
 cond (decide (D<(k.length:Int))) ((zE (λ(x:Int×(List (List Int)))=>zBJ k a1 x.1 x.2) (0,h)).bind λ(G:(List (List Int)))=>
 some (.next (wi (D+1),G))) (some (.done h))
def zH4 (k:(List aI)) (a1:Bool):Option ((List (List Int))):=
(mkM [] (k.length:Int)).bind λh=>
(zE (λ(x:Int×(List (List Int)))=>zBK k a1 x.1 x.2) (0,h)).bind λ(D:(List (List Int)))=>
 some D
def zJR (D:Norm) (a1:(List Int)) (a2:Bool):Option ((List Int)):=
(zH4 D.aA a2).bind λh=>
(u2 D.aA h a1 a2).bind λk=>
 some k
def zAV (K:Int) (a0:(List bL)) (a1:(List Int)) (v6:Int) (G:Int) (h:(List Int)):Option (Stp (Int×(List Int)) (((List Int)))):=
(pv (decide (0<G))).bind λO=>
(pv (O&&(decide (0<K)))).bind λH=>
(gM H (yD h (wi (G-1)))).bind λT=>
(gM H (zB4 a0 T)).bind λY=>
 cond (H&&(decide (K<Y))) ((yD h (wi (G-1))).bind λZ=>
(yD h G).bind λac=>
(zBD h G Z).bind λk=>
(yD a1 v6).bind λaa=>
(yD k (wi (G-1))).bind λad=>
(zBD k (wi (G-1)) aa).bind λD=>
 some (.next (wi (G-1),D))) (some (.done h))
def uR (a1:(List Int)) (O:(List bL)) (D:Int) (k:(List Int)):Option (Stp (Int×(List Int)) (((List Int)))):=
 cond (decide (D<(a1.length:Int))) ((yD a1 D).bind λG=>
(app k [G]).bind λh=>
(yD a1 D).bind λH=>
(zB4 O H).bind λK=>
(zE (λ(x:Int×(List Int))=>zAV K O a1 D x.1 x.2) (wi ((h.length:Int)-1),h)).bind λ(T:(List Int))=>
 some (.next (wi (D+1),T))) (some (.done k))
def zG6 (h:(List bL)) (a1:(List Int)):Option ((List Int)):=
(zE (λ(x:Int×(List Int))=>uR a1 h x.1 x.2) (0,[])).bind λ(k:(List Int))=>
 some k
def zG7 (G:Norm) (a1:(List Int)) (a2:Bool):Option ((List Int)):=
(zG4 G).bind λD=>
(zJR D a1 a2).bind λh=>
(zG6 D.aK h).bind λk=>
 some k
def zDX (D:Collation) (a1:(List Int)) (k:Int):Option (Stp (Int) ((Unit)⊕(Bool×(List aP)))):=
 cond (decide (k<(D.aB.length:Int))) ((yD D.aB k).bind λG=>
(uY G.aW a1).bind λH=>
 cond H ((yD D.aB k).bind λK=>
(app [] K.aU).bind λh=>
 some (.done (.inr ((true,h))))) (some (.next (wi (k+1))))) (some (.done (.inl (()))))
def zEL (k:Collation) (a1:(List Int)):Option ((List aP)×Bool):=
(zE (λ(x:Int)=>zDX k a1 x) 0).bind λ(h:(Unit)⊕(Bool×(List aP)))=>
 h.elim (λh=>some ([],false)) (λh=>some (h.2,h.1))
def zFA (h:(List bL)) (a1:Int):Option (Bool):=
(zB4 h a1).bind λk=>
 some (decide (k=0))
def zG8 (D:(List Int)) (a1:Int):Option ((List Int)):=
(app [] D).bind λh=>
(app h [a1]).bind λk=>
 some k
def wK (a2:(List Int)) (a1:Collation) (G:Int) (h:Int):Option (Stp (Int×Int) ((Int))):=
 cond (decide (h<=(a2.length:Int))) (((slc a2 0 h).bind λk=>
(zEL a1 k).bind λD=>
 cond D.2 (some h) (some G)).bind λ(H:Int)=>
 some (.next (H,wi (h+1)))) (some (.done G))
def w9 (a2:(List Int)) (a0:(List bL)) (a1:Collation) (G:(List Int)) (K:Int) (h:Int) (k:(List Int)):Option (Stp ((List Int)×Int×Int×(List Int)) (((List Int)×Int×(List Int)))):=
(pv (decide (h<(a2.length:Int)))).bind λH=>
(gM H (yD a2 h)).bind λY=>
(gM H (zFA a0 Y)).bind λZ=>
 cond (H&&(!Z)) ((yD a2 h).bind λaa=>
(zB4 a0 aa).bind λO=>
(yD a2 h).bind λab=>
(zG8 G ab).bind λac=>
(zEL a1 ac).bind λad=>
(pv ad.2).bind λT=>
(cond (T&&(decide (K<O))) ((yD a2 h).bind λag=>
(zG8 G ag).bind λah=>
 some (ah,K,k)) ((yD a2 h).bind λai=>
(app k [ai]).bind λD=>
 some (G,max K O,D))).bind λ(y5:(List Int)×Int×(List Int))=>
 some (.next (y5.1,y5.2.1,wi (h+1),y5.2.2))) (some (.done (G,h,k)))
def zFB (Y:(List bL)) (a1:Collation) (a2:(List Int)):Option ((List Int)×(List Int)×Bool):=
(zE (λ(x:Int×Int)=>wK a2 a1 x.1 x.2) (0,1)).bind λ(O:Int)=>
 cond (decide (O=0)) ((slc a2 0 1).bind λG=>
(slc a2 1 (a2.length)).bind λH=>
 some (G,H,false)) ((slc a2 0 O).bind λK=>
(app [] K).bind λk=>
(zE (λ(x:(List Int)×Int×Int×(List Int))=>w9 a2 Y a1 x.1 x.2.1 x.2.2.1 x.2.2.2) (k,0,O,[])).bind λ(T:(List Int)×Int×(List Int))=>
(slc a2 T.2.1 (a2.length)).bind λD=>
(app T.2.2 D).bind λh=>
 some (T.1,h,true))
def zEM (G:Collation) (a1:Int):Option ((List aP)):=
(w8 a1).bind λH=>
 cond (!H) (some []) ((zG5 G).bind λh=>
(zNS wi a1 32768).bind λk=>
(zKF a1 32768).bind λD=>
 some [({aS:=wi (h.bJ+k),aL:=h.bA,aO:=h.bI,aD:=false}:aP),({aS:=wi (32768+D),aL:=0,aO:=0,aD:=false}:aP)])
def uS (T:Norm) (G:Collation) (a1:Collation) (H:(List Int)) (K:Bool) (h:(List aP)):Option (Stp ((List Int)×Bool×(List aP)) ((Bool×(List aP)))):=
 cond (decide (0<(H.length:Int))) ((zFB T.aK G H).bind λD=>
(yD D.1 (0:Int)).bind λY=>
(zEM a1 Y).bind λZ=>
(cond D.2.2 ((zEL G D.1).bind λaa=>
 some aa.1) (some Z)).bind λ(y2:(List aP))=>
(app h y2).bind λk=>
(pv K).bind λO=>
 some (.next (D.2.1,(O&&D.2.2),k))) (some (.done (K,h)))
def zJS (G:Norm) (a1:Collation) (a2:(List Int)):Option ((List aP)×Bool):=
(zG4 G).bind λh=>
(zG5 a1).bind λk=>
(zG7 G a2 false).bind λD=>
(zE (λ(x:(List Int)×Bool×(List aP))=>uS h k a1 x.1 x.2.1 x.2.2) (D,true,[])).bind λ(H:Bool×(List aP))=>
 some (H.2,H.1)
def xL (k:Norm) (a1:Collation) (a2:(List Int)):Option ((List aP)):=
(zJS k a1 a2).bind λh=>
 some h.1
def zH5 (h:Options):Option (Int):=
(pv (decide (h.aJ<1))).bind λD=>
 cond (D ||(decide (4<h.aJ))) (some 1) ((pv (decide (h.aD<1))).bind λk=>
 cond (k ||(decide (3<h.aD))) (some 8) (some 0))
def zDY (h:Options):Option (Options):=
(zH5 h).bind λk=>
 cond (!decide (k=0)) (some ({aJ:=3,aD:=1,aQ:=false,aT:=false}:Options)) (some h)
def zA9 (a0:(List aP)) (a1:Int) (v6:Bool) (Z:Int) (k:(List bC)):Option (Stp (Bool×Int×(List bC)) (((List bC)))):=
 cond (decide (Z<(a0.length:Int))) ((yD a0 Z).bind λh=>
(pv (decide (h.aS=0))).bind λK=>
(pv (K&&(decide (h.aL=0)))).bind λG=>
(pv h.aD).bind λO=>
(cond (O ||(!decide (h.aS=0))) (some h.aD) (some v6)).bind λ(y2:Bool)=>
(cond (decide (a1=1)) (cond (!(G&&(decide (h.aO=0)))) (some (({x0:=h.aS,x1:=h.aL,x2:=h.aO,x3:=0}:bC).x0,({x0:=h.aS,x1:=h.aL,x2:=h.aO,x3:=0}:bC).x1,({x0:=h.aS,x1:=h.aL,x2:=h.aO,x3:=0}:bC).x2,65535)) (some (({x0:=h.aS,x1:=h.aL,x2:=h.aO,x3:=0}:bC).x0,({x0:=h.aS,x1:=h.aL,x2:=h.aO,x3:=0}:bC).x1,({x0:=h.aS,x1:=h.aL,x2:=h.aO,x3:=0}:bC).x2,({x0:=h.aS,x1:=h.aL,x2:=h.aO,x3:=0}:bC).x3))) (cond y2 ((pv (decide (a1=3))).bind λT=>
 cond (T&&h.aD) (some (({x0:=0,x1:=0,x2:=0,x3:=0}:bC).x0,({x0:=0,x1:=0,x2:=0,x3:=0}:bC).x1,({x0:=0,x1:=0,x2:=0,x3:=0}:bC).x2,h.aS)) (some (({x0:=0,x1:=0,x2:=0,x3:=0}:bC).x0,({x0:=0,x1:=0,x2:=0,x3:=0}:bC).x1,({x0:=0,x1:=0,x2:=0,x3:=0}:bC).x2,({x0:=0,x1:=0,x2:=0,x3:=0}:bC).x3))) ((pv (decide (a1=3))).bind λY=>
 cond (Y&&(!(G&&(decide (h.aO=0))))) (some (({x0:=h.aS,x1:=h.aL,x2:=h.aO,x3:=0}:bC).x0,({x0:=h.aS,x1:=h.aL,x2:=h.aO,x3:=0}:bC).x1,({x0:=h.aS,x1:=h.aL,x2:=h.aO,x3:=0}:bC).x2,65535)) (some (({x0:=h.aS,x1:=h.aL,x2:=h.aO,x3:=0}:bC).x0,({x0:=h.aS,x1:=h.aL,x2:=h.aO,x3:=0}:bC).x1,({x0:=h.aS,x1:=h.aL,x2:=h.aO,x3:=0}:bC).x2,({x0:=h.aS,x1:=h.aL,x2:=h.aO,x3:=0}:bC).x3))))).bind λ(H:Int×Int×Int×Int)=>
(app k [({x0:=H.1,x1:=H.2.1,x2:=H.2.2.1,x3:=H.2.2.2}:bC)]).bind λD=>
 some (.next (y2,wi (Z+1),D))) (some (.done k))
def zFC (h:(List aP)) (a1:Int):Option ((List bC)):=
(zE (λ(x:Bool×Int×(List bC))=>zA9 h a1 x.1 x.2.1 x.2.2) (false,0,[])).bind λ(k:(List bC))=>
 some k
def vA (D:(List bC)) (v7:Int) (T:Options) (K:Int) (h:(List Int)):Option (Stp (Int×(List Int)) (((List Int)))):=
 cond (decide (K<(D.length:Int))) (((pv (decide (v7=1))).bind λO=>
(cond (O&&T.aQ) (some (wi ((wi ((D.length:Int)-1))-K))) (some K)).bind λ(y4:Int)=>
(yD D y4).bind λG=>
(yD [G.x0,G.x1,G.x2,G.x3] v7).bind λY=>
 cond (!decide (Y=0)) ((yD D y4).bind λH=>
(yD [H.x0,H.x1,H.x2,H.x3] v7).bind λZ=>
(app h [Z]).bind λk=>
 some k) (some h)).bind λ(y3:(List Int))=>
 some (.next (wi (K+1),y3))) (some (.done h))
def vB (D:Options) (G:(List bC)) (H:Int) (h:(List (List Int))):Option (Stp (Int×(List (List Int))) (((List (List Int))))):=
 cond (decide (H<D.aJ)) ((zE (λ(x:Int×(List Int))=>vA G H D x.1 x.2) (0,[])).bind λ(K:(List Int))=>
(app h [K]).bind λk=>
 some (.next (wi (H+1),k))) (some (.done h))
def zAW (D:(List aP)) (a1:Options):Option ((List (List Int))):=
(zDY ({aJ:=a1.aJ,aD:=a1.aD,aQ:=a1.aQ,aT:=a1.aT}:Options)).bind λh=>
(zFC D h.aD).bind λk=>
(zE (λ(x:Int×(List (List Int)))=>vB h k x.1 x.2) (0,[])).bind λ(G:(List (List Int)))=>
 some G
def zCH (k:(List (List Int))) (h:Int):Option (Stp (Int) ((Unit)⊕(Bool))):=
 cond (decide (h<(k.length:Int))) ((yD k h).bind λD=>
 cond (decide (0<(D.length:Int))) (some (.done (.inr (true)))) (some (.next (wi (h+1))))) (some (.done (.inl (()))))
def zJT (G:Norm) (a1:Collation) (a2:Options) (a3:(List Int)):Option (Bool):=
(xL G a1 a3).bind λk=>
(zAW k a2).bind λD=>
(zE (λ(x:Int)=>zCH D x) 0).bind λ(h:(Unit)⊕(Bool))=>
 h.elim (λh=>some false) (λh=>some h)
def zDZ (K:(List (List Int))) (G:Int) (h:(List Int)):Option (Stp (Int×(List Int)) (((List Int)))):=
 cond (decide (G<(K.length:Int))) ((cond (decide (0<G)) ((app h [0]).bind λk=>
 some k) (some h)).bind λ(O:(List Int))=>
(yD K G).bind λH=>
(app O H).bind λD=>
 some (.next (wi (G+1),D))) (some (.done h))
def zMJ (h:(List (List Int))):Option ((List Int)):=
(zE (λ(x:Int×(List Int))=>zDZ h x.1 x.2) (0,[])).bind λ(k:(List Int))=>
 some k
def zER (G:(List Int)) (D:Int) (h:(List Int)):Option (Stp (Int×(List Int)) (((List Int)))):=
 cond (decide (D<(G.length:Int))) (((yD G D).bind λH=>
(w8 H).bind λK=>
 cond K ((yD G D).bind λO=>
(app h [wi (O+1)]).bind λk=>
 some k) (some h)).bind λ(T:(List Int))=>
 some (.next (wi (D+1),T))) (some (.done h))
def zLM (O:Norm) (a1:Collation) (a2:Options) (a3:(List Int)):Option ((List Int)):=
(zDY ({aJ:=a2.aJ,aD:=a2.aD,aQ:=a2.aQ,aT:=a2.aT}:Options)).bind λk=>
(xL O a1 a3).bind λG=>
(zAW G ({aJ:=k.aJ,aD:=k.aD,aQ:=k.aQ,aT:=k.aT}:Options)).bind λH=>
(zMJ H).bind λD=>
 cond (!k.aT) (some D) ((app D [0]).bind λh=>
(zG7 O a3 false).bind λK=>
(zE (λ(x:Int×(List Int))=>zER K x.1 x.2) (0,h)).bind λ(T:(List Int))=>
 some T)
def zGE (k:Norm) (a1:Collation) (a2:Options) (a3:(List Int)) (D:Int):Option ((List Int)):=
(zLM k a1 ({aJ:=D,aD:=a2.aD,aQ:=a2.aQ,aT:=false}:Options) a3).bind λh=>
 some h
def zI8 (k:Norm) (a1:Collation) (a2:Options) (a3:(List Int)):Option ((List Int)):=
(zGE k a1 a2 a3 a2.aJ).bind λh=>
 some h
def zFS (D:(List Int)) (a1:Int) (k:Int):Option (Stp (Int) ((Unit)⊕(Bool))):=
 cond (decide (k<(D.length:Int))) ((yD D k).bind λh=>
 cond (decide (h=a1)) (some (.done (.inr (true)))) (some (.next (wi (k+1))))) (some (.done (.inl (()))))
def zLN (k:(List Int)) (a1:Int):Option (Bool):=
(zE (λ(x:Int)=>zFS k a1 x) 0).bind λ(h:(Unit)⊕(Bool))=>
 h.elim (λh=>some false) (λh=>some h)
def zDC (D:(List aP)) (k:(List aP)) (h:Int):Option (Stp (Int) ((Unit)⊕(Bool))):=
 cond (decide (h<(D.length:Int))) ((yD D h).bind λG=>
(yD k h).bind λH=>
 cond (!decide (G=H)) (some (.done (.inr (false)))) (some (.next (wi (h+1))))) (some (.done (.inl (()))))
def zH6 (H:Norm) (a1:Collation) (a2:(List Int)) (a3:Range):Option (Bool):=
(pv (decide (a3.Lo<0))).bind λO=>
(pv (O ||(decide (a3.Hi<a3.Lo)))).bind λT=>
 cond (T ||(decide ((a2.length:Int)<a3.Hi))) (some false) ((xL H a1 a2).bind λG=>
(slc a2 0 a3.Lo).bind λY=>
(xL H a1 Y).bind λZ=>
(app [] Z).bind λk=>
(slc a2 a3.Lo a3.Hi).bind λaa=>
(xL H a1 aa).bind λab=>
(app k ab).bind λD=>
(slc a2 a3.Hi (a2.length)).bind λac=>
(xL H a1 ac).bind λad=>
(app D ad).bind λh=>
 cond (!decide ((G.length:Int)=(h.length:Int))) (some false) ((zE (λ(x:Int)=>zDC G h x) 0).bind λ(K:(Unit)⊕(Bool))=>
 K.elim (λK=>some true) (λK=>some K)))
def zBL (K:(List Int)) (a5:(List Int)) (G:Int) (H:Norm) (a1:Collation) (a2:Options) (a3:(List Int)) (h:Int):Option (Stp (Int) ((Unit)⊕(Bool×Int×Int))):=
 cond (decide (h<=(K.length:Int))) ((zLN a5 h).bind λO=>
(pv O).bind λk=>
(gM k (slc K G h)).bind λT=>
(gM k (zI8 H a1 a2 T)).bind λY=>
(gM k (zI8 H a1 a2 a3)).bind λZ=>
(gM k (uY Y Z)).bind λaa=>
(pv (k&&aa)).bind λD=>
(gM D (zH6 H a1 K ({Lo:=G,Hi:=h}:Range))).bind λab=>
 cond (D&&ab) (some (.done (.inr ((true,({Lo:=G,Hi:=h}:Range).Lo,({Lo:=G,Hi:=h}:Range).Hi))))) (some (.next (wi (h+1))))) (some (.done (.inl (()))))
def zH7 (D:Norm) (a1:Collation) (a2:Options) (a3:(List Int)) (G:(List Int)) (H:(List Int)) (k:Int):Option (Range×Bool):=
(zE (λ(x:Int)=>zBL G H k D a1 a2 a3 x) (wi (k+1))).bind λ(h:(Unit)⊕(Bool×Int×Int))=>
 h.elim (λh=>some (({Lo:=0,Hi:=0}:Range),false)) (λh=>some (({Lo:=h.2.1,Hi:=h.2.2}:Range),h.1))
def zB5 (K:(List Int)) (O:(List Int)) (T:Norm) (a1:Collation) (a2:Options) (a3:(List Int)) (D:Int) (h:(List Range)):Option (Stp (Int×(List Range)) (((List Range)))):=
 cond (decide (D<(K.length:Int))) (((zLN O D).bind λH=>
 cond (!H) (some h) ((zH7 T a1 a2 a3 K O D).bind λG=>
 cond G.2 ((app h [G.1]).bind λk=>
 some k) (some h))).bind λ(Y:(List Range))=>
 some (.next (wi (D+1),Y))) (some (.done h))
def zI9 (k:Norm) (a1:Collation) (a2:Options) (a3:(List Int)) (D:(List Int)) (G:(List Int)):Option ((List Range)):=
(zJT k a1 a2 a3).bind λh=>
 cond (!h) (some []) ((zE (λ(x:Int×(List Range))=>zB5 D G k a1 a2 a3 x.1 x.2) (0,[])).bind λ(H:(List Range))=>
 some H)
def zES (h:bK):Option (Bool):=
(zGY h).bind λO=>
 cond (!O) ((zAU).bind λT=>
 some T) ((zDH h.Norm h.Collation h.Options h.bV h.cf h.cD).bind λD=>
(zI9 h.Norm h.Collation h.Options h.bV h.cf h.cD).bind λG=>
(zAJ D G).bind λH=>
(pv H).bind λk=>
(gM k (zAU)).bind λK=>
 some (k&&K))
def zCI (H:(List Range)) (K:Int) (G:Int) (h:(List Range)):Option (Stp (Int×Int×(List Range)) (((List Range)))):=
 cond (decide (G<(H.length:Int))) (((yD H G).bind λD=>
 cond (decide (K<=D.Lo)) ((app h [D]).bind λk=>
 some (D.Hi,k)) (some (K,h))).bind λ(O:Int×(List Range))=>
 some (.next (O.1,wi (G+1),O.2))) (some (.done h))
def zDI (k:Norm) (a1:Collation) (a2:Options) (a3:(List Int)) (D:(List Int)) (G:(List Int)):Option ((List Range)):=
(zI9 k a1 a2 a3 D G).bind λh=>
(zE (λ(x:Int×Int×(List Range))=>zCI h x.1 x.2.1 x.2.2) (0,0,[])).bind λ(H:(List Range))=>
 some H
def zD3 (h:bK):Option (Bool):=
(zGY h).bind λO=>
 cond (!O) ((zAU).bind λT=>
 some T) ((wQ h.Norm h.Collation h.Options h.bV h.cf h.cD).bind λD=>
(zDI h.Norm h.Collation h.Options h.bV h.cf h.cD).bind λG=>
(zAJ D G).bind λH=>
(pv H).bind λk=>
(gM k (zAU)).bind λK=>
 some (k&&K))
def zBA (H:(List Range)) (Y:(List Int)) (Z:(List Int)) (O:Int) (G:Int) (h:(List Int)):Option (Stp (Int×Int×(List Int)) ((Int×(List Int)))):=
 cond (decide (G<(H.length:Int))) ((yD H G).bind λK=>
(slc Y O K.Lo).bind λT=>
(app h T).bind λk=>
(app k Z).bind λD=>
 some (.next (K.Hi,wi (G+1),D))) (some (.done (O,h)))
def zAX (K:Norm) (a1:Collation) (a2:Options) (a3:(List Int)) (k:(List Int)) (O:(List Int)) (T:(List Int)):Option ((List Int)):=
(zDI K a1 a2 a3 k T).bind λD=>
(zE (λ(x:Int×Int×(List Int))=>zBA D k O x.1 x.2.1 x.2.2) (0,0,[])).bind λ(H:Int×(List Int))=>
(slc k H.1 (k.length)).bind λG=>
(app H.2 G).bind λh=>
 some h
def zB6 (h:bK) (a1:(List Int)):Option (Bool):=
(zGY h).bind λZ=>
(pv (!Z)).bind λY=>
(gM (!Y) (zFQ a1 4)).bind λD=>
 cond (Y ||(!D)) ((zAU).bind λG=>
 some G) ((vK h.Norm h.Collation h.Options h.bV h.cf a1 h.cD).bind λH=>
(zAX h.Norm h.Collation h.Options h.bV h.cf a1 h.cD).bind λK=>
(uY H K).bind λO=>
(pv O).bind λk=>
(gM k (zAU)).bind λT=>
 some (k&&T))
end
end Go.M


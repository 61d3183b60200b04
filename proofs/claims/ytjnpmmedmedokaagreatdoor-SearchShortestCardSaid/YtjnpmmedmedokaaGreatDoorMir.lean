/- Plain counterparts of the program's functions, printed from its form. Conditions: none. -/
import Derived.Test.YtjnpmmedmedokaaGreatDoorLa4
set_option linter.unusedSimpArgs false
set_option linter.unusedVariables false
set_option linter.unnecessarySimpa false
namespace Go.M
structure b0 where
 x0:Int
 x1:Int
 x2:Int
 deriving DecidableEq,Inhabited
structure bC where
 x0:Int
 x1:Int
 x2:Int
 x3:Int
 deriving DecidableEq,Inhabited
structure b4 where
 x0:(List Int)
 x1:(List Int)
 x2:(List Int)
 x3:(List Int)
 deriving DecidableEq,Inhabited
structure Range where
 Lo:Int
 Hi:Int
 deriving DecidableEq,Inhabited
structure cE where
 x0:Range
 x1:Range
 x2:Range
 x3:Range
 deriving DecidableEq,Inhabited
structure bV where
 x0:Int
 x1:Int
 x2:Int
 x3:Int
 x4:Int
 x5:Int
 x6:Int
 x7:Int
 x8:Int
 deriving DecidableEq,Inhabited
structure aP where
 aS:Int
 aL:Int
 aO:Int
 aD:Bool
 deriving DecidableEq,Inhabited
structure bP where
 aX:(List Int)
 aU:(List aP)
 deriving DecidableEq,Inhabited
structure cf where
 bT:Str
 Lo:Int
 Hi:Int
 deriving DecidableEq,Inhabited
structure Collation where
 aB:(List bP)
 aE:(List cf)
 bK:Int
 bA:Int
 bJ:Int
 deriving DecidableEq,Inhabited
structure bM where
 Lo:Int
 Hi:Int
 Value:Int
 deriving DecidableEq,Inhabited
structure bG where
 c:Collation
 entries:(List (bV×(List aP)))
 bU:Int
 bR:(List bM)
 top:Int
 deriving DecidableEq,Inhabited
structure aH where
 aW:Int
 To:(List Int)
 bO:Str
 deriving DecidableEq,Inhabited
structure bN where
 cH:Int
 cM:Str
 deriving DecidableEq,Inhabited
structure Set where
 Ranges:(List Range)
 deriving DecidableEq,Inhabited
structure Norm where
 aK:(List bM)
 aA:(List aH)
 aN:Set
 deriving DecidableEq,Inhabited
structure Options where
 aJ:Int
 aD:Int
 aQ:Bool
 aT:Bool
 deriving DecidableEq,Inhabited
structure bQ where
 norm:Norm
 bZ:Collation
 cC:Options
 text:(List Int)
 wanted:(List (List Int))
 bX:(List aP)
 b8:(List Int)
 b9:(List (Int×Int))
 b6:(List (Int×Int))
 deriving DecidableEq,Inhabited
structure bF where
 Norm:Norm
 Collation:Collation
 Options:Options
 bL:(List Int)
 bW:(List Int)
 b5:(List Int)
 deriving DecidableEq,Inhabited
structure Normalize_steps where
 norm:Norm
 deriving DecidableEq,Inhabited
structure Unicodetexttop_Setting where
 Norm:Norm
 Collation:Collation
 Options:Options
 deriving DecidableEq,Inhabited
def zUL (x:Range):Prop:=(-9223372036854775808<=x.Lo/\x.Lo<=9223372036854775807)/\(-9223372036854775808<=x.Hi/\x.Hi<=9223372036854775807)
def zOS (x:aP):Prop:=(-9223372036854775808<=x.aS/\x.aS<=9223372036854775807)/\(-9223372036854775808<=x.aL/\x.aL<=9223372036854775807)/\(-9223372036854775808<=x.aO/\x.aO<=9223372036854775807)/\True
def zUM (x:bP):Prop:=(x.aX.length<=9223372036854775807/\∀h∈x.aX,(-9223372036854775808<=h/\h<=9223372036854775807))/\(x.aU.length<=9223372036854775807/\∀h∈x.aU,(zOS h))
def zUN (x:cf):Prop:=(x.bT.length<=9223372036854775807)/\(-9223372036854775808<=x.Lo/\x.Lo<=9223372036854775807)/\(-9223372036854775808<=x.Hi/\x.Hi<=9223372036854775807)
def zHM (x:Collation):Prop:=(x.aB.length<=9223372036854775807/\∀h∈x.aB,(zUM h))/\(x.aE.length<=9223372036854775807/\∀h∈x.aE,(zUN h))/\(-9223372036854775808<=x.bK/\x.bK<=9223372036854775807)/\(-9223372036854775808<=x.bA/\x.bA<=9223372036854775807)/\(-9223372036854775808<=x.bJ/\x.bJ<=9223372036854775807)
def cD (x:bM):Prop:=(-9223372036854775808<=x.Lo/\x.Lo<=9223372036854775807)/\(-9223372036854775808<=x.Hi/\x.Hi<=9223372036854775807)/\(-9223372036854775808<=x.Value/\x.Value<=9223372036854775807)
def zOT (x:aH):Prop:=(-9223372036854775808<=x.aW/\x.aW<=9223372036854775807)/\(x.To.length<=9223372036854775807/\∀h∈x.To,(-9223372036854775808<=h/\h<=9223372036854775807))/\(x.bO.length<=9223372036854775807)
def z32 (x:Set):Prop:=(x.Ranges.length<=9223372036854775807/\∀h∈x.Ranges,(zUL h))
def wY (x:Norm):Prop:=(x.aK.length<=9223372036854775807/\∀h∈x.aK,(cD h))/\(x.aA.length<=9223372036854775807/\∀h∈x.aA,(zOT h))/\(z32 x.aN)
def zOU (x:Options):Prop:=(-9223372036854775808<=x.aJ/\x.aJ<=9223372036854775807)/\(-9223372036854775808<=x.aD/\x.aD<=9223372036854775807)/\True/\True
def wI (x:bF):Prop:=(wY x.Norm)/\(zHM x.Collation)/\(zOU x.Options)/\(x.bL.length<=9223372036854775807/\∀h∈x.bL,(-9223372036854775808<=h/\h<=9223372036854775807))/\(x.bW.length<=9223372036854775807/\∀h∈x.bW,(-9223372036854775808<=h/\h<=9223372036854775807))/\(x.b5.length<=9223372036854775807/\∀h∈x.b5,(-9223372036854775808<=h/\h<=9223372036854775807))
end Go.M
namespace Go.AV
open Go.M
def zGT (x:bV):Value:= .agg #[.int IntKind.i64 x.x0,.int IntKind.i64 x.x1,.int IntKind.i64 x.x2,.int IntKind.i64 x.x3,.int IntKind.i64 x.x4,.int IntKind.i64 x.x5,.int IntKind.i64 x.x6,.int IntKind.i64 x.x7,.int IntKind.i64 x.x8]
def zIR (x:bN):Value:= .agg #[.int IntKind.i64 x.cH,.string ⟨x.cM.toArray⟩]
def cK:En b0:=⟨λx=> .agg [(di x.x0),(di x.x1),(di x.x2)],3,λ_=>rfl⟩
def bS:En bC:=⟨λx=> .agg [(di x.x0),(di x.x1),(di x.x2),(di x.x3)],4,λ_=>rfl⟩
def aF:En Range:=⟨λx=> .agg [(di x.Lo),(di x.Hi)],2,λ_=>rfl⟩
def cJ:En cE:=⟨λx=> .agg [(di x.x0.Lo),(di x.x0.Hi),(di x.x1.Lo),(di x.x1.Hi),(di x.x2.Lo),(di x.x2.Hi),(di x.x3.Lo),(di x.x3.Hi)],8,λ_=>rfl⟩
def cL:En bV:=⟨λx=> .agg [(di x.x0),(di x.x1),(di x.x2),(di x.x3),(di x.x4),(di x.x5),(di x.x6),(di x.x7),(di x.x8)],9,λ_=>rfl⟩
def aG:En aP:=⟨λx=> .agg [(di x.aS),(di x.aL),(di x.aO),(db x.aD)],4,λ_=>rfl⟩
def bB:En bP:=⟨λx=> .agg [(zH eI x.aX),(zH aG x.aU)],2,λ_=>rfl⟩
def aY:En cf:=⟨λx=> .agg [(ds x.bT),(di x.Lo),(di x.Hi)],3,λ_=>rfl⟩
def aI:En Collation:=⟨λx=> .agg [(zH bB x.aB),(zH aY x.aE),(di x.bK),(di x.bA),(di x.bJ)],5,λ_=>rfl⟩
def aR:En bM:=⟨λx=> .agg [(di x.Lo),(di x.Hi),(di x.Value)],3,λ_=>rfl⟩
def a8:En bG:=⟨λx=> .agg [(zH bB x.c.aB),(zH aY x.c.aE),(di x.c.bK),(di x.c.bA),(di x.c.bJ),(mpD zGT (eL aG) x.entries),(di x.bU),(zH aR x.bR),(di x.top)],9,λ_=>rfl⟩
def aC:En aH:=⟨λx=> .agg [(di x.aW),(zH eI x.To),(ds x.bO)],3,λ_=>rfl⟩
def cG:En bN:=⟨λx=> .agg [(di x.cH),(ds x.cM)],2,λ_=>rfl⟩
def bY:En Set:=⟨λx=> .agg [(zH aF x.Ranges)],1,λ_=>rfl⟩
def bD:En Norm:=⟨λx=> .agg [(zH aR x.aK),(zH aC x.aA),(zH aF x.aN.Ranges)],3,λ_=>rfl⟩
def bH:En Options:=⟨λx=> .agg [(di x.aJ),(di x.aD),(db x.aQ),(db x.aT)],4,λ_=>rfl⟩
def bI:En bQ:=⟨λx=> .agg [(zH aR x.norm.aK),(zH aC x.norm.aA),(zH aF x.norm.aN.Ranges),(zH bB x.bZ.aB),(zH aY x.bZ.aE),(di x.bZ.bK),(di x.bZ.bA),(di x.bZ.bJ),(di x.cC.aJ),(di x.cC.aD),(db x.cC.aQ),(db x.cC.aT),(zH eI x.text),(zH (eL eI) x.wanted),(zH aG x.bX),(zH eI x.b8),(mpD kI eI x.b9),(mpD kI eI x.b6)],18,λ_=>rfl⟩
def aV:En bF:=⟨λx=> .agg [(zH aR x.Norm.aK),(zH aC x.Norm.aA),(zH aF x.Norm.aN.Ranges),(zH bB x.Collation.aB),(zH aY x.Collation.aE),(di x.Collation.bK),(di x.Collation.bA),(di x.Collation.bJ),(di x.Options.aJ),(di x.Options.aD),(db x.Options.aQ),(db x.Options.aT),(zH eI x.bL),(zH eI x.bW),(zH eI x.b5)],15,λ_=>rfl⟩
end Go.AV
namespace Go.M
open Go.AV
noncomputable section
def zKK (h:(List bM)):Option (Bool):=
 some (decide ((h.length:Int)<=16))
def zCJ (D:(List aH)) (k:Int):Option (Stp (Int) ((Unit)⊕(Bool))):=
(pv (decide (k<(D.length:Int)))).bind λK=>
 cond (K&&(decide (k<30))) ((yA D k).bind λG=>
(pv (decide (65<(G.To.length:Int)))).bind λh=>
(gM (!h) (yA D k)).bind λH=>
 cond (h ||(decide (40<(H.bO.length:Int)))) (some (.done (.inr (false)))) (some (.next (wi (k+1))))) (some (.done (.inl (()))))
def zHN (k:(List aH)):Option (Bool):=
(zD (λ(x:Int)=>zCJ k x) 0).bind λ(h:(Unit)⊕(Bool))=>
 h.elim (λh=>some (decide ((k.length:Int)<=20))) (λh=>some h)
def zKL (h:Set):Option (Bool):=
 some (decide ((h.Ranges.length:Int)<=12))
def zHO (k:Norm):Option (Bool):=
(zKK k.aK).bind λH=>
(pv H).bind λG=>
(gM G (zHN k.aA)).bind λK=>
(pv (G&&K)).bind λh=>
(gM h (zKL k.aN)).bind λD=>
 some (h&&D)
def zCK (D:Collation) (k:Int):Option (Stp (Int) ((Unit)⊕(Bool))):=
 cond (decide (k<(D.aB.length:Int))) ((yA D.aB k).bind λG=>
(pv (decide (10<(G.aX.length:Int)))).bind λh=>
(gM (!h) (yA D.aB k)).bind λH=>
 cond (h ||(decide (20<(H.aU.length:Int)))) (some (.done (.inr (false)))) (some (.next (wi (k+1))))) (some (.done (.inl (()))))
def zHP (k:Collation):Option (Bool):=
(pv (decide (12<(k.aB.length:Int)))).bind λD=>
 cond (D ||(decide (8<(k.aE.length:Int)))) (some false) ((zD (λ(x:Int)=>zCK k x) 0).bind λ(h:(Unit)⊕(Bool))=>
 h.elim (λh=>some true) (λh=>some h))
def zI0 (h:(List Int)) (a1:Int):Option (Bool):=
 some (decide ((h.length:Int)<=a1))
def zGU (h:bF):Option (Bool):=
(zHO h.Norm).bind λY=>
(pv Y).bind λT=>
(gM T (zHP h.Collation)).bind λZ=>
(pv (T&&Z)).bind λk=>
(gM k (zI0 h.bL 4)).bind λH=>
(pv (k&&H)).bind λD=>
(gM D (zI0 h.bW 8)).bind λK=>
(pv (D&&K)).bind λG=>
(gM G (zI0 h.b5 8)).bind λO=>
 some (G&&O)
def zHE:Option (Collation):=
 some ({aB:=[({aX:=[65],aU:=[({aS:=5,aL:=32,aO:=8,aD:=false}:aP)]}:bP),({aX:=[97],aU:=[({aS:=5,aL:=32,aO:=2,aD:=false}:aP)]}:bP),({aX:=[769],aU:=[({aS:=0,aL:=40,aO:=2,aD:=false}:aP)]}:bP)],aE:=[],bK:=64448,bA:=32,bJ:=2}:Collation)
def zIG (D:Int):Option (Int):=
(cond (decide (4294967296<=D)) (some (D/2 ^ 32,32)) (some (D,0))).bind λ(h:Int×Int)=>
(cond (decide (65536<=h.1)) (some (h.1/2 ^ 16,wi (h.2+16))) (some (h.1,h.2))).bind λ(k:Int×Int)=>
(cond (decide (256<=k.1)) (some (k.1/2 ^ 8,wi (k.2+8))) (some (k.1,k.2))).bind λ(H:Int×Int)=>
(z29 [0,1,2,2,3,3,3,3,4,4,4,4,4,4,4,4,5,5,5,5,5,5,5,5,5,5,5,5,5,5,5,5,6,6,6,6,6,6,6,6,6,6,6,6,6,6,6,6,6,6,6,6,6,6,6,6,6,6,6,6,6,6,6,6,7,7,7,7,7,7,7,7,7,7,7,7,7,7,7,7,7,7,7,7,7,7,7,7,7,7,7,7,7,7,7,7,7,7,7,7,7,7,7,7,7,7,7,7,7,7,7,7,7,7,7,7,7,7,7,7,7,7,7,7,7,7,7,7,8,8,8,8,8,8,8,8,8,8,8,8,8,8,8,8,8,8,8,8,8,8,8,8,8,8,8,8,8,8,8,8,8,8,8,8,8,8,8,8,8,8,8,8,8,8,8,8,8,8,8,8,8,8,8,8,8,8,8,8,8,8,8,8,8,8,8,8,8,8,8,8,8,8,8,8,8,8,8,8,8,8,8,8,8,8,8,8,8,8,8,8,8,8,8,8,8,8,8,8,8,8,8,8,8,8,8,8,8,8,8,8,8,8,8,8,8,8,8,8,8,8,8,8,8,8,8,8] ((IntKind.u8.wrap) H.1)).bind λG=>
 some (wi (H.2+(wi G)))
def zEV (h:Int):Option (Int):=
(zIG h).bind λk=>
 some k
def zEW (h:Int):Option (Bool):=
 some (!decide (h=h))
def wM (K:(List Int)) (a1:Int) (G:Int) (h:(List Int)):Option (Stp (Int×(List Int)) (((List Int)))):=
 cond (decide (G<(K.length:Int))) (((yA K G).bind λD=>
(pv (decide (0<=D))).bind λH=>
 cond (H&&(decide (D<=a1))) ((app h [D]).bind λk=>
 some k) (some h)).bind λ(O:(List Int))=>
 some (.next (wi (G+1),O))) (some (.done h))
def zCL (D:(List Int)) (a1:Int):Option ((List Int)):=
(zD (λ(x:Int×(List Int))=>wM D a1 x.1 x.2) (0,[])).bind λ(G:(List Int))=>
(z89 G).bind λh=>
(z9A h).bind λk=>
 some k
def zBB (h:Int):Option (Bool):=
(pv (decide (1<=h))).bind λk=>
 some (k&&(decide (h<=65535)))
def wN (Y:Str) (T:Int):Option (Stp (Int) ((Unit)⊕(Bool))):=
 cond (decide (T<(Y.length:Int))) ((z29 Y T).bind λh=>
(pv (decide (65<=h))).bind λk=>
(pv (k&&(decide (h<=90)))).bind λD=>
(pv (decide (97<=h))).bind λG=>
(pv (D ||(G&&(decide (h<=122))))).bind λH=>
(pv (decide (48<=h))).bind λK=>
(pv (H ||(K&&(decide (h<=57))))).bind λO=>
 cond (!(O ||(decide (h=95)))) (some (.done (.inr (false)))) (some (.next (wi (T+1))))) (some (.done (.inl (()))))
def zCM (k:Str):Option (Bool):=
(zD (λ(x:Int)=>wN k x) 0).bind λ(h:(Unit)⊕(Bool))=>
 h.elim (λh=>(pv (!(k== []))).bind λD=>
 some (D&&(decide ((k.length:Int)<=32)))) (λh=>some h)
def xM (G:Collation) (h:Int):Option (Stp (Int) ((Unit)⊕(Int))):=
 cond (decide (h<(G.aE.length:Int))) ((yA G.aE h).bind λk=>
(zCM k.bT).bind λD=>
 cond (!D) (some (.done (.inr (6)))) (some (.next (wi (h+1))))) (some (.done (.inl (()))))
def jU (G:Collation) (h:Int) (k:(List (Str×Bool))):Option (Stp (Int×(List (Str×Bool))) ((Unit)⊕(Int))):=
 cond (decide (h<(G.aE.length:Int))) ((yA G.aE h).bind λD=>
 cond (mgetD k D.bT false) (some (.done (.inr (5)))) (some (.next (wi (h+1),w7 k D.bT true)))) (some (.done (.inl (()))))
def xN (D:Collation) (k:Int):Option (Stp (Int) ((Unit)⊕(Int))):=
 cond (decide (k<(D.aE.length:Int))) ((yA D.aE k).bind λh=>
(pv (decide (h.Lo<1))).bind λG=>
(pv (G ||(decide (h.Hi<h.Lo)))).bind λH=>
 cond (H ||(decide (D.bK<=h.Hi))) (some (.done (.inr (1)))) (some (.next (wi (k+1))))) (some (.done (.inl (()))))
def xO (D:Collation) (h:Int):Option (Stp (Int) ((Unit)⊕(Int))):=
 cond (decide (h<(D.aE.length:Int))) ((yA D.aE h).bind λG=>
(pv (decide (0<h))).bind λk=>
(gM k (yA D.aE (wi (h-1)))).bind λH=>
 cond (k&&(!decide (G.Lo=(wi (H.Hi+1))))) (some (.done (.inr (4)))) (some (.next (wi (h+1))))) (some (.done (.inl (()))))
def vX (h:Collation):Option (Int):=
(zD (λ(x:Int)=>xM h x) 0).bind λ(k:(Unit)⊕(Int))=>
 k.elim (λk=>(zD (λ(x:Int×(List (Str×Bool)))=>jU h x.1 x.2) (0,[])).bind λ(D:(Unit)⊕(Int))=>
 D.elim (λD=>(zD (λ(x:Int)=>xN h x) 0).bind λ(G:(Unit)⊕(Int))=>
 G.elim (λG=>(zD (λ(x:Int)=>xO h x) 0).bind λ(H:(Unit)⊕(Int))=>
 H.elim (λH=>some 0) (λH=>some H)) (λG=>some G)) (λD=>some D)) (λk=>some k)
def zAG (h:Int):Option (Bool):=
(pv (decide (0<=h))).bind λk=>
 some (k&&(decide (h<=1114111)))
def zAY (h:aP) (k:Int):Option (Stp (Int) ((Unit)⊕(Int))):=
 cond (decide (k<3)) ((yA [({x0:=h.aS,x1:=h.aL,x2:=h.aO}:b0).x0,({x0:=h.aS,x1:=h.aL,x2:=h.aO}:b0).x1,({x0:=h.aS,x1:=h.aL,x2:=h.aO}:b0).x2] k).bind λD=>
(pv (decide (D<0))).bind λG=>
 cond (G ||(decide (65535<D))) (some (.done (.inr (1)))) (some (.next (wi (k+1))))) (some (.done (.inl (()))))
def zEX (h:aP):Option (Int):=
(zD (λ(x:Int)=>zAY h x) 0).bind λ(k:(Unit)⊕(Int))=>
 k.elim (λk=>(pv (!decide (h.aS=0))).bind λD=>
(pv (decide (h.aL=0))).bind λG=>
 cond (D&&(G ||(decide (h.aO=0)))) (some 11) ((pv (!decide (h.aL=0))).bind λH=>
 cond (H&&(decide (h.aO=0))) (some 11) ((pv h.aD).bind λK=>
 cond (K&&(decide (h.aS=0))) (some 11) (some 0)))) (λk=>some k)
def jX (G:bP) (h:Int):Option (Stp (Int) ((Unit)⊕(Int))):=
 cond (decide (h<(G.aX.length:Int))) ((yA G.aX h).bind λk=>
(zAG k).bind λD=>
 cond (!D) (some (.done (.inr (1)))) (some (.next (wi (h+1))))) (some (.done (.inl (()))))
def xY (G:bP) (h:Int):Option (Stp (Int) ((Unit)⊕(Int))):=
 cond (decide (h<(G.aU.length:Int))) ((yA G.aU h).bind λD=>
(zEX D).bind λk=>
 cond (!decide (k=0)) (some (.done (.inr (k)))) (some (.next (wi (h+1))))) (some (.done (.inl (()))))
def jY (D:bP) (a1:Int) (h:Int):Option (Stp (Int) ((Unit)⊕(Int))):=
 cond (decide (h<(D.aU.length:Int))) ((yA D.aU h).bind λk=>
 cond (decide (a1<=k.aS)) (some (.done (.inr (1)))) (some (.next (wi (h+1))))) (some (.done (.inl (()))))
def uU (h:bP) (a1:Int):Option (Int):=
(pv (decide ((h.aX.length:Int)<1))).bind λH=>
(pv (H ||(decide (8<(h.aX.length:Int))))).bind λK=>
 cond (K ||(decide (16<(h.aU.length:Int)))) (some 2) ((zD (λ(x:Int)=>jX h x) 0).bind λ(k:(Unit)⊕(Int))=>
 k.elim (λk=>(zD (λ(x:Int)=>xY h x) 0).bind λ(D:(Unit)⊕(Int))=>
 D.elim (λD=>(zD (λ(x:Int)=>jY h a1 x) 0).bind λ(G:(Unit)⊕(Int))=>
 G.elim (λG=>some 0) (λG=>some G)) (λD=>some D)) (λk=>some k))
def xI (k:Int) (a1:Int):Option (Int):=
(zEW k).bind λD=>
(zEW a1).bind λh=>
 cond D (cond h (some 0) (some (-1))) (cond h (some 1) (cond (decide (k<a1)) (some (-1)) (cond (decide (a1<k)) (some 1) (some 0))))
def w9 (k:(List Int)) (a1:(List Int)) (h:Int):Option (Stp (Int) ((Unit)⊕(Int))):=
 cond (decide (h<(min (k.length:Int) (a1.length:Int)))) ((yA k h).bind λD=>
(yA a1 h).bind λG=>
 cond (!decide (D=G)) ((yA k h).bind λH=>
(yA a1 h).bind λK=>
(xI H K).bind λO=>
 some (.done (.inr (O)))) (some (.next (wi (h+1))))) (some (.done (.inl (()))))
def zBZ (D:(List Int)) (a1:(List Int)):Option (Int):=
(zD (λ(x:Int)=>w9 D a1 x) 0).bind λ(h:(Unit)⊕(Int))=>
 h.elim (λh=>(xI (D.length:Int) (a1.length:Int)).bind λk=>
 some k) (λh=>some h)
def uC (H:Collation) (h:Int):Option (Stp (Int) ((Unit)⊕(Int))):=
 cond (decide (h<(H.aB.length:Int))) ((yA H.aB h).bind λD=>
(uU D H.bK).bind λG=>
 cond (!decide (G=0)) (some (.done (.inr (G)))) ((pv (decide (0<h))).bind λk=>
(gM k (yA H.aB (wi (h-1)))).bind λK=>
(gM k (zBZ K.aX D.aX)).bind λO=>
 cond (k&&(decide (0<=O))) (some (.done (.inr (4)))) (some (.next (wi (h+1)))))) (some (.done (.inl (()))))
def zBN (h:Collation):Option (Int):=
(pv (decide (h.bK<1))).bind λK=>
(pv (K ||(decide (65502<h.bK)))).bind λk=>
(gM (!k) (zBB h.bA)).bind λO=>
(pv (k ||(!O))).bind λD=>
(gM (!D) (zBB h.bJ)).bind λT=>
 cond (D ||(!T)) (some 1) ((vX h).bind λG=>
 cond (!decide (G=0)) (some G) ((zD (λ(x:Int)=>uC h x) 0).bind λ(H:(Unit)⊕(Int))=>
 H.elim (λH=>some 0) (λH=>some H)))
def zDL (h:(List Int)):Option (bV):=
 some ({x0:=({x0:=(h.length:Int),x1:=0,x2:=0,x3:=0,x4:=0,x5:=0,x6:=0,x7:=0,x8:=0}:bV).x0,x1:=cpA h 0 (({x0:=(h.length:Int),x1:=0,x2:=0,x3:=0,x4:=0,x5:=0,x6:=0,x7:=0,x8:=0}:bV).x1),x2:=cpA h 1 (({x0:=(h.length:Int),x1:=0,x2:=0,x3:=0,x4:=0,x5:=0,x6:=0,x7:=0,x8:=0}:bV).x2),x3:=cpA h 2 (({x0:=(h.length:Int),x1:=0,x2:=0,x3:=0,x4:=0,x5:=0,x6:=0,x7:=0,x8:=0}:bV).x3),x4:=cpA h 3 (({x0:=(h.length:Int),x1:=0,x2:=0,x3:=0,x4:=0,x5:=0,x6:=0,x7:=0,x8:=0}:bV).x4),x5:=cpA h 4 (({x0:=(h.length:Int),x1:=0,x2:=0,x3:=0,x4:=0,x5:=0,x6:=0,x7:=0,x8:=0}:bV).x5),x6:=cpA h 5 (({x0:=(h.length:Int),x1:=0,x2:=0,x3:=0,x4:=0,x5:=0,x6:=0,x7:=0,x8:=0}:bV).x6),x7:=cpA h 6 (({x0:=(h.length:Int),x1:=0,x2:=0,x3:=0,x4:=0,x5:=0,x6:=0,x7:=0,x8:=0}:bV).x7),x8:=cpA h 7 (({x0:=(h.length:Int),x1:=0,x2:=0,x3:=0,x4:=0,x5:=0,x6:=0,x7:=0,x8:=0}:bV).x8)}:bV)
def wP (K:(List bP)×(List cf)×Int×Int×Int) (D:Int) (G:(List (bV×(List aP)))) (h:Int):Option (Stp (Int×(List (bV×(List aP)))×Int) (((List (bV×(List aP)))×Int))):=
 cond (decide (D<(K.1.length:Int))) ((yA K.1 D).bind λk=>
(zDL k.aX).bind λH=>
 some (.next (wi (D+1),w7 G H k.aU,max h (k.aX.length:Int)))) (some (.done (G,h)))
def zD9 (k:Collation):Option (bG):=
(zBN ({aB:=k.aB,aE:=k.aE,bK:=k.bK,bA:=k.bA,bJ:=k.bJ}:Collation)).bind λG=>
(cond (!decide (G=0)) (some (({aB:=[],aE:=[],bK:=64448,bA:=32,bJ:=2}:Collation).aB,({aB:=[],aE:=[],bK:=64448,bA:=32,bJ:=2}:Collation).aE,({aB:=[],aE:=[],bK:=64448,bA:=32,bJ:=2}:Collation).bK,({aB:=[],aE:=[],bK:=64448,bA:=32,bJ:=2}:Collation).bA,({aB:=[],aE:=[],bK:=64448,bA:=32,bJ:=2}:Collation).bJ)) (some (k.aB,k.aE,k.bK,k.bA,k.bJ))).bind λ(h:(List bP)×(List cf)×Int×Int×Int)=>
(zD (λ(x:Int×(List (bV×(List aP)))×Int)=>wP h x.1 x.2.1 x.2.2) (0,[],0)).bind λ(D:(List (bV×(List aP)))×Int)=>
 some ({c:=({aB:=({aB:=h.1,aE:=h.2.1,bK:=h.2.2.1,bA:=h.2.2.2.1,bJ:=h.2.2.2.2}:Collation).aB,aE:=({aB:=h.1,aE:=h.2.1,bK:=h.2.2.1,bA:=h.2.2.2.1,bJ:=h.2.2.2.2}:Collation).aE,bK:=({aB:=h.1,aE:=h.2.1,bK:=h.2.2.1,bA:=h.2.2.2.1,bJ:=h.2.2.2.2}:Collation).bK,bA:=({aB:=h.1,aE:=h.2.1,bK:=h.2.2.1,bA:=h.2.2.2.1,bJ:=h.2.2.2.2}:Collation).bA,bJ:=({aB:=h.1,aE:=h.2.1,bK:=h.2.2.1,bA:=h.2.2.2.1,bJ:=h.2.2.2.2}:Collation).bJ}:Collation),entries:=D.1,bU:=D.2,bR:=[],top:=0}:bG)
def u6 (O:(List bM)) (k:Int):Option (Stp (Int) ((Unit)⊕(Int))):=
 cond (decide (k<(O.length:Int))) ((yA O k).bind λh=>
(pv (decide (h.Lo<0))).bind λD=>
(pv (D ||(decide (1114111<h.Hi)))).bind λG=>
(pv (G ||(decide (h.Hi<h.Lo)))).bind λH=>
(pv (H ||(decide (h.Value<1)))).bind λK=>
 cond (K ||(decide (254<h.Value))) (some (.done (.inr (1)))) (some (.next (wi (k+1))))) (some (.done (.inl (()))))
def u7 (G:(List bM)) (D:Int):Option (Stp (Int) ((Unit)⊕(Int))):=
 cond (decide (D<(G.length:Int))) ((yA G (wi (D-1))).bind λh=>
(yA G D).bind λk=>
(pv (decide (k.Lo<=h.Hi))).bind λH=>
(pv (decide (k.Lo=(wi (h.Hi+1))))).bind λK=>
 cond (H ||(K&&(decide (k.Value=h.Value)))) (some (.done (.inr (4)))) (some (.next (wi (D+1))))) (some (.done (.inl (()))))
def wQ (h:cE) (D:bM) (k:Int):Option (Stp (Int) ((Unit)⊕(Int))):=
 cond (decide (k<4)) ((yA [h.x0,h.x1,h.x2,h.x3] k).bind λG=>
(pv (decide (D.Lo<=G.Hi))).bind λH=>
 cond (H&&(decide (G.Lo<=D.Hi))) (some (.done (.inr (11)))) (some (.next (wi (k+1))))) (some (.done (.inl (()))))
def u9 (H:(List bM)) (h:Int):Option (Stp (Int) ((Unit)⊕(Int))):=
 cond (decide (h<(H.length:Int))) ((yA H h).bind λD=>
(pv ({x0:=({Lo:=4352,Hi:=4370}:Range),x1:=({Lo:=4449,Hi:=4469}:Range),x2:=({Lo:=4520,Hi:=4546}:Range),x3:=({Lo:=44032,Hi:=55203}:Range)}:cE)).bind λG=>
(zD (λ(x:Int)=>wQ G D x) 0).bind λ(k:(Unit)⊕(Int))=>
 k.elim (λk=>some (.next (wi (h+1)))) (λk=>some (.done (.inr (k))))) (some (.done (.inl (()))))
def zCN (G:(List bM)):Option (Int):=
(zD (λ(x:Int)=>u6 G x) 0).bind λ(h:(Unit)⊕(Int))=>
 h.elim (λh=>(zD (λ(x:Int)=>u7 G x) 1).bind λ(k:(Unit)⊕(Int))=>
 k.elim (λk=>(zD (λ(x:Int)=>u9 G x) 0).bind λ(D:(Unit)⊕(Int))=>
 D.elim (λD=>some 0) (λD=>some D)) (λk=>some k)) (λh=>some h)
def zAA (Y:Str) (k:Int):Option (Stp (Int) ((Unit)⊕(Bool))):=
 cond (decide (k<(Y.length:Int))) ((z29 Y k).bind λh=>
(pv (decide (65<=h))).bind λD=>
(pv (D&&(decide (h<=90)))).bind λG=>
(pv (decide (97<=h))).bind λH=>
(pv (!(G ||(H&&(decide (h<=122)))))).bind λK=>
(pv (decide (48<=h))).bind λO=>
(pv (K&&(!(O&&(decide (h<=57)))))).bind λT=>
 cond (T&&(!decide (h=95))) (some (.done (.inr (false)))) (some (.next (wi (k+1))))) (some (.done (.inl (()))))
def zEA (k:Str):Option (Bool):=
(pv (k== [])).bind λD=>
 cond (D ||(decide (32<(k.length:Int)))) (some false) ((zD (λ(x:Int)=>zAA k x) 0).bind λ(h:(Unit)⊕(Bool))=>
 h.elim (λh=>some true) (λh=>some h))
def zAZ (k:aH) (h:Int):Option (Stp (Int) ((Unit)⊕(Int))):=
 cond (decide (h<(k.To.length:Int))) ((yA k.To h).bind λD=>
(zAG D).bind λG=>
 cond (!G) (some (.done (.inr (1)))) (some (.next (wi (h+1))))) (some (.done (.inl (()))))
def zA0 (H:(List aH)) (h:Int):Option (Stp (Int) ((Unit)⊕(Int))):=
 cond (decide (h<(H.length:Int))) ((yA H h).bind λk=>
(zAG k.aW).bind λG=>
 cond (!G) (some (.done (.inr (1)))) ((zD (λ(x:Int)=>zAZ k x) 0).bind λ(D:(Unit)⊕(Int))=>
 D.elim (λD=>some (.next (wi (h+1)))) (λD=>some (.done (.inr (D)))))) (some (.done (.inl (()))))
def zA1 (D:(List aH)) (h:Int):Option (Stp (Int) ((Unit)⊕(Int))):=
 cond (decide (h<(D.length:Int))) ((yA D h).bind λk=>
 cond (decide (64<(k.To.length:Int))) (some (.done (.inr (2)))) (some (.next (wi (h+1))))) (some (.done (.inl (()))))
def zA2 (H:(List aH)) (h:Int):Option (Stp (Int) ((Unit)⊕(Int))):=
 cond (decide (h<(H.length:Int))) ((yA H h).bind λD=>
(pv (!(D.bO== []))).bind λk=>
(gM k (zEA D.bO)).bind λG=>
 cond (k&&(!G)) (some (.done (.inr (6)))) (some (.next (wi (h+1))))) (some (.done (.inl (()))))
def zEY (G:(List aH)):Option (Int):=
(zD (λ(x:Int)=>zA0 G x) 0).bind λ(h:(Unit)⊕(Int))=>
 h.elim (λh=>(zD (λ(x:Int)=>zA1 G x) 0).bind λ(k:(Unit)⊕(Int))=>
 k.elim (λk=>(zD (λ(x:Int)=>zA2 G x) 0).bind λ(D:(Unit)⊕(Int))=>
 D.elim (λD=>some 0) (λD=>some D)) (λk=>some k)) (λh=>some h)
def zCO (h:Str):Option (Bool):=
 some (!(h==h))
def zBC (k:Str) (a1:Str):Option (Int):=
(zCO k).bind λD=>
(zCO a1).bind λh=>
 cond D (cond h (some 0) (some (-1))) (cond h (some 1) (cond (Op.bytesLess k a1) (some (-1)) (cond (!Op.bytesLess k a1&& !(k==a1)) (some 1) (some 0))))
def zDP (D:(List Int)) (k:Int):Option (Stp (Int) ((Unit)⊕(Int))):=
 cond (decide (k<(D.length:Int))) ((yA D k).bind λh=>
 cond (!decide (h=0)) (some (.done (.inr (h)))) (some (.next (wi (k+1))))) (some (.done (.inl (()))))
def zGV (k:(List Int)):Option (Int):=
(zD (λ(x:Int)=>zDP k x) 0).bind λ(h:(Unit)⊕(Int))=>
 h.elim (λh=>some 0) (λh=>some h)
def zDM (D:aH) (a1:aH):Option (Int):=
(xI D.aW a1.aW).bind λG=>
(zBC D.bO a1.bO).bind λh=>
(zGV [G,h]).bind λk=>
 some k
def zEZ (h:aH):Option (bN):=
 some ({cH:=h.aW,cM:=h.bO}:bN)
def uD (k:(List aH)) (K:Bool) (h:Int):Option (Stp (Bool×Int) ((Bool))):=
 cond (decide (h<(k.length:Int))) (((yA k (wi (h-1))).bind λD=>
(yA k h).bind λG=>
(zDM D G).bind λH=>
 cond (decide (0<=H)) (some false) (some K)).bind λ(O:Bool)=>
 some (.next (O,wi (h+1)))) (some (.done K))
def uE (K:(List aH)) (h:Int) (k:(List (bN×Bool))):Option (Stp (Int×(List (bN×Bool))) ((Unit)⊕(Int))):=
 cond (decide (h<(K.length:Int))) ((yA K h).bind λD=>
(zEZ D).bind λG=>
 cond (mgetD k G false) (some (.done (.inr (5)))) ((zEZ D).bind λH=>
 some (.next (wi (h+1),w7 k H true)))) (some (.done (.inl (()))))
def zE0 (D:(List aH)):Option (Int):=
(zEY D).bind λh=>
 cond (!decide (h=0)) (some h) ((zD (λ(x:Bool×Int)=>uD D x.1 x.2) (true,1)).bind λ(G:Bool)=>
 cond G (some 0) ((zD (λ(x:Int×(List (bN×Bool)))=>uE D x.1 x.2) (0,[])).bind λ(k:(Unit)⊕(Int))=>
 k.elim (λk=>some 4) (λk=>some k)))
def yY (a1:Int) (a3:Range->Range->Option (Int)) (G:Int) (h:(List Range)):Option (Stp (Int×(List Range)) (((List Range)))):=
(pv (decide (a1<G))).bind λH=>
(gM H (yA h G)).bind λK=>
(gM H (yA h (wi (G-1)))).bind λO=>
(gM H (a3 K O)).bind λT=>
 cond (H&&(decide (T<0))) ((yA h (wi (G-1))).bind λY=>
(yA h G).bind λZ=>
(yA h G).bind λaa=>
(zA9 h G Y).bind λk=>
(yA k (wi (G-1))).bind λab=>
(zA9 k (wi (G-1)) Z).bind λD=>
 some (.next (wi (G-1),D))) (some (.done h))
def yJ (a2:Int) (a1:Int) (a3:Range->Range->Option (Int)) (k:Int) (h:(List Range)):Option (Stp (Int×(List Range)) (((List Range)))):=
 cond (decide (k<a2)) ((zD (λ(x:Int×(List Range))=>yY a1 a3 x.1 x.2) (k,h)).bind λ(D:(List Range))=>
 some (.next (wi (k+1),D))) (some (.done h))
def jA (h:(List Range)) (a1:Int) (a2:Int) (a3:Range->Range->Option (Int)):Option ((List Range)):=
(zD (λ(x:Int×(List Range))=>yJ a2 a1 a3 x.1 x.2) (wi (a1+1),h)).bind λ(k:(List Range))=>
 some k
def kY (a2:Int) (a1:Int) (k:(List Range)) (D:Range->Range->Option (Int)) (a3:Int):Option (Stp (Unit) (((List Range)))):=
(cond (decide ((wi (a2-a1))<=12)) ((jA k a1 a2 D).bind λh=>
 some h) (cond (decide (a3=0)) (none) ((cond (!true) (none) (some ())).bind λ(H:Unit)=>
 none))).bind λ(G:(List Range))=>
 some (.done G)
def wA (h:(List Range)) (a1:Int) (a2:Int) (a3:Int) (k:Range->Range->Option (Int)):Option ((List Range)):=
(zD (λ(_:Unit)=>kY a2 a1 h k a3) ()).bind λ(D:(List Range))=>
 some D
def jD (h:(List Range)) (a1:Range->Range->Option (Int)):Option ((List Range)):=
(zEV (wu (h.length:Int))).bind λk=>
(wA h 0 (h.length:Int) k a1).bind λD=>
 some D
def zB0 (D:Range) (a1:Range):Option (Int):=
(xI D.Lo a1.Lo).bind λG=>
(xI D.Hi a1.Hi).bind λh=>
(zGV [G,h]).bind λk=>
 some k
def zB7 (H:(List Range)) (G:Int) (h:(List Range)):Option (Stp (Int×(List Range)) (((List Range)))):=
 cond (decide (G<(H.length:Int))) (((yA H G).bind λk=>
 cond (decide ((({Lo:=max k.Lo 0,Hi:=min k.Hi 1114111}:Range).Lo)<=(({Lo:=max k.Lo 0,Hi:=min k.Hi 1114111}:Range).Hi))) ((app h [({Lo:=max k.Lo 0,Hi:=min k.Hi 1114111}:Range)]).bind λD=>
 some D) (some h)).bind λ(K:(List Range))=>
 some (.next (wi (G+1),K))) (some (.done h))
def zB8 (O:(List Range)) (H:Int) (h:(List Range)):Option (Stp (Int×(List Range)) (((List Range)))):=
 cond (decide (H<(O.length:Int))) (((yA O H).bind λG=>
(pv (decide (0<(h.length:Int)))).bind λK=>
(gM K (yA h (wi ((h.length:Int)-1)))).bind λT=>
 cond (K&&(decide (G.Lo<=(wi (T.Hi+1))))) ((yA h (wi ((h.length:Int)-1))).bind λY=>
(yA h (wi ((h.length:Int)-1))).bind λZ=>
(zA9 h (wi ((h.length:Int)-1)) ({Z with Hi:=max Y.Hi G.Hi})).bind λk=>
 some k) ((app h [G]).bind λD=>
 some D)).bind λ(y5:(List Range))=>
 some (.next (wi (H+1),y5))) (some (.done h))
def zJE (k:(List Range)):Option (Set):=
(zD (λ(x:Int×(List Range))=>zB7 k x.1 x.2) (0,[])).bind λ(D:(List Range))=>
(jD D (λx0 x1=>zB0 x0 x1)).bind λh=>
(zD (λ(x:Int×(List Range))=>zB8 h x.1 x.2) (0,[])).bind λ(G:(List Range))=>
 some ({Ranges:=G}:Set)
def zCP (G:Set) (H:Set) (h:Int):Option (Stp (Int) ((Unit)⊕(Bool))):=
 cond (decide (h<(G.Ranges.length:Int))) ((yA G.Ranges h).bind λk=>
(yA H.Ranges h).bind λD=>
 cond (!decide (k=D)) (some (.done (.inr (false)))) (some (.next (wi (h+1))))) (some (.done (.inl (()))))
def zHQ (k:Set):Option (Bool):=
(zJE k.Ranges).bind λD=>
 cond (!decide ((D.Ranges.length:Int)=(k.Ranges.length:Int))) (some false) ((zD (λ(x:Int)=>zCP D k x) 0).bind λ(h:(Unit)⊕(Bool))=>
 h.elim (λh=>some true) (λh=>some h))
def zEB (h:Int):Option (Int):=
(pv (decide (4352<=h))).bind λK=>
 cond (K&&(decide (h<4371))) (some 1) ((pv (decide (4449<=h))).bind λk=>
 cond (k&&(decide (h<4470))) (some 2) ((pv (decide (4520<=h))).bind λD=>
 cond (D&&(decide (h<4547))) (some 3) ((pv (decide (h<44032))).bind λG=>
 cond (G ||(decide (55204<=h))) (some 0) ((zJ8 (wi (h-44032)) 28).bind λH=>
 cond (decide (H=0)) (some 4) (some 5)))))
def zBO (h:(List bM)):Option ((List bM)):=
(zCN h).bind λk=>
 cond (!decide (k=0)) (some []) (some h)
def yC (K:(List bM)) (a2:bM->Int->Option (Int)) (a1:Int) (k:Int) (h:Int):Option (Stp (Int×Int) ((Int))):=
 cond (decide (k<h)) (((yA K (wi ((wu (wi (k+h)))/2 ^ 1))).bind λD=>
(a2 D a1).bind λG=>
 cond (decide (G<0)) (some (wi ((wi ((wu (wi (k+h)))/2 ^ 1))+1),h)) (some (k,wi ((wu (wi (k+h)))/2 ^ 1)))).bind λ(H:Int×Int)=>
 some (.next (H.1,H.2))) (some (.done k))
def k9 (k:(List bM)) (a1:Int) (a2:bM->Int->Option (Int)):Option (Int×Bool):=
(zD (λ(x:Int×Int)=>yC k a2 a1 x.1 x.2) (0,(k.length:Int))).bind λ(H:Int)=>
(pv (decide (H<(k.length:Int)))).bind λh=>
(gM h (yA k H)).bind λD=>
(gM h (a2 D a1)).bind λG=>
 some (H,(h&&(decide (G=0))))
def zA3 (h:bM) (a1:Int):Option (Int):=
 cond (decide (h.Hi<a1)) (some (-1)) (cond (decide (a1<h.Lo)) (some 1) (some 0))
def jC (D:(List bM)) (a1:Int):Option (Int):=
(k9 D a1 (λx0 x1=>zA3 x0 x1)).bind λh=>
 cond (!h.2) (some 0) ((yA D h.1).bind λk=>
 some k.Value)
def kZ (a1:(List Int)) (a2:(List bM)) (items:(List (Range))) (K:Int) (k:Int) (h:Nat):Option (Stp (Int×Int×Nat) ((Int×Nat)⊕(Nat))):=
 cond (decide (k<(a1.length:Int))) (((yA a1 k).bind λY=>
(jC a2 Y).bind λH=>
((pv (!(decide (H=0)))).bind λO=>
 cond (O&&(decide (K<0))) (some (.inl ((k,h)))) ((pv (decide (H=0))).bind λT=>
 cond (T&&(decide (0<=K))) ((yM items h ({Lo:=K,Hi:=k}:Range)).bind λZ=>
 cond (!true) (some (.inr (h+1))) (some (.inl (((-1),h+1))))) (some (.inl ((K,h)))))).bind λ(G:(Int×Nat)⊕(Nat))=>
 G.elim (λG=>some (.inl ((G.1,G.2)))) (λG=>some (.inr (G)))).bind λ(D:(Int×Nat)⊕(Nat))=>
 D.elim (λD=>some (.next (D.1,wi (k+1),D.2))) (λD=>some (.done (.inr (D))))) (some (.done (.inl ((K,h)))))
def zBP (items:List Range) (a1:(List Int)) (a2:(List bM)):Option Unit:=
(zD (λ(x:Int×Int×Nat)=>kZ a1 a2 items x.1 x.2.1 x.2.2) ((-1),0,0)).bind λ(h:(Int×Nat)⊕(Nat))=>
 h.elim (λh=>cond (decide (0<=h.1)) ((yM items h.2 ({Lo:=h.1,Hi:=(a1.length:Int)}:Range)).bind λk=>
 zVX items (h.2+1)) (zVX items h.2)) (λh=>zVX items h)
def xX (st:Int->Bool):List Int->Int->Int->List Range
 | [],i,s=>if 0<=s then [{Lo:=s,Hi:=i}] else []
 | c::r,i,s=>if !st c&&decide (s<0) then xX st r (i+1) i else if st c&&decide (0<=s) then {Lo:=s,Hi:=i}::xX st r (i+1) (-1) else xX st r (i+1) s
def yOJ {h:Type} (l:List h):Option (List h):=if l.length<=LIM then some l else none
def zE1 (k:List bM) (a1:List Int):Option (List Range):=(zBO k).bind λh=>(zBP (xX (λc=>jC h c==some 0) a1 0 (-1)) a1 h).bind λ_=>yOJ (xX (λc=>jC h c==some 0) a1 0 (-1))
def zIS (D:Int):Option (b0):=
(zEB D).bind λT=>
 cond (decide (T<4)) (some ({x0:=0,x1:=0,x2:=0}:b0)) ((zNP wi (wi (D-44032)) 28).bind λG=>
(zNP wi G 21).bind λh=>
(zNP wi (wi (D-44032)) 28).bind λH=>
(zJ8 H 21).bind λk=>
(zJ8 (wi (D-44032)) 28).bind λK=>
(cond (decide (0<K)) ((zJ8 (wi (D-44032)) 28).bind λO=>
 some (wi ((wi (4520+O))-1))) (some (({x0:=wi (4352+h),x1:=wi (4449+k),x2:=0}:b0).x2))).bind λ(Y:Int)=>
 some ({x0:=({x0:=wi (4352+h),x1:=wi (4449+k),x2:=0}:b0).x0,x1:=({x0:=wi (4352+h),x1:=wi (4449+k),x2:=0}:b0).x1,x2:=Y}:b0))
def zCQ (k:Int):Option ((List Int)):=
(zIS k).bind λh=>
 cond (decide (h=({x0:=0,x1:=0,x2:=0}:b0))) (some [k]) (cond (decide (h.x2=0)) (some [h.x0,h.x1]) (some [h.x0,h.x1,h.x2]))
def z7 (K:(List aH)) (a2:aH->Int->Option (Int)) (a1:Int) (k:Int) (h:Int):Option (Stp (Int×Int) ((Int))):=
 cond (decide (k<h)) (((yA K (wi ((wu (wi (k+h)))/2 ^ 1))).bind λD=>
(a2 D a1).bind λG=>
 cond (decide (G<0)) (some (wi ((wi ((wu (wi (k+h)))/2 ^ 1))+1),h)) (some (k,wi ((wu (wi (k+h)))/2 ^ 1)))).bind λ(H:Int×Int)=>
 some (.next (H.1,H.2))) (some (.done k))
def yP (k:(List aH)) (a1:Int) (a2:aH->Int->Option (Int)):Option (Int×Bool):=
(zD (λ(x:Int×Int)=>z7 k a2 a1 x.1 x.2) (0,(k.length:Int))).bind λ(H:Int)=>
(pv (decide (H<(k.length:Int)))).bind λh=>
(gM h (yA k H)).bind λD=>
(gM h (a2 D a1)).bind λG=>
 some (H,(h&&(decide (G=0))))
def uF (h:aH) (a1:Int):Option (Int):=
(xI h.aW a1).bind λk=>
 some k
def uV (D:Norm) (a1:Int) (a2:Bool):Option ((List Int)×Bool):=
(zEB a1).bind λH=>
 cond (decide (4<=H)) ((zCQ a1).bind λK=>
 some (K,true)) ((yP D.aA a1 (λx0 x1=>uF x0 x1)).bind λh=>
(pv (!h.2)).bind λk=>
(gM (!k) (yA D.aA h.1)).bind λO=>
(pv (!(O.bO== []))).bind λG=>
 cond (k ||(G&&(!a2))) (some ([],false)) ((yA D.aA h.1).bind λT=>
 some (T.To,true)))
def jO (K:(List Int)×Bool) (T:(Int->Norm->(List (Int×Int))->Bool->Bool->Option (Int×Bool×Bool×(List (Int×Int))))) (a1:Norm) (O:Int) (H:Int) (h:Bool) (k:Bool) (D:(List (Int×Int))):Option (Stp (Int×Int×Bool×Bool×(List (Int×Int))) ((Int×Bool×Bool×(List (Int×Int))))):=
 cond (decide (H<(K.1.length:Int))) ((yA K.1 H).bind λY=>
(T Y a1 D h k).bind λG=>
 some (.next (min (wi (O+G.1)) 65,wi (H+1),G.2.1,G.2.2.1,G.2.2.2))) (some (.done (O,h,k,D)))
def jI (T:Int->Norm->(List (Int×Int))->Bool->Bool->Option (Int×Bool×Bool×(List (Int×Int)))) (k:Int) (a1:Norm) (a2:(List (Int×Int))) (a3:Bool) (G:Bool):Option (Int×Bool×Bool×(List (Int×Int))):=
(uV a1 k true).bind λh=>
(pv (!h.2)).bind λH=>
 cond (H ||(decide ((h.1.length:Int)=0))) (some (1,a3,G,a2)) (cond (zDJ a2 k) ((pv a3).bind λK=>
 some (max (mgetD a2 k 0) 1,(K ||(decide ((mgetD a2 k 0)=(-1)))),G,a2)) ((zD (λ(x:Int×Int×Bool×Bool×(List (Int×Int)))=>jO h T a1 x.1 x.2.1 x.2.2.1 x.2.2.2.1 x.2.2.2.2) (0,0,a3,G,w7 a2 k (-1))).bind λ(D:Int×Bool×Bool×(List (Int×Int)))=>
(pv D.2.2.1).bind λO=>
 some (D.1,D.2.1,(O ||(decide (64<D.1))),w7 D.2.2.2 k D.1)))
def yH:Nat->Int->Norm->(List (Int×Int))->Bool->Bool->Option (Int×Bool×Bool×(List (Int×Int)))
 | 0=>λ_ _ _ _ _=>none
 | n+1=>jI (yH n)
def k7 (H:Norm) (G:Int) (h:Bool) (k:Bool) (O:(List (Int×Int))):Option (Stp (Int×Bool×Bool×(List (Int×Int))) ((Bool×Bool))):=
 cond (decide (G<(H.aA.length:Int))) ((yA H.aA G).bind λK=>
(yH 100 K.aW H O h k).bind λD=>
 some (.next (wi (G+1),D.2.1,D.2.2.1,D.2.2.2))) (some (.done (h,k)))
def decompose_measure (k:Norm):Option (Bool×Bool):=
(zD (λ(x:Int×Bool×Bool×(List (Int×Int)))=>k7 k x.1 x.2.1 x.2.2.1 x.2.2.2) (0,false,false,[])).bind λ(h:Bool×Bool)=>
 some (h.1,h.2)
def uG (k:Norm) (h:Int):Option (Stp (Int) ((Unit)⊕(Int))):=
 cond (decide (h<(k.aA.length:Int))) ((yA k.aA h).bind λD=>
(yA k.aA (wi (h-1))).bind λG=>
 cond (decide (D.aW=G.aW)) (some (.done (.inr (5)))) (some (.next (wi (h+1))))) (some (.done (.inl (()))))
def uH (H:Norm) (k:Int):Option (Stp (Int) ((Unit)⊕(Int))):=
 cond (decide (k<(H.aA.length:Int))) ((yA H.aA k).bind λh=>
(pv (h.bO== [])).bind λD=>
(pv (D&&(!decide ((h.To.length:Int)=1)))).bind λG=>
 cond (G&&(!decide ((h.To.length:Int)=2))) (some (.done (.inr (8)))) (some (.next (wi (k+1))))) (some (.done (.inl (()))))
def kC (O:Norm) (G:Int) (h:(List Int)):Option (Stp (Int×(List Int)) (((List Int))⊕(Int))):=
 cond (decide (G<(O.aA.length:Int))) (((yA O.aA G).bind λD=>
(zEB D.aW).bind λK=>
 cond (!decide (K=0)) (some (.inr (()))) (cond (!(D.bO== [])) ((app h [D.aW]).bind λk=>
 some (.inl (k))) (some (.inl (h))))).bind λ(H:((List Int))⊕(Unit))=>
 H.elim (λH=>some (.next (wi (G+1),H))) (λH=>some (.done (.inr (11))))) (some (.done (.inl (h))))
def zBQ (h:Norm):Option (Int):=
(zCN h.aK).bind λD=>
 cond (!decide (D=0)) (some D) ((zE0 h.aA).bind λG=>
 cond (!decide (G=0)) (some G) ((zHQ h.aN).bind λT=>
 cond (!T) (some 11) ((zD (λ(x:Int)=>uG h x) 1).bind λ(K:(Unit)⊕(Int))=>
 K.elim (λK=>(zD (λ(x:Int)=>uH h x) 0).bind λ(O:(Unit)⊕(Int))=>
 O.elim (λO=>(zD (λ(x:Int×(List Int))=>kC h x.1 x.2) (0,[])).bind λ(H:((List Int))⊕(Int))=>
 H.elim (λH=>(zE1 h.aK H).bind λY=>
 cond (decide (0<(Y.length:Int))) (some 11) ((decompose_measure h).bind λk=>
 cond k.1 (some 12) (cond k.2 (some 13) (some 0)))) (λH=>some H)) (λO=>some O)) (λK=>some K))))
def jZ (G:(List bM)) (k:Int) (h:Int):Option (Stp (Int×Int) ((Int))):=
 cond (decide (k<(G.length:Int))) ((yA G k).bind λD=>
 some (.next (wi (k+1),max h D.Value))) (some (.done h))
def uW (h:bG) (a1:Norm):Option (bG):=
(zBQ a1).bind λD=>
(cond (decide (D=0)) (some a1.aK) (some h.bR)).bind λ(k:(List bM))=>
(zD (λ(x:Int×Int)=>jZ k x.1 x.2) (0,h.top)).bind λ(G:Int)=>
 some ({c:=({aB:=h.c.aB,aE:=h.c.aE,bK:=h.c.bK,bA:=h.c.bA,bJ:=h.c.bJ}:Collation),entries:=h.entries,bU:=h.bU,bR:=k,top:=G}:bG)
def zA4 (h:Norm):Option (Norm):=
(zBQ h).bind λk=>
 cond (!decide (k=0)) (some ({aK:=({aK:=[],aA:=[],aN:=(({Ranges:=[]}):Set)}:Norm).aK,aA:=({aK:=[],aA:=[],aN:=(({Ranges:=[]}):Set)}:Norm).aA,aN:=({Ranges:=(({aK:=[],aA:=[],aN:=(({Ranges:=[]}):Set)}:Norm).aN).Ranges}:Set)}:Norm)) (some h)
def jJ (H:(List Int)×Bool) (O:(Int->(List (Int×(List Int)))->Norm->Bool->Option ((List Int)×(List (Int×(List Int)))))) (a2:Norm) (a3:Bool) (G:Int) (h:(List Int)) (D:(List (Int×(List Int)))):Option (Stp (Int×(List Int)×(List (Int×(List Int)))) (((List Int)×(List (Int×(List Int)))))):=
 cond (decide (G<(H.1.length:Int))) ((yA H.1 G).bind λT=>
(O T D a2 a3).bind λK=>
(app h K.1).bind λk=>
 some (.next (wi (G+1),k,K.2))) (some (.done (h,D)))
def vJ (D:Int->(List (Int×(List Int)))->Norm->Bool->Option ((List Int)×(List (Int×(List Int))))) (h:Int) (a1:(List (Int×(List Int)))) (a2:Norm) (a3:Bool):Option ((List Int)×(List (Int×(List Int)))):=
 cond (zDJ a1 h) (some (mgetD a1 h [],a1)) ((uV a2 h a3).bind λk=>
 cond (!k.2) (some ([h],a1)) ((zD (λ(x:Int×(List Int)×(List (Int×(List Int))))=>jJ k D a2 a3 x.1 x.2.1 x.2.2) (0,[],a1)).bind λ(G:(List Int)×(List (Int×(List Int))))=>
 some (G.1,w7 G.2 h G.1)))
def kU:Nat->Int->(List (Int×(List Int)))->Norm->Bool->Option ((List Int)×(List (Int×(List Int))))
 | 0=>λ_ _ _ _=>none
 | n+1=>vJ (kU n)
def zDC (h:Norm) (a1:Bool):Option (Unit):=
 some ()
def zB1 (h:(List Int)):Option ((List Int)):=app [] h
def vU (D:Int) (a1:Int) (a2:(List bM)):Option (Int):=
(jC a2 D).bind λG=>
(jC a2 a1).bind λh=>
(xI G h).bind λk=>
 some k
def z8 (a1:Int) (a3:Int->Int->Option (Int)) (G:Int) (h:(List Int)):Option (Stp (Int×(List Int)) (((List Int)))):=
(pv (decide (a1<G))).bind λH=>
(gM H (yA h G)).bind λK=>
(gM H (yA h (wi (G-1)))).bind λO=>
(gM H (a3 K O)).bind λT=>
 cond (H&&(decide (T<0))) ((yA h (wi (G-1))).bind λY=>
(yA h G).bind λZ=>
(yA h G).bind λaa=>
(zA9 h G Y).bind λk=>
(yA k (wi (G-1))).bind λab=>
(zA9 k (wi (G-1)) Z).bind λD=>
 some (.next (wi (G-1),D))) (some (.done h))
def zZ (a2:Int) (a1:Int) (a3:Int->Int->Option (Int)) (k:Int) (h:(List Int)):Option (Stp (Int×(List Int)) (((List Int)))):=
 cond (decide (k<a2)) ((zD (λ(x:Int×(List Int))=>z8 a1 a3 x.1 x.2) (k,h)).bind λ(D:(List Int))=>
 some (.next (wi (k+1),D))) (some (.done h))
def kV (h:(List Int)) (a1:Int) (a2:Int) (a3:Int->Int->Option (Int)):Option ((List Int)):=
(zD (λ(x:Int×(List Int))=>zZ a2 a1 a3 x.1 x.2) (wi (a1+1),h)).bind λ(k:(List Int))=>
 some k
def kF (a3:Int) (a2:Int) (a1:Int) (G:Int) (k:(List Int)):Option (Stp (Int×(List Int)) (((List Int)))):=
 cond (decide (G<a3)) ((yA k (wi (a2+G))).bind λH=>
(yA k (wi (a1+G))).bind λK=>
(yA k (wi (a1+G))).bind λO=>
(zA9 k (wi (a1+G)) H).bind λh=>
(yA h (wi (a2+G))).bind λT=>
(zA9 h (wi (a2+G)) K).bind λD=>
 some (.next (wi (G+1),D))) (some (.done k))
def kX (h:(List Int)) (a1:Int) (a2:Int) (a3:Int) (D:Int->Int->Option (Int)):Option ((List Int)):=
(zD (λ(x:Int×(List Int))=>kF a3 a2 a1 x.1 x.2) (0,h)).bind λ(k:(List Int))=>
 some k
def yU (a2:Int) (O:Int->Int->Option (Int)) (h:Int) (D:Int) (k:(List Int)):Option (Stp (Int×Int×(List Int)) ((Int×(List Int)))):=
 cond (!decide (h=D)) ((cond (decide (D<h)) ((kX k (wi (a2-h)) a2 D O).bind λG=>
 some (wi (h-D),D,G)) ((kX k (wi (a2-h)) (wi ((wi (a2+D))-h)) h O).bind λH=>
 some (h,wi (D-h),H))).bind λ(K:Int×Int×(List Int))=>
 some (.next (K.1,K.2.1,K.2.2))) (some (.done (h,k)))
def xP (G:(List Int)) (a1:Int) (a2:Int) (a3:Int) (D:Int->Int->Option (Int)):Option ((List Int)):=
(zD (λ(x:Int×Int×(List Int))=>yU a2 D x.1 x.2.1 x.2.2) (wi (a2-a1),wi (a3-a2),G)).bind λ(k:Int×(List Int))=>
(kX k.2 (wi (a2-k.1)) a2 k.1 D).bind λh=>
 some h
def kL (K:(List Int)) (a1:Int) (T:Int->Int->Option (Int)) (h:Int) (k:Int):Option (Stp (Int×Int) ((Int))):=
 cond (decide (h<k)) (((yA K (wi ((wu (wi (h+k)))/2 ^ 1))).bind λD=>
(yA K a1).bind λG=>
(T D G).bind λH=>
 cond (decide (H<0)) (some (wi ((wi ((wu (wi (h+k)))/2 ^ 1))+1),k)) (some (h,wi ((wu (wi (h+k)))/2 ^ 1)))).bind λ(O:Int×Int)=>
 some (.next (O.1,O.2))) (some (.done h))
def kM (Y:Int) (G:Int) (k:(List Int)):Option (Stp (Int×(List Int)) (((List Int)))):=
 cond (decide (G<(wi (Y-1)))) ((yA k (wi (G+1))).bind λH=>
(yA k G).bind λK=>
(yA k G).bind λO=>
(zA9 k G H).bind λh=>
(yA h (wi (G+1))).bind λT=>
(zA9 h (wi (G+1)) K).bind λD=>
 some (.next (wi (G+1),D))) (some (.done k))
def kN (K:(List Int)) (a2:Int) (T:Int->Int->Option (Int)) (h:Int) (k:Int):Option (Stp (Int×Int) ((Int))):=
 cond (decide (h<k)) (((yA K a2).bind λG=>
(yA K (wi ((wu (wi (h+k)))/2 ^ 1))).bind λH=>
(T G H).bind λD=>
 cond (!(decide (D<0))) (some (wi ((wi ((wu (wi (h+k)))/2 ^ 1))+1),k)) (some (h,wi ((wu (wi (h+k)))/2 ^ 1)))).bind λ(O:Int×Int)=>
 some (.next (O.1,O.2))) (some (.done h))
def kO (Y:Int) (G:Int) (k:(List Int)):Option (Stp (Int×(List Int)) (((List Int)))):=
 cond (decide (Y<G)) ((yA k (wi (G-1))).bind λH=>
(yA k G).bind λK=>
(yA k G).bind λO=>
(zA9 k G H).bind λh=>
(yA h (wi (G-1))).bind λT=>
(zA9 h (wi (G-1)) K).bind λD=>
 some (.next (wi (G-1),D))) (some (.done k))
def kP (K:(List Int)) (a1:Int) (a3:Int) (a2:Int) (T:Int->Int->Option (Int)) (h:Int) (k:Int):Option (Stp (Int×Int) ((Int))):=
 cond (decide (h<k)) (((yA K (wi ((wi ((wi ((wi ((wu (wi (a1+a3)))/2 ^ 1))+a2))-1))-(wi ((wu (wi (h+k)))/2 ^ 1))))).bind λD=>
(yA K (wi ((wu (wi (h+k)))/2 ^ 1))).bind λG=>
(T D G).bind λH=>
 cond (!(decide (H<0))) (some (wi ((wi ((wu (wi (h+k)))/2 ^ 1))+1),k)) (some (h,wi ((wu (wi (h+k)))/2 ^ 1)))).bind λ(O:Int×Int)=>
 some (.next (O.1,O.2))) (some (.done h))
def yR (O:((List Int))->(Int)->(Int)->(Int)->(Int->Int->Option (Int))->Option ((List Int))) (k:(List Int)) (a1:Int) (a2:Int) (a3:Int) (D:Int->Int->Option (Int)):Option ((List Int)):=
 cond (decide ((wi (a2-a1))=1)) ((zD (λ(x:Int×Int)=>kL k a1 D x.1 x.2) (a2,a3)).bind λ(y1:Int)=>
(zD (λ(x:Int×(List Int))=>kM y1 x.1 x.2) (a1,k)).bind λ(y3:(List Int))=>
 some y3) (cond (decide ((wi (a3-a2))=1)) ((zD (λ(x:Int×Int)=>kN k a2 D x.1 x.2) (a1,a2)).bind λ(y4:Int)=>
(zD (λ(x:Int×(List Int))=>kO y4 x.1 x.2) (a2,k)).bind λ(y6:(List Int))=>
 some y6) ((cond (decide ((wi ((wu (wi (a1+a3)))/2 ^ 1))<a2)) (some (wi ((wi ((wi ((wu (wi (a1+a3)))/2 ^ 1))+a2))-a3),wi ((wu (wi (a1+a3)))/2 ^ 1))) (some (a1,a2))).bind λ(y7:Int×Int)=>
(zD (λ(x:Int×Int)=>kP k a1 a3 a2 D x.1 x.2) (y7.1,y7.2)).bind λ(h:Int)=>
(pv (decide (h<a2))).bind λG=>
(cond (G&&(decide (a2<(wi ((wi ((wi ((wu (wi (a1+a3)))/2 ^ 1))+a2))-h))))) ((xP k h a2 (wi ((wi ((wi ((wu (wi (a1+a3)))/2 ^ 1))+a2))-h)) D).bind λT=>
 some T) (some k)).bind λ(aa:(List Int))=>
(pv (decide (a1<h))).bind λH=>
(cond (H&&(decide (h<(wi ((wu (wi (a1+a3)))/2 ^ 1))))) ((O aa a1 h (wi ((wu (wi (a1+a3)))/2 ^ 1)) D).bind λY=>
 some Y) (some aa)).bind λ(ab:(List Int))=>
(pv (decide ((wi ((wu (wi (a1+a3)))/2 ^ 1))<(wi ((wi ((wi ((wu (wi (a1+a3)))/2 ^ 1))+a2))-h))))).bind λK=>
 cond (K&&(decide ((wi ((wi ((wi ((wu (wi (a1+a3)))/2 ^ 1))+a2))-h))<a3))) ((O ab (wi ((wu (wi (a1+a3)))/2 ^ 1)) (wi ((wi ((wi ((wu (wi (a1+a3)))/2 ^ 1))+a2))-h)) a3 D).bind λZ=>
 some Z) (some ab)))
def kR:Nat->((List Int))->(Int)->(Int)->(Int)->(Int->Int->Option (Int))->Option ((List Int))
 | 0=>λ_ _ _ _ _=>none
 | n+1=>yR (kR n)
def yL (a1:Int) (a2:Int->Int->Option (Int)) (G:Int) (k:Int) (h:(List Int)):Option (Stp (Int×Int×(List Int)) ((Int×(List Int)))):=
 cond (decide (k<=a1)) ((kV h G k a2).bind λD=>
 some (.next (k,wi (k+20),D))) (some (.done (G,h)))
def yN (a1:Int) (H:Int) (a2:Int->Int->Option (Int)) (G:Int) (k:Int) (h:(List Int)):Option (Stp (Int×Int×(List Int)) ((Int×(List Int)))):=
 cond (decide (k<=a1)) ((kR 60 h G (wi (G+H)) k a2).bind λD=>
 some (.next (k,wi (k+(wi (2*H))),D))) (some (.done (G,h)))
def yV (a1:Int) (a2:Int->Int->Option (Int)) (k:Int) (h:(List Int)):Option (Stp (Int×(List Int)) (((List Int)))):=
 cond (decide (k<a1)) ((zD (λ(x:Int×Int×(List Int))=>yN a1 k a2 x.1 x.2.1 x.2.2) (0,wi (2*k),h)).bind λ(D:Int×(List Int))=>
(cond (decide ((wi (D.1+k))<a1)) ((kR 60 D.2 D.1 (wi (D.1+k)) a1 a2).bind λG=>
 some G) (some D.2)).bind λ(H:(List Int))=>
 some (.next (wi (k*2),H))) (some (.done h))
def uM (D:(List Int)) (a1:Int) (a2:Int->Int->Option (Int)):Option ((List Int)):=
(zD (λ(x:Int×Int×(List Int))=>yL a1 a2 x.1 x.2.1 x.2.2) (0,20,D)).bind λ(k:Int×(List Int))=>
(kV k.2 k.1 a1 a2).bind λh=>
(zD (λ(x:Int×(List Int))=>yV a1 a2 x.1 x.2) (20,h)).bind λ(G:(List Int))=>
 some G
def k8 (h:(List Int)) (a1:Int->Int->Option (Int)):Option ((List Int)):=
(uM h (h.length:Int) a1).bind λk=>
 some k
def zB9 (D:List bM) (a1:List Int):Option (List Int):=(zBO D).bind λh=>(zB1 a1).bind λk=>(zBP (xX (λc=>jC h c==some 0) a1 0 (-1)) a1 h).bind λ_=>zBA (λp=>k8 p (λx0 x1=>vU x0 x1 h)) Range.Lo Range.Hi k (xX (λc=>jC h c==some 0) a1 0 (-1))
def xU (a1:(List Int)) (G:Norm) (a2:Bool) (H:Int) (h:(List Int)) (D:(List (Int×(List Int)))):Option (Stp (Int×(List Int)×(List (Int×(List Int)))) (((List Int)))):=
 cond (decide (H<(a1.length:Int))) ((yA a1 H).bind λO=>
(kU 100 O D ({aK:=G.aK,aA:=G.aA,aN:=({Ranges:=G.aN.Ranges}:Set)}:Norm) a2).bind λK=>
(app h K.1).bind λk=>
 some (.next (wi (H+1),k,K.2))) (some (.done h))
def vK (k:Norm) (a1:(List Int)) (a2:Bool):Option ((List Int)):=
(zA4 ({aK:=k.aK,aA:=k.aA,aN:=({Ranges:=k.aN.Ranges}:Set)}:Norm)).bind λh=>
(zDC ({aK:=h.aK,aA:=h.aA,aN:=({Ranges:=h.aN.Ranges}:Set)}:Norm) a2).bind λG=>
(zD (λ(x:Int×(List Int)×(List (Int×(List Int))))=>xU a1 h a2 x.1 x.2.1 x.2.2) (0,[],[])).bind λ(H:(List Int))=>
(zB9 h.aK H).bind λD=>
 some D
def j9 (k:bG) (a1:(List Int)):Option ((List aP)×Bool):=
(pv (decide ((a1.length:Int)=0))).bind λD=>
 cond (D ||(decide (k.bU<(a1.length:Int)))) (some ([],false)) ((zDL a1).bind λh=>
 some (mgetD k.entries h [],zDJ k.entries h))
def xQ (h:bG) (a1:Int):Option ((List aP)):=
(zAG a1).bind λG=>
 cond (!G) (some []) ((zNP wi a1 32768).bind λk=>
(zJ8 a1 32768).bind λD=>
 some [({aS:=wi (h.c.bK+k),aL:=h.c.bA,aO:=h.c.bJ,aD:=false}:aP),({aS:=wi (32768+D),aL:=0,aO:=0,aD:=false}:aP)])
def vA (k:Int) (a1:bG) (a2:Int):Option (Bool):=
(yA a1.bR k).bind λh=>
 some (decide (a2<=h.Hi))
def zCR (a1:Int->Option (Bool)) (h:Int) (k:Int):Option (Stp (Int×Int) ((Int))):=
 cond (decide (h<k)) (((a1 (wi ((wu (wi (h+k)))/2 ^ 1))).bind λD=>
 cond (!D) (some (wi ((wi ((wu (wi (h+k)))/2 ^ 1))+1),k)) (some (h,wi ((wu (wi (h+k)))/2 ^ 1)))).bind λ(G:Int×Int)=>
 some (.next (G.1,G.2))) (some (.done h))
def zKM (h:Int) (a1:Int->Option (Bool)):Option (Int):=
(zD (λ(x:Int×Int)=>zCR a1 x.1 x.2) (0,h)).bind λ(k:Int)=>
 some k
def vY (k:bG) (a1:Int):Option (Int):=
(zKM (k.bR.length:Int) (λx0=>vA x0 k a1)).bind λh=>
(pv (decide (h<(k.bR.length:Int)))).bind λD=>
(gM D (yA k.bR h)).bind λG=>
 cond (D&&(decide (G.Lo<=a1))) ((yA k.bR h).bind λH=>
 some H.Value) (some 0)
def jE (a1:(List Int)) (G:bG) (h:Int):Option (Stp (Int) ((Int))):=
 cond (decide (0<h)) ((slc a1 0 h).bind λk=>
(j9 G k).bind λD=>
 cond D.2 (some (.done h)) (some (.next (wi (h-1))))) (some (.done h))
def kQ (Z:bG) (D:Int) (H:Int) (k:Int) (h:(List Int)):Option (Stp (Int×Int×Int×(List Int)) ((Int×(List Int)))):=
(pv (decide (k<(h.length:Int)))).bind λaa=>
 cond (aa&&(decide (H<Z.top))) (((yA h k).bind λO=>
(vY Z O).bind λT=>
 cond (decide (T=0)) (some (.inl (()))) (cond (decide (T<=H)) (some (.inr ((D,H,h)))) ((slc h 0 D).bind λab=>
(app ab [O]).bind λK=>
(j9 Z K).bind λac=>
 cond (!ac.2) (some (.inr ((D,T,h)))) ((slc h (wi (D+1)) (wi (k+1))).bind λag=>
(slc h D k).bind λah=>
(yA (cpM h (wi (D+1)) (wi (k+1)) D k) D).bind λad=>
(zA9 (cpM h (wi (D+1)) (wi (k+1)) D k) D O).bind λG=>
 some (.inr ((wi (D+1),H,G))))))).bind λ(Y:(Unit)⊕(Int×Int×(List Int)))=>
 Y.elim (λY=>some (.done (D,h))) (λY=>some (.next (Y.1,Y.2.1,wi (k+1),Y.2.2)))) (some (.done (D,h)))
def vZ (h:bG) (a1:(List Int)):Option (Int×(List aP)×Bool×(List Int)):=
(zD (λ(x:Int)=>jE a1 h x) (min h.bU (a1.length:Int))).bind λ(O:Int)=>
 cond (decide (O=0)) ((yA a1 (0:Int)).bind λH=>
(xQ h H).bind λK=>
 some (1,K,false,a1)) ((zD (λ(x:Int×Int×Int×(List Int))=>kQ h x.1 x.2.1 x.2.2.1 x.2.2.2) (O,0,O,a1)).bind λ(G:Int×(List Int))=>
(slc G.2 0 G.1).bind λk=>
(j9 h k).bind λD=>
 some (G.1,D.1,true,G.2))
def xS (K:bG) (h:(List aP)) (D:(List Int)):Option (Stp ((List aP)×(List Int)) (((List aP)))):=
 cond (decide (0<(D.length:Int))) ((vZ K D).bind λH=>
(app h H.2.1).bind λk=>
(slc H.2.2.2 H.1 (H.2.2.2.length)).bind λG=>
 some (.next (k,G))) (some (.done h))
def kD (G:Norm) (a1:Collation) (a2:(List Int)):Option ((List aP)):=
(zD9 a1).bind λh=>
(uW h G).bind λk=>
(vK G a2 false).bind λD=>
(zD (λ(x:(List aP)×(List Int))=>xS k x.1 x.2) ([],D)).bind λ(H:(List aP))=>
 some H
def zE2 (h:Options):Option (Int):=
(pv (decide (h.aJ<1))).bind λk=>
 cond (k ||(decide (4<h.aJ))) (some 1) ((cond (decide (h.aD=1)) (some (decide (h.aD=1))) (cond (decide (h.aD=2)) (some (decide (h.aD=2))) (some (decide (h.aD=3))))).bind λ(D:Bool)=>
 cond D (some 0) (some 8))
def zAB (h:Options):Option (Options):=
(zE2 h).bind λk=>
 cond (!decide (k=0)) (some ({aJ:=3,aD:=1,aQ:=false,aT:=false}:Options)) (some h)
def zAM (h:aP) (a1:Int) (a2:Bool):Option (bC×Bool):=
(cond (!decide (({x0:=({x0:=h.aS,x1:=h.aL,x2:=h.aO,x3:=0}:bC).x0,x1:=({x0:=h.aS,x1:=h.aL,x2:=h.aO,x3:=0}:bC).x1,x2:=({x0:=h.aS,x1:=h.aL,x2:=h.aO,x3:=0}:bC).x2,x3:=({x0:=h.aS,x1:=h.aL,x2:=h.aO,x3:=0}:bC).x3}:bC)=({x0:=0,x1:=0,x2:=0,x3:=0}:bC))) (some 65535) (some (({x0:=h.aS,x1:=h.aL,x2:=h.aO,x3:=0}:bC).x3))).bind λ(D:Int)=>
 cond (decide (a1=1)) (some (({x0:=({x0:=h.aS,x1:=h.aL,x2:=h.aO,x3:=0}:bC).x0,x1:=({x0:=h.aS,x1:=h.aL,x2:=h.aO,x3:=0}:bC).x1,x2:=({x0:=h.aS,x1:=h.aL,x2:=h.aO,x3:=0}:bC).x2,x3:=D}:bC),a2)) ((cond h.aD (some (({x0:=0,x1:=0,x2:=0,x3:=h.aS}:bC).x0,({x0:=0,x1:=0,x2:=0,x3:=h.aS}:bC).x1,({x0:=0,x1:=0,x2:=0,x3:=h.aS}:bC).x2,({x0:=0,x1:=0,x2:=0,x3:=h.aS}:bC).x3,true)) (cond (!decide (h.aS=0)) (some (({x0:=h.aS,x1:=h.aL,x2:=h.aO,x3:=0}:bC).x0,({x0:=h.aS,x1:=h.aL,x2:=h.aO,x3:=0}:bC).x1,({x0:=h.aS,x1:=h.aL,x2:=h.aO,x3:=0}:bC).x2,D,false)) (cond a2 (some (({x0:=0,x1:=0,x2:=0,x3:=0}:bC).x0,({x0:=0,x1:=0,x2:=0,x3:=0}:bC).x1,({x0:=0,x1:=0,x2:=0,x3:=0}:bC).x2,({x0:=0,x1:=0,x2:=0,x3:=0}:bC).x3,a2)) (some (({x0:=h.aS,x1:=h.aL,x2:=h.aO,x3:=0}:bC).x0,({x0:=h.aS,x1:=h.aL,x2:=h.aO,x3:=0}:bC).x1,({x0:=h.aS,x1:=h.aL,x2:=h.aO,x3:=0}:bC).x2,D,a2))))).bind λ(k:Int×Int×Int×Int×Bool)=>
(cond (decide (a1=2)) (some 0) (some k.2.2.2.1)).bind λ(G:Int)=>
 some (({x0:=k.1,x1:=k.2.1,x2:=k.2.2.1,x3:=G}:bC),k.2.2.2.2))
def zD0 (h:Int):Option (Unit):=
 some ()
def xC (G:Int) (H:Int) (k:(List Int)):Option (Stp (Int×Int×(List Int)) (((List Int)))):=
 cond (decide (G<H)) ((yA k H).bind λK=>
(yA k G).bind λO=>
(yA k G).bind λT=>
(zA9 k G K).bind λh=>
(yA h H).bind λY=>
(zA9 h H O).bind λD=>
 some (.next (wi (G+1),wi (H-1),D))) (some (.done k))
def wJ (h:(List Int)):Option ((List Int)):=
(zD (λ(x:Int×Int×(List Int))=>xC x.1 x.2.1 x.2.2) (0,wi ((h.length:Int)-1),h)).bind λ(k:(List Int))=>
 some k
def xD (h:bC×Bool) (aa:Int) (k:(List Int)) (D:(List Int)) (G:(List Int)) (H:(List Int)):Option (Stp (Int×(List Int)×(List Int)×(List Int)×(List Int)) (((List Int)×(List Int)×(List Int)×(List Int)))):=
 cond (decide (aa=0)) (((yA [h.1.x0,h.1.x1,h.1.x2,h.1.x3] (0:Int)).bind λK=>
 cond (!decide (K=0)) ((app k [K]).bind λT=>
 some T) (some k)).bind λ(y3:(List Int))=>
 some (.next (wi ((0:Int)+1),y3,D,G,H))) (cond (decide (aa=1)) (((yA [h.1.x0,h.1.x1,h.1.x2,h.1.x3] (1:Int)).bind λK=>
 cond (!decide (K=0)) ((app D [K]).bind λY=>
 some Y) (some D)).bind λ(y5:(List Int))=>
 some (.next (wi ((1:Int)+1),k,y5,G,H))) (cond (decide (aa=2)) (((yA [h.1.x0,h.1.x1,h.1.x2,h.1.x3] (2:Int)).bind λK=>
 cond (!decide (K=0)) ((app G [K]).bind λZ=>
 some Z) (some G)).bind λ(y7:(List Int))=>
 some (.next (wi ((2:Int)+1),k,D,y7,H))) (cond (decide (aa=3)) (((yA [h.1.x0,h.1.x1,h.1.x2,h.1.x3] (3:Int)).bind λK=>
 cond (!decide (K=0)) ((app H [K]).bind λO=>
 some O) (some H)).bind λ(y9:(List Int))=>
 some (.next (wi ((3:Int)+1),k,D,G,y9))) (cond (decide (aa=4)) (some (.done (k,D,G,H))) (none)))))
def uI (a0:(List aP)) (Y:Options) (K:Int) (h:Bool) (k:(List Int)) (D:(List Int)) (G:(List Int)) (H:(List Int)):Option (Stp (Int×Bool×(List Int)×(List Int)×(List Int)×(List Int)) (((List Int)×(List Int)×(List Int)×(List Int)))):=
 cond (decide (K<(a0.length:Int))) ((yA a0 K).bind λZ=>
(zAM Z Y.aD h).bind λO=>
(zD (λ(x:Int×(List Int)×(List Int)×(List Int)×(List Int))=>xD O x.1 x.2.1 x.2.2.1 x.2.2.2.1 x.2.2.2.2) (0,k,D,G,H)).bind λ(T:(List Int)×(List Int)×(List Int)×(List Int))=>
 some (.next (wi (K+1),O.2,T.1,T.2.1,T.2.2.1,T.2.2.2))) (some (.done (k,D,G,H)))
def vV (O:(List aP)) (a1:Options):Option ((List (List Int))):=
(zAB ({aJ:=a1.aJ,aD:=a1.aD,aQ:=a1.aQ,aT:=a1.aT}:Options)).bind λD=>
(zD0 D.aD).bind λT=>
(zD (λ(x:Int×Bool×(List Int)×(List Int)×(List Int)×(List Int))=>uI O D x.1 x.2.1 x.2.2.1 x.2.2.2.1 x.2.2.2.2.1 x.2.2.2.2.2) (0,false,[],[],[],[])).bind λ(h:(List Int)×(List Int)×(List Int)×(List Int))=>
(cond D.aQ ((wJ h.2.1).bind λH=>
 some H) (some h.2.1)).bind λ(G:(List Int))=>
(slc [({x0:=h.1,x1:=G,x2:=h.2.2.1,x3:=h.2.2.2}:b4).x0,({x0:=h.1,x1:=G,x2:=h.2.2.1,x3:=h.2.2.2}:b4).x1,({x0:=h.1,x1:=G,x2:=h.2.2.1,x3:=h.2.2.2}:b4).x2,({x0:=h.1,x1:=G,x2:=h.2.2.1,x3:=h.2.2.2}:b4).x3] 0 D.aJ).bind λK=>
(app [] K).bind λk=>
 some k
def jK (G:(List (List Int))) (a1:(List Int)->Option (Bool)) (h:Int):Option (Stp (Int) ((Unit)⊕(Int))):=
 cond (decide (h<(G.length:Int))) ((yA G h).bind λk=>
(a1 k).bind λD=>
 cond D (some (.done (.inr (h)))) (some (.next (wi (h+1))))) (some (.done (.inl (()))))
def vL (k:(List (List Int))) (a1:(List Int)->Option (Bool)):Option (Int):=
(zD (λ(x:Int)=>jK k a1 x) 0).bind λ(h:(Unit)⊕(Int))=>
 h.elim (λh=>some (-1)) (λh=>some h)
def jL (h:(List (List Int))) (a1:(List Int)->Option (Bool)):Option (Bool):=
(vL h a1).bind λk=>
 some (decide (0<=k))
def zBD (h:(List Int)):Option (Bool):=
 some (decide (0<(h.length:Int)))
def kA (G:(List aP)) (a1:(List aP)) (h:Int):Option (Stp (Int) ((Unit)⊕(Bool))):=
 cond (decide (h<(G.length:Int))) ((yA G h).bind λk=>
(yA a1 h).bind λD=>
 cond (!decide (k=D)) (some (.done (.inr (false)))) (some (.next (wi (h+1))))) (some (.done (.inl (()))))
def yI (k:(List aP)) (a1:(List aP)):Option (Bool):=
 cond (!decide ((k.length:Int)=(a1.length:Int))) (some false) ((zD (λ(x:Int)=>kA k a1 x) 0).bind λ(h:(Unit)⊕(Bool))=>
 h.elim (λh=>some true) (λh=>some h))
def vR (G:(List aP)) (a2:Options) (h:Int) (k:(List Int)):Option (Stp (Int×(List Int)) (((List Int)))):=
 cond (decide (h<(G.length:Int))) ((yA k h).bind λH=>
(slc G h (wi (h+1))).bind λK=>
(vV K a2).bind λO=>
(yA O (0:Int)).bind λT=>
(yA k (wi (h+1))).bind λY=>
(zA9 k (wi (h+1)) (wi (H+(T.length:Int)))).bind λD=>
 some (.next (wi (h+1),D))) (some (.done k))
def vS (a5:(List Int)) (a4:(List Int)) (a0:Norm) (a1:Collation) (k:(List aP)) (Y:Int) (O:(List (Int×Int))) (T:(List (Int×Int))):Option (Stp (Int×(List (Int×Int))×(List (Int×Int))) (((List (Int×Int))×(List (Int×Int))))):=
 cond (decide (Y<(a5.length:Int))) (((yA a5 Y).bind λh=>
(slc a4 0 h).bind λag=>
(kD a0 a1 ag).bind λH=>
(slc a4 h (a4.length)).bind λah=>
(kD a0 a1 ah).bind λK=>
(pv (decide ((H.length:Int)<=(k.length:Int)))).bind λD=>
(gM D (slc k 0 (H.length:Int))).bind λZ=>
(gM D (yI H Z)).bind λaa=>
(cond (D&&aa) (some (w7 (w7 O h (-1)) h (H.length:Int))) (some (w7 O h (-1)))).bind λ(y5:(List (Int×Int)))=>
(pv (decide ((K.length:Int)<=(k.length:Int)))).bind λG=>
(gM G (slc k (wi ((k.length:Int)-(K.length:Int))) (k.length))).bind λab=>
(gM G (yI K ab)).bind λac=>
 cond (G&&ac) (some (y5,w7 (w7 T h (-1)) h (K.length:Int))) (some (y5,w7 T h (-1)))).bind λ(y4:(List (Int×Int))×(List (Int×Int)))=>
 some (.next (wi (Y+1),y4.1,y4.2))) (some (.done (O,T)))
def zCS (k:Norm) (a1:Collation) (a2:Options) (a3:(List Int)) (G:(List Int)) (Y:(List Int)):Option ((Option bQ)):=
(kD k a1 a3).bind λK=>
(vV K a2).bind λD=>
(jL D (λx0=>zBD x0)).bind λO=>
 cond (!O) (some none) ((kD k a1 G).bind λh=>
(mkM 0 (wi ((h.length:Int)+1))).bind λH=>
(zD (λ(x:Int×(List Int))=>vR h a2 x.1 x.2) (0,H)).bind λ(Z:(List Int))=>
(zD (λ(x:Int×(List (Int×Int))×(List (Int×Int)))=>vS Y G k a1 h x.1 x.2.1 x.2.2) (0,[],[])).bind λ(T:(List (Int×Int))×(List (Int×Int)))=>
 some (some ({norm:=({aK:=k.aK,aA:=k.aA,aN:=({Ranges:=k.aN.Ranges}:Set)}:Norm),bZ:=({aB:=a1.aB,aE:=a1.aE,bK:=a1.bK,bA:=a1.bA,bJ:=a1.bJ}:Collation),cC:=({aJ:=a2.aJ,aD:=a2.aD,aQ:=a2.aQ,aT:=a2.aT}:Options),text:=G,wanted:=D,bX:=h,b8:=Z,b9:=T.1,b6:=T.2}:bQ)))
def xE (K:(List Int)) (a1:(List Int)) (items:(List (Range))) (k:Bool) (H:Int) (h:Nat):Option (Stp (Int×Nat) ((Nat)⊕(Nat))):=
 cond (decide (H<(K.length:Int))) ((yA K H).bind λD=>
(yA a1 (0:Int)).bind λG=>
(yM items h ({Lo:=G,Hi:=D}:Range)).bind λO=>
 cond (!(goB k items.length h)) (some (.done (.inr (h+1)))) (some (.next (wi (H+1),h+1)))) (some (.done (.inl (h))))
def zAN (items:List (Range)) (h:Bool) (a1:(List Int)):Option Unit:=
(slc a1 1 (a1.length)).bind λD=>
(zD (λ(x:Int×Nat)=>xE D a1 items h x.1 x.2) (0,0)).bind λ(k:(Nat)⊕(Nat))=>
 k.elim (λk=>zVX items k) (λk=>zVX items k)
def kW (H:(List (List Int))) (a1:(List (List Int))) (a2:(List Int)->(List Int)->Option (Bool)) (h:Int):Option (Stp (Int) ((Unit)⊕(Bool))):=
 cond (decide (h<(H.length:Int))) ((yA H h).bind λk=>
(yA a1 h).bind λD=>
(a2 k D).bind λG=>
 cond (!G) (some (.done (.inr (false)))) (some (.next (wi (h+1))))) (some (.done (.inl (()))))
def jP (k:(List (List Int))) (a1:(List (List Int))) (a2:(List Int)->(List Int)->Option (Bool)):Option (Bool):=
 cond (!decide ((k.length:Int)=(a1.length:Int))) (some false) ((zD (λ(x:Int)=>kW k a1 a2 x) 0).bind λ(h:(Unit)⊕(Bool))=>
 h.elim (λh=>some true) (λh=>some h))
def xZ (G:(List Int)) (a1:(List Int)) (h:Int):Option (Stp (Int) ((Unit)⊕(Bool))):=
 cond (decide (h<(G.length:Int))) ((yA G h).bind λk=>
(yA a1 h).bind λD=>
 cond (!decide (k=D)) (some (.done (.inr (false)))) (some (.next (wi (h+1))))) (some (.done (.inl (()))))
def xA (k:(List Int)) (a1:(List Int)):Option (Bool):=
 cond (!decide ((k.length:Int)=(a1.length:Int))) (some false) ((zD (λ(x:Int)=>xZ k a1 x) 0).bind λ(h:(Unit)⊕(Bool))=>
 h.elim (λh=>some true) (λh=>some h))
def xT (h:bQ) (a1:Range):Option (Bool):=
(pv (decide ((mgetD h.b9 a1.Lo 0)<0))).bind λO=>
(pv (O ||(decide ((mgetD h.b6 a1.Hi 0)<0)))).bind λT=>
(pv (T ||(decide ((wi ((h.bX.length:Int)-(mgetD h.b6 a1.Hi 0)))<(mgetD h.b9 a1.Lo 0))))).bind λk=>
(gM (!k) (yA h.b8 (wi ((h.bX.length:Int)-(mgetD h.b6 a1.Hi 0))))).bind λY=>
(gM (!k) (yA h.b8 (mgetD h.b9 a1.Lo 0))).bind λZ=>
(gM (!k) (yA h.wanted (0:Int))).bind λaa=>
 cond (k ||(!decide ((wi (Y-Z))=(aa.length:Int)))) (some false) ((slc h.bX (mgetD h.b9 a1.Lo 0) (wi ((h.bX.length:Int)-(mgetD h.b6 a1.Hi 0)))).bind λK=>
(vV K h.cC).bind λab=>
(jP ab h.wanted (λx0 x1=>xA x0 x1)).bind λac=>
 cond (!ac) (some false) ((slc h.text a1.Lo a1.Hi).bind λD=>
(kD h.norm h.bZ D).bind λG=>
(yI K G).bind λH=>
 some H))
def j8 (H:bQ) (h:(List Range)) (G:Range):Option (Bool×((List Range))):=
(xT H G).bind λD=>
 cond D ((app h [G]).bind λk=>
 some (false,k)) (some (true,h))
def zCA (k:(List Int)) (K:bQ) (G:Int) (h:(List Range)):Option (Stp (Int×(List Range)) (((List Range)))):=
 cond (decide (G<(k.length:Int))) (((slc k G (k.length)).bind λD=>
(zMC (λ(s:(List Range)) (x:Range)=>j8 K s x) h (zVZ (λa b=>({Lo:=a,Hi:=b}:Range)) D)).bind λ(H:Nat×Bool×((List Range)))=>
(zAN ((zVZ (λa b=>({Lo:=a,Hi:=b}:Range)) D).take H.1) (!H.2.1) D).bind λO=>
 cond H.2.1 (some H.2.2) (some H.2.2)).bind λ(T:(List Range))=>
 some (.next (wi (G+1),T))) (some (.done h))
def zDD (G:Norm) (a1:Collation) (a2:Options) (a3:(List Int)) (D:(List Int)) (H:(List Int)):Option ((List Range)):=
(zCL H (D.length:Int)).bind λh=>
(zCS G a1 a2 a3 D h).bind λk=>
 Option.elim k (some []) (λK=>
(zD (λ(x:Int×(List Range))=>zCA h K x.1 x.2) (0,[])).bind λ(O:(List Range))=>
 some O)
def zJF (H:(List Range)) (K:Int) (G:Int) (h:(List Range)):Option (Stp (Int×Int×(List Range)) (((List Range)))):=
 cond (decide (G<(H.length:Int))) (((yA H G).bind λD=>
 cond (decide (K<=D.Lo)) ((app h [D]).bind λk=>
 some (D.Hi,k)) (some (K,h))).bind λ(O:Int×(List Range))=>
 some (.next (O.1,wi (G+1),O.2))) (some (.done h))
def wD (k:Norm) (a1:Collation) (a2:Options) (a3:(List Int)) (D:(List Int)) (G:(List Int)):Option ((List Range)):=
(zDD k a1 a2 a3 D G).bind λh=>
(zD (λ(x:Int×Int×(List Range))=>zJF h x.1 x.2.1 x.2.2) (0,0,[])).bind λ(H:(List Range))=>
 some H
def zF0 (H:(List Range)) (Y:(List Int)) (Z:(List Int)) (O:Int) (G:Int) (h:(List Int)):Option (Stp (Int×Int×(List Int)) ((Int×(List Int)))):=
 cond (decide (G<(H.length:Int))) ((yA H G).bind λK=>
(slc Y O K.Lo).bind λT=>
(app h T).bind λk=>
(app k Z).bind λD=>
 some (.next (K.Hi,wi (G+1),D))) (some (.done (O,h)))
def uX (K:Norm) (a1:Collation) (a2:Options) (a3:(List Int)) (k:(List Int)) (O:(List Int)) (T:(List Int)):Option ((List Int)):=
(wD K a1 a2 a3 k T).bind λD=>
(zD (λ(x:Int×Int×(List Int))=>zF0 D k O x.1 x.2.1 x.2.2) (0,0,[])).bind λ(H:Int×(List Int))=>
(slc k H.1 (k.length)).bind λG=>
(app H.2 G).bind λh=>
 some h
def zDQ (G:(List Range)) (a1:(List Range)) (h:Int):Option (Stp (Int) ((Unit)⊕(Bool))):=
 cond (decide (h<(G.length:Int))) ((yA G h).bind λk=>
(yA a1 h).bind λD=>
 cond (!decide (k=D)) (some (.done (.inr (false)))) (some (.next (wi (h+1))))) (some (.done (.inl (()))))
def zBE (k:(List Range)) (a1:(List Range)):Option (Bool):=
 cond (!decide ((k.length:Int)=(a1.length:Int))) (some false) ((zD (λ(x:Int)=>zDQ k a1 x) 0).bind λ(h:(Unit)⊕(Bool))=>
 h.elim (λh=>some true) (λh=>some h))
def zA5 (k:(List Int)) (a1:(List Int)) (h:Int):Option (Stp (Int) ((Unit)⊕(Int))):=
(pv (decide (h<(k.length:Int)))).bind λD=>
 cond (D&&(decide (h<(a1.length:Int)))) ((yA k h).bind λG=>
(yA a1 h).bind λH=>
 cond (decide (G<H)) (some (.done (.inr ((-1))))) ((yA k h).bind λK=>
(yA a1 h).bind λO=>
 cond (decide (O<K)) (some (.done (.inr (1)))) (some (.next (wi (h+1)))))) (some (.done (.inl (()))))
def zDR (k:(List Int)) (a1:(List Int)):Option (Int):=
(zD (λ(x:Int)=>zA5 k a1 x) 0).bind λ(h:(Unit)⊕(Int))=>
 h.elim (λh=>cond (decide ((k.length:Int)<(a1.length:Int))) (some (-1)) (cond (decide ((a1.length:Int)<(k.length:Int))) (some 1) (some 0))) (λh=>some h)
def vW (h:(List Int)) (a1:(List Int)):Option (Bool):=
(zDR h a1).bind λk=>
 some (decide (k=0))
def zCT (H:(List (List Int))) (G:Int) (h:(List Int)):Option (Stp (Int×(List Int)) (((List Int)))):=
 cond (decide (G<(H.length:Int))) ((yA H G).bind λK=>
(cond (decide (0<G)) ((app h [0]).bind λk=>
 some k) (some h)).bind λ(O:(List Int))=>
(app O K).bind λD=>
 some (.next (wi (G+1),D))) (some (.done h))
def zCU (H:(List Int)) (G:Int) (h:(List Int)):Option (Stp (Int×(List Int)) (((List Int)))):=
 cond (decide (G<(H.length:Int))) (((yA H G).bind λD=>
(pv (decide (0<=D))).bind λK=>
 cond (K&&(decide (D<=1114111))) ((app h [wi (D+1)]).bind λk=>
 some k) (some h)).bind λ(O:(List Int))=>
 some (.next (wi (G+1),O))) (some (.done h))
def zHR (K:Norm) (a1:Collation) (a2:Options) (a3:(List Int)):Option ((List Int)):=
(zAB ({aJ:=a2.aJ,aD:=a2.aD,aQ:=a2.aQ,aT:=a2.aT}:Options)).bind λk=>
(kD K a1 a3).bind λD=>
(vV D ({aJ:=k.aJ,aD:=k.aD,aQ:=k.aQ,aT:=k.aT}:Options)).bind λG=>
(zD (λ(x:Int×(List Int))=>zCT G x.1 x.2) (0,[])).bind λ(O:(List Int))=>
 cond (!k.aT) (some O) ((app O [0]).bind λh=>
(vK K a3 false).bind λH=>
(zD (λ(x:Int×(List Int))=>zCU H x.1 x.2) (0,h)).bind λ(T:(List Int))=>
 some T)
def zBF (k:Norm) (a1:Collation) (a2:Options) (a3:(List Int)) (D:Int):Option ((List Int)):=
(zHR k a1 ({aJ:=D,aD:=a2.aD,aQ:=a2.aQ,aT:=false}:Options) a3).bind λh=>
 some h
def jW (G:(List Int)) (a1:Int->Option (Bool)) (h:Int):Option (Stp (Int) ((Unit)⊕(Int))):=
 cond (decide (h<(G.length:Int))) ((yA G h).bind λk=>
(a1 k).bind λD=>
 cond D (some (.done (.inr (h)))) (some (.next (wi (h+1))))) (some (.done (.inl (()))))
def uN (k:(List Int)) (a1:Int->Option (Bool)):Option (Int):=
(zD (λ(x:Int)=>jW k a1 x) 0).bind λ(h:(Unit)⊕(Int))=>
 h.elim (λh=>some (-1)) (λh=>some h)
def xV (h:(List Int)) (a1:Int->Option (Bool)):Option (Bool):=
(uN h a1).bind λk=>
 some (decide (0<=k))
def zF1 (h:Int):Option (Bool):=
 some (!decide (h=0))
def vM (K:Norm) (a1:Collation) (a2:Options) (a3:(List Int)) (O:(List Int)):Option (Bool):=
(zBF K a1 a2 a3 a2.aJ).bind λk=>
(zBF K a1 a2 O a2.aJ).bind λD=>
(xV k (λx0=>zF1 x0)).bind λG=>
(pv G).bind λh=>
(gM h (xA k D)).bind λH=>
 some (h&&H)
def yK (G:(List (List aP))) (D:Int) (h:Int):Option (Stp (Int×Int) ((Int))):=
 cond (decide (h<(G.length:Int))) (((yA G h).bind λk=>
 cond (decide ((wi (D+(k.length:Int)))<0)) (none) (some (wi (D+(k.length:Int))))).bind λ(H:Int)=>
 some (.next (H,wi (h+1)))) (some (.done D))
def yZ (H:(List (List aP))) (D:Int) (h:(List aP)):Option (Stp (Int×(List aP)) (((List aP)))):=
 cond (decide (D<(H.length:Int))) ((yA H D).bind λG=>
(app h G).bind λk=>
 some (.next (wi (D+1),k))) (some (.done h))
def jB (h:(List (List aP))):Option ((List aP)):=
(zD (λ(x:Int×Int)=>yK h x.1 x.2) (0,0)).bind λ(D:Int)=>
(z3Z D).bind λk=>
(zD (λ(x:Int×(List aP))=>yZ h x.1 x.2) (0,[])).bind λ(G:(List aP))=>
 some G
def wW (h:Norm) (a1:Collation) (a2:(List Int)) (a3:Range):Option (Bool):=
(pv (decide (a3.Lo<0))).bind λk=>
(pv (k ||(decide (a3.Hi<a3.Lo)))).bind λD=>
 cond (D ||(decide ((a2.length:Int)<a3.Hi))) (some false) ((slc a2 0 a3.Lo).bind λG=>
(kD h a1 G).bind λH=>
(slc a2 a3.Lo a3.Hi).bind λK=>
(kD h a1 K).bind λO=>
(slc a2 a3.Hi (a2.length)).bind λT=>
(kD h a1 T).bind λY=>
(jB [H,O,Y]).bind λZ=>
(kD h a1 a2).bind λaa=>
(yI Z aa).bind λab=>
 some ab)
def zAT:Option (Bool):=
(zHE).bind λh=>
(wD ({aK:=({aK:=[],aA:=[],aN:=(({Ranges:=[]}):Set)}:Norm).aK,aA:=({aK:=[],aA:=[],aN:=(({Ranges:=[]}):Set)}:Norm).aA,aN:=({Ranges:=(({aK:=[],aA:=[],aN:=(({Ranges:=[]}):Set)}:Norm).aN).Ranges}:Set)}:Norm) h ({aJ:=1,aD:=1,aQ:=false,aT:=false}:Options) [65] [97,769,98,65] [0,2,3,4]).bind λY=>
(zDD ({aK:=({aK:=[],aA:=[],aN:=(({Ranges:=[]}):Set)}:Norm).aK,aA:=({aK:=[],aA:=[],aN:=(({Ranges:=[]}):Set)}:Norm).aA,aN:=({Ranges:=(({aK:=[],aA:=[],aN:=(({Ranges:=[]}):Set)}:Norm).aN).Ranges}:Set)}:Norm) h ({aJ:=1,aD:=1,aQ:=false,aT:=false}:Options) [65] [97,769,98,65] [0,1,2,3,4]).bind λZ=>
(uX ({aK:=({aK:=[],aA:=[],aN:=(({Ranges:=[]}):Set)}:Norm).aK,aA:=({aK:=[],aA:=[],aN:=(({Ranges:=[]}):Set)}:Norm).aA,aN:=({Ranges:=(({aK:=[],aA:=[],aN:=(({Ranges:=[]}):Set)}:Norm).aN).Ranges}:Set)}:Norm) h ({aJ:=1,aD:=1,aQ:=false,aT:=false}:Options) [65] [97,769,98,65] [120] [0,2,3,4]).bind λaa=>
(zBE Y [({Lo:=0,Hi:=2}:Range),({Lo:=3,Hi:=4}:Range)]).bind λab=>
(pv ab).bind λk=>
(gM k (zBE Z [({Lo:=0,Hi:=1}:Range),({Lo:=3,Hi:=4}:Range)])).bind λac=>
(pv (k&&ac)).bind λD=>
(gM D (vW aa [120,98,120])).bind λad=>
(pv (D&&ad)).bind λG=>
(gM G (vM ({aK:=({aK:=[],aA:=[],aN:=(({Ranges:=[]}):Set)}:Norm).aK,aA:=({aK:=[],aA:=[],aN:=(({Ranges:=[]}):Set)}:Norm).aA,aN:=({Ranges:=(({aK:=[],aA:=[],aN:=(({Ranges:=[]}):Set)}:Norm).aN).Ranges}:Set)}:Norm) h ({aJ:=1,aD:=1,aQ:=false,aT:=false}:Options) [97] [65])).bind λag=>
(pv (G&&ag)).bind λH=>
(gM H (vM ({aK:=({aK:=[],aA:=[],aN:=(({Ranges:=[]}):Set)}:Norm).aK,aA:=({aK:=[],aA:=[],aN:=(({Ranges:=[]}):Set)}:Norm).aA,aN:=({Ranges:=(({aK:=[],aA:=[],aN:=(({Ranges:=[]}):Set)}:Norm).aN).Ranges}:Set)}:Norm) h ({aJ:=1,aD:=1,aQ:=false,aT:=false}:Options) [] [])).bind λah=>
(pv (H&&(!ah))).bind λK=>
(gM K (wW ({aK:=({aK:=[],aA:=[],aN:=(({Ranges:=[]}):Set)}:Norm).aK,aA:=({aK:=[],aA:=[],aN:=(({Ranges:=[]}):Set)}:Norm).aA,aN:=({Ranges:=(({aK:=[],aA:=[],aN:=(({Ranges:=[]}):Set)}:Norm).aN).Ranges}:Set)}:Norm) h [97,769,98,65] ({Lo:=1,Hi:=2}:Range))).bind λai=>
(pv (K&&ai)).bind λO=>
(gM O (wW ({aK:=({aK:=[],aA:=[],aN:=(({Ranges:=[]}):Set)}:Norm).aK,aA:=({aK:=[],aA:=[],aN:=(({Ranges:=[]}):Set)}:Norm).aA,aN:=({Ranges:=(({aK:=[],aA:=[],aN:=(({Ranges:=[]}):Set)}:Norm).aN).Ranges}:Set)}:Norm) h [97,769,98,65] ({Lo:=2,Hi:=1}:Range))).bind λaj=>
(pv (O&&(!aj))).bind λT=>
(gM T (wD ({aK:=({aK:=[],aA:=[],aN:=(({Ranges:=[]}):Set)}:Norm).aK,aA:=({aK:=[],aA:=[],aN:=(({Ranges:=[]}):Set)}:Norm).aA,aN:=({Ranges:=(({aK:=[],aA:=[],aN:=(({Ranges:=[]}):Set)}:Norm).aN).Ranges}:Set)}:Norm) h ({aJ:=1,aD:=1,aQ:=false,aT:=false}:Options) [769] [97,769,98,65] [1,2])).bind λak=>
 some (T&&(decide ((ak.length:Int)=0)))
def vB (h:Int):Option (Bool):=
(pv (decide (0<=h))).bind λk=>
 some (k&&(decide (h<=1114111)))
def zIT:Option ((List Range)):=
 some [({Lo:=4352,Hi:=4370}:Range),({Lo:=4449,Hi:=4469}:Range),({Lo:=4520,Hi:=4546}:Range),({Lo:=44032,Hi:=55203}:Range)]
def zCV (k:(List bM)) (h:Int):Option (Stp (Int) ((Unit)⊕(Int))):=
 cond (decide (h<(k.length:Int))) ((yA k h).bind λO=>
(vB O.Lo).bind λT=>
(pv (!T)).bind λD=>
(gM (!D) (yA k h)).bind λY=>
(gM (!D) (vB Y.Hi)).bind λZ=>
(pv (D ||(!Z))).bind λG=>
(gM (!G) (yA k h)).bind λaa=>
(gM (!G) (yA k h)).bind λab=>
(pv (G ||(decide (ab.Hi<aa.Lo)))).bind λH=>
(gM (!H) (yA k h)).bind λac=>
(pv (H ||(decide (ac.Value<1)))).bind λK=>
(gM (!K) (yA k h)).bind λad=>
 cond (K ||(decide (254<ad.Value))) (some (.done (.inr (1)))) (some (.next (wi (h+1))))) (some (.done (.inl (()))))
def zCW (D:(List bM)) (k:Int):Option (Stp (Int) ((Unit)⊕(Int))):=
 cond (decide (k<(D.length:Int))) ((yA D k).bind λK=>
(yA D (wi (k-1))).bind λO=>
(pv (decide (K.Lo<=O.Hi))).bind λh=>
(gM (!h) (yA D k)).bind λT=>
(gM (!h) (yA D (wi (k-1)))).bind λY=>
(pv (decide (T.Lo=(wi (Y.Hi+1))))).bind λG=>
(gM (!h&&G) (yA D k)).bind λZ=>
(gM (!h&&G) (yA D (wi (k-1)))).bind λH=>
 cond (h ||(G&&(decide (Z.Value=H.Value)))) (some (.done (.inr (4)))) (some (.next (wi (k+1))))) (some (.done (.inl (()))))
def uY (k:(List Range)) (T:(List bM)) (Y:Int) (O:Int):Option (Stp (Int) ((Unit)⊕(Int))):=
 cond (decide (O<(k.length:Int))) ((yA T Y).bind λD=>
(yA k O).bind λG=>
(pv (decide (D.Lo<=G.Hi))).bind λh=>
(gM h (yA k O)).bind λH=>
(gM h (yA T Y)).bind λK=>
 cond (h&&(decide (H.Lo<=K.Hi))) (some (.done (.inr (11)))) (some (.next (wi (O+1))))) (some (.done (.inl (()))))
def zCX (G:(List bM)) (h:(List Range)) (D:Int):Option (Stp (Int) ((Unit)⊕(Int))):=
 cond (decide (D<(G.length:Int))) ((zD (λ(x:Int)=>uY h G D x) 0).bind λ(k:(Unit)⊕(Int))=>
 k.elim (λk=>some (.next (wi (D+1)))) (λk=>some (.done (.inr (k))))) (some (.done (.inl (()))))
def zFM (H:(List bM)):Option (Int):=
(zD (λ(x:Int)=>zCV H x) 0).bind λ(k:(Unit)⊕(Int))=>
 k.elim (λk=>(zD (λ(x:Int)=>zCW H x) 1).bind λ(D:(Unit)⊕(Int))=>
 D.elim (λD=>(zIT).bind λh=>
(zD (λ(x:Int)=>zCX H h x) 0).bind λ(G:(Unit)⊕(Int))=>
 G.elim (λG=>some 0) (λG=>some G)) (λD=>some D)) (λk=>some k)
def zCY (G:aH) (D:Int):Option (Stp (Int) ((Unit)⊕(Bool))):=
 cond (decide (D<(G.To.length:Int))) ((yA G.To D).bind λh=>
(vB h).bind λk=>
 cond (!k) (some (.done (.inr (false)))) (some (.next (wi (D+1))))) (some (.done (.inl (()))))
def zHS (D:aH):Option (Bool):=
(zD (λ(x:Int)=>zCY D x) 0).bind λ(h:(Unit)⊕(Bool))=>
 h.elim (λh=>(vB D.aW).bind λk=>
 some k) (λh=>some h)
def zHF (Y:Str) (T:Int):Option (Stp (Int) ((Unit)⊕(Bool))):=
 cond (decide (T<(Y.length:Int))) ((z29 Y T).bind λh=>
(pv (decide (65<=h))).bind λk=>
(pv (k&&(decide (h<=90)))).bind λD=>
(pv (decide (97<=h))).bind λG=>
(pv (D ||(G&&(decide (h<=122))))).bind λH=>
(pv (decide (48<=h))).bind λK=>
(pv (H ||(K&&(decide (h<=57))))).bind λO=>
 cond (!(O ||(decide (h=95)))) (some (.done (.inr (false)))) (some (.next (wi (T+1))))) (some (.done (.inl (()))))
def zGW (k:Str):Option (Bool):=
(zD (λ(x:Int)=>zHF k x) 0).bind λ(h:(Unit)⊕(Bool))=>
 h.elim (λh=>(pv (decide (1<=(k.length:Int)))).bind λD=>
 some (D&&(decide ((k.length:Int)<=32)))) (λh=>some h)
def uZ (T:Int) (k:(List aH)) (D:Int):Option (Stp (Int) ((Unit)⊕(Bool))):=
 cond (decide (D<T)) ((yA k T).bind λG=>
(yA k D).bind λH=>
(pv (decide (G.aW=H.aW))).bind λh=>
(gM h (yA k T)).bind λK=>
(gM h (yA k D)).bind λO=>
 cond (h&&(K.bO==O.bO)) (some (.done (.inr (true)))) (some (.next (wi (D+1))))) (some (.done (.inl (()))))
def zCZ (D:(List aH)) (k:Int):Option (Stp (Int) ((Unit)⊕(Bool))):=
 cond (decide (k<(D.length:Int))) ((zD (λ(x:Int)=>uZ k D x) 0).bind λ(h:(Unit)⊕(Bool))=>
 h.elim (λh=>some (.next (wi (k+1)))) (λh=>some (.done (.inr (h))))) (some (.done (.inl (()))))
def zHT (k:(List aH)):Option (Bool):=
(zD (λ(x:Int)=>zCZ k x) 0).bind λ(h:(Unit)⊕(Bool))=>
 h.elim (λh=>some false) (λh=>some h)
def zAC (G:(List aH)) (D:Int):Option (Stp (Int) ((Unit)⊕(Int))):=
 cond (decide (D<(G.length:Int))) ((yA G D).bind λh=>
(zHS h).bind λk=>
 cond (!k) (some (.done (.inr (1)))) (some (.next (wi (D+1))))) (some (.done (.inl (()))))
def zAD (D:(List aH)) (k:Int):Option (Stp (Int) ((Unit)⊕(Int))):=
 cond (decide (k<(D.length:Int))) ((yA D k).bind λh=>
 cond (decide (64<(h.To.length:Int))) (some (.done (.inr (2)))) (some (.next (wi (k+1))))) (some (.done (.inl (()))))
def zAE (D:(List aH)) (k:Int):Option (Stp (Int) ((Unit)⊕(Int))):=
 cond (decide (k<(D.length:Int))) ((yA D k).bind λG=>
(pv (!(G.bO== []))).bind λh=>
(gM h (yA D k)).bind λH=>
(gM h (zGW H.bO)).bind λK=>
 cond (h&&(!K)) (some (.done (.inr (6)))) (some (.next (wi (k+1))))) (some (.done (.inl (()))))
def zEC (h:(List aH)):Option (Int):=
(zD (λ(x:Int)=>zAC h x) 0).bind λ(k:(Unit)⊕(Int))=>
 k.elim (λk=>(zD (λ(x:Int)=>zAD h x) 0).bind λ(D:(Unit)⊕(Int))=>
 D.elim (λD=>(zD (λ(x:Int)=>zAE h x) 0).bind λ(G:(Unit)⊕(Int))=>
 G.elim (λG=>(zHT h).bind λH=>
 cond H (some 5) (some 0)) (λG=>some G)) (λD=>some D)) (λk=>some k)
def zIU (h:aH) (a1:aH):Option (Bool):=
(pv (decide (h.aW<a1.aW))).bind λk=>
(pv (decide (h.aW=a1.aW))).bind λD=>
 some (k ||(D&&(Op.bytesLess h.bO a1.bO)))
def zC0 (k:(List aH)) (h:Int):Option (Stp (Int) ((Unit)⊕(Int))):=
 cond (decide (h<(k.length:Int))) ((yA k (wi (h-1))).bind λD=>
(yA k h).bind λG=>
(zIU D G).bind λH=>
 cond (!H) (some (.done (.inr (4)))) (some (.next (wi (h+1))))) (some (.done (.inl (()))))
def zHU (k:(List aH)):Option (Int):=
(zEC k).bind λD=>
 cond (!decide (D=0)) (some D) ((zD (λ(x:Int)=>zC0 k x) 1).bind λ(h:(Unit)⊕(Int))=>
 h.elim (λh=>some 0) (λh=>some h))
def j6 (K:(List Int)) (a1:Int) (Z:Bool) (H:Int) (h:(List Int)):Option (Stp (Bool×Int×(List Int)) ((Bool×(List Int)))):=
 cond (decide (H<(K.length:Int))) ((pv (!Z)).bind λG=>
(gM G (yA K H)).bind λO=>
(cond (G&&(decide (a1<=O))) ((yA K H).bind λT=>
 cond (decide (a1<T)) ((app h [a1]).bind λk=>
 some (true,k)) (some (true,h))) (some (Z,h))).bind λ(y2:Bool×(List Int))=>
(yA K H).bind λY=>
(app y2.2 [Y]).bind λD=>
 some (.next (y2.1,wi (H+1),D))) (some (.done (Z,h)))
def zED (D:(List Int)) (a1:Int):Option ((List Int)):=
(zD (λ(x:Bool×Int×(List Int))=>j6 D a1 x.1 x.2.1 x.2.2) (false,0,[])).bind λ(k:Bool×(List Int))=>
(cond (!k.1) ((app k.2 [a1]).bind λh=>
 some h) (some k.2)).bind λ(G:(List Int))=>
 some G
def uO (a1:Set) (T:(List Int)) (D:Int):Option (Stp ((List Int)×Int) (((List Int)))):=
 cond (decide (D<(a1.Ranges.length:Int))) (((yA a1.Ranges D).bind λk=>
(yA a1.Ranges D).bind λh=>
(vB k.Lo).bind λH=>
(cond H ((zED T k.Lo).bind λK=>
 some K) (some T)).bind λ(Y:(List Int))=>
(pv (decide (0<=h.Hi))).bind λG=>
 cond (G&&(decide (h.Hi<1114111))) ((zED Y (wi (h.Hi+1))).bind λO=>
 some O) (some Y)).bind λ(Z:(List Int))=>
 some (.next (Z,wi (D+1)))) (some (.done T))
def zGX (k:(List Int)) (a1:Set):Option ((List Int)):=
(zD (λ(x:(List Int)×Int)=>uO a1 x.1 x.2) (k,0)).bind λ(D:(List Int))=>
(zED D 0).bind λh=>
 some h
def zEK (G:Set) (a1:Int) (D:Int):Option (Stp (Int) ((Unit)⊕(Bool))):=
 cond (decide (D<(G.Ranges.length:Int))) ((vB a1).bind λH=>
(pv H).bind λh=>
(gM h (yA G.Ranges D)).bind λK=>
(pv (h&&(decide (K.Lo<=a1)))).bind λk=>
(gM k (yA G.Ranges D)).bind λO=>
 cond (k&&(decide (a1<=O.Hi))) (some (.done (.inr (true)))) (some (.next (wi (D+1))))) (some (.done (.inl (()))))
def zGY (k:Set) (a1:Int):Option (Bool):=
(zD (λ(x:Int)=>zEK k a1 x) 0).bind λ(h:(Unit)⊕(Bool))=>
 h.elim (λh=>some false) (λh=>some h)
def zKN (G:Int) (a1:Bool) (a2:Bool):Option (Bool):=
 cond (decide (G=1)) ((pv a1).bind λh=>
 some (h ||a2)) (cond (decide (G=2)) ((pv a1).bind λk=>
 some (k&&a2)) ((pv a1).bind λD=>
 some (D&&(!a2))))
def jN (D:(List Int)) (a0:Set) (a1:Set) (a2:Int) (v9:Bool) (k:Int) (h:(List Range)):Option (Stp (Bool×Int×(List Range)) (((List Range)))):=
 cond (decide (k<(D.length:Int))) ((cond (decide ((wi (k+1))<(D.length:Int))) ((yA D (wi (k+1))).bind λY=>
 some (wi (Y-1))) (some 1114111)).bind λ(y2:Int)=>
(yA D k).bind λZ=>
(zGY a0 Z).bind λaa=>
(yA D k).bind λab=>
(zGY a1 ab).bind λac=>
(zKN a2 aa ac).bind λK=>
(pv K).bind λO=>
(cond (O&&v9) ((yA h (wi ((h.length:Int)-1))).bind λad=>
(zA9 h (wi ((h.length:Int)-1)) ({ad with Hi:=y2})).bind λG=>
 some G) (some h)).bind λ(y3:(List Range))=>
(pv K).bind λT=>
(cond (T&&(!v9)) ((yA D k).bind λag=>
(app y3 [({Lo:=ag,Hi:=y2}:Range)]).bind λH=>
 some H) (some y3)).bind λ(y5:(List Range))=>
 some (.next (K,wi (k+1),y5))) (some (.done h))
def zHG (D:Set) (a1:Set) (a2:Int):Option (Set):=
(zGX [] D).bind λh=>
(zGX h a1).bind λk=>
(zD (λ(x:Bool×Int×(List Range))=>jN k D a1 a2 x.1 x.2.1 x.2.2) (false,0,[])).bind λ(G:(List Range))=>
 some ({Ranges:=G}:Set)
def zJG (h:(List Range)):Option (Set):=
(zHG ({Ranges:=h}:Set) ({Ranges:=[]}:Set) 1).bind λk=>
 some k
def zDS (G:Set) (a1:Set) (h:Int):Option (Stp (Int) ((Unit)⊕(Bool))):=
 cond (decide (h<(G.Ranges.length:Int))) ((yA G.Ranges h).bind λk=>
(yA a1.Ranges h).bind λD=>
 cond (!decide (k=D)) (some (.done (.inr (false)))) (some (.next (wi (h+1))))) (some (.done (.inl (()))))
def zJH (k:Set) (a1:Set):Option (Bool):=
 cond (!decide ((k.Ranges.length:Int)=(a1.Ranges.length:Int))) (some false) ((zD (λ(x:Int)=>zDS k a1 x) 0).bind λ(h:(Unit)⊕(Bool))=>
 h.elim (λh=>some true) (λh=>some h))
def zHV (h:Set):Option (Bool):=
(zJG h.Ranges).bind λk=>
(zJH h k).bind λD=>
 some D
def zDT (G:(List aH)) (a1:Int) (a2:Bool) (D:Int):Option (Stp (Int) ((Unit)⊕(Int))):=
 cond (decide (D<(G.length:Int))) ((yA G D).bind λH=>
(pv (decide (H.aW=a1))).bind λh=>
(pv a2).bind λk=>
(gM (h&& !k) (yA G D)).bind λK=>
 cond (h&&(k ||(K.bO== []))) (some (.done (.inr (D)))) (some (.next (wi (D+1))))) (some (.done (.inl (()))))
def zEE (k:(List aH)) (a1:Int) (a2:Bool):Option (Int):=
(zD (λ(x:Int)=>zDT k a1 a2 x) 0).bind λ(h:(Unit)⊕(Int))=>
 h.elim (λh=>some (-1)) (λh=>some h)
def zGZ (h:Int):Option (Int):=
(pv (decide (4352<=h))).bind λK=>
 cond (K&&(decide (h<=4370))) (some 1) ((pv (decide (4449<=h))).bind λk=>
 cond (k&&(decide (h<=4469))) (some 2) ((pv (decide (4520<=h))).bind λD=>
 cond (D&&(decide (h<=4546))) (some 3) ((pv (decide (44032<=h))).bind λG=>
 cond (G&&(decide (h<=55203))) ((zJ8 (wi (h-44032)) 28).bind λH=>
 cond (decide (H=0)) (some 4) (some 5)) (some 0))))
def vN (D:(List bM)) (a1:Int) (k:Int):Option (Stp (Int) ((Unit)⊕(Int))):=
 cond (decide (k<(D.length:Int))) ((yA D k).bind λG=>
(pv (decide (G.Lo<=a1))).bind λh=>
(gM h (yA D k)).bind λH=>
 cond (h&&(decide (a1<=H.Hi))) ((yA D k).bind λK=>
 some (.done (.inr (K.Value)))) (some (.next (wi (k+1))))) (some (.done (.inl (()))))
def zB2 (k:(List bM)) (a1:Int):Option (Int):=
(zFM k).bind λD=>
 cond (!decide (D=0)) (some 0) ((zD (λ(x:Int)=>vN k a1 x) 0).bind λ(h:(Unit)⊕(Int))=>
 h.elim (λh=>some 0) (λh=>some h))
def uP (G:(List aH)) (v5:Int) (H:(List Bool)) (v6:Bool) (Z:Int):Option (Stp (Bool×Int) ((Bool))):=
(yA G v5).bind λK=>
 cond (decide (Z<(K.To.length:Int))) ((yA G v5).bind λO=>
(yA O.To Z).bind λT=>
(zEE G T true).bind λD=>
(pv v6).bind λh=>
(pv (decide (D<0))).bind λk=>
(gM (h&& !k) (yA H D)).bind λY=>
 some (.next ((h&&(k ||Y)),wi (Z+1)))) (some (.done v6))
def zCB (G:(List aH)) (D:Int) (h:(List Bool)):Option (Stp (Int×(List Bool)) (((List Bool)))):=
 cond (decide (D<(G.length:Int))) ((zD (λ(x:Bool×Int)=>uP G D h x.1 x.2) (true,0)).bind λ(K:Bool)=>
(yA h D).bind λH=>
(zA9 h D K).bind λk=>
 some (.next (wi (D+1),k))) (some (.done h))
def zCC (k:(List aH)) (D:Int) (h:(List Bool)):Option (Stp (Int×(List Bool)) (((List Bool)))):=
 cond (decide (D<(k.length:Int))) ((zD (λ(x:Int×(List Bool))=>zCB k x.1 x.2) (0,h)).bind λ(G:(List Bool))=>
 some (.next (wi (D+1),G))) (some (.done h))
def zJI (k:(List aH)):Option ((List Bool)):=
(mkM false (k.length:Int)).bind λh=>
(zD (λ(x:Int×(List Bool))=>zCC k x.1 x.2) (0,h)).bind λ(D:(List Bool))=>
 some D
def zBR (k:Int):Option ((List Int)):=
(zGZ k).bind λY=>
 cond (decide (Y<4)) (some [k]) ((zNP wi (wi (k-44032)) 28).bind λH=>
(zNP wi H 21).bind λD=>
(zNP wi (wi (k-44032)) 28).bind λK=>
(zJ8 K 21).bind λG=>
(zJ8 (wi (k-44032)) 28).bind λO=>
(cond (decide (0<O)) ((zJ8 (wi (k-44032)) 28).bind λT=>
(app [wi (4352+D),wi (4449+G)] [wi ((wi (4520+T))-1)]).bind λh=>
 some h) (some [wi (4352+D),wi (4449+G)])).bind λ(Z:(List Int))=>
 some Z)
def wK (k:(List aH)) (v7:Int) (a1:Bool) (G:(List Int)) (v8:Int) (D:Int):Option (Stp (Int×Int) ((Int))):=
(yA k v7).bind λH=>
 cond (decide (D<(H.To.length:Int))) (((yA k v7).bind λK=>
(yA K.To D).bind λO=>
(zEE k O a1).bind λh=>
 cond (decide (0<=h)) ((yA G h).bind λT=>
 some (wi (v8+T))) ((yA k v7).bind λY=>
(yA Y.To D).bind λZ=>
(zBR Z).bind λaa=>
 some (wi (v8+(aa.length:Int))))).bind λ(y5:Int)=>
 some (.next (y5,wi (D+1)))) (some (.done v8))
def uJ (H:(List aH)) (a1:Bool) (D:Int) (k:(List Int)):Option (Stp (Int×(List Int)) (((List Int)))):=
 cond (decide (D<(H.length:Int))) (((zD (λ(x:Int×Int)=>wK H D a1 k x.1 x.2) (0,0)).bind λ(y4:Int)=>
(yA k D).bind λT=>
(zA9 k D (min (max y4 1) 65)).bind λh=>
(yA H D).bind λO=>
(pv (!(O.bO== []))).bind λK=>
 cond (K&&(!a1)) ((yA h D).bind λY=>
(zA9 h D 1).bind λG=>
 some G) (some h)).bind λ(Z:(List Int))=>
 some (.next (wi (D+1),Z))) (some (.done k))
def uK (k:(List aH)) (a1:Bool) (D:Int) (h:(List Int)):Option (Stp (Int×(List Int)) (((List Int)))):=
 cond (decide (D<(k.length:Int))) ((zD (λ(x:Int×(List Int))=>uJ k a1 x.1 x.2) (0,h)).bind λ(G:(List Int))=>
 some (.next (wi (D+1),G))) (some (.done h))
def zDU (k:(List aH)) (a1:Bool):Option ((List Int)):=
(mkM 0 (k.length:Int)).bind λh=>
(zD (λ(x:Int×(List Int))=>uK k a1 x.1 x.2) (0,h)).bind λ(D:(List Int))=>
 some D
def zC1 (k:Norm) (h:Int):Option (Stp (Int) ((Unit)⊕(Int))):=
 cond (decide (h<(k.aA.length:Int))) ((yA k.aA h).bind λD=>
(zEE k.aA D.aW true).bind λG=>
 cond (decide (G<h)) (some (.done (.inr (5)))) (some (.next (wi (h+1))))) (some (.done (.inl (()))))
def zC2 (G:Norm) (D:Int):Option (Stp (Int) ((Unit)⊕(Int))):=
 cond (decide (D<(G.aA.length:Int))) ((yA G.aA D).bind λH=>
(pv (H.bO== [])).bind λh=>
(gM h (yA G.aA D)).bind λK=>
(pv (h&&(!decide ((K.To.length:Int)=1)))).bind λk=>
(gM k (yA G.aA D)).bind λO=>
 cond (k&&(!decide ((O.To.length:Int)=2))) (some (.done (.inr (8)))) (some (.next (wi (D+1))))) (some (.done (.inl (()))))
def zC3 (D:Norm) (K:Int):Option (Stp (Int) ((Unit)⊕(Int))):=
 cond (decide (K<(D.aA.length:Int))) ((yA D.aA K).bind λO=>
(zGZ O.aW).bind λT=>
(pv (!decide (T=0))).bind λh=>
(gM (!h) (yA D.aA K)).bind λY=>
(pv (!(Y.bO== []))).bind λk=>
(gM (!h&&k) (yA D.aA K)).bind λG=>
(gM (!h&&k) (zB2 D.aK G.aW)).bind λH=>
 cond (h ||(k&&(!decide (H=0)))) (some (.done (.inr (11)))) (some (.next (wi (K+1))))) (some (.done (.inl (()))))
def zC4 (G:Norm) (k:(List Bool)) (h:Int):Option (Stp (Int) ((Unit)⊕(Int))):=
 cond (decide (h<(G.aA.length:Int))) ((yA k h).bind λD=>
 cond (!D) (some (.done (.inr (12)))) (some (.next (wi (h+1))))) (some (.done (.inl (()))))
def zC5 (O:Norm) (D:(List Int)) (G:(List Int)) (h:Int):Option (Stp (Int) ((Unit)⊕(Int))):=
 cond (decide (h<(O.aA.length:Int))) ((yA D h).bind λH=>
(pv (decide (64<H))).bind λk=>
(gM (!k) (yA G h)).bind λK=>
 cond (k ||(decide (64<K))) (some (.done (.inr (13)))) (some (.next (wi (h+1))))) (some (.done (.inl (()))))
def zHW (h:Norm):Option (Int):=
(zFM h.aK).bind λH=>
 cond (!decide (H=0)) (some H) ((zHU h.aA).bind λK=>
 cond (!decide (K=0)) (some K) ((zHV h.aN).bind λab=>
 cond (!ab) (some 11) ((zD (λ(x:Int)=>zC1 h x) 0).bind λ(O:(Unit)⊕(Int))=>
 O.elim (λO=>(zD (λ(x:Int)=>zC2 h x) 0).bind λ(T:(Unit)⊕(Int))=>
 T.elim (λT=>(zD (λ(x:Int)=>zC3 h x) 0).bind λ(Y:(Unit)⊕(Int))=>
 Y.elim (λY=>(zJI h.aA).bind λk=>
(zD (λ(x:Int)=>zC4 h k x) 0).bind λ(Z:(Unit)⊕(Int))=>
 Z.elim (λZ=>(zDU h.aA false).bind λD=>
(zDU h.aA true).bind λG=>
(zD (λ(x:Int)=>zC5 h D G x) 0).bind λ(y5:(Unit)⊕(Int))=>
 y5.elim (λy5=>some 0) (λy5=>some y5)) (λZ=>some Z)) (λY=>some Y)) (λT=>some T)) (λO=>some O))))
def zG0 (h:Norm):Option (Norm):=
(zHW h).bind λk=>
 cond (!decide (k=0)) (some ({aK:=({aK:=[],aA:=[],aN:=(({Ranges:=[]}):Set)}:Norm).aK,aA:=({aK:=[],aA:=[],aN:=(({Ranges:=[]}):Set)}:Norm).aA,aN:=({Ranges:=(({aK:=[],aA:=[],aN:=(({Ranges:=[]}):Set)}:Norm).aN).Ranges}:Set)}:Norm)) (some h)
def zF2 (h:Int):Option (Bool):=
(pv (decide (1<=h))).bind λk=>
 some (k&&(decide (h<=65535)))
def zBS (G:Collation) (D:Int):Option (Stp (Int) ((Unit)⊕(Int))):=
 cond (decide (D<(G.aE.length:Int))) ((yA G.aE D).bind λh=>
(zGW h.bT).bind λk=>
 cond (!k) (some (.done (.inr (6)))) (some (.next (wi (D+1))))) (some (.done (.inl (()))))
def zBT (H:Int) (G:Collation) (D:Int):Option (Stp (Int) ((Unit)⊕(Int))):=
 cond (decide (D<H)) ((yA G.aE D).bind λh=>
(yA G.aE H).bind λk=>
 cond (h.bT==k.bT) (some (.done (.inr (5)))) (some (.next (wi (D+1))))) (some (.done (.inl (()))))
def zBU (D:Collation) (k:Int):Option (Stp (Int) ((Unit)⊕(Int))):=
 cond (decide (k<(D.aE.length:Int))) ((zD (λ(x:Int)=>zBT k D x) 0).bind λ(h:(Unit)⊕(Int))=>
 h.elim (λh=>some (.next (wi (k+1)))) (λh=>some (.done (.inr (h))))) (some (.done (.inl (()))))
def zBV (k:Collation) (D:Int):Option (Stp (Int) ((Unit)⊕(Int))):=
 cond (decide (D<(k.aE.length:Int))) ((yA k.aE D).bind λH=>
(pv (decide (H.Lo<1))).bind λh=>
(gM (!h) (yA k.aE D)).bind λK=>
(gM (!h) (yA k.aE D)).bind λO=>
(pv (h ||(decide (K.Hi<O.Lo)))).bind λG=>
(gM (!G) (yA k.aE D)).bind λT=>
 cond (G ||(decide (k.bK<=T.Hi))) (some (.done (.inr (1)))) (some (.next (wi (D+1))))) (some (.done (.inl (()))))
def zAH (k:Collation) (h:Int):Option (Stp (Int) ((Unit)⊕(Int))):=
 cond (decide (h<(k.aE.length:Int))) ((yA k.aE h).bind λD=>
(yA k.aE (wi (h-1))).bind λG=>
 cond (!decide (D.Lo=(wi (G.Hi+1)))) (some (.done (.inr (4)))) (some (.next (wi (h+1))))) (some (.done (.inl (()))))
def zF3 (h:Collation):Option (Int):=
(zD (λ(x:Int)=>zBS h x) 0).bind λ(k:(Unit)⊕(Int))=>
 k.elim (λk=>(zD (λ(x:Int)=>zBU h x) 0).bind λ(D:(Unit)⊕(Int))=>
 D.elim (λD=>(zD (λ(x:Int)=>zBV h x) 0).bind λ(G:(Unit)⊕(Int))=>
 G.elim (λG=>(zD (λ(x:Int)=>zAH h x) 1).bind λ(H:(Unit)⊕(Int))=>
 H.elim (λH=>some 0) (λH=>some H)) (λG=>some G)) (λD=>some D)) (λk=>some k)
def zEL (h:Int):Option (Bool):=
(pv (decide (0<=h))).bind λk=>
 some (k&&(decide (h<=65535)))
def zHX (h:aP):Option (Int):=
(zEL h.aS).bind λt5=>
(pv (!t5)).bind λb7=>
(gM (!b7) (zEL h.aL)).bind λY=>
(pv (b7 ||(!Y))).bind λk=>
(gM (!k) (zEL h.aO)).bind λZ=>
 cond (k ||(!Z)) (some 1) ((pv (!decide (h.aS=0))).bind λD=>
(pv (decide (h.aL=0))).bind λG=>
(pv (D&&(G ||(decide (h.aO=0))))).bind λH=>
(pv (!decide (h.aL=0))).bind λK=>
(pv (H ||(K&&(decide (h.aO=0))))).bind λO=>
(pv h.aD).bind λT=>
 cond (O ||(T&&(decide (h.aS=0)))) (some 11) (some 0))
def zF4 (h:bP) (G:Int):Option (Stp (Int) ((Unit)⊕(Int))):=
 cond (decide (G<(h.aX.length:Int))) ((yA h.aX G).bind λk=>
(vB k).bind λD=>
 cond (!D) (some (.done (.inr (1)))) (some (.next (wi (G+1))))) (some (.done (.inl (()))))
def zC6 (h:bP) (G:Int):Option (Stp (Int) ((Unit)⊕(Int))):=
 cond (decide (G<(h.aU.length:Int))) ((yA h.aU G).bind λD=>
(zHX D).bind λk=>
 cond (!decide (k=0)) (some (.done (.inr (k)))) (some (.next (wi (G+1))))) (some (.done (.inl (()))))
def zF5 (h:bP) (G:Collation) (D:Int):Option (Stp (Int) ((Unit)⊕(Int))):=
 cond (decide (D<(h.aU.length:Int))) ((yA h.aU D).bind λk=>
 cond (decide (G.bK<=k.aS)) (some (.done (.inr (1)))) (some (.next (wi (D+1))))) (some (.done (.inl (()))))
def zHY (K:Collation) (a1:Int):Option (Int):=
(yA K.aB a1).bind λh=>
(pv (decide ((h.aX.length:Int)<1))).bind λO=>
(pv (O ||(decide (8<(h.aX.length:Int))))).bind λT=>
 cond (T ||(decide (16<(h.aU.length:Int)))) (some 2) ((zD (λ(x:Int)=>zF4 h x) 0).bind λ(D:(Unit)⊕(Int))=>
 D.elim (λD=>(zD (λ(x:Int)=>zC6 h x) 0).bind λ(G:(Unit)⊕(Int))=>
 G.elim (λG=>(zD (λ(x:Int)=>zF5 h K x) 0).bind λ(H:(Unit)⊕(Int))=>
 H.elim (λH=>(pv (decide (0<a1))).bind λk=>
(gM k (yA K.aB (wi (a1-1)))).bind λY=>
(gM k (zDR Y.aX h.aX)).bind λZ=>
 cond (k&&(decide (0<=Z))) (some 4) (some 0)) (λH=>some H)) (λG=>some G)) (λD=>some D))
def zC7 (D:Collation) (k:Int):Option (Stp (Int) ((Unit)⊕(Int))):=
 cond (decide (k<(D.aB.length:Int))) ((zHY D k).bind λh=>
 cond (!decide (h=0)) (some (.done (.inr (h)))) (some (.next (wi (k+1))))) (some (.done (.inl (()))))
def zHZ (h:Collation):Option (Int):=
(pv (decide (h.bK<1))).bind λT=>
(pv (T ||(decide (65502<h.bK)))).bind λk=>
(gM (!k) (zF2 h.bA)).bind λK=>
(pv (k ||(!K))).bind λD=>
(gM (!D) (zF2 h.bJ)).bind λO=>
 cond (D ||(!O)) (some 1) ((zF3 h).bind λG=>
 cond (!decide (G=0)) (some G) ((zD (λ(x:Int)=>zC7 h x) 0).bind λ(H:(Unit)⊕(Int))=>
 H.elim (λH=>some 0) (λH=>some H)))
def zG1 (h:Collation):Option (Collation):=
(zHZ h).bind λk=>
 cond (!decide (k=0)) (some ({aB:=[],aE:=[],bK:=64448,bA:=32,bJ:=2}:Collation)) (some h)
def jQ (a2:(List Int)) (Z:(List aH)) (a3:Bool) (a1:(List (List Int))) (G:Int) (h:(List Int)):Option (Stp (Int×(List Int)) (((List Int)))):=
 cond (decide (G<(a2.length:Int))) (((yA a2 G).bind λK=>
(zEE Z K a3).bind λH=>
 cond (decide (0<=H)) ((yA a1 H).bind λO=>
(app h O).bind λk=>
 some k) ((yA a2 G).bind λT=>
(zBR T).bind λY=>
(app h Y).bind λD=>
 some D)).bind λ(y2:(List Int))=>
 some (.next (wi (G+1),y2))) (some (.done h))
def u0 (h:(List aH)) (a1:(List (List Int))) (a2:(List Int)) (a3:Bool):Option ((List Int)):=
(zD (λ(x:Int×(List Int))=>jQ a2 h a3 a1 x.1 x.2) (0,[])).bind λ(k:(List Int))=>
 some k
def zBG (H:(List aH)) (a1:Bool) (D:Int) (h:(List (List Int))):Option (Stp (Int×(List (List Int))) (((List (List Int))))):=
 cond (decide (D<(H.length:Int))) (((pv a1).bind λG=>
(gM (!G) (yA H D)).bind λK=>
 cond (G ||(K.bO== [])) ((yA H D).bind λO=>
(u0 H h O.To a1).bind λT=>
(yA h D).bind λY=>
(zA9 h D T).bind λk=>
 some k) (some h)).bind λ(Z:(List (List Int)))=>
 some (.next (wi (D+1),Z))) (some (.done h))
def zBH (k:(List aH)) (a1:Bool) (D:Int) (h:(List (List Int))):Option (Stp (Int×(List (List Int))) (((List (List Int))))):=
 cond (decide (D<(k.length:Int))) ((zD (λ(x:Int×(List (List Int)))=>zBG k a1 x.1 x.2) (0,h)).bind λ(G:(List (List Int)))=>
 some (.next (wi (D+1),G))) (some (.done h))
def zH0 (k:(List aH)) (a1:Bool):Option ((List (List Int))):=
(mkM [] (k.length:Int)).bind λh=>
(zD (λ(x:Int×(List (List Int)))=>zBH k a1 x.1 x.2) (0,h)).bind λ(D:(List (List Int)))=>
 some D
def zJJ (D:Norm) (a1:(List Int)) (a2:Bool):Option ((List Int)):=
(zH0 D.aA a2).bind λh=>
(u0 D.aA h a1 a2).bind λk=>
 some k
def zAU (K:Int) (a0:(List bM)) (a1:(List Int)) (v6:Int) (G:Int) (h:(List Int)):Option (Stp (Int×(List Int)) (((List Int)))):=
(pv (decide (0<G))).bind λO=>
(pv (O&&(decide (0<K)))).bind λH=>
(gM H (yA h (wi (G-1)))).bind λT=>
(gM H (zB2 a0 T)).bind λY=>
 cond (H&&(decide (K<Y))) ((yA h (wi (G-1))).bind λZ=>
(yA h G).bind λac=>
(zA9 h G Z).bind λk=>
(yA a1 v6).bind λaa=>
(yA k (wi (G-1))).bind λad=>
(zA9 k (wi (G-1)) aa).bind λD=>
 some (.next (wi (G-1),D))) (some (.done h))
def uQ (a1:(List Int)) (O:(List bM)) (D:Int) (k:(List Int)):Option (Stp (Int×(List Int)) (((List Int)))):=
 cond (decide (D<(a1.length:Int))) ((yA a1 D).bind λG=>
(app k [G]).bind λh=>
(yA a1 D).bind λH=>
(zB2 O H).bind λK=>
(zD (λ(x:Int×(List Int))=>zAU K O a1 D x.1 x.2) (wi ((h.length:Int)-1),h)).bind λ(T:(List Int))=>
 some (.next (wi (D+1),T))) (some (.done k))
def zG2 (h:(List bM)) (a1:(List Int)):Option ((List Int)):=
(zD (λ(x:Int×(List Int))=>uQ a1 h x.1 x.2) (0,[])).bind λ(k:(List Int))=>
 some k
def zFH (G:Norm) (a1:(List Int)) (a2:Bool):Option ((List Int)):=
(zG0 G).bind λD=>
(zJJ D a1 a2).bind λh=>
(zG2 D.aK h).bind λk=>
 some k
def zDV (D:Collation) (a1:(List Int)) (k:Int):Option (Stp (Int) ((Unit)⊕(Bool×(List aP)))):=
 cond (decide (k<(D.aB.length:Int))) ((yA D.aB k).bind λG=>
(vW G.aX a1).bind λH=>
 cond H ((yA D.aB k).bind λK=>
(app [] K.aU).bind λh=>
 some (.done (.inr ((true,h))))) (some (.next (wi (k+1))))) (some (.done (.inl (()))))
def zEF (k:Collation) (a1:(List Int)):Option ((List aP)×Bool):=
(zD (λ(x:Int)=>zDV k a1 x) 0).bind λ(h:(Unit)⊕(Bool×(List aP)))=>
 h.elim (λh=>some ([],false)) (λh=>some (h.2,h.1))
def zE3 (h:(List bM)) (a1:Int):Option (Bool):=
(zB2 h a1).bind λk=>
 some (decide (k=0))
def zG3 (D:(List Int)) (a1:Int):Option ((List Int)):=
(app [] D).bind λh=>
(app h [a1]).bind λk=>
 some k
def wL (a2:(List Int)) (a1:Collation) (G:Int) (h:Int):Option (Stp (Int×Int) ((Int))):=
 cond (decide (h<=(a2.length:Int))) (((slc a2 0 h).bind λk=>
(zEF a1 k).bind λD=>
 cond D.2 (some h) (some G)).bind λ(H:Int)=>
 some (.next (H,wi (h+1)))) (some (.done G))
def vC (a2:(List Int)) (a0:(List bM)) (a1:Collation) (G:(List Int)) (K:Int) (h:Int) (k:(List Int)):Option (Stp ((List Int)×Int×Int×(List Int)) (((List Int)×Int×(List Int)))):=
(pv (decide (h<(a2.length:Int)))).bind λH=>
(gM H (yA a2 h)).bind λY=>
(gM H (zE3 a0 Y)).bind λZ=>
 cond (H&&(!Z)) ((yA a2 h).bind λaa=>
(zB2 a0 aa).bind λO=>
(yA a2 h).bind λab=>
(zG3 G ab).bind λac=>
(zEF a1 ac).bind λad=>
(pv ad.2).bind λT=>
(cond (T&&(decide (K<O))) ((yA a2 h).bind λag=>
(zG3 G ag).bind λah=>
 some (ah,K,k)) ((yA a2 h).bind λai=>
(app k [ai]).bind λD=>
 some (G,max K O,D))).bind λ(y5:(List Int)×Int×(List Int))=>
 some (.next (y5.1,y5.2.1,wi (h+1),y5.2.2))) (some (.done (G,h,k)))
def zE4 (Y:(List bM)) (a1:Collation) (a2:(List Int)):Option ((List Int)×(List Int)×Bool):=
(zD (λ(x:Int×Int)=>wL a2 a1 x.1 x.2) (0,1)).bind λ(O:Int)=>
 cond (decide (O=0)) ((slc a2 0 1).bind λG=>
(slc a2 1 (a2.length)).bind λH=>
 some (G,H,false)) ((slc a2 0 O).bind λK=>
(app [] K).bind λk=>
(zD (λ(x:(List Int)×Int×Int×(List Int))=>vC a2 Y a1 x.1 x.2.1 x.2.2.1 x.2.2.2) (k,0,O,[])).bind λ(T:(List Int)×Int×(List Int))=>
(slc a2 T.2.1 (a2.length)).bind λD=>
(app T.2.2 D).bind λh=>
 some (T.1,h,true))
def zEG (G:Collation) (a1:Int):Option ((List aP)):=
(vB a1).bind λH=>
 cond (!H) (some []) ((zG1 G).bind λh=>
(zNP wi a1 32768).bind λk=>
(zJ8 a1 32768).bind λD=>
 some [({aS:=wi (h.bK+k),aL:=h.bA,aO:=h.bJ,aD:=false}:aP),({aS:=wi (32768+D),aL:=0,aO:=0,aD:=false}:aP)])
def uR (T:Norm) (G:Collation) (a1:Collation) (H:(List Int)) (K:Bool) (h:(List aP)):Option (Stp ((List Int)×Bool×(List aP)) ((Bool×(List aP)))):=
 cond (decide (0<(H.length:Int))) ((zE4 T.aK G H).bind λD=>
(yA D.1 (0:Int)).bind λY=>
(zEG a1 Y).bind λZ=>
(cond D.2.2 ((zEF G D.1).bind λaa=>
 some aa.1) (some Z)).bind λ(y2:(List aP))=>
(app h y2).bind λk=>
(pv K).bind λO=>
 some (.next (D.2.1,(O&&D.2.2),k))) (some (.done (K,h)))
def zJK (G:Norm) (a1:Collation) (a2:(List Int)):Option ((List aP)×Bool):=
(zG0 G).bind λh=>
(zG1 a1).bind λk=>
(zFH G a2 false).bind λD=>
(zD (λ(x:(List Int)×Bool×(List aP))=>uR h k a1 x.1 x.2.1 x.2.2) (D,true,[])).bind λ(H:Bool×(List aP))=>
 some (H.2,H.1)
def xJ (k:Norm) (a1:Collation) (a2:(List Int)):Option ((List aP)):=
(zJK k a1 a2).bind λh=>
 some h.1
def zH1 (h:Options):Option (Int):=
(pv (decide (h.aJ<1))).bind λD=>
 cond (D ||(decide (4<h.aJ))) (some 1) ((pv (decide (h.aD<1))).bind λk=>
 cond (k ||(decide (3<h.aD))) (some 8) (some 0))
def zDW (h:Options):Option (Options):=
(zH1 h).bind λk=>
 cond (!decide (k=0)) (some ({aJ:=3,aD:=1,aQ:=false,aT:=false}:Options)) (some h)
def zA6 (a0:(List aP)) (a1:Int) (v6:Bool) (Z:Int) (k:(List bC)):Option (Stp (Bool×Int×(List bC)) (((List bC)))):=
 cond (decide (Z<(a0.length:Int))) ((yA a0 Z).bind λh=>
(pv (decide (h.aS=0))).bind λK=>
(pv (K&&(decide (h.aL=0)))).bind λG=>
(pv h.aD).bind λO=>
(cond (O ||(!decide (h.aS=0))) (some h.aD) (some v6)).bind λ(y2:Bool)=>
(cond (decide (a1=1)) (cond (!(G&&(decide (h.aO=0)))) (some (({x0:=h.aS,x1:=h.aL,x2:=h.aO,x3:=0}:bC).x0,({x0:=h.aS,x1:=h.aL,x2:=h.aO,x3:=0}:bC).x1,({x0:=h.aS,x1:=h.aL,x2:=h.aO,x3:=0}:bC).x2,65535)) (some (({x0:=h.aS,x1:=h.aL,x2:=h.aO,x3:=0}:bC).x0,({x0:=h.aS,x1:=h.aL,x2:=h.aO,x3:=0}:bC).x1,({x0:=h.aS,x1:=h.aL,x2:=h.aO,x3:=0}:bC).x2,({x0:=h.aS,x1:=h.aL,x2:=h.aO,x3:=0}:bC).x3))) (cond y2 ((pv (decide (a1=3))).bind λT=>
 cond (T&&h.aD) (some (({x0:=0,x1:=0,x2:=0,x3:=0}:bC).x0,({x0:=0,x1:=0,x2:=0,x3:=0}:bC).x1,({x0:=0,x1:=0,x2:=0,x3:=0}:bC).x2,h.aS)) (some (({x0:=0,x1:=0,x2:=0,x3:=0}:bC).x0,({x0:=0,x1:=0,x2:=0,x3:=0}:bC).x1,({x0:=0,x1:=0,x2:=0,x3:=0}:bC).x2,({x0:=0,x1:=0,x2:=0,x3:=0}:bC).x3))) ((pv (decide (a1=3))).bind λY=>
 cond (Y&&(!(G&&(decide (h.aO=0))))) (some (({x0:=h.aS,x1:=h.aL,x2:=h.aO,x3:=0}:bC).x0,({x0:=h.aS,x1:=h.aL,x2:=h.aO,x3:=0}:bC).x1,({x0:=h.aS,x1:=h.aL,x2:=h.aO,x3:=0}:bC).x2,65535)) (some (({x0:=h.aS,x1:=h.aL,x2:=h.aO,x3:=0}:bC).x0,({x0:=h.aS,x1:=h.aL,x2:=h.aO,x3:=0}:bC).x1,({x0:=h.aS,x1:=h.aL,x2:=h.aO,x3:=0}:bC).x2,({x0:=h.aS,x1:=h.aL,x2:=h.aO,x3:=0}:bC).x3))))).bind λ(H:Int×Int×Int×Int)=>
(app k [({x0:=H.1,x1:=H.2.1,x2:=H.2.2.1,x3:=H.2.2.2}:bC)]).bind λD=>
 some (.next (y2,wi (Z+1),D))) (some (.done k))
def zE5 (h:(List aP)) (a1:Int):Option ((List bC)):=
(zD (λ(x:Bool×Int×(List bC))=>zA6 h a1 x.1 x.2.1 x.2.2) (false,0,[])).bind λ(k:(List bC))=>
 some k
def vD (D:(List bC)) (v7:Int) (T:Options) (K:Int) (h:(List Int)):Option (Stp (Int×(List Int)) (((List Int)))):=
 cond (decide (K<(D.length:Int))) (((pv (decide (v7=1))).bind λO=>
(cond (O&&T.aQ) (some (wi ((wi ((D.length:Int)-1))-K))) (some K)).bind λ(y4:Int)=>
(yA D y4).bind λG=>
(yA [G.x0,G.x1,G.x2,G.x3] v7).bind λY=>
 cond (!decide (Y=0)) ((yA D y4).bind λH=>
(yA [H.x0,H.x1,H.x2,H.x3] v7).bind λZ=>
(app h [Z]).bind λk=>
 some k) (some h)).bind λ(y3:(List Int))=>
 some (.next (wi (K+1),y3))) (some (.done h))
def vE (D:Options) (G:(List bC)) (H:Int) (h:(List (List Int))):Option (Stp (Int×(List (List Int))) (((List (List Int))))):=
 cond (decide (H<D.aJ)) ((zD (λ(x:Int×(List Int))=>vD G H D x.1 x.2) (0,[])).bind λ(K:(List Int))=>
(app h [K]).bind λk=>
 some (.next (wi (H+1),k))) (some (.done h))
def zAV (D:(List aP)) (a1:Options):Option ((List (List Int))):=
(zDW ({aJ:=a1.aJ,aD:=a1.aD,aQ:=a1.aQ,aT:=a1.aT}:Options)).bind λh=>
(zE5 D h.aD).bind λk=>
(zD (λ(x:Int×(List (List Int)))=>vE h k x.1 x.2) (0,[])).bind λ(G:(List (List Int)))=>
 some G
def zCD (k:(List (List Int))) (h:Int):Option (Stp (Int) ((Unit)⊕(Bool))):=
 cond (decide (h<(k.length:Int))) ((yA k h).bind λD=>
 cond (decide (0<(D.length:Int))) (some (.done (.inr (true)))) (some (.next (wi (h+1))))) (some (.done (.inl (()))))
def zG4 (G:Norm) (a1:Collation) (a2:Options) (a3:(List Int)):Option (Bool):=
(xJ G a1 a3).bind λk=>
(zAV k a2).bind λD=>
(zD (λ(x:Int)=>zCD D x) 0).bind λ(h:(Unit)⊕(Bool))=>
 h.elim (λh=>some false) (λh=>some h)
def zDX (K:(List (List Int))) (G:Int) (h:(List Int)):Option (Stp (Int×(List Int)) (((List Int)))):=
 cond (decide (G<(K.length:Int))) ((cond (decide (0<G)) ((app h [0]).bind λk=>
 some k) (some h)).bind λ(O:(List Int))=>
(yA K G).bind λH=>
(app O H).bind λD=>
 some (.next (wi (G+1),D))) (some (.done h))
def zMD (h:(List (List Int))):Option ((List Int)):=
(zD (λ(x:Int×(List Int))=>zDX h x.1 x.2) (0,[])).bind λ(k:(List Int))=>
 some k
def zEM (G:(List Int)) (D:Int) (h:(List Int)):Option (Stp (Int×(List Int)) (((List Int)))):=
 cond (decide (D<(G.length:Int))) (((yA G D).bind λH=>
(vB H).bind λK=>
 cond K ((yA G D).bind λO=>
(app h [wi (O+1)]).bind λk=>
 some k) (some h)).bind λ(T:(List Int))=>
 some (.next (wi (D+1),T))) (some (.done h))
def zLH (O:Norm) (a1:Collation) (a2:Options) (a3:(List Int)):Option ((List Int)):=
(zDW ({aJ:=a2.aJ,aD:=a2.aD,aQ:=a2.aQ,aT:=a2.aT}:Options)).bind λk=>
(xJ O a1 a3).bind λG=>
(zAV G ({aJ:=k.aJ,aD:=k.aD,aQ:=k.aQ,aT:=k.aT}:Options)).bind λH=>
(zMD H).bind λD=>
 cond (!k.aT) (some D) ((app D [0]).bind λh=>
(zFH O a3 false).bind λK=>
(zD (λ(x:Int×(List Int))=>zEM K x.1 x.2) (0,h)).bind λ(T:(List Int))=>
 some T)
def zDE (k:Norm) (a1:Collation) (a2:Options) (a3:(List Int)) (D:Int):Option ((List Int)):=
(zLH k a1 ({aJ:=D,aD:=a2.aD,aQ:=a2.aQ,aT:=false}:Options) a3).bind λh=>
 some h
def zFN (k:Norm) (a1:Collation) (a2:Options) (a3:(List Int)):Option ((List Int)):=
(zDE k a1 a2 a3 a2.aJ).bind λh=>
 some h
def zH2 (k:Norm) (a1:Collation) (a2:Options) (a3:(List Int)) (O:(List Int)):Option (Bool):=
(zG4 k a1 a2 a3).bind λD=>
(pv D).bind λh=>
(gM h (zFN k a1 a2 a3)).bind λG=>
(gM h (zFN k a1 a2 O)).bind λH=>
(gM h (vW G H)).bind λK=>
 some (h&&K)
def zCF (h:bF):Option (Bool):=
(zGU h).bind λK=>
 cond (!K) ((zAT).bind λO=>
 some O) ((vM h.Norm h.Collation h.Options h.bL h.bW).bind λD=>
(zH2 h.Norm h.Collation h.Options h.bL h.bW).bind λG=>
(pv (D==G)).bind λk=>
(gM k (zAT)).bind λH=>
 some (k&&H))
def zKO (D:(List Int)) (a1:Int) (k:Int):Option (Stp (Int) ((Unit)⊕(Bool))):=
 cond (decide (k<(D.length:Int))) ((yA D k).bind λh=>
 cond (decide (h=a1)) (some (.done (.inr (true)))) (some (.next (wi (k+1))))) (some (.done (.inl (()))))
def zQ1 (k:(List Int)) (a1:Int):Option (Bool):=
(zD (λ(x:Int)=>zKO k a1 x) 0).bind λ(h:(Unit)⊕(Bool))=>
 h.elim (λh=>some false) (λh=>some h)
def zF6 (D:(List aP)) (k:(List aP)) (h:Int):Option (Stp (Int) ((Unit)⊕(Bool))):=
 cond (decide (h<(D.length:Int))) ((yA D h).bind λG=>
(yA k h).bind λH=>
 cond (!decide (G=H)) (some (.done (.inr (false)))) (some (.next (wi (h+1))))) (some (.done (.inl (()))))
def zN0 (H:Norm) (a1:Collation) (a2:(List Int)) (a3:Range):Option (Bool):=
(pv (decide (a3.Lo<0))).bind λO=>
(pv (O ||(decide (a3.Hi<a3.Lo)))).bind λT=>
 cond (T ||(decide ((a2.length:Int)<a3.Hi))) (some false) ((xJ H a1 a2).bind λG=>
(slc a2 0 a3.Lo).bind λY=>
(xJ H a1 Y).bind λZ=>
(app [] Z).bind λk=>
(slc a2 a3.Lo a3.Hi).bind λaa=>
(xJ H a1 aa).bind λab=>
(app k ab).bind λD=>
(slc a2 a3.Hi (a2.length)).bind λac=>
(xJ H a1 ac).bind λad=>
(app D ad).bind λh=>
 cond (!decide ((G.length:Int)=(h.length:Int))) (some false) ((zD (λ(x:Int)=>zF6 G h x) 0).bind λ(K:(Unit)⊕(Bool))=>
 K.elim (λK=>some true) (λK=>some K)))
def zEH (K:(List Int)) (a5:(List Int)) (G:Int) (H:Norm) (a1:Collation) (a2:Options) (a3:(List Int)) (h:Int):Option (Stp (Int) ((Unit)⊕(Bool×Int×Int))):=
 cond (decide (h<=(K.length:Int))) ((zQ1 a5 h).bind λO=>
(pv O).bind λk=>
(gM k (slc K G h)).bind λT=>
(gM k (zFN H a1 a2 T)).bind λY=>
(gM k (zFN H a1 a2 a3)).bind λZ=>
(gM k (vW Y Z)).bind λaa=>
(pv (k&&aa)).bind λD=>
(gM D (zN0 H a1 K ({Lo:=G,Hi:=h}:Range))).bind λab=>
 cond (D&&ab) (some (.done (.inr ((true,({Lo:=G,Hi:=h}:Range).Lo,({Lo:=G,Hi:=h}:Range).Hi))))) (some (.next (wi (h+1))))) (some (.done (.inl (()))))
def zN1 (D:Norm) (a1:Collation) (a2:Options) (a3:(List Int)) (G:(List Int)) (H:(List Int)) (k:Int):Option (Range×Bool):=
(zD (λ(x:Int)=>zEH G H k D a1 a2 a3 x) (wi (k+1))).bind λ(h:(Unit)⊕(Bool×Int×Int))=>
 h.elim (λh=>some (({Lo:=0,Hi:=0}:Range),false)) (λh=>some (({Lo:=h.2.1,Hi:=h.2.2}:Range),h.1))
def zEN (K:(List Int)) (O:(List Int)) (T:Norm) (a1:Collation) (a2:Options) (a3:(List Int)) (D:Int) (h:(List Range)):Option (Stp (Int×(List Range)) (((List Range)))):=
 cond (decide (D<(K.length:Int))) (((zQ1 O D).bind λH=>
 cond (!H) (some h) ((zN1 T a1 a2 a3 K O D).bind λG=>
 cond G.2 ((app h [G.1]).bind λk=>
 some k) (some h))).bind λ(Y:(List Range))=>
 some (.next (wi (D+1),Y))) (some (.done h))
def zSB (k:Norm) (a1:Collation) (a2:Options) (a3:(List Int)) (D:(List Int)) (G:(List Int)):Option ((List Range)):=
(zG4 k a1 a2 a3).bind λh=>
 cond (!h) (some []) ((zD (λ(x:Int×(List Range))=>zEN D G k a1 a2 a3 x.1 x.2) (0,[])).bind λ(H:(List Range))=>
 some H)
def zE6 (H:(List Range)) (K:Int) (G:Int) (h:(List Range)):Option (Stp (Int×Int×(List Range)) (((List Range)))):=
 cond (decide (G<(H.length:Int))) (((yA H G).bind λD=>
 cond (decide (K<=D.Lo)) ((app h [D]).bind λk=>
 some (D.Hi,k)) (some (K,h))).bind λ(O:Int×(List Range))=>
 some (.next (O.1,wi (G+1),O.2))) (some (.done h))
def zG5 (k:Norm) (a1:Collation) (a2:Options) (a3:(List Int)) (D:(List Int)) (G:(List Int)):Option ((List Range)):=
(zSB k a1 a2 a3 D G).bind λh=>
(zD (λ(x:Int×Int×(List Range))=>zE6 h x.1 x.2.1 x.2.2) (0,0,[])).bind λ(H:(List Range))=>
 some H
def zEO (H:(List Range)) (Y:(List Int)) (Z:(List Int)) (O:Int) (G:Int) (h:(List Int)):Option (Stp (Int×Int×(List Int)) ((Int×(List Int)))):=
 cond (decide (G<(H.length:Int))) ((yA H G).bind λK=>
(slc Y O K.Lo).bind λT=>
(app h T).bind λk=>
(app k Z).bind λD=>
 some (.next (K.Hi,wi (G+1),D))) (some (.done (O,h)))
def zE7 (K:Norm) (a1:Collation) (a2:Options) (a3:(List Int)) (k:(List Int)) (O:(List Int)) (T:(List Int)):Option ((List Int)):=
(zG5 K a1 a2 a3 k T).bind λD=>
(zD (λ(x:Int×Int×(List Int))=>zEO D k O x.1 x.2.1 x.2.2) (0,0,[])).bind λ(H:Int×(List Int))=>
(slc k H.1 (k.length)).bind λG=>
(app H.2 G).bind λh=>
 some h
def zN2 (D:(List Int)) (a1:Int) (k:Int):Option (Stp (Int) ((Unit)⊕(Bool))):=
 cond (decide (k<(D.length:Int))) ((yA D k).bind λh=>
 cond (decide (h=a1)) (some (.done (.inr (true)))) (some (.next (wi (k+1))))) (some (.done (.inl (()))))
def zN3 (k:(List Int)) (a1:Int):Option (Bool):=
(zD (λ(x:Int)=>zN2 k a1 x) 0).bind λ(h:(Unit)⊕(Bool))=>
 h.elim (λh=>some false) (λh=>some h)
def j7 (k:Range) (h:bF) (Z:(List Int)) (H:Int):Option (Stp (Int) ((Unit)⊕(Bool))):=
 cond (decide (H<=k.Hi)) ((slc h.bW k.Lo H).bind λaa=>
(zDE h.Norm h.Collation h.Options aa h.Options.aJ).bind λK=>
(zN3 h.b5 H).bind λO=>
(pv O).bind λD=>
(gM D (vW K Z)).bind λT=>
(pv (D&&T)).bind λG=>
(gM G (wW h.Norm h.Collation h.bW ({Lo:=k.Lo,Hi:=H}:Range))).bind λY=>
 cond (!((G&&Y)==(decide (H=k.Hi)))) (some (.done (.inr (false)))) (some (.next (wi (H+1))))) (some (.done (.inl (()))))
def x9 (G:(List Range)) (K:bF) (Y:(List Int)) (v4:Int) (k:Int):Option (Stp (Int×Int) ((Unit)⊕(Bool))):=
 cond (decide (k<(G.length:Int))) ((yA G k).bind λh=>
(pv (decide (h.Lo<=v4))).bind λO=>
(pv (O ||(decide (h.Hi<=h.Lo)))).bind λT=>
(pv (T ||(decide ((K.bW.length:Int)<h.Hi)))).bind λD=>
(gM (!D) (zN3 K.b5 h.Lo)).bind λZ=>
 cond (D ||(!Z)) (some (.done (.inr (false)))) ((zD (λ(x:Int)=>j7 h K Y x) (wi (h.Lo+1))).bind λ(H:(Unit)⊕(Bool))=>
 H.elim (λH=>some (.next (h.Lo,wi (k+1)))) (λH=>some (.done (.inr (H)))))) (some (.done (.inl (()))))
def zB3 (h:bF):Option (Bool):=
(zGU h).bind λG=>
 cond (!G) ((zAT).bind λH=>
 some H) ((zDE h.Norm h.Collation h.Options h.bL h.Options.aJ).bind λK=>
(zDD h.Norm h.Collation h.Options h.bL h.bW h.b5).bind λO=>
(zD (λ(x:Int×Int)=>x9 O h K x.1 x.2) ((-1),0)).bind λ(D:(Unit)⊕(Bool))=>
 D.elim (λD=>(zAT).bind λk=>
 some k) (λD=>some D))
def zAR (h:bF):Option (Bool):=
(zGU h).bind λT=>
 cond (!T) ((zAT).bind λY=>
 some Y) ((zFH h.Norm h.bL false).bind λD=>
(wD h.Norm h.Collation h.Options h.bL h.bW h.b5).bind λG=>
(wD h.Norm h.Collation h.Options D h.bW h.b5).bind λH=>
(zBE G H).bind λK=>
(pv K).bind λk=>
(gM k (zAT)).bind λO=>
 some (k&&O))
end
end Go.M


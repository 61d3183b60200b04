/- Plain counterparts of the program's functions, printed from its form. Conditions: none. -/
import Derived.Test.YtjnpmmedmedokaaGreatDoorLa4
set_option linter.unusedSimpArgs false
set_option linter.unusedVariables false
set_option linter.unnecessarySimpa false
namespace Go.M
structure b4 where
 x0:Int
 x1:Int
 x2:Int
 deriving DecidableEq,Inhabited
structure bG where
 x0:Int
 x1:Int
 x2:Int
 x3:Int
 deriving DecidableEq,Inhabited
structure b5 where
 x0:(List Int)
 x1:(List Int)
 x2:(List Int)
 x3:(List Int)
 deriving DecidableEq,Inhabited
structure Range where
 Lo:Int
 Hi:Int
 deriving DecidableEq,Inhabited
structure cE where
 x0:Range
 x1:Range
 x2:Range
 x3:Range
 deriving DecidableEq,Inhabited
structure bW where
 x0:Int
 x1:Int
 x2:Int
 x3:Int
 x4:Int
 x5:Int
 x6:Int
 x7:Int
 x8:Int
 deriving DecidableEq,Inhabited
structure aP where
 aT:Int
 aL:Int
 aO:Int
 aD:Bool
 deriving DecidableEq,Inhabited
structure bP where
 aY:(List Int)
 aV:(List aP)
 deriving DecidableEq,Inhabited
structure cC where
 bT:Str
 Lo:Int
 Hi:Int
 deriving DecidableEq,Inhabited
structure Collation where
 aB:(List bP)
 aF:(List cC)
 bL:Int
 bF:Int
 bK:Int
 deriving DecidableEq,Inhabited
structure bM where
 Lo:Int
 Hi:Int
 Value:Int
 deriving DecidableEq,Inhabited
structure bI where
 c:Collation
 entries:(List (bW×(List aP)))
 bV:Int
 bR:(List bM)
 top:Int
 deriving DecidableEq,Inhabited
structure aI where
 aW:Int
 To:(List Int)
 bO:Str
 deriving DecidableEq,Inhabited
structure bN where
 cH:Int
 cM:Str
 deriving DecidableEq,Inhabited
structure Set where
 Ranges:(List Range)
 deriving DecidableEq,Inhabited
structure Norm where
 aK:(List bM)
 aA:(List aI)
 aN:Set
 deriving DecidableEq,Inhabited
structure Options where
 aJ:Int
 aD:Int
 aQ:Bool
 aU:Bool
 deriving DecidableEq,Inhabited
structure bQ where
 norm:Norm
 b0:Collation
 cD:Options
 text:(List Int)
 wanted:(List (List Int))
 bX:(List aP)
 b8:(List Int)
 cg:(List (Int×Int))
 b6:(List (Int×Int))
 deriving DecidableEq,Inhabited
structure a8 where
 Norm:Norm
 Collation:Collation
 Options:Options
 aX:(List Int)
 bU:(List Int)
 bZ:(List Int)
 deriving DecidableEq,Inhabited
structure Normalize_steps where
 norm:Norm
 deriving DecidableEq,Inhabited
structure Unicodetexttop_Setting where
 Norm:Norm
 Collation:Collation
 Options:Options
 deriving DecidableEq,Inhabited
def zO1 (x:Range):Prop:=(-9223372036854775808<=x.Lo/\x.Lo<=9223372036854775807)/\(-9223372036854775808<=x.Hi/\x.Hi<=9223372036854775807)
def zJA (x:aP):Prop:=(-9223372036854775808<=x.aT/\x.aT<=9223372036854775807)/\(-9223372036854775808<=x.aL/\x.aL<=9223372036854775807)/\(-9223372036854775808<=x.aO/\x.aO<=9223372036854775807)/\True
def zO2 (x:bP):Prop:=(x.aY.length<=9223372036854775807/\∀h∈x.aY,(-9223372036854775808<=h/\h<=9223372036854775807))/\(x.aV.length<=9223372036854775807/\∀h∈x.aV,(zJA h))
def zO3 (x:cC):Prop:=(x.bT.length<=9223372036854775807)/\(-9223372036854775808<=x.Lo/\x.Lo<=9223372036854775807)/\(-9223372036854775808<=x.Hi/\x.Hi<=9223372036854775807)
def zEE (x:Collation):Prop:=(x.aB.length<=9223372036854775807/\∀h∈x.aB,(zO2 h))/\(x.aF.length<=9223372036854775807/\∀h∈x.aF,(zO3 h))/\(-9223372036854775808<=x.bL/\x.bL<=9223372036854775807)/\(-9223372036854775808<=x.bF/\x.bF<=9223372036854775807)/\(-9223372036854775808<=x.bK/\x.bK<=9223372036854775807)
def b9 (x:bM):Prop:=(-9223372036854775808<=x.Lo/\x.Lo<=9223372036854775807)/\(-9223372036854775808<=x.Hi/\x.Hi<=9223372036854775807)/\(-9223372036854775808<=x.Value/\x.Value<=9223372036854775807)
def zJB (x:aI):Prop:=(-9223372036854775808<=x.aW/\x.aW<=9223372036854775807)/\(x.To.length<=9223372036854775807/\∀h∈x.To,(-9223372036854775808<=h/\h<=9223372036854775807))/\(x.bO.length<=9223372036854775807)
def zWC (x:Set):Prop:=(x.Ranges.length<=9223372036854775807/\∀h∈x.Ranges,(zO1 h))
def wO (x:Norm):Prop:=(x.aK.length<=9223372036854775807/\∀h∈x.aK,(b9 h))/\(x.aA.length<=9223372036854775807/\∀h∈x.aA,(zJB h))/\(zWC x.aN)
def zJC (x:Options):Prop:=(-9223372036854775808<=x.aJ/\x.aJ<=9223372036854775807)/\(-9223372036854775808<=x.aD/\x.aD<=9223372036854775807)/\True/\True
def k5 (x:a8):Prop:=(wO x.Norm)/\(zEE x.Collation)/\(zJC x.Options)/\(x.aX.length<=9223372036854775807/\∀h∈x.aX,(-9223372036854775808<=h/\h<=9223372036854775807))/\(x.bU.length<=9223372036854775807/\∀h∈x.bU,(-9223372036854775808<=h/\h<=9223372036854775807))/\(x.bZ.length<=9223372036854775807/\∀h∈x.bZ,(-9223372036854775808<=h/\h<=9223372036854775807))
end Go.M
namespace Go.AV
open Go.M
def zG3 (x:bW):Value:= .agg #[.int IntKind.i64 x.x0,.int IntKind.i64 x.x1,.int IntKind.i64 x.x2,.int IntKind.i64 x.x3,.int IntKind.i64 x.x4,.int IntKind.i64 x.x5,.int IntKind.i64 x.x6,.int IntKind.i64 x.x7,.int IntKind.i64 x.x8]
def zI2 (x:bN):Value:= .agg #[.int IntKind.i64 x.cH,.string ⟨x.cM.toArray⟩]
def cK:En b4:=⟨λx=> .agg [(di x.x0),(di x.x1),(di x.x2)],3,λ_=>rfl⟩
def bS:En bG:=⟨λx=> .agg [(di x.x0),(di x.x1),(di x.x2),(di x.x3)],4,λ_=>rfl⟩
def aE:En Range:=⟨λx=> .agg [(di x.Lo),(di x.Hi)],2,λ_=>rfl⟩
def cJ:En cE:=⟨λx=> .agg [(di x.x0.Lo),(di x.x0.Hi),(di x.x1.Lo),(di x.x1.Hi),(di x.x2.Lo),(di x.x2.Hi),(di x.x3.Lo),(di x.x3.Hi)],8,λ_=>rfl⟩
def cL:En bW:=⟨λx=> .agg [(di x.x0),(di x.x1),(di x.x2),(di x.x3),(di x.x4),(di x.x5),(di x.x6),(di x.x7),(di x.x8)],9,λ_=>rfl⟩
def aG:En aP:=⟨λx=> .agg [(di x.aT),(di x.aL),(di x.aO),(db x.aD)],4,λ_=>rfl⟩
def bB:En bP:=⟨λx=> .agg [(zI eI x.aY),(zI aG x.aV)],2,λ_=>rfl⟩
def bA:En cC:=⟨λx=> .agg [(ds x.bT),(di x.Lo),(di x.Hi)],3,λ_=>rfl⟩
def aH:En Collation:=⟨λx=> .agg [(zI bB x.aB),(zI bA x.aF),(di x.bL),(di x.bF),(di x.bK)],5,λ_=>rfl⟩
def aR:En bM:=⟨λx=> .agg [(di x.Lo),(di x.Hi),(di x.Value)],3,λ_=>rfl⟩
def bC:En bI:=⟨λx=> .agg [(zI bB x.c.aB),(zI bA x.c.aF),(di x.c.bL),(di x.c.bF),(di x.c.bK),(mpD zG3 (eL aG) x.entries),(di x.bV),(zI aR x.bR),(di x.top)],9,λ_=>rfl⟩
def aC:En aI:=⟨λx=> .agg [(di x.aW),(zI eI x.To),(ds x.bO)],3,λ_=>rfl⟩
def cG:En bN:=⟨λx=> .agg [(di x.cH),(ds x.cM)],2,λ_=>rfl⟩
def bY:En Set:=⟨λx=> .agg [(zI aE x.Ranges)],1,λ_=>rfl⟩
def bD:En Norm:=⟨λx=> .agg [(zI aR x.aK),(zI aC x.aA),(zI aE x.aN.Ranges)],3,λ_=>rfl⟩
def bH:En Options:=⟨λx=> .agg [(di x.aJ),(di x.aD),(db x.aQ),(db x.aU)],4,λ_=>rfl⟩
def bJ:En bQ:=⟨λx=> .agg [(zI aR x.norm.aK),(zI aC x.norm.aA),(zI aE x.norm.aN.Ranges),(zI bB x.b0.aB),(zI bA x.b0.aF),(di x.b0.bL),(di x.b0.bF),(di x.b0.bK),(di x.cD.aJ),(di x.cD.aD),(db x.cD.aQ),(db x.cD.aU),(zI eI x.text),(zI (eL eI) x.wanted),(zI aG x.bX),(zI eI x.b8),(mpD kI eI x.cg),(mpD kI eI x.b6)],18,λ_=>rfl⟩
def aS:En a8:=⟨λx=> .agg [(zI aR x.Norm.aK),(zI aC x.Norm.aA),(zI aE x.Norm.aN.Ranges),(zI bB x.Collation.aB),(zI bA x.Collation.aF),(di x.Collation.bL),(di x.Collation.bF),(di x.Collation.bK),(di x.Options.aJ),(di x.Options.aD),(db x.Options.aQ),(db x.Options.aU),(zI eI x.aX),(zI eI x.bU),(zI eI x.bZ)],15,λ_=>rfl⟩
end Go.AV
namespace Go.M
open Go.AV
noncomputable section
def zKV (h:(List bM)):Option (Bool):=
 some (decide ((h.length:Int)<=16))
def zCO (D:(List aI)) (k:Int):Option (Stp (Int) ((Unit)⊕(Bool))):=
(pv (decide (k<(D.length:Int)))).bind λO=>
 cond (O&&(decide (k<30))) ((yD D k).bind λH=>
(pv (decide (65<(H.To.length:Int)))).bind λh=>
(gM (!h) (yD D k)).bind λK=>
 cond (h ||(decide (40<(K.bO.length:Int)))) (some (.done (.inr (false)))) (some (.next (wi (k+1))))) (some (.done (.inl (()))))
def zHW (k:(List aI)):Option (Bool):=
(zF (λ(x:Int)=>zCO k x) 0).bind λ(h:(Unit)⊕(Bool))=>
 h.elim (λh=>some (decide ((k.length:Int)<=20))) (λh=>some h)
def zKW (h:Set):Option (Bool):=
 some (decide ((h.Ranges.length:Int)<=12))
def zHX (k:Norm):Option (Bool):=
(zKV k.aK).bind λK=>
(pv K).bind λH=>
(gM H (zHW k.aA)).bind λO=>
(pv (H&&O)).bind λh=>
(gM h (zKW k.aN)).bind λD=>
 some (h&&D)
def zCP (D:Collation) (k:Int):Option (Stp (Int) ((Unit)⊕(Bool))):=
 cond (decide (k<(D.aB.length:Int))) ((yD D.aB k).bind λH=>
(pv (decide (10<(H.aY.length:Int)))).bind λh=>
(gM (!h) (yD D.aB k)).bind λK=>
 cond (h ||(decide (20<(K.aV.length:Int)))) (some (.done (.inr (false)))) (some (.next (wi (k+1))))) (some (.done (.inl (()))))
def zHY (k:Collation):Option (Bool):=
(pv (decide (12<(k.aB.length:Int)))).bind λD=>
 cond (D ||(decide (8<(k.aF.length:Int)))) (some false) ((zF (λ(x:Int)=>zCP k x) 0).bind λ(h:(Unit)⊕(Bool))=>
 h.elim (λh=>some true) (λh=>some h))
def zJD (h:(List Int)) (a1:Int):Option (Bool):=
 some (decide ((h.length:Int)<=a1))
def zER (h:a8):Option (Bool):=
(zHX h.Norm).bind λZ=>
(pv Z).bind λY=>
(gM Y (zHY h.Collation)).bind λt9=>
(pv (Y&&t9)).bind λk=>
(gM k (zJD h.aX 4)).bind λK=>
(pv (k&&K)).bind λD=>
(gM D (zJD h.bU 8)).bind λO=>
(pv (D&&O)).bind λH=>
(gM H (zJD h.bZ 8)).bind λT=>
 some (H&&T)
def zHN:Option (Collation):=
 some ({aB:=[({aY:=[65],aV:=[({aT:=5,aL:=32,aO:=8,aD:=false}:aP)]}:bP),({aY:=[97],aV:=[({aT:=5,aL:=32,aO:=2,aD:=false}:aP)]}:bP),({aY:=[769],aV:=[({aT:=0,aL:=40,aO:=2,aD:=false}:aP)]}:bP)],aF:=[],bL:=64448,bF:=32,bK:=2}:Collation)
def zIR (D:Int):Option (Int):=
(cond (decide (4294967296<=D)) (some (D/2 ^ 32,32)) (some (D,0))).bind λ(h:Int×Int)=>
(cond (decide (65536<=h.1)) (some (h.1/2 ^ 16,wi (h.2+16))) (some (h.1,h.2))).bind λ(k:Int×Int)=>
(cond (decide (256<=k.1)) (some (k.1/2 ^ 8,wi (k.2+8))) (some (k.1,k.2))).bind λ(K:Int×Int)=>
(z3G [0,1,2,2,3,3,3,3,4,4,4,4,4,4,4,4,5,5,5,5,5,5,5,5,5,5,5,5,5,5,5,5,6,6,6,6,6,6,6,6,6,6,6,6,6,6,6,6,6,6,6,6,6,6,6,6,6,6,6,6,6,6,6,6,7,7,7,7,7,7,7,7,7,7,7,7,7,7,7,7,7,7,7,7,7,7,7,7,7,7,7,7,7,7,7,7,7,7,7,7,7,7,7,7,7,7,7,7,7,7,7,7,7,7,7,7,7,7,7,7,7,7,7,7,7,7,7,7,8,8,8,8,8,8,8,8,8,8,8,8,8,8,8,8,8,8,8,8,8,8,8,8,8,8,8,8,8,8,8,8,8,8,8,8,8,8,8,8,8,8,8,8,8,8,8,8,8,8,8,8,8,8,8,8,8,8,8,8,8,8,8,8,8,8,8,8,8,8,8,8,8,8,8,8,8,8,8,8,8,8,8,8,8,8,8,8,8,8,8,8,8,8,8,8,8,8,8,8,8,8,8,8,8,8,8,8,8,8,8,8,8,8,8,8,8,8,8,8,8,8,8,8,8,8,8,8] ((IntKind.u8.wrap) K.1)).bind λH=>
 some (wi (K.2+(wi H)))
def zE4 (h:Int):Option (Int):=
(zIR h).bind λk=>
 some k
def zE5 (h:Int):Option (Bool):=
 some (!decide (h=h))
def wP (O:(List Int)) (a1:Int) (H:Int) (h:(List Int)):Option (Stp (Int×(List Int)) (((List Int)))):=
 cond (decide (H<(O.length:Int))) (((yD O H).bind λD=>
(pv (decide (0<=D))).bind λK=>
 cond (K&&(decide (D<=a1))) ((app h [D]).bind λk=>
 some k) (some h)).bind λ(T:(List Int))=>
 some (.next (wi (H+1),T))) (some (.done h))
def zCQ (D:(List Int)) (a1:Int):Option ((List Int)):=
(zF (λ(x:Int×(List Int))=>wP D a1 x.1 x.2) (0,[])).bind λ(H:(List Int))=>
(z9N H).bind λh=>
(z9O h).bind λk=>
 some k
def zBF (h:Int):Option (Bool):=
(pv (decide (1<=h))).bind λk=>
 some (k&&(decide (h<=65535)))
def wQ (Z:Str) (Y:Int):Option (Stp (Int) ((Unit)⊕(Bool))):=
 cond (decide (Y<(Z.length:Int))) ((z3G Z Y).bind λh=>
(pv (decide (65<=h))).bind λk=>
(pv (k&&(decide (h<=90)))).bind λD=>
(pv (decide (97<=h))).bind λH=>
(pv (D ||(H&&(decide (h<=122))))).bind λK=>
(pv (decide (48<=h))).bind λO=>
(pv (K ||(O&&(decide (h<=57))))).bind λT=>
 cond (!(T ||(decide (h=95)))) (some (.done (.inr (false)))) (some (.next (wi (Y+1))))) (some (.done (.inl (()))))
def zCR (k:Str):Option (Bool):=
(zF (λ(x:Int)=>wQ k x) 0).bind λ(h:(Unit)⊕(Bool))=>
 h.elim (λh=>(pv (!(k== []))).bind λD=>
 some (D&&(decide ((k.length:Int)<=32)))) (λh=>some h)
def xP (H:Collation) (h:Int):Option (Stp (Int) ((Unit)⊕(Int))):=
 cond (decide (h<(H.aF.length:Int))) ((yD H.aF h).bind λk=>
(zCR k.bT).bind λD=>
 cond (!D) (some (.done (.inr (6)))) (some (.next (wi (h+1))))) (some (.done (.inl (()))))
def jX (H:Collation) (h:Int) (k:(List (Str×Bool))):Option (Stp (Int×(List (Str×Bool))) ((Unit)⊕(Int))):=
 cond (decide (h<(H.aF.length:Int))) ((yD H.aF h).bind λD=>
 cond (mgetD k D.bT false) (some (.done (.inr (5)))) (some (.next (wi (h+1),vD k D.bT true)))) (some (.done (.inl (()))))
def xQ (D:Collation) (k:Int):Option (Stp (Int) ((Unit)⊕(Int))):=
 cond (decide (k<(D.aF.length:Int))) ((yD D.aF k).bind λh=>
(pv (decide (h.Lo<1))).bind λH=>
(pv (H ||(decide (h.Hi<h.Lo)))).bind λK=>
 cond (K ||(decide (D.bL<=h.Hi))) (some (.done (.inr (1)))) (some (.next (wi (k+1))))) (some (.done (.inl (()))))
def xR (D:Collation) (h:Int):Option (Stp (Int) ((Unit)⊕(Int))):=
 cond (decide (h<(D.aF.length:Int))) ((yD D.aF h).bind λH=>
(pv (decide (0<h))).bind λk=>
(gM k (yD D.aF (wi (h-1)))).bind λK=>
 cond (k&&(!decide (H.Lo=(wi (K.Hi+1))))) (some (.done (.inr (4)))) (some (.next (wi (h+1))))) (some (.done (.inl (()))))
def uD (h:Collation):Option (Int):=
(zF (λ(x:Int)=>xP h x) 0).bind λ(k:(Unit)⊕(Int))=>
 k.elim (λk=>(zF (λ(x:Int×(List (Str×Bool)))=>jX h x.1 x.2) (0,[])).bind λ(D:(Unit)⊕(Int))=>
 D.elim (λD=>(zF (λ(x:Int)=>xQ h x) 0).bind λ(H:(Unit)⊕(Int))=>
 H.elim (λH=>(zF (λ(x:Int)=>xR h x) 0).bind λ(K:(Unit)⊕(Int))=>
 K.elim (λK=>some 0) (λK=>some K)) (λH=>some H)) (λD=>some D)) (λk=>some k)
def zAN (h:Int):Option (Bool):=
(pv (decide (0<=h))).bind λk=>
 some (k&&(decide (h<=1114111)))
def zA1 (h:aP) (k:Int):Option (Stp (Int) ((Unit)⊕(Int))):=
 cond (decide (k<3)) ((yD [({x0:=h.aT,x1:=h.aL,x2:=h.aO}:b4).x0,({x0:=h.aT,x1:=h.aL,x2:=h.aO}:b4).x1,({x0:=h.aT,x1:=h.aL,x2:=h.aO}:b4).x2] k).bind λD=>
(pv (decide (D<0))).bind λH=>
 cond (H ||(decide (65535<D))) (some (.done (.inr (1)))) (some (.next (wi (k+1))))) (some (.done (.inl (()))))
def zE6 (h:aP):Option (Int):=
(zF (λ(x:Int)=>zA1 h x) 0).bind λ(k:(Unit)⊕(Int))=>
 k.elim (λk=>(pv (!decide (h.aT=0))).bind λD=>
(pv (decide (h.aL=0))).bind λH=>
 cond (D&&(H ||(decide (h.aO=0)))) (some 11) ((pv (!decide (h.aL=0))).bind λK=>
 cond (K&&(decide (h.aO=0))) (some 11) ((pv h.aD).bind λO=>
 cond (O&&(decide (h.aT=0))) (some 11) (some 0)))) (λk=>some k)
def j6 (H:bP) (h:Int):Option (Stp (Int) ((Unit)⊕(Int))):=
 cond (decide (h<(H.aY.length:Int))) ((yD H.aY h).bind λk=>
(zAN k).bind λD=>
 cond (!D) (some (.done (.inr (1)))) (some (.next (wi (h+1))))) (some (.done (.inl (()))))
def wB (H:bP) (h:Int):Option (Stp (Int) ((Unit)⊕(Int))):=
 cond (decide (h<(H.aV.length:Int))) ((yD H.aV h).bind λD=>
(zE6 D).bind λk=>
 cond (!decide (k=0)) (some (.done (.inr (k)))) (some (.next (wi (h+1))))) (some (.done (.inl (()))))
def j7 (D:bP) (a1:Int) (h:Int):Option (Stp (Int) ((Unit)⊕(Int))):=
 cond (decide (h<(D.aV.length:Int))) ((yD D.aV h).bind λk=>
 cond (decide (a1<=k.aT)) (some (.done (.inr (1)))) (some (.next (wi (h+1))))) (some (.done (.inl (()))))
def u0 (h:bP) (a1:Int):Option (Int):=
(pv (decide ((h.aY.length:Int)<1))).bind λK=>
(pv (K ||(decide (8<(h.aY.length:Int))))).bind λO=>
 cond (O ||(decide (16<(h.aV.length:Int)))) (some 2) ((zF (λ(x:Int)=>j6 h x) 0).bind λ(k:(Unit)⊕(Int))=>
 k.elim (λk=>(zF (λ(x:Int)=>wB h x) 0).bind λ(D:(Unit)⊕(Int))=>
 D.elim (λD=>(zF (λ(x:Int)=>j7 h a1 x) 0).bind λ(H:(Unit)⊕(Int))=>
 H.elim (λH=>some 0) (λH=>some H)) (λD=>some D)) (λk=>some k))
def xL (k:Int) (a1:Int):Option (Int):=
(zE5 k).bind λD=>
(zE5 a1).bind λh=>
 cond D (cond h (some 0) (some (-1))) (cond h (some 1) (cond (decide (k<a1)) (some (-1)) (cond (decide (a1<k)) (some 1) (some 0))))
def vF (k:(List Int)) (a1:(List Int)) (h:Int):Option (Stp (Int) ((Unit)⊕(Int))):=
 cond (decide (h<(min (k.length:Int) (a1.length:Int)))) ((yD k h).bind λD=>
(yD a1 h).bind λH=>
 cond (!decide (D=H)) ((yD k h).bind λK=>
(yD a1 h).bind λO=>
(xL K O).bind λT=>
 some (.done (.inr (T)))) (some (.next (wi (h+1))))) (some (.done (.inl (()))))
def zB4 (D:(List Int)) (a1:(List Int)):Option (Int):=
(zF (λ(x:Int)=>vF D a1 x) 0).bind λ(h:(Unit)⊕(Int))=>
 h.elim (λh=>(xL (D.length:Int) (a1.length:Int)).bind λk=>
 some k) (λh=>some h)
def uI (K:Collation) (h:Int):Option (Stp (Int) ((Unit)⊕(Int))):=
 cond (decide (h<(K.aB.length:Int))) ((yD K.aB h).bind λD=>
(u0 D K.bL).bind λH=>
 cond (!decide (H=0)) (some (.done (.inr (H)))) ((pv (decide (0<h))).bind λk=>
(gM k (yD K.aB (wi (h-1)))).bind λO=>
(gM k (zB4 O.aY D.aY)).bind λT=>
 cond (k&&(decide (0<=T))) (some (.done (.inr (4)))) (some (.next (wi (h+1)))))) (some (.done (.inl (()))))
def zBS (h:Collation):Option (Int):=
(pv (decide (h.bL<1))).bind λO=>
(pv (O ||(decide (65502<h.bL)))).bind λk=>
(gM (!k) (zBF h.bF)).bind λT=>
(pv (k ||(!T))).bind λD=>
(gM (!D) (zBF h.bK)).bind λY=>
 cond (D ||(!Y)) (some 1) ((uD h).bind λH=>
 cond (!decide (H=0)) (some H) ((zF (λ(x:Int)=>uI h x) 0).bind λ(K:(Unit)⊕(Int))=>
 K.elim (λK=>some 0) (λK=>some K)))
def zDO (h:(List Int)):Option (bW):=
 some ({x0:=({x0:=(h.length:Int),x1:=0,x2:=0,x3:=0,x4:=0,x5:=0,x6:=0,x7:=0,x8:=0}:bW).x0,x1:=cpA h 0 (({x0:=(h.length:Int),x1:=0,x2:=0,x3:=0,x4:=0,x5:=0,x6:=0,x7:=0,x8:=0}:bW).x1),x2:=cpA h 1 (({x0:=(h.length:Int),x1:=0,x2:=0,x3:=0,x4:=0,x5:=0,x6:=0,x7:=0,x8:=0}:bW).x2),x3:=cpA h 2 (({x0:=(h.length:Int),x1:=0,x2:=0,x3:=0,x4:=0,x5:=0,x6:=0,x7:=0,x8:=0}:bW).x3),x4:=cpA h 3 (({x0:=(h.length:Int),x1:=0,x2:=0,x3:=0,x4:=0,x5:=0,x6:=0,x7:=0,x8:=0}:bW).x4),x5:=cpA h 4 (({x0:=(h.length:Int),x1:=0,x2:=0,x3:=0,x4:=0,x5:=0,x6:=0,x7:=0,x8:=0}:bW).x5),x6:=cpA h 5 (({x0:=(h.length:Int),x1:=0,x2:=0,x3:=0,x4:=0,x5:=0,x6:=0,x7:=0,x8:=0}:bW).x6),x7:=cpA h 6 (({x0:=(h.length:Int),x1:=0,x2:=0,x3:=0,x4:=0,x5:=0,x6:=0,x7:=0,x8:=0}:bW).x7),x8:=cpA h 7 (({x0:=(h.length:Int),x1:=0,x2:=0,x3:=0,x4:=0,x5:=0,x6:=0,x7:=0,x8:=0}:bW).x8)}:bW)
def wS (O:(List bP)×(List cC)×Int×Int×Int) (D:Int) (H:(List (bW×(List aP)))) (h:Int):Option (Stp (Int×(List (bW×(List aP)))×Int) (((List (bW×(List aP)))×Int))):=
 cond (decide (D<(O.1.length:Int))) ((yD O.1 D).bind λk=>
(zDO k.aY).bind λK=>
 some (.next (wi (D+1),vD H K k.aV,max h (k.aY.length:Int)))) (some (.done (H,h)))
def zEF (k:Collation):Option (bI):=
(zBS ({aB:=k.aB,aF:=k.aF,bL:=k.bL,bF:=k.bF,bK:=k.bK}:Collation)).bind λH=>
(cond (!decide (H=0)) (some (({aB:=[],aF:=[],bL:=64448,bF:=32,bK:=2}:Collation).aB,({aB:=[],aF:=[],bL:=64448,bF:=32,bK:=2}:Collation).aF,({aB:=[],aF:=[],bL:=64448,bF:=32,bK:=2}:Collation).bL,({aB:=[],aF:=[],bL:=64448,bF:=32,bK:=2}:Collation).bF,({aB:=[],aF:=[],bL:=64448,bF:=32,bK:=2}:Collation).bK)) (some (k.aB,k.aF,k.bL,k.bF,k.bK))).bind λ(h:(List bP)×(List cC)×Int×Int×Int)=>
(zF (λ(x:Int×(List (bW×(List aP)))×Int)=>wS h x.1 x.2.1 x.2.2) (0,[],0)).bind λ(D:(List (bW×(List aP)))×Int)=>
 some ({c:=({aB:=({aB:=h.1,aF:=h.2.1,bL:=h.2.2.1,bF:=h.2.2.2.1,bK:=h.2.2.2.2}:Collation).aB,aF:=({aB:=h.1,aF:=h.2.1,bL:=h.2.2.1,bF:=h.2.2.2.1,bK:=h.2.2.2.2}:Collation).aF,bL:=({aB:=h.1,aF:=h.2.1,bL:=h.2.2.1,bF:=h.2.2.2.1,bK:=h.2.2.2.2}:Collation).bL,bF:=({aB:=h.1,aF:=h.2.1,bL:=h.2.2.1,bF:=h.2.2.2.1,bK:=h.2.2.2.2}:Collation).bF,bK:=({aB:=h.1,aF:=h.2.1,bL:=h.2.2.1,bF:=h.2.2.2.1,bK:=h.2.2.2.2}:Collation).bK}:Collation),entries:=D.1,bV:=D.2,bR:=[],top:=0}:bI)
def zAD (T:(List bM)) (k:Int):Option (Stp (Int) ((Unit)⊕(Int))):=
 cond (decide (k<(T.length:Int))) ((yD T k).bind λh=>
(pv (decide (h.Lo<0))).bind λD=>
(pv (D ||(decide (1114111<h.Hi)))).bind λH=>
(pv (H ||(decide (h.Hi<h.Lo)))).bind λK=>
(pv (K ||(decide (h.Value<1)))).bind λO=>
 cond (O ||(decide (254<h.Value))) (some (.done (.inr (1)))) (some (.next (wi (k+1))))) (some (.done (.inl (()))))
def zAE (H:(List bM)) (D:Int):Option (Stp (Int) ((Unit)⊕(Int))):=
 cond (decide (D<(H.length:Int))) ((yD H (wi (D-1))).bind λh=>
(yD H D).bind λk=>
(pv (decide (k.Lo<=h.Hi))).bind λK=>
(pv (decide (k.Lo=(wi (h.Hi+1))))).bind λO=>
 cond (K ||(O&&(decide (k.Value=h.Value)))) (some (.done (.inr (4)))) (some (.next (wi (D+1))))) (some (.done (.inl (()))))
def wU (h:cE) (D:bM) (k:Int):Option (Stp (Int) ((Unit)⊕(Int))):=
 cond (decide (k<4)) ((yD [h.x0,h.x1,h.x2,h.x3] k).bind λH=>
(pv (decide (D.Lo<=H.Hi))).bind λK=>
 cond (K&&(decide (H.Lo<=D.Hi))) (some (.done (.inr (11)))) (some (.next (wi (k+1))))) (some (.done (.inl (()))))
def zAF (K:(List bM)) (h:Int):Option (Stp (Int) ((Unit)⊕(Int))):=
 cond (decide (h<(K.length:Int))) ((yD K h).bind λD=>
(pv ({x0:=({Lo:=4352,Hi:=4370}:Range),x1:=({Lo:=4449,Hi:=4469}:Range),x2:=({Lo:=4520,Hi:=4546}:Range),x3:=({Lo:=44032,Hi:=55203}:Range)}:cE)).bind λH=>
(zF (λ(x:Int)=>wU H D x) 0).bind λ(k:(Unit)⊕(Int))=>
 k.elim (λk=>some (.next (wi (h+1)))) (λk=>some (.done (.inr (k))))) (some (.done (.inl (()))))
def zCS (H:(List bM)):Option (Int):=
(zF (λ(x:Int)=>zAD H x) 0).bind λ(h:(Unit)⊕(Int))=>
 h.elim (λh=>(zF (λ(x:Int)=>zAE H x) 1).bind λ(k:(Unit)⊕(Int))=>
 k.elim (λk=>(zF (λ(x:Int)=>zAF H x) 0).bind λ(D:(Unit)⊕(Int))=>
 D.elim (λD=>some 0) (λD=>some D)) (λk=>some k)) (λh=>some h)
def zAG (Z:Str) (k:Int):Option (Stp (Int) ((Unit)⊕(Bool))):=
 cond (decide (k<(Z.length:Int))) ((z3G Z k).bind λh=>
(pv (decide (65<=h))).bind λD=>
(pv (D&&(decide (h<=90)))).bind λH=>
(pv (decide (97<=h))).bind λK=>
(pv (!(H ||(K&&(decide (h<=122)))))).bind λO=>
(pv (decide (48<=h))).bind λT=>
(pv (O&&(!(T&&(decide (h<=57)))))).bind λY=>
 cond (Y&&(!decide (h=95))) (some (.done (.inr (false)))) (some (.next (wi (k+1))))) (some (.done (.inl (()))))
def zEG (k:Str):Option (Bool):=
(pv (k== [])).bind λD=>
 cond (D ||(decide (32<(k.length:Int)))) (some false) ((zF (λ(x:Int)=>zAG k x) 0).bind λ(h:(Unit)⊕(Bool))=>
 h.elim (λh=>some true) (λh=>some h))
def zA2 (k:aI) (h:Int):Option (Stp (Int) ((Unit)⊕(Int))):=
 cond (decide (h<(k.To.length:Int))) ((yD k.To h).bind λD=>
(zAN D).bind λH=>
 cond (!H) (some (.done (.inr (1)))) (some (.next (wi (h+1))))) (some (.done (.inl (()))))
def zA3 (K:(List aI)) (h:Int):Option (Stp (Int) ((Unit)⊕(Int))):=
 cond (decide (h<(K.length:Int))) ((yD K h).bind λk=>
(zAN k.aW).bind λH=>
 cond (!H) (some (.done (.inr (1)))) ((zF (λ(x:Int)=>zA2 k x) 0).bind λ(D:(Unit)⊕(Int))=>
 D.elim (λD=>some (.next (wi (h+1)))) (λD=>some (.done (.inr (D)))))) (some (.done (.inl (()))))
def zA4 (D:(List aI)) (h:Int):Option (Stp (Int) ((Unit)⊕(Int))):=
 cond (decide (h<(D.length:Int))) ((yD D h).bind λk=>
 cond (decide (64<(k.To.length:Int))) (some (.done (.inr (2)))) (some (.next (wi (h+1))))) (some (.done (.inl (()))))
def zA5 (K:(List aI)) (h:Int):Option (Stp (Int) ((Unit)⊕(Int))):=
 cond (decide (h<(K.length:Int))) ((yD K h).bind λD=>
(pv (!(D.bO== []))).bind λk=>
(gM k (zEG D.bO)).bind λH=>
 cond (k&&(!H)) (some (.done (.inr (6)))) (some (.next (wi (h+1))))) (some (.done (.inl (()))))
def zE7 (H:(List aI)):Option (Int):=
(zF (λ(x:Int)=>zA3 H x) 0).bind λ(h:(Unit)⊕(Int))=>
 h.elim (λh=>(zF (λ(x:Int)=>zA4 H x) 0).bind λ(k:(Unit)⊕(Int))=>
 k.elim (λk=>(zF (λ(x:Int)=>zA5 H x) 0).bind λ(D:(Unit)⊕(Int))=>
 D.elim (λD=>some 0) (λD=>some D)) (λk=>some k)) (λh=>some h)
def zCT (h:Str):Option (Bool):=
 some (!(h==h))
def zBG (k:Str) (a1:Str):Option (Int):=
(zCT k).bind λD=>
(zCT a1).bind λh=>
 cond D (cond h (some 0) (some (-1))) (cond h (some 1) (cond (Op.bytesLess k a1) (some (-1)) (cond (!Op.bytesLess k a1&& !(k==a1)) (some 1) (some 0))))
def zDT (D:(List Int)) (k:Int):Option (Stp (Int) ((Unit)⊕(Int))):=
 cond (decide (k<(D.length:Int))) ((yD D k).bind λh=>
 cond (!decide (h=0)) (some (.done (.inr (h)))) (some (.next (wi (k+1))))) (some (.done (.inl (()))))
def zG4 (k:(List Int)):Option (Int):=
(zF (λ(x:Int)=>zDT k x) 0).bind λ(h:(Unit)⊕(Int))=>
 h.elim (λh=>some 0) (λh=>some h)
def zDP (D:aI) (a1:aI):Option (Int):=
(xL D.aW a1.aW).bind λH=>
(zBG D.bO a1.bO).bind λh=>
(zG4 [H,h]).bind λk=>
 some k
def zE8 (h:aI):Option (bN):=
 some ({cH:=h.aW,cM:=h.bO}:bN)
def uJ (k:(List aI)) (O:Bool) (h:Int):Option (Stp (Bool×Int) ((Bool))):=
 cond (decide (h<(k.length:Int))) (((yD k (wi (h-1))).bind λD=>
(yD k h).bind λH=>
(zDP D H).bind λK=>
 cond (decide (0<=K)) (some false) (some O)).bind λ(T:Bool)=>
 some (.next (T,wi (h+1)))) (some (.done O))
def uK (O:(List aI)) (h:Int) (k:(List (bN×Bool))):Option (Stp (Int×(List (bN×Bool))) ((Unit)⊕(Int))):=
 cond (decide (h<(O.length:Int))) ((yD O h).bind λD=>
(zE8 D).bind λH=>
 cond (mgetD k H false) (some (.done (.inr (5)))) ((zE8 D).bind λK=>
 some (.next (wi (h+1),vD k K true)))) (some (.done (.inl (()))))
def zE9 (D:(List aI)):Option (Int):=
(zE7 D).bind λh=>
 cond (!decide (h=0)) (some h) ((zF (λ(x:Bool×Int)=>uJ D x.1 x.2) (true,1)).bind λ(H:Bool)=>
 cond H (some 0) ((zF (λ(x:Int×(List (bN×Bool)))=>uK D x.1 x.2) (0,[])).bind λ(k:(Unit)⊕(Int))=>
 k.elim (λk=>some 4) (λk=>some k)))
def yZ (a1:Int) (a3:Range->Range->Option (Int)) (H:Int) (h:(List Range)):Option (Stp (Int×(List Range)) (((List Range)))):=
(pv (decide (a1<H))).bind λK=>
(gM K (yD h H)).bind λO=>
(gM K (yD h (wi (H-1)))).bind λT=>
(gM K (a3 O T)).bind λY=>
 cond (K&&(decide (Y<0))) ((yD h (wi (H-1))).bind λZ=>
(yD h H).bind λaa=>
(yD h H).bind λab=>
(zBD h H Z).bind λk=>
(yD k (wi (H-1))).bind λac=>
(zBD k (wi (H-1)) aa).bind λD=>
 some (.next (wi (H-1),D))) (some (.done h))
def yL (a2:Int) (a1:Int) (a3:Range->Range->Option (Int)) (k:Int) (h:(List Range)):Option (Stp (Int×(List Range)) (((List Range)))):=
 cond (decide (k<a2)) ((zF (λ(x:Int×(List Range))=>yZ a1 a3 x.1 x.2) (k,h)).bind λ(D:(List Range))=>
 some (.next (wi (k+1),D))) (some (.done h))
def jB (h:(List Range)) (a1:Int) (a2:Int) (a3:Range->Range->Option (Int)):Option ((List Range)):=
(zF (λ(x:Int×(List Range))=>yL a2 a1 a3 x.1 x.2) (wi (a1+1),h)).bind λ(k:(List Range))=>
 some k
def kZ (a2:Int) (a1:Int) (k:(List Range)) (D:Range->Range->Option (Int)) (a3:Int):Option (Stp (Unit) (((List Range)))):=
(cond (decide ((wi (a2-a1))<=12)) ((jB k a1 a2 D).bind λh=>
 some h) (cond (decide (a3=0)) (none) ((cond (!true) (none) (some ())).bind λ(K:Unit)=>
 none))).bind λ(H:(List Range))=>
 some (.done H)
def wE (h:(List Range)) (a1:Int) (a2:Int) (a3:Int) (k:Range->Range->Option (Int)):Option ((List Range)):=
(zF (λ(_:Unit)=>kZ a2 a1 h k a3) ()).bind λ(D:(List Range))=>
 some D
def jE (h:(List Range)) (a1:Range->Range->Option (Int)):Option ((List Range)):=
(zE4 (wu (h.length:Int))).bind λk=>
(wE h 0 (h.length:Int) k a1).bind λD=>
 some D
def zB5 (D:Range) (a1:Range):Option (Int):=
(xL D.Lo a1.Lo).bind λH=>
(xL D.Hi a1.Hi).bind λh=>
(zG4 [H,h]).bind λk=>
 some k
def zCD (K:(List Range)) (H:Int) (h:(List Range)):Option (Stp (Int×(List Range)) (((List Range)))):=
 cond (decide (H<(K.length:Int))) (((yD K H).bind λk=>
 cond (decide ((({Lo:=max k.Lo 0,Hi:=min k.Hi 1114111}:Range).Lo)<=(({Lo:=max k.Lo 0,Hi:=min k.Hi 1114111}:Range).Hi))) ((app h [({Lo:=max k.Lo 0,Hi:=min k.Hi 1114111}:Range)]).bind λD=>
 some D) (some h)).bind λ(O:(List Range))=>
 some (.next (wi (H+1),O))) (some (.done h))
def zCE (T:(List Range)) (K:Int) (h:(List Range)):Option (Stp (Int×(List Range)) (((List Range)))):=
 cond (decide (K<(T.length:Int))) (((yD T K).bind λH=>
(pv (decide (0<(h.length:Int)))).bind λO=>
(gM O (yD h (wi ((h.length:Int)-1)))).bind λY=>
 cond (O&&(decide (H.Lo<=(wi (Y.Hi+1))))) ((yD h (wi ((h.length:Int)-1))).bind λZ=>
(yD h (wi ((h.length:Int)-1))).bind λaa=>
(zBD h (wi ((h.length:Int)-1)) ({aa with Hi:=max Z.Hi H.Hi})).bind λk=>
 some k) ((app h [H]).bind λD=>
 some D)).bind λ(y5:(List Range))=>
 some (.next (wi (K+1),y5))) (some (.done h))
def zJQ (k:(List Range)):Option (Set):=
(zF (λ(x:Int×(List Range))=>zCD k x.1 x.2) (0,[])).bind λ(D:(List Range))=>
(jE D (λx0 x1=>zB5 x0 x1)).bind λh=>
(zF (λ(x:Int×(List Range))=>zCE h x.1 x.2) (0,[])).bind λ(H:(List Range))=>
 some ({Ranges:=H}:Set)
def zCU (H:Set) (K:Set) (h:Int):Option (Stp (Int) ((Unit)⊕(Bool))):=
 cond (decide (h<(H.Ranges.length:Int))) ((yD H.Ranges h).bind λk=>
(yD K.Ranges h).bind λD=>
 cond (!decide (k=D)) (some (.done (.inr (false)))) (some (.next (wi (h+1))))) (some (.done (.inl (()))))
def zHZ (k:Set):Option (Bool):=
(zJQ k.Ranges).bind λD=>
 cond (!decide ((D.Ranges.length:Int)=(k.Ranges.length:Int))) (some false) ((zF (λ(x:Int)=>zCU D k x) 0).bind λ(h:(Unit)⊕(Bool))=>
 h.elim (λh=>some true) (λh=>some h))
def zEH (h:Int):Option (Int):=
(pv (decide (4352<=h))).bind λO=>
 cond (O&&(decide (h<4371))) (some 1) ((pv (decide (4449<=h))).bind λk=>
 cond (k&&(decide (h<4470))) (some 2) ((pv (decide (4520<=h))).bind λD=>
 cond (D&&(decide (h<4547))) (some 3) ((pv (decide (h<44032))).bind λH=>
 cond (H ||(decide (55204<=h))) (some 0) ((zKJ (wi (h-44032)) 28).bind λK=>
 cond (decide (K=0)) (some 4) (some 5)))))
def zBT (h:(List bM)):Option ((List bM)):=
(zCS h).bind λk=>
 cond (!decide (k=0)) (some []) (some h)
def yG (O:(List bM)) (a2:bM->Int->Option (Int)) (a1:Int) (k:Int) (h:Int):Option (Stp (Int×Int) ((Int))):=
 cond (decide (k<h)) (((yD O (wi ((wu (wi (k+h)))/2 ^ 1))).bind λD=>
(a2 D a1).bind λH=>
 cond (decide (H<0)) (some (wi ((wi ((wu (wi (k+h)))/2 ^ 1))+1),h)) (some (k,wi ((wu (wi (k+h)))/2 ^ 1)))).bind λ(K:Int×Int)=>
 some (.next (K.1,K.2))) (some (.done k))
def jA (k:(List bM)) (a1:Int) (a2:bM->Int->Option (Int)):Option (Int×Bool):=
(zF (λ(x:Int×Int)=>yG k a2 a1 x.1 x.2) (0,(k.length:Int))).bind λ(K:Int)=>
(pv (decide (K<(k.length:Int)))).bind λh=>
(gM h (yD k K)).bind λD=>
(gM h (a2 D a1)).bind λH=>
 some (K,(h&&(decide (H=0))))
def zA6 (h:bM) (a1:Int):Option (Int):=
 cond (decide (h.Hi<a1)) (some (-1)) (cond (decide (a1<h.Lo)) (some 1) (some 0))
def jD (D:(List bM)) (a1:Int):Option (Int):=
(jA D a1 (λx0 x1=>zA6 x0 x1)).bind λh=>
 cond (!h.2) (some 0) ((yD D h.1).bind λk=>
 some k.Value)
def k4 (a1:(List Int)) (a2:(List bM)) (items:(List (Range))) (O:Int) (k:Int) (h:Nat):Option (Stp (Int×Int×Nat) ((Int×Nat)⊕(Nat))):=
 cond (decide (k<(a1.length:Int))) (((yD a1 k).bind λZ=>
(jD a2 Z).bind λK=>
((pv (!(decide (K=0)))).bind λT=>
 cond (T&&(decide (O<0))) (some (.inl ((k,h)))) ((pv (decide (K=0))).bind λY=>
 cond (Y&&(decide (0<=O))) ((yM items h ({Lo:=O,Hi:=k}:Range)).bind λaa=>
 cond (!true) (some (.inr (h+1))) (some (.inl (((-1),h+1))))) (some (.inl ((O,h)))))).bind λ(H:(Int×Nat)⊕(Nat))=>
 H.elim (λH=>some (.inl ((H.1,H.2)))) (λH=>some (.inr (H)))).bind λ(D:(Int×Nat)⊕(Nat))=>
 D.elim (λD=>some (.next (D.1,wi (k+1),D.2))) (λD=>some (.done (.inr (D))))) (some (.done (.inl ((O,h)))))
def zBU (items:List Range) (a1:(List Int)) (a2:(List bM)):Option Unit:=
(zF (λ(x:Int×Int×Nat)=>k4 a1 a2 items x.1 x.2.1 x.2.2) ((-1),0,0)).bind λ(h:(Int×Nat)⊕(Nat))=>
 h.elim (λh=>cond (decide (0<=h.1)) ((yM items h.2 ({Lo:=h.1,Hi:=(a1.length:Int)}:Range)).bind λk=>
 zV9 items (h.2+1)) (zV9 items h.2)) (λh=>zV9 items h)
def wA (st:Int->Bool):List Int->Int->Int->List Range
 | [],i,s=>if 0<=s then [{Lo:=s,Hi:=i}] else []
 | c::r,i,s=>if !st c&&decide (s<0) then wA st r (i+1) i else if st c&&decide (0<=s) then {Lo:=s,Hi:=i}::wA st r (i+1) (-1) else wA st r (i+1) s
def yOR {h:Type} (l:List h):Option (List h):=if l.length<=LIM then some l else none
def zFA (k:List bM) (a1:List Int):Option (List Range):=(zBT k).bind λh=>(zBU (wA (λc=>jD h c==some 0) a1 0 (-1)) a1 h).bind λ_=>yOR (wA (λc=>jD h c==some 0) a1 0 (-1))
def zI3 (D:Int):Option (b4):=
(zEH D).bind λY=>
 cond (decide (Y<4)) (some ({x0:=0,x1:=0,x2:=0}:b4)) ((zNY wi (wi (D-44032)) 28).bind λH=>
(zNY wi H 21).bind λh=>
(zNY wi (wi (D-44032)) 28).bind λK=>
(zKJ K 21).bind λk=>
(zKJ (wi (D-44032)) 28).bind λO=>
(cond (decide (0<O)) ((zKJ (wi (D-44032)) 28).bind λT=>
 some (wi ((wi (4520+T))-1))) (some (({x0:=wi (4352+h),x1:=wi (4449+k),x2:=0}:b4).x2))).bind λ(Z:Int)=>
 some ({x0:=({x0:=wi (4352+h),x1:=wi (4449+k),x2:=0}:b4).x0,x1:=({x0:=wi (4352+h),x1:=wi (4449+k),x2:=0}:b4).x1,x2:=Z}:b4))
def zCV (k:Int):Option ((List Int)):=
(zI3 k).bind λh=>
 cond (decide (h=({x0:=0,x1:=0,x2:=0}:b4))) (some [k]) (cond (decide (h.x2=0)) (some [h.x0,h.x1]) (some [h.x0,h.x1,h.x2]))
def yB (O:(List aI)) (a2:aI->Int->Option (Int)) (a1:Int) (k:Int) (h:Int):Option (Stp (Int×Int) ((Int))):=
 cond (decide (k<h)) (((yD O (wi ((wu (wi (k+h)))/2 ^ 1))).bind λD=>
(a2 D a1).bind λH=>
 cond (decide (H<0)) (some (wi ((wi ((wu (wi (k+h)))/2 ^ 1))+1),h)) (some (k,wi ((wu (wi (k+h)))/2 ^ 1)))).bind λ(K:Int×Int)=>
 some (.next (K.1,K.2))) (some (.done k))
def yR (k:(List aI)) (a1:Int) (a2:aI->Int->Option (Int)):Option (Int×Bool):=
(zF (λ(x:Int×Int)=>yB k a2 a1 x.1 x.2) (0,(k.length:Int))).bind λ(K:Int)=>
(pv (decide (K<(k.length:Int)))).bind λh=>
(gM h (yD k K)).bind λD=>
(gM h (a2 D a1)).bind λH=>
 some (K,(h&&(decide (H=0))))
def uL (h:aI) (a1:Int):Option (Int):=
(xL h.aW a1).bind λk=>
 some k
def u2 (D:Norm) (a1:Int) (a2:Bool):Option ((List Int)×Bool):=
(zEH a1).bind λK=>
 cond (decide (4<=K)) ((zCV a1).bind λO=>
 some (O,true)) ((yR D.aA a1 (λx0 x1=>uL x0 x1)).bind λh=>
(pv (!h.2)).bind λk=>
(gM (!k) (yD D.aA h.1)).bind λT=>
(pv (!(T.bO== []))).bind λH=>
 cond (k ||(H&&(!a2))) (some ([],false)) ((yD D.aA h.1).bind λY=>
 some (Y.To,true)))
def jS (O:(List Int)×Bool) (Y:(Int->Norm->(List (Int×Int))->Bool->Bool->Option (Int×Bool×Bool×(List (Int×Int))))) (a1:Norm) (T:Int) (K:Int) (h:Bool) (k:Bool) (D:(List (Int×Int))):Option (Stp (Int×Int×Bool×Bool×(List (Int×Int))) ((Int×Bool×Bool×(List (Int×Int))))):=
 cond (decide (K<(O.1.length:Int))) ((yD O.1 K).bind λZ=>
(Y Z a1 D h k).bind λH=>
 some (.next (min (wi (T+H.1)) 65,wi (K+1),H.2.1,H.2.2.1,H.2.2.2))) (some (.done (T,h,k,D)))
def jJ (Y:Int->Norm->(List (Int×Int))->Bool->Bool->Option (Int×Bool×Bool×(List (Int×Int)))) (k:Int) (a1:Norm) (a2:(List (Int×Int))) (a3:Bool) (H:Bool):Option (Int×Bool×Bool×(List (Int×Int))):=
(u2 a1 k true).bind λh=>
(pv (!h.2)).bind λK=>
 cond (K ||(decide ((h.1.length:Int)=0))) (some (1,a3,H,a2)) (cond (zDM a2 k) ((pv a3).bind λO=>
 some (max (mgetD a2 k 0) 1,(O ||(decide ((mgetD a2 k 0)=(-1)))),H,a2)) ((zF (λ(x:Int×Int×Bool×Bool×(List (Int×Int)))=>jS h Y a1 x.1 x.2.1 x.2.2.1 x.2.2.2.1 x.2.2.2.2) (0,0,a3,H,vD a2 k (-1))).bind λ(D:Int×Bool×Bool×(List (Int×Int)))=>
(pv D.2.2.1).bind λT=>
 some (D.1,D.2.1,(T ||(decide (64<D.1))),vD D.2.2.2 k D.1)))
def yJ:Nat->Int->Norm->(List (Int×Int))->Bool->Bool->Option (Int×Bool×Bool×(List (Int×Int)))
 | 0=>λ_ _ _ _ _=>none
 | n+1=>jJ (yJ n)
def k8 (K:Norm) (H:Int) (h:Bool) (k:Bool) (T:(List (Int×Int))):Option (Stp (Int×Bool×Bool×(List (Int×Int))) ((Bool×Bool))):=
 cond (decide (H<(K.aA.length:Int))) ((yD K.aA H).bind λO=>
(yJ 100 O.aW K T h k).bind λD=>
 some (.next (wi (H+1),D.2.1,D.2.2.1,D.2.2.2))) (some (.done (h,k)))
def decompose_measure (k:Norm):Option (Bool×Bool):=
(zF (λ(x:Int×Bool×Bool×(List (Int×Int)))=>k8 k x.1 x.2.1 x.2.2.1 x.2.2.2) (0,false,false,[])).bind λ(h:Bool×Bool)=>
 some (h.1,h.2)
def uM (k:Norm) (h:Int):Option (Stp (Int) ((Unit)⊕(Int))):=
 cond (decide (h<(k.aA.length:Int))) ((yD k.aA h).bind λD=>
(yD k.aA (wi (h-1))).bind λH=>
 cond (decide (D.aW=H.aW)) (some (.done (.inr (5)))) (some (.next (wi (h+1))))) (some (.done (.inl (()))))
def uN (K:Norm) (k:Int):Option (Stp (Int) ((Unit)⊕(Int))):=
 cond (decide (k<(K.aA.length:Int))) ((yD K.aA k).bind λh=>
(pv (h.bO== [])).bind λD=>
(pv (D&&(!decide ((h.To.length:Int)=1)))).bind λH=>
 cond (H&&(!decide ((h.To.length:Int)=2))) (some (.done (.inr (8)))) (some (.next (wi (k+1))))) (some (.done (.inl (()))))
def kD (T:Norm) (H:Int) (h:(List Int)):Option (Stp (Int×(List Int)) (((List Int))⊕(Int))):=
 cond (decide (H<(T.aA.length:Int))) (((yD T.aA H).bind λD=>
(zEH D.aW).bind λO=>
 cond (!decide (O=0)) (some (.inr (()))) (cond (!(D.bO== [])) ((app h [D.aW]).bind λk=>
 some (.inl (k))) (some (.inl (h))))).bind λ(K:((List Int))⊕(Unit))=>
 K.elim (λK=>some (.next (wi (H+1),K))) (λK=>some (.done (.inr (11))))) (some (.done (.inl (h))))
def zBV (h:Norm):Option (Int):=
(zCS h.aK).bind λD=>
 cond (!decide (D=0)) (some D) ((zE9 h.aA).bind λH=>
 cond (!decide (H=0)) (some H) ((zHZ h.aN).bind λY=>
 cond (!Y) (some 11) ((zF (λ(x:Int)=>uM h x) 1).bind λ(O:(Unit)⊕(Int))=>
 O.elim (λO=>(zF (λ(x:Int)=>uN h x) 0).bind λ(T:(Unit)⊕(Int))=>
 T.elim (λT=>(zF (λ(x:Int×(List Int))=>kD h x.1 x.2) (0,[])).bind λ(K:((List Int))⊕(Int))=>
 K.elim (λK=>(zFA h.aK K).bind λZ=>
 cond (decide (0<(Z.length:Int))) (some 11) ((decompose_measure h).bind λk=>
 cond k.1 (some 12) (cond k.2 (some 13) (some 0)))) (λK=>some K)) (λT=>some T)) (λO=>some O))))
def j8 (H:(List bM)) (k:Int) (h:Int):Option (Stp (Int×Int) ((Int))):=
 cond (decide (k<(H.length:Int))) ((yD H k).bind λD=>
 some (.next (wi (k+1),max h D.Value))) (some (.done h))
def u3 (h:bI) (a1:Norm):Option (bI):=
(zBV a1).bind λD=>
(cond (decide (D=0)) (some a1.aK) (some h.bR)).bind λ(k:(List bM))=>
(zF (λ(x:Int×Int)=>j8 k x.1 x.2) (0,h.top)).bind λ(H:Int)=>
 some ({c:=({aB:=h.c.aB,aF:=h.c.aF,bL:=h.c.bL,bF:=h.c.bF,bK:=h.c.bK}:Collation),entries:=h.entries,bV:=h.bV,bR:=k,top:=H}:bI)
def zA7 (h:Norm):Option (Norm):=
(zBV h).bind λk=>
 cond (!decide (k=0)) (some ({aK:=({aK:=[],aA:=[],aN:=(({Ranges:=[]}):Set)}:Norm).aK,aA:=({aK:=[],aA:=[],aN:=(({Ranges:=[]}):Set)}:Norm).aA,aN:=({Ranges:=(({aK:=[],aA:=[],aN:=(({Ranges:=[]}):Set)}:Norm).aN).Ranges}:Set)}:Norm)) (some h)
def jL (K:(List Int)×Bool) (T:(Int->(List (Int×(List Int)))->Norm->Bool->Option ((List Int)×(List (Int×(List Int)))))) (a2:Norm) (a3:Bool) (H:Int) (h:(List Int)) (D:(List (Int×(List Int)))):Option (Stp (Int×(List Int)×(List (Int×(List Int)))) (((List Int)×(List (Int×(List Int)))))):=
 cond (decide (H<(K.1.length:Int))) ((yD K.1 H).bind λY=>
(T Y D a2 a3).bind λO=>
(app h O.1).bind λk=>
 some (.next (wi (H+1),k,O.2))) (some (.done (h,D)))
def vO (D:Int->(List (Int×(List Int)))->Norm->Bool->Option ((List Int)×(List (Int×(List Int))))) (h:Int) (a1:(List (Int×(List Int)))) (a2:Norm) (a3:Bool):Option ((List Int)×(List (Int×(List Int)))):=
 cond (zDM a1 h) (some (mgetD a1 h [],a1)) ((u2 a2 h a3).bind λk=>
 cond (!k.2) (some ([h],a1)) ((zF (λ(x:Int×(List Int)×(List (Int×(List Int))))=>jL k D a2 a3 x.1 x.2.1 x.2.2) (0,[],a1)).bind λ(H:(List Int)×(List (Int×(List Int))))=>
 some (H.1,vD H.2 h H.1)))
def kU:Nat->Int->(List (Int×(List Int)))->Norm->Bool->Option ((List Int)×(List (Int×(List Int))))
 | 0=>λ_ _ _ _=>none
 | n+1=>vO (kU n)
def zDH (h:Norm) (a1:Bool):Option (Unit):=
 some ()
def zB6 (h:(List Int)):Option ((List Int)):=app [] h
def vY (D:Int) (a1:Int) (a2:(List bM)):Option (Int):=
(jD a2 D).bind λH=>
(jD a2 a1).bind λh=>
(xL H h).bind λk=>
 some k
def yC (a1:Int) (a3:Int->Int->Option (Int)) (H:Int) (h:(List Int)):Option (Stp (Int×(List Int)) (((List Int)))):=
(pv (decide (a1<H))).bind λK=>
(gM K (yD h H)).bind λO=>
(gM K (yD h (wi (H-1)))).bind λT=>
(gM K (a3 O T)).bind λY=>
 cond (K&&(decide (Y<0))) ((yD h (wi (H-1))).bind λZ=>
(yD h H).bind λaa=>
(yD h H).bind λab=>
(zBD h H Z).bind λk=>
(yD k (wi (H-1))).bind λac=>
(zBD k (wi (H-1)) aa).bind λD=>
 some (.next (wi (H-1),D))) (some (.done h))
def z8 (a2:Int) (a1:Int) (a3:Int->Int->Option (Int)) (k:Int) (h:(List Int)):Option (Stp (Int×(List Int)) (((List Int)))):=
 cond (decide (k<a2)) ((zF (λ(x:Int×(List Int))=>yC a1 a3 x.1 x.2) (k,h)).bind λ(D:(List Int))=>
 some (.next (wi (k+1),D))) (some (.done h))
def kV (h:(List Int)) (a1:Int) (a2:Int) (a3:Int->Int->Option (Int)):Option ((List Int)):=
(zF (λ(x:Int×(List Int))=>z8 a2 a1 a3 x.1 x.2) (wi (a1+1),h)).bind λ(k:(List Int))=>
 some k
def kG (a3:Int) (a2:Int) (a1:Int) (H:Int) (k:(List Int)):Option (Stp (Int×(List Int)) (((List Int)))):=
 cond (decide (H<a3)) ((yD k (wi (a2+H))).bind λK=>
(yD k (wi (a1+H))).bind λO=>
(yD k (wi (a1+H))).bind λT=>
(zBD k (wi (a1+H)) K).bind λh=>
(yD h (wi (a2+H))).bind λY=>
(zBD h (wi (a2+H)) O).bind λD=>
 some (.next (wi (H+1),D))) (some (.done k))
def kY (h:(List Int)) (a1:Int) (a2:Int) (a3:Int) (D:Int->Int->Option (Int)):Option ((List Int)):=
(zF (λ(x:Int×(List Int))=>kG a3 a2 a1 x.1 x.2) (0,h)).bind λ(k:(List Int))=>
 some k
def yW (a2:Int) (T:Int->Int->Option (Int)) (h:Int) (D:Int) (k:(List Int)):Option (Stp (Int×Int×(List Int)) ((Int×(List Int)))):=
 cond (!decide (h=D)) ((cond (decide (D<h)) ((kY k (wi (a2-h)) a2 D T).bind λH=>
 some (wi (h-D),D,H)) ((kY k (wi (a2-h)) (wi ((wi (a2+D))-h)) h T).bind λK=>
 some (h,wi (D-h),K))).bind λ(O:Int×Int×(List Int))=>
 some (.next (O.1,O.2.1,O.2.2))) (some (.done (h,k)))
def xS (H:(List Int)) (a1:Int) (a2:Int) (a3:Int) (D:Int->Int->Option (Int)):Option ((List Int)):=
(zF (λ(x:Int×Int×(List Int))=>yW a2 D x.1 x.2.1 x.2.2) (wi (a2-a1),wi (a3-a2),H)).bind λ(k:Int×(List Int))=>
(kY k.2 (wi (a2-k.1)) a2 k.1 D).bind λh=>
 some h
def kM (O:(List Int)) (a1:Int) (Y:Int->Int->Option (Int)) (h:Int) (k:Int):Option (Stp (Int×Int) ((Int))):=
 cond (decide (h<k)) (((yD O (wi ((wu (wi (h+k)))/2 ^ 1))).bind λD=>
(yD O a1).bind λH=>
(Y D H).bind λK=>
 cond (decide (K<0)) (some (wi ((wi ((wu (wi (h+k)))/2 ^ 1))+1),k)) (some (h,wi ((wu (wi (h+k)))/2 ^ 1)))).bind λ(T:Int×Int)=>
 some (.next (T.1,T.2))) (some (.done h))
def kN (Z:Int) (H:Int) (k:(List Int)):Option (Stp (Int×(List Int)) (((List Int)))):=
 cond (decide (H<(wi (Z-1)))) ((yD k (wi (H+1))).bind λK=>
(yD k H).bind λO=>
(yD k H).bind λT=>
(zBD k H K).bind λh=>
(yD h (wi (H+1))).bind λY=>
(zBD h (wi (H+1)) O).bind λD=>
 some (.next (wi (H+1),D))) (some (.done k))
def kO (O:(List Int)) (a2:Int) (Y:Int->Int->Option (Int)) (h:Int) (k:Int):Option (Stp (Int×Int) ((Int))):=
 cond (decide (h<k)) (((yD O a2).bind λH=>
(yD O (wi ((wu (wi (h+k)))/2 ^ 1))).bind λK=>
(Y H K).bind λD=>
 cond (!(decide (D<0))) (some (wi ((wi ((wu (wi (h+k)))/2 ^ 1))+1),k)) (some (h,wi ((wu (wi (h+k)))/2 ^ 1)))).bind λ(T:Int×Int)=>
 some (.next (T.1,T.2))) (some (.done h))
def kP (Z:Int) (H:Int) (k:(List Int)):Option (Stp (Int×(List Int)) (((List Int)))):=
 cond (decide (Z<H)) ((yD k (wi (H-1))).bind λK=>
(yD k H).bind λO=>
(yD k H).bind λT=>
(zBD k H K).bind λh=>
(yD h (wi (H-1))).bind λY=>
(zBD h (wi (H-1)) O).bind λD=>
 some (.next (wi (H-1),D))) (some (.done k))
def kQ (O:(List Int)) (a1:Int) (a3:Int) (a2:Int) (Y:Int->Int->Option (Int)) (h:Int) (k:Int):Option (Stp (Int×Int) ((Int))):=
 cond (decide (h<k)) (((yD O (wi ((wi ((wi ((wi ((wu (wi (a1+a3)))/2 ^ 1))+a2))-1))-(wi ((wu (wi (h+k)))/2 ^ 1))))).bind λD=>
(yD O (wi ((wu (wi (h+k)))/2 ^ 1))).bind λH=>
(Y D H).bind λK=>
 cond (!(decide (K<0))) (some (wi ((wi ((wu (wi (h+k)))/2 ^ 1))+1),k)) (some (h,wi ((wu (wi (h+k)))/2 ^ 1)))).bind λ(T:Int×Int)=>
 some (.next (T.1,T.2))) (some (.done h))
def yU (T:((List Int))->(Int)->(Int)->(Int)->(Int->Int->Option (Int))->Option ((List Int))) (k:(List Int)) (a1:Int) (a2:Int) (a3:Int) (D:Int->Int->Option (Int)):Option ((List Int)):=
 cond (decide ((wi (a2-a1))=1)) ((zF (λ(x:Int×Int)=>kM k a1 D x.1 x.2) (a2,a3)).bind λ(y1:Int)=>
(zF (λ(x:Int×(List Int))=>kN y1 x.1 x.2) (a1,k)).bind λ(y3:(List Int))=>
 some y3) (cond (decide ((wi (a3-a2))=1)) ((zF (λ(x:Int×Int)=>kO k a2 D x.1 x.2) (a1,a2)).bind λ(y4:Int)=>
(zF (λ(x:Int×(List Int))=>kP y4 x.1 x.2) (a2,k)).bind λ(y6:(List Int))=>
 some y6) ((cond (decide ((wi ((wu (wi (a1+a3)))/2 ^ 1))<a2)) (some (wi ((wi ((wi ((wu (wi (a1+a3)))/2 ^ 1))+a2))-a3),wi ((wu (wi (a1+a3)))/2 ^ 1))) (some (a1,a2))).bind λ(y7:Int×Int)=>
(zF (λ(x:Int×Int)=>kQ k a1 a3 a2 D x.1 x.2) (y7.1,y7.2)).bind λ(h:Int)=>
(pv (decide (h<a2))).bind λH=>
(cond (H&&(decide (a2<(wi ((wi ((wi ((wu (wi (a1+a3)))/2 ^ 1))+a2))-h))))) ((xS k h a2 (wi ((wi ((wi ((wu (wi (a1+a3)))/2 ^ 1))+a2))-h)) D).bind λY=>
 some Y) (some k)).bind λ(ab:(List Int))=>
(pv (decide (a1<h))).bind λK=>
(cond (K&&(decide (h<(wi ((wu (wi (a1+a3)))/2 ^ 1))))) ((T ab a1 h (wi ((wu (wi (a1+a3)))/2 ^ 1)) D).bind λZ=>
 some Z) (some ab)).bind λ(ac:(List Int))=>
(pv (decide ((wi ((wu (wi (a1+a3)))/2 ^ 1))<(wi ((wi ((wi ((wu (wi (a1+a3)))/2 ^ 1))+a2))-h))))).bind λO=>
 cond (O&&(decide ((wi ((wi ((wi ((wu (wi (a1+a3)))/2 ^ 1))+a2))-h))<a3))) ((T ac (wi ((wu (wi (a1+a3)))/2 ^ 1)) (wi ((wi ((wi ((wu (wi (a1+a3)))/2 ^ 1))+a2))-h)) a3 D).bind λaa=>
 some aa) (some ac)))
def kT:Nat->((List Int))->(Int)->(Int)->(Int)->(Int->Int->Option (Int))->Option ((List Int))
 | 0=>λ_ _ _ _ _=>none
 | n+1=>yU (kT n)
def yO (a1:Int) (a2:Int->Int->Option (Int)) (H:Int) (k:Int) (h:(List Int)):Option (Stp (Int×Int×(List Int)) ((Int×(List Int)))):=
 cond (decide (k<=a1)) ((kV h H k a2).bind λD=>
 some (.next (k,wi (k+20),D))) (some (.done (H,h)))
def yP (a1:Int) (K:Int) (a2:Int->Int->Option (Int)) (H:Int) (k:Int) (h:(List Int)):Option (Stp (Int×Int×(List Int)) ((Int×(List Int)))):=
 cond (decide (k<=a1)) ((kT 60 h H (wi (H+K)) k a2).bind λD=>
 some (.next (k,wi (k+(wi (2*K))),D))) (some (.done (H,h)))
def yX (a1:Int) (a2:Int->Int->Option (Int)) (k:Int) (h:(List Int)):Option (Stp (Int×(List Int)) (((List Int)))):=
 cond (decide (k<a1)) ((zF (λ(x:Int×Int×(List Int))=>yP a1 k a2 x.1 x.2.1 x.2.2) (0,wi (2*k),h)).bind λ(D:Int×(List Int))=>
(cond (decide ((wi (D.1+k))<a1)) ((kT 60 D.2 D.1 (wi (D.1+k)) a1 a2).bind λH=>
 some H) (some D.2)).bind λ(K:(List Int))=>
 some (.next (wi (k*2),K))) (some (.done h))
def uS (D:(List Int)) (a1:Int) (a2:Int->Int->Option (Int)):Option ((List Int)):=
(zF (λ(x:Int×Int×(List Int))=>yO a1 a2 x.1 x.2.1 x.2.2) (0,20,D)).bind λ(k:Int×(List Int))=>
(kV k.2 k.1 a1 a2).bind λh=>
(zF (λ(x:Int×(List Int))=>yX a1 a2 x.1 x.2) (20,h)).bind λ(H:(List Int))=>
 some H
def k9 (h:(List Int)) (a1:Int->Int->Option (Int)):Option ((List Int)):=
(uS h (h.length:Int) a1).bind λk=>
 some k
def zCF (D:List bM) (a1:List Int):Option (List Int):=(zBT D).bind λh=>(zB6 a1).bind λk=>(zBU (wA (λc=>jD h c==some 0) a1 0 (-1)) a1 h).bind λ_=>zBE (λp=>k9 p (λx0 x1=>vY x0 x1 h)) Range.Lo Range.Hi k (wA (λc=>jD h c==some 0) a1 0 (-1))
def xY (a1:(List Int)) (H:Norm) (a2:Bool) (K:Int) (h:(List Int)) (D:(List (Int×(List Int)))):Option (Stp (Int×(List Int)×(List (Int×(List Int)))) (((List Int)))):=
 cond (decide (K<(a1.length:Int))) ((yD a1 K).bind λT=>
(kU 100 T D ({aK:=H.aK,aA:=H.aA,aN:=({Ranges:=H.aN.Ranges}:Set)}:Norm) a2).bind λO=>
(app h O.1).bind λk=>
 some (.next (wi (K+1),k,O.2))) (some (.done h))
def vP (k:Norm) (a1:(List Int)) (a2:Bool):Option ((List Int)):=
(zA7 ({aK:=k.aK,aA:=k.aA,aN:=({Ranges:=k.aN.Ranges}:Set)}:Norm)).bind λh=>
(zDH ({aK:=h.aK,aA:=h.aA,aN:=({Ranges:=h.aN.Ranges}:Set)}:Norm) a2).bind λH=>
(zF (λ(x:Int×(List Int)×(List (Int×(List Int))))=>xY a1 h a2 x.1 x.2.1 x.2.2) (0,[],[])).bind λ(K:(List Int))=>
(zCF h.aK K).bind λD=>
 some D
def xD (k:bI) (a1:(List Int)):Option ((List aP)×Bool):=
(pv (decide ((a1.length:Int)=0))).bind λD=>
 cond (D ||(decide (k.bV<(a1.length:Int)))) (some ([],false)) ((zDO a1).bind λh=>
 some (mgetD k.entries h [],zDM k.entries h))
def xT (h:bI) (a1:Int):Option ((List aP)):=
(zAN a1).bind λH=>
 cond (!H) (some []) ((zNY wi a1 32768).bind λk=>
(zKJ a1 32768).bind λD=>
 some [({aT:=wi (h.c.bL+k),aL:=h.c.bF,aO:=h.c.bK,aD:=false}:aP),({aT:=wi (32768+D),aL:=0,aO:=0,aD:=false}:aP)])
def vG (k:Int) (a1:bI) (a2:Int):Option (Bool):=
(yD a1.bR k).bind λh=>
 some (decide (a2<=h.Hi))
def zCW (a1:Int->Option (Bool)) (h:Int) (k:Int):Option (Stp (Int×Int) ((Int))):=
 cond (decide (h<k)) (((a1 (wi ((wu (wi (h+k)))/2 ^ 1))).bind λD=>
 cond (!D) (some (wi ((wi ((wu (wi (h+k)))/2 ^ 1))+1),k)) (some (h,wi ((wu (wi (h+k)))/2 ^ 1)))).bind λ(H:Int×Int)=>
 some (.next (H.1,H.2))) (some (.done h))
def zKX (h:Int) (a1:Int->Option (Bool)):Option (Int):=
(zF (λ(x:Int×Int)=>zCW a1 x.1 x.2) (0,h)).bind λ(k:Int)=>
 some k
def uE (k:bI) (a1:Int):Option (Int):=
(zKX (k.bR.length:Int) (λx0=>vG x0 k a1)).bind λh=>
(pv (decide (h<(k.bR.length:Int)))).bind λD=>
(gM D (yD k.bR h)).bind λH=>
 cond (D&&(decide (H.Lo<=a1))) ((yD k.bR h).bind λK=>
 some K.Value) (some 0)
def jF (a1:(List Int)) (H:bI) (h:Int):Option (Stp (Int) ((Int))):=
 cond (decide (0<h)) ((slc a1 0 h).bind λk=>
(xD H k).bind λD=>
 cond D.2 (some (.done h)) (some (.next (wi (h-1))))) (some (.done h))
def kR (a0:bI) (D:Int) (K:Int) (k:Int) (h:(List Int)):Option (Stp (Int×Int×Int×(List Int)) ((Int×(List Int)))):=
(pv (decide (k<(h.length:Int)))).bind λab=>
 cond (ab&&(decide (K<a0.top))) (((yD h k).bind λT=>
(uE a0 T).bind λY=>
 cond (decide (Y=0)) (some (.inl (()))) (cond (decide (Y<=K)) (some (.inr ((D,K,h)))) ((slc h 0 D).bind λac=>
(app ac [T]).bind λO=>
(xD a0 O).bind λad=>
 cond (!ad.2) (some (.inr ((D,Y,h)))) ((slc h (wi (D+1)) (wi (k+1))).bind λah=>
(slc h D k).bind λai=>
(yD (cpM h (wi (D+1)) (wi (k+1)) D k) D).bind λag=>
(zBD (cpM h (wi (D+1)) (wi (k+1)) D k) D T).bind λH=>
 some (.inr ((wi (D+1),K,H))))))).bind λ(Z:(Unit)⊕(Int×Int×(List Int)))=>
 Z.elim (λZ=>some (.done (D,h))) (λZ=>some (.next (Z.1,Z.2.1,wi (k+1),Z.2.2)))) (some (.done (D,h)))
def uF (h:bI) (a1:(List Int)):Option (Int×(List aP)×Bool×(List Int)):=
(zF (λ(x:Int)=>jF a1 h x) (min h.bV (a1.length:Int))).bind λ(T:Int)=>
 cond (decide (T=0)) ((yD a1 (0:Int)).bind λK=>
(xT h K).bind λO=>
 some (1,O,false,a1)) ((zF (λ(x:Int×Int×Int×(List Int))=>kR h x.1 x.2.1 x.2.2.1 x.2.2.2) (T,0,T,a1)).bind λ(H:Int×(List Int))=>
(slc H.2 0 H.1).bind λk=>
(xD h k).bind λD=>
 some (H.1,D.1,true,H.2))
def xW (O:bI) (h:(List aP)) (D:(List Int)):Option (Stp ((List aP)×(List Int)) (((List aP)))):=
 cond (decide (0<(D.length:Int))) ((uF O D).bind λK=>
(app h K.2.1).bind λk=>
(slc K.2.2.2 K.1 (K.2.2.2.length)).bind λH=>
 some (.next (k,H))) (some (.done h))
def kE (H:Norm) (a1:Collation) (a2:(List Int)):Option ((List aP)):=
(zEF a1).bind λh=>
(u3 h H).bind λk=>
(vP H a2 false).bind λD=>
(zF (λ(x:(List aP)×(List Int))=>xW k x.1 x.2) ([],D)).bind λ(K:(List aP))=>
 some K
def zFB (h:Options):Option (Int):=
(pv (decide (h.aJ<1))).bind λk=>
 cond (k ||(decide (4<h.aJ))) (some 1) ((cond (decide (h.aD=1)) (some (decide (h.aD=1))) (cond (decide (h.aD=2)) (some (decide (h.aD=2))) (some (decide (h.aD=3))))).bind λ(D:Bool)=>
 cond D (some 0) (some 8))
def zAH (h:Options):Option (Options):=
(zFB h).bind λk=>
 cond (!decide (k=0)) (some ({aJ:=3,aD:=1,aQ:=false,aU:=false}:Options)) (some h)
def zAR (h:aP) (a1:Int) (a2:Bool):Option (bG×Bool):=
(cond (!decide (({x0:=({x0:=h.aT,x1:=h.aL,x2:=h.aO,x3:=0}:bG).x0,x1:=({x0:=h.aT,x1:=h.aL,x2:=h.aO,x3:=0}:bG).x1,x2:=({x0:=h.aT,x1:=h.aL,x2:=h.aO,x3:=0}:bG).x2,x3:=({x0:=h.aT,x1:=h.aL,x2:=h.aO,x3:=0}:bG).x3}:bG)=({x0:=0,x1:=0,x2:=0,x3:=0}:bG))) (some 65535) (some (({x0:=h.aT,x1:=h.aL,x2:=h.aO,x3:=0}:bG).x3))).bind λ(D:Int)=>
 cond (decide (a1=1)) (some (({x0:=({x0:=h.aT,x1:=h.aL,x2:=h.aO,x3:=0}:bG).x0,x1:=({x0:=h.aT,x1:=h.aL,x2:=h.aO,x3:=0}:bG).x1,x2:=({x0:=h.aT,x1:=h.aL,x2:=h.aO,x3:=0}:bG).x2,x3:=D}:bG),a2)) ((cond h.aD (some (({x0:=0,x1:=0,x2:=0,x3:=h.aT}:bG).x0,({x0:=0,x1:=0,x2:=0,x3:=h.aT}:bG).x1,({x0:=0,x1:=0,x2:=0,x3:=h.aT}:bG).x2,({x0:=0,x1:=0,x2:=0,x3:=h.aT}:bG).x3,true)) (cond (!decide (h.aT=0)) (some (({x0:=h.aT,x1:=h.aL,x2:=h.aO,x3:=0}:bG).x0,({x0:=h.aT,x1:=h.aL,x2:=h.aO,x3:=0}:bG).x1,({x0:=h.aT,x1:=h.aL,x2:=h.aO,x3:=0}:bG).x2,D,false)) (cond a2 (some (({x0:=0,x1:=0,x2:=0,x3:=0}:bG).x0,({x0:=0,x1:=0,x2:=0,x3:=0}:bG).x1,({x0:=0,x1:=0,x2:=0,x3:=0}:bG).x2,({x0:=0,x1:=0,x2:=0,x3:=0}:bG).x3,a2)) (some (({x0:=h.aT,x1:=h.aL,x2:=h.aO,x3:=0}:bG).x0,({x0:=h.aT,x1:=h.aL,x2:=h.aO,x3:=0}:bG).x1,({x0:=h.aT,x1:=h.aL,x2:=h.aO,x3:=0}:bG).x2,D,a2))))).bind λ(k:Int×Int×Int×Int×Bool)=>
(cond (decide (a1=2)) (some 0) (some k.2.2.2.1)).bind λ(H:Int)=>
 some (({x0:=k.1,x1:=k.2.1,x2:=k.2.2.1,x3:=H}:bG),k.2.2.2.2))
def zD5 (h:Int):Option (Unit):=
 some ()
def xG (H:Int) (K:Int) (k:(List Int)):Option (Stp (Int×Int×(List Int)) (((List Int)))):=
 cond (decide (H<K)) ((yD k K).bind λO=>
(yD k H).bind λT=>
(yD k H).bind λY=>
(zBD k H O).bind λh=>
(yD h K).bind λZ=>
(zBD h K T).bind λD=>
 some (.next (wi (H+1),wi (K-1),D))) (some (.done k))
def wL (h:(List Int)):Option ((List Int)):=
(zF (λ(x:Int×Int×(List Int))=>xG x.1 x.2.1 x.2.2) (0,wi ((h.length:Int)-1),h)).bind λ(k:(List Int))=>
 some k
def xH (h:bG×Bool) (ab:Int) (k:(List Int)) (D:(List Int)) (H:(List Int)) (K:(List Int)):Option (Stp (Int×(List Int)×(List Int)×(List Int)×(List Int)) (((List Int)×(List Int)×(List Int)×(List Int)))):=
 cond (decide (ab=0)) (((yD [h.1.x0,h.1.x1,h.1.x2,h.1.x3] (0:Int)).bind λO=>
 cond (!decide (O=0)) ((app k [O]).bind λY=>
 some Y) (some k)).bind λ(y3:(List Int))=>
 some (.next (wi ((0:Int)+1),y3,D,H,K))) (cond (decide (ab=1)) (((yD [h.1.x0,h.1.x1,h.1.x2,h.1.x3] (1:Int)).bind λO=>
 cond (!decide (O=0)) ((app D [O]).bind λZ=>
 some Z) (some D)).bind λ(y5:(List Int))=>
 some (.next (wi ((1:Int)+1),k,y5,H,K))) (cond (decide (ab=2)) (((yD [h.1.x0,h.1.x1,h.1.x2,h.1.x3] (2:Int)).bind λO=>
 cond (!decide (O=0)) ((app H [O]).bind λaa=>
 some aa) (some H)).bind λ(y7:(List Int))=>
 some (.next (wi ((2:Int)+1),k,D,y7,K))) (cond (decide (ab=3)) (((yD [h.1.x0,h.1.x1,h.1.x2,h.1.x3] (3:Int)).bind λO=>
 cond (!decide (O=0)) ((app K [O]).bind λT=>
 some T) (some K)).bind λ(y9:(List Int))=>
 some (.next (wi ((3:Int)+1),k,D,H,y9))) (cond (decide (ab=4)) (some (.done (k,D,H,K))) (none)))))
def uO (a0:(List aP)) (Z:Options) (O:Int) (h:Bool) (k:(List Int)) (D:(List Int)) (H:(List Int)) (K:(List Int)):Option (Stp (Int×Bool×(List Int)×(List Int)×(List Int)×(List Int)) (((List Int)×(List Int)×(List Int)×(List Int)))):=
 cond (decide (O<(a0.length:Int))) ((yD a0 O).bind λaa=>
(zAR aa Z.aD h).bind λT=>
(zF (λ(x:Int×(List Int)×(List Int)×(List Int)×(List Int))=>xH T x.1 x.2.1 x.2.2.1 x.2.2.2.1 x.2.2.2.2) (0,k,D,H,K)).bind λ(Y:(List Int)×(List Int)×(List Int)×(List Int))=>
 some (.next (wi (O+1),T.2,Y.1,Y.2.1,Y.2.2.1,Y.2.2.2))) (some (.done (k,D,H,K)))
def vZ (T:(List aP)) (a1:Options):Option ((List (List Int))):=
(zAH ({aJ:=a1.aJ,aD:=a1.aD,aQ:=a1.aQ,aU:=a1.aU}:Options)).bind λD=>
(zD5 D.aD).bind λY=>
(zF (λ(x:Int×Bool×(List Int)×(List Int)×(List Int)×(List Int))=>uO T D x.1 x.2.1 x.2.2.1 x.2.2.2.1 x.2.2.2.2.1 x.2.2.2.2.2) (0,false,[],[],[],[])).bind λ(h:(List Int)×(List Int)×(List Int)×(List Int))=>
(cond D.aQ ((wL h.2.1).bind λK=>
 some K) (some h.2.1)).bind λ(H:(List Int))=>
(slc [({x0:=h.1,x1:=H,x2:=h.2.2.1,x3:=h.2.2.2}:b5).x0,({x0:=h.1,x1:=H,x2:=h.2.2.1,x3:=h.2.2.2}:b5).x1,({x0:=h.1,x1:=H,x2:=h.2.2.1,x3:=h.2.2.2}:b5).x2,({x0:=h.1,x1:=H,x2:=h.2.2.1,x3:=h.2.2.2}:b5).x3] 0 D.aJ).bind λO=>
(app [] O).bind λk=>
 some k
def jM (H:(List (List Int))) (a1:(List Int)->Option (Bool)) (h:Int):Option (Stp (Int) ((Unit)⊕(Int))):=
 cond (decide (h<(H.length:Int))) ((yD H h).bind λk=>
(a1 k).bind λD=>
 cond D (some (.done (.inr (h)))) (some (.next (wi (h+1))))) (some (.done (.inl (()))))
def vQ (k:(List (List Int))) (a1:(List Int)->Option (Bool)):Option (Int):=
(zF (λ(x:Int)=>jM k a1 x) 0).bind λ(h:(Unit)⊕(Int))=>
 h.elim (λh=>some (-1)) (λh=>some h)
def jN (h:(List (List Int))) (a1:(List Int)->Option (Bool)):Option (Bool):=
(vQ h a1).bind λk=>
 some (decide (0<=k))
def zBH (h:(List Int)):Option (Bool):=
 some (decide (0<(h.length:Int)))
def kB (H:(List aP)) (a1:(List aP)) (h:Int):Option (Stp (Int) ((Unit)⊕(Bool))):=
 cond (decide (h<(H.length:Int))) ((yD H h).bind λk=>
(yD a1 h).bind λD=>
 cond (!decide (k=D)) (some (.done (.inr (false)))) (some (.next (wi (h+1))))) (some (.done (.inl (()))))
def yK (k:(List aP)) (a1:(List aP)):Option (Bool):=
 cond (!decide ((k.length:Int)=(a1.length:Int))) (some false) ((zF (λ(x:Int)=>kB k a1 x) 0).bind λ(h:(Unit)⊕(Bool))=>
 h.elim (λh=>some true) (λh=>some h))
def vV (H:(List aP)) (a2:Options) (h:Int) (k:(List Int)):Option (Stp (Int×(List Int)) (((List Int)))):=
 cond (decide (h<(H.length:Int))) ((yD k h).bind λK=>
(slc H h (wi (h+1))).bind λO=>
(vZ O a2).bind λT=>
(yD T (0:Int)).bind λY=>
(yD k (wi (h+1))).bind λZ=>
(zBD k (wi (h+1)) (wi (K+(Y.length:Int)))).bind λD=>
 some (.next (wi (h+1),D))) (some (.done k))
def vW (a5:(List Int)) (a4:(List Int)) (a0:Norm) (a1:Collation) (k:(List aP)) (Z:Int) (T:(List (Int×Int))) (Y:(List (Int×Int))):Option (Stp (Int×(List (Int×Int))×(List (Int×Int))) (((List (Int×Int))×(List (Int×Int))))):=
 cond (decide (Z<(a5.length:Int))) (((yD a5 Z).bind λh=>
(slc a4 0 h).bind λah=>
(kE a0 a1 ah).bind λK=>
(slc a4 h (a4.length)).bind λai=>
(kE a0 a1 ai).bind λO=>
(pv (decide ((K.length:Int)<=(k.length:Int)))).bind λD=>
(gM D (slc k 0 (K.length:Int))).bind λaa=>
(gM D (yK K aa)).bind λab=>
(cond (D&&ab) (some (vD (vD T h (-1)) h (K.length:Int))) (some (vD T h (-1)))).bind λ(y5:(List (Int×Int)))=>
(pv (decide ((O.length:Int)<=(k.length:Int)))).bind λH=>
(gM H (slc k (wi ((k.length:Int)-(O.length:Int))) (k.length))).bind λac=>
(gM H (yK O ac)).bind λad=>
 cond (H&&ad) (some (y5,vD (vD Y h (-1)) h (O.length:Int))) (some (y5,vD Y h (-1)))).bind λ(y4:(List (Int×Int))×(List (Int×Int)))=>
 some (.next (wi (Z+1),y4.1,y4.2))) (some (.done (T,Y)))
def zCX (k:Norm) (a1:Collation) (a2:Options) (a3:(List Int)) (H:(List Int)) (Z:(List Int)):Option ((Option bQ)):=
(kE k a1 a3).bind λO=>
(vZ O a2).bind λD=>
(jN D (λx0=>zBH x0)).bind λT=>
 cond (!T) (some none) ((kE k a1 H).bind λh=>
(mkM 0 (wi ((h.length:Int)+1))).bind λK=>
(zF (λ(x:Int×(List Int))=>vV h a2 x.1 x.2) (0,K)).bind λ(y1:(List Int))=>
(zF (λ(x:Int×(List (Int×Int))×(List (Int×Int)))=>vW Z H k a1 h x.1 x.2.1 x.2.2) (0,[],[])).bind λ(Y:(List (Int×Int))×(List (Int×Int)))=>
 some (some ({norm:=({aK:=k.aK,aA:=k.aA,aN:=({Ranges:=k.aN.Ranges}:Set)}:Norm),b0:=({aB:=a1.aB,aF:=a1.aF,bL:=a1.bL,bF:=a1.bF,bK:=a1.bK}:Collation),cD:=({aJ:=a2.aJ,aD:=a2.aD,aQ:=a2.aQ,aU:=a2.aU}:Options),text:=H,wanted:=D,bX:=h,b8:=y1,cg:=Y.1,b6:=Y.2}:bQ)))
def xI (O:(List Int)) (a1:(List Int)) (items:(List (Range))) (k:Bool) (K:Int) (h:Nat):Option (Stp (Int×Nat) ((Nat)⊕(Nat))):=
 cond (decide (K<(O.length:Int))) ((yD O K).bind λD=>
(yD a1 (0:Int)).bind λH=>
(yM items h ({Lo:=H,Hi:=D}:Range)).bind λT=>
 cond (!(goB k items.length h)) (some (.done (.inr (h+1)))) (some (.next (wi (K+1),h+1)))) (some (.done (.inl (h))))
def zAS (items:List (Range)) (h:Bool) (a1:(List Int)):Option Unit:=
(slc a1 1 (a1.length)).bind λD=>
(zF (λ(x:Int×Nat)=>xI D a1 items h x.1 x.2) (0,0)).bind λ(k:(Nat)⊕(Nat))=>
 k.elim (λk=>zV9 items k) (λk=>zV9 items k)
def kW (K:(List (List Int))) (a1:(List (List Int))) (a2:(List Int)->(List Int)->Option (Bool)) (h:Int):Option (Stp (Int) ((Unit)⊕(Bool))):=
 cond (decide (h<(K.length:Int))) ((yD K h).bind λk=>
(yD a1 h).bind λD=>
(a2 k D).bind λH=>
 cond (!H) (some (.done (.inr (false)))) (some (.next (wi (h+1))))) (some (.done (.inl (()))))
def jT (k:(List (List Int))) (a1:(List (List Int))) (a2:(List Int)->(List Int)->Option (Bool)):Option (Bool):=
 cond (!decide ((k.length:Int)=(a1.length:Int))) (some false) ((zF (λ(x:Int)=>kW k a1 a2 x) 0).bind λ(h:(Unit)⊕(Bool))=>
 h.elim (λh=>some true) (λh=>some h))
def wC (H:(List Int)) (a1:(List Int)) (h:Int):Option (Stp (Int) ((Unit)⊕(Bool))):=
 cond (decide (h<(H.length:Int))) ((yD H h).bind λk=>
(yD a1 h).bind λD=>
 cond (!decide (k=D)) (some (.done (.inr (false)))) (some (.next (wi (h+1))))) (some (.done (.inl (()))))
def xE (k:(List Int)) (a1:(List Int)):Option (Bool):=
 cond (!decide ((k.length:Int)=(a1.length:Int))) (some false) ((zF (λ(x:Int)=>wC k a1 x) 0).bind λ(h:(Unit)⊕(Bool))=>
 h.elim (λh=>some true) (λh=>some h))
def xX (h:bQ) (a1:Range):Option (Bool):=
(pv (decide ((mgetD h.cg a1.Lo 0)<0))).bind λT=>
(pv (T ||(decide ((mgetD h.b6 a1.Hi 0)<0)))).bind λY=>
(pv (Y ||(decide ((wi ((h.bX.length:Int)-(mgetD h.b6 a1.Hi 0)))<(mgetD h.cg a1.Lo 0))))).bind λk=>
(gM (!k) (yD h.b8 (wi ((h.bX.length:Int)-(mgetD h.b6 a1.Hi 0))))).bind λZ=>
(gM (!k) (yD h.b8 (mgetD h.cg a1.Lo 0))).bind λaa=>
(gM (!k) (yD h.wanted (0:Int))).bind λab=>
 cond (k ||(!decide ((wi (Z-aa))=(ab.length:Int)))) (some false) ((slc h.bX (mgetD h.cg a1.Lo 0) (wi ((h.bX.length:Int)-(mgetD h.b6 a1.Hi 0)))).bind λO=>
(vZ O h.cD).bind λac=>
(jT ac h.wanted (λx0 x1=>xE x0 x1)).bind λad=>
 cond (!ad) (some false) ((slc h.text a1.Lo a1.Hi).bind λD=>
(kE h.norm h.b0 D).bind λH=>
(yK O H).bind λK=>
 some K))
def xC (K:bQ) (h:(List Range)) (H:Range):Option (Bool×((List Range))):=
(xX K H).bind λD=>
 cond D ((app h [H]).bind λk=>
 some (false,k)) (some (true,h))
def zCG (k:(List Int)) (O:bQ) (H:Int) (h:(List Range)):Option (Stp (Int×(List Range)) (((List Range)))):=
 cond (decide (H<(k.length:Int))) (((slc k H (k.length)).bind λD=>
(zML (λ(s:(List Range)) (x:Range)=>xC O s x) h (zWB (λa b=>({Lo:=a,Hi:=b}:Range)) D)).bind λ(K:Nat×Bool×((List Range)))=>
(zAS ((zWB (λa b=>({Lo:=a,Hi:=b}:Range)) D).take K.1) (!K.2.1) D).bind λT=>
 cond K.2.1 (some K.2.2) (some K.2.2)).bind λ(Y:(List Range))=>
 some (.next (wi (H+1),Y))) (some (.done h))
def zBI (H:Norm) (a1:Collation) (a2:Options) (a3:(List Int)) (D:(List Int)) (K:(List Int)):Option ((List Range)):=
(zCQ K (D.length:Int)).bind λh=>
(zCX H a1 a2 a3 D h).bind λk=>
 Option.elim k (some []) (λO=>
(zF (λ(x:Int×(List Range))=>zCG h O x.1 x.2) (0,[])).bind λ(T:(List Range))=>
 some T)
def zJR (K:(List Range)) (O:Int) (H:Int) (h:(List Range)):Option (Stp (Int×Int×(List Range)) (((List Range)))):=
 cond (decide (H<(K.length:Int))) (((yD K H).bind λD=>
 cond (decide (O<=D.Lo)) ((app h [D]).bind λk=>
 some (D.Hi,k)) (some (O,h))).bind λ(T:Int×(List Range))=>
 some (.next (T.1,wi (H+1),T.2))) (some (.done h))
def xV (k:Norm) (a1:Collation) (a2:Options) (a3:(List Int)) (D:(List Int)) (H:(List Int)):Option ((List Range)):=
(zBI k a1 a2 a3 D H).bind λh=>
(zF (λ(x:Int×Int×(List Range))=>zJR h x.1 x.2.1 x.2.2) (0,0,[])).bind λ(K:(List Range))=>
 some K
def zF9 (K:(List Range)) (Z:(List Int)) (a5:(List Int)) (T:Int) (H:Int) (h:(List Int)):Option (Stp (Int×Int×(List Int)) ((Int×(List Int)))):=
 cond (decide (H<(K.length:Int))) ((yD K H).bind λO=>
(slc Z T O.Lo).bind λY=>
(app h Y).bind λk=>
(app k a5).bind λD=>
 some (.next (O.Hi,wi (H+1),D))) (some (.done (T,h)))
def u5 (O:Norm) (a1:Collation) (a2:Options) (a3:(List Int)) (k:(List Int)) (T:(List Int)) (Y:(List Int)):Option ((List Int)):=
(xV O a1 a2 a3 k Y).bind λD=>
(zF (λ(x:Int×Int×(List Int))=>zF9 D k T x.1 x.2.1 x.2.2) (0,0,[])).bind λ(K:Int×(List Int))=>
(slc k K.1 (k.length)).bind λH=>
(app K.2 H).bind λh=>
 some h
def zDU (H:(List Range)) (a1:(List Range)) (h:Int):Option (Stp (Int) ((Unit)⊕(Bool))):=
 cond (decide (h<(H.length:Int))) ((yD H h).bind λk=>
(yD a1 h).bind λD=>
 cond (!decide (k=D)) (some (.done (.inr (false)))) (some (.next (wi (h+1))))) (some (.done (.inl (()))))
def zBJ (k:(List Range)) (a1:(List Range)):Option (Bool):=
 cond (!decide ((k.length:Int)=(a1.length:Int))) (some false) ((zF (λ(x:Int)=>zDU k a1 x) 0).bind λ(h:(Unit)⊕(Bool))=>
 h.elim (λh=>some true) (λh=>some h))
def zA8 (k:(List Int)) (a1:(List Int)) (h:Int):Option (Stp (Int) ((Unit)⊕(Int))):=
(pv (decide (h<(k.length:Int)))).bind λD=>
 cond (D&&(decide (h<(a1.length:Int)))) ((yD k h).bind λH=>
(yD a1 h).bind λK=>
 cond (decide (H<K)) (some (.done (.inr ((-1))))) ((yD k h).bind λO=>
(yD a1 h).bind λT=>
 cond (decide (T<O)) (some (.done (.inr (1)))) (some (.next (wi (h+1)))))) (some (.done (.inl (()))))
def zDV (k:(List Int)) (a1:(List Int)):Option (Int):=
(zF (λ(x:Int)=>zA8 k a1 x) 0).bind λ(h:(Unit)⊕(Int))=>
 h.elim (λh=>cond (decide ((k.length:Int)<(a1.length:Int))) (some (-1)) (cond (decide ((a1.length:Int)<(k.length:Int))) (some 1) (some 0))) (λh=>some h)
def uA (h:(List Int)) (a1:(List Int)):Option (Bool):=
(zDV h a1).bind λk=>
 some (decide (k=0))
def zCY (K:(List (List Int))) (H:Int) (h:(List Int)):Option (Stp (Int×(List Int)) (((List Int)))):=
 cond (decide (H<(K.length:Int))) ((yD K H).bind λO=>
(cond (decide (0<H)) ((app h [0]).bind λk=>
 some k) (some h)).bind λ(T:(List Int))=>
(app T O).bind λD=>
 some (.next (wi (H+1),D))) (some (.done h))
def zCZ (K:(List Int)) (H:Int) (h:(List Int)):Option (Stp (Int×(List Int)) (((List Int)))):=
 cond (decide (H<(K.length:Int))) (((yD K H).bind λD=>
(pv (decide (0<=D))).bind λO=>
 cond (O&&(decide (D<=1114111))) ((app h [wi (D+1)]).bind λk=>
 some k) (some h)).bind λ(T:(List Int))=>
 some (.next (wi (H+1),T))) (some (.done h))
def zH0 (O:Norm) (a1:Collation) (a2:Options) (a3:(List Int)):Option ((List Int)):=
(zAH ({aJ:=a2.aJ,aD:=a2.aD,aQ:=a2.aQ,aU:=a2.aU}:Options)).bind λk=>
(kE O a1 a3).bind λD=>
(vZ D ({aJ:=k.aJ,aD:=k.aD,aQ:=k.aQ,aU:=k.aU}:Options)).bind λH=>
(zF (λ(x:Int×(List Int))=>zCY H x.1 x.2) (0,[])).bind λ(T:(List Int))=>
 cond (!k.aU) (some T) ((app T [0]).bind λh=>
(vP O a3 false).bind λK=>
(zF (λ(x:Int×(List Int))=>zCZ K x.1 x.2) (0,h)).bind λ(Y:(List Int))=>
 some Y)
def zBK (k:Norm) (a1:Collation) (a2:Options) (a3:(List Int)) (D:Int):Option ((List Int)):=
(zH0 k a1 ({aJ:=D,aD:=a2.aD,aQ:=a2.aQ,aU:=false}:Options) a3).bind λh=>
 some h
def jZ (H:(List Int)) (a1:Int->Option (Bool)) (h:Int):Option (Stp (Int) ((Unit)⊕(Int))):=
 cond (decide (h<(H.length:Int))) ((yD H h).bind λk=>
(a1 k).bind λD=>
 cond D (some (.done (.inr (h)))) (some (.next (wi (h+1))))) (some (.done (.inl (()))))
def uT (k:(List Int)) (a1:Int->Option (Bool)):Option (Int):=
(zF (λ(x:Int)=>jZ k a1 x) 0).bind λ(h:(Unit)⊕(Int))=>
 h.elim (λh=>some (-1)) (λh=>some h)
def xZ (h:(List Int)) (a1:Int->Option (Bool)):Option (Bool):=
(uT h a1).bind λk=>
 some (decide (0<=k))
def zGA (h:Int):Option (Bool):=
 some (!decide (h=0))
def w7 (O:Norm) (a1:Collation) (a2:Options) (a3:(List Int)) (T:(List Int)):Option (Bool):=
(zBK O a1 a2 a3 a2.aJ).bind λk=>
(zBK O a1 a2 T a2.aJ).bind λD=>
(xZ k (λx0=>zGA x0)).bind λH=>
(pv H).bind λh=>
(gM h (xE k D)).bind λK=>
 some (h&&K)
def yN (H:(List (List aP))) (D:Int) (h:Int):Option (Stp (Int×Int) ((Int))):=
 cond (decide (h<(H.length:Int))) (((yD H h).bind λk=>
 cond (decide ((wi (D+(k.length:Int)))<0)) (none) (some (wi (D+(k.length:Int))))).bind λ(K:Int)=>
 some (.next (K,wi (h+1)))) (some (.done D))
def kA (K:(List (List aP))) (D:Int) (h:(List aP)):Option (Stp (Int×(List aP)) (((List aP)))):=
 cond (decide (D<(K.length:Int))) ((yD K D).bind λH=>
(app h H).bind λk=>
 some (.next (wi (D+1),k))) (some (.done h))
def jC (h:(List (List aP))):Option ((List aP)):=
(zF (λ(x:Int×Int)=>yN h x.1 x.2) (0,0)).bind λ(D:Int)=>
(z36 D).bind λk=>
(zF (λ(x:Int×(List aP))=>kA h x.1 x.2) (0,[])).bind λ(H:(List aP))=>
 some H
def w8 (h:Norm) (a1:Collation) (a2:(List Int)) (a3:Range):Option (Bool):=
(pv (decide (a3.Lo<0))).bind λk=>
(pv (k ||(decide (a3.Hi<a3.Lo)))).bind λD=>
 cond (D ||(decide ((a2.length:Int)<a3.Hi))) (some false) ((slc a2 0 a3.Lo).bind λH=>
(kE h a1 H).bind λK=>
(slc a2 a3.Lo a3.Hi).bind λO=>
(kE h a1 O).bind λT=>
(slc a2 a3.Hi (a2.length)).bind λY=>
(kE h a1 Y).bind λZ=>
(jC [K,T,Z]).bind λaa=>
(kE h a1 a2).bind λab=>
(yK aa ab).bind λac=>
 some ac)
def wV:Option (Bool):=
(zHN).bind λh=>
(xV ({aK:=({aK:=[],aA:=[],aN:=(({Ranges:=[]}):Set)}:Norm).aK,aA:=({aK:=[],aA:=[],aN:=(({Ranges:=[]}):Set)}:Norm).aA,aN:=({Ranges:=(({aK:=[],aA:=[],aN:=(({Ranges:=[]}):Set)}:Norm).aN).Ranges}:Set)}:Norm) h ({aJ:=1,aD:=1,aQ:=false,aU:=false}:Options) [65] [97,769,98,65] [0,2,3,4]).bind λZ=>
(zBI ({aK:=({aK:=[],aA:=[],aN:=(({Ranges:=[]}):Set)}:Norm).aK,aA:=({aK:=[],aA:=[],aN:=(({Ranges:=[]}):Set)}:Norm).aA,aN:=({Ranges:=(({aK:=[],aA:=[],aN:=(({Ranges:=[]}):Set)}:Norm).aN).Ranges}:Set)}:Norm) h ({aJ:=1,aD:=1,aQ:=false,aU:=false}:Options) [65] [97,769,98,65] [0,1,2,3,4]).bind λaa=>
(u5 ({aK:=({aK:=[],aA:=[],aN:=(({Ranges:=[]}):Set)}:Norm).aK,aA:=({aK:=[],aA:=[],aN:=(({Ranges:=[]}):Set)}:Norm).aA,aN:=({Ranges:=(({aK:=[],aA:=[],aN:=(({Ranges:=[]}):Set)}:Norm).aN).Ranges}:Set)}:Norm) h ({aJ:=1,aD:=1,aQ:=false,aU:=false}:Options) [65] [97,769,98,65] [120] [0,2,3,4]).bind λab=>
(zBJ Z [({Lo:=0,Hi:=2}:Range),({Lo:=3,Hi:=4}:Range)]).bind λac=>
(pv ac).bind λk=>
(gM k (zBJ aa [({Lo:=0,Hi:=1}:Range),({Lo:=3,Hi:=4}:Range)])).bind λad=>
(pv (k&&ad)).bind λD=>
(gM D (uA ab [120,98,120])).bind λag=>
(pv (D&&ag)).bind λH=>
(gM H (w7 ({aK:=({aK:=[],aA:=[],aN:=(({Ranges:=[]}):Set)}:Norm).aK,aA:=({aK:=[],aA:=[],aN:=(({Ranges:=[]}):Set)}:Norm).aA,aN:=({Ranges:=(({aK:=[],aA:=[],aN:=(({Ranges:=[]}):Set)}:Norm).aN).Ranges}:Set)}:Norm) h ({aJ:=1,aD:=1,aQ:=false,aU:=false}:Options) [97] [65])).bind λah=>
(pv (H&&ah)).bind λK=>
(gM K (w7 ({aK:=({aK:=[],aA:=[],aN:=(({Ranges:=[]}):Set)}:Norm).aK,aA:=({aK:=[],aA:=[],aN:=(({Ranges:=[]}):Set)}:Norm).aA,aN:=({Ranges:=(({aK:=[],aA:=[],aN:=(({Ranges:=[]}):Set)}:Norm).aN).Ranges}:Set)}:Norm) h ({aJ:=1,aD:=1,aQ:=false,aU:=false}:Options) [] [])).bind λai=>
(pv (K&&(!ai))).bind λO=>
(gM O (w8 ({aK:=({aK:=[],aA:=[],aN:=(({Ranges:=[]}):Set)}:Norm).aK,aA:=({aK:=[],aA:=[],aN:=(({Ranges:=[]}):Set)}:Norm).aA,aN:=({Ranges:=(({aK:=[],aA:=[],aN:=(({Ranges:=[]}):Set)}:Norm).aN).Ranges}:Set)}:Norm) h [97,769,98,65] ({Lo:=1,Hi:=2}:Range))).bind λaj=>
(pv (O&&aj)).bind λT=>
(gM T (w8 ({aK:=({aK:=[],aA:=[],aN:=(({Ranges:=[]}):Set)}:Norm).aK,aA:=({aK:=[],aA:=[],aN:=(({Ranges:=[]}):Set)}:Norm).aA,aN:=({Ranges:=(({aK:=[],aA:=[],aN:=(({Ranges:=[]}):Set)}:Norm).aN).Ranges}:Set)}:Norm) h [97,769,98,65] ({Lo:=2,Hi:=1}:Range))).bind λak=>
(pv (T&&(!ak))).bind λY=>
(gM Y (xV ({aK:=({aK:=[],aA:=[],aN:=(({Ranges:=[]}):Set)}:Norm).aK,aA:=({aK:=[],aA:=[],aN:=(({Ranges:=[]}):Set)}:Norm).aA,aN:=({Ranges:=(({aK:=[],aA:=[],aN:=(({Ranges:=[]}):Set)}:Norm).aN).Ranges}:Set)}:Norm) h ({aJ:=1,aD:=1,aQ:=false,aU:=false}:Options) [769] [97,769,98,65] [1,2])).bind λal=>
 some (Y&&(decide ((al.length:Int)=0)))
def vH (h:Int):Option (Bool):=
(pv (decide (0<=h))).bind λk=>
 some (k&&(decide (h<=1114111)))
def zI4:Option ((List Range)):=
 some [({Lo:=4352,Hi:=4370}:Range),({Lo:=4449,Hi:=4469}:Range),({Lo:=4520,Hi:=4546}:Range),({Lo:=44032,Hi:=55203}:Range)]
def zC0 (k:(List bM)) (h:Int):Option (Stp (Int) ((Unit)⊕(Int))):=
 cond (decide (h<(k.length:Int))) ((yD k h).bind λT=>
(vH T.Lo).bind λY=>
(pv (!Y)).bind λD=>
(gM (!D) (yD k h)).bind λZ=>
(gM (!D) (vH Z.Hi)).bind λaa=>
(pv (D ||(!aa))).bind λH=>
(gM (!H) (yD k h)).bind λab=>
(gM (!H) (yD k h)).bind λac=>
(pv (H ||(decide (ac.Hi<ab.Lo)))).bind λK=>
(gM (!K) (yD k h)).bind λad=>
(pv (K ||(decide (ad.Value<1)))).bind λO=>
(gM (!O) (yD k h)).bind λag=>
 cond (O ||(decide (254<ag.Value))) (some (.done (.inr (1)))) (some (.next (wi (h+1))))) (some (.done (.inl (()))))
def zC1 (D:(List bM)) (k:Int):Option (Stp (Int) ((Unit)⊕(Int))):=
 cond (decide (k<(D.length:Int))) ((yD D k).bind λO=>
(yD D (wi (k-1))).bind λT=>
(pv (decide (O.Lo<=T.Hi))).bind λh=>
(gM (!h) (yD D k)).bind λY=>
(gM (!h) (yD D (wi (k-1)))).bind λZ=>
(pv (decide (Y.Lo=(wi (Z.Hi+1))))).bind λH=>
(gM (!h&&H) (yD D k)).bind λaa=>
(gM (!h&&H) (yD D (wi (k-1)))).bind λK=>
 cond (h ||(H&&(decide (aa.Value=K.Value)))) (some (.done (.inr (4)))) (some (.next (wi (k+1))))) (some (.done (.inl (()))))
def u6 (k:(List Range)) (Y:(List bM)) (Z:Int) (T:Int):Option (Stp (Int) ((Unit)⊕(Int))):=
 cond (decide (T<(k.length:Int))) ((yD Y Z).bind λD=>
(yD k T).bind λH=>
(pv (decide (D.Lo<=H.Hi))).bind λh=>
(gM h (yD k T)).bind λK=>
(gM h (yD Y Z)).bind λO=>
 cond (h&&(decide (K.Lo<=O.Hi))) (some (.done (.inr (11)))) (some (.next (wi (T+1))))) (some (.done (.inl (()))))
def zC2 (H:(List bM)) (h:(List Range)) (D:Int):Option (Stp (Int) ((Unit)⊕(Int))):=
 cond (decide (D<(H.length:Int))) ((zF (λ(x:Int)=>u6 h H D x) 0).bind λ(k:(Unit)⊕(Int))=>
 k.elim (λk=>some (.next (wi (D+1)))) (λk=>some (.done (.inr (k))))) (some (.done (.inl (()))))
def zFU (K:(List bM)):Option (Int):=
(zF (λ(x:Int)=>zC0 K x) 0).bind λ(k:(Unit)⊕(Int))=>
 k.elim (λk=>(zF (λ(x:Int)=>zC1 K x) 1).bind λ(D:(Unit)⊕(Int))=>
 D.elim (λD=>(zI4).bind λh=>
(zF (λ(x:Int)=>zC2 K h x) 0).bind λ(H:(Unit)⊕(Int))=>
 H.elim (λH=>some 0) (λH=>some H)) (λD=>some D)) (λk=>some k)
def zC3 (H:aI) (D:Int):Option (Stp (Int) ((Unit)⊕(Bool))):=
 cond (decide (D<(H.To.length:Int))) ((yD H.To D).bind λh=>
(vH h).bind λk=>
 cond (!k) (some (.done (.inr (false)))) (some (.next (wi (D+1))))) (some (.done (.inl (()))))
def zH1 (D:aI):Option (Bool):=
(zF (λ(x:Int)=>zC3 D x) 0).bind λ(h:(Unit)⊕(Bool))=>
 h.elim (λh=>(vH D.aW).bind λk=>
 some k) (λh=>some h)
def zHO (Z:Str) (Y:Int):Option (Stp (Int) ((Unit)⊕(Bool))):=
 cond (decide (Y<(Z.length:Int))) ((z3G Z Y).bind λh=>
(pv (decide (65<=h))).bind λk=>
(pv (k&&(decide (h<=90)))).bind λD=>
(pv (decide (97<=h))).bind λH=>
(pv (D ||(H&&(decide (h<=122))))).bind λK=>
(pv (decide (48<=h))).bind λO=>
(pv (K ||(O&&(decide (h<=57))))).bind λT=>
 cond (!(T ||(decide (h=95)))) (some (.done (.inr (false)))) (some (.next (wi (Y+1))))) (some (.done (.inl (()))))
def zG5 (k:Str):Option (Bool):=
(zF (λ(x:Int)=>zHO k x) 0).bind λ(h:(Unit)⊕(Bool))=>
 h.elim (λh=>(pv (decide (1<=(k.length:Int)))).bind λD=>
 some (D&&(decide ((k.length:Int)<=32)))) (λh=>some h)
def u7 (Y:Int) (k:(List aI)) (D:Int):Option (Stp (Int) ((Unit)⊕(Bool))):=
 cond (decide (D<Y)) ((yD k Y).bind λH=>
(yD k D).bind λK=>
(pv (decide (H.aW=K.aW))).bind λh=>
(gM h (yD k Y)).bind λO=>
(gM h (yD k D)).bind λT=>
 cond (h&&(O.bO==T.bO)) (some (.done (.inr (true)))) (some (.next (wi (D+1))))) (some (.done (.inl (()))))
def zC4 (D:(List aI)) (k:Int):Option (Stp (Int) ((Unit)⊕(Bool))):=
 cond (decide (k<(D.length:Int))) ((zF (λ(x:Int)=>u7 k D x) 0).bind λ(h:(Unit)⊕(Bool))=>
 h.elim (λh=>some (.next (wi (k+1)))) (λh=>some (.done (.inr (h))))) (some (.done (.inl (()))))
def zH2 (k:(List aI)):Option (Bool):=
(zF (λ(x:Int)=>zC4 k x) 0).bind λ(h:(Unit)⊕(Bool))=>
 h.elim (λh=>some false) (λh=>some h)
def zAI (H:(List aI)) (D:Int):Option (Stp (Int) ((Unit)⊕(Int))):=
 cond (decide (D<(H.length:Int))) ((yD H D).bind λh=>
(zH1 h).bind λk=>
 cond (!k) (some (.done (.inr (1)))) (some (.next (wi (D+1))))) (some (.done (.inl (()))))
def zAJ (D:(List aI)) (k:Int):Option (Stp (Int) ((Unit)⊕(Int))):=
 cond (decide (k<(D.length:Int))) ((yD D k).bind λh=>
 cond (decide (64<(h.To.length:Int))) (some (.done (.inr (2)))) (some (.next (wi (k+1))))) (some (.done (.inl (()))))
def zAK (D:(List aI)) (k:Int):Option (Stp (Int) ((Unit)⊕(Int))):=
 cond (decide (k<(D.length:Int))) ((yD D k).bind λH=>
(pv (!(H.bO== []))).bind λh=>
(gM h (yD D k)).bind λK=>
(gM h (zG5 K.bO)).bind λO=>
 cond (h&&(!O)) (some (.done (.inr (6)))) (some (.next (wi (k+1))))) (some (.done (.inl (()))))
def zEI (h:(List aI)):Option (Int):=
(zF (λ(x:Int)=>zAI h x) 0).bind λ(k:(Unit)⊕(Int))=>
 k.elim (λk=>(zF (λ(x:Int)=>zAJ h x) 0).bind λ(D:(Unit)⊕(Int))=>
 D.elim (λD=>(zF (λ(x:Int)=>zAK h x) 0).bind λ(H:(Unit)⊕(Int))=>
 H.elim (λH=>(zH2 h).bind λK=>
 cond K (some 5) (some 0)) (λH=>some H)) (λD=>some D)) (λk=>some k)
def zI5 (h:aI) (a1:aI):Option (Bool):=
(pv (decide (h.aW<a1.aW))).bind λk=>
(pv (decide (h.aW=a1.aW))).bind λD=>
 some (k ||(D&&(Op.bytesLess h.bO a1.bO)))
def zC5 (k:(List aI)) (h:Int):Option (Stp (Int) ((Unit)⊕(Int))):=
 cond (decide (h<(k.length:Int))) ((yD k (wi (h-1))).bind λD=>
(yD k h).bind λH=>
(zI5 D H).bind λK=>
 cond (!K) (some (.done (.inr (4)))) (some (.next (wi (h+1))))) (some (.done (.inl (()))))
def zH3 (k:(List aI)):Option (Int):=
(zEI k).bind λD=>
 cond (!decide (D=0)) (some D) ((zF (λ(x:Int)=>zC5 k x) 1).bind λ(h:(Unit)⊕(Int))=>
 h.elim (λh=>some 0) (λh=>some h))
def j9 (O:(List Int)) (a1:Int) (v6:Bool) (K:Int) (h:(List Int)):Option (Stp (Bool×Int×(List Int)) ((Bool×(List Int)))):=
 cond (decide (K<(O.length:Int))) ((pv (!v6)).bind λH=>
(gM H (yD O K)).bind λT=>
(cond (H&&(decide (a1<=T))) ((yD O K).bind λY=>
 cond (decide (a1<Y)) ((app h [a1]).bind λk=>
 some (true,k)) (some (true,h))) (some (v6,h))).bind λ(y2:Bool×(List Int))=>
(yD O K).bind λZ=>
(app y2.2 [Z]).bind λD=>
 some (.next (y2.1,wi (K+1),D))) (some (.done (v6,h)))
def zEJ (D:(List Int)) (a1:Int):Option ((List Int)):=
(zF (λ(x:Bool×Int×(List Int))=>j9 D a1 x.1 x.2.1 x.2.2) (false,0,[])).bind λ(k:Bool×(List Int))=>
(cond (!k.1) ((app k.2 [a1]).bind λh=>
 some h) (some k.2)).bind λ(H:(List Int))=>
 some H
def uU (a1:Set) (Y:(List Int)) (D:Int):Option (Stp ((List Int)×Int) (((List Int)))):=
 cond (decide (D<(a1.Ranges.length:Int))) (((yD a1.Ranges D).bind λk=>
(yD a1.Ranges D).bind λh=>
(vH k.Lo).bind λK=>
(cond K ((zEJ Y k.Lo).bind λO=>
 some O) (some Y)).bind λ(Z:(List Int))=>
(pv (decide (0<=h.Hi))).bind λH=>
 cond (H&&(decide (h.Hi<1114111))) ((zEJ Z (wi (h.Hi+1))).bind λT=>
 some T) (some Z)).bind λ(y2:(List Int))=>
 some (.next (y2,wi (D+1)))) (some (.done Y))
def zG6 (k:(List Int)) (a1:Set):Option ((List Int)):=
(zF (λ(x:(List Int)×Int)=>uU a1 x.1 x.2) (k,0)).bind λ(D:(List Int))=>
(zEJ D 0).bind λh=>
 some h
def zES (H:Set) (a1:Int) (D:Int):Option (Stp (Int) ((Unit)⊕(Bool))):=
 cond (decide (D<(H.Ranges.length:Int))) ((vH a1).bind λK=>
(pv K).bind λh=>
(gM h (yD H.Ranges D)).bind λO=>
(pv (h&&(decide (O.Lo<=a1)))).bind λk=>
(gM k (yD H.Ranges D)).bind λT=>
 cond (k&&(decide (a1<=T.Hi))) (some (.done (.inr (true)))) (some (.next (wi (D+1))))) (some (.done (.inl (()))))
def zG7 (k:Set) (a1:Int):Option (Bool):=
(zF (λ(x:Int)=>zES k a1 x) 0).bind λ(h:(Unit)⊕(Bool))=>
 h.elim (λh=>some false) (λh=>some h)
def zKY (H:Int) (a1:Bool) (a2:Bool):Option (Bool):=
 cond (decide (H=1)) ((pv a1).bind λh=>
 some (h ||a2)) (cond (decide (H=2)) ((pv a1).bind λk=>
 some (k&&a2)) ((pv a1).bind λD=>
 some (D&&(!a2))))
def jR (D:(List Int)) (a0:Set) (a1:Set) (a2:Int) (v9:Bool) (k:Int) (h:(List Range)):Option (Stp (Bool×Int×(List Range)) (((List Range)))):=
 cond (decide (k<(D.length:Int))) ((cond (decide ((wi (k+1))<(D.length:Int))) ((yD D (wi (k+1))).bind λZ=>
 some (wi (Z-1))) (some 1114111)).bind λ(y2:Int)=>
(yD D k).bind λaa=>
(zG7 a0 aa).bind λab=>
(yD D k).bind λac=>
(zG7 a1 ac).bind λad=>
(zKY a2 ab ad).bind λO=>
(pv O).bind λT=>
(cond (T&&v9) ((yD h (wi ((h.length:Int)-1))).bind λag=>
(zBD h (wi ((h.length:Int)-1)) ({ag with Hi:=y2})).bind λH=>
 some H) (some h)).bind λ(y3:(List Range))=>
(pv O).bind λY=>
(cond (Y&&(!v9)) ((yD D k).bind λah=>
(app y3 [({Lo:=ah,Hi:=y2}:Range)]).bind λK=>
 some K) (some y3)).bind λ(y5:(List Range))=>
 some (.next (O,wi (k+1),y5))) (some (.done h))
def zHP (D:Set) (a1:Set) (a2:Int):Option (Set):=
(zG6 [] D).bind λh=>
(zG6 h a1).bind λk=>
(zF (λ(x:Bool×Int×(List Range))=>jR k D a1 a2 x.1 x.2.1 x.2.2) (false,0,[])).bind λ(H:(List Range))=>
 some ({Ranges:=H}:Set)
def zJS (h:(List Range)):Option (Set):=
(zHP ({Ranges:=h}:Set) ({Ranges:=[]}:Set) 1).bind λk=>
 some k
def zDW (H:Set) (a1:Set) (h:Int):Option (Stp (Int) ((Unit)⊕(Bool))):=
 cond (decide (h<(H.Ranges.length:Int))) ((yD H.Ranges h).bind λk=>
(yD a1.Ranges h).bind λD=>
 cond (!decide (k=D)) (some (.done (.inr (false)))) (some (.next (wi (h+1))))) (some (.done (.inl (()))))
def zJT (k:Set) (a1:Set):Option (Bool):=
 cond (!decide ((k.Ranges.length:Int)=(a1.Ranges.length:Int))) (some false) ((zF (λ(x:Int)=>zDW k a1 x) 0).bind λ(h:(Unit)⊕(Bool))=>
 h.elim (λh=>some true) (λh=>some h))
def zH4 (h:Set):Option (Bool):=
(zJS h.Ranges).bind λk=>
(zJT h k).bind λD=>
 some D
def zDX (H:(List aI)) (a1:Int) (a2:Bool) (D:Int):Option (Stp (Int) ((Unit)⊕(Int))):=
 cond (decide (D<(H.length:Int))) ((yD H D).bind λK=>
(pv (decide (K.aW=a1))).bind λh=>
(pv a2).bind λk=>
(gM (h&& !k) (yD H D)).bind λO=>
 cond (h&&(k ||(O.bO== []))) (some (.done (.inr (D)))) (some (.next (wi (D+1))))) (some (.done (.inl (()))))
def zEK (k:(List aI)) (a1:Int) (a2:Bool):Option (Int):=
(zF (λ(x:Int)=>zDX k a1 a2 x) 0).bind λ(h:(Unit)⊕(Int))=>
 h.elim (λh=>some (-1)) (λh=>some h)
def zG8 (h:Int):Option (Int):=
(pv (decide (4352<=h))).bind λO=>
 cond (O&&(decide (h<=4370))) (some 1) ((pv (decide (4449<=h))).bind λk=>
 cond (k&&(decide (h<=4469))) (some 2) ((pv (decide (4520<=h))).bind λD=>
 cond (D&&(decide (h<=4546))) (some 3) ((pv (decide (44032<=h))).bind λH=>
 cond (H&&(decide (h<=55203))) ((zKJ (wi (h-44032)) 28).bind λK=>
 cond (decide (K=0)) (some 4) (some 5)) (some 0))))
def vR (D:(List bM)) (a1:Int) (k:Int):Option (Stp (Int) ((Unit)⊕(Int))):=
 cond (decide (k<(D.length:Int))) ((yD D k).bind λH=>
(pv (decide (H.Lo<=a1))).bind λh=>
(gM h (yD D k)).bind λK=>
 cond (h&&(decide (a1<=K.Hi))) ((yD D k).bind λO=>
 some (.done (.inr (O.Value)))) (some (.next (wi (k+1))))) (some (.done (.inl (()))))
def zB7 (k:(List bM)) (a1:Int):Option (Int):=
(zFU k).bind λD=>
 cond (!decide (D=0)) (some 0) ((zF (λ(x:Int)=>vR k a1 x) 0).bind λ(h:(Unit)⊕(Int))=>
 h.elim (λh=>some 0) (λh=>some h))
def uV (H:(List aI)) (v5:Int) (K:(List Bool)) (v6:Bool) (v7:Int):Option (Stp (Bool×Int) ((Bool))):=
(yD H v5).bind λO=>
 cond (decide (v7<(O.To.length:Int))) ((yD H v5).bind λT=>
(yD T.To v7).bind λY=>
(zEK H Y true).bind λD=>
(pv v6).bind λh=>
(pv (decide (D<0))).bind λk=>
(gM (h&& !k) (yD K D)).bind λZ=>
 some (.next ((h&&(k ||Z)),wi (v7+1)))) (some (.done v6))
def zCH (H:(List aI)) (D:Int) (h:(List Bool)):Option (Stp (Int×(List Bool)) (((List Bool)))):=
 cond (decide (D<(H.length:Int))) ((zF (λ(x:Bool×Int)=>uV H D h x.1 x.2) (true,0)).bind λ(O:Bool)=>
(yD h D).bind λK=>
(zBD h D O).bind λk=>
 some (.next (wi (D+1),k))) (some (.done h))
def zCI (k:(List aI)) (D:Int) (h:(List Bool)):Option (Stp (Int×(List Bool)) (((List Bool)))):=
 cond (decide (D<(k.length:Int))) ((zF (λ(x:Int×(List Bool))=>zCH k x.1 x.2) (0,h)).bind λ(H:(List Bool))=>
 some (.next (wi (D+1),H))) (some (.done h))
def zJU (k:(List aI)):Option ((List Bool)):=
(mkM false (k.length:Int)).bind λh=>
(zF (λ(x:Int×(List Bool))=>zCI k x.1 x.2) (0,h)).bind λ(D:(List Bool))=>
 some D
def zBW (k:Int):Option ((List Int)):=
(zG8 k).bind λZ=>
 cond (decide (Z<4)) (some [k]) ((zNY wi (wi (k-44032)) 28).bind λK=>
(zNY wi K 21).bind λD=>
(zNY wi (wi (k-44032)) 28).bind λO=>
(zKJ O 21).bind λH=>
(zKJ (wi (k-44032)) 28).bind λT=>
(cond (decide (0<T)) ((zKJ (wi (k-44032)) 28).bind λY=>
(app [wi (4352+D),wi (4449+H)] [wi ((wi (4520+Y))-1)]).bind λh=>
 some h) (some [wi (4352+D),wi (4449+H)])).bind λ(y1:(List Int))=>
 some y1)
def wM (k:(List aI)) (v7:Int) (a1:Bool) (H:(List Int)) (v8:Int) (D:Int):Option (Stp (Int×Int) ((Int))):=
(yD k v7).bind λK=>
 cond (decide (D<(K.To.length:Int))) (((yD k v7).bind λO=>
(yD O.To D).bind λT=>
(zEK k T a1).bind λh=>
 cond (decide (0<=h)) ((yD H h).bind λY=>
 some (wi (v8+Y))) ((yD k v7).bind λZ=>
(yD Z.To D).bind λaa=>
(zBW aa).bind λab=>
 some (wi (v8+(ab.length:Int))))).bind λ(y5:Int)=>
 some (.next (y5,wi (D+1)))) (some (.done v8))
def uP (K:(List aI)) (a1:Bool) (D:Int) (k:(List Int)):Option (Stp (Int×(List Int)) (((List Int)))):=
 cond (decide (D<(K.length:Int))) (((zF (λ(x:Int×Int)=>wM K D a1 k x.1 x.2) (0,0)).bind λ(y4:Int)=>
(yD k D).bind λY=>
(zBD k D (min (max y4 1) 65)).bind λh=>
(yD K D).bind λT=>
(pv (!(T.bO== []))).bind λO=>
 cond (O&&(!a1)) ((yD h D).bind λZ=>
(zBD h D 1).bind λH=>
 some H) (some h)).bind λ(y3:(List Int))=>
 some (.next (wi (D+1),y3))) (some (.done k))
def uQ (k:(List aI)) (a1:Bool) (D:Int) (h:(List Int)):Option (Stp (Int×(List Int)) (((List Int)))):=
 cond (decide (D<(k.length:Int))) ((zF (λ(x:Int×(List Int))=>uP k a1 x.1 x.2) (0,h)).bind λ(H:(List Int))=>
 some (.next (wi (D+1),H))) (some (.done h))
def zDY (k:(List aI)) (a1:Bool):Option ((List Int)):=
(mkM 0 (k.length:Int)).bind λh=>
(zF (λ(x:Int×(List Int))=>uQ k a1 x.1 x.2) (0,h)).bind λ(D:(List Int))=>
 some D
def zC6 (k:Norm) (h:Int):Option (Stp (Int) ((Unit)⊕(Int))):=
 cond (decide (h<(k.aA.length:Int))) ((yD k.aA h).bind λD=>
(zEK k.aA D.aW true).bind λH=>
 cond (decide (H<h)) (some (.done (.inr (5)))) (some (.next (wi (h+1))))) (some (.done (.inl (()))))
def zC7 (H:Norm) (D:Int):Option (Stp (Int) ((Unit)⊕(Int))):=
 cond (decide (D<(H.aA.length:Int))) ((yD H.aA D).bind λK=>
(pv (K.bO== [])).bind λh=>
(gM h (yD H.aA D)).bind λO=>
(pv (h&&(!decide ((O.To.length:Int)=1)))).bind λk=>
(gM k (yD H.aA D)).bind λT=>
 cond (k&&(!decide ((T.To.length:Int)=2))) (some (.done (.inr (8)))) (some (.next (wi (D+1))))) (some (.done (.inl (()))))
def zC8 (D:Norm) (O:Int):Option (Stp (Int) ((Unit)⊕(Int))):=
 cond (decide (O<(D.aA.length:Int))) ((yD D.aA O).bind λT=>
(zG8 T.aW).bind λY=>
(pv (!decide (Y=0))).bind λh=>
(gM (!h) (yD D.aA O)).bind λZ=>
(pv (!(Z.bO== []))).bind λk=>
(gM (!h&&k) (yD D.aA O)).bind λH=>
(gM (!h&&k) (zB7 D.aK H.aW)).bind λK=>
 cond (h ||(k&&(!decide (K=0)))) (some (.done (.inr (11)))) (some (.next (wi (O+1))))) (some (.done (.inl (()))))
def zC9 (H:Norm) (k:(List Bool)) (h:Int):Option (Stp (Int) ((Unit)⊕(Int))):=
 cond (decide (h<(H.aA.length:Int))) ((yD k h).bind λD=>
 cond (!D) (some (.done (.inr (12)))) (some (.next (wi (h+1))))) (some (.done (.inl (()))))
def zDA (T:Norm) (D:(List Int)) (H:(List Int)) (h:Int):Option (Stp (Int) ((Unit)⊕(Int))):=
 cond (decide (h<(T.aA.length:Int))) ((yD D h).bind λK=>
(pv (decide (64<K))).bind λk=>
(gM (!k) (yD H h)).bind λO=>
 cond (k ||(decide (64<O))) (some (.done (.inr (13)))) (some (.next (wi (h+1))))) (some (.done (.inl (()))))
def zH5 (h:Norm):Option (Int):=
(zFU h.aK).bind λK=>
 cond (!decide (K=0)) (some K) ((zH3 h.aA).bind λO=>
 cond (!decide (O=0)) (some O) ((zH4 h.aN).bind λac=>
 cond (!ac) (some 11) ((zF (λ(x:Int)=>zC6 h x) 0).bind λ(T:(Unit)⊕(Int))=>
 T.elim (λT=>(zF (λ(x:Int)=>zC7 h x) 0).bind λ(Y:(Unit)⊕(Int))=>
 Y.elim (λY=>(zF (λ(x:Int)=>zC8 h x) 0).bind λ(Z:(Unit)⊕(Int))=>
 Z.elim (λZ=>(zJU h.aA).bind λk=>
(zF (λ(x:Int)=>zC9 h k x) 0).bind λ(y4:(Unit)⊕(Int))=>
 y4.elim (λy4=>(zDY h.aA false).bind λD=>
(zDY h.aA true).bind λH=>
(zF (λ(x:Int)=>zDA h D H x) 0).bind λ(y5:(Unit)⊕(Int))=>
 y5.elim (λy5=>some 0) (λy5=>some y5)) (λy4=>some y4)) (λZ=>some Z)) (λY=>some Y)) (λT=>some T))))
def zG9 (h:Norm):Option (Norm):=
(zH5 h).bind λk=>
 cond (!decide (k=0)) (some ({aK:=({aK:=[],aA:=[],aN:=(({Ranges:=[]}):Set)}:Norm).aK,aA:=({aK:=[],aA:=[],aN:=(({Ranges:=[]}):Set)}:Norm).aA,aN:=({Ranges:=(({aK:=[],aA:=[],aN:=(({Ranges:=[]}):Set)}:Norm).aN).Ranges}:Set)}:Norm)) (some h)
def zGB (h:Int):Option (Bool):=
(pv (decide (1<=h))).bind λk=>
 some (k&&(decide (h<=65535)))
def zBX (H:Collation) (D:Int):Option (Stp (Int) ((Unit)⊕(Int))):=
 cond (decide (D<(H.aF.length:Int))) ((yD H.aF D).bind λh=>
(zG5 h.bT).bind λk=>
 cond (!k) (some (.done (.inr (6)))) (some (.next (wi (D+1))))) (some (.done (.inl (()))))
def zBY (K:Int) (H:Collation) (D:Int):Option (Stp (Int) ((Unit)⊕(Int))):=
 cond (decide (D<K)) ((yD H.aF D).bind λh=>
(yD H.aF K).bind λk=>
 cond (h.bT==k.bT) (some (.done (.inr (5)))) (some (.next (wi (D+1))))) (some (.done (.inl (()))))
def zBZ (D:Collation) (k:Int):Option (Stp (Int) ((Unit)⊕(Int))):=
 cond (decide (k<(D.aF.length:Int))) ((zF (λ(x:Int)=>zBY k D x) 0).bind λ(h:(Unit)⊕(Int))=>
 h.elim (λh=>some (.next (wi (k+1)))) (λh=>some (.done (.inr (h))))) (some (.done (.inl (()))))
def zB0 (k:Collation) (D:Int):Option (Stp (Int) ((Unit)⊕(Int))):=
 cond (decide (D<(k.aF.length:Int))) ((yD k.aF D).bind λK=>
(pv (decide (K.Lo<1))).bind λh=>
(gM (!h) (yD k.aF D)).bind λO=>
(gM (!h) (yD k.aF D)).bind λT=>
(pv (h ||(decide (O.Hi<T.Lo)))).bind λH=>
(gM (!H) (yD k.aF D)).bind λY=>
 cond (H ||(decide (k.bL<=Y.Hi))) (some (.done (.inr (1)))) (some (.next (wi (D+1))))) (some (.done (.inl (()))))
def zAO (k:Collation) (h:Int):Option (Stp (Int) ((Unit)⊕(Int))):=
 cond (decide (h<(k.aF.length:Int))) ((yD k.aF h).bind λD=>
(yD k.aF (wi (h-1))).bind λH=>
 cond (!decide (D.Lo=(wi (H.Hi+1)))) (some (.done (.inr (4)))) (some (.next (wi (h+1))))) (some (.done (.inl (()))))
def zGC (h:Collation):Option (Int):=
(zF (λ(x:Int)=>zBX h x) 0).bind λ(k:(Unit)⊕(Int))=>
 k.elim (λk=>(zF (λ(x:Int)=>zBZ h x) 0).bind λ(D:(Unit)⊕(Int))=>
 D.elim (λD=>(zF (λ(x:Int)=>zB0 h x) 0).bind λ(H:(Unit)⊕(Int))=>
 H.elim (λH=>(zF (λ(x:Int)=>zAO h x) 1).bind λ(K:(Unit)⊕(Int))=>
 K.elim (λK=>some 0) (λK=>some K)) (λH=>some H)) (λD=>some D)) (λk=>some k)
def zET (h:Int):Option (Bool):=
(pv (decide (0<=h))).bind λk=>
 some (k&&(decide (h<=65535)))
def zH6 (h:aP):Option (Int):=
(zET h.aT).bind λt5=>
(pv (!t5)).bind λb7=>
(gM (!b7) (zET h.aL)).bind λZ=>
(pv (b7 ||(!Z))).bind λk=>
(gM (!k) (zET h.aO)).bind λaa=>
 cond (k ||(!aa)) (some 1) ((pv (!decide (h.aT=0))).bind λD=>
(pv (decide (h.aL=0))).bind λH=>
(pv (D&&(H ||(decide (h.aO=0))))).bind λK=>
(pv (!decide (h.aL=0))).bind λO=>
(pv (K ||(O&&(decide (h.aO=0))))).bind λT=>
(pv h.aD).bind λY=>
 cond (T ||(Y&&(decide (h.aT=0)))) (some 11) (some 0))
def zGD (h:bP) (H:Int):Option (Stp (Int) ((Unit)⊕(Int))):=
 cond (decide (H<(h.aY.length:Int))) ((yD h.aY H).bind λk=>
(vH k).bind λD=>
 cond (!D) (some (.done (.inr (1)))) (some (.next (wi (H+1))))) (some (.done (.inl (()))))
def zDB (h:bP) (H:Int):Option (Stp (Int) ((Unit)⊕(Int))):=
 cond (decide (H<(h.aV.length:Int))) ((yD h.aV H).bind λD=>
(zH6 D).bind λk=>
 cond (!decide (k=0)) (some (.done (.inr (k)))) (some (.next (wi (H+1))))) (some (.done (.inl (()))))
def zGE (h:bP) (H:Collation) (D:Int):Option (Stp (Int) ((Unit)⊕(Int))):=
 cond (decide (D<(h.aV.length:Int))) ((yD h.aV D).bind λk=>
 cond (decide (H.bL<=k.aT)) (some (.done (.inr (1)))) (some (.next (wi (D+1))))) (some (.done (.inl (()))))
def zH7 (O:Collation) (a1:Int):Option (Int):=
(yD O.aB a1).bind λh=>
(pv (decide ((h.aY.length:Int)<1))).bind λT=>
(pv (T ||(decide (8<(h.aY.length:Int))))).bind λY=>
 cond (Y ||(decide (16<(h.aV.length:Int)))) (some 2) ((zF (λ(x:Int)=>zGD h x) 0).bind λ(D:(Unit)⊕(Int))=>
 D.elim (λD=>(zF (λ(x:Int)=>zDB h x) 0).bind λ(H:(Unit)⊕(Int))=>
 H.elim (λH=>(zF (λ(x:Int)=>zGE h O x) 0).bind λ(K:(Unit)⊕(Int))=>
 K.elim (λK=>(pv (decide (0<a1))).bind λk=>
(gM k (yD O.aB (wi (a1-1)))).bind λZ=>
(gM k (zDV Z.aY h.aY)).bind λaa=>
 cond (k&&(decide (0<=aa))) (some 4) (some 0)) (λK=>some K)) (λH=>some H)) (λD=>some D))
def zDC (D:Collation) (k:Int):Option (Stp (Int) ((Unit)⊕(Int))):=
 cond (decide (k<(D.aB.length:Int))) ((zH7 D k).bind λh=>
 cond (!decide (h=0)) (some (.done (.inr (h)))) (some (.next (wi (k+1))))) (some (.done (.inl (()))))
def zH8 (h:Collation):Option (Int):=
(pv (decide (h.bL<1))).bind λY=>
(pv (Y ||(decide (65502<h.bL)))).bind λk=>
(gM (!k) (zGB h.bF)).bind λO=>
(pv (k ||(!O))).bind λD=>
(gM (!D) (zGB h.bK)).bind λT=>
 cond (D ||(!T)) (some 1) ((zGC h).bind λH=>
 cond (!decide (H=0)) (some H) ((zF (λ(x:Int)=>zDC h x) 0).bind λ(K:(Unit)⊕(Int))=>
 K.elim (λK=>some 0) (λK=>some K)))
def zHA (h:Collation):Option (Collation):=
(zH8 h).bind λk=>
 cond (!decide (k=0)) (some ({aB:=[],aF:=[],bL:=64448,bF:=32,bK:=2}:Collation)) (some h)
def jU (a2:(List Int)) (a0:(List aI)) (a3:Bool) (a1:(List (List Int))) (H:Int) (h:(List Int)):Option (Stp (Int×(List Int)) (((List Int)))):=
 cond (decide (H<(a2.length:Int))) (((yD a2 H).bind λO=>
(zEK a0 O a3).bind λK=>
 cond (decide (0<=K)) ((yD a1 K).bind λT=>
(app h T).bind λk=>
 some k) ((yD a2 H).bind λY=>
(zBW Y).bind λZ=>
(app h Z).bind λD=>
 some D)).bind λ(y2:(List Int))=>
 some (.next (wi (H+1),y2))) (some (.done h))
def u9 (h:(List aI)) (a1:(List (List Int))) (a2:(List Int)) (a3:Bool):Option ((List Int)):=
(zF (λ(x:Int×(List Int))=>jU a2 h a3 a1 x.1 x.2) (0,[])).bind λ(k:(List Int))=>
 some k
def zBL (K:(List aI)) (a1:Bool) (D:Int) (h:(List (List Int))):Option (Stp (Int×(List (List Int))) (((List (List Int))))):=
 cond (decide (D<(K.length:Int))) (((pv a1).bind λH=>
(gM (!H) (yD K D)).bind λO=>
 cond (H ||(O.bO== [])) ((yD K D).bind λT=>
(u9 K h T.To a1).bind λY=>
(yD h D).bind λZ=>
(zBD h D Y).bind λk=>
 some k) (some h)).bind λ(y3:(List (List Int)))=>
 some (.next (wi (D+1),y3))) (some (.done h))
def zBM (k:(List aI)) (a1:Bool) (D:Int) (h:(List (List Int))):Option (Stp (Int×(List (List Int))) (((List (List Int))))):=
 cond (decide (D<(k.length:Int))) ((zF (λ(x:Int×(List (List Int)))=>zBL k a1 x.1 x.2) (0,h)).bind λ(H:(List (List Int)))=>
 some (.next (wi (D+1),H))) (some (.done h))
def zH9 (k:(List aI)) (a1:Bool):Option ((List (List Int))):=
(mkM [] (k.length:Int)).bind λh=>
(zF (λ(x:Int×(List (List Int)))=>zBM k a1 x.1 x.2) (0,h)).bind λ(D:(List (List Int)))=>
 some D
def zJV (D:Norm) (a1:(List Int)) (a2:Bool):Option ((List Int)):=
(zH9 D.aA a2).bind λh=>
(u9 D.aA h a1 a2).bind λk=>
 some k
def zAX (O:Int) (a0:(List bM)) (a1:(List Int)) (v6:Int) (H:Int) (h:(List Int)):Option (Stp (Int×(List Int)) (((List Int)))):=
(pv (decide (0<H))).bind λT=>
(pv (T&&(decide (0<O)))).bind λK=>
(gM K (yD h (wi (H-1)))).bind λY=>
(gM K (zB7 a0 Y)).bind λZ=>
 cond (K&&(decide (O<Z))) ((yD h (wi (H-1))).bind λaa=>
(yD h H).bind λad=>
(zBD h H aa).bind λk=>
(yD a1 v6).bind λab=>
(yD k (wi (H-1))).bind λag=>
(zBD k (wi (H-1)) ab).bind λD=>
 some (.next (wi (H-1),D))) (some (.done h))
def uW (a1:(List Int)) (T:(List bM)) (D:Int) (k:(List Int)):Option (Stp (Int×(List Int)) (((List Int)))):=
 cond (decide (D<(a1.length:Int))) ((yD a1 D).bind λH=>
(app k [H]).bind λh=>
(yD a1 D).bind λK=>
(zB7 T K).bind λO=>
(zF (λ(x:Int×(List Int))=>zAX O T a1 D x.1 x.2) (wi ((h.length:Int)-1),h)).bind λ(Y:(List Int))=>
 some (.next (wi (D+1),Y))) (some (.done k))
def zHB (h:(List bM)) (a1:(List Int)):Option ((List Int)):=
(zF (λ(x:Int×(List Int))=>uW a1 h x.1 x.2) (0,[])).bind λ(k:(List Int))=>
 some k
def zFP (H:Norm) (a1:(List Int)) (a2:Bool):Option ((List Int)):=
(zG9 H).bind λD=>
(zJV D a1 a2).bind λh=>
(zHB D.aK h).bind λk=>
 some k
def zDZ (D:Collation) (a1:(List Int)) (k:Int):Option (Stp (Int) ((Unit)⊕(Bool×(List aP)))):=
 cond (decide (k<(D.aB.length:Int))) ((yD D.aB k).bind λH=>
(uA H.aY a1).bind λK=>
 cond K ((yD D.aB k).bind λO=>
(app [] O.aV).bind λh=>
 some (.done (.inr ((true,h))))) (some (.next (wi (k+1))))) (some (.done (.inl (()))))
def zEL (k:Collation) (a1:(List Int)):Option ((List aP)×Bool):=
(zF (λ(x:Int)=>zDZ k a1 x) 0).bind λ(h:(Unit)⊕(Bool×(List aP)))=>
 h.elim (λh=>some ([],false)) (λh=>some (h.2,h.1))
def zFC (h:(List bM)) (a1:Int):Option (Bool):=
(zB7 h a1).bind λk=>
 some (decide (k=0))
def zHC (D:(List Int)) (a1:Int):Option ((List Int)):=
(app [] D).bind λh=>
(app h [a1]).bind λk=>
 some k
def wN (a2:(List Int)) (a1:Collation) (H:Int) (h:Int):Option (Stp (Int×Int) ((Int))):=
 cond (decide (h<=(a2.length:Int))) (((slc a2 0 h).bind λk=>
(zEL a1 k).bind λD=>
 cond D.2 (some h) (some H)).bind λ(K:Int)=>
 some (.next (K,wi (h+1)))) (some (.done H))
def vI (a2:(List Int)) (a0:(List bM)) (a1:Collation) (H:(List Int)) (O:Int) (h:Int) (k:(List Int)):Option (Stp ((List Int)×Int×Int×(List Int)) (((List Int)×Int×(List Int)))):=
(pv (decide (h<(a2.length:Int)))).bind λK=>
(gM K (yD a2 h)).bind λZ=>
(gM K (zFC a0 Z)).bind λaa=>
 cond (K&&(!aa)) ((yD a2 h).bind λab=>
(zB7 a0 ab).bind λT=>
(yD a2 h).bind λac=>
(zHC H ac).bind λad=>
(zEL a1 ad).bind λag=>
(pv ag.2).bind λY=>
(cond (Y&&(decide (O<T))) ((yD a2 h).bind λah=>
(zHC H ah).bind λai=>
 some (ai,O,k)) ((yD a2 h).bind λaj=>
(app k [aj]).bind λD=>
 some (H,max O T,D))).bind λ(y5:(List Int)×Int×(List Int))=>
 some (.next (y5.1,y5.2.1,wi (h+1),y5.2.2))) (some (.done (H,h,k)))
def zFD (Z:(List bM)) (a1:Collation) (a2:(List Int)):Option ((List Int)×(List Int)×Bool):=
(zF (λ(x:Int×Int)=>wN a2 a1 x.1 x.2) (0,1)).bind λ(T:Int)=>
 cond (decide (T=0)) ((slc a2 0 1).bind λH=>
(slc a2 1 (a2.length)).bind λK=>
 some (H,K,false)) ((slc a2 0 T).bind λO=>
(app [] O).bind λk=>
(zF (λ(x:(List Int)×Int×Int×(List Int))=>vI a2 Z a1 x.1 x.2.1 x.2.2.1 x.2.2.2) (k,0,T,[])).bind λ(Y:(List Int)×Int×(List Int))=>
(slc a2 Y.2.1 (a2.length)).bind λD=>
(app Y.2.2 D).bind λh=>
 some (Y.1,h,true))
def zEM (H:Collation) (a1:Int):Option ((List aP)):=
(vH a1).bind λK=>
 cond (!K) (some []) ((zHA H).bind λh=>
(zNY wi a1 32768).bind λk=>
(zKJ a1 32768).bind λD=>
 some [({aT:=wi (h.bL+k),aL:=h.bF,aO:=h.bK,aD:=false}:aP),({aT:=wi (32768+D),aL:=0,aO:=0,aD:=false}:aP)])
def uX (Y:Norm) (H:Collation) (a1:Collation) (K:(List Int)) (O:Bool) (h:(List aP)):Option (Stp ((List Int)×Bool×(List aP)) ((Bool×(List aP)))):=
 cond (decide (0<(K.length:Int))) ((zFD Y.aK H K).bind λD=>
(yD D.1 (0:Int)).bind λZ=>
(zEM a1 Z).bind λaa=>
(cond D.2.2 ((zEL H D.1).bind λab=>
 some ab.1) (some aa)).bind λ(y2:(List aP))=>
(app h y2).bind λk=>
(pv O).bind λT=>
 some (.next (D.2.1,(T&&D.2.2),k))) (some (.done (O,h)))
def zJW (H:Norm) (a1:Collation) (a2:(List Int)):Option ((List aP)×Bool):=
(zG9 H).bind λh=>
(zHA a1).bind λk=>
(zFP H a2 false).bind λD=>
(zF (λ(x:(List Int)×Bool×(List aP))=>uX h k a1 x.1 x.2.1 x.2.2) (D,true,[])).bind λ(K:Bool×(List aP))=>
 some (K.2,K.1)
def xM (k:Norm) (a1:Collation) (a2:(List Int)):Option ((List aP)):=
(zJW k a1 a2).bind λh=>
 some h.1
def zIA (h:Options):Option (Int):=
(pv (decide (h.aJ<1))).bind λD=>
 cond (D ||(decide (4<h.aJ))) (some 1) ((pv (decide (h.aD<1))).bind λk=>
 cond (k ||(decide (3<h.aD))) (some 8) (some 0))
def zD0 (h:Options):Option (Options):=
(zIA h).bind λk=>
 cond (!decide (k=0)) (some ({aJ:=3,aD:=1,aQ:=false,aU:=false}:Options)) (some h)
def zA9 (a0:(List aP)) (a1:Int) (v6:Bool) (v7:Int) (k:(List bG)):Option (Stp (Bool×Int×(List bG)) (((List bG)))):=
 cond (decide (v7<(a0.length:Int))) ((yD a0 v7).bind λh=>
(pv (decide (h.aT=0))).bind λO=>
(pv (O&&(decide (h.aL=0)))).bind λH=>
(pv h.aD).bind λT=>
(cond (T ||(!decide (h.aT=0))) (some h.aD) (some v6)).bind λ(y2:Bool)=>
(cond (decide (a1=1)) (cond (!(H&&(decide (h.aO=0)))) (some (({x0:=h.aT,x1:=h.aL,x2:=h.aO,x3:=0}:bG).x0,({x0:=h.aT,x1:=h.aL,x2:=h.aO,x3:=0}:bG).x1,({x0:=h.aT,x1:=h.aL,x2:=h.aO,x3:=0}:bG).x2,65535)) (some (({x0:=h.aT,x1:=h.aL,x2:=h.aO,x3:=0}:bG).x0,({x0:=h.aT,x1:=h.aL,x2:=h.aO,x3:=0}:bG).x1,({x0:=h.aT,x1:=h.aL,x2:=h.aO,x3:=0}:bG).x2,({x0:=h.aT,x1:=h.aL,x2:=h.aO,x3:=0}:bG).x3))) (cond y2 ((pv (decide (a1=3))).bind λY=>
 cond (Y&&h.aD) (some (({x0:=0,x1:=0,x2:=0,x3:=0}:bG).x0,({x0:=0,x1:=0,x2:=0,x3:=0}:bG).x1,({x0:=0,x1:=0,x2:=0,x3:=0}:bG).x2,h.aT)) (some (({x0:=0,x1:=0,x2:=0,x3:=0}:bG).x0,({x0:=0,x1:=0,x2:=0,x3:=0}:bG).x1,({x0:=0,x1:=0,x2:=0,x3:=0}:bG).x2,({x0:=0,x1:=0,x2:=0,x3:=0}:bG).x3))) ((pv (decide (a1=3))).bind λZ=>
 cond (Z&&(!(H&&(decide (h.aO=0))))) (some (({x0:=h.aT,x1:=h.aL,x2:=h.aO,x3:=0}:bG).x0,({x0:=h.aT,x1:=h.aL,x2:=h.aO,x3:=0}:bG).x1,({x0:=h.aT,x1:=h.aL,x2:=h.aO,x3:=0}:bG).x2,65535)) (some (({x0:=h.aT,x1:=h.aL,x2:=h.aO,x3:=0}:bG).x0,({x0:=h.aT,x1:=h.aL,x2:=h.aO,x3:=0}:bG).x1,({x0:=h.aT,x1:=h.aL,x2:=h.aO,x3:=0}:bG).x2,({x0:=h.aT,x1:=h.aL,x2:=h.aO,x3:=0}:bG).x3))))).bind λ(K:Int×Int×Int×Int)=>
(app k [({x0:=K.1,x1:=K.2.1,x2:=K.2.2.1,x3:=K.2.2.2}:bG)]).bind λD=>
 some (.next (y2,wi (v7+1),D))) (some (.done k))
def zFE (h:(List aP)) (a1:Int):Option ((List bG)):=
(zF (λ(x:Bool×Int×(List bG))=>zA9 h a1 x.1 x.2.1 x.2.2) (false,0,[])).bind λ(k:(List bG))=>
 some k
def vJ (D:(List bG)) (v7:Int) (Y:Options) (O:Int) (h:(List Int)):Option (Stp (Int×(List Int)) (((List Int)))):=
 cond (decide (O<(D.length:Int))) (((pv (decide (v7=1))).bind λT=>
(cond (T&&Y.aQ) (some (wi ((wi ((D.length:Int)-1))-O))) (some O)).bind λ(y4:Int)=>
(yD D y4).bind λH=>
(yD [H.x0,H.x1,H.x2,H.x3] v7).bind λZ=>
 cond (!decide (Z=0)) ((yD D y4).bind λK=>
(yD [K.x0,K.x1,K.x2,K.x3] v7).bind λaa=>
(app h [aa]).bind λk=>
 some k) (some h)).bind λ(y3:(List Int))=>
 some (.next (wi (O+1),y3))) (some (.done h))
def vK (D:Options) (H:(List bG)) (K:Int) (h:(List (List Int))):Option (Stp (Int×(List (List Int))) (((List (List Int))))):=
 cond (decide (K<D.aJ)) ((zF (λ(x:Int×(List Int))=>vJ H K D x.1 x.2) (0,[])).bind λ(O:(List Int))=>
(app h [O]).bind λk=>
 some (.next (wi (K+1),k))) (some (.done h))
def zAY (D:(List aP)) (a1:Options):Option ((List (List Int))):=
(zD0 ({aJ:=a1.aJ,aD:=a1.aD,aQ:=a1.aQ,aU:=a1.aU}:Options)).bind λh=>
(zFE D h.aD).bind λk=>
(zF (λ(x:Int×(List (List Int)))=>vK h k x.1 x.2) (0,[])).bind λ(H:(List (List Int)))=>
 some H
def zCJ (k:(List (List Int))) (h:Int):Option (Stp (Int) ((Unit)⊕(Bool))):=
 cond (decide (h<(k.length:Int))) ((yD k h).bind λD=>
 cond (decide (0<(D.length:Int))) (some (.done (.inr (true)))) (some (.next (wi (h+1))))) (some (.done (.inl (()))))
def zHD (H:Norm) (a1:Collation) (a2:Options) (a3:(List Int)):Option (Bool):=
(xM H a1 a3).bind λk=>
(zAY k a2).bind λD=>
(zF (λ(x:Int)=>zCJ D x) 0).bind λ(h:(Unit)⊕(Bool))=>
 h.elim (λh=>some false) (λh=>some h)
def zD1 (O:(List (List Int))) (H:Int) (h:(List Int)):Option (Stp (Int×(List Int)) (((List Int)))):=
 cond (decide (H<(O.length:Int))) ((cond (decide (0<H)) ((app h [0]).bind λk=>
 some k) (some h)).bind λ(T:(List Int))=>
(yD O H).bind λK=>
(app T K).bind λD=>
 some (.next (wi (H+1),D))) (some (.done h))
def zMM (h:(List (List Int))):Option ((List Int)):=
(zF (λ(x:Int×(List Int))=>zD1 h x.1 x.2) (0,[])).bind λ(k:(List Int))=>
 some k
def zEU (H:(List Int)) (D:Int) (h:(List Int)):Option (Stp (Int×(List Int)) (((List Int)))):=
 cond (decide (D<(H.length:Int))) (((yD H D).bind λK=>
(vH K).bind λO=>
 cond O ((yD H D).bind λT=>
(app h [wi (T+1)]).bind λk=>
 some k) (some h)).bind λ(Y:(List Int))=>
 some (.next (wi (D+1),Y))) (some (.done h))
def zLS (T:Norm) (a1:Collation) (a2:Options) (a3:(List Int)):Option ((List Int)):=
(zD0 ({aJ:=a2.aJ,aD:=a2.aD,aQ:=a2.aQ,aU:=a2.aU}:Options)).bind λk=>
(xM T a1 a3).bind λH=>
(zAY H ({aJ:=k.aJ,aD:=k.aD,aQ:=k.aQ,aU:=k.aU}:Options)).bind λK=>
(zMM K).bind λD=>
 cond (!k.aU) (some D) ((app D [0]).bind λh=>
(zFP T a3 false).bind λO=>
(zF (λ(x:Int×(List Int))=>zEU O x.1 x.2) (0,h)).bind λ(Y:(List Int))=>
 some Y)
def zDI (k:Norm) (a1:Collation) (a2:Options) (a3:(List Int)) (D:Int):Option ((List Int)):=
(zLS k a1 ({aJ:=D,aD:=a2.aD,aQ:=a2.aQ,aU:=false}:Options) a3).bind λh=>
 some h
def zFV (k:Norm) (a1:Collation) (a2:Options) (a3:(List Int)):Option ((List Int)):=
(zDI k a1 a2 a3 a2.aJ).bind λh=>
 some h
def zIB (k:Norm) (a1:Collation) (a2:Options) (a3:(List Int)) (T:(List Int)):Option (Bool):=
(zHD k a1 a2 a3).bind λD=>
(pv D).bind λh=>
(gM h (zFV k a1 a2 a3)).bind λH=>
(gM h (zFV k a1 a2 T)).bind λK=>
(gM h (uA H K)).bind λO=>
 some (h&&O)
def zCK (h:a8):Option (Bool):=
(zER h).bind λO=>
 cond (!O) ((wV).bind λT=>
 some T) ((w7 h.Norm h.Collation h.Options h.aX h.bU).bind λD=>
(zIB h.Norm h.Collation h.Options h.aX h.bU).bind λH=>
(pv (D==H)).bind λk=>
(gM k (wV)).bind λK=>
 some (k&&K))
def zKZ (D:(List Int)) (a1:Int) (k:Int):Option (Stp (Int) ((Unit)⊕(Bool))):=
 cond (decide (k<(D.length:Int))) ((yD D k).bind λh=>
 cond (decide (h=a1)) (some (.done (.inr (true)))) (some (.next (wi (k+1))))) (some (.done (.inl (()))))
def zRG (k:(List Int)) (a1:Int):Option (Bool):=
(zF (λ(x:Int)=>zKZ k a1 x) 0).bind λ(h:(Unit)⊕(Bool))=>
 h.elim (λh=>some false) (λh=>some h)
def zGF (D:(List aP)) (k:(List aP)) (h:Int):Option (Stp (Int) ((Unit)⊕(Bool))):=
 cond (decide (h<(D.length:Int))) ((yD D h).bind λH=>
(yD k h).bind λK=>
 cond (!decide (H=K)) (some (.done (.inr (false)))) (some (.next (wi (h+1))))) (some (.done (.inl (()))))
def zN9 (K:Norm) (a1:Collation) (a2:(List Int)) (a3:Range):Option (Bool):=
(pv (decide (a3.Lo<0))).bind λT=>
(pv (T ||(decide (a3.Hi<a3.Lo)))).bind λY=>
 cond (Y ||(decide ((a2.length:Int)<a3.Hi))) (some false) ((xM K a1 a2).bind λH=>
(slc a2 0 a3.Lo).bind λZ=>
(xM K a1 Z).bind λaa=>
(app [] aa).bind λk=>
(slc a2 a3.Lo a3.Hi).bind λab=>
(xM K a1 ab).bind λac=>
(app k ac).bind λD=>
(slc a2 a3.Hi (a2.length)).bind λad=>
(xM K a1 ad).bind λag=>
(app D ag).bind λh=>
 cond (!decide ((H.length:Int)=(h.length:Int))) (some false) ((zF (λ(x:Int)=>zGF H h x) 0).bind λ(O:(Unit)⊕(Bool))=>
 O.elim (λO=>some true) (λO=>some O)))
def zEN (O:(List Int)) (a5:(List Int)) (H:Int) (K:Norm) (a1:Collation) (a2:Options) (a3:(List Int)) (h:Int):Option (Stp (Int) ((Unit)⊕(Bool×Int×Int))):=
 cond (decide (h<=(O.length:Int))) ((zRG a5 h).bind λT=>
(pv T).bind λk=>
(gM k (slc O H h)).bind λY=>
(gM k (zFV K a1 a2 Y)).bind λZ=>
(gM k (zFV K a1 a2 a3)).bind λaa=>
(gM k (uA Z aa)).bind λab=>
(pv (k&&ab)).bind λD=>
(gM D (zN9 K a1 O ({Lo:=H,Hi:=h}:Range))).bind λac=>
 cond (D&&ac) (some (.done (.inr ((true,({Lo:=H,Hi:=h}:Range).Lo,({Lo:=H,Hi:=h}:Range).Hi))))) (some (.next (wi (h+1))))) (some (.done (.inl (()))))
def zOA (D:Norm) (a1:Collation) (a2:Options) (a3:(List Int)) (H:(List Int)) (K:(List Int)) (k:Int):Option (Range×Bool):=
(zF (λ(x:Int)=>zEN H K k D a1 a2 a3 x) (wi (k+1))).bind λ(h:(Unit)⊕(Bool×Int×Int))=>
 h.elim (λh=>some (({Lo:=0,Hi:=0}:Range),false)) (λh=>some (({Lo:=h.2.1,Hi:=h.2.2}:Range),h.1))
def zEV (O:(List Int)) (T:(List Int)) (Y:Norm) (a1:Collation) (a2:Options) (a3:(List Int)) (D:Int) (h:(List Range)):Option (Stp (Int×(List Range)) (((List Range)))):=
 cond (decide (D<(O.length:Int))) (((zRG T D).bind λK=>
 cond (!K) (some h) ((zOA Y a1 a2 a3 O T D).bind λH=>
 cond H.2 ((app h [H.1]).bind λk=>
 some k) (some h))).bind λ(Z:(List Range))=>
 some (.next (wi (D+1),Z))) (some (.done h))
def zSR (k:Norm) (a1:Collation) (a2:Options) (a3:(List Int)) (D:(List Int)) (H:(List Int)):Option ((List Range)):=
(zHD k a1 a2 a3).bind λh=>
 cond (!h) (some []) ((zF (λ(x:Int×(List Range))=>zEV D H k a1 a2 a3 x.1 x.2) (0,[])).bind λ(K:(List Range))=>
 some K)
def zFF (K:(List Range)) (O:Int) (H:Int) (h:(List Range)):Option (Stp (Int×Int×(List Range)) (((List Range)))):=
 cond (decide (H<(K.length:Int))) (((yD K H).bind λD=>
 cond (decide (O<=D.Lo)) ((app h [D]).bind λk=>
 some (D.Hi,k)) (some (O,h))).bind λ(T:Int×(List Range))=>
 some (.next (T.1,wi (H+1),T.2))) (some (.done h))
def zHE (k:Norm) (a1:Collation) (a2:Options) (a3:(List Int)) (D:(List Int)) (H:(List Int)):Option ((List Range)):=
(zSR k a1 a2 a3 D H).bind λh=>
(zF (λ(x:Int×Int×(List Range))=>zFF h x.1 x.2.1 x.2.2) (0,0,[])).bind λ(K:(List Range))=>
 some K
def zEW (K:(List Range)) (Z:(List Int)) (a5:(List Int)) (T:Int) (H:Int) (h:(List Int)):Option (Stp (Int×Int×(List Int)) ((Int×(List Int)))):=
 cond (decide (H<(K.length:Int))) ((yD K H).bind λO=>
(slc Z T O.Lo).bind λY=>
(app h Y).bind λk=>
(app k a5).bind λD=>
 some (.next (O.Hi,wi (H+1),D))) (some (.done (T,h)))
def zFG (O:Norm) (a1:Collation) (a2:Options) (a3:(List Int)) (k:(List Int)) (T:(List Int)) (Y:(List Int)):Option ((List Int)):=
(zHE O a1 a2 a3 k Y).bind λD=>
(zF (λ(x:Int×Int×(List Int))=>zEW D k T x.1 x.2.1 x.2.2) (0,0,[])).bind λ(K:Int×(List Int))=>
(slc k K.1 (k.length)).bind λH=>
(app K.2 H).bind λh=>
 some h
def zOB (D:(List Int)) (a1:Int) (k:Int):Option (Stp (Int) ((Unit)⊕(Bool))):=
 cond (decide (k<(D.length:Int))) ((yD D k).bind λh=>
 cond (decide (h=a1)) (some (.done (.inr (true)))) (some (.next (wi (k+1))))) (some (.done (.inl (()))))
def zOC (k:(List Int)) (a1:Int):Option (Bool):=
(zF (λ(x:Int)=>zOB k a1 x) 0).bind λ(h:(Unit)⊕(Bool))=>
 h.elim (λh=>some false) (λh=>some h)
def xA (k:Range) (h:a8) (aa:(List Int)) (K:Int):Option (Stp (Int) ((Unit)⊕(Bool))):=
 cond (decide (K<=k.Hi)) ((slc h.bU k.Lo K).bind λab=>
(zDI h.Norm h.Collation h.Options ab h.Options.aJ).bind λO=>
(zOC h.bZ K).bind λT=>
(pv T).bind λD=>
(gM D (uA O aa)).bind λY=>
(pv (D&&Y)).bind λH=>
(gM H (w8 h.Norm h.Collation h.bU ({Lo:=k.Lo,Hi:=K}:Range))).bind λZ=>
 cond (!((H&&Z)==(decide (K=k.Hi)))) (some (.done (.inr (false)))) (some (.next (wi (K+1))))) (some (.done (.inl (()))))
def wD (H:(List Range)) (O:a8) (Z:(List Int)) (v4:Int) (k:Int):Option (Stp (Int×Int) ((Unit)⊕(Bool))):=
 cond (decide (k<(H.length:Int))) ((yD H k).bind λh=>
(pv (decide (h.Lo<=v4))).bind λT=>
(pv (T ||(decide (h.Hi<=h.Lo)))).bind λY=>
(pv (Y ||(decide ((O.bU.length:Int)<h.Hi)))).bind λD=>
(gM (!D) (zOC O.bZ h.Lo)).bind λaa=>
 cond (D ||(!aa)) (some (.done (.inr (false)))) ((zF (λ(x:Int)=>xA h O Z x) (wi (h.Lo+1))).bind λ(K:(Unit)⊕(Bool))=>
 K.elim (λK=>some (.next (h.Lo,wi (k+1)))) (λK=>some (.done (.inr (K)))))) (some (.done (.inl (()))))
def zB8 (h:a8):Option (Bool):=
(zER h).bind λH=>
 cond (!H) ((wV).bind λK=>
 some K) ((zDI h.Norm h.Collation h.Options h.aX h.Options.aJ).bind λO=>
(zBI h.Norm h.Collation h.Options h.aX h.bU h.bZ).bind λT=>
(zF (λ(x:Int×Int)=>wD T h O x.1 x.2) ((-1),0)).bind λ(D:(Unit)⊕(Bool))=>
 D.elim (λD=>(wV).bind λk=>
 some k) (λD=>some D))
def zAV (h:a8):Option (Bool):=
(zER h).bind λY=>
 cond (!Y) ((wV).bind λZ=>
 some Z) ((zFP h.Norm h.aX false).bind λD=>
(xV h.Norm h.Collation h.Options h.aX h.bU h.bZ).bind λH=>
(xV h.Norm h.Collation h.Options D h.bU h.bZ).bind λK=>
(zBJ H K).bind λO=>
(pv O).bind λk=>
(gM k (wV)).bind λT=>
 some (k&&T))
def zEX (h:a8):Option (Bool):=
(zER h).bind λt8=>
(pv (!t8)).bind λO=>
(pv (O ||(decide ((h.aX.length:Int)=0)))).bind λk=>
(gM (!k) (w7 h.Norm h.Collation h.Options h.aX h.aX)).bind λT=>
 cond (k ||(!T)) ((wV).bind λY=>
 some Y) ((zBI h.Norm h.Collation h.Options h.aX h.aX [0,(h.aX.length:Int)]).bind λK=>
(pv (decide ((K.length:Int)=1))).bind λD=>
(gM D (yD K (0:Int))).bind λZ=>
(pv (D&&(decide (Z=({Lo:=0,Hi:=(h.aX.length:Int)}:Range))))).bind λH=>
(gM H (wV)).bind λaa=>
 some (H&&aa))
def jO (H:(List Range)) (K:(List Range)) (O:Int) (Z:Int) (k:Int):Option (Stp (Int×Int×Int) ((Int)⊕(Bool))):=
 cond (decide (k<(H.length:Int))) (((yD H k).bind λh=>
(pv (decide (O<(K.length:Int)))).bind λD=>
(gM D (yD K O)).bind λY=>
 cond (D&&(decide (Y=h))) (cond (decide (h.Lo<Z)) (some (.inr (()))) (some (.inl ((wi (O+1),h.Hi))))) (cond (decide (Z<=h.Lo)) (some (.inr (()))) (some (.inl ((O,Z)))))).bind λ(T:(Int×Int)⊕(Unit))=>
 T.elim (λT=>some (.next (T.1,T.2,wi (k+1)))) (λT=>some (.done (.inr (false))))) (some (.done (.inl (O))))
def zB9 (h:a8):Option (Bool):=
(zER h).bind λK=>
 cond (!K) ((wV).bind λO=>
 some O) ((zBI h.Norm h.Collation h.Options h.aX h.bU h.bZ).bind λT=>
(xV h.Norm h.Collation h.Options h.aX h.bU h.bZ).bind λD=>
(zF (λ(x:Int×Int×Int)=>jO T D x.1 x.2.1 x.2.2) (0,0,0)).bind λ(H:(Int)⊕(Bool))=>
 H.elim (λH=>(pv (decide (H=(D.length:Int)))).bind λk=>
(gM k (wV)).bind λY=>
 some (k&&Y)) (λH=>some H))
end
end Go.M


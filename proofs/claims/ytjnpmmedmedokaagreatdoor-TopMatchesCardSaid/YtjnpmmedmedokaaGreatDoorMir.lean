/- Plain counterparts of the program's functions, printed from its form. Conditions: none. -/
import Derived.Test.YtjnpmmedmedokaaGreatDoorLa4
set_option linter.unusedSimpArgs false
set_option linter.unusedVariables false
set_option linter.unnecessarySimpa false
namespace Go.M
structure bY where
 x0:Int
 x1:Int
 x2:Int
 deriving DecidableEq,Inhabited
structure a8 where
 x0:Int
 x1:Int
 x2:Int
 x3:Int
 deriving DecidableEq,Inhabited
structure bZ where
 x0:(List Int)
 x1:(List Int)
 x2:(List Int)
 x3:(List Int)
 deriving DecidableEq,Inhabited
structure Range where
 Lo:Int
 Hi:Int
 deriving DecidableEq,Inhabited
structure b8 where
 x0:Range
 x1:Range
 x2:Range
 x3:Range
 deriving DecidableEq,Inhabited
structure bU where
 x0:Int
 x1:Int
 x2:Int
 x3:Int
 x4:Int
 x5:Int
 x6:Int
 x7:Int
 x8:Int
 deriving DecidableEq,Inhabited
structure aK where
 aP:Int
 aH:Int
 aL:Int
 aD:Bool
 deriving DecidableEq,Inhabited
structure bQ where
 aV:(List Int)
 aS:(List aK)
 deriving DecidableEq,Inhabited
structure b5 where
 bT:Str
 Lo:Int
 Hi:Int
 deriving DecidableEq,Inhabited
structure Collation where
 aB:(List bQ)
 aE:(List b5)
 bG:Int
 aX:Int
 bD:Int
 deriving DecidableEq,Inhabited
structure bJ where
 Lo:Int
 Hi:Int
 Value:Int
 deriving DecidableEq,Inhabited
structure bB where
 c:Collation
 entries:(List (bU×(List aK)))
 bS:Int
 bP:(List bJ)
 top:Int
 deriving DecidableEq,Inhabited
structure aC where
 aT:Int
 To:(List Int)
 bO:Str
 deriving DecidableEq,Inhabited
structure bM where
 cC:Int
 cL:Str
 deriving DecidableEq,Inhabited
structure Set where
 Ranges:(List Range)
 deriving DecidableEq,Inhabited
structure Norm where
 aI:(List bJ)
 aA:(List aC)
 aJ:Set
 deriving DecidableEq,Inhabited
structure Options where
 aG:Int
 aD:Int
 aN:Bool
 aQ:Bool
 deriving DecidableEq,Inhabited
structure bN where
 norm:Norm
 bW:Collation
 b6:Options
 text:(List Int)
 wanted:(List (List Int))
 bV:(List aK)
 b3:(List Int)
 b4:(List (Int×Int))
 b0:(List (Int×Int))
 deriving DecidableEq,Inhabited
structure Unicodetextlaw49_Job where
 Norm:Norm
 Collation:Collation
 Options:Options
 cM:(List Int)
 cN:(List Int)
 cO:(List Int)
 deriving DecidableEq,Inhabited
structure bC where
 norm:Norm
 deriving DecidableEq,Inhabited
structure bK where
 Norm:Norm
 Collation:Collation
 Options:Options
 deriving DecidableEq,Inhabited
def z2U (x:Range):Prop:=(-9223372036854775808<=x.Lo/\x.Lo<=9223372036854775807)/\(-9223372036854775808<=x.Hi/\x.Hi<=9223372036854775807)
def zVB (x:aK):Prop:=(-9223372036854775808<=x.aP/\x.aP<=9223372036854775807)/\(-9223372036854775808<=x.aH/\x.aH<=9223372036854775807)/\(-9223372036854775808<=x.aL/\x.aL<=9223372036854775807)/\True
def z2V (x:bQ):Prop:=(x.aV.length<=9223372036854775807/\∀h∈x.aV,(-9223372036854775808<=h/\h<=9223372036854775807))/\(x.aS.length<=9223372036854775807/\∀h∈x.aS,(zVB h))
def z2W (x:b5):Prop:=(x.bT.length<=9223372036854775807)/\(-9223372036854775808<=x.Lo/\x.Lo<=9223372036854775807)/\(-9223372036854775808<=x.Hi/\x.Hi<=9223372036854775807)
def zK1 (x:Collation):Prop:=(x.aB.length<=9223372036854775807/\∀h∈x.aB,(z2V h))/\(x.aE.length<=9223372036854775807/\∀h∈x.aE,(z2W h))/\(-9223372036854775808<=x.bG/\x.bG<=9223372036854775807)/\(-9223372036854775808<=x.aX/\x.aX<=9223372036854775807)/\(-9223372036854775808<=x.bD/\x.bD<=9223372036854775807)
def b9 (x:bJ):Prop:=(-9223372036854775808<=x.Lo/\x.Lo<=9223372036854775807)/\(-9223372036854775808<=x.Hi/\x.Hi<=9223372036854775807)/\(-9223372036854775808<=x.Value/\x.Value<=9223372036854775807)
def zPO (x:aC):Prop:=(-9223372036854775808<=x.aT/\x.aT<=9223372036854775807)/\(x.To.length<=9223372036854775807/\∀h∈x.To,(-9223372036854775808<=h/\h<=9223372036854775807))/\(x.bO.length<=9223372036854775807)
def z8R (x:Set):Prop:=(x.Ranges.length<=9223372036854775807/\∀h∈x.Ranges,(z2U h))
def wV (x:Norm):Prop:=(x.aI.length<=9223372036854775807/\∀h∈x.aI,(b9 h))/\(x.aA.length<=9223372036854775807/\∀h∈x.aA,(zPO h))/\(z8R x.aJ)
def zVC (x:Options):Prop:=(-9223372036854775808<=x.aG/\x.aG<=9223372036854775807)/\(-9223372036854775808<=x.aD/\x.aD<=9223372036854775807)/\True/\True
def zC2 (x:bK):Prop:=(wV x.Norm)/\(zK1 x.Collation)/\(zVC x.Options)
end Go.M
namespace Go.AV
open Go.M
def zEW (x:bU):Value:= .agg #[.int IntKind.i64 x.x0,.int IntKind.i64 x.x1,.int IntKind.i64 x.x2,.int IntKind.i64 x.x3,.int IntKind.i64 x.x4,.int IntKind.i64 x.x5,.int IntKind.i64 x.x6,.int IntKind.i64 x.x7,.int IntKind.i64 x.x8]
def zF8 (x:bM):Value:= .agg #[.int IntKind.i64 x.cC,.string ⟨x.cL.toArray⟩]
def cG:En bY:=⟨λx=> .agg [(di x.x0),(di x.x1),(di x.x2)],3,λ_=>rfl⟩
def b7:En a8:=⟨λx=> .agg [(di x.x0),(di x.x1),(di x.x2),(di x.x3)],4,λ_=>rfl⟩
def aF:En Range:=⟨λx=> .agg [(di x.Lo),(di x.Hi)],2,λ_=>rfl⟩
def cD:En b8:=⟨λx=> .agg [(di x.x0.Lo),(di x.x0.Hi),(di x.x1.Lo),(di x.x1.Hi),(di x.x2.Lo),(di x.x2.Hi),(di x.x3.Lo),(di x.x3.Hi)],8,λ_=>rfl⟩
def cJ:En bU:=⟨λx=> .agg [(di x.x0),(di x.x1),(di x.x2),(di x.x3),(di x.x4),(di x.x5),(di x.x6),(di x.x7),(di x.x8)],9,λ_=>rfl⟩
def aO:En aK:=⟨λx=> .agg [(di x.aP),(di x.aH),(di x.aL),(db x.aD)],4,λ_=>rfl⟩
def bI:En bQ:=⟨λx=> .agg [(zN eI x.aV),(zN aO x.aS)],2,λ_=>rfl⟩
def bL:En b5:=⟨λx=> .agg [(ds x.bT),(di x.Lo),(di x.Hi)],3,λ_=>rfl⟩
def aU:En Collation:=⟨λx=> .agg [(zN bI x.aB),(zN bL x.aE),(di x.bG),(di x.aX),(di x.bD)],5,λ_=>rfl⟩
def bA:En bJ:=⟨λx=> .agg [(di x.Lo),(di x.Hi),(di x.Value)],3,λ_=>rfl⟩
def aW:En bB:=⟨λx=> .agg [(zN bI x.c.aB),(zN bL x.c.aE),(di x.c.bG),(di x.c.aX),(di x.c.bD),(mpD zEW (eL aO) x.entries),(di x.bS),(zN bA x.bP),(di x.top)],9,λ_=>rfl⟩
def aR:En aC:=⟨λx=> .agg [(di x.aT),(zN eI x.To),(ds x.bO)],3,λ_=>rfl⟩
def ce:En bM:=⟨λx=> .agg [(di x.cC),(ds x.cL)],2,λ_=>rfl⟩
def cH:En Set:=⟨λx=> .agg [(zN aF x.Ranges)],1,λ_=>rfl⟩
def bH:En Norm:=⟨λx=> .agg [(zN bA x.aI),(zN aR x.aA),(zN aF x.aJ.Ranges)],3,λ_=>rfl⟩
def bR:En Options:=⟨λx=> .agg [(di x.aG),(di x.aD),(db x.aN),(db x.aQ)],4,λ_=>rfl⟩
def bF:En bN:=⟨λx=> .agg [(zN bA x.norm.aI),(zN aR x.norm.aA),(zN aF x.norm.aJ.Ranges),(zN bI x.bW.aB),(zN bL x.bW.aE),(di x.bW.bG),(di x.bW.aX),(di x.bW.bD),(di x.b6.aG),(di x.b6.aD),(db x.b6.aN),(db x.b6.aQ),(zN eI x.text),(zN (eL eI) x.wanted),(zN aO x.bV),(zN eI x.b3),(mpD kI eI x.b4),(mpD kI eI x.b0)],18,λ_=>rfl⟩
def bX:En bC:=⟨λx=> .agg [(zN bA x.norm.aI),(zN aR x.norm.aA),(zN aF x.norm.aJ.Ranges)],3,λ_=>rfl⟩
def aY:En bK:=⟨λx=> .agg [(zN bA x.Norm.aI),(zN aR x.Norm.aA),(zN aF x.Norm.aJ.Ranges),(zN bI x.Collation.aB),(zN bL x.Collation.aE),(di x.Collation.bG),(di x.Collation.aX),(di x.Collation.bD),(di x.Options.aG),(di x.Options.aD),(db x.Options.aN),(db x.Options.aQ)],12,λ_=>rfl⟩
end Go.AV
namespace Go.M
open Go.AV
noncomputable section
def zHO (h:(List bJ)):Option (Bool):=
 some (decide ((h.length:Int)<=16))
def zAZ (z:(List aC)) (k:Int):Option (Stp (Int) ((Unit)⊕(Bool))):=
(pv (decide (k<(z.length:Int)))).bind λH=>
 cond (H&&(decide (k<30))) ((zV z k).bind λD=>
(pv (decide (65<(D.To.length:Int)))).bind λh=>
(gM (!h) (zV z k)).bind λG=>
 cond (h ||(decide (40<(G.bO.length:Int)))) (some (.done (.inr (false)))) (some (.next (wi (k+1))))) (some (.done (.inl (()))))
def zFJ (k:(List aC)):Option (Bool):=
(zB (λ(x:Int)=>zAZ k x) 0).bind λ(h:(Unit)⊕(Bool))=>
 h.elim (λh=>some (decide ((k.length:Int)<=20))) (λh=>some h)
def zHP (h:Set):Option (Bool):=
 some (decide ((h.Ranges.length:Int)<=12))
def zFK (k:Norm):Option (Bool):=
(zHO k.aI).bind λG=>
(pv G).bind λD=>
(gM D (zFJ k.aA)).bind λH=>
(pv (D&&H)).bind λh=>
(gM h (zHP k.aJ)).bind λz=>
 some (h&&z)
def zA0 (z:Collation) (k:Int):Option (Stp (Int) ((Unit)⊕(Bool))):=
 cond (decide (k<(z.aB.length:Int))) ((zV z.aB k).bind λD=>
(pv (decide (10<(D.aV.length:Int)))).bind λh=>
(gM (!h) (zV z.aB k)).bind λG=>
 cond (h ||(decide (20<(G.aS.length:Int)))) (some (.done (.inr (false)))) (some (.next (wi (k+1))))) (some (.done (.inl (()))))
def zFL (k:Collation):Option (Bool):=
(pv (decide (12<(k.aB.length:Int)))).bind λz=>
 cond (z ||(decide (8<(k.aE.length:Int)))) (some false) ((zB (λ(x:Int)=>zA0 k x) 0).bind λ(h:(Unit)⊕(Bool))=>
 h.elim (λh=>some true) (λh=>some h))
def zIN (h:(List Int)) (a1:Int):Option (Bool):=
 some (decide ((h.length:Int)<=a1))
def zFY (z:Int):Option (Int):=
(cond (decide (4294967296<=z)) (some (z/2 ^ 32,32)) (some (z,0))).bind λ(h:Int×Int)=>
(cond (decide (65536<=h.1)) (some (h.1/2 ^ 16,wi (h.2+16))) (some (h.1,h.2))).bind λ(k:Int×Int)=>
(cond (decide (256<=k.1)) (some (k.1/2 ^ 8,wi (k.2+8))) (some (k.1,k.2))).bind λ(G:Int×Int)=>
(zYO [0,1,2,2,3,3,3,3,4,4,4,4,4,4,4,4,5,5,5,5,5,5,5,5,5,5,5,5,5,5,5,5,6,6,6,6,6,6,6,6,6,6,6,6,6,6,6,6,6,6,6,6,6,6,6,6,6,6,6,6,6,6,6,6,7,7,7,7,7,7,7,7,7,7,7,7,7,7,7,7,7,7,7,7,7,7,7,7,7,7,7,7,7,7,7,7,7,7,7,7,7,7,7,7,7,7,7,7,7,7,7,7,7,7,7,7,7,7,7,7,7,7,7,7,7,7,7,7,8,8,8,8,8,8,8,8,8,8,8,8,8,8,8,8,8,8,8,8,8,8,8,8,8,8,8,8,8,8,8,8,8,8,8,8,8,8,8,8,8,8,8,8,8,8,8,8,8,8,8,8,8,8,8,8,8,8,8,8,8,8,8,8,8,8,8,8,8,8,8,8,8,8,8,8,8,8,8,8,8,8,8,8,8,8,8,8,8,8,8,8,8,8,8,8,8,8,8,8,8,8,8,8,8,8,8,8,8,8,8,8,8,8,8,8,8,8,8,8,8,8,8,8,8,8,8,8] ((IntKind.u8.wrap) G.1)).bind λD=>
 some (wi (G.2+(wi D)))
def zC3 (h:Int):Option (Int):=
(zFY h).bind λk=>
 some k
def zC4 (h:Int):Option (Bool):=
 some (!decide (h=h))
def xQ (H:(List Int)) (a1:Int) (D:Int) (h:(List Int)):Option (Stp (Int×(List Int)) (((List Int)))):=
 cond (decide (D<(H.length:Int))) (((zV H D).bind λz=>
(pv (decide (0<=z))).bind λG=>
 cond (G&&(decide (z<=a1))) ((app h [z]).bind λk=>
 some k) (some h)).bind λ(K:(List Int))=>
 some (.next (wi (D+1),K))) (some (.done h))
def zA1 (z:(List Int)) (a1:Int):Option ((List Int)):=
(zB (λ(x:Int×(List Int))=>xQ z a1 x.1 x.2) (0,[])).bind λ(D:(List Int))=>
(z2R D).bind λh=>
(z2S h).bind λk=>
 some k
def uZ (h:Int):Option (Bool):=
(pv (decide (1<=h))).bind λk=>
 some (k&&(decide (h<=65535)))
def xR (T:Str) (O:Int):Option (Stp (Int) ((Unit)⊕(Bool))):=
 cond (decide (O<(T.length:Int))) ((zYO T O).bind λh=>
(pv (decide (65<=h))).bind λk=>
(pv (k&&(decide (h<=90)))).bind λz=>
(pv (decide (97<=h))).bind λD=>
(pv (z ||(D&&(decide (h<=122))))).bind λG=>
(pv (decide (48<=h))).bind λH=>
(pv (G ||(H&&(decide (h<=57))))).bind λK=>
 cond (!(K ||(decide (h=95)))) (some (.done (.inr (false)))) (some (.next (wi (O+1))))) (some (.done (.inl (()))))
def zA2 (k:Str):Option (Bool):=
(zB (λ(x:Int)=>xR k x) 0).bind λ(h:(Unit)⊕(Bool))=>
 h.elim (λh=>(pv (!(k== []))).bind λz=>
 some (z&&(decide ((k.length:Int)<=32)))) (λh=>some h)
def jR (D:Collation) (h:Int):Option (Stp (Int) ((Unit)⊕(Int))):=
 cond (decide (h<(D.aE.length:Int))) ((zV D.aE h).bind λk=>
(zA2 k.bT).bind λz=>
 cond (!z) (some (.done (.inr (6)))) (some (.next (wi (h+1))))) (some (.done (.inl (()))))
def jD (D:Collation) (h:Int) (k:(List (Str×Bool))):Option (Stp (Int×(List (Str×Bool))) ((Unit)⊕(Int))):=
 cond (decide (h<(D.aE.length:Int))) ((zV D.aE h).bind λz=>
 cond (mgetD k z.bT false) (some (.done (.inr (5)))) (some (.next (wi (h+1),xY k z.bT true)))) (some (.done (.inl (()))))
def jS (z:Collation) (k:Int):Option (Stp (Int) ((Unit)⊕(Int))):=
 cond (decide (k<(z.aE.length:Int))) ((zV z.aE k).bind λh=>
(pv (decide (h.Lo<1))).bind λD=>
(pv (D ||(decide (h.Hi<h.Lo)))).bind λG=>
 cond (G ||(decide (z.bG<=h.Hi))) (some (.done (.inr (1)))) (some (.next (wi (k+1))))) (some (.done (.inl (()))))
def jT (z:Collation) (h:Int):Option (Stp (Int) ((Unit)⊕(Int))):=
 cond (decide (h<(z.aE.length:Int))) ((zV z.aE h).bind λD=>
(pv (decide (0<h))).bind λk=>
(gM k (zV z.aE (wi (h-1)))).bind λG=>
 cond (k&&(!decide (D.Lo=(wi (G.Hi+1))))) (some (.done (.inr (4)))) (some (.next (wi (h+1))))) (some (.done (.inl (()))))
def wY (h:Collation):Option (Int):=
(zB (λ(x:Int)=>jR h x) 0).bind λ(k:(Unit)⊕(Int))=>
 k.elim (λk=>(zB (λ(x:Int×(List (Str×Bool)))=>jD h x.1 x.2) (0,[])).bind λ(z:(Unit)⊕(Int))=>
 z.elim (λz=>(zB (λ(x:Int)=>jS h x) 0).bind λ(D:(Unit)⊕(Int))=>
 D.elim (λD=>(zB (λ(x:Int)=>jT h x) 0).bind λ(G:(Unit)⊕(Int))=>
 G.elim (λG=>some 0) (λG=>some G)) (λD=>some D)) (λz=>some z)) (λk=>some k)
def uC (h:Int):Option (Bool):=
(pv (decide (0<=h))).bind λk=>
 some (k&&(decide (h<=1114111)))
def uL (h:aK) (k:Int):Option (Stp (Int) ((Unit)⊕(Int))):=
 cond (decide (k<3)) ((zV [({x0:=h.aP,x1:=h.aH,x2:=h.aL}:bY).x0,({x0:=h.aP,x1:=h.aH,x2:=h.aL}:bY).x1,({x0:=h.aP,x1:=h.aH,x2:=h.aL}:bY).x2] k).bind λz=>
(pv (decide (z<0))).bind λD=>
 cond (D ||(decide (65535<z))) (some (.done (.inr (1)))) (some (.next (wi (k+1))))) (some (.done (.inl (()))))
def zC5 (h:aK):Option (Int):=
(zB (λ(x:Int)=>uL h x) 0).bind λ(k:(Unit)⊕(Int))=>
 k.elim (λk=>(pv (!decide (h.aP=0))).bind λz=>
(pv (decide (h.aH=0))).bind λD=>
 cond (z&&(D ||(decide (h.aL=0)))) (some 11) ((pv (!decide (h.aH=0))).bind λG=>
 cond (G&&(decide (h.aL=0))) (some 11) ((pv h.aD).bind λH=>
 cond (H&&(decide (h.aP=0))) (some 11) (some 0)))) (λk=>some k)
def jE (D:bQ) (h:Int):Option (Stp (Int) ((Unit)⊕(Int))):=
 cond (decide (h<(D.aV.length:Int))) ((zV D.aV h).bind λk=>
(uC k).bind λz=>
 cond (!z) (some (.done (.inr (1)))) (some (.next (wi (h+1))))) (some (.done (.inl (()))))
def xC (D:bQ) (h:Int):Option (Stp (Int) ((Unit)⊕(Int))):=
 cond (decide (h<(D.aS.length:Int))) ((zV D.aS h).bind λz=>
(zC5 z).bind λk=>
 cond (!decide (k=0)) (some (.done (.inr (k)))) (some (.next (wi (h+1))))) (some (.done (.inl (()))))
def jF (z:bQ) (a1:Int) (h:Int):Option (Stp (Int) ((Unit)⊕(Int))):=
 cond (decide (h<(z.aS.length:Int))) ((zV z.aS h).bind λk=>
 cond (decide (a1<=k.aP)) (some (.done (.inr (1)))) (some (.next (wi (h+1))))) (some (.done (.inl (()))))
def vN (h:bQ) (a1:Int):Option (Int):=
(pv (decide ((h.aV.length:Int)<1))).bind λG=>
(pv (G ||(decide (8<(h.aV.length:Int))))).bind λH=>
 cond (H ||(decide (16<(h.aS.length:Int)))) (some 2) ((zB (λ(x:Int)=>jE h x) 0).bind λ(k:(Unit)⊕(Int))=>
 k.elim (λk=>(zB (λ(x:Int)=>xC h x) 0).bind λ(z:(Unit)⊕(Int))=>
 z.elim (λz=>(zB (λ(x:Int)=>jF h a1 x) 0).bind λ(D:(Unit)⊕(Int))=>
 D.elim (λD=>some 0) (λD=>some D)) (λz=>some z)) (λk=>some k))
def jO (k:Int) (a1:Int):Option (Int):=
(zC4 k).bind λz=>
(zC4 a1).bind λh=>
 cond z (cond h (some 0) (some (-1))) (cond h (some 1) (cond (decide (k<a1)) (some (-1)) (cond (decide (a1<k)) (some 1) (some 0))))
def xZ (k:(List Int)) (a1:(List Int)) (h:Int):Option (Stp (Int) ((Unit)⊕(Int))):=
 cond (decide (h<(min (k.length:Int) (a1.length:Int)))) ((zV k h).bind λz=>
(zV a1 h).bind λD=>
 cond (!decide (z=D)) ((zV k h).bind λG=>
(zV a1 h).bind λH=>
(jO G H).bind λK=>
 some (.done (.inr (K)))) (some (.next (wi (h+1))))) (some (.done (.inl (()))))
def wD (z:(List Int)) (a1:(List Int)):Option (Int):=
(zB (λ(x:Int)=>xZ z a1 x) 0).bind λ(h:(Unit)⊕(Int))=>
 h.elim (λh=>(jO (z.length:Int) (a1.length:Int)).bind λk=>
 some k) (λh=>some h)
def vA (G:Collation) (h:Int):Option (Stp (Int) ((Unit)⊕(Int))):=
 cond (decide (h<(G.aB.length:Int))) ((zV G.aB h).bind λz=>
(vN z G.bG).bind λD=>
 cond (!decide (D=0)) (some (.done (.inr (D)))) ((pv (decide (0<h))).bind λk=>
(gM k (zV G.aB (wi (h-1)))).bind λH=>
(gM k (wD H.aV z.aV)).bind λK=>
 cond (k&&(decide (0<=K))) (some (.done (.inr (4)))) (some (.next (wi (h+1)))))) (some (.done (.inl (()))))
def zAA (h:Collation):Option (Int):=
(pv (decide (h.bG<1))).bind λH=>
(pv (H ||(decide (65502<h.bG)))).bind λk=>
(gM (!k) (uZ h.aX)).bind λK=>
(pv (k ||(!K))).bind λz=>
(gM (!z) (uZ h.bD)).bind λO=>
 cond (z ||(!O)) (some 1) ((wY h).bind λD=>
 cond (!decide (D=0)) (some D) ((zB (λ(x:Int)=>vA h x) 0).bind λ(G:(Unit)⊕(Int))=>
 G.elim (λG=>some 0) (λG=>some G)))
def zBS (h:(List Int)):Option (bU):=
 some ({x0:=({x0:=(h.length:Int),x1:=0,x2:=0,x3:=0,x4:=0,x5:=0,x6:=0,x7:=0,x8:=0}:bU).x0,x1:=cpA h 0 (({x0:=(h.length:Int),x1:=0,x2:=0,x3:=0,x4:=0,x5:=0,x6:=0,x7:=0,x8:=0}:bU).x1),x2:=cpA h 1 (({x0:=(h.length:Int),x1:=0,x2:=0,x3:=0,x4:=0,x5:=0,x6:=0,x7:=0,x8:=0}:bU).x2),x3:=cpA h 2 (({x0:=(h.length:Int),x1:=0,x2:=0,x3:=0,x4:=0,x5:=0,x6:=0,x7:=0,x8:=0}:bU).x3),x4:=cpA h 3 (({x0:=(h.length:Int),x1:=0,x2:=0,x3:=0,x4:=0,x5:=0,x6:=0,x7:=0,x8:=0}:bU).x4),x5:=cpA h 4 (({x0:=(h.length:Int),x1:=0,x2:=0,x3:=0,x4:=0,x5:=0,x6:=0,x7:=0,x8:=0}:bU).x5),x6:=cpA h 5 (({x0:=(h.length:Int),x1:=0,x2:=0,x3:=0,x4:=0,x5:=0,x6:=0,x7:=0,x8:=0}:bU).x6),x7:=cpA h 6 (({x0:=(h.length:Int),x1:=0,x2:=0,x3:=0,x4:=0,x5:=0,x6:=0,x7:=0,x8:=0}:bU).x7),x8:=cpA h 7 (({x0:=(h.length:Int),x1:=0,x2:=0,x3:=0,x4:=0,x5:=0,x6:=0,x7:=0,x8:=0}:bU).x8)}:bU)
def xT (H:(List bQ)×(List b5)×Int×Int×Int) (z:Int) (D:(List (bU×(List aK)))) (h:Int):Option (Stp (Int×(List (bU×(List aK)))×Int) (((List (bU×(List aK)))×Int))):=
 cond (decide (z<(H.1.length:Int))) ((zV H.1 z).bind λk=>
(zBS k.aV).bind λG=>
 some (.next (wi (z+1),xY D G k.aS,max h (k.aV.length:Int)))) (some (.done (D,h)))
def zCG (k:Collation):Option (bB):=
(zAA ({aB:=k.aB,aE:=k.aE,bG:=k.bG,aX:=k.aX,bD:=k.bD}:Collation)).bind λD=>
(cond (!decide (D=0)) (some (({aB:=[],aE:=[],bG:=64448,aX:=32,bD:=2}:Collation).aB,({aB:=[],aE:=[],bG:=64448,aX:=32,bD:=2}:Collation).aE,({aB:=[],aE:=[],bG:=64448,aX:=32,bD:=2}:Collation).bG,({aB:=[],aE:=[],bG:=64448,aX:=32,bD:=2}:Collation).aX,({aB:=[],aE:=[],bG:=64448,aX:=32,bD:=2}:Collation).bD)) (some (k.aB,k.aE,k.bG,k.aX,k.bD))).bind λ(h:(List bQ)×(List b5)×Int×Int×Int)=>
(zB (λ(x:Int×(List (bU×(List aK)))×Int)=>xT h x.1 x.2.1 x.2.2) (0,[],0)).bind λ(z:(List (bU×(List aK)))×Int)=>
 some ({c:=({aB:=({aB:=h.1,aE:=h.2.1,bG:=h.2.2.1,aX:=h.2.2.2.1,bD:=h.2.2.2.2}:Collation).aB,aE:=({aB:=h.1,aE:=h.2.1,bG:=h.2.2.1,aX:=h.2.2.2.1,bD:=h.2.2.2.2}:Collation).aE,bG:=({aB:=h.1,aE:=h.2.1,bG:=h.2.2.1,aX:=h.2.2.2.1,bD:=h.2.2.2.2}:Collation).bG,aX:=({aB:=h.1,aE:=h.2.1,bG:=h.2.2.1,aX:=h.2.2.2.1,bD:=h.2.2.2.2}:Collation).aX,bD:=({aB:=h.1,aE:=h.2.1,bG:=h.2.2.1,aX:=h.2.2.2.1,bD:=h.2.2.2.2}:Collation).bD}:Collation),entries:=z.1,bS:=z.2,bP:=[],top:=0}:bB)
def vV (K:(List bJ)) (k:Int):Option (Stp (Int) ((Unit)⊕(Int))):=
 cond (decide (k<(K.length:Int))) ((zV K k).bind λh=>
(pv (decide (h.Lo<0))).bind λz=>
(pv (z ||(decide (1114111<h.Hi)))).bind λD=>
(pv (D ||(decide (h.Hi<h.Lo)))).bind λG=>
(pv (G ||(decide (h.Value<1)))).bind λH=>
 cond (H ||(decide (254<h.Value))) (some (.done (.inr (1)))) (some (.next (wi (k+1))))) (some (.done (.inl (()))))
def vW (D:(List bJ)) (z:Int):Option (Stp (Int) ((Unit)⊕(Int))):=
 cond (decide (z<(D.length:Int))) ((zV D (wi (z-1))).bind λh=>
(zV D z).bind λk=>
(pv (decide (k.Lo<=h.Hi))).bind λG=>
(pv (decide (k.Lo=(wi (h.Hi+1))))).bind λH=>
 cond (G ||(H&&(decide (k.Value=h.Value)))) (some (.done (.inr (4)))) (some (.next (wi (z+1))))) (some (.done (.inl (()))))
def xU (h:b8) (z:bJ) (k:Int):Option (Stp (Int) ((Unit)⊕(Int))):=
 cond (decide (k<4)) ((zV [h.x0,h.x1,h.x2,h.x3] k).bind λD=>
(pv (decide (z.Lo<=D.Hi))).bind λG=>
 cond (G&&(decide (D.Lo<=z.Hi))) (some (.done (.inr (11)))) (some (.next (wi (k+1))))) (some (.done (.inl (()))))
def vX (G:(List bJ)) (h:Int):Option (Stp (Int) ((Unit)⊕(Int))):=
 cond (decide (h<(G.length:Int))) ((zV G h).bind λz=>
(pv ({x0:=({Lo:=4352,Hi:=4370}:Range),x1:=({Lo:=4449,Hi:=4469}:Range),x2:=({Lo:=4520,Hi:=4546}:Range),x3:=({Lo:=44032,Hi:=55203}:Range)}:b8)).bind λD=>
(zB (λ(x:Int)=>xU D z x) 0).bind λ(k:(Unit)⊕(Int))=>
 k.elim (λk=>some (.next (wi (h+1)))) (λk=>some (.done (.inr (k))))) (some (.done (.inl (()))))
def zA3 (D:(List bJ)):Option (Int):=
(zB (λ(x:Int)=>vV D x) 0).bind λ(h:(Unit)⊕(Int))=>
 h.elim (λh=>(zB (λ(x:Int)=>vW D x) 1).bind λ(k:(Unit)⊕(Int))=>
 k.elim (λk=>(zB (λ(x:Int)=>vX D x) 0).bind λ(z:(Unit)⊕(Int))=>
 z.elim (λz=>some 0) (λz=>some z)) (λk=>some k)) (λh=>some h)
def vY (T:Str) (k:Int):Option (Stp (Int) ((Unit)⊕(Bool))):=
 cond (decide (k<(T.length:Int))) ((zYO T k).bind λh=>
(pv (decide (65<=h))).bind λz=>
(pv (z&&(decide (h<=90)))).bind λD=>
(pv (decide (97<=h))).bind λG=>
(pv (!(D ||(G&&(decide (h<=122)))))).bind λH=>
(pv (decide (48<=h))).bind λK=>
(pv (H&&(!(K&&(decide (h<=57)))))).bind λO=>
 cond (O&&(!decide (h=95))) (some (.done (.inr (false)))) (some (.next (wi (k+1))))) (some (.done (.inl (()))))
def zCH (k:Str):Option (Bool):=
(pv (k== [])).bind λz=>
 cond (z ||(decide (32<(k.length:Int)))) (some false) ((zB (λ(x:Int)=>vY k x) 0).bind λ(h:(Unit)⊕(Bool))=>
 h.elim (λh=>some true) (λh=>some h))
def uM (k:aC) (h:Int):Option (Stp (Int) ((Unit)⊕(Int))):=
 cond (decide (h<(k.To.length:Int))) ((zV k.To h).bind λz=>
(uC z).bind λD=>
 cond (!D) (some (.done (.inr (1)))) (some (.next (wi (h+1))))) (some (.done (.inl (()))))
def uN (G:(List aC)) (h:Int):Option (Stp (Int) ((Unit)⊕(Int))):=
 cond (decide (h<(G.length:Int))) ((zV G h).bind λk=>
(uC k.aT).bind λD=>
 cond (!D) (some (.done (.inr (1)))) ((zB (λ(x:Int)=>uM k x) 0).bind λ(z:(Unit)⊕(Int))=>
 z.elim (λz=>some (.next (wi (h+1)))) (λz=>some (.done (.inr (z)))))) (some (.done (.inl (()))))
def uO (z:(List aC)) (h:Int):Option (Stp (Int) ((Unit)⊕(Int))):=
 cond (decide (h<(z.length:Int))) ((zV z h).bind λk=>
 cond (decide (64<(k.To.length:Int))) (some (.done (.inr (2)))) (some (.next (wi (h+1))))) (some (.done (.inl (()))))
def uP (G:(List aC)) (h:Int):Option (Stp (Int) ((Unit)⊕(Int))):=
 cond (decide (h<(G.length:Int))) ((zV G h).bind λz=>
(pv (!(z.bO== []))).bind λk=>
(gM k (zCH z.bO)).bind λD=>
 cond (k&&(!D)) (some (.done (.inr (6)))) (some (.next (wi (h+1))))) (some (.done (.inl (()))))
def zC6 (D:(List aC)):Option (Int):=
(zB (λ(x:Int)=>uN D x) 0).bind λ(h:(Unit)⊕(Int))=>
 h.elim (λh=>(zB (λ(x:Int)=>uO D x) 0).bind λ(k:(Unit)⊕(Int))=>
 k.elim (λk=>(zB (λ(x:Int)=>uP D x) 0).bind λ(z:(Unit)⊕(Int))=>
 z.elim (λz=>some 0) (λz=>some z)) (λk=>some k)) (λh=>some h)
def zA4 (h:Str):Option (Bool):=
 some (!(h==h))
def u0 (k:Str) (a1:Str):Option (Int):=
(zA4 k).bind λz=>
(zA4 a1).bind λh=>
 cond z (cond h (some 0) (some (-1))) (cond h (some 1) (cond (Op.bytesLess k a1) (some (-1)) (cond (!Op.bytesLess k a1&& !(k==a1)) (some 1) (some 0))))
def zBZ (z:(List Int)) (k:Int):Option (Stp (Int) ((Unit)⊕(Int))):=
 cond (decide (k<(z.length:Int))) ((zV z k).bind λh=>
 cond (!decide (h=0)) (some (.done (.inr (h)))) (some (.next (wi (k+1))))) (some (.done (.inl (()))))
def zEX (k:(List Int)):Option (Int):=
(zB (λ(x:Int)=>zBZ k x) 0).bind λ(h:(Unit)⊕(Int))=>
 h.elim (λh=>some 0) (λh=>some h)
def zBT (z:aC) (a1:aC):Option (Int):=
(jO z.aT a1.aT).bind λD=>
(u0 z.bO a1.bO).bind λh=>
(zEX [D,h]).bind λk=>
 some k
def zC7 (h:aC):Option (bM):=
 some ({cC:=h.aT,cL:=h.bO}:bM)
def vB (k:(List aC)) (H:Bool) (h:Int):Option (Stp (Bool×Int) ((Bool))):=
 cond (decide (h<(k.length:Int))) (((zV k (wi (h-1))).bind λz=>
(zV k h).bind λD=>
(zBT z D).bind λG=>
 cond (decide (0<=G)) (some false) (some H)).bind λ(K:Bool)=>
 some (.next (K,wi (h+1)))) (some (.done H))
def vC (H:(List aC)) (h:Int) (k:(List (bM×Bool))):Option (Stp (Int×(List (bM×Bool))) ((Unit)⊕(Int))):=
 cond (decide (h<(H.length:Int))) ((zV H h).bind λz=>
(zC7 z).bind λD=>
 cond (mgetD k D false) (some (.done (.inr (5)))) ((zC7 z).bind λG=>
 some (.next (wi (h+1),xY k G true)))) (some (.done (.inl (()))))
def zC8 (z:(List aC)):Option (Int):=
(zC6 z).bind λh=>
 cond (!decide (h=0)) (some h) ((zB (λ(x:Bool×Int)=>vB z x.1 x.2) (true,1)).bind λ(D:Bool)=>
 cond D (some 0) ((zB (λ(x:Int×(List (bM×Bool)))=>vC z x.1 x.2) (0,[])).bind λ(k:(Unit)⊕(Int))=>
 k.elim (λk=>some 4) (λk=>some k)))
def yJ (a1:Int) (a3:Range->Range->Option (Int)) (D:Int) (h:(List Range)):Option (Stp (Int×(List Range)) (((List Range)))):=
(pv (decide (a1<D))).bind λG=>
(gM G (zV h D)).bind λH=>
(gM G (zV h (wi (D-1)))).bind λK=>
(gM G (a3 H K)).bind λO=>
 cond (G&&(decide (O<0))) ((zV h (wi (D-1))).bind λT=>
(zV h D).bind λY=>
(zV h D).bind λZ=>
(uV h D T).bind λk=>
(zV k (wi (D-1))).bind λaa=>
(uV k (wi (D-1)) Y).bind λz=>
 some (.next (wi (D-1),z))) (some (.done h))
def zX (a2:Int) (a1:Int) (a3:Range->Range->Option (Int)) (k:Int) (h:(List Range)):Option (Stp (Int×(List Range)) (((List Range)))):=
 cond (decide (k<a2)) ((zB (λ(x:Int×(List Range))=>yJ a1 a3 x.1 x.2) (k,h)).bind λ(z:(List Range))=>
 some (.next (wi (k+1),z))) (some (.done h))
def kU (h:(List Range)) (a1:Int) (a2:Int) (a3:Range->Range->Option (Int)):Option ((List Range)):=
(zB (λ(x:Int×(List Range))=>zX a2 a1 a3 x.1 x.2) (wi (a1+1),h)).bind λ(k:(List Range))=>
 some k
def kN (a2:Int) (a1:Int) (k:(List Range)) (z:Range->Range->Option (Int)) (a3:Int):Option (Stp (Unit) (((List Range)))):=
(cond (decide ((wi (a2-a1))<=12)) ((kU k a1 a2 z).bind λh=>
 some h) (cond (decide (a3=0)) (none) ((cond (!true) (none) (some ())).bind λ(G:Unit)=>
 none))).bind λ(D:(List Range))=>
 some (.done D)
def xE (h:(List Range)) (a1:Int) (a2:Int) (a3:Int) (k:Range->Range->Option (Int)):Option ((List Range)):=
(zB (λ(_:Unit)=>kN a2 a1 h k a3) ()).bind λ(z:(List Range))=>
 some z
def kW (h:(List Range)) (a1:Range->Range->Option (Int)):Option ((List Range)):=
(zC3 (wu (h.length:Int))).bind λk=>
(xE h 0 (h.length:Int) k a1).bind λz=>
 some z
def zAH (z:Range) (a1:Range):Option (Int):=
(jO z.Lo a1.Lo).bind λD=>
(jO z.Hi a1.Hi).bind λh=>
(zEX [D,h]).bind λk=>
 some k
def zAM (G:(List Range)) (D:Int) (h:(List Range)):Option (Stp (Int×(List Range)) (((List Range)))):=
 cond (decide (D<(G.length:Int))) (((zV G D).bind λk=>
 cond (decide ((({Lo:=max k.Lo 0,Hi:=min k.Hi 1114111}:Range).Lo)<=(({Lo:=max k.Lo 0,Hi:=min k.Hi 1114111}:Range).Hi))) ((app h [({Lo:=max k.Lo 0,Hi:=min k.Hi 1114111}:Range)]).bind λz=>
 some z) (some h)).bind λ(H:(List Range))=>
 some (.next (wi (D+1),H))) (some (.done h))
def zAN (K:(List Range)) (G:Int) (h:(List Range)):Option (Stp (Int×(List Range)) (((List Range)))):=
 cond (decide (G<(K.length:Int))) (((zV K G).bind λD=>
(pv (decide (0<(h.length:Int)))).bind λH=>
(gM H (zV h (wi ((h.length:Int)-1)))).bind λO=>
 cond (H&&(decide (D.Lo<=(wi (O.Hi+1))))) ((zV h (wi ((h.length:Int)-1))).bind λT=>
(zV h (wi ((h.length:Int)-1))).bind λY=>
(uV h (wi ((h.length:Int)-1)) ({Y with Hi:=max T.Hi D.Hi})).bind λk=>
 some k) ((app h [D]).bind λz=>
 some z)).bind λ(Z:(List Range))=>
 some (.next (wi (G+1),Z))) (some (.done h))
def zGU (k:(List Range)):Option (Set):=
(zB (λ(x:Int×(List Range))=>zAM k x.1 x.2) (0,[])).bind λ(z:(List Range))=>
(kW z (λx0 x1=>zAH x0 x1)).bind λh=>
(zB (λ(x:Int×(List Range))=>zAN h x.1 x.2) (0,[])).bind λ(D:(List Range))=>
 some ({Ranges:=D}:Set)
def zA5 (D:Set) (G:Set) (h:Int):Option (Stp (Int) ((Unit)⊕(Bool))):=
 cond (decide (h<(D.Ranges.length:Int))) ((zV D.Ranges h).bind λk=>
(zV G.Ranges h).bind λz=>
 cond (!decide (k=z)) (some (.done (.inr (false)))) (some (.next (wi (h+1))))) (some (.done (.inl (()))))
def zFM (k:Set):Option (Bool):=
(zGU k.Ranges).bind λz=>
 cond (!decide ((z.Ranges.length:Int)=(k.Ranges.length:Int))) (some false) ((zB (λ(x:Int)=>zA5 z k x) 0).bind λ(h:(Unit)⊕(Bool))=>
 h.elim (λh=>some true) (λh=>some h))
def zCI (h:Int):Option (Int):=
(pv (decide (4352<=h))).bind λH=>
 cond (H&&(decide (h<4371))) (some 1) ((pv (decide (4449<=h))).bind λk=>
 cond (k&&(decide (h<4470))) (some 2) ((pv (decide (4520<=h))).bind λz=>
 cond (z&&(decide (h<4547))) (some 3) ((pv (decide (h<44032))).bind λD=>
 cond (D ||(decide (55204<=h))) (some 0) ((zHC (wi (h-44032)) 28).bind λG=>
 cond (decide (G=0)) (some 4) (some 5)))))
def zAB (h:(List bJ)):Option ((List bJ)):=
(zA3 h).bind λk=>
 cond (!decide (k=0)) (some []) (some h)
def zU (H:(List bJ)) (a2:bJ->Int->Option (Int)) (a1:Int) (k:Int) (h:Int):Option (Stp (Int×Int) ((Int))):=
 cond (decide (k<h)) (((zV H (wi ((wu (wi (k+h)))/2 ^ 1))).bind λz=>
(a2 z a1).bind λD=>
 cond (decide (D<0)) (some (wi ((wi ((wu (wi (k+h)))/2 ^ 1))+1),h)) (some (k,wi ((wu (wi (k+h)))/2 ^ 1)))).bind λ(G:Int×Int)=>
 some (.next (G.1,G.2))) (some (.done k))
def kT (k:(List bJ)) (a1:Int) (a2:bJ->Int->Option (Int)):Option (Int×Bool):=
(zB (λ(x:Int×Int)=>zU k a2 a1 x.1 x.2) (0,(k.length:Int))).bind λ(G:Int)=>
(pv (decide (G<(k.length:Int)))).bind λh=>
(gM h (zV k G)).bind λz=>
(gM h (a2 z a1)).bind λD=>
 some (G,(h&&(decide (D=0))))
def uQ (h:bJ) (a1:Int):Option (Int):=
 cond (decide (h.Hi<a1)) (some (-1)) (cond (decide (a1<h.Lo)) (some 1) (some 0))
def kV (z:(List bJ)) (a1:Int):Option (Int):=
(kT z a1 (λx0 x1=>uQ x0 x1)).bind λh=>
 cond (!h.2) (some 0) ((zV z h.1).bind λk=>
 some k.Value)
def kO (a1:(List Int)) (a2:(List bJ)) (items:(List (Range))) (H:Int) (k:Int) (h:Nat):Option (Stp (Int×Int×Nat) ((Int×Nat)⊕(Nat))):=
 cond (decide (k<(a1.length:Int))) (((zV a1 k).bind λT=>
(kV a2 T).bind λG=>
((pv (!(decide (G=0)))).bind λK=>
 cond (K&&(decide (H<0))) (some (.inl ((k,h)))) ((pv (decide (G=0))).bind λO=>
 cond (O&&(decide (0<=H))) ((yM items h ({Lo:=H,Hi:=k}:Range)).bind λY=>
 cond (!true) (some (.inr (h+1))) (some (.inl (((-1),h+1))))) (some (.inl ((H,h)))))).bind λ(D:(Int×Nat)⊕(Nat))=>
 D.elim (λD=>some (.inl ((D.1,D.2)))) (λD=>some (.inr (D)))).bind λ(z:(Int×Nat)⊕(Nat))=>
 z.elim (λz=>some (.next (z.1,wi (k+1),z.2))) (λz=>some (.done (.inr (z))))) (some (.done (.inl ((H,h)))))
def zAC (items:List Range) (a1:(List Int)) (a2:(List bJ)):Option Unit:=
(zB (λ(x:Int×Int×Nat)=>kO a1 a2 items x.1 x.2.1 x.2.2) ((-1),0,0)).bind λ(h:(Int×Nat)⊕(Nat))=>
 h.elim (λh=>cond (decide (0<=h.1)) ((yM items h.2 ({Lo:=h.1,Hi:=(a1.length:Int)}:Range)).bind λk=>
 zSS items (h.2+1)) (zSS items h.2)) (λh=>zSS items h)
def j9 (st:Int->Bool):List Int->Int->Int->List Range
 | [],i,s=>if 0<=s then [{Lo:=s,Hi:=i}] else []
 | c::r,i,s=>if !st c&&decide (s<0) then j9 st r (i+1) i else if st c&&decide (0<=s) then {Lo:=s,Hi:=i}::j9 st r (i+1) (-1) else j9 st r (i+1) s
def yH0 {h:Type} (l:List h):Option (List h):=if l.length<=LIM then some l else none
def zC9 (k:List bJ) (a1:List Int):Option (List Range):=(zAB k).bind λh=>(zAC (j9 (λc=>kV h c==some 0) a1 0 (-1)) a1 h).bind λ_=>yH0 (j9 (λc=>kV h c==some 0) a1 0 (-1))
def zF9 (z:Int):Option (bY):=
(zCI z).bind λO=>
 cond (decide (O<4)) (some ({x0:=0,x1:=0,x2:=0}:bY)) ((zKP wi (wi (z-44032)) 28).bind λD=>
(zKP wi D 21).bind λh=>
(zKP wi (wi (z-44032)) 28).bind λG=>
(zHC G 21).bind λk=>
(zHC (wi (z-44032)) 28).bind λH=>
(cond (decide (0<H)) ((zHC (wi (z-44032)) 28).bind λK=>
 some (wi ((wi (4520+K))-1))) (some (({x0:=wi (4352+h),x1:=wi (4449+k),x2:=0}:bY).x2))).bind λ(T:Int)=>
 some ({x0:=({x0:=wi (4352+h),x1:=wi (4449+k),x2:=0}:bY).x0,x1:=({x0:=wi (4352+h),x1:=wi (4449+k),x2:=0}:bY).x1,x2:=T}:bY))
def zA6 (k:Int):Option ((List Int)):=
(zF9 k).bind λh=>
 cond (decide (h=({x0:=0,x1:=0,x2:=0}:bY))) (some [k]) (cond (decide (h.x2=0)) (some [h.x0,h.x1]) (some [h.x0,h.x1,h.x2]))
def zR (H:(List aC)) (a2:aC->Int->Option (Int)) (a1:Int) (k:Int) (h:Int):Option (Stp (Int×Int) ((Int))):=
 cond (decide (k<h)) (((zV H (wi ((wu (wi (k+h)))/2 ^ 1))).bind λz=>
(a2 z a1).bind λD=>
 cond (decide (D<0)) (some (wi ((wi ((wu (wi (k+h)))/2 ^ 1))+1),h)) (some (k,wi ((wu (wi (k+h)))/2 ^ 1)))).bind λ(G:Int×Int)=>
 some (.next (G.1,G.2))) (some (.done k))
def z6 (k:(List aC)) (a1:Int) (a2:aC->Int->Option (Int)):Option (Int×Bool):=
(zB (λ(x:Int×Int)=>zR k a2 a1 x.1 x.2) (0,(k.length:Int))).bind λ(G:Int)=>
(pv (decide (G<(k.length:Int)))).bind λh=>
(gM h (zV k G)).bind λz=>
(gM h (a2 z a1)).bind λD=>
 some (G,(h&&(decide (D=0))))
def vD (h:aC) (a1:Int):Option (Int):=
(jO h.aT a1).bind λk=>
 some k
def vO (z:Norm) (a1:Int) (a2:Bool):Option ((List Int)×Bool):=
(zCI a1).bind λG=>
 cond (decide (4<=G)) ((zA6 a1).bind λH=>
 some (H,true)) ((z6 z.aA a1 (λx0 x1=>vD x0 x1)).bind λh=>
(pv (!h.2)).bind λk=>
(gM (!k) (zV z.aA h.1)).bind λK=>
(pv (!(K.bO== []))).bind λD=>
 cond (k ||(D&&(!a2))) (some ([],false)) ((zV z.aA h.1).bind λO=>
 some (O.To,true)))
def jB (H:(List Int)×Bool) (O:(Int->Norm->(List (Int×Int))->Bool->Bool->Option (Int×Bool×Bool×(List (Int×Int))))) (a1:Norm) (K:Int) (G:Int) (h:Bool) (k:Bool) (z:(List (Int×Int))):Option (Stp (Int×Int×Bool×Bool×(List (Int×Int))) ((Int×Bool×Bool×(List (Int×Int))))):=
 cond (decide (G<(H.1.length:Int))) ((zV H.1 G).bind λT=>
(O T a1 z h k).bind λD=>
 some (.next (min (wi (K+D.1)) 65,wi (G+1),D.2.1,D.2.2.1,D.2.2.2))) (some (.done (K,h,k,z)))
def k5 (O:Int->Norm->(List (Int×Int))->Bool->Bool->Option (Int×Bool×Bool×(List (Int×Int)))) (k:Int) (a1:Norm) (a2:(List (Int×Int))) (a3:Bool) (D:Bool):Option (Int×Bool×Bool×(List (Int×Int))):=
(vO a1 k true).bind λh=>
(pv (!h.2)).bind λG=>
 cond (G ||(decide ((h.1.length:Int)=0))) (some (1,a3,D,a2)) (cond (zBQ a2 k) ((pv a3).bind λH=>
 some (max (mgetD a2 k 0) 1,(H ||(decide ((mgetD a2 k 0)=(-1)))),D,a2)) ((zB (λ(x:Int×Int×Bool×Bool×(List (Int×Int)))=>jB h O a1 x.1 x.2.1 x.2.2.1 x.2.2.2.1 x.2.2.2.2) (0,0,a3,D,xY a2 k (-1))).bind λ(z:Int×Bool×Bool×(List (Int×Int)))=>
(pv z.2.2.1).bind λK=>
 some (z.1,z.2.1,(K ||(decide (64<z.1))),xY z.2.2.2 k z.1)))
def zW:Nat->Int->Norm->(List (Int×Int))->Bool->Bool->Option (Int×Bool×Bool×(List (Int×Int)))
 | 0=>λ_ _ _ _ _=>none
 | n+1=>k5 (zW n)
def kQ (G:Norm) (D:Int) (h:Bool) (k:Bool) (K:(List (Int×Int))):Option (Stp (Int×Bool×Bool×(List (Int×Int))) ((Bool×Bool))):=
 cond (decide (D<(G.aA.length:Int))) ((zV G.aA D).bind λH=>
(zW 100 H.aT G K h k).bind λz=>
 some (.next (wi (D+1),z.2.1,z.2.2.1,z.2.2.2))) (some (.done (h,k)))
def decompose_measure (k:Norm):Option (Bool×Bool):=
(zB (λ(x:Int×Bool×Bool×(List (Int×Int)))=>kQ k x.1 x.2.1 x.2.2.1 x.2.2.2) (0,false,false,[])).bind λ(h:Bool×Bool)=>
 some (h.1,h.2)
def vE (k:Norm) (h:Int):Option (Stp (Int) ((Unit)⊕(Int))):=
 cond (decide (h<(k.aA.length:Int))) ((zV k.aA h).bind λz=>
(zV k.aA (wi (h-1))).bind λD=>
 cond (decide (z.aT=D.aT)) (some (.done (.inr (5)))) (some (.next (wi (h+1))))) (some (.done (.inl (()))))
def vF (G:Norm) (k:Int):Option (Stp (Int) ((Unit)⊕(Int))):=
 cond (decide (k<(G.aA.length:Int))) ((zV G.aA k).bind λh=>
(pv (h.bO== [])).bind λz=>
(pv (z&&(!decide ((h.To.length:Int)=1)))).bind λD=>
 cond (D&&(!decide ((h.To.length:Int)=2))) (some (.done (.inr (8)))) (some (.next (wi (k+1))))) (some (.done (.inl (()))))
def yO (K:Norm) (D:Int) (h:(List Int)):Option (Stp (Int×(List Int)) (((List Int))⊕(Int))):=
 cond (decide (D<(K.aA.length:Int))) (((zV K.aA D).bind λz=>
(zCI z.aT).bind λH=>
 cond (!decide (H=0)) (some (.inr (()))) (cond (!(z.bO== [])) ((app h [z.aT]).bind λk=>
 some (.inl (k))) (some (.inl (h))))).bind λ(G:((List Int))⊕(Unit))=>
 G.elim (λG=>some (.next (wi (D+1),G))) (λG=>some (.done (.inr (11))))) (some (.done (.inl (h))))
def zAD (h:Norm):Option (Int):=
(zA3 h.aI).bind λz=>
 cond (!decide (z=0)) (some z) ((zC8 h.aA).bind λD=>
 cond (!decide (D=0)) (some D) ((zFM h.aJ).bind λO=>
 cond (!O) (some 11) ((zB (λ(x:Int)=>vE h x) 1).bind λ(H:(Unit)⊕(Int))=>
 H.elim (λH=>(zB (λ(x:Int)=>vF h x) 0).bind λ(K:(Unit)⊕(Int))=>
 K.elim (λK=>(zB (λ(x:Int×(List Int))=>yO h x.1 x.2) (0,[])).bind λ(G:((List Int))⊕(Int))=>
 G.elim (λG=>(zC9 h.aI G).bind λT=>
 cond (decide (0<(T.length:Int))) (some 11) ((decompose_measure h).bind λk=>
 cond k.1 (some 12) (cond k.2 (some 13) (some 0)))) (λG=>some G)) (λK=>some K)) (λH=>some H))))
def jG (D:(List bJ)) (k:Int) (h:Int):Option (Stp (Int×Int) ((Int))):=
 cond (decide (k<(D.length:Int))) ((zV D k).bind λz=>
 some (.next (wi (k+1),max h z.Value))) (some (.done h))
def vP (h:bB) (a1:Norm):Option (bB):=
(zAD a1).bind λz=>
(cond (decide (z=0)) (some a1.aI) (some h.bP)).bind λ(k:(List bJ))=>
(zB (λ(x:Int×Int)=>jG k x.1 x.2) (0,h.top)).bind λ(D:Int)=>
 some ({c:=({aB:=h.c.aB,aE:=h.c.aE,bG:=h.c.bG,aX:=h.c.aX,bD:=h.c.bD}:Collation),entries:=h.entries,bS:=h.bS,bP:=k,top:=D}:bB)
def uR (h:Norm):Option (Norm):=
(zAD h).bind λk=>
 cond (!decide (k=0)) (some ({aI:=({aI:=[],aA:=[],aJ:=(({Ranges:=[]}):Set)}:Norm).aI,aA:=({aI:=[],aA:=[],aJ:=(({Ranges:=[]}):Set)}:Norm).aA,aJ:=({Ranges:=(({aI:=[],aA:=[],aJ:=(({Ranges:=[]}):Set)}:Norm).aJ).Ranges}:Set)}:Norm)) (some h)
def k6 (G:(List Int)×Bool) (K:(Int->(List (Int×(List Int)))->Norm->Bool->Option ((List Int)×(List (Int×(List Int)))))) (a2:Norm) (a3:Bool) (D:Int) (h:(List Int)) (z:(List (Int×(List Int)))):Option (Stp (Int×(List Int)×(List (Int×(List Int)))) (((List Int)×(List (Int×(List Int)))))):=
 cond (decide (D<(G.1.length:Int))) ((zV G.1 D).bind λO=>
(K O z a2 a3).bind λH=>
(app h H.1).bind λk=>
 some (.next (wi (D+1),k,H.2))) (some (.done (h,z)))
def wE (z:Int->(List (Int×(List Int)))->Norm->Bool->Option ((List Int)×(List (Int×(List Int))))) (h:Int) (a1:(List (Int×(List Int)))) (a2:Norm) (a3:Bool):Option ((List Int)×(List (Int×(List Int)))):=
 cond (zBQ a1 h) (some (mgetD a1 h [],a1)) ((vO a2 h a3).bind λk=>
 cond (!k.2) (some ([h],a1)) ((zB (λ(x:Int×(List Int)×(List (Int×(List Int))))=>k6 k z a2 a3 x.1 x.2.1 x.2.2) (0,[],a1)).bind λ(D:(List Int)×(List (Int×(List Int))))=>
 some (D.1,xY D.2 h D.1)))
def kF:Nat->Int->(List (Int×(List Int)))->Norm->Bool->Option ((List Int)×(List (Int×(List Int))))
 | 0=>λ_ _ _ _=>none
 | n+1=>wE (kF n)
def zBK (h:Norm) (a1:Bool):Option (Unit):=
 some ()
def zAI (h:(List Int)):Option ((List Int)):=app [] h
def wP (z:Int) (a1:Int) (a2:(List bJ)):Option (Int):=
(kV a2 z).bind λD=>
(kV a2 a1).bind λh=>
(jO D h).bind λk=>
 some k
def zT (a1:Int) (a3:Int->Int->Option (Int)) (D:Int) (h:(List Int)):Option (Stp (Int×(List Int)) (((List Int)))):=
(pv (decide (a1<D))).bind λG=>
(gM G (zV h D)).bind λH=>
(gM G (zV h (wi (D-1)))).bind λK=>
(gM G (a3 H K)).bind λO=>
 cond (G&&(decide (O<0))) ((zV h (wi (D-1))).bind λT=>
(zV h D).bind λY=>
(zV h D).bind λZ=>
(uV h D T).bind λk=>
(zV k (wi (D-1))).bind λaa=>
(uV k (wi (D-1)) Y).bind λz=>
 some (.next (wi (D-1),z))) (some (.done h))
def zP (a2:Int) (a1:Int) (a3:Int->Int->Option (Int)) (k:Int) (h:(List Int)):Option (Stp (Int×(List Int)) (((List Int)))):=
 cond (decide (k<a2)) ((zB (λ(x:Int×(List Int))=>zT a1 a3 x.1 x.2) (k,h)).bind λ(z:(List Int))=>
 some (.next (wi (k+1),z))) (some (.done h))
def kH (h:(List Int)) (a1:Int) (a2:Int) (a3:Int->Int->Option (Int)):Option ((List Int)):=
(zB (λ(x:Int×(List Int))=>zP a2 a1 a3 x.1 x.2) (wi (a1+1),h)).bind λ(k:(List Int))=>
 some k
def yR (a3:Int) (a2:Int) (a1:Int) (D:Int) (k:(List Int)):Option (Stp (Int×(List Int)) (((List Int)))):=
 cond (decide (D<a3)) ((zV k (wi (a2+D))).bind λG=>
(zV k (wi (a1+D))).bind λH=>
(zV k (wi (a1+D))).bind λK=>
(uV k (wi (a1+D)) G).bind λh=>
(zV h (wi (a2+D))).bind λO=>
(uV h (wi (a2+D)) H).bind λz=>
 some (.next (wi (D+1),z))) (some (.done k))
def kK (h:(List Int)) (a1:Int) (a2:Int) (a3:Int) (z:Int->Int->Option (Int)):Option ((List Int)):=
(zB (λ(x:Int×(List Int))=>yR a3 a2 a1 x.1 x.2) (0,h)).bind λ(k:(List Int))=>
 some k
def yD (a2:Int) (K:Int->Int->Option (Int)) (h:Int) (z:Int) (k:(List Int)):Option (Stp (Int×Int×(List Int)) ((Int×(List Int)))):=
 cond (!decide (h=z)) ((cond (decide (z<h)) ((kK k (wi (a2-h)) a2 z K).bind λD=>
 some (wi (h-z),z,D)) ((kK k (wi (a2-h)) (wi ((wi (a2+z))-h)) h K).bind λG=>
 some (h,wi (z-h),G))).bind λ(H:Int×Int×(List Int))=>
 some (.next (H.1,H.2.1,H.2.2))) (some (.done (h,k)))
def jU (D:(List Int)) (a1:Int) (a2:Int) (a3:Int) (z:Int->Int->Option (Int)):Option ((List Int)):=
(zB (λ(x:Int×Int×(List Int))=>yD a2 z x.1 x.2.1 x.2.2) (wi (a2-a1),wi (a3-a2),D)).bind λ(k:Int×(List Int))=>
(kK k.2 (wi (a2-k.1)) a2 k.1 z).bind λh=>
 some h
def yS (H:(List Int)) (a1:Int) (O:Int->Int->Option (Int)) (h:Int) (k:Int):Option (Stp (Int×Int) ((Int))):=
 cond (decide (h<k)) (((zV H (wi ((wu (wi (h+k)))/2 ^ 1))).bind λz=>
(zV H a1).bind λD=>
(O z D).bind λG=>
 cond (decide (G<0)) (some (wi ((wi ((wu (wi (h+k)))/2 ^ 1))+1),k)) (some (h,wi ((wu (wi (h+k)))/2 ^ 1)))).bind λ(K:Int×Int)=>
 some (.next (K.1,K.2))) (some (.done h))
def yT (T:Int) (D:Int) (k:(List Int)):Option (Stp (Int×(List Int)) (((List Int)))):=
 cond (decide (D<(wi (T-1)))) ((zV k (wi (D+1))).bind λG=>
(zV k D).bind λH=>
(zV k D).bind λK=>
(uV k D G).bind λh=>
(zV h (wi (D+1))).bind λO=>
(uV h (wi (D+1)) H).bind λz=>
 some (.next (wi (D+1),z))) (some (.done k))
def yU (H:(List Int)) (a2:Int) (O:Int->Int->Option (Int)) (h:Int) (k:Int):Option (Stp (Int×Int) ((Int))):=
 cond (decide (h<k)) (((zV H a2).bind λD=>
(zV H (wi ((wu (wi (h+k)))/2 ^ 1))).bind λG=>
(O D G).bind λz=>
 cond (!(decide (z<0))) (some (wi ((wi ((wu (wi (h+k)))/2 ^ 1))+1),k)) (some (h,wi ((wu (wi (h+k)))/2 ^ 1)))).bind λ(K:Int×Int)=>
 some (.next (K.1,K.2))) (some (.done h))
def yV (T:Int) (D:Int) (k:(List Int)):Option (Stp (Int×(List Int)) (((List Int)))):=
 cond (decide (T<D)) ((zV k (wi (D-1))).bind λG=>
(zV k D).bind λH=>
(zV k D).bind λK=>
(uV k D G).bind λh=>
(zV h (wi (D-1))).bind λO=>
(uV h (wi (D-1)) H).bind λz=>
 some (.next (wi (D-1),z))) (some (.done k))
def yW (H:(List Int)) (a1:Int) (a3:Int) (a2:Int) (O:Int->Int->Option (Int)) (h:Int) (k:Int):Option (Stp (Int×Int) ((Int))):=
 cond (decide (h<k)) (((zV H (wi ((wi ((wi ((wi ((wu (wi (a1+a3)))/2 ^ 1))+a2))-1))-(wi ((wu (wi (h+k)))/2 ^ 1))))).bind λz=>
(zV H (wi ((wu (wi (h+k)))/2 ^ 1))).bind λD=>
(O z D).bind λG=>
 cond (!(decide (G<0))) (some (wi ((wi ((wu (wi (h+k)))/2 ^ 1))+1),k)) (some (h,wi ((wu (wi (h+k)))/2 ^ 1)))).bind λ(K:Int×Int)=>
 some (.next (K.1,K.2))) (some (.done h))
def yA (K:((List Int))->(Int)->(Int)->(Int)->(Int->Int->Option (Int))->Option ((List Int))) (k:(List Int)) (a1:Int) (a2:Int) (a3:Int) (z:Int->Int->Option (Int)):Option ((List Int)):=
 cond (decide ((wi (a2-a1))=1)) ((zB (λ(x:Int×Int)=>yS k a1 z x.1 x.2) (a2,a3)).bind λ(y1:Int)=>
(zB (λ(x:Int×(List Int))=>yT y1 x.1 x.2) (a1,k)).bind λ(y3:(List Int))=>
 some y3) (cond (decide ((wi (a3-a2))=1)) ((zB (λ(x:Int×Int)=>yU k a2 z x.1 x.2) (a1,a2)).bind λ(y4:Int)=>
(zB (λ(x:Int×(List Int))=>yV y4 x.1 x.2) (a2,k)).bind λ(y6:(List Int))=>
 some y6) ((cond (decide ((wi ((wu (wi (a1+a3)))/2 ^ 1))<a2)) (some (wi ((wi ((wi ((wu (wi (a1+a3)))/2 ^ 1))+a2))-a3),wi ((wu (wi (a1+a3)))/2 ^ 1))) (some (a1,a2))).bind λ(y7:Int×Int)=>
(zB (λ(x:Int×Int)=>yW k a1 a3 a2 z x.1 x.2) (y7.1,y7.2)).bind λ(h:Int)=>
(pv (decide (h<a2))).bind λD=>
(cond (D&&(decide (a2<(wi ((wi ((wi ((wu (wi (a1+a3)))/2 ^ 1))+a2))-h))))) ((jU k h a2 (wi ((wi ((wi ((wu (wi (a1+a3)))/2 ^ 1))+a2))-h)) z).bind λO=>
 some O) (some k)).bind λ(Z:(List Int))=>
(pv (decide (a1<h))).bind λG=>
(cond (G&&(decide (h<(wi ((wu (wi (a1+a3)))/2 ^ 1))))) ((K Z a1 h (wi ((wu (wi (a1+a3)))/2 ^ 1)) z).bind λT=>
 some T) (some Z)).bind λ(aa:(List Int))=>
(pv (decide ((wi ((wu (wi (a1+a3)))/2 ^ 1))<(wi ((wi ((wi ((wu (wi (a1+a3)))/2 ^ 1))+a2))-h))))).bind λH=>
 cond (H&&(decide ((wi ((wi ((wi ((wu (wi (a1+a3)))/2 ^ 1))+a2))-h))<a3))) ((K aa (wi ((wu (wi (a1+a3)))/2 ^ 1)) (wi ((wi ((wi ((wu (wi (a1+a3)))/2 ^ 1))+a2))-h)) a3 z).bind λY=>
 some Y) (some aa)))
def kA:Nat->((List Int))->(Int)->(Int)->(Int)->(Int->Int->Option (Int))->Option ((List Int))
 | 0=>λ_ _ _ _ _=>none
 | n+1=>yA (kA n)
def zY (a1:Int) (a2:Int->Int->Option (Int)) (D:Int) (k:Int) (h:(List Int)):Option (Stp (Int×Int×(List Int)) ((Int×(List Int)))):=
 cond (decide (k<=a1)) ((kH h D k a2).bind λz=>
 some (.next (k,wi (k+20),z))) (some (.done (D,h)))
def zZ (a1:Int) (G:Int) (a2:Int->Int->Option (Int)) (D:Int) (k:Int) (h:(List Int)):Option (Stp (Int×Int×(List Int)) ((Int×(List Int)))):=
 cond (decide (k<=a1)) ((kA 60 h D (wi (D+G)) k a2).bind λz=>
 some (.next (k,wi (k+(wi (2*G))),z))) (some (.done (D,h)))
def yE (a1:Int) (a2:Int->Int->Option (Int)) (k:Int) (h:(List Int)):Option (Stp (Int×(List Int)) (((List Int)))):=
 cond (decide (k<a1)) ((zB (λ(x:Int×Int×(List Int))=>zZ a1 k a2 x.1 x.2.1 x.2.2) (0,wi (2*k),h)).bind λ(z:Int×(List Int))=>
(cond (decide ((wi (z.1+k))<a1)) ((kA 60 z.2 z.1 (wi (z.1+k)) a1 a2).bind λD=>
 some D) (some z.2)).bind λ(G:(List Int))=>
 some (.next (wi (k*2),G))) (some (.done h))
def vK (z:(List Int)) (a1:Int) (a2:Int->Int->Option (Int)):Option ((List Int)):=
(zB (λ(x:Int×Int×(List Int))=>zY a1 a2 x.1 x.2.1 x.2.2) (0,20,z)).bind λ(k:Int×(List Int))=>
(kH k.2 k.1 a1 a2).bind λh=>
(zB (λ(x:Int×(List Int))=>yE a1 a2 x.1 x.2) (20,h)).bind λ(D:(List Int))=>
 some D
def kR (h:(List Int)) (a1:Int->Int->Option (Int)):Option ((List Int)):=
(vK h (h.length:Int) a1).bind λk=>
 some k
def zAO (z:List bJ) (a1:List Int):Option (List Int):=(zAB z).bind λh=>(zAI a1).bind λk=>(zAC (j9 (λc=>kV h c==some 0) a1 0 (-1)) a1 h).bind λ_=>uX (λp=>kR p (λx0 x1=>wP x0 x1 h)) Range.Lo Range.Hi k (j9 (λc=>kV h c==some 0) a1 0 (-1))
def j8 (a1:(List Int)) (D:Norm) (a2:Bool) (G:Int) (h:(List Int)) (z:(List (Int×(List Int)))):Option (Stp (Int×(List Int)×(List (Int×(List Int)))) (((List Int)))):=
 cond (decide (G<(a1.length:Int))) ((zV a1 G).bind λK=>
(kF 100 K z ({aI:=D.aI,aA:=D.aA,aJ:=({Ranges:=D.aJ.Ranges}:Set)}:Norm) a2).bind λH=>
(app h H.1).bind λk=>
 some (.next (wi (G+1),k,H.2))) (some (.done h))
def xI (k:Norm) (a1:(List Int)) (a2:Bool):Option ((List Int)):=
(uR ({aI:=k.aI,aA:=k.aA,aJ:=({Ranges:=k.aJ.Ranges}:Set)}:Norm)).bind λh=>
(zBK ({aI:=h.aI,aA:=h.aA,aJ:=({Ranges:=h.aJ.Ranges}:Set)}:Norm) a2).bind λD=>
(zB (λ(x:Int×(List Int)×(List (Int×(List Int))))=>j8 a1 h a2 x.1 x.2.1 x.2.2) (0,[],[])).bind λ(G:(List Int))=>
(zAO h.aI G).bind λz=>
 some z
def jI (k:bB) (a1:(List Int)):Option ((List aK)×Bool):=
(pv (decide ((a1.length:Int)=0))).bind λz=>
 cond (z ||(decide (k.bS<(a1.length:Int)))) (some ([],false)) ((zBS a1).bind λh=>
 some (mgetD k.entries h [],zBQ k.entries h))
def jV (h:bB) (a1:Int):Option ((List aK)):=
(uC a1).bind λD=>
 cond (!D) (some []) ((zKP wi a1 32768).bind λk=>
(zHC a1 32768).bind λz=>
 some [({aP:=wi (h.c.bG+k),aH:=h.c.aX,aL:=h.c.bD,aD:=false}:aK),({aP:=wi (32768+z),aH:=0,aL:=0,aD:=false}:aK)])
def x9 (k:Int) (a1:bB) (a2:Int):Option (Bool):=
(zV a1.bP k).bind λh=>
 some (decide (a2<=h.Hi))
def zA7 (a1:Int->Option (Bool)) (h:Int) (k:Int):Option (Stp (Int×Int) ((Int))):=
 cond (decide (h<k)) (((a1 (wi ((wu (wi (h+k)))/2 ^ 1))).bind λz=>
 cond (!z) (some (wi ((wi ((wu (wi (h+k)))/2 ^ 1))+1),k)) (some (h,wi ((wu (wi (h+k)))/2 ^ 1)))).bind λ(D:Int×Int)=>
 some (.next (D.1,D.2))) (some (.done h))
def zHQ (h:Int) (a1:Int->Option (Bool)):Option (Int):=
(zB (λ(x:Int×Int)=>zA7 a1 x.1 x.2) (0,h)).bind λ(k:Int)=>
 some k
def w6 (k:bB) (a1:Int):Option (Int):=
(zHQ (k.bP.length:Int) (λx0=>x9 x0 k a1)).bind λh=>
(pv (decide (h<(k.bP.length:Int)))).bind λz=>
(gM z (zV k.bP h)).bind λD=>
 cond (z&&(decide (D.Lo<=a1))) ((zV k.bP h).bind λG=>
 some G.Value) (some 0)
def kX (a1:(List Int)) (D:bB) (h:Int):Option (Stp (Int) ((Int))):=
 cond (decide (0<h)) ((slc a1 0 h).bind λk=>
(jI D k).bind λz=>
 cond z.2 (some (.done h)) (some (.next (wi (h-1))))) (some (.done h))
def yX (Y:bB) (z:Int) (G:Int) (k:Int) (h:(List Int)):Option (Stp (Int×Int×Int×(List Int)) ((Int×(List Int)))):=
(pv (decide (k<(h.length:Int)))).bind λZ=>
 cond (Z&&(decide (G<Y.top))) (((zV h k).bind λK=>
(w6 Y K).bind λO=>
 cond (decide (O=0)) (some (.inl (()))) (cond (decide (O<=G)) (some (.inr ((z,G,h)))) ((slc h 0 z).bind λaa=>
(app aa [K]).bind λH=>
(jI Y H).bind λab=>
 cond (!ab.2) (some (.inr ((z,O,h)))) ((slc h (wi (z+1)) (wi (k+1))).bind λad=>
(slc h z k).bind λag=>
(zV (cpM h (wi (z+1)) (wi (k+1)) z k) z).bind λac=>
(uV (cpM h (wi (z+1)) (wi (k+1)) z k) z K).bind λD=>
 some (.inr ((wi (z+1),G,D))))))).bind λ(T:(Unit)⊕(Int×Int×(List Int)))=>
 T.elim (λT=>some (.done (z,h))) (λT=>some (.next (T.1,T.2.1,wi (k+1),T.2.2)))) (some (.done (z,h)))
def w7 (h:bB) (a1:(List Int)):Option (Int×(List aK)×Bool×(List Int)):=
(zB (λ(x:Int)=>kX a1 h x) (min h.bS (a1.length:Int))).bind λ(K:Int)=>
 cond (decide (K=0)) ((zV a1 (0:Int)).bind λG=>
(jV h G).bind λH=>
 some (1,H,false,a1)) ((zB (λ(x:Int×Int×Int×(List Int))=>yX h x.1 x.2.1 x.2.2.1 x.2.2.2) (K,0,K,a1)).bind λ(D:Int×(List Int))=>
(slc D.2 0 D.1).bind λk=>
(jI h k).bind λz=>
 some (D.1,z.1,true,D.2))
def jZ (H:bB) (h:(List aK)) (z:(List Int)):Option (Stp ((List aK)×(List Int)) (((List aK)))):=
 cond (decide (0<(z.length:Int))) ((w7 H z).bind λG=>
(app h G.2.1).bind λk=>
(slc G.2.2.2 G.1 (G.2.2.2.length)).bind λD=>
 some (.next (k,D))) (some (.done h))
def kY (D:Norm) (a1:Collation) (a2:(List Int)):Option ((List aK)):=
(zCG a1).bind λh=>
(vP h D).bind λk=>
(xI D a2 false).bind λz=>
(zB (λ(x:(List aK)×(List Int))=>jZ k x.1 x.2) ([],z)).bind λ(G:(List aK))=>
 some G
def zDA (h:Options):Option (Int):=
(pv (decide (h.aG<1))).bind λk=>
 cond (k ||(decide (4<h.aG))) (some 1) ((cond (decide (h.aD=1)) (some (decide (h.aD=1))) (cond (decide (h.aD=2)) (some (decide (h.aD=2))) (some (decide (h.aD=3))))).bind λ(z:Bool)=>
 cond z (some 0) (some 8))
def vZ (h:Options):Option (Options):=
(zDA h).bind λk=>
 cond (!decide (k=0)) (some ({aG:=3,aD:=1,aN:=false,aQ:=false}:Options)) (some h)
def uF (h:aK) (a1:Int) (a2:Bool):Option (a8×Bool):=
(cond (!decide (({x0:=({x0:=h.aP,x1:=h.aH,x2:=h.aL,x3:=0}:a8).x0,x1:=({x0:=h.aP,x1:=h.aH,x2:=h.aL,x3:=0}:a8).x1,x2:=({x0:=h.aP,x1:=h.aH,x2:=h.aL,x3:=0}:a8).x2,x3:=({x0:=h.aP,x1:=h.aH,x2:=h.aL,x3:=0}:a8).x3}:a8)=({x0:=0,x1:=0,x2:=0,x3:=0}:a8))) (some 65535) (some (({x0:=h.aP,x1:=h.aH,x2:=h.aL,x3:=0}:a8).x3))).bind λ(z:Int)=>
 cond (decide (a1=1)) (some (({x0:=({x0:=h.aP,x1:=h.aH,x2:=h.aL,x3:=0}:a8).x0,x1:=({x0:=h.aP,x1:=h.aH,x2:=h.aL,x3:=0}:a8).x1,x2:=({x0:=h.aP,x1:=h.aH,x2:=h.aL,x3:=0}:a8).x2,x3:=z}:a8),a2)) ((cond h.aD (some (({x0:=0,x1:=0,x2:=0,x3:=h.aP}:a8).x0,({x0:=0,x1:=0,x2:=0,x3:=h.aP}:a8).x1,({x0:=0,x1:=0,x2:=0,x3:=h.aP}:a8).x2,({x0:=0,x1:=0,x2:=0,x3:=h.aP}:a8).x3,true)) (cond (!decide (h.aP=0)) (some (({x0:=h.aP,x1:=h.aH,x2:=h.aL,x3:=0}:a8).x0,({x0:=h.aP,x1:=h.aH,x2:=h.aL,x3:=0}:a8).x1,({x0:=h.aP,x1:=h.aH,x2:=h.aL,x3:=0}:a8).x2,z,false)) (cond a2 (some (({x0:=0,x1:=0,x2:=0,x3:=0}:a8).x0,({x0:=0,x1:=0,x2:=0,x3:=0}:a8).x1,({x0:=0,x1:=0,x2:=0,x3:=0}:a8).x2,({x0:=0,x1:=0,x2:=0,x3:=0}:a8).x3,a2)) (some (({x0:=h.aP,x1:=h.aH,x2:=h.aL,x3:=0}:a8).x0,({x0:=h.aP,x1:=h.aH,x2:=h.aL,x3:=0}:a8).x1,({x0:=h.aP,x1:=h.aH,x2:=h.aL,x3:=0}:a8).x2,z,a2))))).bind λ(k:Int×Int×Int×Int×Bool)=>
(cond (decide (a1=2)) (some 0) (some k.2.2.2.1)).bind λ(D:Int)=>
 some (({x0:=k.1,x1:=k.2.1,x2:=k.2.2.1,x3:=D}:a8),k.2.2.2.2))
def zB4 (h:Int):Option (Unit):=
 some ()
def jK (D:Int) (G:Int) (k:(List Int)):Option (Stp (Int×Int×(List Int)) (((List Int)))):=
 cond (decide (D<G)) ((zV k G).bind λH=>
(zV k D).bind λK=>
(zV k D).bind λO=>
(uV k D H).bind λh=>
(zV h G).bind λT=>
(uV h G K).bind λz=>
 some (.next (wi (D+1),wi (G-1),z))) (some (.done k))
def xP (h:(List Int)):Option ((List Int)):=
(zB (λ(x:Int×Int×(List Int))=>jK x.1 x.2.1 x.2.2) (0,wi ((h.length:Int)-1),h)).bind λ(k:(List Int))=>
 some k
def jL (h:a8×Bool) (Z:Int) (k:(List Int)) (z:(List Int)) (D:(List Int)) (G:(List Int)):Option (Stp (Int×(List Int)×(List Int)×(List Int)×(List Int)) (((List Int)×(List Int)×(List Int)×(List Int)))):=
 cond (decide (Z=0)) (((zV [h.1.x0,h.1.x1,h.1.x2,h.1.x3] (0:Int)).bind λH=>
 cond (!decide (H=0)) ((app k [H]).bind λO=>
 some O) (some k)).bind λ(y3:(List Int))=>
 some (.next (wi ((0:Int)+1),y3,z,D,G))) (cond (decide (Z=1)) (((zV [h.1.x0,h.1.x1,h.1.x2,h.1.x3] (1:Int)).bind λH=>
 cond (!decide (H=0)) ((app z [H]).bind λT=>
 some T) (some z)).bind λ(y5:(List Int))=>
 some (.next (wi ((1:Int)+1),k,y5,D,G))) (cond (decide (Z=2)) (((zV [h.1.x0,h.1.x1,h.1.x2,h.1.x3] (2:Int)).bind λH=>
 cond (!decide (H=0)) ((app D [H]).bind λY=>
 some Y) (some D)).bind λ(y7:(List Int))=>
 some (.next (wi ((2:Int)+1),k,z,y7,G))) (cond (decide (Z=3)) (((zV [h.1.x0,h.1.x1,h.1.x2,h.1.x3] (3:Int)).bind λH=>
 cond (!decide (H=0)) ((app G [H]).bind λK=>
 some K) (some G)).bind λ(y9:(List Int))=>
 some (.next (wi ((3:Int)+1),k,z,D,y9))) (cond (decide (Z=4)) (some (.done (k,z,D,G))) (none)))))
def vG (Z:(List aK)) (T:Options) (H:Int) (h:Bool) (k:(List Int)) (z:(List Int)) (D:(List Int)) (G:(List Int)):Option (Stp (Int×Bool×(List Int)×(List Int)×(List Int)×(List Int)) (((List Int)×(List Int)×(List Int)×(List Int)))):=
 cond (decide (H<(Z.length:Int))) ((zV Z H).bind λY=>
(uF Y T.aD h).bind λK=>
(zB (λ(x:Int×(List Int)×(List Int)×(List Int)×(List Int))=>jL K x.1 x.2.1 x.2.2.1 x.2.2.2.1 x.2.2.2.2) (0,k,z,D,G)).bind λ(O:(List Int)×(List Int)×(List Int)×(List Int))=>
 some (.next (wi (H+1),K.2,O.1,O.2.1,O.2.2.1,O.2.2.2))) (some (.done (k,z,D,G)))
def wQ (K:(List aK)) (a1:Options):Option ((List (List Int))):=
(vZ ({aG:=a1.aG,aD:=a1.aD,aN:=a1.aN,aQ:=a1.aQ}:Options)).bind λz=>
(zB4 z.aD).bind λO=>
(zB (λ(x:Int×Bool×(List Int)×(List Int)×(List Int)×(List Int))=>vG K z x.1 x.2.1 x.2.2.1 x.2.2.2.1 x.2.2.2.2.1 x.2.2.2.2.2) (0,false,[],[],[],[])).bind λ(h:(List Int)×(List Int)×(List Int)×(List Int))=>
(cond z.aN ((xP h.2.1).bind λG=>
 some G) (some h.2.1)).bind λ(D:(List Int))=>
(slc [({x0:=h.1,x1:=D,x2:=h.2.2.1,x3:=h.2.2.2}:bZ).x0,({x0:=h.1,x1:=D,x2:=h.2.2.1,x3:=h.2.2.2}:bZ).x1,({x0:=h.1,x1:=D,x2:=h.2.2.1,x3:=h.2.2.2}:bZ).x2,({x0:=h.1,x1:=D,x2:=h.2.2.1,x3:=h.2.2.2}:bZ).x3] 0 z.aG).bind λH=>
(app [] H).bind λk=>
 some k
def k7 (D:(List (List Int))) (a1:(List Int)->Option (Bool)) (h:Int):Option (Stp (Int) ((Unit)⊕(Int))):=
 cond (decide (h<(D.length:Int))) ((zV D h).bind λk=>
(a1 k).bind λz=>
 cond z (some (.done (.inr (h)))) (some (.next (wi (h+1))))) (some (.done (.inl (()))))
def wF (k:(List (List Int))) (a1:(List Int)->Option (Bool)):Option (Int):=
(zB (λ(x:Int)=>k7 k a1 x) 0).bind λ(h:(Unit)⊕(Int))=>
 h.elim (λh=>some (-1)) (λh=>some h)
def k8 (h:(List (List Int))) (a1:(List Int)->Option (Bool)):Option (Bool):=
(wF h a1).bind λk=>
 some (decide (0<=k))
def u2 (h:(List Int)):Option (Bool):=
 some (decide (0<(h.length:Int)))
def yK (D:(List aK)) (a1:(List aK)) (h:Int):Option (Stp (Int) ((Unit)⊕(Bool))):=
 cond (decide (h<(D.length:Int))) ((zV D h).bind λk=>
(zV a1 h).bind λz=>
 cond (!decide (k=z)) (some (.done (.inr (false)))) (some (.next (wi (h+1))))) (some (.done (.inl (()))))
def yH (k:(List aK)) (a1:(List aK)):Option (Bool):=
 cond (!decide ((k.length:Int)=(a1.length:Int))) (some false) ((zB (λ(x:Int)=>yK k a1 x) 0).bind λ(h:(Unit)⊕(Bool))=>
 h.elim (λh=>some true) (λh=>some h))
def wM (D:(List aK)) (a2:Options) (h:Int) (k:(List Int)):Option (Stp (Int×(List Int)) (((List Int)))):=
 cond (decide (h<(D.length:Int))) ((zV k h).bind λG=>
(slc D h (wi (h+1))).bind λH=>
(wQ H a2).bind λK=>
(zV K (0:Int)).bind λO=>
(zV k (wi (h+1))).bind λT=>
(uV k (wi (h+1)) (wi (G+(O.length:Int)))).bind λz=>
 some (.next (wi (h+1),z))) (some (.done k))
def wN (a5:(List Int)) (a4:(List Int)) (a0:Norm) (a1:Collation) (k:(List aK)) (T:Int) (K:(List (Int×Int))) (O:(List (Int×Int))):Option (Stp (Int×(List (Int×Int))×(List (Int×Int))) (((List (Int×Int))×(List (Int×Int))))):=
 cond (decide (T<(a5.length:Int))) (((zV a5 T).bind λh=>
(slc a4 0 h).bind λad=>
(kY a0 a1 ad).bind λG=>
(slc a4 h (a4.length)).bind λag=>
(kY a0 a1 ag).bind λH=>
(pv (decide ((G.length:Int)<=(k.length:Int)))).bind λz=>
(gM z (slc k 0 (G.length:Int))).bind λY=>
(gM z (yH G Y)).bind λZ=>
(cond (z&&Z) (some (xY (xY K h (-1)) h (G.length:Int))) (some (xY K h (-1)))).bind λ(y5:(List (Int×Int)))=>
(pv (decide ((H.length:Int)<=(k.length:Int)))).bind λD=>
(gM D (slc k (wi ((k.length:Int)-(H.length:Int))) (k.length))).bind λaa=>
(gM D (yH H aa)).bind λab=>
 cond (D&&ab) (some (y5,xY (xY O h (-1)) h (H.length:Int))) (some (y5,xY O h (-1)))).bind λ(y4:(List (Int×Int))×(List (Int×Int)))=>
 some (.next (wi (T+1),y4.1,y4.2))) (some (.done (K,O)))
def zA8 (k:Norm) (a1:Collation) (a2:Options) (a3:(List Int)) (D:(List Int)) (T:(List Int)):Option ((Option bN)):=
(kY k a1 a3).bind λH=>
(wQ H a2).bind λz=>
(k8 z (λx0=>u2 x0)).bind λK=>
 cond (!K) (some none) ((kY k a1 D).bind λh=>
(mkM 0 (wi ((h.length:Int)+1))).bind λG=>
(zB (λ(x:Int×(List Int))=>wM h a2 x.1 x.2) (0,G)).bind λ(Y:(List Int))=>
(zB (λ(x:Int×(List (Int×Int))×(List (Int×Int)))=>wN T D k a1 h x.1 x.2.1 x.2.2) (0,[],[])).bind λ(O:(List (Int×Int))×(List (Int×Int)))=>
 some (some ({norm:=({aI:=k.aI,aA:=k.aA,aJ:=({Ranges:=k.aJ.Ranges}:Set)}:Norm),bW:=({aB:=a1.aB,aE:=a1.aE,bG:=a1.bG,aX:=a1.aX,bD:=a1.bD}:Collation),b6:=({aG:=a2.aG,aD:=a2.aD,aN:=a2.aN,aQ:=a2.aQ}:Options),text:=D,wanted:=z,bV:=h,b3:=Y,b4:=O.1,b0:=O.2}:bN)))
def jM (H:(List Int)) (a1:(List Int)) (items:(List (Range))) (k:Bool) (G:Int) (h:Nat):Option (Stp (Int×Nat) ((Nat)⊕(Nat))):=
 cond (decide (G<(H.length:Int))) ((zV H G).bind λz=>
(zV a1 (0:Int)).bind λD=>
(yM items h ({Lo:=D,Hi:=z}:Range)).bind λK=>
 cond (!(goB k items.length h)) (some (.done (.inr (h+1)))) (some (.next (wi (G+1),h+1)))) (some (.done (.inl (h))))
def uG (items:List (Range)) (h:Bool) (a1:(List Int)):Option Unit:=
(slc a1 1 (a1.length)).bind λz=>
(zB (λ(x:Int×Nat)=>jM z a1 items h x.1 x.2) (0,0)).bind λ(k:(Nat)⊕(Nat))=>
 k.elim (λk=>zSS items k) (λk=>zSS items k)
def kJ (G:(List (List Int))) (a1:(List (List Int))) (a2:(List Int)->(List Int)->Option (Bool)) (h:Int):Option (Stp (Int) ((Unit)⊕(Bool))):=
 cond (decide (h<(G.length:Int))) ((zV G h).bind λk=>
(zV a1 h).bind λz=>
(a2 k z).bind λD=>
 cond (!D) (some (.done (.inr (false)))) (some (.next (wi (h+1))))) (some (.done (.inl (()))))
def jC (k:(List (List Int))) (a1:(List (List Int))) (a2:(List Int)->(List Int)->Option (Bool)):Option (Bool):=
 cond (!decide ((k.length:Int)=(a1.length:Int))) (some false) ((zB (λ(x:Int)=>kJ k a1 a2 x) 0).bind λ(h:(Unit)⊕(Bool))=>
 h.elim (λh=>some true) (λh=>some h))
def xD (D:(List Int)) (a1:(List Int)) (h:Int):Option (Stp (Int) ((Unit)⊕(Bool))):=
 cond (decide (h<(D.length:Int))) ((zV D h).bind λk=>
(zV a1 h).bind λz=>
 cond (!decide (k=z)) (some (.done (.inr (false)))) (some (.next (wi (h+1))))) (some (.done (.inl (()))))
def xJ (k:(List Int)) (a1:(List Int)):Option (Bool):=
 cond (!decide ((k.length:Int)=(a1.length:Int))) (some false) ((zB (λ(x:Int)=>xD k a1 x) 0).bind λ(h:(Unit)⊕(Bool))=>
 h.elim (λh=>some true) (λh=>some h))
def j6 (h:bN) (a1:Range):Option (Bool):=
(pv (decide ((mgetD h.b4 a1.Lo 0)<0))).bind λK=>
(pv (K ||(decide ((mgetD h.b0 a1.Hi 0)<0)))).bind λO=>
(pv (O ||(decide ((wi ((h.bV.length:Int)-(mgetD h.b0 a1.Hi 0)))<(mgetD h.b4 a1.Lo 0))))).bind λk=>
(gM (!k) (zV h.b3 (wi ((h.bV.length:Int)-(mgetD h.b0 a1.Hi 0))))).bind λT=>
(gM (!k) (zV h.b3 (mgetD h.b4 a1.Lo 0))).bind λY=>
(gM (!k) (zV h.wanted (0:Int))).bind λZ=>
 cond (k ||(!decide ((wi (T-Y))=(Z.length:Int)))) (some false) ((slc h.bV (mgetD h.b4 a1.Lo 0) (wi ((h.bV.length:Int)-(mgetD h.b0 a1.Hi 0)))).bind λH=>
(wQ H h.b6).bind λaa=>
(jC aa h.wanted (λx0 x1=>xJ x0 x1)).bind λab=>
 cond (!ab) (some false) ((slc h.text a1.Lo a1.Hi).bind λz=>
(kY h.norm h.bW z).bind λD=>
(yH H D).bind λG=>
 some G))
def jH (G:bN) (h:(List Range)) (D:Range):Option (Bool×((List Range))):=
(j6 G D).bind λz=>
 cond z ((app h [D]).bind λk=>
 some (false,k)) (some (true,h))
def zAP (k:(List Int)) (H:bN) (D:Int) (h:(List Range)):Option (Stp (Int×(List Range)) (((List Range)))):=
 cond (decide (D<(k.length:Int))) (((slc k D (k.length)).bind λz=>
(zJF (λ(s:(List Range)) (x:Range)=>jH H s x) h (zSV (λa b=>({Lo:=a,Hi:=b}:Range)) z)).bind λ(G:Nat×Bool×((List Range)))=>
(uG ((zSV (λa b=>({Lo:=a,Hi:=b}:Range)) z).take G.1) (!G.2.1) z).bind λK=>
 cond G.2.1 (some G.2.2) (some G.2.2)).bind λ(O:(List Range))=>
 some (.next (wi (D+1),O))) (some (.done h))
def zGV (D:Norm) (a1:Collation) (a2:Options) (a3:(List Int)) (z:(List Int)) (G:(List Int)):Option ((List Range)):=
(zA1 G (z.length:Int)).bind λh=>
(zA8 D a1 a2 a3 z h).bind λk=>
 Option.elim k (some []) (λH=>
(zB (λ(x:Int×(List Range))=>zAP h H x.1 x.2) (0,[])).bind λ(K:(List Range))=>
 some K)
def zGW (G:(List Range)) (H:Int) (D:Int) (h:(List Range)):Option (Stp (Int×Int×(List Range)) (((List Range)))):=
 cond (decide (D<(G.length:Int))) (((zV G D).bind λz=>
 cond (decide (H<=z.Lo)) ((app h [z]).bind λk=>
 some (z.Hi,k)) (some (H,h))).bind λ(K:Int×(List Range))=>
 some (.next (K.1,wi (D+1),K.2))) (some (.done h))
def zDU (k:Norm) (a1:Collation) (a2:Options) (a3:(List Int)) (z:(List Int)) (D:(List Int)):Option ((List Range)):=
(zGV k a1 a2 a3 z D).bind λh=>
(zB (λ(x:Int×Int×(List Range))=>zGW h x.1 x.2.1 x.2.2) (0,0,[])).bind λ(G:(List Range))=>
 some G
def uS (k:(List Int)) (a1:(List Int)) (h:Int):Option (Stp (Int) ((Unit)⊕(Int))):=
(pv (decide (h<(k.length:Int)))).bind λz=>
 cond (z&&(decide (h<(a1.length:Int)))) ((zV k h).bind λD=>
(zV a1 h).bind λG=>
 cond (decide (D<G)) (some (.done (.inr ((-1))))) ((zV k h).bind λH=>
(zV a1 h).bind λK=>
 cond (decide (K<H)) (some (.done (.inr (1)))) (some (.next (wi (h+1)))))) (some (.done (.inl (()))))
def zB0 (k:(List Int)) (a1:(List Int)):Option (Int):=
(zB (λ(x:Int)=>uS k a1 x) 0).bind λ(h:(Unit)⊕(Int))=>
 h.elim (λh=>cond (decide ((k.length:Int)<(a1.length:Int))) (some (-1)) (cond (decide ((a1.length:Int)<(k.length:Int))) (some 1) (some 0))) (λh=>some h)
def zBH (h:(List Int)) (a1:(List Int)):Option (Bool):=
(zB0 h a1).bind λk=>
 some (decide (k=0))
def zA9 (G:(List (List Int))) (D:Int) (h:(List Int)):Option (Stp (Int×(List Int)) (((List Int)))):=
 cond (decide (D<(G.length:Int))) ((zV G D).bind λH=>
(cond (decide (0<D)) ((app h [0]).bind λk=>
 some k) (some h)).bind λ(K:(List Int))=>
(app K H).bind λz=>
 some (.next (wi (D+1),z))) (some (.done h))
def zBA (G:(List Int)) (D:Int) (h:(List Int)):Option (Stp (Int×(List Int)) (((List Int)))):=
 cond (decide (D<(G.length:Int))) (((zV G D).bind λz=>
(pv (decide (0<=z))).bind λH=>
 cond (H&&(decide (z<=1114111))) ((app h [wi (z+1)]).bind λk=>
 some k) (some h)).bind λ(K:(List Int))=>
 some (.next (wi (D+1),K))) (some (.done h))
def zAJ (H:Norm) (a1:Collation) (a2:Options) (a3:(List Int)):Option ((List Int)):=
(vZ ({aG:=a2.aG,aD:=a2.aD,aN:=a2.aN,aQ:=a2.aQ}:Options)).bind λk=>
(kY H a1 a3).bind λz=>
(wQ z ({aG:=k.aG,aD:=k.aD,aN:=k.aN,aQ:=k.aQ}:Options)).bind λD=>
(zB (λ(x:Int×(List Int))=>zA9 D x.1 x.2) (0,[])).bind λ(K:(List Int))=>
 cond (!k.aQ) (some K) ((app K [0]).bind λh=>
(xI H a3 false).bind λG=>
(zB (λ(x:Int×(List Int))=>zBA G x.1 x.2) (0,h)).bind λ(O:(List Int))=>
 some O)
def vQ (h:Int):Option (Bool):=
(pv (decide (0<=h))).bind λk=>
 some (k&&(decide (h<=1114111)))
def zOK:Option ((List Range)):=
 some [({Lo:=4352,Hi:=4370}:Range),({Lo:=4449,Hi:=4469}:Range),({Lo:=4520,Hi:=4546}:Range),({Lo:=44032,Hi:=55203}:Range)]
def zD2 (k:(List bJ)) (h:Int):Option (Stp (Int) ((Unit)⊕(Int))):=
 cond (decide (h<(k.length:Int))) ((zV k h).bind λK=>
(vQ K.Lo).bind λO=>
(pv (!O)).bind λz=>
(gM (!z) (zV k h)).bind λT=>
(gM (!z) (vQ T.Hi)).bind λY=>
(pv (z ||(!Y))).bind λD=>
(gM (!D) (zV k h)).bind λZ=>
(gM (!D) (zV k h)).bind λaa=>
(pv (D ||(decide (aa.Hi<Z.Lo)))).bind λG=>
(gM (!G) (zV k h)).bind λab=>
(pv (G ||(decide (ab.Value<1)))).bind λH=>
(gM (!H) (zV k h)).bind λac=>
 cond (H ||(decide (254<ac.Value))) (some (.done (.inr (1)))) (some (.next (wi (h+1))))) (some (.done (.inl (()))))
def zD3 (z:(List bJ)) (k:Int):Option (Stp (Int) ((Unit)⊕(Int))):=
 cond (decide (k<(z.length:Int))) ((zV z k).bind λH=>
(zV z (wi (k-1))).bind λK=>
(pv (decide (H.Lo<=K.Hi))).bind λh=>
(gM (!h) (zV z k)).bind λO=>
(gM (!h) (zV z (wi (k-1)))).bind λT=>
(pv (decide (O.Lo=(wi (T.Hi+1))))).bind λD=>
(gM (!h&&D) (zV z k)).bind λY=>
(gM (!h&&D) (zV z (wi (k-1)))).bind λG=>
 cond (h ||(D&&(decide (Y.Value=G.Value)))) (some (.done (.inr (4)))) (some (.next (wi (k+1))))) (some (.done (.inl (()))))
def zBB (k:(List Range)) (O:(List bJ)) (T:Int) (K:Int):Option (Stp (Int) ((Unit)⊕(Int))):=
 cond (decide (K<(k.length:Int))) ((zV O T).bind λz=>
(zV k K).bind λD=>
(pv (decide (z.Lo<=D.Hi))).bind λh=>
(gM h (zV k K)).bind λG=>
(gM h (zV O T)).bind λH=>
 cond (h&&(decide (G.Lo<=H.Hi))) (some (.done (.inr (11)))) (some (.next (wi (K+1))))) (some (.done (.inl (()))))
def zD4 (D:(List bJ)) (h:(List Range)) (z:Int):Option (Stp (Int) ((Unit)⊕(Int))):=
 cond (decide (z<(D.length:Int))) ((zB (λ(x:Int)=>zBB h D z x) 0).bind λ(k:(Unit)⊕(Int))=>
 k.elim (λk=>some (.next (wi (z+1)))) (λk=>some (.done (.inr (k))))) (some (.done (.inl (()))))
def zHR (G:(List bJ)):Option (Int):=
(zB (λ(x:Int)=>zD2 G x) 0).bind λ(k:(Unit)⊕(Int))=>
 k.elim (λk=>(zB (λ(x:Int)=>zD3 G x) 1).bind λ(z:(Unit)⊕(Int))=>
 z.elim (λz=>(zOK).bind λh=>
(zB (λ(x:Int)=>zD4 G h x) 0).bind λ(D:(Unit)⊕(Int))=>
 D.elim (λD=>some 0) (λD=>some D)) (λz=>some z)) (λk=>some k)
def zD5 (D:aC) (z:Int):Option (Stp (Int) ((Unit)⊕(Bool))):=
 cond (decide (z<(D.To.length:Int))) ((zV D.To z).bind λh=>
(vQ h).bind λk=>
 cond (!k) (some (.done (.inr (false)))) (some (.next (wi (z+1))))) (some (.done (.inl (()))))
def zK2 (z:aC):Option (Bool):=
(zB (λ(x:Int)=>zD5 z x) 0).bind λ(h:(Unit)⊕(Bool))=>
 h.elim (λh=>(vQ z.aT).bind λk=>
 some k) (λh=>some h)
def zMN (T:Str) (O:Int):Option (Stp (Int) ((Unit)⊕(Bool))):=
 cond (decide (O<(T.length:Int))) ((zYO T O).bind λh=>
(pv (decide (65<=h))).bind λk=>
(pv (k&&(decide (h<=90)))).bind λz=>
(pv (decide (97<=h))).bind λD=>
(pv (z ||(D&&(decide (h<=122))))).bind λG=>
(pv (decide (48<=h))).bind λH=>
(pv (G ||(H&&(decide (h<=57))))).bind λK=>
 cond (!(K ||(decide (h=95)))) (some (.done (.inr (false)))) (some (.next (wi (O+1))))) (some (.done (.inl (()))))
def zJG (k:Str):Option (Bool):=
(zB (λ(x:Int)=>zMN k x) 0).bind λ(h:(Unit)⊕(Bool))=>
 h.elim (λh=>(pv (decide (1<=(k.length:Int)))).bind λz=>
 some (z&&(decide ((k.length:Int)<=32)))) (λh=>some h)
def zBC (O:Int) (k:(List aC)) (z:Int):Option (Stp (Int) ((Unit)⊕(Bool))):=
 cond (decide (z<O)) ((zV k O).bind λD=>
(zV k z).bind λG=>
(pv (decide (D.aT=G.aT))).bind λh=>
(gM h (zV k O)).bind λH=>
(gM h (zV k z)).bind λK=>
 cond (h&&(H.bO==K.bO)) (some (.done (.inr (true)))) (some (.next (wi (z+1))))) (some (.done (.inl (()))))
def zD6 (z:(List aC)) (k:Int):Option (Stp (Int) ((Unit)⊕(Bool))):=
 cond (decide (k<(z.length:Int))) ((zB (λ(x:Int)=>zBC k z x) 0).bind λ(h:(Unit)⊕(Bool))=>
 h.elim (λh=>some (.next (wi (k+1)))) (λh=>some (.done (.inr (h))))) (some (.done (.inl (()))))
def zK3 (k:(List aC)):Option (Bool):=
(zB (λ(x:Int)=>zD6 k x) 0).bind λ(h:(Unit)⊕(Bool))=>
 h.elim (λh=>some false) (λh=>some h)
def zB5 (D:(List aC)) (z:Int):Option (Stp (Int) ((Unit)⊕(Int))):=
 cond (decide (z<(D.length:Int))) ((zV D z).bind λh=>
(zK2 h).bind λk=>
 cond (!k) (some (.done (.inr (1)))) (some (.next (wi (z+1))))) (some (.done (.inl (()))))
def zB6 (z:(List aC)) (k:Int):Option (Stp (Int) ((Unit)⊕(Int))):=
 cond (decide (k<(z.length:Int))) ((zV z k).bind λh=>
 cond (decide (64<(h.To.length:Int))) (some (.done (.inr (2)))) (some (.next (wi (k+1))))) (some (.done (.inl (()))))
def zB7 (z:(List aC)) (k:Int):Option (Stp (Int) ((Unit)⊕(Int))):=
 cond (decide (k<(z.length:Int))) ((zV z k).bind λD=>
(pv (!(D.bO== []))).bind λh=>
(gM h (zV z k)).bind λG=>
(gM h (zJG G.bO)).bind λH=>
 cond (h&&(!H)) (some (.done (.inr (6)))) (some (.next (wi (k+1))))) (some (.done (.inl (()))))
def zGX (h:(List aC)):Option (Int):=
(zB (λ(x:Int)=>zB5 h x) 0).bind λ(k:(Unit)⊕(Int))=>
 k.elim (λk=>(zB (λ(x:Int)=>zB6 h x) 0).bind λ(z:(Unit)⊕(Int))=>
 z.elim (λz=>(zB (λ(x:Int)=>zB7 h x) 0).bind λ(D:(Unit)⊕(Int))=>
 D.elim (λD=>(zK3 h).bind λG=>
 cond G (some 5) (some 0)) (λD=>some D)) (λz=>some z)) (λk=>some k)
def zOL (h:aC) (a1:aC):Option (Bool):=
(pv (decide (h.aT<a1.aT))).bind λk=>
(pv (decide (h.aT=a1.aT))).bind λz=>
 some (k ||(z&&(Op.bytesLess h.bO a1.bO)))
def zD7 (k:(List aC)) (h:Int):Option (Stp (Int) ((Unit)⊕(Int))):=
 cond (decide (h<(k.length:Int))) ((zV k (wi (h-1))).bind λz=>
(zV k h).bind λD=>
(zOL z D).bind λG=>
 cond (!G) (some (.done (.inr (4)))) (some (.next (wi (h+1))))) (some (.done (.inl (()))))
def zK4 (k:(List aC)):Option (Int):=
(zGX k).bind λz=>
 cond (!decide (z=0)) (some z) ((zB (λ(x:Int)=>zD7 k x) 1).bind λ(h:(Unit)⊕(Int))=>
 h.elim (λh=>some 0) (λh=>some h))
def xK (H:(List Int)) (a1:Int) (Y:Bool) (G:Int) (h:(List Int)):Option (Stp (Bool×Int×(List Int)) ((Bool×(List Int)))):=
 cond (decide (G<(H.length:Int))) ((pv (!Y)).bind λD=>
(gM D (zV H G)).bind λK=>
(cond (D&&(decide (a1<=K))) ((zV H G).bind λO=>
 cond (decide (a1<O)) ((app h [a1]).bind λk=>
 some (true,k)) (some (true,h))) (some (Y,h))).bind λ(Z:Bool×(List Int))=>
(zV H G).bind λT=>
(app Z.2 [T]).bind λz=>
 some (.next (Z.1,wi (G+1),z))) (some (.done (Y,h)))
def zFN (z:(List Int)) (a1:Int):Option ((List Int)):=
(zB (λ(x:Bool×Int×(List Int))=>xK z a1 x.1 x.2.1 x.2.2) (false,0,[])).bind λ(k:Bool×(List Int))=>
(cond (!k.1) ((app k.2 [a1]).bind λh=>
 some h) (some k.2)).bind λ(D:(List Int))=>
 some D
def zAQ (a1:Set) (O:(List Int)) (z:Int):Option (Stp ((List Int)×Int) (((List Int)))):=
 cond (decide (z<(a1.Ranges.length:Int))) (((zV a1.Ranges z).bind λk=>
(zV a1.Ranges z).bind λh=>
(vQ k.Lo).bind λG=>
(cond G ((zFN O k.Lo).bind λH=>
 some H) (some O)).bind λ(T:(List Int))=>
(pv (decide (0<=h.Hi))).bind λD=>
 cond (D&&(decide (h.Hi<1114111))) ((zFN T (wi (h.Hi+1))).bind λK=>
 some K) (some T)).bind λ(Y:(List Int))=>
 some (.next (Y,wi (z+1)))) (some (.done O))
def zJH (k:(List Int)) (a1:Set):Option ((List Int)):=
(zB (λ(x:(List Int)×Int)=>zAQ a1 x.1 x.2) (k,0)).bind λ(z:(List Int))=>
(zFN z 0).bind λh=>
 some h
def zGA (D:Set) (a1:Int) (z:Int):Option (Stp (Int) ((Unit)⊕(Bool))):=
 cond (decide (z<(D.Ranges.length:Int))) ((vQ a1).bind λG=>
(pv G).bind λh=>
(gM h (zV D.Ranges z)).bind λH=>
(pv (h&&(decide (H.Lo<=a1)))).bind λk=>
(gM k (zV D.Ranges z)).bind λK=>
 cond (k&&(decide (a1<=K.Hi))) (some (.done (.inr (true)))) (some (.next (wi (z+1))))) (some (.done (.inl (()))))
def zIO (k:Set) (a1:Int):Option (Bool):=
(zB (λ(x:Int)=>zGA k a1 x) 0).bind λ(h:(Unit)⊕(Bool))=>
 h.elim (λh=>some false) (λh=>some h)
def zQK (D:Int) (a1:Bool) (a2:Bool):Option (Bool):=
 cond (decide (D=1)) ((pv a1).bind λh=>
 some (h ||a2)) (cond (decide (D=2)) ((pv a1).bind λk=>
 some (k&&a2)) ((pv a1).bind λz=>
 some (z&&(!a2))))
def jW (z:(List Int)) (a0:Set) (a1:Set) (a2:Int) (v9:Bool) (k:Int) (h:(List Range)):Option (Stp (Bool×Int×(List Range)) (((List Range)))):=
 cond (decide (k<(z.length:Int))) ((cond (decide ((wi (k+1))<(z.length:Int))) ((zV z (wi (k+1))).bind λT=>
 some (wi (T-1))) (some 1114111)).bind λ(y2:Int)=>
(zV z k).bind λY=>
(zIO a0 Y).bind λZ=>
(zV z k).bind λaa=>
(zIO a1 aa).bind λab=>
(zQK a2 Z ab).bind λH=>
(pv H).bind λK=>
(cond (K&&v9) ((zV h (wi ((h.length:Int)-1))).bind λac=>
(uV h (wi ((h.length:Int)-1)) ({ac with Hi:=y2})).bind λD=>
 some D) (some h)).bind λ(y3:(List Range))=>
(pv H).bind λO=>
(cond (O&&(!v9)) ((zV z k).bind λad=>
(app y3 [({Lo:=ad,Hi:=y2}:Range)]).bind λG=>
 some G) (some y3)).bind λ(y5:(List Range))=>
 some (.next (H,wi (k+1),y5))) (some (.done h))
def zMO (z:Set) (a1:Set) (a2:Int):Option (Set):=
(zJH [] z).bind λh=>
(zJH h a1).bind λk=>
(zB (λ(x:Bool×Int×(List Range))=>jW k z a1 a2 x.1 x.2.1 x.2.2) (false,0,[])).bind λ(D:(List Range))=>
 some ({Ranges:=D}:Set)
def zM3 (h:(List Range)):Option (Set):=
(zMO ({Ranges:=h}:Set) ({Ranges:=[]}:Set) 1).bind λk=>
 some k
def zE8 (D:Set) (a1:Set) (h:Int):Option (Stp (Int) ((Unit)⊕(Bool))):=
 cond (decide (h<(D.Ranges.length:Int))) ((zV D.Ranges h).bind λk=>
(zV a1.Ranges h).bind λz=>
 cond (!decide (k=z)) (some (.done (.inr (false)))) (some (.next (wi (h+1))))) (some (.done (.inl (()))))
def zM4 (k:Set) (a1:Set):Option (Bool):=
 cond (!decide ((k.Ranges.length:Int)=(a1.Ranges.length:Int))) (some false) ((zB (λ(x:Int)=>zE8 k a1 x) 0).bind λ(h:(Unit)⊕(Bool))=>
 h.elim (λh=>some true) (λh=>some h))
def zK5 (h:Set):Option (Bool):=
(zM3 h.Ranges).bind λk=>
(zM4 h k).bind λz=>
 some z
def zE9 (D:(List aC)) (a1:Int) (a2:Bool) (z:Int):Option (Stp (Int) ((Unit)⊕(Int))):=
 cond (decide (z<(D.length:Int))) ((zV D z).bind λG=>
(pv (decide (G.aT=a1))).bind λh=>
(pv a2).bind λk=>
(gM (h&& !k) (zV D z)).bind λH=>
 cond (h&&(k ||(H.bO== []))) (some (.done (.inr (z)))) (some (.next (wi (z+1))))) (some (.done (.inl (()))))
def zEY (k:(List aC)) (a1:Int) (a2:Bool):Option (Int):=
(zB (λ(x:Int)=>zE9 k a1 a2 x) 0).bind λ(h:(Unit)⊕(Int))=>
 h.elim (λh=>some (-1)) (λh=>some h)
def zJI (h:Int):Option (Int):=
(pv (decide (4352<=h))).bind λH=>
 cond (H&&(decide (h<=4370))) (some 1) ((pv (decide (4449<=h))).bind λk=>
 cond (k&&(decide (h<=4469))) (some 2) ((pv (decide (4520<=h))).bind λz=>
 cond (z&&(decide (h<=4546))) (some 3) ((pv (decide (44032<=h))).bind λD=>
 cond (D&&(decide (h<=55203))) ((zHC (wi (h-44032)) 28).bind λG=>
 cond (decide (G=0)) (some 4) (some 5)) (some 0))))
def u3 (z:(List bJ)) (a1:Int) (k:Int):Option (Stp (Int) ((Unit)⊕(Int))):=
 cond (decide (k<(z.length:Int))) ((zV z k).bind λD=>
(pv (decide (D.Lo<=a1))).bind λh=>
(gM h (zV z k)).bind λG=>
 cond (h&&(decide (a1<=G.Hi))) ((zV z k).bind λH=>
 some (.done (.inr (H.Value)))) (some (.next (wi (k+1))))) (some (.done (.inl (()))))
def zCJ (k:(List bJ)) (a1:Int):Option (Int):=
(zHR k).bind λz=>
 cond (!decide (z=0)) (some 0) ((zB (λ(x:Int)=>u3 k a1 x) 0).bind λ(h:(Unit)⊕(Int))=>
 h.elim (λh=>some 0) (λh=>some h))
def zAR (D:(List aC)) (Z:Int) (G:(List Bool)) (v6:Bool) (Y:Int):Option (Stp (Bool×Int) ((Bool))):=
(zV D Z).bind λH=>
 cond (decide (Y<(H.To.length:Int))) ((zV D Z).bind λK=>
(zV K.To Y).bind λO=>
(zEY D O true).bind λz=>
(pv v6).bind λh=>
(pv (decide (z<0))).bind λk=>
(gM (h&& !k) (zV G z)).bind λT=>
 some (.next ((h&&(k ||T)),wi (Y+1)))) (some (.done v6))
def zDB (D:(List aC)) (z:Int) (h:(List Bool)):Option (Stp (Int×(List Bool)) (((List Bool)))):=
 cond (decide (z<(D.length:Int))) ((zB (λ(x:Bool×Int)=>zAR D z h x.1 x.2) (true,0)).bind λ(H:Bool)=>
(zV h z).bind λG=>
(uV h z H).bind λk=>
 some (.next (wi (z+1),k))) (some (.done h))
def zDC (k:(List aC)) (z:Int) (h:(List Bool)):Option (Stp (Int×(List Bool)) (((List Bool)))):=
 cond (decide (z<(k.length:Int))) ((zB (λ(x:Int×(List Bool))=>zDB k x.1 x.2) (0,h)).bind λ(D:(List Bool))=>
 some (.next (wi (z+1),D))) (some (.done h))
def zM5 (k:(List aC)):Option ((List Bool)):=
(mkM false (k.length:Int)).bind λh=>
(zB (λ(x:Int×(List Bool))=>zDC k x.1 x.2) (0,h)).bind λ(z:(List Bool))=>
 some z
def zDG (k:Int):Option ((List Int)):=
(zJI k).bind λT=>
 cond (decide (T<4)) (some [k]) ((zKP wi (wi (k-44032)) 28).bind λG=>
(zKP wi G 21).bind λz=>
(zKP wi (wi (k-44032)) 28).bind λH=>
(zHC H 21).bind λD=>
(zHC (wi (k-44032)) 28).bind λK=>
(cond (decide (0<K)) ((zHC (wi (k-44032)) 28).bind λO=>
(app [wi (4352+z),wi (4449+D)] [wi ((wi (4520+O))-1)]).bind λh=>
 some h) (some [wi (4352+z),wi (4449+D)])).bind λ(Y:(List Int))=>
 some Y)
def vH (k:(List aC)) (v7:Int) (a1:Bool) (D:(List Int)) (v8:Int) (z:Int):Option (Stp (Int×Int) ((Int))):=
(zV k v7).bind λG=>
 cond (decide (z<(G.To.length:Int))) (((zV k v7).bind λH=>
(zV H.To z).bind λK=>
(zEY k K a1).bind λh=>
 cond (decide (0<=h)) ((zV D h).bind λO=>
 some (wi (v8+O))) ((zV k v7).bind λT=>
(zV T.To z).bind λY=>
(zDG Y).bind λZ=>
 some (wi (v8+(Z.length:Int))))).bind λ(y5:Int)=>
 some (.next (y5,wi (z+1)))) (some (.done v8))
def zBD (G:(List aC)) (a1:Bool) (z:Int) (k:(List Int)):Option (Stp (Int×(List Int)) (((List Int)))):=
 cond (decide (z<(G.length:Int))) (((zB (λ(x:Int×Int)=>vH G z a1 k x.1 x.2) (0,0)).bind λ(Z:Int)=>
(zV k z).bind λO=>
(uV k z (min (max Z 1) 65)).bind λh=>
(zV G z).bind λK=>
(pv (!(K.bO== []))).bind λH=>
 cond (H&&(!a1)) ((zV h z).bind λT=>
(uV h z 1).bind λD=>
 some D) (some h)).bind λ(Y:(List Int))=>
 some (.next (wi (z+1),Y))) (some (.done k))
def zBE (k:(List aC)) (a1:Bool) (z:Int) (h:(List Int)):Option (Stp (Int×(List Int)) (((List Int)))):=
 cond (decide (z<(k.length:Int))) ((zB (λ(x:Int×(List Int))=>zBD k a1 x.1 x.2) (0,h)).bind λ(D:(List Int))=>
 some (.next (wi (z+1),D))) (some (.done h))
def zFA (k:(List aC)) (a1:Bool):Option ((List Int)):=
(mkM 0 (k.length:Int)).bind λh=>
(zB (λ(x:Int×(List Int))=>zBE k a1 x.1 x.2) (0,h)).bind λ(z:(List Int))=>
 some z
def zD8 (k:Norm) (h:Int):Option (Stp (Int) ((Unit)⊕(Int))):=
 cond (decide (h<(k.aA.length:Int))) ((zV k.aA h).bind λz=>
(zEY k.aA z.aT true).bind λD=>
 cond (decide (D<h)) (some (.done (.inr (5)))) (some (.next (wi (h+1))))) (some (.done (.inl (()))))
def zD9 (D:Norm) (z:Int):Option (Stp (Int) ((Unit)⊕(Int))):=
 cond (decide (z<(D.aA.length:Int))) ((zV D.aA z).bind λG=>
(pv (G.bO== [])).bind λh=>
(gM h (zV D.aA z)).bind λH=>
(pv (h&&(!decide ((H.To.length:Int)=1)))).bind λk=>
(gM k (zV D.aA z)).bind λK=>
 cond (k&&(!decide ((K.To.length:Int)=2))) (some (.done (.inr (8)))) (some (.next (wi (z+1))))) (some (.done (.inl (()))))
def zEA (z:Norm) (H:Int):Option (Stp (Int) ((Unit)⊕(Int))):=
 cond (decide (H<(z.aA.length:Int))) ((zV z.aA H).bind λK=>
(zJI K.aT).bind λO=>
(pv (!decide (O=0))).bind λh=>
(gM (!h) (zV z.aA H)).bind λT=>
(pv (!(T.bO== []))).bind λk=>
(gM (!h&&k) (zV z.aA H)).bind λD=>
(gM (!h&&k) (zCJ z.aI D.aT)).bind λG=>
 cond (h ||(k&&(!decide (G=0)))) (some (.done (.inr (11)))) (some (.next (wi (H+1))))) (some (.done (.inl (()))))
def zEB (D:Norm) (k:(List Bool)) (h:Int):Option (Stp (Int) ((Unit)⊕(Int))):=
 cond (decide (h<(D.aA.length:Int))) ((zV k h).bind λz=>
 cond (!z) (some (.done (.inr (12)))) (some (.next (wi (h+1))))) (some (.done (.inl (()))))
def zEC (K:Norm) (z:(List Int)) (D:(List Int)) (h:Int):Option (Stp (Int) ((Unit)⊕(Int))):=
 cond (decide (h<(K.aA.length:Int))) ((zV z h).bind λG=>
(pv (decide (64<G))).bind λk=>
(gM (!k) (zV D h)).bind λH=>
 cond (k ||(decide (64<H))) (some (.done (.inr (13)))) (some (.next (wi (h+1))))) (some (.done (.inl (()))))
def zK6 (h:Norm):Option (Int):=
(zHR h.aI).bind λG=>
 cond (!decide (G=0)) (some G) ((zK4 h.aA).bind λH=>
 cond (!decide (H=0)) (some H) ((zK5 h.aJ).bind λaa=>
 cond (!aa) (some 11) ((zB (λ(x:Int)=>zD8 h x) 0).bind λ(K:(Unit)⊕(Int))=>
 K.elim (λK=>(zB (λ(x:Int)=>zD9 h x) 0).bind λ(O:(Unit)⊕(Int))=>
 O.elim (λO=>(zB (λ(x:Int)=>zEA h x) 0).bind λ(T:(Unit)⊕(Int))=>
 T.elim (λT=>(zM5 h.aA).bind λk=>
(zB (λ(x:Int)=>zEB h k x) 0).bind λ(Y:(Unit)⊕(Int))=>
 Y.elim (λY=>(zFA h.aA false).bind λz=>
(zFA h.aA true).bind λD=>
(zB (λ(x:Int)=>zEC h z D x) 0).bind λ(Z:(Unit)⊕(Int))=>
 Z.elim (λZ=>some 0) (λZ=>some Z)) (λY=>some Y)) (λT=>some T)) (λO=>some O)) (λK=>some K))))
def zJJ (h:Norm):Option (Norm):=
(zK6 h).bind λk=>
 cond (!decide (k=0)) (some ({aI:=({aI:=[],aA:=[],aJ:=(({Ranges:=[]}):Set)}:Norm).aI,aA:=({aI:=[],aA:=[],aJ:=(({Ranges:=[]}):Set)}:Norm).aA,aJ:=({Ranges:=(({aI:=[],aA:=[],aJ:=(({Ranges:=[]}):Set)}:Norm).aJ).Ranges}:Set)}:Norm)) (some h)
def zJK (h:Int):Option (Bool):=
(pv (decide (1<=h))).bind λk=>
 some (k&&(decide (h<=65535)))
def zDH (D:Collation) (z:Int):Option (Stp (Int) ((Unit)⊕(Int))):=
 cond (decide (z<(D.aE.length:Int))) ((zV D.aE z).bind λh=>
(zJG h.bT).bind λk=>
 cond (!k) (some (.done (.inr (6)))) (some (.next (wi (z+1))))) (some (.done (.inl (()))))
def zDI (G:Int) (D:Collation) (z:Int):Option (Stp (Int) ((Unit)⊕(Int))):=
 cond (decide (z<G)) ((zV D.aE z).bind λh=>
(zV D.aE G).bind λk=>
 cond (h.bT==k.bT) (some (.done (.inr (5)))) (some (.next (wi (z+1))))) (some (.done (.inl (()))))
def zDJ (z:Collation) (k:Int):Option (Stp (Int) ((Unit)⊕(Int))):=
 cond (decide (k<(z.aE.length:Int))) ((zB (λ(x:Int)=>zDI k z x) 0).bind λ(h:(Unit)⊕(Int))=>
 h.elim (λh=>some (.next (wi (k+1)))) (λh=>some (.done (.inr (h))))) (some (.done (.inl (()))))
def zDK (k:Collation) (z:Int):Option (Stp (Int) ((Unit)⊕(Int))):=
 cond (decide (z<(k.aE.length:Int))) ((zV k.aE z).bind λG=>
(pv (decide (G.Lo<1))).bind λh=>
(gM (!h) (zV k.aE z)).bind λH=>
(gM (!h) (zV k.aE z)).bind λK=>
(pv (h ||(decide (H.Hi<K.Lo)))).bind λD=>
(gM (!D) (zV k.aE z)).bind λO=>
 cond (D ||(decide (k.bG<=O.Hi))) (some (.done (.inr (1)))) (some (.next (wi (z+1))))) (some (.done (.inl (()))))
def zBU (k:Collation) (h:Int):Option (Stp (Int) ((Unit)⊕(Int))):=
 cond (decide (h<(k.aE.length:Int))) ((zV k.aE h).bind λz=>
(zV k.aE (wi (h-1))).bind λD=>
 cond (!decide (z.Lo=(wi (D.Hi+1)))) (some (.done (.inr (4)))) (some (.next (wi (h+1))))) (some (.done (.inl (()))))
def zJL (h:Collation):Option (Int):=
(zB (λ(x:Int)=>zDH h x) 0).bind λ(k:(Unit)⊕(Int))=>
 k.elim (λk=>(zB (λ(x:Int)=>zDJ h x) 0).bind λ(z:(Unit)⊕(Int))=>
 z.elim (λz=>(zB (λ(x:Int)=>zDK h x) 0).bind λ(D:(Unit)⊕(Int))=>
 D.elim (λD=>(zB (λ(x:Int)=>zBU h x) 1).bind λ(G:(Unit)⊕(Int))=>
 G.elim (λG=>some 0) (λG=>some G)) (λD=>some D)) (λz=>some z)) (λk=>some k)
def zGB (h:Int):Option (Bool):=
(pv (decide (0<=h))).bind λk=>
 some (k&&(decide (h<=65535)))
def zK7 (h:aK):Option (Int):=
(zGB h.aP).bind λt5=>
(pv (!t5)).bind λZ=>
(gM (!Z) (zGB h.aH)).bind λT=>
(pv (Z ||(!T))).bind λk=>
(gM (!k) (zGB h.aL)).bind λY=>
 cond (k ||(!Y)) (some 1) ((pv (!decide (h.aP=0))).bind λz=>
(pv (decide (h.aH=0))).bind λD=>
(pv (z&&(D ||(decide (h.aL=0))))).bind λG=>
(pv (!decide (h.aH=0))).bind λH=>
(pv (G ||(H&&(decide (h.aL=0))))).bind λK=>
(pv h.aD).bind λO=>
 cond (K ||(O&&(decide (h.aP=0)))) (some 11) (some 0))
def zK8 (h:bQ) (D:Int):Option (Stp (Int) ((Unit)⊕(Int))):=
 cond (decide (D<(h.aV.length:Int))) ((zV h.aV D).bind λk=>
(vQ k).bind λz=>
 cond (!z) (some (.done (.inr (1)))) (some (.next (wi (D+1))))) (some (.done (.inl (()))))
def zED (h:bQ) (D:Int):Option (Stp (Int) ((Unit)⊕(Int))):=
 cond (decide (D<(h.aS.length:Int))) ((zV h.aS D).bind λz=>
(zK7 z).bind λk=>
 cond (!decide (k=0)) (some (.done (.inr (k)))) (some (.next (wi (D+1))))) (some (.done (.inl (()))))
def zK9 (h:bQ) (D:Collation) (z:Int):Option (Stp (Int) ((Unit)⊕(Int))):=
 cond (decide (z<(h.aS.length:Int))) ((zV h.aS z).bind λk=>
 cond (decide (D.bG<=k.aP)) (some (.done (.inr (1)))) (some (.next (wi (z+1))))) (some (.done (.inl (()))))
def zLA (H:Collation) (a1:Int):Option (Int):=
(zV H.aB a1).bind λh=>
(pv (decide ((h.aV.length:Int)<1))).bind λK=>
(pv (K ||(decide (8<(h.aV.length:Int))))).bind λO=>
 cond (O ||(decide (16<(h.aS.length:Int)))) (some 2) ((zB (λ(x:Int)=>zK8 h x) 0).bind λ(z:(Unit)⊕(Int))=>
 z.elim (λz=>(zB (λ(x:Int)=>zED h x) 0).bind λ(D:(Unit)⊕(Int))=>
 D.elim (λD=>(zB (λ(x:Int)=>zK9 h H x) 0).bind λ(G:(Unit)⊕(Int))=>
 G.elim (λG=>(pv (decide (0<a1))).bind λk=>
(gM k (zV H.aB (wi (a1-1)))).bind λT=>
(gM k (zB0 T.aV h.aV)).bind λY=>
 cond (k&&(decide (0<=Y))) (some 4) (some 0)) (λG=>some G)) (λD=>some D)) (λz=>some z))
def zEE (z:Collation) (k:Int):Option (Stp (Int) ((Unit)⊕(Int))):=
 cond (decide (k<(z.aB.length:Int))) ((zLA z k).bind λh=>
 cond (!decide (h=0)) (some (.done (.inr (h)))) (some (.next (wi (k+1))))) (some (.done (.inl (()))))
def zLB (h:Collation):Option (Int):=
(pv (decide (h.bG<1))).bind λO=>
(pv (O ||(decide (65502<h.bG)))).bind λk=>
(gM (!k) (zJK h.aX)).bind λH=>
(pv (k ||(!H))).bind λz=>
(gM (!z) (zJK h.bD)).bind λK=>
 cond (z ||(!K)) (some 1) ((zJL h).bind λD=>
 cond (!decide (D=0)) (some D) ((zB (λ(x:Int)=>zEE h x) 0).bind λ(G:(Unit)⊕(Int))=>
 G.elim (λG=>some 0) (λG=>some G)))
def zJM (h:Collation):Option (Collation):=
(zLB h).bind λk=>
 cond (!decide (k=0)) (some ({aB:=[],aE:=[],bG:=64448,aX:=32,bD:=2}:Collation)) (some h)
def wG (a2:(List Int)) (Y:(List aC)) (a3:Bool) (a1:(List (List Int))) (D:Int) (h:(List Int)):Option (Stp (Int×(List Int)) (((List Int)))):=
 cond (decide (D<(a2.length:Int))) (((zV a2 D).bind λH=>
(zEY Y H a3).bind λG=>
 cond (decide (0<=G)) ((zV a1 G).bind λK=>
(app h K).bind λk=>
 some k) ((zV a2 D).bind λO=>
(zDG O).bind λT=>
(app h T).bind λz=>
 some z)).bind λ(Z:(List Int))=>
 some (.next (wi (D+1),Z))) (some (.done h))
def zEF (h:(List aC)) (a1:(List (List Int))) (a2:(List Int)) (a3:Bool):Option ((List Int)):=
(zB (λ(x:Int×(List Int))=>wG a2 h a3 a1 x.1 x.2) (0,[])).bind λ(k:(List Int))=>
 some k
def zCK (G:(List aC)) (a1:Bool) (z:Int) (h:(List (List Int))):Option (Stp (Int×(List (List Int))) (((List (List Int))))):=
 cond (decide (z<(G.length:Int))) (((pv a1).bind λD=>
(gM (!D) (zV G z)).bind λH=>
 cond (D ||(H.bO== [])) ((zV G z).bind λK=>
(zEF G h K.To a1).bind λO=>
(zV h z).bind λT=>
(uV h z O).bind λk=>
 some k) (some h)).bind λ(Y:(List (List Int)))=>
 some (.next (wi (z+1),Y))) (some (.done h))
def zCL (k:(List aC)) (a1:Bool) (z:Int) (h:(List (List Int))):Option (Stp (Int×(List (List Int))) (((List (List Int))))):=
 cond (decide (z<(k.length:Int))) ((zB (λ(x:Int×(List (List Int)))=>zCK k a1 x.1 x.2) (0,h)).bind λ(D:(List (List Int)))=>
 some (.next (wi (z+1),D))) (some (.done h))
def zLC (k:(List aC)) (a1:Bool):Option ((List (List Int))):=
(mkM [] (k.length:Int)).bind λh=>
(zB (λ(x:Int×(List (List Int)))=>zCL k a1 x.1 x.2) (0,h)).bind λ(z:(List (List Int)))=>
 some z
def zM6 (z:Norm) (a1:(List Int)) (a2:Bool):Option ((List Int)):=
(zLC z.aA a2).bind λh=>
(zEF z.aA h a1 a2).bind λk=>
 some k
def zB1 (H:Int) (a0:(List bJ)) (a1:(List Int)) (v6:Int) (D:Int) (h:(List Int)):Option (Stp (Int×(List Int)) (((List Int)))):=
(pv (decide (0<D))).bind λK=>
(pv (K&&(decide (0<H)))).bind λG=>
(gM G (zV h (wi (D-1)))).bind λO=>
(gM G (zCJ a0 O)).bind λT=>
 cond (G&&(decide (H<T))) ((zV h (wi (D-1))).bind λY=>
(zV h D).bind λab=>
(uV h D Y).bind λk=>
(zV a1 v6).bind λZ=>
(zV k (wi (D-1))).bind λac=>
(uV k (wi (D-1)) Z).bind λz=>
 some (.next (wi (D-1),z))) (some (.done h))
def zAS (a1:(List Int)) (K:(List bJ)) (z:Int) (k:(List Int)):Option (Stp (Int×(List Int)) (((List Int)))):=
 cond (decide (z<(a1.length:Int))) ((zV a1 z).bind λD=>
(app k [D]).bind λh=>
(zV a1 z).bind λG=>
(zCJ K G).bind λH=>
(zB (λ(x:Int×(List Int))=>zB1 H K a1 z x.1 x.2) (wi ((h.length:Int)-1),h)).bind λ(O:(List Int))=>
 some (.next (wi (z+1),O))) (some (.done k))
def zJN (h:(List bJ)) (a1:(List Int)):Option ((List Int)):=
(zB (λ(x:Int×(List Int))=>zAS a1 h x.1 x.2) (0,[])).bind λ(k:(List Int))=>
 some k
def zJO (D:Norm) (a1:(List Int)) (a2:Bool):Option ((List Int)):=
(zJJ D).bind λz=>
(zM6 z a1 a2).bind λh=>
(zJN z.aI h).bind λk=>
 some k
def zFB (z:Collation) (a1:(List Int)) (k:Int):Option (Stp (Int) ((Unit)⊕(Bool×(List aK)))):=
 cond (decide (k<(z.aB.length:Int))) ((zV z.aB k).bind λD=>
(zBH D.aV a1).bind λG=>
 cond G ((zV z.aB k).bind λH=>
(app [] H.aS).bind λh=>
 some (.done (.inr ((true,h))))) (some (.next (wi (k+1))))) (some (.done (.inl (()))))
def zEZ (k:Collation) (a1:(List Int)):Option ((List aK)×Bool):=
(zB (λ(x:Int)=>zFB k a1 x) 0).bind λ(h:(Unit)⊕(Bool×(List aK)))=>
 h.elim (λh=>some ([],false)) (λh=>some (h.2,h.1))
def zH9 (h:(List bJ)) (a1:Int):Option (Bool):=
(zCJ h a1).bind λk=>
 some (decide (k=0))
def zJP (z:(List Int)) (a1:Int):Option ((List Int)):=
(app [] z).bind λh=>
(app h [a1]).bind λk=>
 some k
def vI (a2:(List Int)) (a1:Collation) (D:Int) (h:Int):Option (Stp (Int×Int) ((Int))):=
 cond (decide (h<=(a2.length:Int))) (((slc a2 0 h).bind λk=>
(zEZ a1 k).bind λz=>
 cond z.2 (some h) (some D)).bind λ(G:Int)=>
 some (.next (G,wi (h+1)))) (some (.done D))
def uT (a2:(List Int)) (a0:(List bJ)) (a1:Collation) (D:(List Int)) (H:Int) (h:Int) (k:(List Int)):Option (Stp ((List Int)×Int×Int×(List Int)) (((List Int)×Int×(List Int)))):=
(pv (decide (h<(a2.length:Int)))).bind λG=>
(gM G (zV a2 h)).bind λT=>
(gM G (zH9 a0 T)).bind λY=>
 cond (G&&(!Y)) ((zV a2 h).bind λZ=>
(zCJ a0 Z).bind λK=>
(zV a2 h).bind λaa=>
(zJP D aa).bind λab=>
(zEZ a1 ab).bind λac=>
(pv ac.2).bind λO=>
(cond (O&&(decide (H<K))) ((zV a2 h).bind λad=>
(zJP D ad).bind λag=>
 some (ag,H,k)) ((zV a2 h).bind λah=>
(app k [ah]).bind λz=>
 some (D,max H K,z))).bind λ(y5:(List Int)×Int×(List Int))=>
 some (.next (y5.1,y5.2.1,wi (h+1),y5.2.2))) (some (.done (D,h,k)))
def zIA (T:(List bJ)) (a1:Collation) (a2:(List Int)):Option ((List Int)×(List Int)×Bool):=
(zB (λ(x:Int×Int)=>vI a2 a1 x.1 x.2) (0,1)).bind λ(K:Int)=>
 cond (decide (K=0)) ((slc a2 0 1).bind λD=>
(slc a2 1 (a2.length)).bind λG=>
 some (D,G,false)) ((slc a2 0 K).bind λH=>
(app [] H).bind λk=>
(zB (λ(x:(List Int)×Int×Int×(List Int))=>uT a2 T a1 x.1 x.2.1 x.2.2.1 x.2.2.2) (k,0,K,[])).bind λ(O:(List Int)×Int×(List Int))=>
(slc a2 O.2.1 (a2.length)).bind λz=>
(app O.2.2 z).bind λh=>
 some (O.1,h,true))
def zGY (D:Collation) (a1:Int):Option ((List aK)):=
(vQ a1).bind λG=>
 cond (!G) (some []) ((zJM D).bind λh=>
(zKP wi a1 32768).bind λk=>
(zHC a1 32768).bind λz=>
 some [({aP:=wi (h.bG+k),aH:=h.aX,aL:=h.bD,aD:=false}:aK),({aP:=wi (32768+z),aH:=0,aL:=0,aD:=false}:aK)])
def zAT (O:Norm) (D:Collation) (a1:Collation) (G:(List Int)) (H:Bool) (h:(List aK)):Option (Stp ((List Int)×Bool×(List aK)) ((Bool×(List aK)))):=
 cond (decide (0<(G.length:Int))) ((zIA O.aI D G).bind λz=>
(zV z.1 (0:Int)).bind λT=>
(zGY a1 T).bind λY=>
(cond z.2.2 ((zEZ D z.1).bind λZ=>
 some Z.1) (some Y)).bind λ(y2:(List aK))=>
(app h y2).bind λk=>
(pv H).bind λK=>
 some (.next (z.2.1,(K&&z.2.2),k))) (some (.done (H,h)))
def zM7 (D:Norm) (a1:Collation) (a2:(List Int)):Option ((List aK)×Bool):=
(zJJ D).bind λh=>
(zJM a1).bind λk=>
(zJO D a2 false).bind λz=>
(zB (λ(x:(List Int)×Bool×(List aK))=>zAT h k a1 x.1 x.2.1 x.2.2) (z,true,[])).bind λ(G:Bool×(List aK))=>
 some (G.2,G.1)
def xW (k:Norm) (a1:Collation) (a2:(List Int)):Option ((List aK)):=
(zM7 k a1 a2).bind λh=>
 some h.1
def zLD (h:Options):Option (Int):=
(pv (decide (h.aG<1))).bind λz=>
 cond (z ||(decide (4<h.aG))) (some 1) ((pv (decide (h.aD<1))).bind λk=>
 cond (k ||(decide (3<h.aD))) (some 8) (some 0))
def zFC (h:Options):Option (Options):=
(zLD h).bind λk=>
 cond (!decide (k=0)) (some ({aG:=3,aD:=1,aN:=false,aQ:=false}:Options)) (some h)
def zCS (Z:(List aK)) (a1:Int) (v6:Bool) (Y:Int) (k:(List a8)):Option (Stp (Bool×Int×(List a8)) (((List a8)))):=
 cond (decide (Y<(Z.length:Int))) ((zV Z Y).bind λh=>
(pv (decide (h.aP=0))).bind λH=>
(pv (H&&(decide (h.aH=0)))).bind λD=>
(pv h.aD).bind λK=>
(cond (K ||(!decide (h.aP=0))) (some h.aD) (some v6)).bind λ(y2:Bool)=>
(cond (decide (a1=1)) (cond (!(D&&(decide (h.aL=0)))) (some (({x0:=h.aP,x1:=h.aH,x2:=h.aL,x3:=0}:a8).x0,({x0:=h.aP,x1:=h.aH,x2:=h.aL,x3:=0}:a8).x1,({x0:=h.aP,x1:=h.aH,x2:=h.aL,x3:=0}:a8).x2,65535)) (some (({x0:=h.aP,x1:=h.aH,x2:=h.aL,x3:=0}:a8).x0,({x0:=h.aP,x1:=h.aH,x2:=h.aL,x3:=0}:a8).x1,({x0:=h.aP,x1:=h.aH,x2:=h.aL,x3:=0}:a8).x2,({x0:=h.aP,x1:=h.aH,x2:=h.aL,x3:=0}:a8).x3))) (cond y2 ((pv (decide (a1=3))).bind λO=>
 cond (O&&h.aD) (some (({x0:=0,x1:=0,x2:=0,x3:=0}:a8).x0,({x0:=0,x1:=0,x2:=0,x3:=0}:a8).x1,({x0:=0,x1:=0,x2:=0,x3:=0}:a8).x2,h.aP)) (some (({x0:=0,x1:=0,x2:=0,x3:=0}:a8).x0,({x0:=0,x1:=0,x2:=0,x3:=0}:a8).x1,({x0:=0,x1:=0,x2:=0,x3:=0}:a8).x2,({x0:=0,x1:=0,x2:=0,x3:=0}:a8).x3))) ((pv (decide (a1=3))).bind λT=>
 cond (T&&(!(D&&(decide (h.aL=0))))) (some (({x0:=h.aP,x1:=h.aH,x2:=h.aL,x3:=0}:a8).x0,({x0:=h.aP,x1:=h.aH,x2:=h.aL,x3:=0}:a8).x1,({x0:=h.aP,x1:=h.aH,x2:=h.aL,x3:=0}:a8).x2,65535)) (some (({x0:=h.aP,x1:=h.aH,x2:=h.aL,x3:=0}:a8).x0,({x0:=h.aP,x1:=h.aH,x2:=h.aL,x3:=0}:a8).x1,({x0:=h.aP,x1:=h.aH,x2:=h.aL,x3:=0}:a8).x2,({x0:=h.aP,x1:=h.aH,x2:=h.aL,x3:=0}:a8).x3))))).bind λ(G:Int×Int×Int×Int)=>
(app k [({x0:=G.1,x1:=G.2.1,x2:=G.2.2.1,x3:=G.2.2.2}:a8)]).bind λz=>
 some (.next (y2,wi (Y+1),z))) (some (.done k))
def zIB (h:(List aK)) (a1:Int):Option ((List a8)):=
(zB (λ(x:Bool×Int×(List a8))=>zCS h a1 x.1 x.2.1 x.2.2) (false,0,[])).bind λ(k:(List a8))=>
 some k
def zCT (z:(List a8)) (Z:Int) (O:Options) (H:Int) (h:(List Int)):Option (Stp (Int×(List Int)) (((List Int)))):=
 cond (decide (H<(z.length:Int))) (((pv (decide (Z=1))).bind λK=>
(cond (K&&O.aN) (some (wi ((wi ((z.length:Int)-1))-H))) (some H)).bind λ(y4:Int)=>
(zV z y4).bind λD=>
(zV [D.x0,D.x1,D.x2,D.x3] Z).bind λT=>
 cond (!decide (T=0)) ((zV z y4).bind λG=>
(zV [G.x0,G.x1,G.x2,G.x3] Z).bind λY=>
(app h [Y]).bind λk=>
 some k) (some h)).bind λ(y3:(List Int))=>
 some (.next (wi (H+1),y3))) (some (.done h))
def zCU (z:Options) (D:(List a8)) (G:Int) (h:(List (List Int))):Option (Stp (Int×(List (List Int))) (((List (List Int))))):=
 cond (decide (G<z.aG)) ((zB (λ(x:Int×(List Int))=>zCT D G z x.1 x.2) (0,[])).bind λ(H:(List Int))=>
(app h [H]).bind λk=>
 some (.next (wi (G+1),k))) (some (.done h))
def zFD (z:(List aK)) (a1:Options):Option ((List (List Int))):=
(zFC ({aG:=a1.aG,aD:=a1.aD,aN:=a1.aN,aQ:=a1.aQ}:Options)).bind λh=>
(zIB z h.aD).bind λk=>
(zB (λ(x:Int×(List (List Int)))=>zCU h k x.1 x.2) (0,[])).bind λ(D:(List (List Int)))=>
 some D
def zDD (k:(List (List Int))) (h:Int):Option (Stp (Int) ((Unit)⊕(Bool))):=
 cond (decide (h<(k.length:Int))) ((zV k h).bind λz=>
 cond (decide (0<(z.length:Int))) (some (.done (.inr (true)))) (some (.next (wi (h+1))))) (some (.done (.inl (()))))
def zM8 (D:Norm) (a1:Collation) (a2:Options) (a3:(List Int)):Option (Bool):=
(xW D a1 a3).bind λk=>
(zFD k a2).bind λz=>
(zB (λ(x:Int)=>zDD z x) 0).bind λ(h:(Unit)⊕(Bool))=>
 h.elim (λh=>some false) (λh=>some h)
def zFE (H:(List (List Int))) (D:Int) (h:(List Int)):Option (Stp (Int×(List Int)) (((List Int)))):=
 cond (decide (D<(H.length:Int))) ((cond (decide (0<D)) ((app h [0]).bind λk=>
 some k) (some h)).bind λ(K:(List Int))=>
(zV H D).bind λG=>
(app K G).bind λz=>
 some (.next (wi (D+1),z))) (some (.done h))
def zSW (h:(List (List Int))):Option ((List Int)):=
(zB (λ(x:Int×(List Int))=>zFE h x.1 x.2) (0,[])).bind λ(k:(List Int))=>
 some k
def zGC (D:(List Int)) (z:Int) (h:(List Int)):Option (Stp (Int×(List Int)) (((List Int)))):=
 cond (decide (z<(D.length:Int))) (((zV D z).bind λG=>
(vQ G).bind λH=>
 cond H ((zV D z).bind λK=>
(app h [wi (K+1)]).bind λk=>
 some k) (some h)).bind λ(O:(List Int))=>
 some (.next (wi (z+1),O))) (some (.done h))
def zPP (K:Norm) (a1:Collation) (a2:Options) (a3:(List Int)):Option ((List Int)):=
(zFC ({aG:=a2.aG,aD:=a2.aD,aN:=a2.aN,aQ:=a2.aQ}:Options)).bind λk=>
(xW K a1 a3).bind λD=>
(zFD D ({aG:=k.aG,aD:=k.aD,aN:=k.aN,aQ:=k.aQ}:Options)).bind λG=>
(zSW G).bind λz=>
 cond (!k.aQ) (some z) ((app z [0]).bind λh=>
(zJO K a3 false).bind λH=>
(zB (λ(x:Int×(List Int))=>zGC H x.1 x.2) (0,h)).bind λ(O:(List Int))=>
 some O)
def zJQ (k:Norm) (a1:Collation) (a2:Options) (a3:(List Int)) (z:Int):Option ((List Int)):=
(zPP k a1 ({aG:=z,aD:=a2.aD,aN:=a2.aN,aQ:=false}:Options) a3).bind λh=>
 some h
def zLZ (k:Norm) (a1:Collation) (a2:Options) (a3:(List Int)):Option ((List Int)):=
(zJQ k a1 a2 a3 a2.aG).bind λh=>
 some h
def zHS (z:(List Int)) (a1:Int) (k:Int):Option (Stp (Int) ((Unit)⊕(Bool))):=
 cond (decide (k<(z.length:Int))) ((zV z k).bind λh=>
 cond (decide (h=a1)) (some (.done (.inr (true)))) (some (.next (wi (k+1))))) (some (.done (.inl (()))))
def zOM (k:(List Int)) (a1:Int):Option (Bool):=
(zB (λ(x:Int)=>zHS k a1 x) 0).bind λ(h:(Unit)⊕(Bool))=>
 h.elim (λh=>some false) (λh=>some h)
def zEG (z:(List aK)) (k:(List aK)) (h:Int):Option (Stp (Int) ((Unit)⊕(Bool))):=
 cond (decide (h<(z.length:Int))) ((zV z h).bind λD=>
(zV k h).bind λG=>
 cond (!decide (D=G)) (some (.done (.inr (false)))) (some (.next (wi (h+1))))) (some (.done (.inl (()))))
def zLE (G:Norm) (a1:Collation) (a2:(List Int)) (a3:Range):Option (Bool):=
(pv (decide (a3.Lo<0))).bind λK=>
(pv (K ||(decide (a3.Hi<a3.Lo)))).bind λO=>
 cond (O ||(decide ((a2.length:Int)<a3.Hi))) (some false) ((xW G a1 a2).bind λD=>
(slc a2 0 a3.Lo).bind λT=>
(xW G a1 T).bind λY=>
(app [] Y).bind λk=>
(slc a2 a3.Lo a3.Hi).bind λZ=>
(xW G a1 Z).bind λaa=>
(app k aa).bind λz=>
(slc a2 a3.Hi (a2.length)).bind λab=>
(xW G a1 ab).bind λac=>
(app z ac).bind λh=>
 cond (!decide ((D.length:Int)=(h.length:Int))) (some false) ((zB (λ(x:Int)=>zEG D h x) 0).bind λ(H:(Unit)⊕(Bool))=>
 H.elim (λH=>some true) (λH=>some H)))
def zCM (H:(List Int)) (a5:(List Int)) (D:Int) (G:Norm) (a1:Collation) (a2:Options) (a3:(List Int)) (h:Int):Option (Stp (Int) ((Unit)⊕(Bool×Int×Int))):=
 cond (decide (h<=(H.length:Int))) ((zOM a5 h).bind λK=>
(pv K).bind λk=>
(gM k (slc H D h)).bind λO=>
(gM k (zLZ G a1 a2 O)).bind λT=>
(gM k (zLZ G a1 a2 a3)).bind λY=>
(gM k (zBH T Y)).bind λZ=>
(pv (k&&Z)).bind λz=>
(gM z (zLE G a1 H ({Lo:=D,Hi:=h}:Range))).bind λaa=>
 cond (z&&aa) (some (.done (.inr ((true,({Lo:=D,Hi:=h}:Range).Lo,({Lo:=D,Hi:=h}:Range).Hi))))) (some (.next (wi (h+1))))) (some (.done (.inl (()))))
def zLF (z:Norm) (a1:Collation) (a2:Options) (a3:(List Int)) (D:(List Int)) (G:(List Int)) (k:Int):Option (Range×Bool):=
(zB (λ(x:Int)=>zCM D G k z a1 a2 a3 x) (wi (k+1))).bind λ(h:(Unit)⊕(Bool×Int×Int))=>
 h.elim (λh=>some (({Lo:=0,Hi:=0}:Range),false)) (λh=>some (({Lo:=h.2.1,Hi:=h.2.2}:Range),h.1))
def zCV (H:(List Int)) (K:(List Int)) (O:Norm) (a1:Collation) (a2:Options) (a3:(List Int)) (z:Int) (h:(List Range)):Option (Stp (Int×(List Range)) (((List Range)))):=
 cond (decide (z<(H.length:Int))) (((zOM K z).bind λG=>
 cond (!G) (some h) ((zLF O a1 a2 a3 H K z).bind λD=>
 cond D.2 ((app h [D.1]).bind λk=>
 some k) (some h))).bind λ(T:(List Range))=>
 some (.next (wi (z+1),T))) (some (.done h))
def zPQ (k:Norm) (a1:Collation) (a2:Options) (a3:(List Int)) (z:(List Int)) (D:(List Int)):Option ((List Range)):=
(zM8 k a1 a2 a3).bind λh=>
 cond (!h) (some []) ((zB (λ(x:Int×(List Range))=>zCV z D k a1 a2 a3 x.1 x.2) (0,[])).bind λ(G:(List Range))=>
 some G)
def zDE (G:(List Range)) (H:Int) (D:Int) (h:(List Range)):Option (Stp (Int×Int×(List Range)) (((List Range)))):=
 cond (decide (D<(G.length:Int))) (((zV G D).bind λz=>
 cond (decide (H<=z.Lo)) ((app h [z]).bind λk=>
 some (z.Hi,k)) (some (H,h))).bind λ(K:Int×(List Range))=>
 some (.next (K.1,wi (D+1),K.2))) (some (.done h))
def zGZ (k:Norm) (a1:Collation) (a2:Options) (a3:(List Int)) (z:(List Int)) (D:(List Int)):Option ((List Range)):=
(zPQ k a1 a2 a3 z D).bind λh=>
(zB (λ(x:Int×Int×(List Range))=>zDE h x.1 x.2.1 x.2.2) (0,0,[])).bind λ(G:(List Range))=>
 some G
def zIP (h:bK):Option (Bool):=
(zFK h.Norm).bind λz=>
(pv z).bind λk=>
(gM k (zFL h.Collation)).bind λD=>
 some (k&&D)
def wW (h:bC) (a1:(List Int)):Option ((List Int)):=
(xI h.norm a1 false).bind λk=>
 some k
def vR (h:Norm) (a2:(List Int)):Option ((List Int)):=
(((some ()).bind λ(G:Unit)=>
 some ()).bind λ(D:Unit)=>
 some ()).bind λ(z:Unit)=>
(wW ({norm:=({aI:=(({norm:=h}:bC).norm).aI,aA:=(({norm:=h}:bC).norm).aA,aJ:=({Ranges:=((({norm:=h}:bC).norm).aJ).Ranges}:Set)}:Norm)}:bC) a2).bind λk=>
(some ()).bind λ(H:Unit)=>
 some k
def zIQ (h:(List Int)) (a1:(List Int)):Option (Bool):=
(zBH h a1).bind λk=>
 some k
def zBV (h:(List Int)) (a1:(List Int)):Option (Bool):=
(wD h a1).bind λk=>
 some (decide (k=0))
def zBF (D:Norm) (a1:(List Int)) (a2:(List Int)):Option (Bool):=
(some ()).bind λ(G:Unit)=>
(vR D a1).bind λh=>
(vR D a2).bind λk=>
(zBV h k).bind λz=>
 some z
def wR (D:Norm) (a1:Collation) (a2:Options) (a3:(List Int)) (G:(List Int)):Option (Int):=
(zAJ D a1 a2 a3).bind λh=>
(zAJ D a1 a2 G).bind λk=>
(wD h k).bind λz=>
 some z
def zE0:Option (Bool):=
(vR ({aI:=({aI:=[],aA:=[({aT:=225,To:=[97,769],bO:=[]}:aC)],aJ:=(({Ranges:=[]}):Set)}:Norm).aI,aA:=({aI:=[],aA:=[({aT:=225,To:=[97,769],bO:=[]}:aC)],aJ:=(({Ranges:=[]}):Set)}:Norm).aA,aJ:=({Ranges:=(({aI:=[],aA:=[({aT:=225,To:=[97,769],bO:=[]}:aC)],aJ:=(({Ranges:=[]}):Set)}:Norm).aJ).Ranges}:Set)}:Norm) [225]).bind λD=>
(zIQ D [97,769]).bind λG=>
(pv G).bind λh=>
(gM h (zBF ({aI:=({aI:=[],aA:=[({aT:=225,To:=[97,769],bO:=[]}:aC)],aJ:=(({Ranges:=[]}):Set)}:Norm).aI,aA:=({aI:=[],aA:=[({aT:=225,To:=[97,769],bO:=[]}:aC)],aJ:=(({Ranges:=[]}):Set)}:Norm).aA,aJ:=({Ranges:=(({aI:=[],aA:=[({aT:=225,To:=[97,769],bO:=[]}:aC)],aJ:=(({Ranges:=[]}):Set)}:Norm).aJ).Ranges}:Set)}:Norm) [225] [97,769])).bind λH=>
(pv (h&&H)).bind λk=>
(gM k (wR ({aI:=({aI:=[],aA:=[({aT:=225,To:=[97,769],bO:=[]}:aC)],aJ:=(({Ranges:=[]}):Set)}:Norm).aI,aA:=({aI:=[],aA:=[({aT:=225,To:=[97,769],bO:=[]}:aC)],aJ:=(({Ranges:=[]}):Set)}:Norm).aA,aJ:=({Ranges:=(({aI:=[],aA:=[({aT:=225,To:=[97,769],bO:=[]}:aC)],aJ:=(({Ranges:=[]}):Set)}:Norm).aJ).Ranges}:Set)}:Norm) ({aB:=[],aE:=[],bG:=0,aX:=0,bD:=0}:Collation) ({aG:=3,aD:=1,aN:=false,aQ:=false}:Options) [97] [98])).bind λK=>
(pv (k&&(decide (K=(-1))))).bind λz=>
(gM z (zAJ ({aI:=({aI:=[],aA:=[({aT:=225,To:=[97,769],bO:=[]}:aC)],aJ:=(({Ranges:=[]}):Set)}:Norm).aI,aA:=({aI:=[],aA:=[({aT:=225,To:=[97,769],bO:=[]}:aC)],aJ:=(({Ranges:=[]}):Set)}:Norm).aA,aJ:=({Ranges:=(({aI:=[],aA:=[({aT:=225,To:=[97,769],bO:=[]}:aC)],aJ:=(({Ranges:=[]}):Set)}:Norm).aJ).Ranges}:Set)}:Norm) ({aB:=[],aE:=[],bG:=0,aX:=0,bD:=0}:Collation) ({aG:=3,aD:=1,aN:=false,aQ:=false}:Options) [97])).bind λO=>
 some (z&&(decide ((O.length:Int)=6)))
def wH (a2:(List Int)) (z:Int) (h:(List Int)):Option (Stp (Int×(List Int)) (((List Int)))):=
 cond (decide (z<=(a2.length:Int))) ((app h [z]).bind λk=>
 some (.next (wi (z+1),k))) (some (.done h))
def uA (D:(List Range)) (a2:(List Int)) (G:bK) (a1:(List Int)) (z:Int):Option (Stp (Int) ((Unit)⊕(Bool))):=
 cond (decide (z<(D.length:Int))) ((zV D z).bind λh=>
(pv (decide (h.Lo<0))).bind λH=>
(pv (H ||(decide (h.Hi<=h.Lo)))).bind λK=>
(pv (K ||(decide ((a2.length:Int)<h.Hi)))).bind λk=>
(gM (!k) (slc a2 h.Lo h.Hi)).bind λO=>
(gM (!k) (wR G.Norm G.Collation G.Options O a1)).bind λT=>
 cond (k ||(!decide (T=0))) (some (.done (.inr (false)))) (some (.next (wi (z+1))))) (some (.done (.inl (()))))
def zEH (h:bK) (a1:(List Int)) (a2:(List Int)):Option (Bool):=
(zIP h).bind λH=>
(pv (!H)).bind λG=>
(pv (G ||h.Options.aQ)).bind λk=>
(gM (!k) (zIN a1 3)).bind λK=>
(pv (k ||(!K))).bind λz=>
(gM (!z) (zIN a2 7)).bind λO=>
 cond (z ||(!O)) ((zE0).bind λT=>
 some T) ((zB (λ(x:Int×(List Int))=>wH a2 x.1 x.2) (0,[])).bind λ(y1:(List Int))=>
(zDU h.Norm h.Collation h.Options a1 a2 y1).bind λY=>
(zB (λ(x:Int)=>uA Y a2 h a1 x) 0).bind λ(D:(Unit)⊕(Bool))=>
 D.elim (λD=>(zE0).bind λZ=>
 some Z) (λD=>some D))
end
end Go.M


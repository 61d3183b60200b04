/- What the plain counterparts answer. Conditions: none. -/
import Derived.Test.YtjnpmmedmedokaaGreatDoorMir
set_option linter.unusedSimpArgs false
set_option linter.unusedVariables false
set_option linter.unnecessarySimpa false
namespace Go.M
open Go.AV
theorem xN {n:Int} (h: -9223372036854775808<=n) (k:n<=9223372036854775807):wi n=n:=w64 h k
theorem zC {k:Nat} (h:k+1<=9223372036854775807):wi ((k:Int)+1)=((k+1:Nat):Int):=by rw[xN (by omega) (by omega)];omega
theorem zCA {k:Nat} (h:k+1<=9223372036854775807):wi (((k+1:Nat):Int)-1)=(k:Int):=by rw[xN (by omega) (by omega)];omega
theorem yF {k n:Nat} (h:k<n):decide ((k:Int)<(n:Int))=true:=by simp;omega
theorem yY {k n:Nat} (h:n<=k):decide ((k:Int)<(n:Int))=false:=by simp;omega
theorem zM {z:Type} {l:List z} {k:Nat} (h:k<l.length):zV l (k:Int)=some l[k]:=by unfold zV;rw[dK (by omega)];simp[h]
theorem z9P {h:Type} {x: h} {l:List h}:zV (x::l) 0=some x:=rfl
theorem zFR {z:Type} {l:List z} {k:Nat} (h:k<l.length) (x: z):uV l (k:Int) x=some (l.set k x):=by unfold uV;rw[dK ⟨by omega,by simpa using h⟩];simp
theorem jP {k:Type} {l m:List k} (h:l.length+m.length<=4294967296):app l m=some (l++m):=by unfold app;rw[dK (by unfold LIM;exact h)]
theorem zW0 {k:Type} {z: k} {n:Nat} (h:n<=4294967296):mkM z (n:Int)=some (List.replicate n z):=by unfold mkM;rw[dK ⟨by omega,by unfold LIM;simpa using h⟩];simp
theorem zPV {k:Type} {l:List k} {a b:Nat} (z:a<=b) (h:b<=l.length):slc l (a:Int) (b:Int)=some ((l.take b).drop a):=by unfold slc;rw[dK ⟨by omega,by omega,by simpa using h⟩];simp
theorem zDF {k:Type} {l:List k} {b:Nat} (h:b<=l.length):slc l 0 (b:Int)=some (l.take b):=by have:=zPV (l:=l) (a:=0) (b:=b) (by omega) h;simpa using this
theorem zFS {k:Type} {l:List k} {a:Nat} (h:a<=l.length):slc l (a:Int) (l.length:Int)=some (l.drop a):=by have:=zPV (l:=l) (a:=a) (b:=l.length) h (dF _);simpa using this
theorem zF {h k:Type} (x: h) (f: h->Option k):(pv x).bind f=f x:=rfl
theorem j7 {h:Type} [Inhabited h] (m:Option h):gM true m=m:=rfl
theorem wJ {h:Type} [Inhabited h] (m:Option h):gM false m=some default:=rfl
theorem zA {h k:Type} (x: h) (f: h->Option k):(some x).bind f=f x:=rfl
theorem zG {X Y:Type} {body:X->Option (Stp X Y)} {x x':X} (h:body x=some (.next x')):zB body x=zB body x':=by rw[jN,h]
theorem zD {X Y:Type} {body:X->Option (Stp X Y)} {x:X} {y:Y} (h:body x=some (.done y)):zB body x=some y:=by rw[jN,h]
theorem z0:((0:Nat):Int)=0:=rfl
open Go.AV
def uU {A Y:Type} (p:Nat->A->Option Y):List A->Nat->Option Y
 | [],_=>none
 | x::xs,k=>match p k x with
  | some y=>some y
  | none=>uU p xs (k+1)
def toS {Y:Type}:Option Y->Unit⊕Y
 | some y=> .inr y
 | none=> .inl ()
def stp {Y:Type} (k:Nat):Option Y->Stp Int (Unit⊕Y)
 | some y=> .done (.inr y)
 | none=> .next ((k+1:Nat):Int)
theorem zZS {A Y:Type} (l:List A) {body:Int->Option (Stp Int (Unit⊕Y))} (p:Nat->A->Option Y)
  (s:Nat) (hb:∀k (h:k<l.length),s<=k->body (k:Int)=some (stp k (p k l[k]))) (G:∀k:Nat,l.length<=k->body (k:Int)=some (.done (.inl ()))):
  ∀(n k:Nat),s<=k->l.length-k=n->zB body (k:Int)=some (toS (uU p (l.drop k) k)):=by
 intro n
 induction n with
 | zero=>
  intro k D H;rw[jN,G k (by omega),dE (by omega)];rfl
 | succ n K=>
  intro k D H;have z:k<l.length:=by omega
  rw[jN,hb k z D,dA z];simp only[uU];cases O:p k l[k] with
  | some y=>rfl
  | none=>exact K (k+1) (by omega) (by omega)
theorem jX {A Y:Type} (l:List A) {body:Int->Option (Stp Int (Unit⊕Y))} (p:Nat->A->Option Y)
  (hb:∀k (h:k<l.length),body (k:Int)=some (stp k (p k l[k]))) (z:∀k:Nat,l.length<=k->body (k:Int)=some (.done (.inl ()))):zB body 0=some (toS (uU p l 0)):=by
 have:=zZS l p 0 (λk h _=>hb k h) z l.length 0 (by omega) (by omega);simpa using this
theorem jJ {Y Z:Type} (o:Option Y) (f:Unit->Option Z) (g:Y->Option Z):(toS o).elim f g=match o with | some y=>g y | none=>f ():=by cases o<;>rfl
abbrev MX:Nat:=9223372036854775807
def zE4 (t:Int):Bool:=((((decide (65<=t)&&decide (t<=90)) ||(decide (97<=t)&&decide (t<=122))) ||(decide (48<=t)&&decide (t<=57))) ||decide (t=95))
theorem zW1:xR=zMN:=rfl
theorem zZT {s:Str} {k:Nat} (h:k<s.length):zYO s (k:Int)=some (s[k].toNat:Int):=by unfold zYO;rw[zM h];rfl
theorem zQO (s:Str) (z:s.length<=MX):zB (λ(x:Int)=>xR s x) 0=some (toS (uU (λ_ (b:UInt8)=>if zE4 (b.toNat:Int) then none else some false) s 0)):=by
 refine jX s _ (λk h=>?_) (λk h=>?_);simp only[xR,yF h,cQ,zZT h,zA,zF,zC (k:=k) (by unfold MX at z;omega)]
 by_cases hb:zE4 (s[k].toNat:Int)=true;simp only[hb,dH,stp];unfold zE4 at hb;rw[hb];rfl;simp only[hb,cY,stp];unfold zE4 at hb;simp only[gP] at hb;rw[hb];rfl;simp only[xR,yY h,cP]
def zLI (s:Str):Bool:=match uU (λ_ (b:UInt8)=>if zE4 (b.toNat:Int) then none else some false) s 0 with
 | some y=>y
 | none=>decide (1<=s.length)&&decide (s.length<=32)
theorem z57 {s:Str} (k:s.length<=MX):zA2 s=some (zLI s):=by
 unfold zA2 zLI;rw[zQO s k,zA,jJ];cases uU (λ_ (b:UInt8)=>if zE4 (b.toNat:Int) then none else some false) s 0 with
 | some y=>rfl
 | none=>
  simp only[zF];congr 1;cases s with
  | nil=>rfl
  | cons x l=>
   have h:((x::l:Str)== [])=false:=rfl;rw[h];simp;omega
theorem z3D {s:Str} (h:s.length<=MX):zJG s=some (zLI s):=by
 unfold zJG zLI;rw[<-zW1,zQO s h,zA,jJ];cases uU (λ_ (b:UInt8)=>if zE4 (b.toNat:Int) then none else some false) s 0 with
 | some y=>rfl
 | none=>
  simp only[zF];congr 1;congr 1;simp;omega;simp;omega
def gpN (_:Nat) (g:b5):Option Int:=if zLI g.bT then none else some 6
def gpR (b:Int) (_:Nat) (g:b5):Option Int:=if g.Lo<1\/g.Hi<g.Lo\/b<=g.Hi then some 1 else none
def gpO (l:List b5) (k:Nat) (g:b5):Option Int:=if 0<k/\¬g.Lo=wi ((l.getD (k-1) default).Hi+1) then some 4 else none
def gpT (l:List b5) (k:Nat) (g:b5):Option Int:=if g.bT∈(l.take k).map (·.bT) then some 5 else none
section
variable {c:Collation} (hg:c.aE.length<=2000) (hn:∀g∈c.aE,g.bT.length<=MX)
include hg
theorem wiS {k:Nat} (h:k<c.aE.length):wi ((k:Int)+1)=((k+1:Nat):Int):=zC (by omega)
include hn in
theorem gL0:zB (λ(x:Int)=>jR c x) 0=some (toS (uU gpN c.aE 0)):=by refine jX c.aE _ (λk h=>?_) (λk h=>?_);simp only[jR,yF h,cQ,zM h,zA,z57 (hn _ (eE h)),wiS hg h,gpN];cases zLI (c.aE[k]).bT<;>rfl;simp only[jR,yY h,cP]
include hn in
theorem rL0:zB (λ(x:Int)=>zDH c x) 0=some (toS (uU gpN c.aE 0)):=by refine jX c.aE _ (λk h=>?_) (λk h=>?_);simp only[zDH,yF h,cQ,zM h,zA,z3D (hn _ (eE h)),wiS hg h,gpN];cases zLI (c.aE[k]).bT<;>rfl;simp only[zDH,yY h,cP]
theorem gL2:zB (λ(x:Int)=>jS c x) 0=some (toS (uU (gpR c.bG) c.aE 0)):=by refine jX c.aE _ (λk h=>?_) (λk h=>?_);simp only[jS,yF h,cQ,zM h,zA,zF,wiS hg h,gpR];by_cases z:(c.aE[k]).Lo<1<;>by_cases D:(c.aE[k]).Hi<(c.aE[k]).Lo<;>by_cases G:c.bG<=(c.aE[k]).Hi<;>simp[z,D,G,stp];simp only[jS,yY h,cP]
theorem rL3:zB (λ(x:Int)=>zDK c x) 0=some (toS (uU (gpR c.bG) c.aE 0)):=by refine jX c.aE _ (λk h=>?_) (λk h=>?_);simp only[zDK,yF h,cQ,zM h,zA,zF,wiS hg h,gpR];by_cases z:(c.aE[k]).Lo<1<;>by_cases D:(c.aE[k]).Hi<(c.aE[k]).Lo<;>by_cases G:c.bG<=(c.aE[k]).Hi<;>simp[z,D,G,stp,j7,wJ,zA];simp only[zDK,yY h,cP]
theorem gL3:zB (λ(x:Int)=>jT c x) 0=some (toS (uU (gpO c.aE) c.aE 0)):=by
 refine jX c.aE _ (λk h=>?_) (λk h=>?_);simp only[jT,yF h,cQ,zM h,zA,zF,wiS hg h,gpO];cases k with
 | zero=>simp[wJ,zA,stp]
 | succ k=>
  have z:k<c.aE.length:=by omega
  have D:wi (((k+1:Nat):Int)-1)=(k:Int):=zCA (by omega);have G:decide ((0:Int)<((k+1:Nat):Int))=true:=by simp
  rw[G,j7,D,zM z,zA];have H:c.aE.getD (k+1-1) default=c.aE[k]:=by simp[z]
  rw[H];by_cases K:(c.aE[k+1]).Lo=wi ((c.aE[k]).Hi+1)<;>simp[K,stp]
 simp only[jT,yY h,cP]
theorem rL4:zB (λ(x:Int)=>zBU c x) 1=some (toS (uU (gpO c.aE) (c.aE.drop 1) 1)):=by
 have:=zZS (body:=λ(x:Int)=>zBU c x) c.aE (gpO c.aE) 1 (λk h H=>?_) (λk h=>?_) (c.aE.length-1) 1 (by omega) rfl;exact this;simp only[zBU,yF h,cQ,zM h,zA,wiS hg h,gpO];cases k with
 | zero=>omega
 | succ k=>
  have z:k<c.aE.length:=by omega
  have D:wi (((k+1:Nat):Int)-1)=(k:Int):=zCA (by omega);rw[D,zM z,zA];have G:c.aE.getD (k+1-1) default=c.aE[k]:=by simp[z]
  rw[G];by_cases K:(c.aE[k+1]).Lo=wi ((c.aE[k]).Hi+1)<;>simp[K,stp]
 simp only[zBU,yY h,cP]
omit hg in
theorem yLR:uU (gpO c.aE) c.aE 0=uU (gpO c.aE) (c.aE.drop 1) 1:=by
 cases h:c.aE with
 | nil=>rfl
 | cons g l=>simp[uU,gpO]
omit hg in
theorem zNM {H K:Type} [DecidableEq H] (m:List (H×K)) (k D: H) (v z: K):mgetD (xY m k v) D z=if D=k then v else mgetD m D z:=by
 unfold mgetD
 induction m with
 | nil=>simp only[xY,mget];by_cases h:D=k<;>simp[h,mget]
 | cons p m O=>
  obtain⟨q,u⟩:=p;simp only[xY];by_cases G:k=q;subst G;simp only[dH,mget];by_cases h:D=k<;>simp[h];simp only[G,cY,mget];by_cases h:D=q;subst h;have:¬D=k:=λe=>G e.symm;simp[this];simp only[h,cY];exact O
theorem gL1:∀(n k:Nat) (m:List (Str×Bool)),c.aE.length-k=n->k<=c.aE.length->(∀s,mgetD m s false=decide (s∈(c.aE.take k).map (·.bT)))->
    zB (λ(x:Int×(List (Str×Bool)))=>jD c x.1 x.2) ((k:Int),m)=some (toS (uU (gpT c.aE) (c.aE.drop k) k)):=by
  intro n
  induction n with
  | zero=>
    intro k m T G H;have D:c.aE.length<=k:=by omega
    rw[jN,dE D];simp only[jD,yY D,cP,uU,toS]
  | succ n Y=>
    intro k m T G H;have h:k<c.aE.length:=by omega
    rw[jN,dA h];simp only[jD,yF h,cQ,zM h,zA,H,wiS hg h,uU,gpT];by_cases z:(c.aE[k]).bT∈(c.aE.take k).map (·.bT)
    · simp only[z,dD,cQ,dH,toS]
    · simp only[z,dI,cP,cY]
      refine Y (k+1) _ (by omega) (by omega) λs=>?_;rw[zNM,H s];have O:(c.aE.take (k+1)).map (·.bT)=(c.aE.take k).map (·.bT)++ [(c.aE[k]).bT]:=by
        rw[List.take_add_one,cV h,gU];rfl
      rw[O];by_cases K:s=(c.aE[k]).bT
      · simp[K]
      · simp[K]
omit hg in
theorem z3E {A Y:Type} (P:A->Bool) (y:Y):∀(l:List A) (k:Nat),uU (λ_ x=>if P x then some y else none) l k=if l.any P then some y else none
 | [],_=>rfl
 | x::l,k=>by
  simp only[uU,List.any_cons];by_cases h:P x=true;simp[h];simp only[h,dR,cY,fa];exact z3E P y l (k+1)
theorem rL1:zB (λ(x:Int)=>zDJ c x) 0=some (toS (uU (gpT c.aE) c.aE 0)):=by
  refine jX c.aE _ (λk h=>?_) (λk h=>?_)
  · have G:zB (λ(x:Int)=>zDI (k:Int) c x) 0=some (toS (uU (λ_ (g:b5)=>if (g.bT==(c.aE[k]).bT) then some (5:Int) else none) (c.aE.take k) 0)):=by
      refine jX (c.aE.take k) _ (λj H=>?_) (λj H=>?_)
      · have K:j<k:=by rw[d9] at H;omega
        have z:j<c.aE.length:=by omega
        have D:decide ((j:Int)<(k:Int))=true:=by simp;omega
        simp only[zDI,D,cQ,zM z,zM h,zA,wiS hg z,List.getElem_take];by_cases O:((c.aE[j]).bT==(c.aE[k]).bT)=true
        · simp only[O,cQ,dH,stp]
        · simp only[O,gP] at*
          simp only[O,cP,dR,cY,stp]
      · have K:k<=j:=by rw[d9] at H;omega
        have D:decide ((j:Int)<(k:Int))=false:=by simp;omega
        simp only[zDI,D,cP]
    simp only[zDJ,yF h,cQ,G,zA,jJ,z3E,gpT,wiS hg h];have Y:((c.aE.take k).any λg=>g.bT==(c.aE[k]).bT)=decide ((c.aE[k]).bT∈(c.aE.take k).map (·.bT)):=by
      rw[gD];simp only[fX,beq_iff_eq,c8,eJ]
    rw[Y];by_cases T:(c.aE[k]).bT∈(c.aE.take k).map (·.bT)
    · simp only[T,dD,dH,stp]
    · simp only[T,dI,dR,cY,stp]
  · simp only[zDJ,yY h,cP]
def grpE (c:Collation):Int:=match uU gpN c.aE 0 with
 | some y=>y
 | none=>match uU (gpT c.aE) c.aE 0 with
  | some y=>y
  | none=>match uU (gpR c.bG) c.aE 0 with
   | some y=>y
   | none=>match uU (gpO c.aE) c.aE 0 with
    | some y=>y
    | none=>0
include hn in
theorem z58:wY c=some (grpE c):=by
 have h:=gL1 hg c.aE.length 0 [] (by omega) (by omega) (λs=>by simp[mgetD,mget]);have h:zB (λ(x:Int×(List (Str×Bool)))=>jD c x.1 x.2) (0,[])=some (toS (uU (gpT c.aE) c.aE 0)):=h;unfold wY grpE;rw[gL0 hg hn,zA,jJ];cases uU gpN c.aE 0 with
 | some y=>rfl
 | none=>
  simp only[];rw[h,zA,jJ];cases uU (gpT c.aE) c.aE 0 with
  | some y=>rfl
  | none=>
   simp only[];rw[gL2 hg,zA,jJ];cases uU (gpR c.bG) c.aE 0 with
   | some y=>rfl
   | none=>
    simp only[];rw[gL3 hg,zA,jJ];cases uU (gpO c.aE) c.aE 0<;>rfl
include hn in
theorem zW2:zJL c=some (grpE c):=by
 unfold zJL grpE;rw[rL0 hg hn,zA,jJ];cases uU gpN c.aE 0 with
 | some y=>rfl
 | none=>
  simp only[];rw[rL1 hg,zA,jJ];cases uU (gpT c.aE) c.aE 0 with
  | some y=>rfl
  | none=>
   simp only[];rw[rL3 hg,zA,jJ];cases uU (gpR c.bG) c.aE 0 with
   | some y=>rfl
   | none=>
    simp only[];rw[rL4 hg,zA,jJ,yLR];cases uU (gpO c.aE) (c.aE.drop 1) 1<;>rfl
end
open Go.AV
def elE (e:aK):Int:=
 if (e.aP<0\/65535<e.aP)\/(e.aH<0\/65535<e.aH)\/(e.aL<0\/65535<e.aL) then 1
 else if (e.aP≠0/\(e.aH=0\/e.aL=0))\/(e.aH≠0/\e.aL=0)\/(e.aD=true/\e.aP=0) then 11 else 0
theorem yEI (e:aK):zC5 e=some (elE e):=by
 have H:zB (λ(x:Int)=>uL e x) 0=some (toS (uU (λ_ (w:Int)=>if w<0\/65535<w then some 1 else none) [e.aP,e.aH,e.aL] 0)):=by
  refine jX [e.aP,e.aH,e.aL] _ (λk h=>?_) (λk h=>?_);have D:decide ((k:Int)<3)=true:=by simp at h ⊢;omega
  simp only[uL,D,cQ,zM h,zA,zF,zC (k:=k) (by simp at h;omega)]
  by_cases z: [e.aP,e.aH,e.aL][k]<0<;>by_cases G:65535 < [e.aP,e.aH,e.aL][k]<;>simp[z,G,stp];have D:decide ((k:Int)<3)=false:=by simp at h ⊢;omega
  simp only[uL,D,cP]
 unfold zC5 elE;rw[H,zA,jJ];simp only[uU];by_cases z:e.aP<0\/65535<e.aP;simp[z];by_cases G:e.aH<0\/65535<e.aH;simp[z,G];by_cases D:e.aL<0\/65535<e.aL;simp[z,G,D];simp only[z,G,D,cY,or_self,zF];by_cases a:e.aP=0<;>by_cases b:e.aH=0<;>by_cases c:e.aL=0<;>cases e.aD<;>simp[a,b,c]
theorem z1U (e:aK):zK7 e=some (elE e):=by
 unfold zK7 elE zGB;simp only[zF,zA];by_cases a1:0<=e.aP;by_cases a2:e.aP<=65535;by_cases b1:0<=e.aH;by_cases b2:e.aH<=65535;by_cases h:0<=e.aL;by_cases k:e.aL<=65535;have z:¬(e.aP<0\/65535<e.aP):=by omega
 have D:¬(e.aH<0\/65535<e.aH):=by omega
 have G:¬(e.aL<0\/65535<e.aL):=by omega
 simp only[a1,a2,b1,b2,h,k,z,D,G,dD,fQ,dG,dO,j7,zA,hJ,cP,or_self,cY];by_cases a:e.aP=0<;>by_cases b:e.aH=0<;>by_cases c:e.aL=0<;>cases e.aD<;>simp[a,b,c];have:(65535:Int)<e.aL:=by omega
 simp[a1,a2,b1,b2,h,k,j7,zA,this];have:e.aL<0:=by omega
 simp[a1,a2,b1,b2,h,j7,zA,this];have:(65535:Int)<e.aH:=by omega
 simp[a1,a2,b1,b2,j7,wJ,zA,this];have:e.aH<0:=by omega
 simp[a1,a2,b1,j7,wJ,zA,this];have:(65535:Int)<e.aP:=by omega
 simp[a1,a2,j7,wJ,zA,this];have:e.aP<0:=by omega
 simp[a1,j7,wJ,zA,this]
def vld (c:Int):Bool:=decide (0<=c)&&decide (c<=1114111)
theorem zOX (c:Int):uC c=some (vld c):=rfl
theorem zDW (c:Int):vQ c=some (vld c):=rfl
def pV (_:Nat) (c:Int):Option Int:=if vld c then none else some 1
def pE (_:Nat) (e:aK):Option Int:=if elE e=0 then none else some (elE e)
def pP (b:Int) (_:Nat) (e:aK):Option Int:=if b<=e.aP then some 1 else none
def enE (x:bQ) (b:Int):Int:=
 if x.aV.length<1\/8<x.aV.length\/16<x.aS.length then 2
 else match uU pV x.aV 0 with
  | some y=>y
  | none=>match uU pE x.aS 0 with
   | some y=>y
   | none=>match uU (pP b) x.aS 0 with
    | some y=>y
    | none=>0
section
variable {x:bQ} (hc:x.aV.length<=2000) (he:x.aS.length<=2000)
include hc in
theorem eL0:zB (λ(v:Int)=>jE x v) 0=some (toS (uU pV x.aV 0)):=by refine jX x.aV _ (λk h=>?_) (λk h=>?_);simp only[jE,yF h,cQ,zM h,zA,zOX,zC (k:=k) (by omega),pV];cases vld x.aV[k]<;>rfl;simp only[jE,yY h,cP]
include he in
theorem eL1:zB (λ(v:Int)=>xC x v) 0=some (toS (uU pE x.aS 0)):=by refine jX x.aS _ (λk h=>?_) (λk h=>?_);simp only[xC,yF h,cQ,zM h,zA,yEI,zC (k:=k) (by omega),pE];by_cases z:elE x.aS[k]=0<;>simp[z,stp];simp only[xC,yY h,cP]
include he in
theorem eL2 (b:Int):zB (λ(v:Int)=>jF x b v) 0=some (toS (uU (pP b) x.aS 0)):=by refine jX x.aS _ (λk h=>?_) (λk h=>?_);simp only[jF,yF h,cQ,zM h,zA,zC (k:=k) (by omega),pP];by_cases z:b<=(x.aS[k]).aP<;>simp[z,stp];simp only[jF,yY h,cP]
theorem yLS:zK8=jE:=rfl
theorem yLT (c:Collation):(λv=>zK9 x c v)=λv=>jF x c.bG v:=rfl
include he in
theorem yNT:zB (λ(v:Int)=>zED x v) 0=some (toS (uU pE x.aS 0)):=by refine jX x.aS _ (λk h=>?_) (λk h=>?_);simp only[zED,yF h,cQ,zM h,zA,z1U,zC (k:=k) (by omega),pE];by_cases z:elE x.aS[k]=0<;>simp[z,stp];simp only[zED,yY h,cP]
theorem szc:(((decide ((x.aV.length:Int)<1) ||decide (8<(x.aV.length:Int))) ||decide (16<(x.aS.length:Int))))=decide (x.aV.length<1\/8<x.aV.length\/16<x.aS.length):=by rw[gD];simp only[fU,c8];omega
include hc he in
theorem z9R (b:Int):vN x b=some (enE x b):=by
 unfold vN enE;simp only[zF,szc];by_cases h:x.aV.length<1\/8<x.aV.length\/16<x.aS.length;simp only[h,dD,cQ,dH];simp only[h,dI,cP,cY];rw[eL0 hc,zA,jJ];cases uU pV x.aV 0 with
 | some y=>rfl
 | none=>
  simp only[];rw[eL1 he,zA,jJ];cases uU pE x.aS 0 with
  | some y=>rfl
  | none=>
   simp only[];rw[eL2 he,zA,jJ];cases uU (pP b) x.aS 0<;>rfl
end
def zQ6 (a b:List Int):Int:=match uU (λ_ (p:Int×Int)=>if p.1=p.2 then none else some (if p.1<p.2 then (-1:Int) else 1)) (a.zip b) 0 with
 | some y=>y
 | none=>if a.length<b.length then -1 else if b.length<a.length then 1 else 0
section
variable {a b:List Int} (ha:a.length<=4611686018427387904) (hb:b.length<=2000)
theorem z59 (x y:Int):jO x y=some (if x<y then -1 else if y<x then 1 else 0):=by unfold jO zC4;simp only[zA,dD,dG,cP];by_cases h:x<y;simp[h];by_cases k:y<x<;>simp[h,k]
include ha in
theorem cL0:zB (λ(v:Int)=>xZ a b v) 0=some (toS (uU (λ_ (p:Int×Int)=>if p.1=p.2 then none else some (if p.1<p.2 then (-1:Int) else 1)) (a.zip b) 0)):=by
 refine jX (a.zip b) _ (λk h=>?_) (λk h=>?_);have O:=h;rw[List.length_zip] at O;have H:k<a.length:=by omega
 have K:k<b.length:=by omega
 have z:decide ((k:Int)<min (a.length:Int) (b.length:Int))=true:=by simp;omega
 simp only[xZ,z,cQ,zM H,zM K,zA,z59,zC (k:=k) (by omega),List.getElem_zip];by_cases G:a[k]=b[k];simp[G,stp];simp only[G,dI,dO,cQ,cY,stp];by_cases D:a[k]<b[k];simp[D];have:b[k]<a[k]:=by omega
 simp[D,this];rw[List.length_zip] at h;have z:decide ((k:Int)<min (a.length:Int) (b.length:Int))=false:=by simp;omega
 simp only[xZ,z,cP]
include ha in
theorem yNU:zB (λ(v:Int)=>uS a b v) 0=some (toS (uU (λ_ (p:Int×Int)=>if p.1=p.2 then none else some (if p.1<p.2 then (-1:Int) else 1)) (a.zip b) 0)):=by
 refine jX (a.zip b) _ (λk h=>?_) (λk h=>?_);have K:=h;rw[List.length_zip] at K;have z:k<a.length:=by omega
 have D:k<b.length:=by omega
 simp only[uS,yF z,yF D,zF,fQ,cQ,zM z,zM D,zA,zC (k:=k) (by omega),List.getElem_zip];by_cases G:a[k]<b[k];have:¬a[k]=b[k]:=by omega
 simp[G,this,stp];by_cases O:b[k]<a[k];have:¬a[k]=b[k]:=by omega
 simp[G,O,this,stp];have:a[k]=b[k]:=by omega
 simp[this,stp];rw[List.length_zip] at h;have H:(decide ((k:Int)<(a.length:Int))&&decide ((k:Int)<(b.length:Int)))=false:=by
  rw[eA];simp;omega
 simp only[uS,zF,H,cP]
include ha in
theorem zNO:wD a b=some (zQ6 a b):=by
 unfold wD zQ6;rw[cL0 ha,zA,jJ];cases uU (λ_ (p:Int×Int)=>if p.1=p.2 then none else some (if p.1<p.2 then (-1:Int) else 1)) (a.zip b) 0 with
 | some y=>rfl
 | none=>
  simp only[z59,zA];congr 1;by_cases k:a.length<b.length;have:(a.length:Int)<b.length:=by omega
  simp[k,this];have h:¬(a.length:Int)<b.length:=by omega
  by_cases D:b.length<a.length;have:(b.length:Int)<a.length:=by omega
  simp[k,h,D,this];have z:¬(b.length:Int)<a.length:=by omega
  simp[k,h,D,z]
include ha in
theorem zMS:zB0 a b=some (zQ6 a b):=by
 unfold zB0 zQ6;rw[yNU ha,zA,jJ];cases uU (λ_ (p:Int×Int)=>if p.1=p.2 then none else some (if p.1<p.2 then (-1:Int) else 1)) (a.zip b) 0 with
 | some y=>rfl
 | none=>
  simp only[];by_cases k:a.length<b.length;have:(a.length:Int)<b.length:=by omega
  simp[k,this];have h:¬(a.length:Int)<b.length:=by omega
  by_cases D:b.length<a.length;have:(b.length:Int)<a.length:=by omega
  simp[k,h,D,this];have z:¬(b.length:Int)<a.length:=by omega
  simp[k,h,D,z]
end
open Go.AV
structure Sm (c:Collation):Prop where
 en:c.aB.length<=12
 gr:c.aE.length<=8
 co:∀x∈c.aB,x.aV.length<=16
 el:∀x∈c.aB,x.aS.length<=20
def smB (c:Collation):Bool:=if 12<c.aB.length\/8<c.aE.length then false else match uU (λ_ (x:bQ)=>if 10<x.aV.length\/20<x.aS.length then some false else none) c.aB 0 with
 | some y=>y
 | none=>true
theorem zLJ {A Y:Type} {p:Nat->A->Option Y}:∀{l:List A} {k:Nat},uU p l k=none->∀j (h:j<l.length),p (k+j) l[j]=none
 | [],_,_,j,h=>by simp at h
 | x::xs,k,z,j,h=>by
  simp only[uU] at z;cases D:p k x with
  | some y=>rw[D] at z;cases z
  | none=>
   rw[D] at z;cases j with
   | zero=>simpa using D
   | succ j=>
    have:=zLJ z j (by simp at h;omega)
    rw[show k+1+j=k+(j+1) by omega] at this;simpa using this
theorem zG6 {A Y:Type} {p:Nat->A->Option Y} {P:Y->Prop} (D:∀k x y,p k x=some y->P y):∀{l:List A} {k:Nat} {y:Y},uU p l k=some y->P y
 | [],_,_,h=>by cases h
 | x::xs,k,y,h=>by
  simp only[uU] at h;cases z:p k x with
  | some G=>rw[z] at h;cases h;exact D _ _ _ z
  | none=>rw[z] at h;exact zG6 D h
theorem z9S (c:Collation):zFL c=some (smB c):=by
 unfold zFL smB;simp only[zF];by_cases K:12<c.aB.length\/8<c.aE.length;have:(decide (12<(c.aB.length:Int)) ||decide (8<(c.aE.length:Int)))=true:=by simp only[fU,c8];omega
 simp only[this,cQ,K,dH];have O:(decide (12<(c.aB.length:Int)) ||decide (8<(c.aE.length:Int)))=false:=by simp only[fC,dC];omega
 have T:zB (λ(v:Int)=>zA0 c v) 0=some (toS (uU (λ_ (x:bQ)=>if 10<x.aV.length\/20<x.aS.length then some false else none) c.aB 0)):=by
  refine jX c.aB _ (λk h=>?_) (λk h=>?_);simp only[zA0,yF h,cQ,zM h,zA,zF,zC (k:=k) (by omega)];by_cases G:10<(c.aB[k]).aV.length;have z:(10:Int)<(c.aB[k]).aV.length:=by omega
  simp[G,z,wJ,zA,stp];have z:¬(10:Int)<(c.aB[k]).aV.length:=by omega
  by_cases H:20<(c.aB[k]).aS.length;have D:(20:Int)<(c.aB[k]).aS.length:=by omega
  simp[G,z,H,D,j7,zA,stp];have D:¬(20:Int)<(c.aB[k]).aS.length:=by omega
  simp[G,z,H,D,j7,zA,stp];simp only[zA0,yY h,cP]
 simp only[O,cP,K,cY];rw[T,zA,jJ];cases uU (λ_ (x:bQ)=>if 10<x.aV.length\/20<x.aS.length then some false else none) c.aB 0<;>rfl
theorem yIW {c:Collation} (h:smB c=true):Sm c:=by
 unfold smB at h;split at h;cases h;rename_i Y;cases D:uU (λ_ (x:bQ)=>if 10<x.aV.length\/20<x.aS.length then some false else none) c.aB 0 with
 | some y=>
  exfalso;rw[D] at h;have K:y=true:=h;subst K;have:=zG6 (P:=λy=>y=false) (λk x y G=>by
   split at G;cases G;rfl;cases G) D
  cases this
 | none=>
  have T:=zLJ D;have H:∀x∈c.aB,¬(10<x.aV.length\/20<x.aS.length):=by
   intro x z;obtain⟨j,O,rfl⟩:=fB z;have this:(if 10<(c.aB[j]).aV.length\/20<(c.aB[j]).aS.length then some false else none)=none:=T j O;split at this;cases this;assumption
  exact⟨by omega,by omega,λx z=>by have:=H x z;omega,λx z=>by have:=H x z;omega⟩
def pK (c:Collation) (k:Nat) (x:bQ):Option Int:=
 if enE x c.bG≠0 then some (enE x c.bG) else if 0<k/\0<=zQ6 (c.aB.getD (k-1) default).aV x.aV then some 4 else none
def wOk (w:Int):Bool:=decide (1<=w)&&decide (w<=65535)
def ckE (c:Collation):Int:=
 if c.bG<1\/65502<c.bG\/wOk c.aX=false\/wOk c.bD=false then 1
 else if grpE c≠0 then grpE c
 else match uU (pK c) c.aB 0 with
  | some y=>y
  | none=>0
section
variable {c:Collation} (hs:Sm c) (hn:∀g∈c.aE,g.bT.length<=MX)
include hs
theorem kL0:zB (λ(v:Int)=>vA c v) 0=some (toS (uU (pK c) c.aB 0)):=by
 refine jX c.aB _ (λk h=>?_) (λk h=>?_);have G:=eE h;have T:=hs.en;simp only[vA,yF h,cQ,zM h,zA,zF,z9R (d7 (hs.co _ G) (by omega)) (d7 (hs.el _ G) (by omega)),zC (k:=k) (by omega),pK];by_cases D:enE c.aB[k] c.bG=0;simp only[D,dD,dG,cP,ne_eq,not_true,cY];cases k with
 | zero=>simp[wJ,zA,stp]
 | succ k=>
  have z:k<c.aB.length:=by omega
  have H:wi (((k+1:Nat):Int)-1)=(k:Int):=zCA (by omega);have K:decide ((0:Int)<((k+1:Nat):Int))=true:=by simp
  have O:c.aB.getD (k+1-1) default=c.aB[k]:=by simp[z]
  rw[K,j7,H,zM z,zA,j7,zNO (d7 (hs.co _ (eE z)) (by omega)),zA,O];by_cases Y:0<=zQ6 (c.aB[k]).aV (c.aB[k+1]).aV<;>simp[Y,stp]
 simp[D,stp];simp only[vA,yY h,cP]
theorem z6A {k:Nat} (h:k<c.aB.length):zLA c (k:Int)=some (match pK c k c.aB[k] with | some y=>y | none=>0):=by
 have H:=eE h;have aa:=hs.en;have hc:=d7 (hs.co _ H) (by omega:16<=2000);have G:=d7 (hs.el _ H) (by omega:20<=2000);unfold zLA;simp only[zM h,zA,zF,szc,yLS,yLT];unfold pK enE;by_cases K:(c.aB[k]).aV.length<1\/8<(c.aB[k]).aV.length\/16<(c.aB[k]).aS.length
 ·simp only[K,dD,cQ,dH]
  rfl
 ·simp only[K,dI,cP,cY]
  rw[eL0 hc,zA,jJ];cases Z:uU pV (c.aB[k]).aV 0 with
  | some y=>
   have z:y≠0:=zG6 (P:=λy=>y≠0) (λk x y z=>by
      unfold pV at z;split at z
      ·first | (cases z;done) | (cases z;decide) | (cases z;assumption)
      ·first | (cases z;done) | (cases z;decide) | (cases z;assumption)) Z
   simp[z]
  | none=>
   simp only[];rw[yNT G,zA,jJ];cases h2:uU pE (c.aB[k]).aS 0 with
   | some y=>
    have z:y≠0:=zG6 (P:=λy=>y≠0) (λk x y z=>by
      unfold pE at z;split at z
      ·first | (cases z;done) | (cases z;decide) | (cases z;assumption)
      ·first | (cases z;done) | (cases z;decide) | (cases z;assumption)) h2
    simp[z]
   | none=>
    simp only[];rw[eL2 G,zA,jJ];cases h3:uU (pP c.bG) (c.aB[k]).aS 0 with
    | some y=>
     have z:y≠0:=zG6 (P:=λy=>y≠0) (λk x y z=>by
      unfold pP at z;split at z
      ·first | (cases z;done) | (cases z;decide) | (cases z;assumption)
      ·first | (cases z;done) | (cases z;decide) | (cases z;assumption)) h3
     simp[z]
    | none=>
     simp only[ne_eq,not_true,cY];cases k with
     | zero=>simp[wJ,zA]
     | succ k=>
      have D:k<c.aB.length:=by omega
      have O:wi (((k+1:Nat):Int)-1)=(k:Int):=zCA (by omega);have T:decide ((0:Int)<((k+1:Nat):Int))=true:=by simp
      have Y:c.aB.getD (k+1-1) default=c.aB[k]:=by simp[D]
      rw[T,j7,O,zM D,zA,j7,zMS (d7 (hs.co _ (eE D)) (by omega)),zA,Y];by_cases hq:0<=zQ6 (c.aB[k]).aV (c.aB[k+1]).aV<;>simp[hq]
theorem yNV:zB (λ(v:Int)=>zEE c v) 0=some (toS (uU (pK c) c.aB 0)):=by
 refine jX c.aB _ (λk h=>?_) (λk h=>?_);have G:=hs.en;simp only[zEE,yF h,cQ,z6A hs h,zA,zC (k:=k) (by omega)];have D:∀y,pK c k c.aB[k]=some y->y≠0:=by
  intro y z;unfold pK at z;split at z;cases z;assumption;split at z;cases z;decide;cases z
 cases H:pK c k c.aB[k] with
 | some y=>simp[D y H,stp]
 | none=>simp[stp]
 simp only[zEE,yY h,cP]
omit hs in
theorem isW (w:Int):uZ w=some (wOk w):=rfl
omit hs in
theorem yNW (w:Int):zJK w=some (wOk w):=rfl
include hn in
theorem z9U:zAA c=some (ckE c):=by unfold zAA ckE;simp only[zF,isW];by_cases h:c.bG<1;simp[h,wJ,zA];by_cases k:65502<c.bG;simp[h,k,wJ,zA];by_cases z:wOk c.aX=false;simp[h,k,z,j7,wJ,zA];by_cases D:wOk c.bD=false;simp[h,k,z,D,j7,zA];simp only[Bool.not_eq_false] at z D;simp only[h,k,z,D,dI,hJ,dO,j7,zA,dG,cP,or_self,Bool.true_eq_false,cY];rw[z58 (d7 hs.gr (by omega)) hn,zA];by_cases G:grpE c=0;simp only[G,dD,dG,cP,ne_eq,not_true,cY];rw[kL0 hs,zA,jJ];cases uU (pK c) c.aB 0<;>rfl;simp[G]
include hn in
theorem zZU:zLB c=some (ckE c):=by unfold zLB ckE;simp only[zF,yNW];by_cases h:c.bG<1;simp[h,wJ,zA];by_cases k:65502<c.bG;simp[h,k,wJ,zA];by_cases z:wOk c.aX=false;simp[h,k,z,j7,wJ,zA];by_cases D:wOk c.bD=false;simp[h,k,z,D,j7,zA];simp only[Bool.not_eq_false] at z D;simp only[h,k,z,D,dI,hJ,dO,j7,zA,dG,cP,or_self,Bool.true_eq_false,cY];rw[zW2 (d7 hs.gr (by omega)) hn,zA];by_cases G:grpE c=0;simp only[G,dD,dG,cP,ne_eq,not_true,cY];rw[yNV hs,zA,jJ];cases uU (pK c) c.aB 0<;>rfl;simp[G]
end
theorem yEJ {c:Collation} (h:zK1 c):∀g∈c.aE,g.bT.length<=MX:=λg k=>(h.2.1.2 g k).1
open Go.AV
def lx:List Int->List Int->Prop
 | [],[]=>False
 | [],_::_=>True
 | _::_,[]=>False
 | x::a,y::b=>x<y\/(x=y/\lx a b)
theorem zZV:∀{a b c:List Int},lx a b->lx b c->lx a c
 | [],[],_,h,_=>h.elim
 | [],_::_,[],_,h=>h.elim
 | [],_::_,_::_,_,_=>trivial
 | _::_,[],_,h,_=>h.elim
 | _::_,_::_,[],_,h=>h.elim
 | x::a,y::b,z::c,D,k=>by
  rcases D with D | ⟨rfl,D⟩;rcases k with k | ⟨rfl,_⟩;exact .inl (by omega);exact .inl D;rcases k with k | ⟨rfl,k⟩;exact .inl k;exact .inr ⟨rfl,zZV D k⟩
theorem zVJ:∀{a:List Int},¬lx a a
 | [],h=>h
 | x::a,h=>by
  rcases h with h | ⟨_,h⟩;omega;exact zVJ h
def pC (_:Nat) (p:Int×Int):Option Int:=if p.1=p.2 then none else some (if p.1<p.2 then (-1:Int) else 1)
def zS3 (a b:List Int) (k:Nat):Int:=match uU pC (a.zip b) k with
 | some y=>y
 | none=>if a.length<b.length then -1 else if b.length<a.length then 1 else 0
theorem zL1:∀(a b:List Int) (k:Nat),(zS3 a b k<0↔lx a b)/\(zS3 a b k=0↔a=b)
 | [],[],k=>by simp[zS3,uU,lx]
 | [],y::b,k=>by simp[zS3,uU,lx]
 | x::a,[],k=>by simp[zS3,uU,lx]
 | x::a,y::b,k=>by
  have H:=zL1 a b (k+1);by_cases h:x=y
  ·subst h
   have z:zS3 (x::a) (x::b) k=zS3 a b (k+1):=by
    simp only[zS3,List.zip_cons_cons,uU,pC,dH,dP];cases uU pC (a.zip b) (k+1) with
    | some y=>rfl
    | none=>
     simp only[];by_cases D:a.length<b.length
     ·simp[D]
     ·by_cases K:b.length<a.length<;>simp[D,K]
   rw[z];refine⟨H.1.trans ?_,H.2.trans ?_⟩
   ·simp[lx]
   ·simp
  ·have z:zS3 (x::a) (y::b) k=if x<y then -1 else 1:=by
    simp only[zS3,List.zip_cons_cons,uU,pC,h,cY]
   rw[z];by_cases G:x<y
   ·simp[G,lx,h]
   ·simp[G,lx,h]
theorem z1V (a b:List Int):zQ6 a b=zS3 a b 0:=rfl
def zPW (a:List Int):bU:={x0:=a.length,x1:=cpA a 0 0,x2:=cpA a 1 0,x3:=cpA a 2 0,x4:=cpA a 3 0,x5:=cpA a 4 0,x6:=cpA a 5 0,x7:=cpA a 6 0,x8:=cpA a 7 0}
theorem zZW (a:List Int):zBS a=some (zPW a):=rfl
theorem z9V {a b:List Int} (ha:a.length<=8) (h:zPW a=zPW b):a=b:=by
 unfold zPW at h;simp only[bU.mk.injEq] at h;obtain⟨D,G,H,K,O,T,Y,Z,h8⟩:=h;have D:a.length=b.length:=by omega
 apply hO D;intro i hi k;have key:∀j,j<a.length->cpA a j 0=cpA b j 0->a.getD j 0=b.getD j 0:=λj _ h=>by simpa[cpA,fG] using h
 have:a.getD i 0=b.getD i 0:=by
  have z:i<8:=by omega
  match i,z with
  | 0,_=>exact key 0 hi G
  | 1,_=>exact key 1 hi H
  | 2,_=>exact key 2 hi K
  | 3,_=>exact key 3 hi O
  | 4,_=>exact key 4 hi T
  | 5,_=>exact key 5 hi Y
  | 6,_=>exact key 6 hi Z
  | 7,_=>exact key 7 hi h8
 simpa[fG,hi,k] using this
def yL (c:Collation):Collation:=if ckE c=0 then c else {aB:=[],aE:=[],bG:=64448,aX:=32,bD:=2}
def z6B (es:List bQ) (m:List (bU×List aK)):List (bU×List aK):=es.foldl (λm x=>xY m (zPW x.aV) x.aS) m
def zOY (es:List bQ) (n:Int):Int:=es.foldl (λn x=>max n (x.aV.length:Int)) n
def zPX (c:Collation):bB:={c:=yL c,entries:=z6B (yL c).aB [],bS:=zOY (yL c).aB 0,bP:=[],top:=0}
theorem zVK (y:(List bQ)×(List b5)×Int×Int×Int) (H:y.1.length<=2000):∀(n k:Nat) (m:List (bU×List aK)) (q:Int),y.1.length-k=n->
  zB (λ(x:Int×(List (bU×(List aK)))×Int)=>xT y x.1 x.2.1 x.2.2) ((k:Int),m,q)=some (z6B (y.1.drop k) m,zOY (y.1.drop k) q):=by
 intro n
 induction n with
 | zero=>
  intro k m q D;have z:y.1.length<=k:=by omega
  rw[jN,dE z];simp only[xT,yY z,cP];rfl
 | succ n G=>
  intro k m q D;have h:k<y.1.length:=by omega
  rw[jN,dA h];simp only[xT,yF h,cQ,zM h,zA,zZW,zC (k:=k) (by omega)];exact G (k+1) _ _ (by omega)
theorem yEK {c:Collation} (k:Sm c) (H:∀g∈c.aE,g.bT.length<=MX):zCG c=some (zPX c):=by
 unfold zCG;have G:zAA {aB:=c.aB,aE:=c.aE,bG:=c.bG,aX:=c.aX,bD:=c.bD}=some (ckE c):=z9U k H;rw[G,zA];unfold zPX yL;have D:=k.en;by_cases z:ckE c=0;simp only[z,dD,dG,cP,dH,zA];have:=zVK (c.aB,c.aE,c.bG,c.aX,c.bD) (by show c.aB.length<=2000;omega) c.aB.length 0 [] 0 (by show c.aB.length-0=_;omega)
 have h:zB (λ(x:Int×(List (bU×(List aK)))×Int)=>xT (c.aB,c.aE,c.bG,c.aX,c.bD) x.1 x.2.1 x.2.2) (0,[],0)=some (z6B c.aB [],zOY c.aB 0):=by simpa using this
 rw[h];rfl;simp only[z,dI,dO,cQ,cY,zA];have:=zVK (([]:List bQ),([]:List b5),64448,32,2) (by simp) 0 0 [] 0 (by simp);have h:zB (λ(x:Int×(List (bU×(List aK)))×Int)=>xT (([]:List bQ),([]:List b5),64448,32,2) x.1 x.2.1 x.2.2) (0,[],0)=some (z6B [] [],zOY [] 0):=by simpa using this
 rw[h];rfl
structure Vd (es:List bQ):Prop where
 lo:∀x∈es,1<=x.aV.length
 hi:∀x∈es,x.aV.length<=8
 el:∀x∈es,x.aS.length<=20
 ne:es.Pairwise λx y=>x.aV≠y.aV
theorem zW3 {c:Collation} (hs:Sm c):Vd (yL c).aB:=by
 unfold yL;by_cases z:ckE c=0;simp only[z,dH];have hk:uU (pK c) c.aB 0=none:=by
  unfold ckE at z;split at z;cases z;split at z;rename_i hg;exact absurd z hg;cases hc:uU (pK c) c.aB 0 with
  | none=>rfl
  | some y=>
   rw[hc] at z;have D:y≠0:=zG6 (P:=λy=>y≠0) (λk x y D=>by
    unfold pK at D;split at D;cases D;assumption;split at D;cases D;decide;cases D) hc
   exact absurd z D
 have hn:=zLJ hk;have G:∀j (h:j<c.aB.length),enE c.aB[j] c.bG=0/\(0<j->lx (c.aB.getD (j-1) default).aV (c.aB[j]).aV):=by
  intro j h;have:=hn j h;rw[eD] at this;unfold pK at this;split at this;cases this;rename_i Y;split at this;cases this;rename_i T;refine⟨by simpa using Y,λH=>?_⟩;have h3:¬0<=zQ6 (c.aB.getD (j-1) default).aV (c.aB[j]).aV:=λh=>T ⟨H,h⟩;exact((zL1 _ _ 0).1).1 (by rw[<-z1V];omega)
 have O:∀j (h:j<c.aB.length),1<=(c.aB[j]).aV.length/\(c.aB[j]).aV.length<=8:=by
  intro j h;have:=(G j h).1;unfold enE at this;split at this;cases this;omega
 have Z:∀n i (h:i+n+1<c.aB.length),lx (c.aB[i]).aV (c.aB[i+n+1]).aV:=by
  intro n
  induction n with
  | zero=>
   intro i h;have:=(G (i+1) (by omega)).2 (by omega);have K:c.aB.getD (i+1-1) default=c.aB[i]:=by
    have:i<c.aB.length:=by omega
    simp[this]
   rw[K] at this;exact this
  | succ n ih=>
   intro i h;have Y:=ih i (by omega);have T:=(G (i+(n+1)+1) (by omega)).2 (by omega);have K:c.aB.getD (i+(n+1)+1-1) default=c.aB[i+n+1]:=by
    have:i+n+1<c.aB.length:=by omega
    rw[show i+(n+1)+1-1=i+n+1 by omega];simp[this]
   rw[K] at T;exact zZV Y T
 refine⟨λx hx=>?_,λx hx=>?_,hs.el,?_⟩;obtain⟨j,H,rfl⟩:=fB hx;exact(O j H).1;obtain⟨j,H,rfl⟩:=fB hx;exact(O j H).2;rw[g6];intro i j hi H ag he;have:=Z (j-i-1) i (by omega);have K:i+(j-i-1)+1=j:=by omega
 simp only[K] at this;rw[he] at this;exact zVJ this;simp only[z,cY];exact⟨by simp,by simp,by simp,by simp⟩
theorem wB {G H:Type} [DecidableEq G] (m:List (G×H)) (k z: G) (v: H):mget (xY m k v) z=if z=k then some v else mget m z:=by
 induction m with
 | nil=>simp only[xY,mget]
 | cons p m K=>
  obtain⟨q,u⟩:=p;simp only[xY];by_cases D:k=q;subst D;simp only[dH,mget];by_cases h:z=k<;>simp[h];simp only[D,cY,mget];by_cases h:z=q;subst h;have:¬z=k:=λe=>D e.symm;simp[this];simp only[h,cY];exact K
theorem z3F (codes:List Int) (G:codes.length<=8):∀(es:List bQ) (m:List (bU×List aK)),(∀x∈es,x.aV.length<=8)->es.Pairwise (λx y=>x.aV≠y.aV)->
  mget (z6B es m) (zPW codes)=match es.find? (λx=>decide (x.aV=codes)) with | some x=>some x.aS | none=>mget m (zPW codes)
 | [],m,_,_=>rfl
 | x::es,m,H,z=>by
  rw[fE] at z;have O:=z3F codes G es (xY m (zPW x.aV) x.aS) (λy D=>H y (by simp[D])) z.2;show mget (z6B es (xY m (zPW x.aV) x.aS)) (zPW codes)=_;rw[O,wB];by_cases h:x.aV=codes
  ·have k:es.find? (λx=>decide (x.aV=codes))=none:=by
    rw[List.find?_eq_none];intro y D;have:=z.1 y D;simp only[c8];intro e;exact this (h.trans e.symm)
   simp[k,h]
  ·have K:¬zPW codes=zPW x.aV:=λe=>h (z9V G e).symm
   simp[h,K]
theorem zW4:∀(es:List bQ) (n:Int),n<=zOY es n/\∀x∈es,(x.aV.length:Int)<=zOY es n
 | [],n=>⟨by show n<=n;omega,by simp⟩
 | x::es,n=>by
  have h:=zW4 es (max n (x.aV.length:Int));show n<=zOY es (max n (x.aV.length:Int))/\∀y∈x::es,(y.aV.length:Int)<=zOY es (max n (x.aV.length:Int));refine⟨by omega,λy hy=>?_⟩;rcases dN.1 hy with rfl | hy
  omega;exact h.2 y hy
theorem z9W:∀(es:List bQ) (n:Int),(∀x∈es,x.aV.length<=8)->n<=8->zOY es n<=8
 | [],n,_,h=>h
 | x::es,n,k,h=>z9W es (max n (x.aV.length:Int)) (λy z=>k y (by simp[z])) (by have:=k x (by simp);omega)
def zCD (es:List bQ) (codes:List Int):List aK×Bool:=match es.find? (λx=>decide (x.aV=codes)) with
 | some x=>(x.aS,true)
 | none=>([],false)
theorem yEL {c:Collation} (hs:Sm c) {codes:List Int}:jI (zPX c) codes=some (zCD (yL c).aB codes):=by
 have z:=zW3 hs;unfold jI;simp only[zF,zZW,zA];have k:=zW4 (yL c).aB 0;have aa:=z9W (yL c).aB 0 z.hi (by omega);by_cases G:codes.length=0\/zOY (yL c).aB 0<(codes.length:Int)
 ·have D:(decide ((codes.length:Int)=0) ||decide ((zPX c).bS<(codes.length:Int)))=true:=by
   simp only[fU,c8];rcases G with h | h
   ·left;omega
   ·right;exact h
  rw[D,cQ];have K:(yL c).aB.find? (λx=>decide (x.aV=codes))=none:=by
   rw[List.find?_eq_none];intro x O;simp only[c8];intro e;have T:=z.lo x O;have Y:=k.2 x O;rw[e] at T Y;rcases G with h | h<;>omega
  simp only[zCD,K]
 ·have D:(decide ((codes.length:Int)=0) ||decide ((zPX c).bS<(codes.length:Int)))=false:=by
   simp only[fC,dC];refine⟨by omega,λh=>G (.inr h)⟩
  rw[D,cP];have Z:=z3F codes (by omega) (yL c).aB [] z.hi z.ne;have H:mget (zPX c).entries (zPW codes)=match (yL c).aB.find? (λx=>decide (x.aV=codes)) with | some x=>some x.aS | none=>none:=Z
  simp only[mgetD,zBQ,H,zCD];cases (yL c).aB.find? (λx=>decide (x.aV=codes))<;>rfl
open Go.AV
theorem yIX {k:Type} {l:List k} (h:l.length<=2000):app [] l=some l:=by
 rw[jP (by simp;omega)]
 rfl
theorem zS4 {c:Collation} (k:Sm c) (h:∀g∈c.aE,g.bT.length<=MX):zJM c=some (yL c):=by unfold zJM yL;rw[zZU k h,zA];by_cases z:ckE c=0<;>simp[z]
theorem zS5 {a b:List Int} (h:a.length<=4611686018427387904):zBH a b=some (decide (a=b)):=by unfold zBH;rw[zMS h,zA,z1V];congr 1;rw[gD];simp only[c8];exact(zL1 a b 0).2
theorem zZX (codes:List Int):∀(es:List bQ) (k:Nat),uU (λ_ (x:bQ)=>if x.aV=codes then some (true,x.aS) else none) es k=(es.find? (λx=>decide (x.aV=codes))).map λx=>(true,x.aS)
 | [],_=>rfl
 | x::es,k=>by
  simp only[uU,ib];by_cases h:x.aV=codes;simp[h];simp only[h,cY,dI];exact zZX codes es (k+1)
theorem z1W {es:List bQ} (G:Vd es) (O:es.length<=2000) {d:Collation} (K:d.aB=es) (codes:List Int):zEZ d codes=some (zCD es codes):=by
 have z:zB (λ(v:Int)=>zFB d codes v) 0=some (toS (uU (λ_ (x:bQ)=>if x.aV=codes then some (true,x.aS) else none) es 0)):=by
  subst K;refine jX d.aB _ (λk h=>?_) (λk h=>?_);have H:=eE h;have e8:=G.hi _ H;simp only[zFB,yF h,cQ,zM h,zA,zS5 (d7 e8 (by omega)),zC (k:=k) (by omega)];by_cases D:(d.aB[k]).aV=codes;rw[yIX (d7 (G.el _ H) (by omega))];simp[D,stp,zA];simp[D,stp];simp only[zFB,yY h,cP]
 unfold zEZ zCD;rw[z,zA,jJ,zZX];cases es.find? (λx=>decide (x.aV=codes))<;>rfl
theorem yEM {c:Collation} (k:Sm c):(yL c).aB.length<=2000:=by unfold yL;have:=k.en;by_cases h:ckE c=0;simp only[h,dH];omega;simp[h]
theorem yEN {es:List bQ} (k:Vd es) (codes:List Int):(zCD es codes).1.length<=2000:=by
 unfold zCD;cases h:es.find? (λx=>decide (x.aV=codes)) with
 | none=>simp
 | some x=>exact d7 (k.el x (fK h)) (by omega)
def zQ7 (d:Collation) (h:Int):List aK:=if vld h=true then
 [({aP:=wi (d.bG+wi (h.tdiv 32768)),aH:=d.aX,aL:=d.bD,aD:=false}:aK),({aP:=wi (32768+h.tmod 32768),aH:=0,aL:=0,aD:=false}:aK)] else []
theorem zZY (c:Collation) (h:Int):jV (zPX c) h=some (zQ7 (yL c) h):=by unfold jV zQ7;rw[zOX,zA];cases vld h<;>simp[zKP,zHC,zPX]
theorem zLK {c:Collation} (z:Sm c) (k:∀g∈c.aE,g.bT.length<=MX) (h:Int):zGY c h=some (zQ7 (yL c) h):=by unfold zGY zQ7;rw[zDW,zA,zS4 z k];cases vld h<;>simp[zKP,zHC]
theorem yEO (d:Collation) (h:Int):(zQ7 d h).length<=2000:=by unfold zQ7;cases vld h<;>simp
open Go.AV
def nth {h:Type} [Inhabited h] (l:List h) (k:Nat): h:=l.getD k default
theorem zO {z:Type} [Inhabited z] {l:List z} {k:Nat} (h:k<l.length):zV l (k:Int)=some (nth l k):=by rw[zM h];simp[nth,h]
theorem wK {z:Type} [Inhabited z] {l:List z} {k:Nat} (h:k<l.length):nth l k∈l:=by simp[nth,h]
theorem u9 {z:Type} [Inhabited z] {l:List z} {k:Nat} (h:k<l.length):nth l k=l[k]:=by simp[nth,h]
theorem u6 {D:Type} [Inhabited D] {l:List D} {p: D->Prop}:(∀k,k<l.length->p (nth l k))↔∀x∈l,p x:=by
 constructor;intro h x G;obtain⟨k,z,rfl⟩:=fB G;have:=h k z
 rwa [u9 z] at this
 intro h k z;exact h _ (wK z)
def Ver (m:Option Int) (p:Prop):Prop:= ∃e,m=some e/\(e=0↔p)
theorem zZZ {Y:Type} {body:Int->Option (Stp Int (Unit⊕Y))} (N:Nat) (P:Nat->Prop) (Q:Y->Prop) (s:Nat)
  (hb:∀k,s<=k->k<N->(P k/\body (k:Int)=some (.next ((k+1:Nat):Int)))\/(¬P k/\∃y,Q y/\body (k:Int)=some (.done (.inr y))))
  (Z:∀k,N<=k->body (k:Int)=some (.done (.inl ()))):
  ∀(n k:Nat),N-k=n->s<=k->(zB body (k:Int)=some (.inl ())/\∀j,k<=j->j<N->P j)\/(∃y,Q y/\zB body (k:Int)=some (.inr y)/\¬∀j,k<=j->j<N->P j):=by
 intro n
 induction n with
 | zero=>
  intro k hk _;refine .inl ⟨zD (Z k (by omega)),λj D G=>by omega⟩
 | succ n ih=>
  intro k hk hs;rcases hb k hs (by omega) with ⟨O,h⟩ | ⟨O,y,T,h⟩
  ·rw[zG h]
   rcases ih (k+1) (by omega) (by omega) with ⟨D,G⟩ | ⟨y,T,D,G⟩
   ·refine .inl ⟨D,λj K z=>?_⟩
    by_cases e:j=k
    ·subst e;exact O
    ·exact G j (by omega) z
   ·exact .inr ⟨y,T,D,λH=>G λj K z=>H j (by omega) z⟩
  ·exact .inr ⟨y,T,zD h,λH=>O (H k (dF _) (by omega))⟩
theorem wC {X Y:Type} {P:Prop} {b:Bool} {k:X} {y:Y} {Q:Y->Prop} (hb:b=true↔¬P) (D:Q y):(P/\(cond b (some (Stp.done (Sum.inr y))) (some (.next k)):Option (Stp X (Unit⊕Y)))=some (.next k))\/(¬P/\∃z,Q z/\(cond b (some (Stp.done (Sum.inr y))) (some (.next k)):Option (Stp X (Unit⊕Y)))=some (.done (.inr z))):=by
 cases b with
 | true=>exact .inr ⟨hb.1 rfl,y,D,rfl⟩
 | false=>exact .inl ⟨Classical.byContradiction (λh=>Bool.noConfusion (hb.2 h)),rfl⟩
theorem kD {Y:Type} {body:Int->Option (Stp Int (Unit⊕Y))} (N:Nat) (P:Nat->Prop) (Q:Y->Prop)
  (hb:∀k,k<N->(P k/\body (k:Int)=some (.next ((k+1:Nat):Int)))\/(¬P k/\∃y,Q y/\body (k:Int)=some (.done (.inr y))))
  (H:∀k,N<=k->body (k:Int)=some (.done (.inl ()))):
  (zB body 0=some (.inl ())/\∀j,j<N->P j)\/(∃y,Q y/\zB body 0=some (.inr y)/\¬∀j,j<N->P j):=by
 rcases zZZ N P Q 0 (λk _ h=>hb k h) H N 0 (by omega) (by omega) with ⟨z,D⟩ | ⟨y,O,z,D⟩
 ·exact .inl ⟨z,λj G=>D j (by omega) G⟩
 ·exact .inr ⟨y,O,z,λK=>D λj _ G=>K j G⟩
theorem zL2 {Y:Type} {body:Int->Option (Stp Int (Unit⊕Y))} (N:Nat) (P:Nat->Prop) (Q:Y->Prop)
  (hb:∀k,k+1<N->(P k/\body ((k+1:Nat):Int)=some (.next ((k+2:Nat):Int)))\/(¬P k/\∃y,Q y/\body ((k+1:Nat):Int)=some (.done (.inr y))))
  (G:∀k,N<=k->body (k:Int)=some (.done (.inl ()))):
  (zB body 1=some (.inl ())/\∀j,j+1<N->P j)\/(∃y,Q y/\zB body 1=some (.inr y)/\¬∀j,j+1<N->P j):=by
 have:=zZZ N (λk=>P (k-1)) Q 1 (λk z h=>by
  cases k with
  | zero=>omega
  | succ k=>exact hb k h) G (N-1) 1 (by omega) (by omega)
 rcases this with ⟨z,h⟩ | ⟨y,T,z,h⟩
 ·exact .inl ⟨z,λj K=>h (j+1) (by omega) K⟩
 ·refine .inr ⟨y,T,z,λH=>h λj O D=>?_⟩
  cases j with
  | zero=>omega
  | succ j=>exact H j D
def spOk (s:bJ):Prop:=0<=s.Lo/\s.Hi<=1114111/\s.Lo<=s.Hi/\1<=s.Value/\s.Value<=254
def adOk (a b:bJ):Prop:=a.Hi<b.Lo/\¬(b.Lo=a.Hi+1/\b.Value=a.Value)
def hgOk (s:bJ):Prop:= ¬(s.Lo<=4370/\4352<=s.Hi)/\¬(s.Lo<=4469/\4449<=s.Hi)/\¬(s.Lo<=4546/\4520<=s.Hi)/\¬(s.Lo<=55203/\44032<=s.Hi)
structure CV (l:List bJ):Prop where
 sp:∀k,k<l.length->spOk (nth l k)
 ad:∀k,k+1<l.length->adOk (nth l k) (nth l (k+1))
 hg:∀k,k<l.length->hgOk (nth l k)
theorem yLU (s:bJ):(zB (λ(x:Int)=>xU ({x0:=({Lo:=4352,Hi:=4370}:Range),x1:=({Lo:=4449,Hi:=4469}:Range),x2:=({Lo:=4520,Hi:=4546}:Range),x3:=({Lo:=44032,Hi:=55203}:Range)}:b8) s x) 0=some (.inl ())/\hgOk s)\/(zB (λ(x:Int)=>xU ({x0:=({Lo:=4352,Hi:=4370}:Range),x1:=({Lo:=4449,Hi:=4469}:Range),x2:=({Lo:=4520,Hi:=4546}:Range),x3:=({Lo:=44032,Hi:=55203}:Range)}:b8) s x) 0=some (.inr 11)/\¬hgOk s):=by
 have h:=kD (body:=λ(x:Int)=>xU ({x0:=({Lo:=4352,Hi:=4370}:Range),x1:=({Lo:=4449,Hi:=4469}:Range),x2:=({Lo:=4520,Hi:=4546}:Range),x3:=({Lo:=44032,Hi:=55203}:Range)}:b8) s x) 4
  (λk=> ¬(s.Lo<=(nth [({Lo:=4352,Hi:=4370}:Range),{Lo:=4449,Hi:=4469},{Lo:=4520,Hi:=4546},{Lo:=44032,Hi:=55203}] k).Hi/\(nth [({Lo:=4352,Hi:=4370}:Range),{Lo:=4449,Hi:=4469},{Lo:=4520,Hi:=4546},{Lo:=44032,Hi:=55203}] k).Lo<=s.Hi)) (λy=>y=11) (λk H=>?_) (λk H=>?_)
 ·have e:(∀j,j<4->¬(s.Lo<=(nth [({Lo:=4352,Hi:=4370}:Range),{Lo:=4449,Hi:=4469},{Lo:=4520,Hi:=4546},{Lo:=44032,Hi:=55203}] j).Hi/\(nth [({Lo:=4352,Hi:=4370}:Range),{Lo:=4449,Hi:=4469},{Lo:=4520,Hi:=4546},{Lo:=44032,Hi:=55203}] j).Lo<=s.Hi))↔hgOk s:=by
   unfold hgOk;constructor
   ·intro h;exact⟨h 0 (by omega),h 1 (by omega),h 2 (by omega),h 3 (by omega)⟩
   ·rintro⟨K,z,D,O⟩ j T
    match j,T with
    | 0,_=>exact K
    | 1,_=>exact z
    | 2,_=>exact D
    | 3,_=>exact O
  rw[e] at h;rcases h with h | ⟨y,rfl,h⟩
  ·exact .inl h
  ·exact .inr h
 ·have hi:zV [({Lo:=4352,Hi:=4370}:Range),{Lo:=4449,Hi:=4469},{Lo:=4520,Hi:=4546},{Lo:=44032,Hi:=55203}] (k:Int)=some (nth [({Lo:=4352,Hi:=4370}:Range),{Lo:=4449,Hi:=4469},{Lo:=4520,Hi:=4546},{Lo:=44032,Hi:=55203}] k):=zO (by simpa using H)
  have G:decide ((k:Int)<4)=true:=by simp;omega
  simp only[xU,G,cQ,hi,zA,zF,zC (k:=k) (by omega)];generalize nth [({Lo:=4352,Hi:=4370}:Range),{Lo:=4449,Hi:=4469},{Lo:=4520,Hi:=4546},{Lo:=44032,Hi:=55203}] k=q;by_cases z:s.Lo<=q.Hi<;>by_cases D:q.Lo<=s.Hi<;>simp[z,D]
 ·have G:decide ((k:Int)<4)=false:=by simp;omega
  simp only[xU,G,cP]
theorem zZ0 {l:List bJ} (hl:l.length<=2000) (ad:∀x∈l,b9 x):Ver (zA3 l) (CV l):=by
 have O:=kD (body:=λ(x:Int)=>vV l x) l.length (λk=>spOk (nth l k)) (λy=>y≠0) (λk z=>by
  simp only[vV,yF z,cQ,zO z,zA,zF,zC (k:=k) (by omega),spOk];generalize nth l k=q;by_cases G:q.Lo<0<;>by_cases H:1114111<q.Hi<;>by_cases h3:q.Hi<q.Lo<;>by_cases h4:q.Value<1<;>by_cases h5:254<q.Value<;>simp[G,H,h3,h4,h5]<;>omega) (λk z=>by simp only[vV,yY z,cP])
 unfold zA3 Ver;rcases O with ⟨O,K⟩ | ⟨y,T,O,K⟩
 rw[O];simp only[zA,eQ];have G:=zL2 (body:=λ(x:Int)=>vW l x) l.length (λk=>adOk (nth l k) (nth l (k+1))) (λy=>y≠0) (λk z=>by
  have D:k<l.length:=by omega
  have w:=(K k D).2.1;have w0:=(K k D).1;have w1:=(K k D).2.2.1;simp only[vW,yF z,cQ,zO z,zA,zF,zC (k:=k+1) (by omega),zCA (k:=k) (by omega),zO D,adOk];rw[xN (n:=(nth l k).Hi+1) (by omega) (by omega)];generalize nth l k=q at*;generalize nth l (k+1)=q' at*;exact wC (by simp only[fU,dM,c8];omega) (by decide)) (λk z=>by simp only[vW,yY z,cP])
 rcases G with ⟨G,Y⟩ | ⟨y,T,G,Y⟩;rw[G];simp only[zA,eQ];have H:=kD (body:=λ(x:Int)=>vX l x) l.length (λk=>hgOk (nth l k)) (λy=>y≠0) (λk z=>by
  simp only[vX,yF z,cQ,zO z,zA,zF,zC (k:=k) (by omega)];rcases yLU (nth l k) with ⟨h,p⟩ | ⟨h,p⟩
  rw[h];exact .inl ⟨p,rfl⟩;rw[h];exact .inr ⟨p,11,by decide,rfl⟩) (λk z=>by simp only[vX,yY z,cP])
 rcases H with ⟨H,Z⟩ | ⟨y,T,H,Z⟩;rw[H];exact⟨0,rfl,by simp only[true_iff];exact⟨K,Y,Z⟩⟩
 rw[H];exact⟨y,rfl,by simp only[T,eV];exact λh=>Z h.hg⟩
 rw[G];exact⟨y,rfl,by simp only[T,eV];exact λh=>Y h.ad⟩
 rw[O];exact⟨y,rfl,by simp only[T,eV];exact λh=>K h.sp⟩
open Go.AV
theorem z9Y:∀(x y:Str),Op.bytesLess x y=decide (x<y)
 | [],[]=>by simp[Op.bytesLess]
 | _::_,[]=>by simp[Op.bytesLess]
 | [],_::_=>by simp[Op.bytesLess]
 | a::x,b::y=>by
  rw[Op.bytesLess,z9Y x y];rw[gD];simp[List.cons_lt_cons_iff]
theorem z1X (s:Str) (z:s.length<=MX):zB (λ(x:Int)=>vY s x) 0=some (toS (uU (λ_ (b:UInt8)=>if zE4 (b.toNat:Int) then none else some false) s 0)):=by
 refine jX s _ (λk h=>?_) (λk h=>?_);simp only[vY,yF h,cQ,zZT h,zA,zF,zC (k:=k) (by unfold MX at z;omega)]
 have e:(((!(decide ((65:Int)<=(s[k].toNat:Int))&&decide ((s[k].toNat:Int)<=90) ||decide ((97:Int)<=(s[k].toNat:Int))&&decide ((s[k].toNat:Int)<=122)))&& !(decide ((48:Int)<=(s[k].toNat:Int))&&decide ((s[k].toNat:Int)<=57)))&& !decide ((s[k].toNat:Int)=95))= !zE4 (s[k].toNat:Int):=by
  unfold zE4;generalize (decide ((65:Int)<=(s[k].toNat:Int))&&decide ((s[k].toNat:Int)<=90) ||decide ((97:Int)<=(s[k].toNat:Int))&&decide ((s[k].toNat:Int)<=122))=A;generalize (decide ((48:Int)<=(s[k].toNat:Int))&&decide ((s[k].toNat:Int)<=57))=B;generalize decide ((s[k].toNat:Int)=95)=C;cases A<;>cases B<;>cases C<;>rfl
 rw[e];cases zE4 (s[k].toNat:Int)<;>rfl;simp only[vY,yY h,cP]
theorem z9Z {s:Str} (H:s.length<=MX):zCH s=some (zLI s):=by
 unfold zCH;rw[zF];cases s with
 | nil=>rfl
 | cons x l=>
  have D:((x::l:Str)== [])=false:=rfl;rw[D,fa];by_cases z:32<(x::l).length
  ·
   have:decide ((32:Int)<((x::l).length:Int))=true:=by simp at z ⊢;omega
   rw[this,cQ];unfold zLI;cases G:uU (λ_ (b:UInt8)=>if zE4 (b.toNat:Int) then none else some false) (x::l) 0 with
   | none=>
    have:decide ((x::l).length<=32)=false:=by simp at z ⊢;omega
    simp only[this,fP]
   | some y=>
    have:y=false:=zG6 (P:=λy=>y=false) (λk b y h=>by split at h<;>simp_all) G
    simp[this]
  ·
   have:decide ((32:Int)<((x::l).length:Int))=false:=by simp at z ⊢;omega
   rw[this,cP,z1X _ H,zA,jJ];unfold zLI;cases uU (λ_ (b:UInt8)=>if zE4 (b.toNat:Int) then none else some false) (x::l) 0 with
   | none=>simp at z ⊢;omega
   | some y=>rfl
def codesOk (m:aC):Prop:=vld m.aT=true/\∀c∈m.To,vld c=true
def tagOk (m:aC):Prop:=m.bO= []\/zLI m.bO=true
def mlt (a b:aC):Prop:=a.aT<b.aT\/(a.aT=b.aT/\a.bO<b.bO)
structure MV (l:List aC):Prop where
 co:∀m∈l,codesOk m
 sz:∀m∈l,m.To.length<=64
 tg:∀m∈l,tagOk m
 lt:∀k,k+1<l.length->mlt (nth l k) (nth l (k+1))
theorem z90 {body:Int->Option (Stp Int (Unit⊕Int))} {P:Prop} (h:(zB body 0=some (.inl ())/\P)\/(∃y,y≠0/\zB body 0=some (.inr y)/\¬P)) {f:Unit->Option Int} {R:Prop} (z:P->Ver (f ()) R) (k:R->P):
  Ver ((zB body 0).bind λy=>y.elim f λy=>some y) R:=by
 rcases h with ⟨h,p⟩ | ⟨y,D,h,p⟩
 ·rw[h];exact z p
 ·rw[h];exact⟨y,rfl,by simp only[D,eV];exact λr=>p (k r)⟩
section
variable {l:List aC} (hl:l.length<=2000) (hto:∀m∈l,m.To.length<=2000) (htg:∀m∈l,m.bO.length<=MX)
include hl hto htg
theorem z91:Ver (zC6 l) ((∀m∈l,codesOk m)/\(∀m∈l,m.To.length<=64)/\∀m∈l,tagOk m):=by
 unfold zC6;refine z90 (P:= ∀m∈l,codesOk m) ?_ (λT=>?_) (λr=>r.1)
 ·have h:=kD (body:=λ(x:Int)=>uN l x) l.length (λk=>codesOk (nth l k)) (λy=>y≠0) (λk z=>?_) (λk z=>by simp only[uN,yY z,cP])
  ·rw[u6 (p:=codesOk)] at h;exact h
  ·simp only[uN,yF z,cQ,zO z,zA,zOX,zC (k:=k) (by omega)]
   by_cases G:vld (nth l k).aT=true
   ·have D:=kD (body:=λ(x:Int)=>uM (nth l k) x) (nth l k).To.length (λj=>vld (nth (nth l k).To j)=true) (λy=>y≠0) (λj H=>by
     simp only[uM,yF H,cQ,zO H,zA,zOX,zC (k:=j) (by have:=hto _ (wK z);omega)]
     exact wC (by simp) (by decide)) (λj H=>by simp only[uM,yY H,cP])
    rw[u6 (p:=λc=>vld c=true)] at D;simp only[G,dG,cP];rcases D with ⟨D,p⟩ | ⟨y,O,D,p⟩
    ·rw[D];exact .inl ⟨⟨G,p⟩,rfl⟩
    ·rw[D];exact .inr ⟨λq=>p q.2,y,O,rfl⟩
   ·simp only[gP] at G
    simp only[G,dO,cQ];exact .inr ⟨λq=>(by rw[q.1] at G;cases G),1,by decide,rfl⟩
 ·refine z90 (P:= ∀m∈l,m.To.length<=64) ?_ (λY=>?_) (λr=>r.2.1)
  ·have h:=kD (body:=λ(x:Int)=>uO l x) l.length (λk=>(nth l k).To.length<=64) (λy=>y≠0) (λk z=>by
    simp only[uO,yF z,cQ,zO z,zA,zC (k:=k) (by omega)];exact wC (by simp only[c8];omega) (by decide)) (λk z=>by simp only[uO,yY z,cP])
   rw[u6 (p:=λ(m:aC)=>m.To.length<=64)] at h;exact h
  ·refine z90 (P:= ∀m∈l,tagOk m) ?_ (λZ=>⟨0,rfl,by simp only[true_iff];exact⟨T,Y,Z⟩⟩) (λr=>r.2.2)
   have h:=kD (body:=λ(x:Int)=>uP l x) l.length (λk=>tagOk (nth l k)) (λy=>y≠0) (λk z=>by
    simp only[uP,yF z,cQ,zO z,zA,zF,zC (k:=k) (by omega),tagOk];have hb:((nth l k).bO== [])=decide ((nth l k).bO= []):=by cases (nth l k).bO<;>rfl
    rw[hb];by_cases K:(nth l k).bO= []
    ·simp only[K,dD,dG,wJ,zA,dV,cP]
     exact .inl ⟨.inl trivial,trivial⟩
    ·simp only[K,dI,dO,j7,z9Z (htg _ (wK z)),zA,dT,false_or]
     exact wC (by simp) (by decide)) (λk z=>by simp only[uP,yY z,cP])
   rw[u6 (p:=tagOk)] at h;exact h
omit hl hto htg in
theorem yGU (a b:Int):zEX [a,b]=some (if a=0 then b else a):=by have k:decide ((0:Int)<(([a,b]:List Int).length:Int))=true:=rfl;have z:decide ((1:Int)<(([a,b]:List Int).length:Int))=true:=rfl;have D:decide ((2:Int)<(([a,b]:List Int).length:Int))=false:=rfl;unfold zEX;rw[jN];simp only[zBZ,k,cQ,z9P,zA];by_cases h:a=0;subst h;simp only[dD,dG,cP,dH];have w1:wi (0+1)=1:=xN (by omega) (by omega);rw[w1,jN];simp only[zBZ,z,cQ];have:zV ([0,b]:List Int) 1=some b:=rfl;rw[this];simp only[zA];by_cases hb:b=0;subst hb;simp only[dD,dG,cP];have w2:wi (1+1)=2:=xN (by omega) (by omega);rw[w2,jN];simp only[zBZ,D,cP];rfl;simp[hb];simp[h]
omit hl hto htg in
theorem yNX (x y:Str):u0 x y=some (if x<y then -1 else if y<x then 1 else 0):=by
 unfold u0 zA4;simp only[zA,beq_self_eq_true,dG,cP,z9Y];by_cases h:x<y
 ·simp[h]
 ·by_cases z:x=y
  ·subst z;simp[h]
  ·have k:y<x:=by
    by_cases k:y<x
    ·exact k
    ·exact absurd (List.le_antisymm (List.not_lt.1 k) (List.not_lt.1 h)) z
   have hb:(x==y)=false:=by simpa using z
   simp[h,k,hb]
omit hl hto htg in
theorem yNY (a b:aC):∃e,zBT a b=some e/\(0<=e↔¬mlt a b):=by
 unfold zBT;simp only[z59,yNX,zA,yGU];refine⟨_,rfl,?_⟩;unfold mlt;by_cases h:a.aT<b.aT;simp[h];by_cases z:b.aT<a.aT;have:¬a.aT=b.aT:=by omega
 simp[h,z,this];have:a.aT=b.aT:=by omega
 by_cases k:a.bO<b.bO;simp[this,k];by_cases D:b.bO<a.bO<;>simp[this,k,D]
omit hto htg in
theorem yEP:∀(n k:Nat) (b:Bool),l.length-k=n->1<=k->∃r,zB (λ(x:Bool×Int)=>vB l x.1 x.2) (b,(k:Int))=some r/\(r=true↔b=true/\∀j,k<=j+1->j+1<l.length->mlt (nth l j) (nth l (j+1))):=by
 intro n
 induction n with
 | zero=>
  intro k b Z T;refine⟨b,?_,?_⟩;rw[jN];simp only[vB,yY (show l.length<=k by omega),cP];exact⟨λh=>⟨h,λj H D=>by omega⟩,λh=>h.1⟩
 | succ n ih=>
  intro k b Z T;obtain⟨k,rfl⟩:∃k',k=k'+1:=⟨k-1,by omega⟩;have z:k+1<l.length:=by omega
  obtain⟨e,Y,K⟩:=yNY (nth l k) (nth l (k+1));obtain⟨r,hr,hq⟩:=ih (k+2) (cond (decide (0<=e)) false b) (by omega) (by omega);refine⟨r,?_,?_⟩;rw[jN];simp only[vB,yF z,cQ,zCA (k:=k) (by omega),zO (show k<l.length by omega),zO z,zA,Y,zC (k:=k+1) (by omega)];rw[<-hr];cases decide (0<=e)<;>rfl;rw[hq];by_cases G:mlt (nth l k) (nth l (k+1));have:decide (0<=e)=false:=by simp only[dC];exact λh=>K.1 h G
  rw[this,cP];constructor
  rintro⟨a,c⟩
  refine⟨a,λj H D=>?_⟩;by_cases O:j=k;subst O;exact G;exact c j (by omega) D
  rintro⟨a,c⟩;exact⟨a,λj H D=>c j (by omega) D⟩
  have:decide (0<=e)=true:=by simp only[c8];exact K.2 G
  rw[this,cQ];constructor
  rintro⟨a,_⟩;cases a
  rintro⟨_,c⟩;exact absurd (c k (by omega) z) G
omit hto htg in
theorem yIY:∀(n k:Nat) (m:List (bM×Bool)),l.length-k=n->∃r,zB (λ(x:Int×(List (bM×Bool)))=>vC l x.1 x.2) ((k:Int),m)=some r/\(r= .inl ()\/r= .inr 5):=by
 intro n
 induction n with
 | zero=>
  intro k m z;refine⟨.inl (),?_,.inl rfl⟩;rw[jN];simp only[vC,yY (show l.length<=k by omega),cP]
 | succ n D=>
  intro k m z;have h:k<l.length:=by omega
  rw[jN];simp only[vC,yF h,cQ,zO h,zA,zC7,zC (k:=k) (by omega)];cases mgetD m ({cC:=(nth l k).aT,cL:=(nth l k).bO}:bM) false with
  | true=>exact⟨.inr 5,rfl,.inr rfl⟩
  | false=>exact D (k+1) _ (by omega)
theorem yIZ:Ver (zC8 l) (MV l):=by
 obtain⟨e,Y,O⟩:=z91 hl hto htg;unfold zC8;rw[Y,zA];by_cases G:e=0;subst G;simp only[dD,dG,cP];obtain⟨p0,p1,p2⟩:=O.1 rfl;obtain⟨r,H,T⟩:=yEP hl (l.length-1) 1 true rfl (by omega);have z:zB (λ(x:Bool×Int)=>vB l x.1 x.2) (true,1)=some r:=H;rw[z,zA];cases r with
 | true=>exact⟨0,rfl,by simp only[true_iff];exact⟨p0,p1,p2,λk hk=>(T.1 rfl).2 k (by omega) hk⟩⟩
 | false=>
  have D:¬MV l:=λh=>by have:=T.2 ⟨rfl,λj _ Z=>h.lt j Z⟩;cases this
  obtain⟨r,H,K⟩:=yIY hl l.length 0 [] (by omega);have z:zB (λ(x:Int×(List (bM×Bool)))=>vC l x.1 x.2) (0,[])=some r:=H;simp only[cP];rw[z,zA];rcases K with rfl | rfl;exact⟨4,rfl,by simp only[show ((4:Int)=0)=False by simp,eV];exact D⟩
  exact⟨5,rfl,by simp only[show ((5:Int)=0)=False by simp,eV];exact D⟩
 have:(!decide (e=0))=true:=by simp[G]
 rw[this,cQ];exact⟨e,rfl,by simp only[G,eV];exact λh=>G (O.2 ⟨h.co,h.sz,h.tg⟩)⟩
end
open Go.AV
section
variable {α:Type} (lt: α->α->Bool)
def vT:List α->α->List α->List α
 | [],x,s=>x::s
 | y::r,x,s=>if lt x y then vT r x (y::s) else (y::r).reverse++x::s
def uK (l:List α) (p:List α):List α:=l.foldl (λp x=>vT lt p.reverse x []) p
theorem zZ1:∀(r:List α) (x: α) (s t:List α),vT lt r x (s++t)=vT lt r x s++t
 | [],x,s,t=>rfl
 | y::r,x,s,t=>by
  unfold vT;split;exact zZ1 r x (y::s) t;simp
theorem zPY:∀(r:List α) (x: α) (s:List α),(vT lt r x s).Perm (r.reverse++x::s)
 | [],x,s=> .refl _
 | y::r,x,s=>by
  unfold vT;split
  ·
   refine(zPY r x (y::s)).trans ?_;simp only[List.reverse_cons,dB,im];exact List.Perm.append_left _ (List.Perm.swap y x s)
  · exact .refl _
theorem zS6 (r:List α) (x: α) (s:List α):(vT lt r x s).length=r.length+1+s.length:=by rw[(zPY lt r x s).length_eq];simp;omega
theorem zJX:∀(l p:List α),(uK lt l p).Perm (p++l)
 | [],p=>by simp[uK]
 | x::l,p=>by
  have h:=zJX l (vT lt p.reverse x []);refine h.trans ?_;have k:=zPY lt p.reverse x [];rw[fN] at k;have z:=List.Perm.append_right l k;simpa using z
variable (tr:∀a b c,lt b a=false->lt c b=false->lt c a=false) (asy:∀a b,lt a b=true->lt b a=false)
abbrev LeB (a b: α):Prop:=lt b a=false
include tr asy
theorem zQP:∀(r:List α) (x: α) (s:List α),(r.reverse++s).Pairwise (LeB lt)->(∀y∈s,LeB lt x y)->(vT lt r x s).Pairwise (LeB lt)
 | [],x,s,h,H=>by simpa[vT] using ⟨H,h⟩
 | y::r,x,s,h,H=>by
  unfold vT;split;rename_i D;refine zQP r x (y::s) (by simpa using h) ?_;intro z hz;rcases dN.1 hz with rfl | hz
  exact asy _ _ D;exact H z hz;rename_i D;have G:LeB lt y x:=by simpa using D
  rw[iw] at h ⊢;refine⟨h.1,fE.2 ⟨H,h.2.1⟩,?_⟩;intro a ha b hb;have k:LeB lt a y\/a=y:=by
   have K:=h.1;rw[List.reverse_cons,iw] at K;rw[List.reverse_cons,eN] at ha;rcases ha with ha | ha
   exact .inl (K.2.2 a ha y (by simp));exact .inr (by simpa using ha)
  rcases dN.1 hb with rfl | hb;rcases k with k | rfl;exact tr _ _ _ k G;exact G;exact h.2.2 a ha b hb
theorem zJY:∀(l p:List α),p.Pairwise (LeB lt)->(uK lt l p).Pairwise (LeB lt)
 | [],p,h=>h
 | x::l,p,h=>zJY l _ (zQP lt tr asy p.reverse x [] (by simpa using h) (by simp))
omit tr asy in
theorem zZ2:∀(l p:List α),(p++l).Pairwise (LeB lt)->uK lt l p=p++l
 | [],p,_=>by simp[uK]
 | x::l,p,h=>by
  have e:vT lt p.reverse x []=p++ [x]:=by
   cases z:p.reverse with
   | nil=>
    have:p= []:=by simpa using z
    subst this;rfl
   | cons y r=>
    unfold vT;have k:p=r.reverse++ [y]:=by have:=congrArg List.reverse z;simpa using this
    have:lt x y=false:=by
     rw[k,iw] at h;exact h.2.2 y (by simp) x (by simp)
    rw[this];simp[k]
  show uK lt l (vT lt p.reverse x [])=_;rw[e,zZ2 l (p++ [x]) (by simpa using h)];simp
end
def rlt (a b:Range):Bool:=decide (a.Lo<b.Lo) ||(decide (a.Lo=b.Lo)&&decide (a.Hi<b.Hi))
theorem yNZ (a b:Range):∃e,zAH a b=some e/\(e<0↔rlt a b=true):=by
 unfold zAH;simp only[z59,zA,yGU];refine⟨_,rfl,?_⟩;unfold rlt;by_cases h:a.Lo<b.Lo;simp[h];by_cases z:b.Lo<a.Lo;have:¬a.Lo=b.Lo:=by omega
 simp[h,z,this];have:a.Lo=b.Lo:=by omega
 by_cases k:a.Hi<b.Hi;simp[this,k];by_cases D:b.Hi<a.Hi<;>simp[this,k,D]
theorem wL {z:Type} {p s:List z} {x: z} {k:Nat} (h:k=p.length):zV (p++x::s) (k:Int)=some x:=by subst h;rw[zM (by simp)];simp
theorem uI {z:Type} {p s:List z} {x y: z} {k:Nat} (h:k=p.length):uV (p++x::s) (k:Int) y=some (p++y::s):=by subst h;rw[zFR (by simp)];simp
section
variable {f:Range->Range->Option Int} {lt:Range->Range->Bool} (hf:∀a b,∃e,f a b=some e/\(e<0↔lt a b=true))
include hf
theorem yGV:∀(r:List Range) (x:Range) (s:List Range),r.length<=2000->zB (λ(q:Int×List Range)=>yJ 0 f q.1 q.2) ((r.length:Int),r.reverse++x::s)=some (vT lt r x s)
 | [],x,s,_=>by
  rw[jN];simp only[yJ,d6,zF];have:decide ((0:Int)<((0:Nat):Int))=false:=rfl;rw[this];simp[wJ,vT]
 | y::r,x,s,T=>by
  simp only[dP] at T ⊢;have H:decide ((0:Int)<((r.length+1:Nat):Int))=true:=by simp<;>omega
  have O:(y::r).reverse++x::s=r.reverse++y::(x::s):=by simp
  have Y:wi (((r.length+1:Nat):Int)-1)=(r.length:Int):=zCA (by omega);have i1:zV ((y::r).reverse++x::s) ((r.length+1:Nat):Int)=some x:=wL (by simp);have Z:zV ((y::r).reverse++x::s) (r.length:Int)=some y:=by rw[O];exact wL (by simp)
  obtain⟨e,K,G⟩:=hf x y;rw[jN];simp only[yJ,H,zF,j7,i1,Y,Z,zA,K,dT];unfold vT;by_cases D:lt x y=true;have k:decide (e<0)=true:=by simpa using G.2 D
  have s1:uV ((y::r).reverse++x::s) ((r.length+1:Nat):Int) y=some ((y::r).reverse++y::s):=uI (by simp);have z:(y::r).reverse++y::s=r.reverse++y::(y::s):=by simp
  have i2:zV ((y::r).reverse++y::s) (r.length:Int)=some y:=by rw[z];exact wL (by simp)
  have s2:uV ((y::r).reverse++y::s) (r.length:Int) x=some (r.reverse++x::(y::s)):=by rw[z];exact uI (by simp)
  simp only[k,cQ,s1,zA,i2,s2,D,dH];exact yGV r x (y::s) (by omega);have k:decide (e<0)=false:=by simp only[dC];exact λh=>D (G.1 h)
  simp only[k,cP,D];rfl
theorem z92:∀(l p:List Range),1<=p.length->p.length+l.length<=2000->zB (λ(q:Int×List Range)=>zX ((p.length+l.length:Nat):Int) 0 f q.1 q.2) ((p.length:Int),p++l)=some (uK lt l p)
 | [],p,_,_=>by
  rw[jN];simp only[zX,d6,fH,yY (dF _),cP,ez];rfl
 | x::l,p,K,H=>by
  simp only[dP] at H ⊢;have h:=yGV hf p.reverse x l (by simp;omega)
  rw[gL,fN] at h;rw[jN];simp only[zX,yF (show p.length<p.length+(l.length+1) by omega),cQ];rw[h,zA];have D:vT lt p.reverse x l=vT lt p.reverse x []++l:=by
   have:=zZ1 lt p.reverse x [] l;simpa using this
  have k:(vT lt p.reverse x []).length=p.length+1:=by rw[zS6];simp
  have z:=z92 l (vT lt p.reverse x []) (by omega) (by omega);rw[k] at z;have G:((p.length+1+l.length:Nat):Int)=((p.length+(l.length+1):Nat):Int):=by congr 1;omega
  rw[G] at z;rw[D,zC (by omega)];exact z
theorem yEQ (l:List Range) (h:l.length<=2000):kU l 0 (l.length:Int) f=some (uK lt l []):=by
 unfold kU;have z:wi (0+1)=((1:Nat):Int):=xN (by omega) (by omega);rw[z];cases l with
 | nil=>
  rw[jN];simp only[zX,yY (show ([]:List Range).length<=1 by simp),cP];rfl
 | cons x l=>
  have:=z92 hf l [x] (by simp) (by simp at h ⊢;omega)
  have e:((([x]:List Range).length+l.length:Nat):Int)=((x::l).length:Int):=by simp;omega
  rw[e] at this;have k:(([x]:List Range).length:Int)=((1:Nat):Int):=rfl;rw[k] at this;rw[show ([x]++l:List Range)=x::l from rfl] at this;rw[this];rfl
end
theorem yER:∀n:Fin 13,∃e,zC3 (wu ((n.val:Nat):Int))=some e:=by
 intro n;have:∀n:Fin 13,(zC3 (wu ((n.val:Nat):Int))).isSome=true:=by decide
 exact gG.1 (this n)
theorem yES {l:List Range} (h:l.length<=12):kW l (λa b=>zAH a b)=some (uK rlt l []):=by
 unfold kW xE;obtain⟨e,z⟩:=yER ⟨l.length,by omega⟩;rw[z,zA];have hb:kN (l.length:Int) 0 l (λa b=>zAH a b) e=some (.done (uK rlt l [])):=by
  unfold kN;have D:wi ((l.length:Int)-0)=(l.length:Int):=xN (by omega) (by omega);have k:decide ((l.length:Int)<=12)=true:=by simp;omega
  rw[D,k,cQ,yEQ (lt:=rlt) yNZ l (by omega)];rfl
 rw[zD (body:=λ(_:Unit)=>kN (l.length:Int) 0 l (λa b=>zAH a b) e) hb];rfl
theorem yI0 (a b c:Range) (h:rlt b a=false) (k:rlt c b=false):rlt c a=false:=by unfold rlt at*;simp only[fC,eA,dC] at*;omega
theorem yET (a b:Range) (h:rlt a b=true):rlt b a=false:=by unfold rlt at*;simp only[fC,eA,dC,fU,dM,c8] at*;omega
open Go.AV
def zBN (r:Range):Prop:=0<=r.Lo/\r.Lo<=r.Hi/\r.Hi<=1114111
def Can:List Range->Prop
 | []=>True
 | [r]=>zBN r
 | r::q::l=>zBN r/\r.Hi+1<q.Lo/\Can (q::l)
theorem Can.head {r:Range} {l:List Range} (h:Can (r::l)):zBN r:=by
 cases l with
 | nil=>exact h
 | cons q l=>exact h.1
theorem Can.tail {r:Range} {l:List Range} (h:Can (r::l)):Can l:=by
 cases l with
 | nil=>trivial
 | cons q l=>exact h.2.2
theorem Can.ok:∀{l:List Range},Can l->∀r∈l,zBN r
 | [],_,r,k=>by cases k
 | q::l,h,r,k=>by
  rcases dN.1 k with rfl | k;exact h.head;exact Can.ok h.tail r k
theorem Can.gap:∀{l:List Range} {r:Range},Can (r::l)->∀q∈l,r.Hi+1<q.Lo
 | [],_,_,q,k=>by cases k
 | a::l,r,h,q,k=>by
  rcases dN.1 k with rfl | k;exact h.2.1;have D:=Can.gap h.2.2 q k;have z:=(h.2.2.head);have G:=h.2.1;unfold zBN at z;omega
theorem Can.sorted:∀{l:List Range},Can l->l.Pairwise (LeB rlt)
 | [],_=> .nil
 | r::l,h=>by
  refine fE.2 ⟨λq z=>?_,Can.sorted h.tail⟩;have D:=Can.gap h q z;have k:=h.head;unfold zBN at k;unfold LeB rlt;simp only[fC,eA,dC];omega
def zW5 (r:Range):Range:={Lo:=max r.Lo 0,Hi:=min r.Hi 1114111}
def zDX (l:List Range):List Range:=(l.map zW5).filter λr=>decide (r.Lo<=r.Hi)
theorem zS7 (x:Range) (l:List Range):zDX (x::l)=(if (zW5 x).Lo<=(zW5 x).Hi then [zW5 x] else [])++zDX l:=by unfold zDX;rw[ey,hP];by_cases h:(zW5 x).Lo<=(zW5 x).Hi<;>simp[h]
theorem zZ3 (x:Range) (l:List Range):zDX (x::l)=(if max x.Lo 0<=min x.Hi 1114111 then [({Lo:=max x.Lo 0,Hi:=min x.Hi 1114111}:Range)] else [])++zDX l:=zS7 x l
theorem zZ4 (l:List Range):∀r∈zDX l,zBN r:=by intro r k;unfold zDX at k;rw[fA,eJ] at k;obtain⟨⟨q,_,rfl⟩,h⟩:=k;simp only[c8] at h;unfold zW5 at h ⊢;unfold zBN;simp only at h ⊢;omega
theorem z93 {l:List Range} (h:∀r∈l,zBN r):zDX l=l:=by
 induction l with
 | nil=>rfl
 | cons x l D=>
  have k:=h x (by simp);have:zW5 x=x:=by
   unfold zBN at k;unfold zW5;cases x;simp only[Range.mk.injEq] at k ⊢;omega
  rw[zS7,this,dK k.2.1,D λr z=>h r (by simp[z])];rfl
theorem zVL (l:List Range):(zDX l).length<=l.length:=by unfold zDX;exact d7 (gZ _ _) (by simp)
theorem yN0 {l:List Range} (O:l.length<=2000):∀(n k:Nat) (o:List Range),l.length-k=n->k<=l.length->o.length<=k->zB (λ(x:Int×(List Range))=>zAM l x.1 x.2) ((k:Int),o)=some (o++zDX (l.drop k)):=by
 intro n
 induction n with
 | zero=>
  intro k o G H K;rw[jN];simp only[zAM,yY (show l.length<=k by omega),cP];rw[dE (by omega)];simp[zDX]
 | succ n D=>
  intro k o G H K;have h:k<l.length:=by omega
  rw[jN];simp only[zAM,yF h,cQ,zM h,zA,zC (k:=k) (by omega)];rw[dA h,zZ3];by_cases z:max l[k].Lo 0<=min l[k].Hi 1114111;simp only[z,dD,cQ,dH];rw[jP (by simp;omega)]
  simp only[zA];have:=D (k+1) (o++ [({Lo:=max l[k].Lo 0,Hi:=min l[k].Hi 1114111}:Range)]) (by omega) (by omega) (by simp;omega)
  rw[dB] at this;exact this;simp only[z,dI,cP,cY,zA,dS];exact D (k+1) o (by omega) (by omega) (by omega)
def mrg:List Range->Range->List Range
 | [],r=>[r]
 | q::l,r=>if r.Lo<=q.Hi+1 then {q with Hi:=max q.Hi r.Hi}::l else r::q::l
theorem zIZ (q:Range) (l:List Range) (r:Range):mrg (q::l) r=if r.Lo<=q.Hi+1 then {q with Hi:=max q.Hi r.Hi}::l else r::q::l:=rfl
theorem yEU (o:List Range) (r:Range):(mrg o r).length<=o.length+1:=by
 cases o with
 | nil=>simp[mrg]
 | cons q l=>rw[zIZ];split<;>simp
theorem yI1 {o:List Range} {r:Range} (h:∀q∈o,zBN q) (k:zBN r):∀q∈mrg o r,zBN q:=by
 cases o with
 | nil=>simpa[mrg] using k
 | cons q l=>
  intro x hx;have z:=h q (by simp);unfold zBN at z k;rw[zIZ] at hx;split at hx;rcases dN.1 hx with rfl | hx
  unfold zBN;simp only;omega;exact h x (by simp[hx]);rcases dN.1 hx with rfl | hx
  exact k;exact h x hx
theorem yN1 {t:List Range} (ht:t.length<=2000) (H:∀r∈t,zBN r):∀(n k:Nat) (o:List Range),t.length-k=n->k<=t.length->o.length<=k->(∀r∈o,zBN r)->zB (λ(x:Int×(List Range))=>zAN t x.1 x.2) ((k:Int),o.reverse)=some ((t.drop k).foldl mrg o).reverse:=by
 intro n
 induction n with
 | zero=>
  intro k o h1 h2 O G;rw[jN];simp only[zAN,yY (show t.length<=k by omega),cP];rw[dE (by omega)];rfl
 | succ n ih=>
  intro k o h1 h2 O G;have h:k<t.length:=by omega
  have hr:=H _ (eE h);rw[dA h,ia];rw[<-ih (k+1) (mrg o t[k]) (by omega) (by omega) (by have:=yEU o t[k];omega) (yI1 G hr)]
  rw[jN];simp only[zAN,yF h,cQ,zM h,zA,zF,zC (k:=k) (by omega)];cases o with
  | nil=>
   have D:decide ((0:Int)<((([]:List Range).reverse).length:Int))=false:=rfl;simp only[D,wJ,zA,dV,cP];rw[jP (by simp)];rfl
  | cons q l=>
   have hq:=G q (by simp);unfold zBN at hq;have z:((q::l).reverse).length=l.length+1:=by simp
   simp only[dP] at O;have D:decide ((0:Int)<(((q::l).reverse).length:Int))=true:=by rw[z];simp<;>omega
   have Y:wi ((((q::l).reverse).length:Int)-1)=(l.length:Int):=by rw[z];exact zCA (by omega)
   have K:(q::l).reverse=l.reverse++q:: []:=by simp
   have i1:zV (q::l).reverse (l.length:Int)=some q:=by rw[K];exact wL (by simp)
   have Z:wi (q.Hi+1)=q.Hi+1:=xN (by omega) (by omega);simp only[D,Y,i1,j7,zA,dT,Z];rw[zIZ];by_cases T:t[k].Lo<=q.Hi+1;simp only[T,dD,cQ,dH];have s1:uV (q::l).reverse (l.length:Int) ({q with Hi:=max q.Hi t[k].Hi})=some (({q with Hi:=max q.Hi t[k].Hi}::l).reverse):=by
    rw[K,uI (by simp)];simp
   rw[s1];rfl;simp only[T,dI,cP,cY];rw[jP (by simp;omega)]
   simp only[zA];congr 2;simp
def mkE (l:List Range):List Range:=((uK rlt (zDX l) []).foldl mrg []).reverse
theorem yEV {l:List Range} (H:l.length<=12):zGU l=some {Ranges:=mkE l}:=by
 unfold zGU;have D:=yN0 (l:=l) (by omega) l.length 0 [] (by omega) (by omega) (by simp);simp only[et,dS] at D;have h:zB (λ(x:Int×(List Range))=>zAM l x.1 x.2) (0,[])=some (zDX l):=D;rw[h,zA,yES (d7 (zVL l) H),zA];have z:=zJX rlt (zDX l) [];simp only[dS] at z;have G:=yN1 (t:=uK rlt (zDX l) []) (by rw[z.length_eq];have:=zVL l;omega) (λr K=>zZ4 l r (z.mem_iff.1 K)) (uK rlt (zDX l) []).length 0 [] (by omega) (by omega) (by simp) (by simp)
 simp only[et] at G;have k:zB (λ(x:Int×(List Range))=>zAN (uK rlt (zDX l) []) x.1 x.2) (0,[])=some (mkE l):=G;rw[k];rfl
def CanR:List Range->Prop
 | []=>True
 | [r]=>zBN r
 | r::q::l=>zBN r/\q.Hi+1<r.Lo/\CanR (q::l)
theorem CanR.tail {r:Range} {l:List Range} (h:CanR (r::l)):CanR l:=by
 cases l with
 | nil=>trivial
 | cons q l=>exact h.2.2
theorem CanR.head {r:Range} {l:List Range} (h:CanR (r::l)):zBN r:=by
 cases l with
 | nil=>exact h
 | cons q l=>exact h.1
theorem zW6:∀(r l:List Range),CanR r->Can l->(∀x y,r.head? =some x->l.head? =some y->x.Hi+1<y.Lo)->Can (r.reverse++l)
 | [],l,_,h,_=>h
 | x::r,l,k,G,D=>by
  have:=zW6 r (x::l) k.tail (by
   cases l with
   | nil=>exact k.head
   | cons y l=>exact⟨k.head,D x y rfl rfl,G⟩) (λa b z hb=>by
    cases r with
    | nil=>cases z
    | cons q r=>simp only[g0,fD] at z hb;subst z;subst hb;exact k.2.1)
  simpa using this
theorem z3G:∀(t o:List Range),t.Pairwise (LeB rlt)->(∀r∈t,zBN r)->CanR o->(∀q r,o.head? =some q->r∈t->q.Lo<=r.Lo)->CanR (t.foldl mrg o)
 | [],o,_,_,h,_=>h
 | r::t,o,hs,H,T,G=>by
  have O:=fE.1 hs;have Y:=H r (by simp);have K:∀x∈t,r.Lo<=x.Lo:=λx D=>by
   have:=O.1 x D;unfold LeB rlt at this;simp only[fC,dC] at this;omega
  rw[ia];refine z3G t (mrg o r) O.2 (λx D=>H x (by simp[D])) ?_ ?_;cases o with
  | nil=>exact Y
  | cons q l=>
   have hq:=T.head;have ab:=G q r rfl (by simp);rw[zIZ];split;rename_i Z;unfold zBN at hq Y;cases l with
   | nil=>show zBN _;unfold zBN;simp only;omega
   | cons z l=>exact⟨by unfold zBN;simp only;omega,T.2.1,T.2.2⟩
   rename_i Z;exact⟨Y,by omega,T⟩
  intro q' x k D;cases o with
  | nil=>simp only[mrg,g0,fD] at k;subst k;exact K x D
  | cons q l=>
   rw[zIZ] at k;split at k;simp only[g0,fD] at k;subst k;exact G q x rfl (by simp[D]);simp only[g0,fD] at k;subst k;exact K x D
theorem yEW (l:List Range):Can (mkE l):=by have k:=zJX rlt (zDX l) [];simp only[dS] at k;have h:=z3G (uK rlt (zDX l) []) [] (zJY rlt yI0 yET _ _ .nil) (λr z=>zZ4 l r (k.mem_iff.1 z)) trivial (λ_ _ h=>by cases h);have:=zW6 _ [] h trivial (λ_ _ _ h=>by cases h);simpa[mkE] using this
theorem z94:∀(t o:List Range),Can (o.reverse++t)->t.foldl mrg o=t.reverse++o
 | [],o,_=>by simp
 | r::t,o,h=>by
  rw[ia];have e:mrg o r=r::o:=by
   cases o with
   | nil=>rfl
   | cons q l=>
    rw[zIZ];have:Can (q::r::t):=by
     have k:Can (l.reverse++(q::r::t)):=by simpa using h
     clear h;generalize l.reverse=z at k
     induction z with
     | nil=>exact k
     | cons a z D=>exact D k.tail
    have:=this.2.1;rw[dQ (by omega)]
  rw[e,z94 t (r::o) (by simpa using h)];simp
theorem yI2 {l:List Range} (h:Can l):mkE l=l:=by unfold mkE;rw[z93 h.ok,zZ2 rlt l [] (by simpa using h.sorted)];simp only[dS];rw[z94 l [] (by simpa using h)];simp
theorem yEX (l:List Range):mkE l=l↔Can l:=⟨λh=>h▸yEW l,yI2⟩
theorem z95 {s:Set} (T:s.Ranges.length<=12):∃b,zFM s=some b/\(b=true↔Can s.Ranges):=by
 unfold zFM;rw[yEV T,zA,<-yEX];by_cases z:(mkE s.Ranges).length=s.Ranges.length;have G:(!decide (((mkE s.Ranges).length:Int)=(s.Ranges.length:Int)))=false:=by simp[z]
 simp only[G,cP];have h:=kD (body:=λ(x:Int)=>zA5 {Ranges:=mkE s.Ranges} s x) (mkE s.Ranges).length (λk=>nth (mkE s.Ranges) k=nth s.Ranges k) (λy=>y=false) (λk D=>by
  have H:k<s.Ranges.length:=by omega
  simp only[zA5,yF D,cQ,zO D,zO H,zA,zC (k:=k) (by omega)];exact wC (by simp) rfl) (λk D=>by simp only[zA5,yY D,cP])
 have e:(∀j,j<(mkE s.Ranges).length->nth (mkE s.Ranges) j=nth s.Ranges j)↔mkE s.Ranges=s.Ranges:=by
  constructor;intro h;refine hO z λj K O=>?_;have:=h j K
  rwa [u9 K,u9 O] at this
  intro h j _;rw[h]
 rw[e] at h;rcases h with ⟨h,p⟩ | ⟨y,rfl,h,p⟩
 rw[h];exact⟨true,rfl,by simp[p]⟩;rw[h];exact⟨false,rfl,by simp[p]⟩;have G:(!decide (((mkE s.Ranges).length:Int)=(s.Ranges.length:Int)))=true:=by simp;omega
 simp only[G,cQ];exact⟨false,rfl,by simp only[dR,eV];exact λh=>z (by rw[h])⟩
open Go.AV
def hkE (c:Int):Int:=if 4352<=c/\c<4371 then 1 else if 4449<=c/\c<4470 then 2 else if 4520<=c/\c<4547 then 3 else if c<44032\/55204<=c then 0 else if (c-44032)%28=0 then 4 else 5
theorem zL3 (c:Int):zCI c=some (hkE c):=by
 unfold zCI hkE;simp only[zF];by_cases z:4352<=c/\c<4371;simp[z];by_cases D:4449<=c/\c<4470;have:¬c<4371:=by omega
 simp[D,this];by_cases G:4520<=c/\c<4547;have a1:¬c<4371:=by omega
 have a2:¬c<4470:=by omega
 simp[G,a1,a2];have H:(decide (4352<=c)&&decide (c<4371))=false:=by simp only[eA,dC];omega
 have K:(decide (4449<=c)&&decide (c<4470))=false:=by simp only[eA,dC];omega
 have O:(decide (4520<=c)&&decide (c<4547))=false:=by simp only[eA,dC];omega
 simp only[H,K,O,cP,z,D,G,cY];by_cases k:c<44032\/55204<=c;have h:(decide (c<44032) ||decide (55204<=c))=true:=by simpa using k
 simp only[h,cQ,k,dH];have h:(decide (c<44032) ||decide (55204<=c))=false:=by simp only[fC,dC];omega
 simp only[h,cP,k,cY];rw[xN (by omega) (by omega)];unfold zHC;rw[dQ (by omega),zA];have:(c-44032).tmod 28=(c-44032)%28:=fY (by omega);rw[this];by_cases T:(c-44032)%28=0<;>simp[T]
def syl (c:Int):Bool:=decide (44032<=c)&&decide (c<=55203)
theorem zGE (c:Int):syl c=true↔4<=hkE c:=by
 unfold syl hkE;simp only[dM,c8]
 repeat' split
 all_goals omega
def hdE (c:Int):List Int:=if syl c=true then [4352+(c-44032)/28/21,4449+(c-44032)/28%21]++(if 0<(c-44032)%28 then [4520+(c-44032)%28-1] else []) else [c]
theorem zS8 {c e:Int} (k:syl c=true) (he:e∈hdE c):syl e=false/\hkE e≠0:=by
 unfold hdE at he;rw[dK k] at he;unfold syl at k;simp only[dM,c8] at k;have key:(4352<=e/\e<4371)\/(4449<=e/\e<4470)\/(4520<=e/\e<4547):=by
  simp only[eN,dN,List.not_mem_nil,or_false] at he;rcases he with (rfl | rfl) | he
  left;omega;right;left;omega;split at he;simp only[eZ] at he;right;right;omega;simp at he
 constructor;unfold syl;simp only[eA,dC];omega;unfold hkE;rcases key with h | h | h
 rw[dK h];decide;rw[dQ (by omega),dK h];decide;rw[dQ (by omega),dQ (by omega),dK h];decide
theorem zNP (c:Int):(hdE c).length<=3/\1<=(hdE c).length:=by unfold hdE;split;split<;>simp;simp
theorem z3H {c:Int} (k:syl c=true):zA6 c=some (hdE c):=by
 have Z:=(zGE c).1 k;have h:=k;unfold syl at h;simp only[dM,c8] at h;unfold zA6 zF9;rw[zL3,zA];have H:decide (hkE c<4)=false:=by simp;omega
 simp only[H,cP];rw[xN (n:=c-44032) (by omega) (by omega)];generalize K:c-44032=n;have O:0<=n/\n<11172:=by omega
 have D:n.tdiv 28=n/28:=g3 (by omega);have G:(n/28).tdiv 21=n/28/21:=g3 (by omega);have T:n.tmod 28=n%28:=fY (by omega);have Y:(n/28).tmod 21=n/28%21:=fY (by omega);simp only[zKP,zHC,show ((28:Int)=0)=False by simp,show ((21:Int)=0)=False by simp,cY,zA,D,T];rw[xN (n:=n/28) (by omega) (by omega)];simp only[G,Y];rw[xN (n:=n/28/21) (by omega) (by omega),xN (n:=4352+n/28/21) (by omega) (by omega),xN (n:=4449+n/28%21) (by omega) (by omega),xN (n:=4520+n%28) (by omega) (by omega),xN (n:=4520+n%28-1) (by omega) (by omega)];unfold hdE;rw[dK k,K];by_cases z:0<n%28;simp only[z,dD,cQ,zA,dH];have a1:decide (({x0:=4352+n/28/21,x1:=4449+n/28%21,x2:=4520+n%28-1}:bY)= {x0:=0,x1:=0,x2:=0})=false:=by simp;omega
 have a2:decide ((4520+n%28-1:Int)=0)=false:=by simp;omega
 simp only[a1,a2,cP];rfl;simp only[z,dI,cP,zA,cY];have a1:decide (({x0:=4352+n/28/21,x1:=4449+n/28%21,x2:=0}:bY)= {x0:=0,x1:=0,x2:=0})=false:=by simp;omega
 simp only[a1,cP,dD,cQ];rfl
theorem zNQ {lo hi:Nat} (h:lo+hi<=4611686018427387903):wi ((wu (wi ((lo:Int)+(hi:Int))))/2 ^ 1)=(((lo+hi)/2:Nat):Int):=by rw[xN (n:=(lo:Int)+hi) (by omega) (by omega)];have:wu ((lo:Int)+(hi:Int))=(lo:Int)+hi:=IntWalk.u64_in _ (by omega);rw[this,xN (by omega) (by omega)];omega
theorem zW7 {n:Nat} (hn:n<=2000) {body:Int×Int->Option (Stp (Int×Int) Int)} (q:Nat->Bool)
  (h:∀k:Nat,k<=n->body ((k:Int),(k:Int))=some (.done (k:Int)))
  (D:∀lo hi:Nat,lo<hi->hi<=n->body ((lo:Int),(hi:Int))=some (.next (if q ((lo+hi)/2) then ((lo:Int),(((lo+hi)/2:Nat):Int)) else ((((lo+hi)/2+1:Nat):Int),(hi:Int)))))
  (mono:∀i j,i<=j->j<n->q i=true->q j=true):
  ∃j,j<=n/\zB body (0,(n:Int))=some (j:Int)/\(∀k,k<j->q k=false)/\(∀k,j<=k->k<n->q k=true):=by
 have key:∀(d lo hi:Nat),hi-lo<=d->lo<=hi->hi<=n->(∀k,k<lo->q k=false)->(∀k,hi<=k->k<n->q k=true)->
   ∃j,j<=n/\zB body ((lo:Int),(hi:Int))=some (j:Int)/\(∀k,k<j->q k=false)/\(∀k,j<=k->k<n->q k=true):=by
  intro d
  induction d with
  | zero=>
   intro lo hi h1 h2 z K O;have:lo=hi:=by omega
   subst this;exact⟨lo,z,zD (h lo z),K,O⟩
  | succ d ih=>
   intro lo hi h1 h2 z K O;by_cases e:lo=hi
   ·subst e
    exact⟨lo,z,zD (h lo z),K,O⟩
   ·have Y:lo<hi:=by omega
    have H:(lo+hi)/2<n:=by omega
    rw[zG (D lo hi Y z)];cases hq:q ((lo+hi)/2) with
    | true=>
     rw[dK rfl];exact ih lo ((lo+hi)/2) (by omega) (by omega) (by omega) K (λk T G=>mono _ _ T G hq)
    | false=>
     rw[dQ (by simp)];refine ih ((lo+hi)/2+1) hi (by omega) (by omega) z ?_ O;intro k T;cases Z:q k with
     | false=>rfl
     | true=>
      have:=mono k ((lo+hi)/2) (by omega) H Z;rw[hq] at this;cases this
 exact key n 0 n (by omega) (by omega) (by omega) (by intro k T;omega) (by intro k T G;omega)
theorem zOZ {k:Type} [Inhabited k] {l:List k} {p: k->Bool} {i:Nat} (hi:i<l.length) (h:∀j,j<i->p (nth l j)=false) (D:p (nth l i)=true):l.find? p=some (nth l i):=by rw[List.find?_eq_some_iff_getElem];refine⟨D,i,hi,(u9 hi).symm,λj z=>?_⟩;have:=h j z;rw[u9 (by omega)] at this;simp[this]
theorem zW8 {z:Type} [Inhabited z] {l:List z} {p: z->Bool} (h:∀j,j<l.length->p (nth l j)=false):l.find? p=none:=by rw[List.find?_eq_none];intro x G;obtain⟨k,D,rfl⟩:=fB G;have:=h k D;rw[u9 D] at this;simp[this]
def zQ9 (c:Int) (s:bJ):Bool:=decide (s.Lo<=c)&&decide (c<=s.Hi)
def clE (l:List bJ) (c:Int):Int:=match l.find? (zQ9 c) with
 | some s=>s.Value
 | none=>0
theorem CV.mono {l:List bJ} (h:CV l):∀(d i:Nat),i+d+1<l.length->(nth l i).Hi<(nth l (i+d+1)).Lo
 | 0,i,hi=>(h.ad i hi).1
 | d+1,i,hi=>by
  have z:=CV.mono h d i (by omega);have k:=h.sp (i+d+1) (by omega);have D:=(h.ad (i+d+1) (by omega)).1;unfold spOk at k;have:i+(d+1)+1=i+d+1+1:=by omega
  rw[this];omega
theorem CV.lt {l:List bJ} (h:CV l) {i j:Nat} (k:i<j) (z:j<l.length):(nth l i).Hi<(nth l j).Lo:=by
 have:=CV.mono h (j-i-1) i (by omega)
 rwa [show i+(j-i-1)+1=j by omega] at this
theorem CV.hi {l:List bJ} (h:CV l) {i j:Nat} (k:i<=j) (z:j<l.length):(nth l i).Hi<=(nth l j).Hi:=by rcases Nat.lt_or_eq_of_le k with D | rfl;have:=h.lt D z;have G:=h.sp j z;unfold spOk at G;omega;exact gw _
theorem yGW {l:List bJ} (h:CV l) {c:Int} {i:Nat} (hi:i<=l.length) (H:∀j,j<i->(nth l j).Hi<c) (K:∀j,i<=j->j<l.length->c<=(nth l j).Hi):
  clE l c=if i<l.length/\(nth l i).Lo<=c then (nth l i).Value else 0:=by
 unfold clE;by_cases k:i<l.length/\(nth l i).Lo<=c
 ·have D:=zOZ (p:=zQ9 c) k.1 (λj z=>by
   unfold zQ9;have:=H j z;simp only[eA,dC];omega) (by
   unfold zQ9;simp only[dM,c8];exact⟨k.2,K i (dF _) k.1⟩)
  rw[dK k,D]
 ·have D:=zW8 (l:=l) (p:=zQ9 c) (λj z=>by
   unfold zQ9;simp only[eA,dC];by_cases G:j<i
   ·have:=H j G;omega
   ·by_cases e:j=i
    ·subst e;left;exact λO=>k ⟨z,O⟩
    ·have T:=h.lt (show i<j by omega) z
     have Y:=K i (dF _) (by omega);left;omega)
  rw[dQ k,D]
theorem zG7 {l:List bJ} (h:CV l) (hl:l.length<=2000) (c:Int):kV l c=some (clE l c):=by
 obtain⟨j,O,hr,H,D⟩:=zW7 (n:=l.length) hl (body:=λ(x:Int×Int)=>zU l (λx0 x1=>uQ x0 x1) c x.1 x.2) (λk=>decide (c<=(nth l k).Hi))
  (λk _=>by simp only[zU,yY (dF _),cP])
  (λlo hi Z h2=>by
   have hm:(lo+hi)/2<l.length:=by omega
   simp only[zU,yF Z,cQ,zNQ (show lo+hi<=4611686018427387903 by omega),zO hm,zA,uQ,zC (k:=(lo+hi)/2) (by omega)];by_cases T:(nth l ((lo+hi)/2)).Hi<c;have:¬c<=(nth l ((lo+hi)/2)).Hi:=by omega
   simp[T,this];have:c<=(nth l ((lo+hi)/2)).Hi:=by omega
   by_cases z:c<(nth l ((lo+hi)/2)).Lo<;>simp[T,z,this])
  (λi j K O hi=>by
   have:=h.hi K O;simp only[c8] at hi ⊢;omega)
 simp only[dC,c8] at H D;unfold kV kT;rw[hr,yGW h O (λk hk=>by have:=H k hk;omega) D]
 simp only[zA,zF];by_cases G:j<l.length;have h2:=D j (dF _) G;simp only[yF G,j7,zO G,zA,uQ,dT,G,true_and];have Y:decide ((nth l j).Hi<c)=false:=by simp;omega
 simp only[Y,cP];by_cases z:c<(nth l j).Lo;have:¬(nth l j).Lo<=c:=by omega
 simp[z,this];have:(nth l j).Lo<=c:=by omega
 simp[z,this,zO G];simp only[yY (show l.length<=j by omega),wJ,zA,dV,dO,cQ,G,false_and,cY]
theorem zVM {l:List bJ} (D:l.length<=2000) (k:∀x∈l,b9 x) (h:CV l):zAB l=some l:=by obtain⟨e,z,G⟩:=zZ0 D k;unfold zAB;rw[z,zA,G.2 h];rfl
open Go.AV
theorem zZ5 {G:Type} {l r:List G} {x: G} {k:Nat} (h:l.drop k=x::r):l[k]? =some x/\l.drop (k+1)=r/\k+1<=l.length:=by
 have D:k<l.length:=by
  rcases fI k l.length with z | z;exact z;rw[dE z] at h;cases h
 rw[dA D] at h;injection h with z H;exact⟨by rw[cV D,z],H,D⟩
theorem yGX {z:Type} [DecidableEq z] {items:List z} {k:Nat} {x: z} (h:items[k]? =some x):yM items k x=some ():=by unfold yM;rw[dK h]
theorem z3I {z:Type} {items:List z} {k:Nat} (h:items.drop k= []) (D:k<=items.length):zSS items k=some ():=by unfold zSS;rw[dK];have:=congrArg List.length h;simp at this;omega
section
variable {l:List bJ} (h:CV l) (hl:l.length<=2000) {text:List Int} (ht:text.length<=2000) {st:Int->Bool} (hst:∀c,st c=decide (clE l c=0)) {items:List Range}
include h hl ht hst
theorem z6D:∀(n i:Nat) (s:Int) (k:Nat),text.length-i=n->i<=text.length->items.drop k=j9 st (text.drop i) (i:Int) s->k<=items.length->
  ∃G D,zB (λ(x:Int×Int×Nat)=>kO text l items x.1 x.2.1 x.2.2) (s,(i:Int),k)=some (.inl (G,D))/\items.drop D=j9 st [] (text.length:Int) G/\D<=items.length:=by
 intro n
 induction n with
 | zero=>
  intro i s k h1 h2 z O;have:i=text.length:=by omega
  subst this;refine⟨s,k,?_,by rw[z,hF],O⟩;rw[jN];simp only[kO,yY (dF _),cP]
 | succ n ih=>
  intro i s k h1 h2 z O;have hi:i<text.length:=by omega
  rw[dA hi] at z;simp only[j9] at z;have Z:=hst text[i];have ec:((i:Int)+1)=((i+1:Nat):Int):=by omega
  rw[ec] at z;have step:∀G D,kO text l items s (i:Int) k=some (.next (G,((i+1:Nat):Int),D))->items.drop D=j9 st (text.drop (i+1)) ((i+1:Nat):Int) G->D<=items.length->
    ∃G D,zB (λ(x:Int×Int×Nat)=>kO text l items x.1 x.2.1 x.2.2) (s,(i:Int),k)=some (.inl (G,D))/\items.drop D=j9 st [] (text.length:Int) G/\D<=items.length:=by
   intro G D hb T Y;rw[zG (body:=λ(x:Int×Int×Nat)=>kO text l items x.1 x.2.1 x.2.2) (x:=(s,(i:Int),k)) hb];exact ih (i+1) G D (by omega) (by omega) T Y
  by_cases K:clE l text[i]=0
  ·rw[Z] at z
   simp only[K,dD,dG,dV,dR,cY,dT] at z;by_cases H:0<=s
   ·simp only[H,dD,dH] at z
    obtain⟨g1,T,Y⟩:=zZ5 z;refine step (-1) (k+1) ?_ T Y;simp only[kO,yF hi,cQ,zM hi,zA,zG7 h hl,zF,zC (k:=i) (by omega),K,dD,dG,dV,cP,dT,H,yGX g1,eQ]
   ·simp only[H,dI,dR,cY] at z
    refine step s k ?_ z O;simp only[kO,yF hi,cQ,zM hi,zA,zG7 h hl,zF,zC (k:=i) (by omega),K,dD,dG,dV,cP,dT,H,dI,eQ]
  ·rw[Z] at z
   simp only[K,dI,dO,dT,dV,dR,cY] at z;by_cases H:s<0
   ·simp only[H,dD,dH] at z
    refine step (i:Int) k ?_ z O;simp only[kO,yF hi,cQ,zM hi,zA,zG7 h hl,zF,zC (k:=i) (by omega),K,dI,dO,dT,H,dD,eQ]
   ·simp only[H,dI,dR,cY] at z
    refine step s k ?_ z O;simp only[kO,yF hi,cQ,zM hi,zA,zG7 h hl,zF,zC (k:=i) (by omega),K,dI,dO,dT,H,cP,dV,eQ]
theorem zZ6 (H:items=j9 st text 0 (-1)):zAC items text l=some ():=by
 obtain⟨s,k,Y,z,Z⟩:=z6D h hl ht hst (items:=items) text.length 0 (-1) 0 (by omega) (by omega) (by rw[et,et];exact H) (g7 _)
 unfold zAC;have G:zB (λ(x:Int×Int×Nat)=>kO text l items x.1 x.2.1 x.2.2) (-1,0,0)=some (.inl (s,k)):=Y;rw[G];simp only[zA,eQ];unfold j9 at z;by_cases D:0<=s;rw[dK D] at z;obtain⟨K,O,T⟩:=zZ5 z;simp only[D,dD,cQ,yGX K,zA];exact z3I O T;rw[dQ D] at z;simp only[D,dI,cP];exact z3I z Z
omit h hl ht hst in
theorem zJZ:∀(t:List Int) (i s:Int),(j9 st t i s).length<=t.length+1
 | [],i,s=>by unfold j9;split<;>simp
 | c::t,i,s=>by
  unfold j9;split;have:=zJZ t (i+1) i;simp;omega;split;have:=zJZ t (i+1) (-1);simp;omega;have:=zJZ t (i+1) s;simp;omega
omit h hl ht hst in
theorem zJ0:∀(t:List Int) (i s:Int),0<=i->(j9 st t i s= []↔s<0/\∀c∈t,st c=true)
 | [],i,s,hi=>by
  unfold j9;split;simp;omega;simp;omega
 | c::t,i,s,hi=>by
  unfold j9;cases z:st c with
  | true=>
   simp only[dG,dV,dR,cY,dT];by_cases k:0<=s;simp[k];omega;simp only[k,dI,dR,cY];rw[zJ0 t (i+1) s (by omega)];simp[z]
  | false=>
   simp only[dO,dT,dV,dR,cY];by_cases k:s<0;simp only[k,dD,dH];rw[zJ0 t (i+1) i (by omega)];simp[z];omega;simp only[k,dI,dR,cY];rw[zJ0 t (i+1) s (by omega)];simp[z,k]
end
theorem yEY {l:List bJ} (h:CV l) (z:l.length<=2000) (D:∀x∈l,b9 x) {text:List Int} (H:text.length<=2000):
  ∃r,zC9 l text=some r/\(r= []↔∀c∈text,clE l c=0):=by
 have k:∀c,(kV l c==some 0)=decide (clE l c=0):=λc=>by
  rw[zG7 h z,gD];simp
 unfold zC9;rw[zVM z D h,zA,zZ6 h z H k rfl,zA];have G:=zJZ (st:=λc=>kV l c==some 0) text 0 (-1);refine⟨_,by unfold yH0;rw[dK (by unfold LIM;omega)],?_⟩
 rw[zJ0 _ _ _ (by omega)];simp only[k,c8];constructor
 ·exact λh=>h.2
 ·exact λh=>⟨by omega,h⟩
structure DS (l:List aC):Prop where
 asc:∀k,k+1<l.length->(nth l k).aT<(nth l (k+1)).aT
 hk:∀m∈l,hkE m.aT=0
 len:∀m∈l,m.To.length<=2000
theorem DS.mono {l:List aC} (h:DS l):∀(d i:Nat),i+d+1<l.length->(nth l i).aT<(nth l (i+d+1)).aT
 | 0,i,hi=>h.asc i hi
 | d+1,i,hi=>by
  have k:=DS.mono h d i (by omega);have z:=h.asc (i+d+1) (by omega);have:i+(d+1)+1=i+d+1+1:=by omega
  rw[this];omega
theorem DS.lt {l:List aC} (h:DS l) {i j:Nat} (k:i<j) (z:j<l.length):(nth l i).aT<(nth l j).aT:=by
 have:=DS.mono h (j-i-1) i (by omega)
 rwa [show i+(j-i-1)+1=j by omega] at this
def isF (c:Int) (m:aC):Bool:=decide (m.aT=c)
theorem z3J {l:List aC} (h:DS l) (hl:l.length<=2000) (c:Int):∃i:Nat,z6 l c (λx0 x1=>vD x0 x1)=some ((i:Int),(l.find? (isF c)).isSome)/\∀m,l.find? (isF c)=some m->i<l.length/\nth l i=m:=by
 have G:∀m,vD m c=some (if m.aT<c then -1 else if c<m.aT then 1 else 0):=λm=>by
  unfold vD;rw[z59];rfl
 obtain⟨j,hj,hr,K,H⟩:=zW7 (n:=l.length) hl (body:=λ(x:Int×Int)=>zR l (λx0 x1=>vD x0 x1) c x.1 x.2) (λk=>decide (c<=(nth l k).aT))
  (λk _=>by simp only[zR,yY (dF _),cP])
  (λlo hi T h2=>by
   have O:(lo+hi)/2<l.length:=by omega
   simp only[zR,yF T,cQ,zNQ (show lo+hi<=4611686018427387903 by omega),zO O,zA,G,zC (k:=(lo+hi)/2) (by omega)];by_cases hc:(nth l ((lo+hi)/2)).aT<c
   ·have:¬c<=(nth l ((lo+hi)/2)).aT:=by omega
    simp[hc,this]
   ·have:c<=(nth l ((lo+hi)/2)).aT:=by omega
    by_cases Z:c<(nth l ((lo+hi)/2)).aT<;>simp[hc,Z,this])
  (λi j ab hj hi=>by
   simp only[c8] at hi ⊢;rcases Nat.lt_or_eq_of_le ab with T | rfl
   ·have:=h.lt T hj;omega
   ·exact hi)
 simp only[dC,c8] at K H;refine⟨j,?_⟩;unfold z6;rw[hr];simp only[zA,zF];by_cases D:j<l.length/\(nth l j).aT=c
 ·have hf:=zOZ (p:=isF c) D.1 (λk Y=>by
   have:=K k Y;unfold isF;simp only[dC];omega) (by unfold isF;simpa using D.2)
  rw[hf];simp only[yF D.1,j7,zO D.1,zA,G,dT,D.2];refine⟨by simp,λm O=>?_⟩;injection O with O;exact⟨D.1,O⟩
 ·have hf:=zW8 (l:=l) (p:=isF c) (λk Y=>by
   unfold isF;simp only[dC];intro e;by_cases ac:k<j
   ·have:=K k ac;omega
   ·by_cases e2:k=j
    ·subst e2;exact D ⟨Y,e⟩
    ·have T:=h.lt (show j<k by omega) Y
     have h2:=H j (dF _) (by omega);omega)
  rw[hf];refine⟨?_,λm O=>by cases O⟩;by_cases z:j<l.length
  ·have h2:=H j (dF _) z
   have h3:¬(nth l j).aT=c:=λe=>D ⟨z,e⟩;have h4:c<(nth l j).aT:=by omega
   have h5:¬(nth l j).aT<c:=by omega
   simp only[yF z,j7,zO z,zA,G,h4,h5,dH,cY,dT];rfl
  ·simp only[yY (show l.length<=j by omega),wJ,zA,dV]
   rfl
def dep (l:List aC) (c:Int):List Int:=if syl c=true then hdE c else match l.find? (isF c) with
 | some m=>m.To
 | none=>[]
def fnd (l:List aC) (c:Int):Bool:=syl c ||(l.find? (isF c)).isSome
theorem yEZ {l:List aC} {c:Int} (h:fnd l c=false):dep l c= []:=by
 unfold fnd at h;simp only[fC] at h;unfold dep;rw[dQ (by simp[h.1])];cases k:l.find? (isF c) with
 | none=>rfl
 | some m=>rw[k] at h;simp at h
theorem z3K {n:Norm} (h:DS n.aA) (K:n.aA.length<=2000) (c:Int):vO n c true=some (dep n.aA c,fnd n.aA c):=by
 unfold vO dep fnd;rw[zL3,zA];by_cases k:syl c=true;have e:decide (4<=hkE c)=true:=by simpa using (zGE c).1 k
 simp only[e,cQ,z3H k,zA,k,dH,gS];have e:decide (4<=hkE c)=false:=by simp only[dC];exact λH=>k ((zGE c).2 H)
 simp only[gP] at k;simp only[e,cP,k,dR,cY,fa];obtain⟨i,hb,O⟩:=z3J h K c;rw[hb];simp only[zA,zF];cases G:n.aA.find? (isF c) with
 | none=>simp[wJ]
 | some m=>
  obtain⟨z,D⟩:=O m G;simp[j7,zO z,D]
theorem zW9 {l:List aC} (h:DS l) {c e:Int} (D:syl c=true) (z:e∈dep l c):dep l e= []:=by
 unfold dep at z;rw[dK D] at z;obtain⟨H,K⟩:=zS8 D z;unfold dep;rw[dQ (by simp[H])];cases G:l.find? (isF e) with
 | none=>rfl
 | some m=>
  exfalso;have O:=fK G;have k:=List.find?_some G;unfold isF at k;simp only[c8] at k;exact K (k▸h.hk m O)
theorem z3L {l:List aC} (h:DS l) (c:Int):(dep l c).length<=2000:=by
 unfold dep;split;have:=(zNP c).1;omega;cases k:l.find? (isF c) with
 | none=>simp
 | some m=>exact h.len m (fK k)
theorem zZ7 {l:List aC} (h:DS l) {m:aC} (G:m∈l):dep l m.aT=m.To:=by
 have K:=h.hk m G;have D:syl m.aT=false:=by
  cases D:syl m.aT with
  | false=>rfl
  | true=>have:=(zGE _).1 D;omega
 unfold dep;rw[dQ (by simp[D])];obtain⟨k,z,rfl⟩:=fB G;rw[<-u9 z];rw[zOZ (p:=isF (nth l k).aT) z (λj H=>by
  have:=h.lt H z;unfold isF;simp only[dC];omega) (by simp[isF])]
theorem z1Y {l:List aC} {c:Int} (h:dep l c≠[]) (D:syl c=false):∃m∈l,m.aT=c:=by
 unfold dep at h;rw[dQ (by simp[D])] at h;cases k:l.find? (isF c) with
 | none=>rw[k] at h;exact absurd rfl h
 | some m=>
  have z:=List.find?_some k;unfold isF at z;exact⟨m,fK k,by simpa using z⟩
open Go.AV
def EE (l:List aC):Nat->Int->Prop
 | 0,_=>False
 | k+1,c=> ∀e∈dep l c,EE l k e
def WW (l:List aC) (c:Int):Prop:= ∃k,EE l k c
theorem z3M {l:List aC}:∀{k:Nat} {c:Int},EE l k c->EE l (k+1) c
 | 0,_,h=>h.elim
 | k+1,_,h=>λe z=>z3M (h e z)
theorem z96 {l:List aC} {c:Int} {k j:Nat} (h:k<=j) (z:EE l k c):EE l j c:=by
 induction h with
 | refl=>exact z
 | step _ D=>exact z3M D
theorem z97 {l:List aC}:∀{L:List Int},(∀e∈L,WW l e)->∃k,∀e∈L,EE l k e
 | [],_=>⟨0,λe z=>by cases z⟩
 | x::L,h=>by
  obtain⟨a,D⟩:=h x (by simp);obtain⟨b,hb⟩:=z97 (L:=L) λe z=>h e (by simp[z]);refine⟨max a b,λe z=>?_⟩;rcases dN.1 z with rfl | z;exact z96 (by omega) D;exact z96 (by omega) (hb e z)
theorem zZ8 {l:List aC} {c:Int} (h:∀e∈dep l c,WW l e):WW l c:=by obtain⟨k,z⟩:=z97 h;exact⟨k+1,z⟩
theorem zXA {l:List aC} {c:Int} (h:dep l c= []):WW l c:=zZ8 (by rw[h];intro e k;cases k)
theorem yI3 {l:List aC} (k:DS l) {c:Int} (h:syl c=true):WW l c:=zZ8 λ_ z=>zXA (zW9 k h z)
theorem zO0 (m:List (Int×Int)) (c v k:Int):zBQ (xY m c v) k=(decide (k=c) ||zBQ m k):=by unfold zBQ;rw[wB];by_cases h:k=c<;>simp[h]
def pot (l:List aC) (m:List (Int×Int)):Nat:=l.countP λx=>!zBQ m x.aT
theorem yI5 {l:List aC} {m D:List (Int×Int)} (h:∀k,zBQ m k=true->zBQ D k=true):pot l D<=pot l m:=by
 refine List.countP_mono_left λx _ z=>?_;cases G:zBQ m x.aT with
 | false=>rfl
 | true=>rw[h _ G] at z;exact z
theorem zPZ {H:Type} {p q: H->Bool}:∀{l:List H},(∀x∈l,p x=true->q x=true)->(∃x∈l,q x=true/\p x=false)->l.countP p+1<=l.countP q
 | [],_,⟨x,hx,_⟩=>by cases hx
 | y::l,h,⟨x,hx,D,G⟩=>by
  have K:=List.countP_mono_left (l:=l) λz k=>h z (by simp[k]);rw[List.countP_cons,List.countP_cons];rcases dN.1 hx with rfl | hx
  simp[D,G];omega;have Y:=zPZ (l:=l) (λz k=>h z (by simp[k])) ⟨x,hx,D,G⟩;have T:=h y (by simp);cases O:p y with
  | false=>simp;omega
  | true=>simp[T O];omega
theorem z3N {l:List aC} {m:List (Int×Int)} {c v:Int} (k:∃x∈l,x.aT=c) (z:zBQ m c=false):pot l (xY m c v)+1<=pot l m:=by refine zPZ (λx _ h=>?_) ?_;rw[zO0] at h;simp only[Bool.not_or,dM] at h;exact h.2;obtain⟨x,h,rfl⟩:=k;refine⟨x,h,by rw[z];rfl,by rw[zO0];simp⟩
section
variable {n:Norm} (hd:DS n.aA) (hl:n.aA.length<=2000)
include hd hl
noncomputable abbrev zS9 (L:List Int×Bool) (rec:Int->Norm->(List (Int×Int))->Bool->Bool->Option (Int×Bool×Bool×(List (Int×Int)))) (n:Norm):Int×Int×Bool×Bool×(List (Int×Int))->Option (Stp (Int×Int×Bool×Bool×(List (Int×Int))) (Int×Bool×Bool×(List (Int×Int)))):=
 λx=>jB L rec n x.1 x.2.1 x.2.2.1 x.2.2.2.1 x.2.2.2.2
theorem z3O {k:Int->Norm->(List (Int×Int))->Bool->Bool->Option (Int×Bool×Bool×(List (Int×Int)))} {c:Int} {m:List (Int×Int)} {z lo:Bool} (h:dep n.aA c= []):k5 k c n m z lo=some (1,z,lo,m):=by unfold k5;rw[z3K hd hl,zA,zF];simp[h]
theorem yGY {z:Int->Norm->(List (Int×Int))->Bool->Bool->Option (Int×Bool×Bool×(List (Int×Int)))} {c:Int} {m:List (Int×Int)} {D lo:Bool} (h:dep n.aA c≠[]):
  k5 z c n m D lo=cond (zBQ m c) (some (max (mgetD m c 0) 1,(D ||decide (mgetD m c 0= -1)),lo,m)) ((zB (zS9 (dep n.aA c,true) z n) (0,0,D,lo,xY m c (-1))).bind λy=>some (y.1,y.2.1,(y.2.2.1 ||decide (64<y.1)),xY y.2.2.2 c y.1)):=by
 have G:fnd n.aA c=true:=by
  cases G:fnd n.aA c with
  | true=>rfl
  | false=>exact absurd (yEZ G) h
 unfold k5;rw[z3K hd hl,zA,zF,G];have k:decide (((dep n.aA c).length:Int)=0)=false:=by
  simp only[dC];have:(dep n.aA c).length≠0:=λe=>h (cS e);omega
 simp only[dG,fa,k,cP];rfl
structure MOk (l:List aC) (m:List (Int×Int)) (cy:Bool):Prop where
 bd:∀k v,mget m k=some v-> -1<=v/\v<=65
 ww:cy=false->∀k v,mget m k=some v->v≠ -1->WW l k
def zUG (l:List aC) (f:Nat) (c:Int) (m:List (Int×Int)):Prop:=pot l m+3<=f\/(syl c=true/\2<=f)\/(dep l c= []/\1<=f)
omit hd hl in
theorem zVN {l:List aC} {f:Nat} {c:Int} {m D:List (Int×Int)} (h:∀k,zBQ m k=true->zBQ D k=true) (z:zUG l f c m):zUG l f c D:=by
 rcases z with z | z;exact .inl (by have:=yI5 (l:=l) h;omega)
 exact .inr z
def yGZ (l:List aC) (c:Int) (m:List (Int×Int)) (h:Bool) (r:Int×Bool×Bool×(List (Int×Int))):Prop:=
 (1<=r.1/\r.1<=65)/\MOk l r.2.2.2 r.2.1/\(∀k,zBQ m k=true->zBQ r.2.2.2 k=true)/\(r.2.1=false->h=false/\WW l c)
omit hl in
theorem yI6 {f:Nat} (ih:∀c m z lo,MOk n.aA m z->zUG n.aA f c m->∃r,zW f c n m z lo=some r/\yGZ n.aA c m z r) (c:Int):
  ∀(d i:Nat) (s:Int) (z lo:Bool) (m:List (Int×Int)),(dep n.aA c).length-i=d->i<=(dep n.aA c).length->0<=s->s<=65->MOk n.aA m z->(∀e∈dep n.aA c,zUG n.aA f e m)->
   ∃r,zB (zS9 (dep n.aA c,true) (zW f) n) (s,(i:Int),z,lo,m)=some r/\(s<=r.1/\r.1<=65)/\(i<(dep n.aA c).length->1<=r.1)/\MOk n.aA r.2.2.2 r.2.1/\(∀k,zBQ m k=true->zBQ r.2.2.2 k=true)/\(r.2.1=false->z=false/\∀e∈(dep n.aA c).drop i,WW n.aA e):=by
 have hL:=z3L hd c;generalize dep n.aA c=L at*;intro d
 induction d with
 | zero=>
  intro i s z lo m Y Z h3 O D G;refine⟨(s,z,lo,m),?_,⟨gw _,O⟩,λh=>by omega,D,λ_ h=>h,λh=>⟨h,?_⟩⟩
  ·refine zD ?_
   simp only[jB,yY (show L.length<=i by omega),cP]
  ·rw[dE (by omega)];intro e he;cases he
 | succ d K=>
  intro i s z lo m Y Z h3 O D G;have hi:i<L.length:=by omega
  obtain⟨r,hr,⟨r1,r2⟩,r3,T,r5⟩:=ih L[i] m z lo D (G _ (eE hi));have hb:zS9 (L,true) (zW f) n (s,(i:Int),z,lo,m)=some (.next (min (s+r.1) 65,((i+1:Nat):Int),r.2.1,r.2.2.1,r.2.2.2)):=by
   simp only[jB,yF hi,cQ,zM hi,zA,hr,zC (k:=i) (by omega)];rw[xN (n:=s+r.1) (by omega) (by omega)]
  rw[zG hb];obtain⟨q,hq,⟨q1,q2⟩,q3,q4,q5,q6⟩:=K (i+1) (min (s+r.1) 65) r.2.1 r.2.2.1 r.2.2.2 (by omega) (by omega) (by omega) (by omega) r3 (λe he=>zVN T (G e he));refine⟨q,hq,⟨by omega,q2⟩,λ_=>by omega,q4,λk hk=>q5 k (T k hk),λH=>?_⟩;obtain⟨a1,a2⟩:=q6 H;obtain⟨b1,b2⟩:=r5 a1;refine⟨b1,?_⟩;rw[dA hi];intro e he;rcases dN.1 he with rfl | he
  ·exact b2
  ·exact a2 e he
theorem z98:∀(f:Nat) (c:Int) (m:List (Int×Int)) (G lo:Bool),MOk n.aA m G->zUG n.aA f c m->∃r,zW f c n m G lo=some r/\yGZ n.aA c m G r:=by
 intro f
 induction f with
 | zero=>
  intro c m G lo K hn;exfalso;rcases hn with h | h | h<;>omega
 | succ f ih=>
  intro c m G lo K hn;show ∃r,k5 (zW f) c n m G lo=some r/\_;by_cases O:dep n.aA c= [];rw[z3O hd hl O];exact⟨_,rfl,⟨by show (1:Int)<=1;decide,by show (1:Int)<=65;decide⟩,K,λ_ h=>h,λh=>⟨h,zXA O⟩⟩
  rw[yGY hd hl O];cases hh:zBQ m c with
  | true=>
   obtain⟨v,hv⟩:=gG.1 hh;have hg:mgetD m c 0=v:=by unfold mgetD;rw[hv];rfl
   have hb:=K.bd c v hv;rw[hg,cQ];refine⟨_,rfl,⟨by show 1<=max v 1;omega,by show max v 1<=65;omega⟩,⟨K.bd,λh=>K.ww ?_⟩,λ_ h=>h,λh=>?_⟩
   exact(fC.1 h).1;obtain⟨h1,h2⟩:=fC.1 h;exact⟨h1,K.ww h1 c v hv (by simpa using h2)⟩
  | false=>
   have ac:MOk n.aA (xY m c (-1)) G:=by
    refine⟨λk v z=>?_,λY k v z H=>?_⟩;rw[wB] at z;split at z;cases z;omega;exact K.bd k v z;rw[wB] at z;split at z;cases z;exact absurd rfl H;exact K.ww Y k v z H
   have T:∀k,zBQ m k=true->zBQ (xY m c (-1)) k=true:=λk z=>by rw[zO0,z];simp
   have ab:∀e∈dep n.aA c,zUG n.aA f e (xY m c (-1)):=by
    intro e he;cases hs:syl c with
    | true=>
     refine .inr (.inr ⟨zW9 hd hs he,?_⟩);rcases hn with h | h | h
     omega;omega;exact absurd h.1 O
    | false=>
     rcases hn with h | h | h;refine .inl ?_;have:=z3N (l:=n.aA) (v:= -1) (z1Y O hs) hh;omega;rw[hs] at h;cases h.1;exact absurd h.1 O
   obtain⟨q,hq,⟨q1,q2⟩,q3,q4,q5,q6⟩:=yI6 hd ih c (dep n.aA c).length 0 0 G lo (xY m c (-1)) (by omega) (by omega) (by omega) (by omega) ac ab;have ad:zB (zS9 (dep n.aA c,true) (zW f) n) (0,0,G,lo,xY m c (-1))=some q:=hq;have Z:0<(dep n.aA c).length:=e6.2 O;have ai:=q3 Z;simp only[cP];rw[ad];refine⟨_,rfl,⟨ai,q2⟩,⟨λk v z=>?_,λY k v z H=>?_⟩,λk z=>?_,λY=>?_⟩;have D:mget (xY q.2.2.2 c q.1) k=some v:=z;rw[wB] at D;split at D;cases D;omega;exact q4.bd k v D;have D:mget (xY q.2.2.2 c q.1) k=some v:=z;obtain⟨_,a2⟩:=q6 Y;rw[wB] at D;split at D;rename_i e;rw[e];exact zZ8 (by simpa using a2);exact q4.ww Y k v D H;show zBQ (xY q.2.2.2 c q.1) k=true;rw[zO0,q5 k (T k z)];simp;obtain⟨a1,a2⟩:=q6 Y;exact⟨a1,zZ8 (by simpa using a2)⟩
theorem zQQ (hp:n.aA.length<=90):∃r:Bool×Bool,decompose_measure n=some r/\(r.1=false->∀x∈n.aA,WW n.aA x.aT):=by
 have key:∀(d i:Nat) (z lo:Bool) (m:List (Int×Int)),n.aA.length-i=d->i<=n.aA.length->MOk n.aA m z->
   ∃r:Bool×Bool,zB (λ(x:Int×Bool×Bool×(List (Int×Int)))=>kQ n x.1 x.2.1 x.2.2.1 x.2.2.2) ((i:Int),z,lo,m)=some r/\(r.1=false->z=false/\∀x∈n.aA.drop i,WW n.aA x.aT):=by
  intro d
  induction d with
  | zero=>
   intro i z lo m D T K;refine⟨(z,lo),?_,λh=>⟨h,?_⟩⟩
   ·refine zD ?_
    simp only[kQ,yY (show n.aA.length<=i by omega),cP]
   ·rw[dE (by omega)];intro e he;cases he
  | succ d ih=>
   intro i z lo m D T K;have hi:i<n.aA.length:=by omega
   have O:pot n.aA m<=n.aA.length:=List.countP_le_length;obtain⟨r,G,_,r3,_,r5⟩:=z98 hd hl 100 n.aA[i].aT m z lo K (.inl (by omega));rw[zG (x':=(((i+1:Nat):Int),r.2.1,r.2.2.1,r.2.2.2)) (by
    simp only[kQ,yF hi,cQ,zM hi,zA,G,zC (k:=i) (by omega)])]
   obtain⟨q,Z,q1⟩:=ih (i+1) r.2.1 r.2.2.1 r.2.2.2 (by omega) (by omega) r3;refine⟨q,Z,λY=>?_⟩;obtain⟨a1,a2⟩:=q1 Y;obtain⟨b1,b2⟩:=r5 a1;refine⟨b1,?_⟩;rw[dA hi];intro e he;rcases dN.1 he with rfl | he
   ·exact b2
   ·exact a2 e he
 obtain⟨r,G,D⟩:=key n.aA.length 0 false false [] (by omega) (by omega) ⟨λk v h=>(by cases h),λ_ k v h=>(by cases h)⟩;unfold decompose_measure;have H:zB (λ(x:Int×Bool×Bool×(List (Int×Int)))=>kQ n x.1 x.2.1 x.2.2.1 x.2.2.2) (0,false,false,[])=some r:=G;rw[H];exact⟨r,rfl,λh=>by have:=(D h).2;simpa using this⟩
end
open Go.AV
structure NSm (n:Norm):Prop where
 cl:n.aI.length<=40
 de:n.aA.length<=40
 to:∀m∈n.aA,m.To.length<=70
 tg:∀m∈n.aA,m.bO.length<=40
 ex:n.aJ.Ranges.length<=12
theorem yE0 (l:List aC):∃b,zFJ l=some b/\(b=true->l.length<=20/\(∀m∈l,m.To.length<=65)/\∀m∈l,m.bO.length<=40):=by
 unfold zFJ;have h:=kD (body:=λ(x:Int)=>zAZ l x) (min l.length 30) (λk=>(nth l k).To.length<=65/\(nth l k).bO.length<=40) (λy=>y=false) (λk K=>by
  have z:k<l.length:=by omega
  have D:decide ((k:Int)<30)=true:=by simp;omega
  simp only[zAZ,zF,yF z,D,fQ,cQ,zO z,zA,zC (k:=k) (by omega)];by_cases T:65<(nth l k).To.length;have:decide ((65:Int)<((nth l k).To.length:Int))=true:=by simp;omega
  simp only[this,dG,wJ,zA,gS,cQ];exact .inr ⟨by omega,false,rfl,rfl⟩;have:decide ((65:Int)<((nth l k).To.length:Int))=false:=by simp;omega
  simp only[this,dO,j7,zA,fa];exact wC (by simp only[c8];omega) rfl) (λk K=>by
  have:(decide ((k:Int)<(l.length:Int))&&decide ((k:Int)<30))=false:=by
   simp only[eA,dC];omega
  simp only[zAZ,zF,this,cP])
 rcases h with ⟨h,p⟩ | ⟨y,rfl,h,p⟩;rw[h];refine⟨_,rfl,λhb=>?_⟩;have O:l.length<=20:=by simp only[c8] at hb;omega
 rw[gV (by omega)] at p;have H:=(u6 (l:=l) (p:=λm:aC=>m.To.length<=65/\m.bO.length<=40)).1 p;exact⟨O,λm G=>(H m G).1,λm G=>(H m G).2⟩;rw[h];exact⟨false,rfl,λh=>by cases h⟩
theorem yE1 (n:Norm):∃b,zFK n=some b/\(b=true->NSm n):=by
 obtain⟨b,hb,D⟩:=yE0 n.aA;unfold zFK zHO zHP;simp only[zA,zF,hb];by_cases G:n.aI.length<=16;have k:decide ((n.aI.length:Int)<=16)=true:=by simp;omega
 simp only[k,j7,zA,dT];cases b with
 | false=>simp only[wJ,zA,dV];exact⟨false,rfl,λh=>by cases h⟩
 | true=>
  simp only[j7,zA,dT];refine⟨_,rfl,λh=>?_⟩;simp only[c8] at h;obtain⟨a,b,c⟩:=D rfl;exact⟨by omega,by omega,λm z=>by have:=b m z;omega,c,by omega⟩
 have k:decide ((n.aI.length:Int)<=16)=false:=by simp;omega
 simp only[k,wJ,zA,dV];exact⟨false,rfl,λh=>by cases h⟩
structure VD0 (n:Norm):Prop where
 cv:CV n.aI
 mv:MV n.aA
 ca:Can n.aJ.Ranges
 ne:∀k,k+1<n.aA.length->(nth n.aA (k+1)).aT≠(nth n.aA k).aT
 kd:∀m∈n.aA,m.bO= []->m.To.length=1\/m.To.length=2
 hk:∀m∈n.aA,hkE m.aT=0
 tc:∀m∈n.aA,m.bO≠[]->clE n.aI m.aT=0
 ms:decompose_measure n=some (false,false)
theorem yLV {n:Norm} (hl:n.aA.length<=2000):∀(d i:Nat) (h:List Int),n.aA.length-i=d->i<=n.aA.length->h.length<=i->
    (zB (λ(x:Int×(List Int))=>yO n x.1 x.2) ((i:Int),h)=some (.inl (h++((n.aA.drop i).filter λm=>!(m.bO== [])).map (·.aT)))/\∀m∈n.aA.drop i,hkE m.aT=0)\/
    (zB (λ(x:Int×(List Int))=>yO n x.1 x.2) ((i:Int),h)=some (.inr 11)/\¬∀m∈n.aA.drop i,hkE m.aT=0):=by
  intro d
  induction d with
  | zero=>
    intro i h T Y Z;rw[dE (by omega)];refine .inl ⟨zD ?_,λm hm=>by cases hm⟩;simp only[yO,yY (show n.aA.length<=i by omega),cP];simp
  | succ d ih=>
    intro i h T Y Z;have hi:i<n.aA.length:=by omega
    rw[dA hi];by_cases G:hkE n.aA[i].aT=0
    · have conv:∀D,(∃z:Unit,True)->yO n (i:Int) h=some (.next (((i+1:Nat):Int),D))->D.length<=i+1->D++((n.aA.drop (i+1)).filter λm=>!(m.bO== [])).map (·.aT)=h++((n.aA[i]::n.aA.drop (i+1)).filter λm=>!(m.bO== [])).map (·.aT)->
          (zB (λ(x:Int×(List Int))=>yO n x.1 x.2) ((i:Int),h)=some (.inl (h++((n.aA[i]::n.aA.drop (i+1)).filter λm=>!(m.bO== [])).map (·.aT)))/\∀m∈n.aA[i]::n.aA.drop (i+1),hkE m.aT=0)\/
          (zB (λ(x:Int×(List Int))=>yO n x.1 x.2) ((i:Int),h)=some (.inr 11)/\¬∀m∈n.aA[i]::n.aA.drop (i+1),hkE m.aT=0):=by
        intro D _ hb H he;rw[zG (body:=λ(x:Int×(List Int))=>yO n x.1 x.2) (x:=((i:Int),h)) hb];rcases ih (i+1) D (by omega) (by omega) H with ⟨a,b⟩ | ⟨a,b⟩
        · refine .inl ⟨by rw[a,he],λm hm=>?_⟩
          rcases dN.1 hm with rfl | hm
          · exact G
          · exact b m hm
        · exact .inr ⟨a,λO=>b λm hm=>O m (iu _ hm)⟩
      cases K:(n.aA[i].bO== []) with
      | true=>
        refine conv h ⟨(),trivial⟩ ?_ (by omega) ?_
        · simp only[yO,yF hi,cQ,zM hi,zA,zL3,G,dD,dG,cP,K,zC (k:=i) (by omega),eQ]
        · rw[hP,K];rfl
      | false=>
        refine conv (h++ [n.aA[i].aT]) ⟨(),trivial⟩ ?_ (by simp;omega) ?_
        · simp only[yO,yF hi,cQ,zM hi,zA,zL3,G,dD,dG,cP,K,dO,jP (show h.length+ [n.aA[i].aT].length<=4294967296 by simp;omega),zC (k:=i) (by omega),eQ]
        · rw[hP,K,dB];rfl
    · refine .inr ⟨zD ?_,λO=>G (O _ List.mem_cons_self)⟩
      have:(!decide (hkE n.aA[i].aT=0))=true:=by simp[G]
      simp only[yO,yF hi,cQ,zM hi,zA,zL3,this,Sum.elim_inr]
theorem z99 {n:Norm} (K:NSm n) (ac:wV n):Ver (zAD n) (VD0 n):=by
 obtain⟨e1,al,p1⟩:=zZ0 (l:=n.aI) (by have:=K.cl;omega) ac.1.2
 obtain⟨e2,am,p2⟩:=yIZ (l:=n.aA) (by have:=K.de;omega) (λm G=>by have:=K.to m G;omega) (λm G=>by have:=K.tg m G;unfold MX;omega)
 obtain⟨e3,an,p3⟩:=z95 (s:=n.aJ) K.ex;have bf:=K.de;unfold zAD;rw[al,zA];by_cases Z:e1=0
 case neg=>
  have:(!decide (e1=0))=true:=by simp[Z]
  rw[this,cQ];exact⟨e1,rfl,by simp only[Z,eV];exact λh=>Z (p1.2 h.cv)⟩
 rw[Z];simp only[dD,dG,cP];have cv:=p1.1 Z;rw[am,zA];by_cases h2:e2=0
 case neg=>
  have:(!decide (e2=0))=true:=by simp[h2]
  rw[this,cQ];exact⟨e2,rfl,by simp only[h2,eV];exact λh=>h2 (p2.2 h.mv)⟩
 rw[h2];simp only[dD,dG,cP];have mv:=p2.1 h2;rw[an,zA];cases e3 with
 | false=>exact⟨11,rfl,by simp only[show ((11:Int)=0)=False by simp,eV];exact λh=>by have:=p3.2 h.ca;cases this⟩
 | true=>
 have ca:=p3.1 rfl;simp only[dG,cP];have l0:=zL2 (body:=λ(x:Int)=>vE n x) n.aA.length (λk=>(nth n.aA (k+1)).aT≠(nth n.aA k).aT) (λy=>y≠0) (λk z=>by
  have D:k<n.aA.length:=by omega
  simp only[vE,yF z,cQ,zO z,zA,zC (k:=k+1) (by omega),zCA (k:=k) (by omega),zO D];exact wC (by simp) (by decide)) (λk z=>by simp only[vE,yY z,cP])
 rcases l0 with ⟨l0,ne⟩ | ⟨y,hy,l0,ne⟩
 case inr=>rw[l0];exact⟨y,rfl,by simp only[hy,eV];exact λh=>ne h.ne⟩
 rw[l0];simp only[zA,eQ];have T:=kD (body:=λ(x:Int)=>vF n x) n.aA.length (λk=>(nth n.aA k).bO= []->(nth n.aA k).To.length=1\/(nth n.aA k).To.length=2) (λy=>y≠0) (λk z=>by
  simp only[vF,yF z,cQ,zO z,zA,zF,zC (k:=k) (by omega)];have hb:((nth n.aA k).bO== [])=decide ((nth n.aA k).bO= []):=by cases (nth n.aA k).bO<;>rfl
  rw[hb];refine wC ?_ (by decide);simp only[dM,fW,c8,dC];constructor
  ·
   rintro⟨⟨a,b⟩,c⟩ h
   rcases h a with h | h
   · exact b (by omega)
   · exact c (by omega)
  ·
   intro h;refine⟨⟨?_,?_⟩,?_⟩
   · exact Classical.byContradiction λa=>h λa'=>absurd a' a
   · exact λb=>h λ_=> .inl (by omega)
   · exact λb=>h λ_=> .inr (by omega)) (λk z=>by simp only[vF,yY z,cP])
 rw[u6 (p:=λm:aC=>m.bO= []->m.To.length=1\/m.To.length=2)] at T;rcases T with ⟨T,kd⟩ | ⟨y,hy,T,kd⟩
 case inr=>rw[T];exact⟨y,rfl,by simp only[hy,eV];exact λh=>kd h.kd⟩
 rw[T];simp only[zA,eQ];have Y:=yLV (n:=n) (by omega) n.aA.length 0 [] (by omega) (by omega) (by simp);simp only[et,dS] at Y;rcases Y with ⟨Y,z⟩ | ⟨Y,z⟩
 case inr=>
  have O:zB (λ(x:Int×(List Int))=>yO n x.1 x.2) (0,[])=some (.inr 11):=Y;rw[O];exact⟨11,rfl,by simp only[show ((11:Int)=0)=False by simp,eV];exact λh=>z h.hk⟩
 have O:zB (λ(x:Int×(List Int))=>yO n x.1 x.2) (0,[])=some (.inl ((n.aA.filter λm=>!(m.bO== [])).map (·.aT))):=Y;rw[O];simp only[zA,eQ];obtain⟨r,hr,pr⟩:=yEY cv (by have:=K.cl;omega) ac.1.2 (text:=(n.aA.filter λm=>!(m.bO== [])).map (·.aT)) (by
  have:=gZ (λm:aC=>!(m.bO== [])) n.aA;simp only[eY];omega)
 rw[hr,zA];have ab:∀m:aC,(m.bO== [])=decide (m.bO= []):=λm=>by cases m.bO<;>rfl
 have ao:(∀c∈(n.aA.filter λm=>!(m.bO== [])).map (·.aT),clE n.aI c=0)↔∀m∈n.aA,m.bO≠[]->clE n.aI m.aT=0:=by
  constructor
  ·
   intro h m G ht;exact h _ (eJ.2 ⟨m,fA.2 ⟨G,by rw[ab];simpa using ht⟩,rfl⟩)
  ·
   intro h c hc;obtain⟨m,G,rfl⟩:=eJ.1 hc;obtain⟨a,b⟩:=fA.1 G;exact h m a (by rw[ab] at b;simpa using b)
 rw[ao] at pr;by_cases H:r= []
 case neg=>
  have:decide ((0:Int)<(r.length:Int))=true:=by
   have:=e6.2 H;simp only[c8];omega
  rw[this,cQ];exact⟨11,rfl,by simp only[show ((11:Int)=0)=False by simp,eV];exact λh=>H (pr.2 h.tc)⟩
 have:decide ((0:Int)<(r.length:Int))=false:=by rw[H];rfl
 rw[this,cP];have ak:DS n.aA:=⟨λk D=>by
  have a:=mv.lt k D;have b:=ne k D;unfold mlt at a;omega,z,λm G=>by have:=mv.sz m G;omega⟩
 obtain⟨q,hq,_⟩:=zQQ ak (by omega) (by omega);rw[hq,zA];obtain⟨cy,lo⟩:=q;cases cy with
 | true=>exact⟨12,rfl,by simp only[show ((12:Int)=0)=False by simp,eV];exact λh=>by have:=h.ms;rw[hq] at this;cases this⟩
 | false=>
  cases lo with
  | true=>exact⟨13,rfl,by simp only[show ((13:Int)=0)=False by simp,eV];exact λh=>by have:=h.ms;rw[hq] at this;cases this⟩
  | false=>exact⟨0,rfl,by simp only[true_iff];exact⟨cv,mv,ca,ne,kd,z,pr.1 H,hq⟩⟩
theorem VD0.ds {n:Norm} (h:VD0 n):DS n.aA:=⟨λk z=>by
  have a:=h.mv.lt k z;have b:=h.ne k z;unfold mlt at a;omega,h.hk,λm D=>by have:=h.mv.sz m D;omega⟩
open Go.AV
def DD (l:List aC):Nat->Int->Prop
 | 0,c=>l.find? (isF c)=none
 | k+1,c=> ∀m,l.find? (isF c)=some m->∀e∈m.To,DD l k e
theorem zRL {l:List aC} {c:Int} (h:l.find? (isF c)=none):∀k,DD l k c
 | 0=>h
 | k+1=>λm z=>by rw[h] at z;cases z
theorem zJ1 {l:List aC}:∀{k:Nat} {c:Int},DD l k c->DD l (k+1) c
 | 0,_,h=>zRL h 1
 | _+1,_,h=>λm D e z=>zJ1 (h m D e z)
theorem zFF {l:List aC} {c:Int} {m:aC} (h:l.find? (isF c)=some m):m∈l/\m.aT=c:=by refine⟨fK h,?_⟩;have k:=List.find?_some h;unfold isF at k;simpa using k
theorem zTA {l:List aC} (h:DS l) {m:aC} (k:m∈l):syl m.aT=false:=by
 cases z:syl m.aT with
 | false=>rfl
 | true=>have:=(zGE _).1 z;have:=h.hk m k;omega
theorem zCX {l:List aC} (z:DS l) {m:aC} (G:m∈l):l.find? (isF m.aT)=some m:=by
 obtain⟨k,h,rfl⟩:=fB G;rw[<-u9 h];exact zOZ (p:=isF (nth l k).aT) h (λj D=>by
  have:=z.lt D h;unfold isF;simp only[dC];omega) (by simp[isF])
theorem zZ9 {l:List aC} (z:DS l) {c:Int} (h:syl c=true):l.find? (isF c)=none:=by
 cases D:l.find? (isF c) with
 | none=>rfl
 | some m=>
  obtain⟨k,rfl⟩:=zFF D;rw[zTA z k] at h;cases h
theorem z0A {l:List aC} (z:DS l) {c:Int} {m:aC} (h:l.find? (isF c)=some m):dep l c=m.To:=by obtain⟨k,rfl⟩:=zFF h;exact zZ7 z k
theorem yG0 {l:List aC} (z:DS l):∀{k:Nat} {c:Int},EE l k c->DD l k c
 | 0,_,h=>h.elim
 | _+1,_,h=>λm G e D=>yG0 z (h e (by rw[z0A z G];exact D))
theorem yAA {l:List aC} (hd:DS l) (H:∀m∈l,WW l m.aT):∀m∈l,DD l l.length m.aT:=by
 classical
 have key:∀k,(∀m∈l,DD l k m.aT)\/k<=l.countP (λm=>decide (DD l k m.aT)):=by
  intro k
  induction k with
  | zero=>exact .inr (g7 _)
  | succ k T=>
   rcases T with T | T;exact .inl λm z=>zJ1 (T m z);by_cases O:∀m∈l,DD l (k+1) m.aT->DD l k m.aT;left;have K:∀j c,DD l j c->DD l k c:=by
    intro j
    induction j with
    | zero=>intro c h;exact zRL h k
    | succ j ab=>
     intro c h;cases hf:l.find? (isF c) with
     | none=>exact zRL hf k
     | some m=>
      obtain⟨G,D⟩:=zFF hf;have:=O m G (by
       rw[D];intro m' Z e he;exact ab e (h m' Z e he))
      rwa [D] at this
   intro m z;obtain⟨j,hj⟩:=H m z;exact zJ1 (K j _ (yG0 hd hj));right;have Y:∃m∈l,DD l (k+1) m.aT/\¬DD l k m.aT:=by
    apply Classical.byContradiction;intro aa;exact O λm z G=>Classical.byContradiction λD=>aa ⟨m,z,G,D⟩
   obtain⟨m,z,G,D⟩:=Y;have:=zPZ (p:=λm=>decide (DD l k m.aT)) (q:=λm=>decide (DD l (k+1) m.aT)) (l:=l) (λx _ hx=>by simp only[c8] at hx ⊢;exact zJ1 hx) ⟨m,z,by simpa using G,by simpa using D⟩
   omega
 rcases key l.length with h | h;exact h;have aj:l.countP (λm=>decide (DD l l.length m.aT))<=l.length:=List.countP_le_length;have:l.countP (λm=>decide (DD l l.length m.aT))=l.length:=by omega
 intro m z;have:=List.countP_eq_length.1 this m z;simpa using this
theorem zTB {l:List aC} (D:DS l) (H:∀m∈l,WW l m.aT) (c:Int):DD l l.length c:=by
 cases h:l.find? (isF c) with
 | none=>exact zRL h _
 | some m=>
  obtain⟨k,z⟩:=zFF h;have:=yAA D H m k
  rwa [z] at this
def fnB (l:List aC) (b:Bool) (c:Int):Option (List Int):=match l.find? (isF c) with
 | some m=>if (b ||(m.bO== []))=true then some m.To else none
 | none=>none
theorem zI0 {l:List aC} {b:Bool} {c:Int} {z:List Int} (h:fnB l b c=some z):∃m,l.find? (isF c)=some m/\m.To=z/\(b ||(m.bO== []))=true:=by
 unfold fnB at h;cases k:l.find? (isF c) with
 | none=>rw[k] at h;cases h
 | some m=>
  rw[k] at h;simp only at h;split at h;rename_i hb;injection h with h;exact⟨m,rfl,h,hb⟩;cases h
theorem zTC (l:List aC) (c:Int):fnB l true c=(l.find? (isF c)).map (·.To):=by unfold fnB;cases l.find? (isF c)<;>simp
theorem yI7 {l:List aC} {c:Int} {k:List Int} (h:fnB l false c=some k):fnB l true c=some k:=by obtain⟨m,z,D,_⟩:=zI0 h;rw[zTC,z,<-D];rfl
def exF (l:List aC) (b:Bool):Nat->Int->List Int
 | 0,c=>hdE c
 | k+1,c=>match fnB l b c with
  | some h=>h.flatMap (exF l b k)
  | none=>hdE c
def wtF (l:List aC) (b:Bool):Nat->Int->Int
 | 0,c=>((hdE c).length:Int)
 | k+1,c=>match fnB l b c with
  | some h=>min (max (h.map (wtF l b k)).sum 1) 65
  | none=>((hdE c).length:Int)
theorem zNR {f g:Int->List Int}:∀{L:List Int},(∀e∈L,f e=g e)->L.flatMap f=L.flatMap g
 | [],_=>rfl
 | x::L,h=>by rw[ek,ek,h x (by simp),zNR λe k=>h e (by simp[k])]
theorem zG8 {l:List aC} {b:Bool} {c:Int} (h:l.find? (isF c)=none):fnB l b c=none:=by unfold fnB;rw[h]
theorem yAB {l:List aC} {b:Bool}:∀{k:Nat} {c:Int},DD l k c->∀{j:Nat},k<=j->exF l b j c=exF l b k c
 | 0,c,h,j,_=>by
  cases j with
  | zero=>rfl
  | succ j=>show (match fnB l b c with | some z=>z.flatMap (exF l b j) | none=>hdE c)=hdE c;rw[zG8 h]
 | k+1,c,h,j,K=>by
  cases j with
  | zero=>omega
  | succ j=>
   show (match fnB l b c with | some z=>z.flatMap (exF l b j) | none=>hdE c)=(match fnB l b c with | some z=>z.flatMap (exF l b k) | none=>hdE c);cases H:fnB l b c with
   | none=>rfl
   | some z=>
    obtain⟨m,D,rfl,_⟩:=zI0 H;exact zNR λe G=>yAB (h m D e G) (by omega)
theorem yAC {l:List aC} {b:Bool}:∀{k:Nat} {c:Int},DD l k c->∀{j:Nat},k<=j->wtF l b j c=wtF l b k c
 | 0,c,h,j,_=>by
  cases j with
  | zero=>rfl
  | succ j=>show (match fnB l b c with | some z=>min (max (z.map (wtF l b j)).sum 1) 65 | none=>((hdE c).length:Int))=((hdE c).length:Int);rw[zG8 h]
 | k+1,c,h,j,K=>by
  cases j with
  | zero=>omega
  | succ j=>
   show (match fnB l b c with | some z=>min (max (z.map (wtF l b j)).sum 1) 65 | none=>((hdE c).length:Int))=(match fnB l b c with | some z=>min (max (z.map (wtF l b k)).sum 1) 65 | none=>((hdE c).length:Int));cases H:fnB l b c with
   | none=>rfl
   | some z=>
    obtain⟨m,D,rfl,_⟩:=zI0 H;have:m.To.map (wtF l b j)=m.To.map (wtF l b k):=fS λe G=>yAC (h m D e G) (by omega);simp only[this]
def fu (l:List aC) (b:Bool) (c:Int):List Int:=exF l b l.length c
def wt (l:List aC) (b:Bool) (c:Int):Int:=wtF l b l.length c
theorem zQR {l:List aC} {b:Bool} (h:∀c,DD l l.length c) (c:Int):fu l b c=match fnB l b c with | some k=>k.flatMap (fu l b) | none=>hdE c:=by unfold fu;rw[<-yAB (h c) (show l.length<=l.length+1 by omega)];rfl
theorem zVO {l:List aC} {b:Bool} (h:∀c,DD l l.length c) (c:Int):wt l b c=(match fnB l b c with | some k=>(min (max (k.map (wt l b)).sum 1) 65:Int) | none=>((hdE c).length:Int):Int):=by unfold wt;rw[<-yAC (h c) (show l.length<=l.length+1 by omega)];rfl
theorem zL5 {l:List aC} {b:Bool} (k:Nat) (c:Int):1<=wtF l b k c/\wtF l b k c<=65:=by
 have:=zNP c;cases k with
 | zero=>show 1<=((hdE c).length:Int)/\((hdE c).length:Int)<=65;omega
 | succ k=>
  show 1<=(match fnB l b c with | some h=>min (max (h.map (wtF l b k)).sum 1) 65 | none=>((hdE c).length:Int))/\(match fnB l b c with | some h=>min (max (h.map (wtF l b k)).sum 1) 65 | none=>((hdE c).length:Int))<=65;cases fnB l b c with
  | none=>simp only[];omega
  | some h=>simp only[];omega
theorem zXB {f:Int->Int} (h:∀e,1<=f e):∀L:List Int,(L.length:Int)<=(L.map f).sum
 | []=>by simp
 | x::L=>by have:=zXB h L;have:=h x;simp only[ey,iA,dP];omega
theorem z3P {f:Int->List Int} {w:Int->Int} (k:∀e,1<=w e) (N:Int):∀(L:List Int),(∀e∈L,w e<=N->((f e).length:Int)<=w e)->(L.map w).sum<=N->((L.flatMap f).length:Int)<=(L.map w).sum
 | [],_,_=>by simp
 | x::L,h,D=>by
  have G:=zXB k L;have H:=k x;simp only[ey,iA] at D ⊢;have O:=z3P k N L (λe z=>h e (by simp[z])) (by omega);have K:=h x (by simp) (by omega);rw[ek,cZ];omega
theorem yE2 {l:List aC} {b:Bool}:∀(k:Nat) (c:Int),wtF l b k c<=64->((exF l b k c).length:Int)<=wtF l b k c:=by
 intro k
 induction k with
 | zero=>intro c _;show ((hdE c).length:Int)<=((hdE c).length:Int);omega
 | succ k G=>
  intro c;show (match fnB l b c with | some z=>min (max (z.map (wtF l b k)).sum 1) 65 | none=>((hdE c).length:Int))<=64->(((match fnB l b c with | some z=>z.flatMap (exF l b k) | none=>hdE c):List Int).length:Int)<=(match fnB l b c with | some z=>min (max (z.map (wtF l b k)).sum 1) 65 | none=>((hdE c).length:Int));cases fnB l b c with
  | none=>intro _;simp only[];omega
  | some z=>
   simp only[];intro h;have:=z3P (f:=exF l b k) (w:=wtF l b k) (λe=>(zL5 k e).1) 64 z (λe _ D=>G e D) (by omega);omega
theorem z3Q {l:List aC} (G:DS l):∀(k:Nat) (c:Int),wtF l false k c<=wtF l true k c:=by
 intro k
 induction k with
 | zero=>intro c;exact gw _
 | succ k T=>
  intro c;have K:∀L:List Int,(L.map (wtF l false k)).sum<=(L.map (wtF l true k)).sum:=by
   intro L
   induction L with
   | nil=>simp
   | cons x L Y=>have:=T x;simp only[ey,iA];omega
  show (match fnB l false c with | some h=>min (max (h.map (wtF l false k)).sum 1) 65 | none=>((hdE c).length:Int))<=(match fnB l true c with | some h=>min (max (h.map (wtF l true k)).sum 1) 65 | none=>((hdE c).length:Int));cases H:fnB l false c with
  | some h=>
   rw[yI7 H];have:=K h;simp only[];omega
  | none=>
   cases O:fnB l true c with
   | none=>exact gw _
   | some h=>
    obtain⟨m,z,_,_⟩:=zI0 O;obtain⟨D,rfl⟩:=zFF z;have:hdE m.aT= [m.aT]:=by unfold hdE;rw[dQ (by simp[zTA G D])]
    simp only[this,gW];omega
theorem yI8 {l:List aC} (k:DS l) (h:∀c,wt l true c<=64) (b:Bool) (c:Int):(fu l b c).length<=64:=by
 have z:wtF l b l.length c<=wtF l true l.length c:=by
  cases b with
  | true=>exact gw _
  | false=>exact z3Q k _ c
 have D:wtF l true l.length c<=64:=h c;have:=yE2 (l:=l) (b:=b) l.length c (by omega);unfold fu;omega
theorem yAD {l:List aC} (T:DS l) (O:∀c,DD l l.length c) (c:Int):(dep l c= []->wt l true c=1)/\(dep l c≠[]->wt l true c=min ((dep l c).map (wt l true)).sum 65):=by
 have hp:∀e,1<=wt l true e:=λe=>(zL5 _ e).1;rw[zVO O c,zTC];cases Y:l.find? (isF c) with
 | some m=>
  rw[z0A T Y];simp only[eX];constructor;intro h;rw[h];rfl;intro h;have:=zXB hp m.To;have:0<m.To.length:=e6.2 h;omega
 | none=>
  simp only[gu];cases D:syl c with
  | false=>
   have G:dep l c= []:=by unfold dep;rw[dQ (by simp[D]),Y]
   have h2:hdE c= [c]:=by unfold hdE;rw[dQ (by simp[D])]
   rw[G,h2];exact⟨λ_=>rfl,λh=>absurd rfl h⟩
  | true=>
   have G:dep l c=hdE c:=by unfold dep;rw[dK D]
   have Z:=zNP c;have k:∀e∈hdE c,wt l true e=1:=by
    intro e H;obtain⟨p1,p2⟩:=zS8 D H;have hn:l.find? (isF e)=none:=by
     cases K:l.find? (isF e) with
     | none=>rfl
     | some m=>obtain⟨q1,rfl⟩:=zFF K;exact absurd (T.hk m q1) p2
    rw[zVO O e,zG8 hn];simp only[];unfold hdE;rw[dQ (by simp[p1])];rfl
   have z:∀L:List Int,(∀e∈L,wt l true e=1)->(L.map (wt l true)).sum=(L.length:Int):=by
    intro L
    induction L with
    | nil=>intro _;rfl
    | cons x L ih=>intro h;have:=ih λe H=>h e (by simp[H]);have:=h x (by simp);simp only[ey,iA,dP];omega
   rw[G];constructor;intro h;rw[h] at Z;simp at Z;intro _;rw[z _ k];omega
open Go.AV
section
variable {n:Norm} (hd:DS n.aA) (hl:n.aA.length<=2000) (H:∀m∈n.aA,WW n.aA m.aT)
include hd hl H
structure MeX (l:List aC) (m:List (Int×Int)) (lo:Bool):Prop where
 val:∀k v,mget m k=some v->v= -1\/v=wt l true k
 lof:lo=false->∀k v,mget m k=some v->v≠ -1->v<=64
 lot:lo=true->∃x∈l,64<wt l true x.aT
def z1Z (l:List aC) (m z:List (Int×Int)) (h:Bool):Prop:=
 MeX l z h/\(∀k v,mget m k=some v->mget z k=some v)/\∀e,mget z e=some (-1)->mget m e=some (-1)
omit hd hl H in
theorem z6E {m z:List (Int×Int)} (h:∀k v,mget m k=some v->mget z k=some v):∀k,zBQ m k=true->zBQ z k=true:=by intro k D;obtain⟨v,G⟩:=gG.1 D;show (mget z k).isSome=true;rw[h k v G];rfl
omit H hl in
theorem yE3 {f:Nat} (c:Int) (k1:Nat) (ih:∀c m lo,MeX n.aA m lo->zUG n.aA f c m->(∃k,EE n.aA k c/\∀e,mget m e=some (-1)->¬EE n.aA k e)->∃z D,zW f c n m false lo=some (wt n.aA true c,false,z,D)/\z1Z n.aA m D z/\(dep n.aA c≠[]->mget D c=some (wt n.aA true c))) (Z:∀e∈dep n.aA c,EE n.aA k1 e):
  ∀(d i:Nat) (s:Int) (lo:Bool) (m:List (Int×Int)),(dep n.aA c).length-i=d->i<=(dep n.aA c).length->0<=s->s<=65->MeX n.aA m lo->(∀e∈dep n.aA c,zUG n.aA f e m)->(∀e,mget m e=some (-1)->¬EE n.aA k1 e)->
   ∃z D,zB (zS9 (dep n.aA c,true) (zW f) n) (s,(i:Int),false,lo,m)=some (min (s+(((dep n.aA c).drop i).map (wt n.aA true)).sum) 65,false,z,D)/\z1Z n.aA m D z:=by
 have hL:=z3L hd c;generalize dep n.aA c=L at*;intro d
 induction d with
 | zero=>
  intro i s lo m h1 h2 h3 h4 K O T;refine⟨lo,m,?_,K,λ_ _ h=>h,λ_ h=>h⟩;refine zD ?_;rw[dE (show L.length<=i by omega)];simp only[jB,yY (show L.length<=i by omega),cP,fF,List.sum_nil,Int.add_zero];rw[Int.min_eq_left h4]
 | succ d aa=>
  intro i s lo m h1 h2 h3 h4 K O T;have hi:i<L.length:=by omega
  have hm:=eE hi;obtain⟨G,m1,hr,⟨r1,r2,r3⟩,_⟩:=ih L[i] m lo K (O _ hm) ⟨k1,Z _ hm,T⟩;have hp:=zL5 (l:=n.aA) (b:=true) n.aA.length L[i];have ap:1<=wt n.aA true L[i]/\wt n.aA true L[i]<=65:=hp;have hb:zS9 (L,true) (zW f) n (s,(i:Int),false,lo,m)=some (.next (min (s+wt n.aA true L[i]) 65,((i+1:Nat):Int),false,G,m1)):=by
   simp only[jB,yF hi,cQ,zM hi,zA,hr,zC (k:=i) (by omega)];rw[xN (n:=s+wt n.aA true L[i]) (by omega) (by omega)]
  rw[zG hb];obtain⟨ac,m2,hq,q1,q2,q3⟩:=aa (i+1) (min (s+wt n.aA true L[i]) 65) G m1 (by omega) (by omega) (by omega) (by omega) r1 (λe Y=>zVN (z6E r2) (O e Y)) (λe Y=>T e (r3 e Y));refine⟨ac,m2,?_,q1,λk v h=>q2 k v (r2 k v h),λe h=>r3 e (q3 e h)⟩;rw[hq,dA hi,ey,iA];have an:=zXB (f:=wt n.aA true) (λe=>(zL5 _ e).1) (L.drop (i+1));have:min (min (s+wt n.aA true L[i]) 65+((L.drop (i+1)).map (wt n.aA true)).sum) 65=min (s+(wt n.aA true L[i]+((L.drop (i+1)).map (wt n.aA true)).sum)) 65:=by omega
  rw[this]
theorem yE4 : ∀ (f : Nat) (c : Int) (m : List (Int × Int)) (lo : Bool), MeX n.aA m lo -> zUG n.aA f c m -> (∃ k, EE n.aA k c /\ ∀ e, mget m e = some (-1) -> ¬ EE n.aA k e) ->
    ∃ lo' m', zW f c n m false lo = some (wt n.aA true c, false, lo', m') /\ z1Z n.aA m m' lo' /\ (dep n.aA c ≠ [] -> mget m' c = some (wt n.aA true c)) := by
  have hD := zTB hd H;intro f
  induction f with
  | zero =>
    intro c m lo _ hn;exfalso;rcases hn with h | h | h<;>omega
  | succ f ih =>
    intro c m lo hm hn hst;show ∃ lo' m', k5 (zW f) c n m false lo = some _ /\ _;obtain⟨w0, w1⟩ := yAD hd hD c;have hp' : 1 <= wt n.aA true c /\ wt n.aA true c <= 65 := zL5 (l := n.aA) (b := true) n.aA.length c;by_cases h0 : dep n.aA c = []
    · rw[z3O hd hl h0, w0 h0]
      exact⟨lo, m, rfl, ⟨hm, λ_ _ h => h, λ_ h => h⟩, λh => absurd h0 h⟩
    · rw[yGY hd hl h0]
      obtain⟨k, hk, hks⟩ := hst;cases hh : zBQ m c with
      | true =>
        obtain⟨v, hv⟩ := gG.1 hh;have hg : mgetD m c 0 = v := by unfold mgetD; rw[hv]; rfl
        have hne : v ≠ -1 := λe => hks c (by rw[hv, e]) hk;have hvw : v = wt n.aA true c := (hm.val c v hv).resolve_left hne;rw[hg, cQ];have e1 : decide (v = -1) = false := by simpa using hne
        rw[e1];refine⟨lo, m, ?_, ⟨hm, λ_ _ h => h, λ_ h => h⟩, λ_ => by rw[hv, hvw]⟩;rw[show max v 1 = wt n.aA true c by omega];rfl
      | false =>
        have hmin : ∃ k0, EE n.aA (k0+1) c /\ ¬ EE n.aA k0 c /\ k0+1 <= k := by
          clear hks
          induction k with
          | zero => exact hk.elim
          | succ k ihk =>
            by_cases h : EE n.aA k c
            · obtain⟨k0, a, b, e⟩ := ihk h
              exact⟨k0, a, b, by omega⟩
            · exact⟨k, hk, h, dF _⟩
        obtain⟨k0, a, b, e⟩ := hmin;have hgn : mget m c = none := by
          cases hx : mget m c with
          | none => rfl
          | some v => have : zBQ m c = true := by unfold zBQ; rw[hx]; rfl
                      rw[hh] at this; cases this
        have hok : MeX n.aA (xY m c (-1)) lo := by
          refine⟨λk v hk => ?_, λhc k v hk hne => ?_, hm.lot⟩
          · rw[wB] at hk
            split at hk
            · cases hk; exact .inl rfl
            · exact hm.val k v hk
          · rw[wB] at hk
            split at hk
            · cases hk; exact absurd rfl hne
            · exact hm.lof hc k v hk hne
        have hnd : ∀ e ∈ dep n.aA c, zUG n.aA f e (xY m c (-1)) := by
          intro e he;cases hs : syl c with
          | true =>
            refine .inr (.inr ⟨zW9 hd hs he, ?_⟩);rcases hn with h | h | h
            · omega
            · omega
            · exact absurd h.1 h0
          | false =>
            rcases hn with h | h | h
            · refine .inl ?_
              have := z3N (l := n.aA) (v := -1) (z1Y h0 hs) hh;omega
            · rw[hs] at h; cases h.1
            · exact absurd h.1 h0
        obtain⟨lo1, m1, hq, q1, q2, q3⟩ := yE3 hd c k0 ih (λe he => a e he) (dep n.aA c).length 0 0 lo (xY m c (-1)) (by omega) (by omega) (by omega) (by omega) hok hnd (λe' he' => by
          rw[wB] at he';split at he'
          · rename_i hx; rw[hx]; exact b
          · exact λh => hks e' he' (z96 (by omega) h))
        rw[et, Int.zero_add, <- w1 h0] at hq;have hq' : zB (zS9 (dep n.aA c, true) (zW f) n) (0, 0, false, lo, xY m c (-1)) = some (wt n.aA true c, false, lo1, m1) := hq;simp only[cP];rw[hq'];refine⟨(lo1 || decide (64<wt n.aA true c)), xY m1 c (wt n.aA true c), rfl, ⟨⟨λk v hk => ?_, λhc k v hk hne => ?_, λhc => ?_⟩, λk v hk => ?_, λe' he' => ?_⟩, λ_ => by rw[wB, dK rfl]⟩
        · rw[wB] at hk
          split at hk
          · rename_i hx; cases hk; rw[hx]; exact .inr rfl
          · exact q1.val k v hk
        · rw[fC] at hc
          rw[wB] at hk;split at hk
          · cases hk; have := hc.2; simp only[dC] at this; omega
          · exact q1.lof hc.1 k v hk hne
        · rcases Bool.or_eq_true_iff.1 hc with h | h
          · exact q1.lot h
          · simp only[c8] at h
            cases hs : syl c with
            | true =>
              have : wt n.aA true c <= 3 := by
                rw[zVO hD c, zG8 (zZ9 hd hs)];have := zNP c;simp only[]; omega
              omega
            | false => obtain⟨x, hx, rfl⟩ := z1Y h0 hs; exact⟨x, hx, h⟩
        · rw[wB]
          split
          · rename_i hx; rw[hx, hgn] at hk; cases hk
          · rename_i hx
            exact q2 k v (by rw[wB, dQ hx]; exact hk)
        · rw[wB] at he'
          split at he'
          · injection he' with he'; omega
          · rename_i hx
            have := q3 e' he';rw[wB, dQ hx] at this;exact this
theorem zTD (hp:n.aA.length<=90):∃lo,decompose_measure n=some (false,lo)/\(lo=false↔∀x∈n.aA,wt n.aA true x.aT<=64):=by
 have hD:=zTB hd H;have key:∀(d i:Nat) (lo:Bool) (m:List (Int×Int)),n.aA.length-i=d->i<=n.aA.length->MeX n.aA m lo->(∀e,mget m e≠some (-1))->(∀x∈n.aA.take i,dep n.aA x.aT≠[]->mget m x.aT=some (wt n.aA true x.aT))->
   ∃D,zB (λ(x:Int×Bool×Bool×(List (Int×Int)))=>kQ n x.1 x.2.1 x.2.2.1 x.2.2.2) ((i:Int),false,lo,m)=some (false,D)/\(D=false↔∀x∈n.aA,wt n.aA true x.aT<=64):=by
  intro d
  induction d with
  | zero=>
   intro i lo m O h2 K T Y;refine⟨lo,?_,λh x hx=>?_,λh=>?_⟩
   ·refine zD ?_
    simp only[kQ,yY (show n.aA.length<=i by omega),cP]
   ·by_cases h0:dep n.aA x.aT= []
    ·rw[(yAD hd hD x.aT).1 h0];decide
    ·have hg:=Y x (by rw[gA (by omega)];exact hx) h0
     have al:1<=wt n.aA true x.aT/\wt n.aA true x.aT<=65:=zL5 (l:=n.aA) (b:=true) n.aA.length x.aT;exact K.lof h _ _ hg (by omega)
   ·cases lo with
    | false=>rfl
    | true=>obtain⟨x,hx,hg⟩:=K.lot rfl;have:=h x hx;omega
  | succ d ih=>
   intro i lo m O h2 K T Y;have hi:i<n.aA.length:=by omega
   have ag:pot n.aA m<=n.aA.length:=List.countP_le_length;obtain⟨k,hk⟩:=H n.aA[i] (eE hi);obtain⟨G,m1,hr,⟨r1,r2,r3⟩,r4⟩:=yE4 hd hl H 100 n.aA[i].aT m lo K (.inl (by omega)) ⟨k,hk,λe Z=>absurd Z (T e)⟩;rw[zG (x':=(((i+1:Nat):Int),false,G,m1)) (by
    simp only[kQ,yF hi,cQ,zM hi,zA,hr,zC (k:=i) (by omega)])]
   refine ih (i+1) G m1 (by omega) (by omega) r1 (λe Z=>T e (r3 e Z)) (λx hx z=>?_);rw[List.take_add_one,cV hi] at hx;rcases eN.1 hx with hx | hx
   ·exact r2 _ _ (Y x hx z)
   ·simp only[Option.toList_some,eZ] at hx
    subst hx;exact r4 z
 obtain⟨lo,hr,O⟩:=key n.aA.length 0 false [] (by omega) (by omega) ⟨λk v h=>(by cases h),λ_ k v h=>(by cases h),λh=>by cases h⟩ (λe h=>by cases h) (λx hx=>by cases hx);have ab:zB (λ(x:Int×Bool×Bool×(List (Int×Int)))=>kQ n x.1 x.2.1 x.2.2.1 x.2.2.2) (0,false,false,[])=some (false,lo):=hr;refine⟨lo,?_,O⟩;unfold decompose_measure;rw[ab];rfl
end
theorem z10 {n:Norm} (G:DS n.aA) (O:n.aA.length<=90):decompose_measure n=some (false,false)↔(∀m∈n.aA,WW n.aA m.aT)/\∀m∈n.aA,wt n.aA true m.aT<=64:=by
 have K:n.aA.length<=2000:=by omega
 constructor;intro h;obtain⟨r,z,T⟩:=zQQ G K O;rw[h] at z;injection z with z;subst z;have H:=T rfl;obtain⟨lo,k,D⟩:=zTD G K H O;rw[h] at k;injection k with k;injection k with _ k;exact⟨H,D.1 k.symm⟩
 rintro⟨H,h⟩
 obtain⟨lo,k,D⟩:=zTD G K H O;rw[k,D.2 h]
theorem yI9 {l:List aC} (D:DS l) (H:∀m∈l,WW l m.aT) (h:∀m∈l,wt l true m.aT<=64) (c:Int):wt l true c<=64:=by
 cases k:l.find? (isF c) with
 | some m=>obtain⟨z,rfl⟩:=zFF k;exact h m z
 | none=>
  rw[zVO (zTB D H) c,zG8 k];have:=zNP c;simp only[];omega
open Go.AV
set_option linter.unusedSimpArgs false
set_option linter.unusedVariables false
def sg (a b:Int):Int:=if a<b then -1 else if b<a then 1 else 0
theorem z3R (a b:Int):decide (sg a b<0)=decide (a<b):=by unfold sg;by_cases h:a<b;simp[h];by_cases k:b<a<;>simp[h,k]
theorem z3S {z:Type} [Inhabited z] {l m:List z} {k:Nat} (h:k<l.length):nth (l++m) k=nth l k:=by simp[nth,d5 h]
theorem z3T {z:Type} [Inhabited z] {l m:List z} {k j:Nat} (h:k=l.length+j):nth (l++m) k=nth m j:=by subst h;simp[nth,dW]
theorem wn {n:Int} (h:0<=n) (k:n<=1000000):wi n=n:=xN (by omega) (by omega)
theorem yG1:∀(U V p W s:List Int) (k:Nat) (N A B:Int),U.length=V.length->N=((k+U.length:Nat):Int)->A+k=(p.length:Int)->B+k=((p.length+U.length+W.length:Nat):Int)->0<=A->0<=B->p.length+U.length+W.length+V.length<=2000->k<=2000->
  zB (λ(x:Int×(List Int))=>yR N B A x.1 x.2) ((k:Int),p++U++W++V++s)=some (p++V++W++U++s)
 | [],[],p,W,s,k,N,A,B,_,h,_,_,_,_,_,_=>by
  refine zD ?_;show yR N B A (k:Int) _=_;simp only[yR,h,yY (k:=k) (n:=k+0) (by omega),d6,cP]
 | u::U,v::V,p,W,s,k,N,A,B,Z,h,O,z,D,G,hs,hk=>by
  have Y:U.length=V.length:=by simpa using Z
  simp only[dP] at h z hs;have ih:=yG1 U V (p++ [v]) (W++ [u]) s (k+1) N A B Y (by rw[h];omega) (by simp;omega) (by simp;omega) D G (by simp;omega) (by omega)
  have T:p++u::U++W++v::V++s=(p++u::U++W)++v::(V++s):=by simp
  have H:p++u::U++W++v::V++s=p++u::(U++W++v::V++s):=by simp
  have i1:zV (p++u::U++W++v::V++s) (wi (B+k))=some v:=by
   rw[wn (by omega) (by omega),z,T];exact wL (by simp;omega)
  have i2:zV (p++u::U++W++v::V++s) (wi (A+k))=some u:=by
   rw[wn (by omega) (by omega),O,H];exact wL rfl
  have s1:uV (p++u::U++W++v::V++s) (wi (A+k)) v=some (p++v::(U++W++v::V++s)):=by
   rw[wn (by omega) (by omega),O,H];exact uI rfl
  have K:p++v::(U++W++v::V++s)=(p++v::U++W)++v::(V++s):=by simp
  have i3:zV (p++v::(U++W++v::V++s)) (wi (B+k))=some v:=by
   rw[wn (by omega) (by omega),z,K];exact wL (by simp;omega)
  have s2:uV (p++v::(U++W++v::V++s)) (wi (B+k)) u=some ((p++v::U++W)++u::(V++s)):=by
   rw[wn (by omega) (by omega),z,K];exact uI (by simp;omega)
  rw[zG (x':=(((k+1:Nat):Int),(p++ [v])++U++(W++ [u])++V++s))]
  ·rw[ih];simp
  ·show yR N B A (k:Int) _=_
   simp only[yR,h,yF (k:=k) (n:=k+(U.length+1)) (by omega),cQ,i1,i2,s1,i3,s2,zA,zC (k:=k) (by omega)];simp
theorem zXC {U V p W s:List Int} {N A B:Int} {f:Int->Int->Option Int} (D:U.length=V.length) (z:N=(U.length:Int)) (h:A=(p.length:Int)) (k:B=((p.length+U.length+W.length:Nat):Int)) (G:p.length+U.length+W.length+V.length<=2000):
  kK (p++U++W++V++s) A B N f=some (p++V++W++U++s):=by
 unfold kK;have:=yG1 U V p W s 0 N A B D (by rw[z];simp) (by rw[h];simp) (by rw[k];simp) (by omega) (by omega) G (by omega)
 rw[show ((0:Nat):Int)=0 from rfl] at this;rw[this];rfl
theorem yJA {f:Int->Int->Option Int} (M:Nat):∀(n:Nat) (P U V S:List Int),U.length+V.length<=n->(P++U).length=M->0<U.length->0<V.length->P.length+U.length+V.length<=2000->
  ∃(i:Nat) (d:List Int),zB (λ(x:Int×Int×(List Int))=>yD (M:Int) f x.1 x.2.1 x.2.2) ((U.length:Int),(V.length:Int),P++U++V++S)=some ((i:Int),d)/\i<=M/\
   kK d (wi ((M:Int)-(i:Int))) (M:Int) (i:Int) f=some (P++V++U++S)
 | 0,P,U,V,S,hn,T,Y,Z,hs=>by omega
 | n+1,P,U,V,S,hn,T,Y,Z,hs=>by
  simp only[cZ] at T;by_cases e:U.length=V.length
  ·refine⟨U.length,P++U++V++S,zD ?_,by omega,?_⟩
   ·show yD (M:Int) f (U.length:Int) (V.length:Int) _=_
    simp only[yD,e,dD,dG,cP]
   ·rw[wn (by omega) (by omega)]
    have:=zXC (U:=U) (V:=V) (p:=P) (W:=[]) (s:=S) (N:=U.length) (A:=(M:Int)-(U.length:Int)) (B:=(M:Int)) (f:=f) e rfl (by omega) (by simp;omega) (by simp;omega)
    simpa using this
  ·by_cases z:V.length<U.length
   ·have O:=yJA (f:=f) M n (P++V) (U.drop V.length) (U.take V.length) S (by simp;omega) (by simp;omega) (by simp;omega) (by simp;omega) (by simp;omega)
    obtain⟨i,d,G,H,K⟩:=O;refine⟨i,d,?_,H,?_⟩
    ·rw[zG (x':=(((U.drop V.length).length:Int),((U.take V.length).length:Int),(P++V)++U.drop V.length++U.take V.length++S))]
     ·exact G
     ·show yD (M:Int) f (U.length:Int) (V.length:Int) _=_
      have h:=zXC (U:=U.take V.length) (V:=V) (p:=P) (W:=U.drop V.length) (s:=S) (N:=V.length) (A:=(M:Int)-(U.length:Int)) (B:=(M:Int)) (f:=f) (by simp;omega) (by simp;omega) (by omega) (by simp;omega) (by simp;omega)
      rw[show P++U.take V.length++U.drop V.length++V++S=P++U++V++S by rw[dB P,em]] at h;have D:(!decide ((U.length:Int)=(V.length:Int)))=true:=by simp;omega
      simp only[yD,D,cQ,yF z,wn (n:=(M:Int)-(U.length:Int)) (by omega) (by omega),wn (n:=(U.length:Int)-(V.length:Int)) (by omega) (by omega),h,zA];simp only[eM,d9];rw[show ((U.length-V.length:Nat):Int)=(U.length:Int)-(V.length:Int) by omega,show ((min V.length U.length:Nat):Int)=(V.length:Int) by omega]
    ·rw[K,dB (P++V),em]
   ·have z:U.length<V.length:=by omega
    have O:=yJA (f:=f) M n P (V.drop (V.length-U.length)) (V.take (V.length-U.length)) (U++S) (by simp;omega) (by simp;omega) (by simp;omega) (by simp;omega) (by simp;omega)
    obtain⟨i,d,G,H,K⟩:=O;refine⟨i,d,?_,H,?_⟩
    ·rw[zG (x':=(((V.drop (V.length-U.length)).length:Int),((V.take (V.length-U.length)).length:Int),P++V.drop (V.length-U.length)++V.take (V.length-U.length)++(U++S)))]
     ·exact G
     ·show yD (M:Int) f (U.length:Int) (V.length:Int) _=_
      have h:=zXC (U:=U) (V:=V.drop (V.length-U.length)) (p:=P) (W:=V.take (V.length-U.length)) (s:=S) (N:=U.length) (A:=(M:Int)-(U.length:Int)) (B:=(M:Int)+(V.length:Int)-(U.length:Int)) (f:=f) (by simp;omega) rfl (by omega) (by simp;omega) (by simp;omega)
      rw[show P++U++V.take (V.length-U.length)++V.drop (V.length-U.length)++S=P++U++V++S by rw[dB (P++U),em]] at h;have D:(!decide ((U.length:Int)=(V.length:Int)))=true:=by simp;omega
      simp only[yD,D,cQ,yY (k:=V.length) (n:=U.length) (by omega),cP,wn (n:=(M:Int)-(U.length:Int)) (by omega) (by omega),wn (n:=(M:Int)+(V.length:Int)) (by omega) (by omega),wn (n:=(M:Int)+(V.length:Int)-(U.length:Int)) (by omega) (by omega),wn (n:=(V.length:Int)-(U.length:Int)) (by omega) (by omega),h,zA];simp only[eM,d9,dB];rw[show ((V.length-(V.length-U.length):Nat):Int)=(U.length:Int) by omega,show ((min (V.length-U.length) V.length:Nat):Int)=(V.length:Int)-(U.length:Int) by omega]
    ·rw[K]
     rw[show P++V.take (V.length-U.length)++V.drop (V.length-U.length)++(U++S)=P++(V.take (V.length-U.length)++V.drop (V.length-U.length))++U++S by simp,em]
theorem yJB {f:Int->Int->Option Int} {P U V S:List Int} {a m b:Int} (Y:a=(P.length:Int)) (h:m=((P++U).length:Nat)) (hb:b=((P++U++V).length:Nat)) (H:0<U.length) (K:0<V.length) (O:P.length+U.length+V.length<=2000):
  jU (P++U++V++S) a m b f=some (P++V++U++S):=by
 obtain⟨i,d,D,T,G⟩:=yJA (f:=f) (P++U).length (U.length+V.length) P U V S (dF _) rfl H K O;unfold jU;have k:wi (m-a)=(U.length:Int):=by rw[wn (by simp at h;omega) (by simp at h;omega)];simp at h;omega
 have z:wi (b-m)=(V.length:Int):=by rw[wn (by simp at h hb;omega) (by simp at h hb;omega)];simp at h hb;omega
 rw[k,z,h,D,zA,G];rfl
open Go.AV
set_option linter.unusedSimpArgs false
set_option linter.unusedVariables false
section
variable (key:Int->Int)
def Srt (l:List Int):Prop:=l.Pairwise λx y=>key x<=key y
def Flt (a b:List Int):Prop:=a.Perm b/\∀k,a.filter (λx=>decide (key x=k))=b.filter (λx=>decide (key x=k))
end
section
variable {key:Int->Int}
theorem Flt.refl (a:List Int):Flt key a a:=⟨.refl _,λ_=>rfl⟩
theorem Flt.trans {a b c:List Int} (h:Flt key a b) (k:Flt key b c):Flt key a c:=⟨h.1.trans k.1,λq=>(h.2 q).trans (k.2 q)⟩
theorem Flt.symm {a b:List Int} (h:Flt key a b):Flt key b a:=⟨h.1.symm,λq=>(h.2 q).symm⟩
theorem Flt.app {a b c d:List Int} (h:Flt key a b) (k:Flt key c d):Flt key (a++c) (b++d):=⟨h.1.append k.1,λq=>by rw[List.filter_append,List.filter_append,h.2 q,k.2 q]⟩
theorem Flt.swap {a b:List Int} (h:∀x∈a,∀y∈b,key x≠key y):Flt key (a++b) (b++a):=⟨List.perm_append_comm,λq=>by
 rw[List.filter_append,List.filter_append];by_cases D:∃x∈a,key x=q
 ·obtain⟨x,G,e⟩:=D
  have:b.filter (λx=>decide (key x=q))= []:=by
   rw[List.filter_eq_nil_iff];intro y z k;exact h x G y z (by rw[e];simpa using Eq.symm (by simpa using k))
  rw[this];simp
 ·have:a.filter (λx=>decide (key x=q))= []:=by
   rw[List.filter_eq_nil_iff];intro y z k;exact D ⟨y,z,by simpa using k⟩
  rw[this];simp⟩
theorem Flt.mem {a b:List Int} (h:Flt key a b) {x:Int}:x∈a↔x∈b:=h.1.mem_iff
theorem Flt.len {a b:List Int} (h:Flt key a b):a.length=b.length:=h.1.length_eq
theorem zGF {a b:List Int}:Srt key (a++b)↔Srt key a/\Srt key b/\∀x∈a,∀y∈b,key x<=key y:=iw
theorem zHZ {l:List Int} (h:Srt key l) {i j:Nat} (k:i<=j) (D:j<l.length):key (nth l i)<=key (nth l j):=by rcases Nat.lt_or_eq_of_le k with z | rfl;rw[u9 D,u9 (by omega:i<l.length)];exact g6.1 h i j _ _ z;exact gw _
theorem z0B:∀{a b:List Int},Srt key a->Srt key b->Flt key a b->a=b
 | [],b,_,_,h=>by have:=h.len;exact(cS (by simpa using this.symm)).symm
 | x::a,[],_,_,h=>by have:=h.len;simp at this
 | x::a,y::b,D,hb,h=>by
  have z:key x=key y:=by
   have H:x∈y::b:=h.mem.1 (by simp);have K:y∈x::a:=h.mem.2 (by simp);have Y:key y<=key x:=by
    rcases dN.1 H with e | e;rw[e];exact gw _;exact List.rel_of_pairwise_cons hb e
   have Z:key x<=key y:=by
    rcases dN.1 K with e | e;rw[e];exact gw _;exact List.rel_of_pairwise_cons D e
   omega
  have G:=h.2 (key x);rw[hU (by simp),hU (by simp[z])] at G;have T:x=y:=(List.cons.inj G).1;subst T;have O:Flt key a b:=⟨h.1.cons_inv,λk=>by
   have:=h.2 k;by_cases e:key x=k;rw[hU (by simpa using e),hU (by simpa using e)] at this;exact(List.cons.inj this).2;rw[List.filter_cons_of_neg (by simpa using e),List.filter_cons_of_neg (by simpa using e)] at this;exact this⟩
  rw[z0B (List.Pairwise.of_cons D) (List.Pairwise.of_cons hb) O]
theorem yAE {k:Nat} (h:k+1<=1000000):wi (((k+1:Nat):Int)-1)=(k:Int):=by rw[wn (by omega) (by omega)];omega
theorem z0C (lt:Int->Int->Bool):∀(r:List Int) (x:Int) (s:List Int) (y:Int),y∈vT lt r x s->y∈r\/y=x\/y∈s
 | [],x,s,y,h=>by
  rcases dN.1 h with h | h;exact .inr (.inl h);exact .inr (.inr h)
 | z::r,x,s,y,h=>by
  unfold vT at h;split at h;rcases z0C lt r x (z::s) y h with h | h | h
  exact .inl (iu _ h);exact .inr (.inl h);rcases dN.1 h with h | h
  exact .inl (by rw[h];exact List.mem_cons_self)
  exact .inr (.inr h);rcases eN.1 h with h | h
  exact .inl (List.mem_reverse.1 h);rcases dN.1 h with h | h
  exact .inr (.inl h);exact .inr (.inr h)
section
variable {Q:Int->Prop} {lt:Int->Int->Bool} {g:Int->Int->Option Int} (hq:∀x y,Q x->Q y->∃c,g x y=some c/\decide (c<0)=lt x y)
include hq
theorem yG2 (p t:List Int):∀(r:List Int) (x:Int) (s:List Int),Q x->(∀y∈r,Q y)->p.length+r.length<=2000->zB (λ(q:Int×List Int)=>zT (p.length:Int) g q.1 q.2) (((p.length+r.length:Nat):Int),p++(r.reverse++x::s)++t)=some (p++vT lt r x s++t)
 | [],x,s,_,_,_=>by
  refine zD ?_;show zT (p.length:Int) g _ _=_;simp only[zT,d6,yY (k:=p.length) (n:=p.length+0) (by omega),zF,wJ,zA,dV,cP];rfl
 | y::r,x,s,Z,Y,h=>by
  simp only[dP] at h;have K:p++((y::r).reverse++x::s)++t=(p++r.reverse++ [y])++x::(s++t):=by simp
  have e2:p++((y::r).reverse++x::s)++t=(p++r.reverse)++y::(x::s++t):=by simp
  have T:((p.length+(y::r).length:Nat):Int)=((p.length+r.length+1:Nat):Int):=by simp;omega
  have i1:zV (p++((y::r).reverse++x::s)++t) ((p.length+r.length+1:Nat):Int)=some x:=by rw[K];exact wL (by simp;omega)
  have i2:zV (p++((y::r).reverse++x::s)++t) ((p.length+r.length:Nat):Int)=some y:=by rw[e2];exact wL (by simp)
  have s1:uV (p++((y::r).reverse++x::s)++t) ((p.length+r.length+1:Nat):Int) y=some ((p++r.reverse++ [y])++y::(s++t)):=by rw[K];exact uI (by simp;omega)
  have O:(p++r.reverse++ [y])++y::(s++t)=(p++r.reverse)++y::(y::s++t):=by simp
  have i3:zV ((p++r.reverse++ [y])++y::(s++t)) ((p.length+r.length:Nat):Int)=some y:=by rw[O];exact wL (by simp)
  have s2:uV ((p++r.reverse++ [y])++y::(s++t)) ((p.length+r.length:Nat):Int) x=some ((p++r.reverse)++x::(y::s++t)):=by rw[O];exact uI (by simp)
  have hb:decide ((p.length:Int)<((p.length+r.length+1:Nat):Int))=true:=yF (by omega);obtain⟨c,G,D⟩:=hq x y Z (Y y (by simp));cases H:lt x y with
  | true=>
   rw[H] at D;rw[T,zG (x':=(((p.length+r.length:Nat):Int),p++(r.reverse++x::(y::s))++t)),yG2 p t r x (y::s) Z (λz hz=>Y z (by simp[hz])) (by omega)];simp[vT,H];show zT (p.length:Int) g _ _=_;simp only[zT,hb,zF,j7,yAE (k:=p.length+r.length) (by omega),i1,i2,zA,G,D,fQ,cQ,s1,i3,s2];simp
  | false=>
   rw[H] at D;rw[T];refine zD ?_;show zT (p.length:Int) g _ _=_;simp only[zT,hb,zF,j7,yAE (k:=p.length+r.length) (by omega),i1,i2,zA,G,D,fP,cP];simp[vT,H]
theorem yG3 (p t:List Int):∀(l q:List Int),(∀y∈l,Q y)->(∀y∈q,Q y)->1<=q.length->p.length+q.length+l.length<=2000->zB (λ(x:Int×List Int)=>zP ((p.length+q.length+l.length:Nat):Int) (p.length:Int) g x.1 x.2) (((p.length+q.length:Nat):Int),p++(q++l)++t)=some (p++uK lt l q++t)
 | [],q,_,_,_,_=>by
  refine zD ?_;show zP _ (p.length:Int) g _ _=_;simp only[zP,d6,yY (k:=p.length+q.length) (n:=p.length+q.length+0) (by omega),cP];simp[uK]
 | x::l,q,H,D,Y,h=>by
  simp only[dP] at h;have hi:=yG2 hq p (l++t) q.reverse x [] (H x (by simp)) (λy G=>D y (by simpa using G)) (by simp;omega)
  rw[gL,fN] at hi;have O:p++(q++x::l)++t=p++(q++ [x])++(l++t):=by simp
  have z:=zS6 lt q.reverse x [];simp only[gL,d6] at z;have K:∀y∈vT lt q.reverse x [],Q y:=λy G=>by
   rcases z0C lt q.reverse x [] y G with h | h | h;exact D y (by simpa using h);rw[h];exact H x (by simp);cases h
  have Z:=yG3 p t l (vT lt q.reverse x []) (λy G=>H y (by simp[G])) K (by omega) (by omega);rw[zG (x':=(((p.length+(vT lt q.reverse x []).length:Nat):Int),p++(vT lt q.reverse x []++l)++t))];have T:((p.length+q.length+(x::l).length:Nat):Int)=((p.length+(vT lt q.reverse x []).length+l.length:Nat):Int):=by simp;omega
  rw[T,Z];rfl;show zP _ (p.length:Int) g _ _=_;simp only[zP,dP,yF (k:=p.length+q.length) (n:=p.length+q.length+(l.length+1)) (by omega),cQ,O,hi,zA,zC (k:=p.length+q.length) (by omega),z];simp only[dB];rw[show p.length+q.length+1=p.length+(q.length+1+0) by omega]
theorem yLW {p m t:List Int} {a b:Int} (G:a=(p.length:Int)) (hb:b=((p.length+m.length:Nat):Int)) (D:∀y∈m,Q y) (h:p.length+m.length<=2000):kH (p++m++t) a b g=some (p++uK lt m []++t):=by
 unfold kH;have H:wi (a+1)=((p.length+1:Nat):Int):=by rw[wn (by omega) (by omega)];omega
 rw[H];cases m with
 | nil=>
  have:zB (λ(x:Int×List Int)=>zP b a g x.1 x.2) (((p.length+1:Nat):Int),p++ []++t)=some (p++ []++t):=zD (by
   show zP b a g _ _=_;simp only[zP,hb,d6,yY (k:=p.length+1) (n:=p.length+0) (by omega),cP])
  rw[this];rfl
 | cons x m=>
  have:=yG3 hq p t m [x] (λy z=>D y (by simp[z])) (λy z=>by rw[eZ.1 z];exact D x (by simp)) (by simp) (by simp at h ⊢;omega)
  rw[G,hb];have e:p.length+ [x].length+m.length=p.length+(x::m).length:=by simp;omega
  rw[e] at this;simp only[gW,im] at this;rw[this];rfl
end
variable {f:Int->Int->Option Int} (hf:∀x y,f x y=some (sg (key x) (key y)))
include hf
theorem yLX {p m t:List Int} {a b:Int} (k:a=(p.length:Int)) (hb:b=((p.length+m.length:Nat):Int)) (h:p.length+m.length<=2000):kH (p++m++t) a b f=some (p++uK (λa b=>decide (key a<key b)) m []++t):=
 yLW (Q:=λ_=>True) (λx y _ _=>⟨_,hf x y,by simp only[z3R]⟩) k hb (λ_ _=>trivial) h
omit hf in
theorem z0D:∀(r:List Int) (x:Int) (s:List Int),(∀y∈s,key x<key y)->Flt key (r.reverse++x::s) (vT (λa b=>decide (key a<key b)) r x s)
 | [],x,s,_=>Flt.refl _
 | y::r,x,s,D=>by
  unfold vT;by_cases h:key x<key y
  ·
   simp only[h,dD,dH];refine Flt.trans ?_ (z0D r x (y::s) (λz G=>by
    rcases dN.1 G with e | e
    · rw[e];exact h
    · exact D z e))
   have:Flt key ([y]++ [x]) ([x]++ [y]):=Flt.swap (by simp;omega)
   have k:=(Flt.refl (key:=key) r.reverse).app (this.app (Flt.refl s));simpa using k
  ·
   simp only[h,dI,dR,cY];exact Flt.refl _
omit hf in
theorem zL6:∀(l q:List Int),Flt key (q++l) (uK (λa b=>decide (key a<key b)) l q)
 | [],q=>by simp[uK];exact Flt.refl _
 | x::l,q=>by
  have h:=z0D (key:=key) q.reverse x [] (by simp);rw[fN] at h;have k:=(h.app (Flt.refl l)).trans (zL6 l (vT (λa b=>decide (key a<key b)) q.reverse x []));simpa[uK] using k
omit hf in
theorem zP1 (l:List Int):Srt key (uK (λa b=>decide (key a<key b)) l []):=by
 have:=zJY (λa b=>decide (key a<key b)) (λa b c k z=>by simp at *;omega) (λa b k=>by simp at *;omega) l [] .nil
 exact this.imp λ{a b} h=>by
  have h:decide (key b<key a)=false:=h;simp at h;exact h
end
open Go.AV
set_option linter.unusedSimpArgs false
set_option linter.unusedVariables false
theorem z11 {body:Int×Int->Option (Stp (Int×Int) Int)} (q:Nat->Bool) (A B:Nat)
  (h:∀k:Nat,A<=k->k<=B->body ((k:Int),(k:Int))=some (.done (k:Int)))
  (D:∀lo hi:Nat,A<=lo->lo<hi->hi<=B->body ((lo:Int),(hi:Int))=some (.next (if q ((lo+hi)/2) then ((lo:Int),(((lo+hi)/2:Nat):Int)) else ((((lo+hi)/2+1:Nat):Int),(hi:Int)))))
  (hm:∀i j,A<=i->i<=j->j<B->q i=true->q j=true):
  ∀(n lo hi:Nat),hi-lo<=n->A<=lo->lo<=hi->hi<=B->∃j:Nat,lo<=j/\j<=hi/\zB body ((lo:Int),(hi:Int))=some (j:Int)/\(∀i,lo<=i->i<j->q i=false)/\(∀i,j<=i->i<hi->q i=true):=by
 intro n
 induction n with
 | zero=>
  intro lo hi h1 G h3 H;have:hi=lo:=by omega
  subst this;exact⟨hi,by omega,by omega,zD (h hi G H),λi a b=>by omega,λi a b=>by omega⟩
 | succ n ih=>
  intro lo hi h1 G h3 H;by_cases e:lo=hi
  ·subst e
   exact⟨lo,by omega,by omega,zD (h lo G H),λi a b=>by omega,λi a b=>by omega⟩
  ·have O:=D lo hi G (by omega) H
   cases K:q ((lo+hi)/2) with
   | true=>
    rw[K,dK rfl] at O;obtain⟨j,j1,j2,Y,Z,j5⟩:=ih lo ((lo+hi)/2) (by omega) G (by omega) (by omega);refine⟨j,j1,by omega,by rw[zG O];exact Y,Z,λi a b=>?_⟩
    by_cases z:i<(lo+hi)/2
    ·exact j5 i a z
    ·exact hm ((lo+hi)/2) i (by omega) (by omega) (by omega) K
   | false=>
    rw[K,dQ (by simp)] at O;obtain⟨j,j1,j2,Y,Z,j5⟩:=ih ((lo+hi)/2+1) hi (by omega) (by omega) (by omega) H;refine⟨j,by omega,j2,by rw[zG O];exact Y,λi a b=>?_,j5⟩
    by_cases z:(lo+hi)/2+1<=i
    ·exact Z i z b
    ·cases T:q i with
     | false=>rfl
     | true=>
      have:=hm i ((lo+hi)/2) (by omega) (by omega) (by omega) T;rw[K] at this;cases this
theorem yLY (t:List Int) (x:Int):∀(U p:List Int) (Y:Int),Y=((p.length+U.length+1:Nat):Int)->p.length+U.length<=2000->zB (λ(q:Int×(List Int))=>yT Y q.1 q.2) ((p.length:Int),p++x::U++t)=some (p++U++x::t)
 | [],p,Y,z,h=>by
  refine zD ?_;show yT Y _ _=_;have:wi (Y-1)=((p.length+0:Nat):Int):=by rw[wn (by rw[z];simp) (by rw[z];simp;simp at h;omega),z];simp
  simp only[yT,this,yY (k:=p.length) (n:=p.length+0) (by omega),cP];simp
 | y::U,p,Y,z,h=>by
  simp only[dP] at z h;have K:wi (Y-1)=((p.length+(U.length+1):Nat):Int):=by rw[wn (by rw[z];omega) (by rw[z];omega),z];omega
  have D:p++x::y::U++t=p++x::(y::U++t):=by simp
  have G:p++x::y::U++t=(p++ [x])++y::(U++t):=by simp
  have H:wi ((p.length:Int)+1)=((p.length+1:Nat):Int):=zC (by omega);have i1:zV (p++x::y::U++t) ((p.length+1:Nat):Int)=some y:=by rw[G];exact wL (by simp)
  have i2:zV (p++x::y::U++t) (p.length:Int)=some x:=by rw[D];exact wL rfl
  have O:uV (p++x::y::U++t) (p.length:Int) y=some ((p++ [y])++y::(U++t)):=by rw[D,uI rfl];simp
  have i3:zV ((p++ [y])++y::(U++t)) ((p.length+1:Nat):Int)=some y:=wL (by simp);have T:uV ((p++ [y])++y::(U++t)) ((p.length+1:Nat):Int) x=some ((p++ [y])++x::(U++t)):=uI (by simp);rw[zG (x':=(((p++ [y]).length:Int),(p++ [y])++x::U++t)),yLY t x U (p++ [y]) Y (by rw[z];simp;omega) (by simp;omega)]
  simp;show yT Y _ _=_;simp only[yT,K,yF (k:=p.length) (n:=p.length+(U.length+1)) (by omega),cQ,H,i1,i2,O,i3,T,zA];simp
theorem yLZ (t p:List Int) (y:Int):∀(r:List Int),p.length+r.length<=2000->∀t,zB (λ(q:Int×(List Int))=>yV (p.length:Int) q.1 q.2) (((p.length+r.length:Nat):Int),p++r.reverse++y::t)=some (p++y::r.reverse++t)
 | [],h,t=>by
  refine zD ?_;show yV _ _ _=_;simp only[yV,d6,yY (k:=p.length) (n:=p.length+0) (by omega),cP];simp
 | x::r,h,t=>by
  simp only[dP] at h;have H:((p.length+(x::r).length:Nat):Int)=((p.length+r.length+1:Nat):Int):=by simp;omega
  have z:p++(x::r).reverse++y::t=(p++r.reverse++ [x])++y::t:=by simp
  have G:p++(x::r).reverse++y::t=(p++r.reverse)++x::(y::t):=by simp
  have i1:zV (p++(x::r).reverse++y::t) ((p.length+r.length:Nat):Int)=some x:=by rw[G];exact wL (by simp)
  have i2:zV (p++(x::r).reverse++y::t) ((p.length+r.length+1:Nat):Int)=some y:=by rw[z];exact wL (by simp;omega)
  have K:uV (p++(x::r).reverse++y::t) ((p.length+r.length+1:Nat):Int) x=some ((p++r.reverse++ [x])++x::t):=by rw[z];exact uI (by simp;omega)
  have D:(p++r.reverse++ [x])++x::t=(p++r.reverse)++x::(x::t):=by simp
  have i3:zV ((p++r.reverse++ [x])++x::t) ((p.length+r.length:Nat):Int)=some x:=by rw[D];exact wL (by simp)
  have O:uV ((p++r.reverse++ [x])++x::t) ((p.length+r.length:Nat):Int) y=some ((p++r.reverse)++y::(x::t)):=by rw[D];exact uI (by simp)
  rw[H,zG (x':=(((p.length+r.length:Nat):Int),p++r.reverse++y::(x::t))),yLZ t p y r (by omega) (x::t)];simp;show yV _ _ _=_;simp only[yV,yF (k:=p.length) (n:=p.length+r.length+1) (by omega),cQ,yAE (k:=p.length+r.length) (by omega),i1,i2,K,i3,O,zA]
theorem zEK {l:List Int} {x:Int} {n:Nat} (h:x∈l.take n):∃i,i<n/\i<l.length/\nth l i=x:=by obtain⟨i,hi,e⟩:=fB h;simp at hi;refine⟨i,by omega,by omega,?_⟩;rw[u9 (by omega)];simpa using e
theorem zGG {l:List Int} {x:Int} {n:Nat} (h:x∈l.drop n):∃i,n<=i/\i<l.length/\nth l i=x:=by obtain⟨i,hi,e⟩:=fB h;simp at hi;refine⟨n+i,by omega,by omega,?_⟩;rw[u9 (by omega)];simpa using e
section
variable {key:Int->Int} {f:Int->Int->Option Int} (hf:∀x y,f x y=some (sg (key x) (key y)))
include hf
theorem yN2 {Y:List Int->Int->Int->Int->(Int->Int->Option Int)->Option (List Int)} {p R s:List Int} {x:Int} {a m b:Int} (Z:Srt key R) (ha:a=(p.length:Int)) (hm:m=((p.length+1:Nat):Int)) (hb:b=((p.length+1+R.length:Nat):Int)) (h:p.length+1+R.length<=2000):
  ∃M,yA Y (p++ [x]++R++s) a m b f=some (p++M++s)/\Srt key M/\Flt key ([x]++R) M:=by
 have hd:∀i,i<R.length->zV (p++ [x]++R++s) ((p.length+1+i:Nat):Int)=some (nth R i):=λi hi=>by
  rw[zO (by simp;omega),dB (p++ [x]),z3T (j:=i) (by simp),z3S hi]
 have hx:zV (p++ [x]++R++s) (p.length:Int)=some x:=by
  rw[show p++ [x]++R++s=p++x::(R++s) by simp];exact wL rfl
 obtain⟨j,j1,j2,j3,j4,j5⟩:=z11 (body:=λ(q:Int×Int)=>yS (p++ [x]++R++s) a f q.1 q.2) (λk=>!decide (key (nth R (k-(p.length+1)))<key x)) (p.length+1) (p.length+1+R.length)
  (λk _ _=>by
   show yS _ a f _ _=_;simp only[yS,yY (dF _),cP])
  (λlo hi K D h3=>by
   show yS _ a f _ _=_;have e:(lo+hi)/2=p.length+1+((lo+hi)/2-(p.length+1)):=by omega
   have T:zV (p++ [x]++R++s) (((lo+hi)/2:Nat):Int)=some (nth R ((lo+hi)/2-(p.length+1))):=by
    have:=hd ((lo+hi)/2-(p.length+1)) (by omega);rw[<-e] at this;exact this
   simp only[yS,yF D,cQ,zNQ (lo:=lo) (hi:=hi) (by omega),T,ha,hx,zA,hf,z3R];by_cases hc:key (nth R ((lo+hi)/2-(p.length+1)))<key x
   ·simp only[hc,dD,cQ,zA,dG,dR,cY,zC (k:=(lo+hi)/2) (by omega)]
   ·simp only[hc,dI,cP,zA,dO,dH])
  (λi k K D h3 hq=>by
   simp only[fW,dC] at hq ⊢;have:=zHZ Z (i:=i-(p.length+1)) (j:=k-(p.length+1)) (by omega) (by omega);omega) (R.length) (p.length+1) (p.length+1+R.length) (by omega) (by omega) (by omega) (by omega)
 refine⟨R.take (j-(p.length+1))++ [x]++R.drop (j-(p.length+1)),?_,?_,?_⟩
 ·unfold yA
  have e1:decide (wi (m-a)=1)=true:=by rw[wn (by omega) (by omega)];simp;omega
  rw[e1,cQ,hm,hb,j3,zA];have:=yLY (R.drop (j-(p.length+1))++s) x (R.take (j-(p.length+1))) p (j:Int) (by simp;omega) (by simp;omega)
  rw[ha];rw[show p++x::R.take (j-(p.length+1))++(R.drop (j-(p.length+1))++s)=p++ [x]++R++s by
   rw[<-dB,dB p,fR,dB p,fR,em];simp] at this
  rw[this];simp
 ·have O:∀y∈R.take (j-(p.length+1)),key y<key x:=λy hy=>by
   obtain⟨i,i1,i2,rfl⟩:=zEK hy;have:=j4 (p.length+1+i) (by omega) (by omega);simpa using this
  have hD:∀y∈R.drop (j-(p.length+1)),key x<=key y:=λy hy=>by
   obtain⟨i,i1,i2,rfl⟩:=zGG hy;have:=j5 (p.length+1+i) (by omega) (by omega);simpa using this
  have G:=Z;rw[<-em (j-(p.length+1)) R] at G;obtain⟨r1,r2,r3⟩:=zGF.1 G;refine zGF.2 ⟨zGF.2 ⟨r1,List.pairwise_singleton _ _,λy hy z H=>?_⟩,r2,λy hy z H=>?_⟩
  ·simp at H;rw[H];have:=O y hy;omega
  ·rcases eN.1 hy with hy | hy
   ·exact r3 y hy z H
   ·simp at hy;rw[hy];exact hD z H
 ·have O:∀y∈R.take (j-(p.length+1)),key y<key x:=λy hy=>by
   obtain⟨i,i1,i2,rfl⟩:=zEK hy;have:=j4 (p.length+1+i) (by omega) (by omega);simpa using this
  have K:Flt key ([x]++R.take (j-(p.length+1))) (R.take (j-(p.length+1))++ [x]):=Flt.swap λu hu v hv=>by
   simp at hu;rw[hu];have:=O v hv;omega
  have D:=K.app (Flt.refl (R.drop (j-(p.length+1))));rw[dB,em] at D;exact D
theorem yN3 {Z:List Int->Int->Int->Int->(Int->Int->Option Int)->Option (List Int)} {p L s:List Int} {y:Int} {a m b:Int} (hL:Srt key L) (G:2<=L.length) (ha:a=(p.length:Int)) (T:m=((p.length+L.length:Nat):Int)) (hb:b=((p.length+L.length+1:Nat):Int)) (h:p.length+L.length+1<=2000):
  ∃M,yA Z (p++L++ [y]++s) a m b f=some (p++M++s)/\Srt key M/\Flt key (L++ [y]) M:=by
 have hd:∀i,i<L.length->zV (p++L++ [y]++s) ((p.length+i:Nat):Int)=some (nth L i):=λi hi=>by
  rw[zO (by simp;omega),dB,dB,z3T (j:=i) rfl,z3S hi]
 have hy:zV (p++L++ [y]++s) ((p.length+L.length:Nat):Int)=some y:=by
  rw[show p++L++ [y]++s=(p++L)++y::s by simp];exact wL (by simp)
 obtain⟨j,j1,j2,j3,j4,j5⟩:=z11 (body:=λ(q:Int×Int)=>yU (p++L++ [y]++s) m f q.1 q.2) (λk=>decide (key y<key (nth L (k-p.length)))) p.length (p.length+L.length)
  (λk _ _=>by
   show yU _ m f _ _=_;simp only[yU,yY (dF _),cP])
  (λlo hi K G h3=>by
   show yU _ m f _ _=_;have e:(lo+hi)/2=p.length+((lo+hi)/2-p.length):=by omega
   have O:zV (p++L++ [y]++s) (((lo+hi)/2:Nat):Int)=some (nth L ((lo+hi)/2-p.length)):=by
    have:=hd ((lo+hi)/2-p.length) (by omega);rw[<-e] at this;exact this
   simp only[yU,yF G,cQ,zNQ (lo:=lo) (hi:=hi) (by omega),O,T,hy,zA,hf,z3R];by_cases hc:key y<key (nth L ((lo+hi)/2-p.length))
   ·simp only[hc,dD,dG,cP,zA,dH]
   ·simp only[hc,dI,dO,cQ,zA,dR,cY,zC (k:=(lo+hi)/2) (by omega)])
  (λi k K G h3 hq=>by
   simp only[c8] at hq ⊢;have:=zHZ hL (i:=i-p.length) (j:=k-p.length) (by omega) (by omega);omega) L.length p.length (p.length+L.length) (by omega) (by omega) (by omega) (by omega)
 have hT:∀z∈L.take (j-p.length),key z<=key y:=λz Y=>by
  obtain⟨i,i1,i2,rfl⟩:=zEK Y;have:=j4 (p.length+i) (by omega) (by omega);simpa using this
 have hD:∀z∈L.drop (j-p.length),key y<key z:=λz Y=>by
  obtain⟨i,i1,i2,rfl⟩:=zGG Y;have:=j5 (p.length+i) (by omega) (by omega);simpa using this
 refine⟨L.take (j-p.length)++([y]++L.drop (j-p.length)),?_,?_,?_⟩
 ·unfold yA
  have e1:decide (wi (m-a)=1)=false:=by rw[wn (by omega) (by omega)];simp;omega
  have e2:decide (wi (b-m)=1)=true:=by rw[wn (by omega) (by omega)];simp;omega
  rw[e1,cP,e2,cQ,ha,T];rw[T] at j3;rw[j3,zA];have:=yLZ s (p++L.take (j-p.length)) y (L.drop (j-p.length)).reverse (by simp;omega) s
  rw[fN] at this;have e3:((p++L.take (j-p.length)).length:Int)=(j:Int):=by simp;omega
  have e4:(((p++L.take (j-p.length)).length+(L.drop (j-p.length)).reverse.length:Nat):Int)=((p.length+L.length:Nat):Int):=by simp;omega
  rw[e3,e4] at this;rw[show p++L.take (j-p.length)++L.drop (j-p.length)++y::s=p++L++ [y]++s by rw[dB p,em];simp] at this
  rw[this];simp
 ·have H:=hL
  rw[<-em (j-p.length) L] at H;obtain⟨r1,r2,r3⟩:=zGF.1 H;refine zGF.2 ⟨r1,zGF.2 ⟨List.pairwise_singleton _ _,r2,λu D v hv=>?_⟩,λu D v hv=>?_⟩
  ·simp at D;rw[D];have:=hD v hv;omega
  ·rcases eN.1 hv with hv | hv
   ·simp at hv;rw[hv];exact hT u D
   ·exact r3 u D v hv
 ·have K:Flt key (L.drop (j-p.length)++ [y]) ([y]++L.drop (j-p.length)):=Flt.swap λu D v hv=>by
   simp at hv;rw[hv];have:=hD u D;omega
  have G:=(Flt.refl (key:=key) (L.take (j-p.length))).app K;rw[<-dB,em] at G;exact G
end
open Go.AV
set_option linter.unusedSimpArgs false
set_option linter.unusedVariables false
section
variable {key:Int->Int} {f:Int->Int->Option Int} (hf:∀x y,f x y=some (sg (key x) (key y)))
include hf
theorem yN4 {ai:List Int->Int->Int->Int->(Int->Int->Option Int)->Option (List Int)} {p L R s:List Int} {a m b:Int} (hL:Srt key L) (hR:Srt key R) (l2:2<=L.length) (r2:2<=R.length) (ha:a=(p.length:Int)) (hm:m=((p.length+L.length:Nat):Int)) (hb:b=((p.length+L.length+R.length:Nat):Int)) (h:p.length+L.length+R.length<=2000)
  (ih:∀(p L' R' s:List Int) (a m b:Int),2*(L'.length+R'.length)<=L.length+R.length+1->0<L'.length->0<R'.length->Srt key L'->Srt key R'->a=(p.length:Int)->m=((p.length+L'.length:Nat):Int)->b=((p.length+L'.length+R'.length:Nat):Int)->p.length+L'.length+R'.length<=2000->
   ∃M,ai (p++L'++R'++s) a m b f=some (p++M++s)/\Srt key M/\Flt key (L'++R') M):
  ∃M,yA ai (p++L++R++s) a m b f=some (p++M++s)/\Srt key M/\Flt key (L++R) M:=by
 obtain⟨A,hA⟩:∃A,A=p.length:=⟨_,rfl⟩;obtain⟨K,hK⟩:∃K,K=L.length:=⟨_,rfl⟩;obtain⟨N,hN⟩:∃N,N=R.length:=⟨_,rfl⟩;obtain⟨z,ba⟩:∃z,z=(A+(A+K+N))/2:=⟨_,rfl⟩;have bq:∀i,i<K->zV (p++L++R++s) ((A+i:Nat):Int)=some (nth L i):=λi hi=>by
  rw[zO (by simp;omega),dB,dB,z3T (j:=i) (by omega),z3S (by omega)]
 have br:∀i,i<N->zV (p++L++R++s) ((A+K+i:Nat):Int)=some (nth R i):=λi hi=>by
  rw[zO (by simp;omega),dB (p++L),z3T (j:=i) (by simp;omega),z3S (by omega)]
 obtain⟨s0,r0,h0,bv,cu,cr,ct,ac⟩:∃s0 r0:Nat,(cond (decide ((z:Int)<m)) (some (wi (wi ((z:Int)+m)-b),(z:Int))) (some (a,m)):Option (Int×Int))=some ((s0:Int),(r0:Int))/\s0<=r0/\A<=s0/\r0<=A+K/\r0<=z/\((s0=A/\r0=A+K/\A+K<=z)\/(z=s0+N/\r0=z/\z<A+K)):=by
  by_cases hc:z<A+K
  ·refine⟨z+(A+K)-(A+K+N),z,?_,by omega,by omega,by omega,by omega,.inr ⟨by omega,rfl,by omega⟩⟩
   have:decide ((z:Int)<m)=true:=by simp;omega
   rw[this,cQ,wn (n:=(z:Int)+m) (by omega) (by omega),wn (by omega) (by omega)];congr 2;omega
  ·refine⟨A,A+K,?_,by omega,by omega,by omega,by omega,.inl ⟨rfl,rfl,by omega⟩⟩
   have:decide ((z:Int)<m)=false:=by simp;omega
   rw[this,cP,ha,hm,hA,hK]
 have ad:wi ((wu (wi (a+b)))/2 ^ 1)=(z:Int):=by
  rw[ha,hb,<-hA,<-hK,<-hN,zNQ (lo:=A) (hi:=A+K+N) (by omega),ba]
 have ap:∀c,s0<=c->c<r0->A<=c/\c-A<K/\A+K<=z+(A+K)-1-c/\z+(A+K)-1-c-(A+K)<N:=λc T h2=>by
  rcases ac with Z | Z<;>omega
 obtain⟨j,j1,j2,j3,j4,j5⟩:=z11 (body:=λ(q:Int×Int)=>yW (p++L++R++s) a b m f q.1 q.2) (λc=>decide (key (nth R (z+(A+K)-1-c-(A+K)))<key (nth L (c-A)))) s0 r0
  (λk _ _=>by
   show yW _ a b m f _ _=_;simp only[yW,yY (dF _),cP])
  (λlo hi T h2 Z=>by
   show yW _ a b m f _ _=_;obtain⟨c1,c2,c3,c4⟩:=ap ((lo+hi)/2) (by omega) (by omega);have i1:zV (p++L++R++s) (((lo+hi)/2:Nat):Int)=some (nth L ((lo+hi)/2-A)):=by
    have:=bq ((lo+hi)/2-A) c2;rw[show A+((lo+hi)/2-A)=(lo+hi)/2 by omega] at this;exact this
   have i2:zV (p++L++R++s) ((z+(A+K)-1-(lo+hi)/2:Nat):Int)=some (nth R (z+(A+K)-1-(lo+hi)/2-(A+K))):=by
    have:=br (z+(A+K)-1-(lo+hi)/2-(A+K)) c4;rw[show A+K+(z+(A+K)-1-(lo+hi)/2-(A+K))=z+(A+K)-1-(lo+hi)/2 by omega] at this;exact this
   have e1:wi (wi (wi ((z:Int)+m)-1)-(((lo+hi)/2:Nat):Int))=((z+(A+K)-1-(lo+hi)/2:Nat):Int):=by
    rw[wn (n:=(z:Int)+m) (by omega) (by omega),wn (n:=(z:Int)+m-1) (by omega) (by omega),wn (by omega) (by omega)];omega
   simp only[yW,yF h2,cQ,ad,zNQ (lo:=lo) (hi:=hi) (by omega),e1,i1,i2,zA,hf,z3R];by_cases hc:key (nth R (z+(A+K)-1-(lo+hi)/2-(A+K)))<key (nth L ((lo+hi)/2-A))
   ·simp only[hc,dD,dG,cP,zA,dH]
   ·simp only[hc,dI,dO,cQ,zA,dR,cY,zC (k:=(lo+hi)/2) (by omega)])
  (λi k T h2 Z hq=>by
   simp only[c8] at hq ⊢;obtain⟨c1,c2,c3,c4⟩:=ap i T (by omega);obtain⟨d1,d2,d3,d4⟩:=ap k (by omega) Z;have q1:=zHZ hL (i:=i-A) (j:=k-A) (by omega) (by omega);have q2:=zHZ hR (i:=z+(A+K)-1-k-(A+K)) (j:=z+(A+K)-1-i-(A+K)) (by omega) (by omega);omega) (r0-s0) s0 r0 (by omega) (by omega) bv (by omega)
 obtain⟨L1,al⟩:∃x,x=L.take (j-A):=⟨_,rfl⟩;obtain⟨G,am⟩:∃x,x=L.drop (j-A):=⟨_,rfl⟩;obtain⟨Y,an⟩:∃x,x=R.take (z-j):=⟨_,rfl⟩;obtain⟨H,ao⟩:∃x,x=R.drop (z-j):=⟨_,rfl⟩;have eL:L=L1++G:=by rw[al,am,em]
 have eR:R=Y++H:=by rw[an,ao,em]
 have da:L1.length=j-A:=by rw[al];simp;omega
 have df:Y.length=z-j:=by rw[an];simp;rcases ac with Z | Z<;>omega
 have dc:G.length=A+K-j:=by rw[am];simp;omega
 have dg:H.length=N-(z-j):=by rw[ao];simp;omega
 have cm:j<=z:=by omega
 have ck:z-j<=N:=by rcases ac with Z | Z<;>omega
 have az:∀x∈Y,∀y∈G,key x<key y:=λx O y hy=>by
  rw[an] at O;rw[am] at hy;obtain⟨i,i1,i2,rfl⟩:=zEK O;obtain⟨k,k1,k2,rfl⟩:=zGG hy;have bt:j<r0:=by rcases ac with h4 | h4<;>omega
  have:=j5 j (dF _) bt;simp only[c8] at this;have q1:=zHZ hL (i:=j-A) (j:=k) (by omega) (by omega);have q2:=zHZ hR (i:=i) (j:=z+(A+K)-1-j-(A+K)) (by omega) (by omega);omega
 have bu:∀x∈L1,∀y∈H,key x<=key y:=λx O y hy=>by
  rw[al] at O;rw[ao] at hy;obtain⟨i,i1,i2,rfl⟩:=zEK O;obtain⟨k,k1,k2,rfl⟩:=zGG hy;have cn:s0<j:=by rcases ac with h4 | h4<;>omega
  have:=j4 (j-1) (by omega) (by omega);simp only[dC] at this;have q1:=zHZ hL (i:=i) (j:=j-1-A) (by omega) (by omega);have q2:=zHZ hR (i:=z+(A+K)-1-(j-1)-(A+K)) (j:=k) (by omega) (by omega);omega
 rw[eL] at hL;rw[eR] at hR;obtain⟨bc,bd,bl⟩:=zGF.1 hL;obtain⟨be,bf,bo⟩:=zGF.1 hR;have ay:wi (wi ((z:Int)+m)-(j:Int))=((z+(A+K)-j:Nat):Int):=by
  rw[wn (n:=(z:Int)+m) (by omega) (by omega),wn (by omega) (by omega)];omega
 unfold yA;have e1:decide (wi (m-a)=1)=false:=by rw[wn (by omega) (by omega)];simp;omega
 have e2:decide (wi (b-m)=1)=false:=by rw[wn (by omega) (by omega)];simp;omega
 simp only[e1,cP,e2,ad,h0,zA,j3,ay,zF];have bb:(cond (decide ((j:Int)<m)&&decide (m<((z+(A+K)-j:Nat):Int))) ((jU (p++L++R++s) (j:Int) m ((z+(A+K)-j:Nat):Int) f).bind λbg=>some bg) (some (p++L++R++s)):Option (List Int))=some (p++L1++Y++(G++H++s)):=by
  by_cases hc:j<A+K/\A+K<z+(A+K)-j
  ·have D:(decide ((j:Int)<m)&&decide (m<((z+(A+K)-j:Nat):Int)))=true:=by simp;omega
   have hr:=yJB (f:=f) (P:=p++L1) (U:=G) (V:=Y) (S:=H++s) (a:=(j:Int)) (m:=m) (b:=((z+(A+K)-j:Nat):Int)) (by simp;omega) (by simp;omega) (by simp;omega) (by omega) (by omega) (by simp;omega)
   rw[show p++L1++G++Y++(H++s)=p++L++R++s by rw[eL,eR];simp] at hr
   rw[D,cQ,hr];simp
  ·have D:(decide ((j:Int)<m)&&decide (m<((z+(A+K)-j:Nat):Int)))=false:=by
    simp only[eA,dC];by_cases T:j<A+K
    ·right;omega
    ·left;omega
   rw[D,cP];by_cases T:j<A+K
   ·have:Y= []:=cS (by omega)
    rw[eL,eR,this];simp
   ·have:G= []:=cS (by omega)
    rw[eL,eR,this];simp
 rw[bb,zA];obtain⟨M1,bm,bw,ak⟩:∃M1,(cond (decide (a<(j:Int))&&decide ((j:Int)<(z:Int))) ((ai (p++L1++Y++(G++H++s)) a (j:Int) (z:Int) f).bind λbh=>some bh) (some (p++L1++Y++(G++H++s))):Option (List Int))=some (p++M1++(G++H++s))/\Srt key M1/\Flt key (L1++Y) M1:=by
  by_cases hc:A<j/\j<z
  ·have D:(decide (a<(j:Int))&&decide ((j:Int)<(z:Int)))=true:=by simp;omega
   obtain⟨M,T,h2,Z⟩:=ih p L1 Y (G++H++s) a (j:Int) (z:Int) (by omega) (by omega) (by omega) bc be ha (by omega) (by omega) (by omega);exact⟨M,by rw[D,cQ,T];rfl,h2,Z⟩
  ·have D:(decide (a<(j:Int))&&decide ((j:Int)<(z:Int)))=false:=by
    simp only[eA,dC];by_cases T:A<j
    ·right;omega
    ·left;omega
   refine⟨L1++Y,by rw[D,cP];simp,?_,Flt.refl _⟩
   by_cases T:A<j
   ·have:Y= []:=cS (by omega)
    rw[this];simpa using bc
   ·have:L1= []:=cS (by omega)
    rw[this];simpa using be
 rw[bm,zA];have de:M1.length=z-A:=by rw[<-ak.len];simp;omega
 obtain⟨M2,bn,bx,au⟩:∃M2,(cond (decide ((z:Int)<((z+(A+K)-j:Nat):Int))&&decide (((z+(A+K)-j:Nat):Int)<b)) ((ai (p++M1++(G++H++s)) (z:Int) ((z+(A+K)-j:Nat):Int) b f).bind λbi=>some bi) (some (p++M1++(G++H++s))):Option (List Int))=some (p++(M1++M2)++s)/\Srt key M2/\Flt key (G++H) M2:=by
  by_cases hc:z<z+(A+K)-j/\z+(A+K)-j<A+K+N
  ·have D:(decide ((z:Int)<((z+(A+K)-j:Nat):Int))&&decide (((z+(A+K)-j:Nat):Int)<b))=true:=by simp;omega
   obtain⟨M,T,h2,Z⟩:=ih (p++M1) G H s (z:Int) ((z+(A+K)-j:Nat):Int) b (by omega) (by omega) (by omega) bd bf (by simp;omega) (by simp;omega) (by simp;omega) (by simp;omega)
   rw[show p++M1++G++H++s=p++M1++(G++H++s) by simp] at T;exact⟨M,by rw[D,cQ,T];simp,h2,Z⟩
  ·have D:(decide ((z:Int)<((z+(A+K)-j:Nat):Int))&&decide (((z+(A+K)-j:Nat):Int)<b))=false:=by
    simp only[eA,dC];by_cases T:z<z+(A+K)-j
    ·right;omega
    ·left;omega
   refine⟨G++H,by rw[D,cP];simp,?_,Flt.refl _⟩
   by_cases T:z<z+(A+K)-j
   ·have:H= []:=cS (by omega)
    rw[this];simpa using bd
   ·have:G= []:=cS (by omega)
    rw[this];simpa using bf
 refine⟨M1++M2,bn,zGF.2 ⟨bw,bx,λx O y hy=>?_⟩,?_⟩
 ·have O:=ak.mem.2 O
  have hy:=au.mem.2 hy;rcases eN.1 O with O | O<;>rcases eN.1 hy with hy | hy
  ·exact bl x O y hy
  ·exact bu x O y hy
  ·have:=az x O y hy;omega
  ·exact bo x O y hy
 ·have T:Flt key (G++Y) (Y++G):=Flt.swap λx O y hy=>by have:=az y hy x O;omega
  have h2:=(Flt.refl (key:=key) L1).app (T.app (Flt.refl H));have Z:=ak.app au;rw[eL,eR];refine Flt.trans ?_ Z;simpa using h2
theorem yAF:∀(n:Nat) (p L R s:List Int) (a m b:Int),L.length+R.length<=2 ^ n->0<L.length->0<R.length->Srt key L->Srt key R->a=(p.length:Int)->m=((p.length+L.length:Nat):Int)->b=((p.length+L.length+R.length:Nat):Int)->p.length+L.length+R.length<=2000->
  ∃M,kA (n+1) (p++L++R++s) a m b f=some (p++M++s)/\Srt key M/\Flt key (L++R) M:=by
 intro n
 induction n with
 | zero=>intro p L R s a m b h;omega
 | succ n ih=>
  intro p L R s a m b T l1 r1 D G k z hb h;show ∃M,yA (kA (n+1)) (p++L++R++s) a m b f=_/\_;by_cases Y:L.length=1
  ·obtain⟨x,rfl⟩:=List.length_eq_one_iff.1 Y
   exact yN2 hf G k (by simpa using z) (by simpa using hb) (by simpa using h)
  ·by_cases Z:R.length=1
   ·obtain⟨y,rfl⟩:=List.length_eq_one_iff.1 Z
    exact yN3 hf D (by omega) k z (by simpa using hb) (by simpa using h)
   ·refine yN4 hf D G (by omega) (by omega) k z hb h λp' H R' s' K m' O h1=>ih p' H R' s' K m' O ?_
    rw[Nat.pow_succ] at T;omega
end
open Go.AV
set_option linter.unusedSimpArgs false
set_option linter.unusedVariables false
section
variable {key:Int->Int} {f:Int->Int->Option Int} (hf:∀x y,f x y=some (sg (key x) (key y)))
theorem k59:(2000:Nat)<=2 ^ 59:=by decide
def OkB (key:Int->Int) (bs:Nat) (Bs:List (List Int)):Prop:= ∀B∈Bs,B.length=bs/\Srt key B
include hf
theorem yN5:∀(n:Nat) (P rest:List Int) (Nn:Int),rest.length<=n->Nn=((P.length+rest.length:Nat):Int)->P.length+rest.length<=2000->
  ∃Bs D,zB (λ(x:Int×Int×(List Int))=>zY Nn f x.1 x.2.1 x.2.2) ((P.length:Int),((P.length+20:Nat):Int),P++rest)=some (((P.length+(Bs.flatten).length:Nat):Int),P++Bs.flatten++D)/\OkB key 20 Bs/\D.length<20/\Flt key rest (Bs.flatten++D):=by
 intro n
 induction n with
 | zero=>
  intro P rest Nn hn O h;have:rest= []:=cS (by omega);subst this;refine⟨[],[],zD ?_,(λB z=>by cases z),by simp,Flt.refl _⟩;show zY Nn f _ _ _=_;have G:decide (((P.length+20:Nat):Int)<=Nn)=false:=by simp at O ⊢;omega
  simp only[zY,G,cP];simp
 | succ n ih=>
  intro P rest Nn hn O h;by_cases hc:20<=rest.length
  ·have T:=yLX hf (p:=P) (m:=rest.take 20) (t:=rest.drop 20) (a:=(P.length:Int)) (b:=((P.length+20:Nat):Int)) rfl (by simp;omega) (by simp;omega)
   rw[dB P,em] at T;have k:=zL6 (key:=key) (rest.take 20) [];rw[dS] at k;obtain⟨B,z⟩:∃B,B=uK (λa b=>decide (key a<key b)) (rest.take 20) []:=⟨_,rfl⟩;rw[<-z] at T k;have H:B.length=20:=by rw[<-k.len];simp;omega
   have K:Srt key B:=by rw[z];exact zP1 _
   obtain⟨Bs,D,h1,h2,h3,h4⟩:=ih (P++B) (rest.drop 20) Nn (by simp;omega) (by rw[O];simp;omega) (by simp;omega)
   refine⟨B::Bs,D,?_,?_,h3,?_⟩
   ·rw[zG (x':=(((P++B).length:Int),(((P++B).length+20:Nat):Int),(P++B)++rest.drop 20)),h1]
    ·simp[gv]
    ·show zY Nn f _ _ _=_
     have G:decide (((P.length+20:Nat):Int)<=Nn)=true:=by simp;omega
     have Y:wi (((P.length+20:Nat):Int)+20)=(((P++B).length+20:Nat):Int):=by rw[wn (by omega) (by omega)];simp;omega
     have Z:((P.length+20:Nat):Int)=((P++B).length:Int):=by simp;omega
     simp only[zY,G,cQ,T,zA,Y];rw[Z]
   ·intro C hC
    rcases dN.1 hC with e | e
    ·rw[e];exact⟨H,K⟩
    ·exact h2 C e
   ·have:=k.app h4
    rw[em] at this;simpa using this
  ·refine⟨[],rest,zD ?_,(λB z=>by cases z),by omega,Flt.refl _⟩
   show zY Nn f _ _ _=_;have G:decide (((P.length+20:Nat):Int)<=Nn)=false:=by simp;omega
   simp only[zY,G,cP];simp
theorem yL0 (bs:Nat) (O:0<bs) (Y:bs<=2000) (T:List Int) (hT:T.length<bs):∀(Bs:List (List Int)) (P:List Int) (Nn:Int),OkB key bs Bs->Nn=((P.length+Bs.flatten.length+T.length:Nat):Int)->P.length+Bs.flatten.length+T.length<=2000->
  ∃Cs Ds,zB (λ(x:Int×Int×(List Int))=>zZ Nn (bs:Int) f x.1 x.2.1 x.2.2) ((P.length:Int),((P.length+2*bs:Nat):Int),P++Bs.flatten++T)=some (((P.length+Cs.flatten.length:Nat):Int),P++Cs.flatten++Ds.flatten++T)/\OkB key (2*bs) Cs/\OkB key bs Ds/\Ds.length<=1/\Flt key Bs.flatten (Cs.flatten++Ds.flatten)
 | [],P,Nn,z,D,h=>by
  refine⟨[],[],zD ?_,(λB k=>by cases k),(λB k=>by cases k),by simp,Flt.refl _⟩;show zZ Nn _ f _ _ _=_;have G:decide (((P.length+2*bs:Nat):Int)<=Nn)=false:=by simp at D ⊢;omega
  simp only[zZ,G,cP];simp
 | [B],P,Nn,z,D,h=>by
  have k:=(z B (by simp)).1;refine⟨[],[B],zD ?_,(λB k=>by cases k),z,by simp,by simpa using Flt.refl B⟩;show zZ Nn _ f _ _ _=_;have G:decide (((P.length+2*bs:Nat):Int)<=Nn)=false:=by simp at D ⊢;omega
  simp only[zZ,G,cP];simp
 | H::K::Bs,P,Nn,z,D,h=>by
  obtain⟨l1,s1⟩:=z H (by simp);obtain⟨l2,s2⟩:=z K (by simp);simp only[gJ,cZ] at D h;obtain⟨M,m1,m2,Z⟩:=yAF hf 59 P H K (Bs.flatten++T) (P.length:Int) ((P.length+bs:Nat):Int) ((P.length+2*bs:Nat):Int) (d7 (by omega) k59) (by omega) (by omega) s1 s2 rfl (by rw[l1]) (by omega) (by omega);have hM:M.length=2*bs:=by rw[<-Z.len];simp;omega
  obtain⟨Cs,Ds,h1,h2,h3,h4,h5⟩:=yL0 bs O Y T hT Bs (P++M) Nn (λB k=>z B (by simp[k])) (by rw[D,cZ];omega) (by rw[cZ];omega)
  refine⟨M::Cs,Ds,?_,?_,h3,h4,?_⟩
  ·rw[zG (x':=(((P++M).length:Int),(((P++M).length+2*bs:Nat):Int),(P++M)++Bs.flatten++T)),h1]
   ·simp[gv]
   ·show zZ Nn _ f _ _ _=_
    have G:decide (((P.length+2*bs:Nat):Int)<=Nn)=true:=by simp;omega
    have e0:wi ((P.length:Int)+(bs:Int))=((P.length+bs:Nat):Int):=by rw[wn (by omega) (by omega)];omega
    have e2:wi (2*(bs:Int))=((2*bs:Nat):Int):=by rw[wn (by omega) (by omega)];omega
    have e3:wi (((P.length+2*bs:Nat):Int)+((2*bs:Nat):Int))=(((P++M).length+2*bs:Nat):Int):=by rw[wn (by omega) (by omega)];simp;omega
    have e4:P++(H::K::Bs).flatten++T=P++H++K++(Bs.flatten++T):=by simp
    have e5:((P.length+2*bs:Nat):Int)=((P++M).length:Int):=by simp;omega
    simp only[zZ,G,cQ,e0,e2,e3,e4,m1,zA];rw[e5];simp
  ·intro C hC
   rcases dN.1 hC with e | e
   ·rw[e];exact⟨hM,m2⟩
   ·exact h2 C e
  ·have:=Z.app h5
   simpa using this
theorem yN6 (Nn:Int) (N:Nat) (G:Nn=(N:Int)) (az:N<=2000):∀(n bs:Nat) (Bs:List (List Int)) (T:List Int),N-bs<=n->0<bs->bs<=4000->OkB key bs Bs->Srt key T->T.length<bs->Bs.flatten.length+T.length=N->
  ∃r,zB (λ(x:Int×(List Int))=>yE Nn f x.1 x.2) ((bs:Int),Bs.flatten++T)=some r/\Srt key r/\Flt key (Bs.flatten++T) r:=by
 have O:∀(bs:Nat) (Bs:List (List Int)) (T:List Int),N<=bs->0<bs->OkB key bs Bs->Srt key T->T.length<bs->Bs.flatten.length+T.length=N->
  ∃r,zB (λ(x:Int×(List Int))=>yE Nn f x.1 x.2) ((bs:Int),Bs.flatten++T)=some r/\Srt key r/\Flt key (Bs.flatten++T) r:=by
  intro bs Bs T h1 Y H z Z K;refine⟨Bs.flatten++T,zD ?_,?_,Flt.refl _⟩
  ·show yE Nn f _ _=_
   simp only[yE,G,yY h1,cP]
  ·cases Bs with
   | nil=>simpa using z
   | cons B Bs=>
    have hB:=H B (by simp);simp only[gJ,cZ] at K;have e1:Bs.flatten= []:=cS (by omega);have e2:T= []:=cS (by omega);simp only[gJ,e1,e2,ez];exact hB.2
 intro n
 induction n with
 | zero=>intro bs Bs T h1 Y aj H z Z K;exact O bs Bs T (by omega) Y H z Z K
 | succ n ih=>
  intro bs Bs T h1 Y aj H z Z K;by_cases hc:N<=bs
  ·exact O bs Bs T hc Y H z Z K
  ·obtain⟨Cs,Ds,c1,c2,c3,c4,c5⟩:=yL0 hf bs Y (by omega) T Z Bs [] Nn H (by rw[G,d6];omega) (by rw[d6];omega)
   simp only[d6,eD,dS] at c1;have aa:Cs.flatten.length+Ds.flatten.length=Bs.flatten.length:=by rw[c5.len,cZ]
   obtain⟨h,t1,t2,t3,t4⟩:∃h,(cond (decide ((wi (((Cs.flatten.length:Nat):Int)+(bs:Int)))<Nn)) ((kA 60 (Cs.flatten++Ds.flatten++T) ((Cs.flatten.length:Nat):Int) (wi (((Cs.flatten.length:Nat):Int)+(bs:Int))) Nn f).bind λam=>some am) (some (Cs.flatten++Ds.flatten++T)):Option (List Int))=some (Cs.flatten++h)/\Srt key h/\h.length<2*bs/\Flt key (Ds.flatten++T) h:=by
    have e0:wi (((Cs.flatten.length:Nat):Int)+(bs:Int))=((Cs.flatten.length+bs:Nat):Int):=by rw[wn (by omega) (by omega)];omega
    match Ds,c3,c4 with
    | [],_,_=>
     simp only[List.flatten_nil,d6] at aa;refine⟨T,?_,z,by omega,by simpa using Flt.refl T⟩;rw[e0,G,yY (k:=Cs.flatten.length+bs) (n:=N) (by omega),cP];simp
    | [D],c3,_=>
     have hD:=c3 D (by simp);simp only[gJ,List.flatten_nil,ez] at aa ⊢;by_cases al:T.length=0
     ·have:T= []:=cS al
      subst this;refine⟨D,?_,hD.2,by omega,by simpa using Flt.refl D⟩;rw[e0,G,yY (k:=Cs.flatten.length+bs) (n:=N) (by rw[d6] at K;omega),cP]
      simp
     ·obtain⟨M,m1,m2,m3⟩:=yAF hf 59 Cs.flatten D T [] (Cs.flatten.length:Int) ((Cs.flatten.length+bs:Nat):Int) Nn (d7 (by omega) k59) (by omega) (by omega) hD.2 z rfl (by rw[hD.1]) (by omega) (by omega)
      simp only[ez] at m1;refine⟨M,?_,m2,by rw[<-m3.len,cZ];omega,m3⟩
      rw[e0,G,yF (k:=Cs.flatten.length+bs) (n:=N) (by omega),cQ,<-G,m1];rfl
   obtain⟨r,r1,r2,r3⟩:=ih (2*bs) Cs h (by omega) (by omega) (by omega) c2 t2 t3 (by rw[<-t4.len,cZ];omega)
   refine⟨r,?_,r2,?_⟩
   ·rw[zG (x':=(((2*bs:Nat):Int),Cs.flatten++h)),r1]
    show yE Nn f _ _=_;have e1:decide ((bs:Int)<Nn)=true:=by rw[G];exact yF (by omega)
    have e2:wi (2*(bs:Int))=((2*bs:Nat):Int):=by rw[wn (by omega) (by omega)];omega
    have e3:wi ((bs:Int)*2)=((2*bs:Nat):Int):=by rw[wn (by omega) (by omega)];omega
    simp only[yE,e1,cQ,e2];have ab:zB (λ(x:Int×Int×(List Int))=>zZ Nn (bs:Int) f x.1 x.2.1 x.2.2) (0,((2*bs:Nat):Int),Bs.flatten++T)=some (((Cs.flatten.length:Nat):Int),Cs.flatten++Ds.flatten++T):=c1;rw[ab,zA];simp only[t1,zA,e3]
   ·refine Flt.trans ?_ r3
    have:=c5.app (Flt.refl (key:=key) T);refine this.trans ?_;rw[dB];exact(Flt.refl _).app t4
theorem z6F (l:List Int) (h:l.length<=2000):∃r,kR l f=some r/\Srt key r/\Flt key l r:=by
 unfold kR vK;obtain⟨Bs,z,H,T,Y,K⟩:=yN5 hf l.length [] l (l.length:Int) (dF _) (by simp) (by simpa using h);simp only[d6,eD,dS] at H;have D:zB (λ(x:Int×Int×(List Int))=>zY (l.length:Int) f x.1 x.2.1 x.2.2) (0,20,l)=some (((Bs.flatten.length:Nat):Int),Bs.flatten++z):=H;rw[D,zA];have Z:Bs.flatten.length+z.length=l.length:=by rw[K.len,cZ]
 have O:=yLX hf (p:=Bs.flatten) (m:=z) (t:=[]) (a:=((Bs.flatten.length:Nat):Int)) (b:=(l.length:Int)) rfl (by omega) (by omega);simp only[ez] at O;have k:=zL6 (key:=key) z [];rw[dS] at k;obtain⟨r,r1,r2,r3⟩:=yN6 hf (l.length:Int) l.length rfl h l.length 20 Bs (uK (λa b=>decide (key a<key b)) z []) (by omega) (by omega) (by omega) T (zP1 _) (by rw[<-k.len];exact Y) (by rw[<-k.len];exact Z)
 have G:zB (λ(x:Int×(List Int))=>yE (l.length:Int) f x.1 x.2) (20,Bs.flatten++uK (λa b=>decide (key a<key b)) z [])=some r:=r1;refine⟨r,?_,r2,K.trans (((Flt.refl _).app k).trans r3)⟩;simp only[O,zA,G]
end
end Go.M


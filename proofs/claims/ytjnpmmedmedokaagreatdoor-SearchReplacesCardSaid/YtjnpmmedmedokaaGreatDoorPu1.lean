/- What the plain counterparts answer. Conditions: none. -/
import Derived.Test.YtjnpmmedmedokaaGreatDoorMir
set_option linter.unusedSimpArgs false
set_option linter.unusedVariables false
set_option linter.unnecessarySimpa false
namespace Go.M
open Go.AV
theorem xY {n:Int} (h: -9223372036854775808<=n) (k:n<=9223372036854775807):wi n=n:=w64 h k
theorem zK {k:Nat} (h:k+1<=9223372036854775807):wi ((k:Int)+1)=((k+1:Nat):Int):=by rw[xY (by omega) (by omega)];omega
theorem zD6 {k:Nat} (h:k+1<=9223372036854775807):wi (((k+1:Nat):Int)-1)=(k:Int):=by rw[xY (by omega) (by omega)];omega
theorem yU {k n:Nat} (h:k<n):decide ((k:Int)<(n:Int))=true:=by simp;omega
theorem kJ {k n:Nat} (h:n<=k):decide ((k:Int)<(n:Int))=false:=by simp;omega
theorem zV {D:Type} {l:List D} {k:Nat} (h:k<l.length):yD l (k:Int)=some l[k]:=by unfold yD;rw[dI (by omega)];simp[h]
theorem yG3 {h:Type} {x: h} {l:List h}:yD (x::l) 0=some x:=rfl
theorem zID {D:Type} {l:List D} {k:Nat} (h:k<l.length) (x: D):zBD l (k:Int) x=some (l.set k x):=by unfold zBD;rw[dI ⟨by omega,by simpa using h⟩];simp
theorem jX {k:Type} {l m:List k} (h:l.length+m.length<=4294967296):app l m=some (l++m):=by unfold app;rw[dI (by unfold LIM;exact h)]
theorem z1O {k:Type} {z: k} {n:Nat} (h:n<=4294967296):mkM z (n:Int)=some (List.replicate n z):=by unfold mkM;rw[dI ⟨by omega,by unfold LIM;simpa using h⟩];simp
theorem zSR {k:Type} {l:List k} {a b:Nat} (D:a<=b) (h:b<=l.length):slc l (a:Int) (b:Int)=some ((l.take b).drop a):=by unfold slc;rw[dI ⟨by omega,by omega,by simpa using h⟩];simp
theorem zFE {k:Type} {l:List k} {b:Nat} (h:b<=l.length):slc l 0 (b:Int)=some (l.take b):=by have:=zSR (l:=l) (a:=0) (b:=b) (by omega) h;simpa using this
theorem zIE {k:Type} {l:List k} {a:Nat} (h:a<=l.length):slc l (a:Int) (l.length:Int)=some (l.drop a):=by have:=zSR (l:=l) (a:=a) (b:=l.length) h (dA _);simpa using this
theorem zO {h k:Type} (x: h) (f: h->Option k):(pv x).bind f=f x:=rfl
theorem xS {h:Type} [Inhabited h] (m:Option h):gM true m=m:=rfl
theorem vF {h:Type} [Inhabited h] (m:Option h):gM false m=some default:=rfl
theorem zA {h k:Type} (x: h) (f: h->Option k):(some x).bind f=f x:=rfl
theorem zN {X Y:Type} {body:X->Option (Stp X Y)} {x x':X} (h:body x=some (.next x')):zE body x=zE body x':=by rw[xJ,h]
theorem zL {X Y:Type} {body:X->Option (Stp X Y)} {x:X} {y:Y} (h:body x=some (.done y)):zE body x=some y:=by rw[xJ,h]
theorem z0:((0:Nat):Int)=0:=rfl
open Go.AV
def chk {A Y:Type} (p:Nat->A->Option Y):List A->Nat->Option Y
 | [],_=>none
 | x::xs,k=>match p k x with
  | some y=>some y
  | none=>chk p xs (k+1)
def toS {Y:Type}:Option Y->Unit⊕Y
 | some y=> .inr y
 | none=> .inl ()
def stp {Y:Type} (k:Nat):Option Y->Stp Int (Unit⊕Y)
 | some y=> .done (.inr y)
 | none=> .next ((k+1:Nat):Int)
theorem z45 {A Y:Type} (l:List A) {body:Int->Option (Stp Int (Unit⊕Y))} (p:Nat->A->Option Y)
  (s:Nat) (hb:∀k (h:k<l.length),s<=k->body (k:Int)=some (stp k (p k l[k]))) (H:∀k:Nat,l.length<=k->body (k:Int)=some (.done (.inl ()))):
  ∀(n k:Nat),s<=k->l.length-k=n->zE body (k:Int)=some (toS (chk p (l.drop k) k)):=by
 intro n
 induction n with
 | zero=>
  intro k G K;rw[xJ,H k (by omega),dC (by omega)];rfl
 | succ n O=>
  intro k G K;have D:k<l.length:=by omega
  rw[xJ,hb k D G,cY D];simp only[chk];cases T:p k l[k] with
  | some y=>rfl
  | none=>exact O (k+1) (by omega) (by omega)
theorem xT {A Y:Type} (l:List A) {body:Int->Option (Stp Int (Unit⊕Y))} (p:Nat->A->Option Y)
  (hb:∀k (h:k<l.length),body (k:Int)=some (stp k (p k l[k]))) (D:∀k:Nat,l.length<=k->body (k:Int)=some (.done (.inl ()))):zE body 0=some (toS (chk p l 0)):=by
 have:=z45 l p 0 (λk h _=>hb k h) D l.length 0 (by omega) (by omega);simpa using this
theorem xD {Y Z:Type} (o:Option Y) (f:Unit->Option Z) (g:Y->Option Z):(toS o).elim f g=match o with | some y=>g y | none=>f ():=by cases o<;>rfl
abbrev MX:Nat:=9223372036854775807
def zHD (t:Int):Bool:=((((decide (65<=t)&&decide (t<=90)) ||(decide (97<=t)&&decide (t<=122))) ||(decide (48<=t)&&decide (t<=57))) ||decide (t=95))
theorem z1P:wM=zHI:=rfl
theorem z47 {s:Str} {k:Nat} (h:k<s.length):z3I s (k:Int)=some (s[k].toNat:Int):=by unfold z3I;rw[zV h];rfl
theorem zTO (s:Str) (D:s.length<=MX):zE (λ(x:Int)=>wM s x) 0=some (toS (chk (λ_ (b:UInt8)=>if zHD (b.toNat:Int) then none else some false) s 0)):=by
 refine xT s _ (λk h=>?_) (λk h=>?_);simp only[wM,yU h,cN,z47 h,zA,zO,zK (k:=k) (by unfold MX at D;omega)]
 by_cases hb:zHD (s[k].toNat:Int)=true;simp only[hb,dG,stp];unfold zHD at hb;rw[hb];rfl;simp only[hb,cV,stp];unfold zHD at hb;simp only[gY] at hb;rw[hb];rfl;simp only[wM,kJ h,cM]
def zOC (s:Str):Bool:=match chk (λ_ (b:UInt8)=>if zHD (b.toNat:Int) then none else some false) s 0 with
 | some y=>y
 | none=>decide (1<=s.length)&&decide (s.length<=32)
theorem yDG {s:Str} (k:s.length<=MX):zCQ s=some (zOC s):=by
 unfold zCQ zOC;rw[zTO s k,zA,xD];cases chk (λ_ (b:UInt8)=>if zHD (b.toNat:Int) then none else some false) s 0 with
 | some y=>rfl
 | none=>
  simp only[zO];congr 1;cases s with
  | nil=>rfl
  | cons x l=>
   have h:((x::l:Str)== [])=false:=rfl;rw[h];simp;omega
theorem z91 {s:Str} (h:s.length<=MX):zG0 s=some (zOC s):=by
 unfold zG0 zOC;rw[<-z1P,zTO s h,zA,xD];cases chk (λ_ (b:UInt8)=>if zHD (b.toNat:Int) then none else some false) s 0 with
 | some y=>rfl
 | none=>
  simp only[zO];congr 1;congr 1;simp;omega;simp;omega
def gpN (_:Nat) (g:b6):Option Int:=if zOC g.bS then none else some 6
def gpR (b:Int) (_:Nat) (g:b6):Option Int:=if g.Lo<1\/g.Hi<g.Lo\/b<=g.Hi then some 1 else none
def gpO (l:List b6) (k:Nat) (g:b6):Option Int:=if 0<k/\¬g.Lo=wi ((l.getD (k-1) default).Hi+1) then some 4 else none
def gpT (l:List b6) (k:Nat) (g:b6):Option Int:=if g.bS∈(l.take k).map (·.bS) then some 5 else none
section
variable {c:Collation} (hg:c.aF.length<=2000) (hn:∀g∈c.aF,g.bS.length<=MX)
include hg
theorem wiS {k:Nat} (h:k<c.aF.length):wi ((k:Int)+1)=((k+1:Nat):Int):=zK (by omega)
include hn in
theorem gL0:zE (λ(x:Int)=>xN c x) 0=some (toS (chk gpN c.aF 0)):=by refine xT c.aF _ (λk h=>?_) (λk h=>?_);simp only[xN,yU h,cN,zV h,zA,yDG (hn _ (eJ h)),wiS hg h,gpN];cases zOC (c.aF[k]).bS<;>rfl;simp only[xN,kJ h,cM]
include hn in
theorem rL0:zE (λ(x:Int)=>zBV c x) 0=some (toS (chk gpN c.aF 0)):=by refine xT c.aF _ (λk h=>?_) (λk h=>?_);simp only[zBV,yU h,cN,zV h,zA,z91 (hn _ (eJ h)),wiS hg h,gpN];cases zOC (c.aF[k]).bS<;>rfl;simp only[zBV,kJ h,cM]
theorem gL2:zE (λ(x:Int)=>xO c x) 0=some (toS (chk (gpR c.bJ) c.aF 0)):=by refine xT c.aF _ (λk h=>?_) (λk h=>?_);simp only[xO,yU h,cN,zV h,zA,zO,wiS hg h,gpR];by_cases D:(c.aF[k]).Lo<1<;>by_cases G:(c.aF[k]).Hi<(c.aF[k]).Lo<;>by_cases H:c.bJ<=(c.aF[k]).Hi<;>simp[D,G,H,stp];simp only[xO,kJ h,cM]
theorem rL3:zE (λ(x:Int)=>zBY c x) 0=some (toS (chk (gpR c.bJ) c.aF 0)):=by refine xT c.aF _ (λk h=>?_) (λk h=>?_);simp only[zBY,yU h,cN,zV h,zA,zO,wiS hg h,gpR];by_cases D:(c.aF[k]).Lo<1<;>by_cases G:(c.aF[k]).Hi<(c.aF[k]).Lo<;>by_cases H:c.bJ<=(c.aF[k]).Hi<;>simp[D,G,H,stp,xS,vF,zA];simp only[zBY,kJ h,cM]
theorem gL3:zE (λ(x:Int)=>xP c x) 0=some (toS (chk (gpO c.aF) c.aF 0)):=by
 refine xT c.aF _ (λk h=>?_) (λk h=>?_);simp only[xP,yU h,cN,zV h,zA,zO,wiS hg h,gpO];cases k with
 | zero=>simp[vF,zA,stp]
 | succ k=>
  have D:k<c.aF.length:=by omega
  have G:wi (((k+1:Nat):Int)-1)=(k:Int):=zD6 (by omega);have H:decide ((0:Int)<((k+1:Nat):Int))=true:=by simp
  rw[H,xS,G,zV D,zA];have K:c.aF.getD (k+1-1) default=c.aF[k]:=by simp[D]
  rw[K];by_cases O:(c.aF[k+1]).Lo=wi ((c.aF[k]).Hi+1)<;>simp[O,stp]
 simp only[xP,kJ h,cM]
theorem rL4:zE (λ(x:Int)=>zAK c x) 1=some (toS (chk (gpO c.aF) (c.aF.drop 1) 1)):=by
 have:=z45 (body:=λ(x:Int)=>zAK c x) c.aF (gpO c.aF) 1 (λk h K=>?_) (λk h=>?_) (c.aF.length-1) 1 (by omega) rfl;exact this;simp only[zAK,yU h,cN,zV h,zA,wiS hg h,gpO];cases k with
 | zero=>omega
 | succ k=>
  have D:k<c.aF.length:=by omega
  have G:wi (((k+1:Nat):Int)-1)=(k:Int):=zD6 (by omega);rw[G,zV D,zA];have H:c.aF.getD (k+1-1) default=c.aF[k]:=by simp[D]
  rw[H];by_cases O:(c.aF[k+1]).Lo=wi ((c.aF[k]).Hi+1)<;>simp[O,stp]
 simp only[zAK,kJ h,cM]
omit hg in
theorem yR0:chk (gpO c.aF) c.aF 0=chk (gpO c.aF) (c.aF.drop 1) 1:=by
 cases h:c.aF with
 | nil=>rfl
 | cons g l=>simp[chk,gpO]
omit hg in
theorem zQB {H K:Type} [DecidableEq H] (m:List (H×K)) (k D: H) (v z: K):mgetD (wX m k v) D z=if D=k then v else mgetD m D z:=by
 unfold mgetD
 induction m with
 | nil=>simp only[wX,mget];by_cases h:D=k<;>simp[h,mget]
 | cons p m O=>
  obtain⟨q,u⟩:=p;simp only[wX];by_cases G:k=q;subst G;simp only[dG,mget];by_cases h:D=k<;>simp[h];simp only[G,cV,mget];by_cases h:D=q;subst h;have:¬D=k:=λe=>G e.symm;simp[this];simp only[h,cV];exact O
theorem gL1:∀(n k:Nat) (m:List (Str×Bool)),c.aF.length-k=n->k<=c.aF.length->(∀s,mgetD m s false=decide (s∈(c.aF.take k).map (·.bS)))->
    zE (λ(x:Int×(List (Str×Bool)))=>jW c x.1 x.2) ((k:Int),m)=some (toS (chk (gpT c.aF) (c.aF.drop k) k)):=by
  intro n
  induction n with
  | zero=>
    intro k m Y H K;have G:c.aF.length<=k:=by omega
    rw[xJ,dC G];simp only[jW,kJ G,cM,chk,toS]
  | succ n Z=>
    intro k m Y H K;have h:k<c.aF.length:=by omega
    rw[xJ,cY h];simp only[jW,yU h,cN,zV h,zA,K,wiS hg h,chk,gpT];by_cases D:(c.aF[k]).bS∈(c.aF.take k).map (·.bS)
    · simp only[D,dB,cN,dG,toS]
    · simp only[D,dH,cM,cV]
      refine Z (k+1) _ (by omega) (by omega) λs=>?_;rw[zQB,K s];have T:(c.aF.take (k+1)).map (·.bS)=(c.aF.take k).map (·.bS)++ [(c.aF[k]).bS]:=by
        rw[List.take_add_one,cO h,g9];rfl
      rw[T];by_cases O:s=(c.aF[k]).bS
      · simp[O]
      · simp[O]
omit hg in
theorem z92 {A Y:Type} (P:A->Bool) (y:Y):∀(l:List A) (k:Nat),chk (λ_ x=>if P x then some y else none) l k=if l.any P then some y else none
 | [],_=>rfl
 | x::l,k=>by
  simp only[chk,ir];by_cases h:P x=true;simp[h];simp only[h,dN,cV,eY];exact z92 P y l (k+1)
theorem rL1:zE (λ(x:Int)=>zBX c x) 0=some (toS (chk (gpT c.aF) c.aF 0)):=by
  refine xT c.aF _ (λk h=>?_) (λk h=>?_)
  · have H:zE (λ(x:Int)=>zBW (k:Int) c x) 0=some (toS (chk (λ_ (g:b6)=>if (g.bS==(c.aF[k]).bS) then some (5:Int) else none) (c.aF.take k) 0)):=by
      refine xT (c.aF.take k) _ (λj K=>?_) (λj K=>?_)
      · have O:j<k:=by rw[dZ] at K;omega
        have D:j<c.aF.length:=by omega
        have G:decide ((j:Int)<(k:Int))=true:=by simp;omega
        simp only[zBW,G,cN,zV D,zV h,zA,wiS hg D,List.getElem_take];by_cases T:((c.aF[j]).bS==(c.aF[k]).bS)=true
        · simp only[T,cN,dG,stp]
        · simp only[T,gY] at*
          simp only[T,cM,dN,cV,stp]
      · have O:k<=j:=by rw[dZ] at K;omega
        have G:decide ((j:Int)<(k:Int))=false:=by simp;omega
        simp only[zBW,G,cM]
    simp only[zBX,yU h,cN,H,zA,xD,z92,gpT,wiS hg h];have Z:((c.aF.take k).any λg=>g.bS==(c.aF[k]).bS)=decide ((c.aF[k]).bS∈(c.aF.take k).map (·.bS)):=by
      rw[gL];simp only[fT,iL,cZ,eK]
    rw[Z];by_cases Y:(c.aF[k]).bS∈(c.aF.take k).map (·.bS)
    · simp only[Y,dB,dG,stp]
    · simp only[Y,dH,dN,cV,stp]
  · simp only[zBX,kJ h,cM]
def grpE (c:Collation):Int:=match chk gpN c.aF 0 with
 | some y=>y
 | none=>match chk (gpT c.aF) c.aF 0 with
  | some y=>y
  | none=>match chk (gpR c.bJ) c.aF 0 with
   | some y=>y
   | none=>match chk (gpO c.aF) c.aF 0 with
    | some y=>y
    | none=>0
include hn in
theorem yDH:vV c=some (grpE c):=by
 have h:=gL1 hg c.aF.length 0 [] (by omega) (by omega) (λs=>by simp[mgetD,mget]);have h:zE (λ(x:Int×(List (Str×Bool)))=>jW c x.1 x.2) (0,[])=some (toS (chk (gpT c.aF) c.aF 0)):=h;unfold vV grpE;rw[gL0 hg hn,zA,xD];cases chk gpN c.aF 0 with
 | some y=>rfl
 | none=>
  simp only[];rw[h,zA,xD];cases chk (gpT c.aF) c.aF 0 with
  | some y=>rfl
  | none=>
   simp only[];rw[gL2 hg,zA,xD];cases chk (gpR c.bJ) c.aF 0 with
   | some y=>rfl
   | none=>
    simp only[];rw[gL3 hg,zA,xD];cases chk (gpO c.aF) c.aF 0<;>rfl
include hn in
theorem z1Q:zGB c=some (grpE c):=by
 unfold zGB grpE;rw[rL0 hg hn,zA,xD];cases chk gpN c.aF 0 with
 | some y=>rfl
 | none=>
  simp only[];rw[rL1 hg,zA,xD];cases chk (gpT c.aF) c.aF 0 with
  | some y=>rfl
  | none=>
   simp only[];rw[rL3 hg,zA,xD];cases chk (gpR c.bJ) c.aF 0 with
   | some y=>rfl
   | none=>
    simp only[];rw[rL4 hg,zA,xD,yR0];cases chk (gpO c.aF) (c.aF.drop 1) 1<;>rfl
end
open Go.AV
def elE (e:aP):Int:=
 if (e.aS<0\/65535<e.aS)\/(e.aL<0\/65535<e.aL)\/(e.aO<0\/65535<e.aO) then 1
 else if (e.aS≠0/\(e.aL=0\/e.aO=0))\/(e.aL≠0/\e.aO=0)\/(e.aD=true/\e.aS=0) then 11 else 0
theorem yLK (e:aP):zE4 e=some (elE e):=by
 have K:zE (λ(x:Int)=>zA1 e x) 0=some (toS (chk (λ_ (w:Int)=>if w<0\/65535<w then some 1 else none) [e.aS,e.aL,e.aO] 0)):=by
  refine xT [e.aS,e.aL,e.aO] _ (λk h=>?_) (λk h=>?_);have G:decide ((k:Int)<3)=true:=by simp at h ⊢;omega
  simp only[zA1,G,cN,zV h,zA,zO,zK (k:=k) (by simp at h;omega)]
  by_cases D: [e.aS,e.aL,e.aO][k]<0<;>by_cases H:65535 < [e.aS,e.aL,e.aO][k]<;>simp[D,H,stp];have G:decide ((k:Int)<3)=false:=by simp at h ⊢;omega
  simp only[zA1,G,cM]
 unfold zE4 elE;rw[K,zA,xD];simp only[chk];by_cases D:e.aS<0\/65535<e.aS;simp[D];by_cases H:e.aL<0\/65535<e.aL;simp[D,H];by_cases G:e.aO<0\/65535<e.aO;simp[D,H,G];simp only[D,H,G,cV,or_self,zO];by_cases a:e.aS=0<;>by_cases b:e.aL=0<;>by_cases c:e.aO=0<;>cases e.aD<;>simp[a,b,c]
theorem z8M (e:aP):zH1 e=some (elE e):=by
 unfold zH1 elE zEQ;simp only[zO,zA];by_cases a1:0<=e.aS;by_cases a2:e.aS<=65535;by_cases b1:0<=e.aL;by_cases b2:e.aL<=65535;by_cases h:0<=e.aO;by_cases k:e.aO<=65535;have D:¬(e.aS<0\/65535<e.aS):=by omega
 have G:¬(e.aL<0\/65535<e.aL):=by omega
 have H:¬(e.aO<0\/65535<e.aO):=by omega
 simp only[a1,a2,b1,b2,h,k,D,G,H,dB,fF,dD,dQ,xS,zA,Bool.or_self,cM,or_self,cV];by_cases a:e.aS=0<;>by_cases b:e.aL=0<;>by_cases c:e.aO=0<;>cases e.aD<;>simp[a,b,c];have:(65535:Int)<e.aO:=by omega
 simp[a1,a2,b1,b2,h,k,xS,zA,this];have:e.aO<0:=by omega
 simp[a1,a2,b1,b2,h,xS,zA,this];have:(65535:Int)<e.aL:=by omega
 simp[a1,a2,b1,b2,xS,vF,zA,this];have:e.aL<0:=by omega
 simp[a1,a2,b1,xS,vF,zA,this];have:(65535:Int)<e.aS:=by omega
 simp[a1,a2,xS,vF,zA,this];have:e.aS<0:=by omega
 simp[a1,xS,vF,zA,this]
def vld (c:Int):Bool:=decide (0<=c)&&decide (c<=1114111)
theorem zRN (c:Int):zAI c=some (vld c):=rfl
theorem zFW (c:Int):w8 c=some (vld c):=rfl
def pV (_:Nat) (c:Int):Option Int:=if vld c then none else some 1
def pE (_:Nat) (e:aP):Option Int:=if elE e=0 then none else some (elE e)
def pP (b:Int) (_:Nat) (e:aP):Option Int:=if b<=e.aS then some 1 else none
def enE (x:bO) (b:Int):Int:=
 if x.aW.length<1\/8<x.aW.length\/16<x.aU.length then 2
 else match chk pV x.aW 0 with
  | some y=>y
  | none=>match chk pE x.aU 0 with
   | some y=>y
   | none=>match chk (pP b) x.aU 0 with
    | some y=>y
    | none=>0
section
variable {x:bO} (hc:x.aW.length<=2000) (he:x.aU.length<=2000)
include hc in
theorem eL0:zE (λ(v:Int)=>j6 x v) 0=some (toS (chk pV x.aW 0)):=by refine xT x.aW _ (λk h=>?_) (λk h=>?_);simp only[j6,yU h,cN,zV h,zA,zRN,zK (k:=k) (by omega),pV];cases vld x.aW[k]<;>rfl;simp only[j6,kJ h,cM]
include he in
theorem eL1:zE (λ(v:Int)=>x9 x v) 0=some (toS (chk pE x.aU 0)):=by refine xT x.aU _ (λk h=>?_) (λk h=>?_);simp only[x9,yU h,cN,zV h,zA,yLK,zK (k:=k) (by omega),pE];by_cases D:elE x.aU[k]=0<;>simp[D,stp];simp only[x9,kJ h,cM]
include he in
theorem eL2 (b:Int):zE (λ(v:Int)=>j7 x b v) 0=some (toS (chk (pP b) x.aU 0)):=by refine xT x.aU _ (λk h=>?_) (λk h=>?_);simp only[j7,yU h,cN,zV h,zA,zK (k:=k) (by omega),pP];by_cases D:b<=(x.aU[k]).aS<;>simp[D,stp];simp only[j7,kJ h,cM]
theorem yR1:zGC=j6:=rfl
theorem yR2 (c:Collation):(λv=>zGD x c v)=λv=>j7 x c.bJ v:=rfl
include he in
theorem yUG:zE (λ(v:Int)=>zDA x v) 0=some (toS (chk pE x.aU 0)):=by refine xT x.aU _ (λk h=>?_) (λk h=>?_);simp only[zDA,yU h,cN,zV h,zA,z8M,zK (k:=k) (by omega),pE];by_cases D:elE x.aU[k]=0<;>simp[D,stp];simp only[zDA,kJ h,cM]
theorem szc:(((decide ((x.aW.length:Int)<1) ||decide (8<(x.aW.length:Int))) ||decide (16<(x.aU.length:Int))))=decide (x.aW.length<1\/8<x.aW.length\/16<x.aU.length):=by rw[gL];simp only[fB,cZ];omega
include hc he in
theorem yG5 (b:Int):uV x b=some (enE x b):=by
 unfold uV enE;simp only[zO,szc];by_cases h:x.aW.length<1\/8<x.aW.length\/16<x.aU.length;simp only[h,dB,cN,dG];simp only[h,dH,cM,cV];rw[eL0 hc,zA,xD];cases chk pV x.aW 0 with
 | some y=>rfl
 | none=>
  simp only[];rw[eL1 he,zA,xD];cases chk pE x.aU 0 with
  | some y=>rfl
  | none=>
   simp only[];rw[eL2 he,zA,xD];cases chk (pP b) x.aU 0<;>rfl
end
def z1R (a b:List Int):Int:=match chk (λ_ (p:Int×Int)=>if p.1=p.2 then none else some (if p.1<p.2 then (-1:Int) else 1)) (a.zip b) 0 with
 | some y=>y
 | none=>if a.length<b.length then -1 else if b.length<a.length then 1 else 0
section
variable {a b:List Int} (ha:a.length<=4611686018427387904) (hb:b.length<=2000)
theorem yDI (x y:Int):xK x y=some (if x<y then -1 else if y<x then 1 else 0):=by unfold xK zE3;simp only[zA,dB,dD,cM];by_cases h:x<y;simp[h];by_cases k:y<x<;>simp[h,k]
include ha in
theorem cL0:zE (λ(v:Int)=>w6 a b v) 0=some (toS (chk (λ_ (p:Int×Int)=>if p.1=p.2 then none else some (if p.1<p.2 then (-1:Int) else 1)) (a.zip b) 0)):=by
 refine xT (a.zip b) _ (λk h=>?_) (λk h=>?_);have T:=h;rw[List.length_zip] at T;have K:k<a.length:=by omega
 have O:k<b.length:=by omega
 have D:decide ((k:Int)<min (a.length:Int) (b.length:Int))=true:=by simp;omega
 simp only[w6,D,cN,zV K,zV O,zA,yDI,zK (k:=k) (by omega),List.getElem_zip];by_cases H:a[k]=b[k];simp[H,stp];simp only[H,dH,dQ,cN,cV,stp];by_cases G:a[k]<b[k];simp[G];have:b[k]<a[k]:=by omega
 simp[G,this];rw[List.length_zip] at h;have D:decide ((k:Int)<min (a.length:Int) (b.length:Int))=false:=by simp;omega
 simp only[w6,D,cM]
include ha in
theorem yUH:zE (λ(v:Int)=>zA8 a b v) 0=some (toS (chk (λ_ (p:Int×Int)=>if p.1=p.2 then none else some (if p.1<p.2 then (-1:Int) else 1)) (a.zip b) 0)):=by
 refine xT (a.zip b) _ (λk h=>?_) (λk h=>?_);have O:=h;rw[List.length_zip] at O;have D:k<a.length:=by omega
 have G:k<b.length:=by omega
 simp only[zA8,yU D,yU G,zO,fF,cN,zV D,zV G,zA,zK (k:=k) (by omega),List.getElem_zip];by_cases H:a[k]<b[k];have:¬a[k]=b[k]:=by omega
 simp[H,this,stp];by_cases T:b[k]<a[k];have:¬a[k]=b[k]:=by omega
 simp[H,T,this,stp];have:a[k]=b[k]:=by omega
 simp[this,stp];rw[List.length_zip] at h;have K:(decide ((k:Int)<(a.length:Int))&&decide ((k:Int)<(b.length:Int)))=false:=by
  rw[eD];simp;omega
 simp only[zA8,zO,K,cM]
include ha in
theorem z8N:zB1 a b=some (z1R a b):=by
 unfold zB1 z1R;rw[cL0 ha,zA,xD];cases chk (λ_ (p:Int×Int)=>if p.1=p.2 then none else some (if p.1<p.2 then (-1:Int) else 1)) (a.zip b) 0 with
 | some y=>rfl
 | none=>
  simp only[yDI,zA];congr 1;by_cases k:a.length<b.length;have:(a.length:Int)<b.length:=by omega
  simp[k,this];have h:¬(a.length:Int)<b.length:=by omega
  by_cases G:b.length<a.length;have:(b.length:Int)<a.length:=by omega
  simp[k,h,G,this];have D:¬(b.length:Int)<a.length:=by omega
  simp[k,h,G,D]
include ha in
theorem zPR:zDT a b=some (z1R a b):=by
 unfold zDT z1R;rw[yUH ha,zA,xD];cases chk (λ_ (p:Int×Int)=>if p.1=p.2 then none else some (if p.1<p.2 then (-1:Int) else 1)) (a.zip b) 0 with
 | some y=>rfl
 | none=>
  simp only[];by_cases k:a.length<b.length;have:(a.length:Int)<b.length:=by omega
  simp[k,this];have h:¬(a.length:Int)<b.length:=by omega
  by_cases G:b.length<a.length;have:(b.length:Int)<a.length:=by omega
  simp[k,h,G,this];have D:¬(b.length:Int)<a.length:=by omega
  simp[k,h,G,D]
end
open Go.AV
structure Sm (c:Collation):Prop where
 en:c.aB.length<=12
 gr:c.aF.length<=8
 co:∀x∈c.aB,x.aW.length<=16
 el:∀x∈c.aB,x.aU.length<=20
def smB (c:Collation):Bool:=if 12<c.aB.length\/8<c.aF.length then false else match chk (λ_ (x:bO)=>if 10<x.aW.length\/20<x.aU.length then some false else none) c.aB 0 with
 | some y=>y
 | none=>true
theorem zOD {A Y:Type} {p:Nat->A->Option Y}:∀{l:List A} {k:Nat},chk p l k=none->∀j (h:j<l.length),p (k+j) l[j]=none
 | [],_,_,j,h=>by simp at h
 | x::xs,k,D,j,h=>by
  simp only[chk] at D;cases G:p k x with
  | some y=>rw[G] at D;cases D
  | none=>
   rw[G] at D;cases j with
   | zero=>simpa using G
   | succ j=>
    have:=zOD D j (by simp at h;omega)
    rw[show k+1+j=k+(j+1) by omega] at this;simpa using this
theorem zJ4 {A Y:Type} {p:Nat->A->Option Y} {P:Y->Prop} (G:∀k x y,p k x=some y->P y):∀{l:List A} {k:Nat} {y:Y},chk p l k=some y->P y
 | [],_,_,h=>by cases h
 | x::xs,k,y,h=>by
  simp only[chk] at h;cases D:p k x with
  | some H=>rw[D] at h;cases h;exact G _ _ _ D
  | none=>rw[D] at h;exact zJ4 G h
theorem yG6 (c:Collation):zHT c=some (smB c):=by
 unfold zHT smB;simp only[zO];by_cases O:12<c.aB.length\/8<c.aF.length;have:(decide (12<(c.aB.length:Int)) ||decide (8<(c.aF.length:Int)))=true:=by simp only[fB,cZ];omega
 simp only[this,cN,O,dG];have T:(decide (12<(c.aB.length:Int)) ||decide (8<(c.aF.length:Int)))=false:=by simp only[fC,c9];omega
 have Y:zE (λ(v:Int)=>zCO c v) 0=some (toS (chk (λ_ (x:bO)=>if 10<x.aW.length\/20<x.aU.length then some false else none) c.aB 0)):=by
  refine xT c.aB _ (λk h=>?_) (λk h=>?_);simp only[zCO,yU h,cN,zV h,zA,zO,zK (k:=k) (by omega)];by_cases H:10<(c.aB[k]).aW.length;have D:(10:Int)<(c.aB[k]).aW.length:=by omega
  simp[H,D,vF,zA,stp];have D:¬(10:Int)<(c.aB[k]).aW.length:=by omega
  by_cases K:20<(c.aB[k]).aU.length;have G:(20:Int)<(c.aB[k]).aU.length:=by omega
  simp[H,D,K,G,xS,zA,stp];have G:¬(20:Int)<(c.aB[k]).aU.length:=by omega
  simp[H,D,K,G,xS,zA,stp];simp only[zCO,kJ h,cM]
 simp only[T,cM,O,cV];rw[Y,zA,xD];cases chk (λ_ (x:bO)=>if 10<x.aW.length\/20<x.aU.length then some false else none) c.aB 0<;>rfl
theorem yPF {c:Collation} (h:smB c=true):Sm c:=by
 unfold smB at h;split at h;cases h;rename_i Z;cases G:chk (λ_ (x:bO)=>if 10<x.aW.length\/20<x.aU.length then some false else none) c.aB 0 with
 | some y=>
  exfalso;rw[G] at h;have O:y=true:=h;subst O;have:=zJ4 (P:=λy=>y=false) (λk x y H=>by
   split at H;cases H;rfl;cases H) G
  cases this
 | none=>
  have Y:=zOD G;have K:∀x∈c.aB,¬(10<x.aW.length\/20<x.aU.length):=by
   intro x D;obtain⟨j,T,rfl⟩:=fA D;have this:(if 10<(c.aB[j]).aW.length\/20<(c.aB[j]).aU.length then some false else none)=none:=Y j T;split at this;cases this;assumption
  exact⟨by omega,by omega,λx D=>by have:=K x D;omega,λx D=>by have:=K x D;omega⟩
def pK (c:Collation) (k:Nat) (x:bO):Option Int:=
 if enE x c.bJ≠0 then some (enE x c.bJ) else if 0<k/\0<=z1R (c.aB.getD (k-1) default).aW x.aW then some 4 else none
def wOk (w:Int):Bool:=decide (1<=w)&&decide (w<=65535)
def ckE (c:Collation):Int:=
 if c.bJ<1\/65502<c.bJ\/wOk c.bA=false\/wOk c.bI=false then 1
 else if grpE c≠0 then grpE c
 else match chk (pK c) c.aB 0 with
  | some y=>y
  | none=>0
section
variable {c:Collation} (hs:Sm c) (hn:∀g∈c.aF,g.bS.length<=MX)
include hs
theorem kL0:zE (λ(v:Int)=>uA c v) 0=some (toS (chk (pK c) c.aB 0)):=by
 refine xT c.aB _ (λk h=>?_) (λk h=>?_);have H:=eJ h;have Y:=hs.en;simp only[uA,yU h,cN,zV h,zA,zO,yG5 (d8 (hs.co _ H) (by omega)) (d8 (hs.el _ H) (by omega)),zK (k:=k) (by omega),pK];by_cases G:enE c.aB[k] c.bJ=0;simp only[G,dB,dD,cM,ne_eq,not_true,cV];cases k with
 | zero=>simp[vF,zA,stp]
 | succ k=>
  have D:k<c.aB.length:=by omega
  have K:wi (((k+1:Nat):Int)-1)=(k:Int):=zD6 (by omega);have O:decide ((0:Int)<((k+1:Nat):Int))=true:=by simp
  have T:c.aB.getD (k+1-1) default=c.aB[k]:=by simp[D]
  rw[O,xS,K,zV D,zA,xS,z8N (d8 (hs.co _ (eJ D)) (by omega)),zA,T];by_cases Z:0<=z1R (c.aB[k]).aW (c.aB[k+1]).aW<;>simp[Z,stp]
 simp[G,stp];simp only[uA,kJ h,cM]
theorem yDJ {k:Nat} (h:k<c.aB.length):zH2 c (k:Int)=some (match pK c k c.aB[k] with | some y=>y | none=>0):=by
 have K:=eJ h;have ab:=hs.en;have hc:=d8 (hs.co _ K) (by omega:16<=2000);have H:=d8 (hs.el _ K) (by omega:20<=2000);unfold zH2;simp only[zV h,zA,zO,szc,yR1,yR2];unfold pK enE;by_cases O:(c.aB[k]).aW.length<1\/8<(c.aB[k]).aW.length\/16<(c.aB[k]).aU.length
 ·simp only[O,dB,cN,dG]
  rfl
 ·simp only[O,dH,cM,cV]
  rw[eL0 hc,zA,xD];cases h1:chk pV (c.aB[k]).aW 0 with
  | some y=>
   have D:y≠0:=zJ4 (P:=λy=>y≠0) (λk x y D=>by
      unfold pV at D;split at D
      ·first | (cases D;done) | (cases D;decide) | (cases D;assumption)
      ·first | (cases D;done) | (cases D;decide) | (cases D;assumption)) h1
   simp[D]
  | none=>
   simp only[];rw[yUG H,zA,xD];cases h2:chk pE (c.aB[k]).aU 0 with
   | some y=>
    have D:y≠0:=zJ4 (P:=λy=>y≠0) (λk x y D=>by
      unfold pE at D;split at D
      ·first | (cases D;done) | (cases D;decide) | (cases D;assumption)
      ·first | (cases D;done) | (cases D;decide) | (cases D;assumption)) h2
    simp[D]
   | none=>
    simp only[];rw[eL2 H,zA,xD];cases h3:chk (pP c.bJ) (c.aB[k]).aU 0 with
    | some y=>
     have D:y≠0:=zJ4 (P:=λy=>y≠0) (λk x y D=>by
      unfold pP at D;split at D
      ·first | (cases D;done) | (cases D;decide) | (cases D;assumption)
      ·first | (cases D;done) | (cases D;decide) | (cases D;assumption)) h3
     simp[D]
    | none=>
     simp only[ne_eq,not_true,cV];cases k with
     | zero=>simp[vF,zA]
     | succ k=>
      have G:k<c.aB.length:=by omega
      have T:wi (((k+1:Nat):Int)-1)=(k:Int):=zD6 (by omega);have Y:decide ((0:Int)<((k+1:Nat):Int))=true:=by simp
      have Z:c.aB.getD (k+1-1) default=c.aB[k]:=by simp[G]
      rw[Y,xS,T,zV G,zA,xS,zPR (d8 (hs.co _ (eJ G)) (by omega)),zA,Z];by_cases hq:0<=z1R (c.aB[k]).aW (c.aB[k+1]).aW<;>simp[hq]
theorem yUI:zE (λ(v:Int)=>zDB c v) 0=some (toS (chk (pK c) c.aB 0)):=by
 refine xT c.aB _ (λk h=>?_) (λk h=>?_);have H:=hs.en;simp only[zDB,yU h,cN,yDJ hs h,zA,zK (k:=k) (by omega)];have G:∀y,pK c k c.aB[k]=some y->y≠0:=by
  intro y D;unfold pK at D;split at D;cases D;assumption;split at D;cases D;decide;cases D
 cases K:pK c k c.aB[k] with
 | some y=>simp[G y K,stp]
 | none=>simp[stp]
 simp only[zDB,kJ h,cM]
omit hs in
theorem isW (w:Int):zBF w=some (wOk w):=rfl
omit hs in
theorem yUJ (w:Int):zGA w=some (wOk w):=rfl
include hn in
theorem yG8:zBQ c=some (ckE c):=by unfold zBQ ckE;simp only[zO,isW];by_cases h:c.bJ<1;simp[h,vF,zA];by_cases k:65502<c.bJ;simp[h,k,vF,zA];by_cases D:wOk c.bA=false;simp[h,k,D,xS,vF,zA];by_cases G:wOk c.bI=false;simp[h,k,D,G,xS,zA];simp only[Bool.not_eq_false] at D G;simp only[h,k,D,G,dH,Bool.or_self,dQ,xS,zA,dD,cM,or_self,Bool.true_eq_false,cV];rw[yDH (d8 hs.gr (by omega)) hn,zA];by_cases H:grpE c=0;simp only[H,dB,dD,cM,ne_eq,not_true,cV];rw[kL0 hs,zA,xD];cases chk (pK c) c.aB 0<;>rfl;simp[H]
include hn in
theorem z48:zH3 c=some (ckE c):=by unfold zH3 ckE;simp only[zO,yUJ];by_cases h:c.bJ<1;simp[h,vF,zA];by_cases k:65502<c.bJ;simp[h,k,vF,zA];by_cases D:wOk c.bA=false;simp[h,k,D,xS,vF,zA];by_cases G:wOk c.bI=false;simp[h,k,D,G,xS,zA];simp only[Bool.not_eq_false] at D G;simp only[h,k,D,G,dH,Bool.or_self,dQ,xS,zA,dD,cM,or_self,Bool.true_eq_false,cV];rw[z1Q (d8 hs.gr (by omega)) hn,zA];by_cases H:grpE c=0;simp only[H,dB,dD,cM,ne_eq,not_true,cV];rw[yUI hs,zA,xD];cases chk (pK c) c.aB 0<;>rfl;simp[H]
end
theorem z1S {c:Collation} (h:zHQ c):∀g∈c.aF,g.bS.length<=MX:=λg k=>(h.2.1.2 g k).1
open Go.AV
def lx:List Int->List Int->Prop
 | [],[]=>False
 | [],_::_=>True
 | _::_,[]=>False
 | x::a,y::b=>x<y\/(x=y/\lx a b)
theorem z49:∀{a b c:List Int},lx a b->lx b c->lx a c
 | [],[],_,h,_=>h.elim
 | [],_::_,[],_,h=>h.elim
 | [],_::_,_::_,_,_=>trivial
 | _::_,[],_,h,_=>h.elim
 | _::_,_::_,[],_,h=>h.elim
 | x::a,y::b,z::c,D,k=>by
  rcases D with D | ⟨rfl,D⟩;rcases k with k | ⟨rfl,_⟩;exact .inl (by omega);exact .inl D;rcases k with k | ⟨rfl,k⟩;exact .inl k;exact .inr ⟨rfl,z49 D k⟩
theorem zZQ:∀{a:List Int},¬lx a a
 | [],h=>h
 | x::a,h=>by
  rcases h with h | ⟨_,h⟩;omega;exact zZQ h
def pC (_:Nat) (p:Int×Int):Option Int:=if p.1=p.2 then none else some (if p.1<p.2 then (-1:Int) else 1)
def zWK (a b:List Int) (k:Nat):Int:=match chk pC (a.zip b) k with
 | some y=>y
 | none=>if a.length<b.length then -1 else if b.length<a.length then 1 else 0
theorem zSS:∀(a b:List Int) (k:Nat),(zWK a b k<0↔lx a b)/\(zWK a b k=0↔a=b)
 | [],[],k=>by simp[zWK,chk,lx]
 | [],y::b,k=>by simp[zWK,chk,lx]
 | x::a,[],k=>by simp[zWK,chk,lx]
 | x::a,y::b,k=>by
  have K:=zSS a b (k+1);by_cases h:x=y
  ·subst h
   have D:zWK (x::a) (x::b) k=zWK a b (k+1):=by
    simp only[zWK,List.zip_cons_cons,chk,pC,dG,dO];cases chk pC (a.zip b) (k+1) with
    | some y=>rfl
    | none=>
     simp only[];by_cases G:a.length<b.length
     ·simp[G]
     ·by_cases O:b.length<a.length<;>simp[G,O]
   rw[D];refine⟨K.1.trans ?_,K.2.trans ?_⟩
   ·simp[lx]
   ·simp
  ·have D:zWK (x::a) (y::b) k=if x<y then -1 else 1:=by
    simp only[zWK,List.zip_cons_cons,chk,pC,h,cV]
   rw[D];by_cases H:x<y
   ·simp[H,lx,h]
   ·simp[H,lx,h]
theorem yG9 (a b:List Int):z1R a b=zWK a b 0:=rfl
def zST (a:List Int):bU:={x0:=a.length,x1:=cpA a 0 0,x2:=cpA a 1 0,x3:=cpA a 2 0,x4:=cpA a 3 0,x5:=cpA a 4 0,x6:=cpA a 5 0,x7:=cpA a 6 0,x8:=cpA a 7 0}
theorem z5A (a:List Int):zDO a=some (zST a):=rfl
theorem yHA {a b:List Int} (ha:a.length<=8) (h:zST a=zST b):a=b:=by
 unfold zST at h;simp only[bU.mk.injEq] at h;obtain⟨G,H,K,O,T,Y,Z,h7,h8⟩:=h;have G:a.length=b.length:=by omega
 apply fU G;intro i hi k;have key:∀j,j<a.length->cpA a j 0=cpA b j 0->a.getD j 0=b.getD j 0:=λj _ h=>by simpa[cpA,eF] using h
 have:a.getD i 0=b.getD i 0:=by
  have D:i<8:=by omega
  match i,D with
  | 0,_=>exact key 0 hi H
  | 1,_=>exact key 1 hi K
  | 2,_=>exact key 2 hi O
  | 3,_=>exact key 3 hi T
  | 4,_=>exact key 4 hi Y
  | 5,_=>exact key 5 hi Z
  | 6,_=>exact key 6 hi h7
  | 7,_=>exact key 7 hi h8
 simpa[eF,hi,k] using this
def kB (c:Collation):Collation:=if ckE c=0 then c else {aB:=[],aF:=[],bJ:=64448,bA:=32,bI:=2}
def yDK (es:List bO) (m:List (bU×List aP)):List (bU×List aP):=es.foldl (λm x=>wX m (zST x.aW) x.aU) m
def zRO (es:List bO) (n:Int):Int:=es.foldl (λn x=>max n (x.aW.length:Int)) n
def zSU (c:Collation):bG:={c:=kB c,entries:=yDK (kB c).aB [],bT:=zRO (kB c).aB 0,bQ:=[],top:=0}
theorem zZR (y:(List bO)×(List b6)×Int×Int×Int) (K:y.1.length<=2000):∀(n k:Nat) (m:List (bU×List aP)) (q:Int),y.1.length-k=n->
  zE (λ(x:Int×(List (bU×(List aP)))×Int)=>wO y x.1 x.2.1 x.2.2) ((k:Int),m,q)=some (yDK (y.1.drop k) m,zRO (y.1.drop k) q):=by
 intro n
 induction n with
 | zero=>
  intro k m q G;have D:y.1.length<=k:=by omega
  rw[xJ,dC D];simp only[wO,kJ D,cM];rfl
 | succ n H=>
  intro k m q G;have h:k<y.1.length:=by omega
  rw[xJ,cY h];simp only[wO,yU h,cN,zV h,zA,z5A,zK (k:=k) (by omega)];exact H (k+1) _ _ (by omega)
theorem yLL {c:Collation} (k:Sm c) (K:∀g∈c.aF,g.bS.length<=MX):zEF c=some (zSU c):=by
 unfold zEF;have H:zBQ {aB:=c.aB,aF:=c.aF,bJ:=c.bJ,bA:=c.bA,bI:=c.bI}=some (ckE c):=yG8 k K;rw[H,zA];unfold zSU kB;have G:=k.en;by_cases D:ckE c=0;simp only[D,dB,dD,cM,dG,zA];have:=zZR (c.aB,c.aF,c.bJ,c.bA,c.bI) (by show c.aB.length<=2000;omega) c.aB.length 0 [] 0 (by show c.aB.length-0=_;omega)
 have h:zE (λ(x:Int×(List (bU×(List aP)))×Int)=>wO (c.aB,c.aF,c.bJ,c.bA,c.bI) x.1 x.2.1 x.2.2) (0,[],0)=some (yDK c.aB [],zRO c.aB 0):=by simpa using this
 rw[h];rfl;simp only[D,dH,dQ,cN,cV,zA];have:=zZR (([]:List bO),([]:List b6),64448,32,2) (by simp) 0 0 [] 0 (by simp);have h:zE (λ(x:Int×(List (bU×(List aP)))×Int)=>wO (([]:List bO),([]:List b6),64448,32,2) x.1 x.2.1 x.2.2) (0,[],0)=some (yDK [] [],zRO [] 0):=by simpa using this
 rw[h];rfl
structure Vd (es:List bO):Prop where
 lo:∀x∈es,1<=x.aW.length
 hi:∀x∈es,x.aW.length<=8
 el:∀x∈es,x.aU.length<=20
 ne:es.Pairwise λx y=>x.aW≠y.aW
theorem z1T {c:Collation} (hs:Sm c):Vd (kB c).aB:=by
 unfold kB;by_cases D:ckE c=0;simp only[D,dG];have hk:chk (pK c) c.aB 0=none:=by
  unfold ckE at D;split at D;cases D;split at D;rename_i hg;exact absurd D hg;cases hc:chk (pK c) c.aB 0 with
  | none=>rfl
  | some y=>
   rw[hc] at D;have G:y≠0:=zJ4 (P:=λy=>y≠0) (λk x y G=>by
    unfold pK at G;split at G;cases G;assumption;split at G;cases G;decide;cases G) hc
   exact absurd D G
 have hn:=zOD hk;have H:∀j (h:j<c.aB.length),enE c.aB[j] c.bJ=0/\(0<j->lx (c.aB.getD (j-1) default).aW (c.aB[j]).aW):=by
  intro j h;have:=hn j h;rw[eE] at this;unfold pK at this;split at this;cases this;rename_i Z;split at this;cases this;rename_i Y;refine⟨by simpa using Z,λK=>?_⟩;have h3:¬0<=z1R (c.aB.getD (j-1) default).aW (c.aB[j]).aW:=λh=>Y ⟨K,h⟩;exact((zSS _ _ 0).1).1 (by rw[<-yG9];omega)
 have T:∀j (h:j<c.aB.length),1<=(c.aB[j]).aW.length/\(c.aB[j]).aW.length<=8:=by
  intro j h;have:=(H j h).1;unfold enE at this;split at this;cases this;omega
 have aa:∀n i (h:i+n+1<c.aB.length),lx (c.aB[i]).aW (c.aB[i+n+1]).aW:=by
  intro n
  induction n with
  | zero=>
   intro i h;have:=(H (i+1) (by omega)).2 (by omega);have O:c.aB.getD (i+1-1) default=c.aB[i]:=by
    have:i<c.aB.length:=by omega
    simp[this]
   rw[O] at this;exact this
  | succ n ih=>
   intro i h;have Z:=ih i (by omega);have Y:=(H (i+(n+1)+1) (by omega)).2 (by omega);have O:c.aB.getD (i+(n+1)+1-1) default=c.aB[i+n+1]:=by
    have:i+n+1<c.aB.length:=by omega
    rw[show i+(n+1)+1-1=i+n+1 by omega];simp[this]
   rw[O] at Y;exact z49 Z Y
 refine⟨λx hx=>?_,λx hx=>?_,hs.el,?_⟩;obtain⟨j,K,rfl⟩:=fA hx;exact(T j K).1;obtain⟨j,K,rfl⟩:=fA hx;exact(T j K).2;rw[ig];intro i j hi K ah he;have:=aa (j-i-1) i (by omega);have O:i+(j-i-1)+1=j:=by omega
 simp only[O] at this;rw[he] at this;exact zZQ this;simp only[D,cV];exact⟨by simp,by simp,by simp,by simp⟩
theorem vD {H K:Type} [DecidableEq H] (m:List (H×K)) (k D: H) (v: K):mget (wX m k v) D=if D=k then some v else mget m D:=by
 induction m with
 | nil=>simp only[wX,mget]
 | cons p m O=>
  obtain⟨q,u⟩:=p;simp only[wX];by_cases G:k=q;subst G;simp only[dG,mget];by_cases h:D=k<;>simp[h];simp only[G,cV,mget];by_cases h:D=q;subst h;have:¬D=k:=λe=>G e.symm;simp[this];simp only[h,cV];exact O
theorem z93 (codes:List Int) (H:codes.length<=8):∀(es:List bO) (m:List (bU×List aP)),(∀x∈es,x.aW.length<=8)->es.Pairwise (λx y=>x.aW≠y.aW)->
  mget (yDK es m) (zST codes)=match es.find? (λx=>decide (x.aW=codes)) with | some x=>some x.aU | none=>mget m (zST codes)
 | [],m,_,_=>rfl
 | x::es,m,K,D=>by
  rw[fE] at D;have T:=z93 codes H es (wX m (zST x.aW) x.aU) (λy G=>K y (by simp[G])) D.2;show mget (yDK es (wX m (zST x.aW) x.aU)) (zST codes)=_;rw[T,vD];by_cases h:x.aW=codes
  ·have k:es.find? (λx=>decide (x.aW=codes))=none:=by
    rw[List.find?_eq_none];intro y G;have:=D.1 y G;simp only[cZ];intro e;exact this (h.trans e.symm)
   simp[k,h]
  ·have O:¬zST codes=zST x.aW:=λe=>h (yHA H e).symm
   simp[h,O]
theorem z1U:∀(es:List bO) (n:Int),n<=zRO es n/\∀x∈es,(x.aW.length:Int)<=zRO es n
 | [],n=>⟨by show n<=n;omega,by simp⟩
 | x::es,n=>by
  have h:=z1U es (max n (x.aW.length:Int));show n<=zRO es (max n (x.aW.length:Int))/\∀y∈x::es,(y.aW.length:Int)<=zRO es (max n (x.aW.length:Int));refine⟨by omega,λy hy=>?_⟩;rcases dL.1 hy with rfl | hy
  omega;exact h.2 y hy
theorem yHB:∀(es:List bO) (n:Int),(∀x∈es,x.aW.length<=8)->n<=8->zRO es n<=8
 | [],n,_,h=>h
 | x::es,n,k,h=>yHB es (max n (x.aW.length:Int)) (λy D=>k y (by simp[D])) (by have:=k x (by simp);omega)
def zEA (es:List bO) (codes:List Int):List aP×Bool:=match es.find? (λx=>decide (x.aW=codes)) with
 | some x=>(x.aU,true)
 | none=>([],false)
theorem yLM {c:Collation} (hs:Sm c) {codes:List Int}:xB (zSU c) codes=some (zEA (kB c).aB codes):=by
 have D:=z1T hs;unfold xB;simp only[zO,z5A,zA];have k:=z1U (kB c).aB 0;have ab:=yHB (kB c).aB 0 D.hi (by omega);by_cases H:codes.length=0\/zRO (kB c).aB 0<(codes.length:Int)
 ·have G:(decide ((codes.length:Int)=0) ||decide ((zSU c).bT<(codes.length:Int)))=true:=by
   simp only[fB,cZ];rcases H with h | h
   ·left;omega
   ·right;exact h
  rw[G,cN];have O:(kB c).aB.find? (λx=>decide (x.aW=codes))=none:=by
   rw[List.find?_eq_none];intro x T;simp only[cZ];intro e;have Y:=D.lo x T;have Z:=k.2 x T;rw[e] at Y Z;rcases H with h | h<;>omega
  simp only[zEA,O]
 ·have G:(decide ((codes.length:Int)=0) ||decide ((zSU c).bT<(codes.length:Int)))=false:=by
   simp only[fC,c9];refine⟨by omega,λh=>H (.inr h)⟩
  rw[G,cM];have hg:=z93 codes (by omega) (kB c).aB [] D.hi D.ne;have K:mget (zSU c).entries (zST codes)=match (kB c).aB.find? (λx=>decide (x.aW=codes)) with | some x=>some x.aU | none=>none:=hg
  simp only[mgetD,zDM,K,zEA];cases (kB c).aB.find? (λx=>decide (x.aW=codes))<;>rfl
open Go.AV
theorem yPG {k:Type} {l:List k} (h:l.length<=2000):app [] l=some l:=by
 rw[jX (by simp;omega)]
 rfl
theorem zWL {c:Collation} (k:Sm c) (h:∀g∈c.aF,g.bS.length<=MX):zG5 c=some (kB c):=by unfold zG5 kB;rw[z48 k h,zA];by_cases D:ckE c=0<;>simp[D]
theorem zRP {a b:List Int} (h:a.length<=4611686018427387904):uY a b=some (decide (a=b)):=by unfold uY;rw[zPR h,zA,yG9];congr 1;rw[gL];simp only[cZ];exact(zSS a b 0).2
theorem z5B (codes:List Int):∀(es:List bO) (k:Nat),chk (λ_ (x:bO)=>if x.aW=codes then some (true,x.aU) else none) es k=(es.find? (λx=>decide (x.aW=codes))).map λx=>(true,x.aU)
 | [],_=>rfl
 | x::es,k=>by
  simp only[chk,iw];by_cases h:x.aW=codes;simp[h];simp only[h,cV,dH];exact z5B codes es (k+1)
theorem z8O {es:List bO} (H:Vd es) (T:es.length<=2000) {d:Collation} (O:d.aB=es) (codes:List Int):zEL d codes=some (zEA es codes):=by
 have D:zE (λ(v:Int)=>zDX d codes v) 0=some (toS (chk (λ_ (x:bO)=>if x.aW=codes then some (true,x.aU) else none) es 0)):=by
  subst O;refine xT d.aB _ (λk h=>?_) (λk h=>?_);have K:=eJ h;have e8:=H.hi _ K;simp only[zDX,yU h,cN,zV h,zA,zRP (d8 e8 (by omega)),zK (k:=k) (by omega)];by_cases G:(d.aB[k]).aW=codes;rw[yPG (d8 (H.el _ K) (by omega))];simp[G,stp,zA];simp[G,stp];simp only[zDX,kJ h,cM]
 unfold zEL zEA;rw[D,zA,xD,z5B];cases es.find? (λx=>decide (x.aW=codes))<;>rfl
theorem yLN {c:Collation} (k:Sm c):(kB c).aB.length<=2000:=by unfold kB;have:=k.en;by_cases h:ckE c=0;simp only[h,dG];omega;simp[h]
theorem yLO {es:List bO} (k:Vd es) (codes:List Int):(zEA es codes).1.length<=2000:=by
 unfold zEA;cases h:es.find? (λx=>decide (x.aW=codes)) with
 | none=>simp
 | some x=>exact d8 (k.el x (fP h)) (by omega)
def zUF (d:Collation) (h:Int):List aP:=if vld h=true then
 [({aS:=wi (d.bJ+wi (h.tdiv 32768)),aL:=d.bA,aO:=d.bI,aD:=false}:aP),({aS:=wi (32768+h.tmod 32768),aL:=0,aO:=0,aD:=false}:aP)] else []
theorem z5C (c:Collation) (h:Int):xR (zSU c) h=some (zUF (kB c) h):=by unfold xR zUF;rw[zRN,zA];cases vld h<;>simp[zNS,zKF,zSU]
theorem zOE {c:Collation} (D:Sm c) (k:∀g∈c.aF,g.bS.length<=MX) (h:Int):zEM c h=some (zUF (kB c) h):=by unfold zEM zUF;rw[zFW,zA,zWL D k];cases vld h<;>simp[zNS,zKF]
theorem yLP (d:Collation) (h:Int):(zUF d h).length<=2000:=by unfold zUF;cases vld h<;>simp
open Go.AV
def nth {h:Type} [Inhabited h] (l:List h) (k:Nat): h:=l.getD k default
theorem zU {D:Type} [Inhabited D] {l:List D} {k:Nat} (h:k<l.length):yD l (k:Int)=some (nth l k):=by rw[zV h];simp[nth,h]
theorem vN {D:Type} [Inhabited D] {l:List D} {k:Nat} (h:k<l.length):nth l k∈l:=by simp[nth,h]
theorem zBP {D:Type} [Inhabited D] {l:List D} {k:Nat} (h:k<l.length):nth l k=l[k]:=by simp[nth,h]
theorem zAT {G:Type} [Inhabited G] {l:List G} {p: G->Prop}:(∀k,k<l.length->p (nth l k))↔∀x∈l,p x:=by
 constructor;intro h x H;obtain⟨k,D,rfl⟩:=fA H;have:=h k D
 rwa [zBP D] at this
 intro h k D;exact h _ (vN D)
def Ver (m:Option Int) (p:Prop):Prop:= ∃e,m=some e/\(e=0↔p)
theorem z5D {Y:Type} {body:Int->Option (Stp Int (Unit⊕Y))} (N:Nat) (P:Nat->Prop) (Q:Y->Prop) (s:Nat)
  (hb:∀k,s<=k->k<N->(P k/\body (k:Int)=some (.next ((k+1:Nat):Int)))\/(¬P k/\∃y,Q y/\body (k:Int)=some (.done (.inr y))))
  (he:∀k,N<=k->body (k:Int)=some (.done (.inl ()))):
  ∀(n k:Nat),N-k=n->s<=k->(zE body (k:Int)=some (.inl ())/\∀j,k<=j->j<N->P j)\/(∃y,Q y/\zE body (k:Int)=some (.inr y)/\¬∀j,k<=j->j<N->P j):=by
 intro n
 induction n with
 | zero=>
  intro k hk _;refine .inl ⟨zL (he k (by omega)),λj G H=>by omega⟩
 | succ n ih=>
  intro k hk hs;rcases hb k hs (by omega) with ⟨T,h⟩ | ⟨T,y,Z,h⟩
  ·rw[zN h]
   rcases ih (k+1) (by omega) (by omega) with ⟨G,H⟩ | ⟨y,Z,G,H⟩
   ·refine .inl ⟨G,λj O D=>?_⟩
    by_cases e:j=k
    ·subst e;exact T
    ·exact H j (by omega) D
   ·exact .inr ⟨y,Z,G,λK=>H λj O D=>K j (by omega) D⟩
  ·exact .inr ⟨y,Z,zL h,λK=>T (K k (dA _) (by omega))⟩
theorem wV {X Y:Type} {P:Prop} {b:Bool} {k:X} {y:Y} {Q:Y->Prop} (hb:b=true↔¬P) (G:Q y):(P/\(cond b (some (Stp.done (Sum.inr y))) (some (.next k)):Option (Stp X (Unit⊕Y)))=some (.next k))\/(¬P/\∃D,Q D/\(cond b (some (Stp.done (Sum.inr y))) (some (.next k)):Option (Stp X (Unit⊕Y)))=some (.done (.inr D))):=by
 cases b with
 | true=>exact .inr ⟨hb.1 rfl,y,G,rfl⟩
 | false=>exact .inl ⟨Classical.byContradiction (λh=>Bool.noConfusion (hb.2 h)),rfl⟩
theorem kG {Y:Type} {body:Int->Option (Stp Int (Unit⊕Y))} (N:Nat) (P:Nat->Prop) (Q:Y->Prop)
  (hb:∀k,k<N->(P k/\body (k:Int)=some (.next ((k+1:Nat):Int)))\/(¬P k/\∃y,Q y/\body (k:Int)=some (.done (.inr y))))
  (K:∀k,N<=k->body (k:Int)=some (.done (.inl ()))):
  (zE body 0=some (.inl ())/\∀j,j<N->P j)\/(∃y,Q y/\zE body 0=some (.inr y)/\¬∀j,j<N->P j):=by
 rcases z5D N P Q 0 (λk _ h=>hb k h) K N 0 (by omega) (by omega) with ⟨D,G⟩ | ⟨y,T,D,G⟩
 ·exact .inl ⟨D,λj H=>G j (by omega) H⟩
 ·exact .inr ⟨y,T,D,λO=>G λj _ H=>O j H⟩
theorem zO0 {Y:Type} {body:Int->Option (Stp Int (Unit⊕Y))} (N:Nat) (P:Nat->Prop) (Q:Y->Prop)
  (hb:∀k,k+1<N->(P k/\body ((k+1:Nat):Int)=some (.next ((k+2:Nat):Int)))\/(¬P k/\∃y,Q y/\body ((k+1:Nat):Int)=some (.done (.inr y))))
  (H:∀k,N<=k->body (k:Int)=some (.done (.inl ()))):
  (zE body 1=some (.inl ())/\∀j,j+1<N->P j)\/(∃y,Q y/\zE body 1=some (.inr y)/\¬∀j,j+1<N->P j):=by
 have:=z5D N (λk=>P (k-1)) Q 1 (λk D h=>by
  cases k with
  | zero=>omega
  | succ k=>exact hb k h) H (N-1) 1 (by omega) (by omega)
 rcases this with ⟨D,h⟩ | ⟨y,Z,D,h⟩
 ·exact .inl ⟨D,λj O=>h (j+1) (by omega) O⟩
 ·refine .inr ⟨y,Z,D,λK=>h λj T G=>?_⟩
  cases j with
  | zero=>omega
  | succ j=>exact K j G
def spOk (s:bL):Prop:=0<=s.Lo/\s.Hi<=1114111/\s.Lo<=s.Hi/\1<=s.Value/\s.Value<=254
def adOk (a b:bL):Prop:=a.Hi<b.Lo/\¬(b.Lo=a.Hi+1/\b.Value=a.Value)
def hgOk (s:bL):Prop:= ¬(s.Lo<=4370/\4352<=s.Hi)/\¬(s.Lo<=4469/\4449<=s.Hi)/\¬(s.Lo<=4546/\4520<=s.Hi)/\¬(s.Lo<=55203/\44032<=s.Hi)
structure CV (l:List bL):Prop where
 sp:∀k,k<l.length->spOk (nth l k)
 ad:∀k,k+1<l.length->adOk (nth l k) (nth l (k+1))
 hg:∀k,k<l.length->hgOk (nth l k)
theorem yR4 (s:bL):(zE (λ(x:Int)=>wP ({x0:=({Lo:=4352,Hi:=4370}:Range),x1:=({Lo:=4449,Hi:=4469}:Range),x2:=({Lo:=4520,Hi:=4546}:Range),x3:=({Lo:=44032,Hi:=55203}:Range)}:cC) s x) 0=some (.inl ())/\hgOk s)\/(zE (λ(x:Int)=>wP ({x0:=({Lo:=4352,Hi:=4370}:Range),x1:=({Lo:=4449,Hi:=4469}:Range),x2:=({Lo:=4520,Hi:=4546}:Range),x3:=({Lo:=44032,Hi:=55203}:Range)}:cC) s x) 0=some (.inr 11)/\¬hgOk s):=by
 have h:=kG (body:=λ(x:Int)=>wP ({x0:=({Lo:=4352,Hi:=4370}:Range),x1:=({Lo:=4449,Hi:=4469}:Range),x2:=({Lo:=4520,Hi:=4546}:Range),x3:=({Lo:=44032,Hi:=55203}:Range)}:cC) s x) 4
  (λk=> ¬(s.Lo<=(nth [({Lo:=4352,Hi:=4370}:Range),{Lo:=4449,Hi:=4469},{Lo:=4520,Hi:=4546},{Lo:=44032,Hi:=55203}] k).Hi/\(nth [({Lo:=4352,Hi:=4370}:Range),{Lo:=4449,Hi:=4469},{Lo:=4520,Hi:=4546},{Lo:=44032,Hi:=55203}] k).Lo<=s.Hi)) (λy=>y=11) (λk K=>?_) (λk K=>?_)
 ·have e:(∀j,j<4->¬(s.Lo<=(nth [({Lo:=4352,Hi:=4370}:Range),{Lo:=4449,Hi:=4469},{Lo:=4520,Hi:=4546},{Lo:=44032,Hi:=55203}] j).Hi/\(nth [({Lo:=4352,Hi:=4370}:Range),{Lo:=4449,Hi:=4469},{Lo:=4520,Hi:=4546},{Lo:=44032,Hi:=55203}] j).Lo<=s.Hi))↔hgOk s:=by
   unfold hgOk;constructor
   ·intro h;exact⟨h 0 (by omega),h 1 (by omega),h 2 (by omega),h 3 (by omega)⟩
   ·rintro⟨O,D,G,T⟩ j Y
    match j,Y with
    | 0,_=>exact O
    | 1,_=>exact D
    | 2,_=>exact G
    | 3,_=>exact T
  rw[e] at h;rcases h with h | ⟨y,rfl,h⟩
  ·exact .inl h
  ·exact .inr h
 ·have hi:yD [({Lo:=4352,Hi:=4370}:Range),{Lo:=4449,Hi:=4469},{Lo:=4520,Hi:=4546},{Lo:=44032,Hi:=55203}] (k:Int)=some (nth [({Lo:=4352,Hi:=4370}:Range),{Lo:=4449,Hi:=4469},{Lo:=4520,Hi:=4546},{Lo:=44032,Hi:=55203}] k):=zU (by simpa using K)
  have H:decide ((k:Int)<4)=true:=by simp;omega
  simp only[wP,H,cN,hi,zA,zO,zK (k:=k) (by omega)];generalize nth [({Lo:=4352,Hi:=4370}:Range),{Lo:=4449,Hi:=4469},{Lo:=4520,Hi:=4546},{Lo:=44032,Hi:=55203}] k=q;by_cases D:s.Lo<=q.Hi<;>by_cases G:q.Lo<=s.Hi<;>simp[D,G]
 ·have H:decide ((k:Int)<4)=false:=by simp;omega
  simp only[wP,H,cM]
theorem z5E {l:List bL} (hl:l.length<=2000) (ag:∀x∈l,b9 x):Ver (zCR l) (CV l):=by
 have T:=kG (body:=λ(x:Int)=>u9 l x) l.length (λk=>spOk (nth l k)) (λy=>y≠0) (λk D=>by
  simp only[u9,yU D,cN,zU D,zA,zO,zK (k:=k) (by omega),spOk];generalize nth l k=q;by_cases H:q.Lo<0<;>by_cases K:1114111<q.Hi<;>by_cases h3:q.Hi<q.Lo<;>by_cases h4:q.Value<1<;>by_cases h5:254<q.Value<;>simp[H,K,h3,h4,h5]<;>omega) (λk D=>by simp only[u9,kJ D,cM])
 unfold zCR Ver;rcases T with ⟨T,O⟩ | ⟨y,Y,T,O⟩
 rw[T];simp only[zA,eW];have H:=zO0 (body:=λ(x:Int)=>zAA l x) l.length (λk=>adOk (nth l k) (nth l (k+1))) (λy=>y≠0) (λk D=>by
  have G:k<l.length:=by omega
  have w:=(O k G).2.1;have w0:=(O k G).1;have w1:=(O k G).2.2.1;simp only[zAA,yU D,cN,zU D,zA,zO,zK (k:=k+1) (by omega),zD6 (k:=k) (by omega),zU G,adOk];rw[xY (n:=(nth l k).Hi+1) (by omega) (by omega)];generalize nth l k=q at*;generalize nth l (k+1)=q' at*;exact wV (by simp only[fB,dE,cZ];omega) (by decide)) (λk D=>by simp only[zAA,kJ D,cM])
 rcases H with ⟨H,Z⟩ | ⟨y,Y,H,Z⟩;rw[H];simp only[zA,eW];have K:=kG (body:=λ(x:Int)=>zAB l x) l.length (λk=>hgOk (nth l k)) (λy=>y≠0) (λk D=>by
  simp only[zAB,yU D,cN,zU D,zA,zO,zK (k:=k) (by omega)];rcases yR4 (nth l k) with ⟨h,p⟩ | ⟨h,p⟩
  rw[h];exact .inl ⟨p,rfl⟩;rw[h];exact .inr ⟨p,11,by decide,rfl⟩) (λk D=>by simp only[zAB,kJ D,cM])
 rcases K with ⟨K,p2⟩ | ⟨y,Y,K,p2⟩;rw[K];exact⟨0,rfl,by simp only[true_iff];exact⟨O,Z,p2⟩⟩
 rw[K];exact⟨y,rfl,by simp only[Y,eV];exact λh=>p2 h.hg⟩
 rw[H];exact⟨y,rfl,by simp only[Y,eV];exact λh=>Z h.ad⟩
 rw[T];exact⟨y,rfl,by simp only[Y,eV];exact λh=>O h.sp⟩
open Go.AV
theorem yHD:∀(x y:Str),Op.bytesLess x y=decide (x<y)
 | [],[]=>by simp[Op.bytesLess]
 | _::_,[]=>by simp[Op.bytesLess]
 | [],_::_=>by simp[Op.bytesLess]
 | a::x,b::y=>by
  rw[Op.bytesLess,yHD x y];rw[gL];simp[List.cons_lt_cons_iff]
theorem z8P (s:Str) (D:s.length<=MX):zE (λ(x:Int)=>zAC s x) 0=some (toS (chk (λ_ (b:UInt8)=>if zHD (b.toNat:Int) then none else some false) s 0)):=by
 refine xT s _ (λk h=>?_) (λk h=>?_);simp only[zAC,yU h,cN,z47 h,zA,zO,zK (k:=k) (by unfold MX at D;omega)]
 have e:(((!(decide ((65:Int)<=(s[k].toNat:Int))&&decide ((s[k].toNat:Int)<=90) ||decide ((97:Int)<=(s[k].toNat:Int))&&decide ((s[k].toNat:Int)<=122)))&& !(decide ((48:Int)<=(s[k].toNat:Int))&&decide ((s[k].toNat:Int)<=57)))&& !decide ((s[k].toNat:Int)=95))= !zHD (s[k].toNat:Int):=by
  unfold zHD;generalize (decide ((65:Int)<=(s[k].toNat:Int))&&decide ((s[k].toNat:Int)<=90) ||decide ((97:Int)<=(s[k].toNat:Int))&&decide ((s[k].toNat:Int)<=122))=A;generalize (decide ((48:Int)<=(s[k].toNat:Int))&&decide ((s[k].toNat:Int)<=57))=B;generalize decide ((s[k].toNat:Int)=95)=C;cases A<;>cases B<;>cases C<;>rfl
 rw[e];cases zHD (s[k].toNat:Int)<;>rfl;simp only[zAC,kJ h,cM]
theorem yHE {s:Str} (K:s.length<=MX):zEG s=some (zOC s):=by
 unfold zEG;rw[zO];cases s with
 | nil=>rfl
 | cons x l=>
  have G:((x::l:Str)== [])=false:=rfl;rw[G,eY];by_cases D:32<(x::l).length
  ·
   have:decide ((32:Int)<((x::l).length:Int))=true:=by simp at D ⊢;omega
   rw[this,cN];unfold zOC;cases H:chk (λ_ (b:UInt8)=>if zHD (b.toNat:Int) then none else some false) (x::l) 0 with
   | none=>
    have:decide ((x::l).length<=32)=false:=by simp at D ⊢;omega
    simp only[this,fR]
   | some y=>
    have:y=false:=zJ4 (P:=λy=>y=false) (λk b y h=>by split at h<;>simp_all) H
    simp[this]
  ·
   have:decide ((32:Int)<((x::l).length:Int))=false:=by simp at D ⊢;omega
   rw[this,cM,z8P _ K,zA,xD];unfold zOC;cases chk (λ_ (b:UInt8)=>if zHD (b.toNat:Int) then none else some false) (x::l) 0 with
   | none=>simp at D ⊢;omega
   | some y=>rfl
def codesOk (m:aI):Prop:=vld m.aV=true/\∀c∈m.To,vld c=true
def tagOk (m:aI):Prop:=m.bN= []\/zOC m.bN=true
def mlt (a b:aI):Prop:=a.aV<b.aV\/(a.aV=b.aV/\a.bN<b.bN)
structure MV (l:List aI):Prop where
 co:∀m∈l,codesOk m
 sz:∀m∈l,m.To.length<=64
 tg:∀m∈l,tagOk m
 lt:∀k,k+1<l.length->mlt (nth l k) (nth l (k+1))
theorem yHF {body:Int->Option (Stp Int (Unit⊕Int))} {P:Prop} (h:(zE body 0=some (.inl ())/\P)\/(∃y,y≠0/\zE body 0=some (.inr y)/\¬P)) {f:Unit->Option Int} {R:Prop} (D:P->Ver (f ()) R) (k:R->P):
  Ver ((zE body 0).bind λy=>y.elim f λy=>some y) R:=by
 rcases h with ⟨h,p⟩ | ⟨y,G,h,p⟩
 ·rw[h];exact D p
 ·rw[h];exact⟨y,rfl,by simp only[G,eV];exact λr=>p (k r)⟩
section
variable {l:List aI} (hl:l.length<=2000) (hto:∀m∈l,m.To.length<=2000) (htg:∀m∈l,m.bN.length<=MX)
include hl hto htg
theorem yHG:Ver (zE5 l) ((∀m∈l,codesOk m)/\(∀m∈l,m.To.length<=64)/\∀m∈l,tagOk m):=by
 unfold zE5;refine yHF (P:= ∀m∈l,codesOk m) ?_ (λY=>?_) (λr=>r.1)
 ·have h:=kG (body:=λ(x:Int)=>zA3 l x) l.length (λk=>codesOk (nth l k)) (λy=>y≠0) (λk D=>?_) (λk D=>by simp only[zA3,kJ D,cM])
  ·rw[zAT (p:=codesOk)] at h;exact h
  ·simp only[zA3,yU D,cN,zU D,zA,zRN,zK (k:=k) (by omega)]
   by_cases H:vld (nth l k).aV=true
   ·have G:=kG (body:=λ(x:Int)=>zA2 (nth l k) x) (nth l k).To.length (λj=>vld (nth (nth l k).To j)=true) (λy=>y≠0) (λj K=>by
     simp only[zA2,yU K,cN,zU K,zA,zRN,zK (k:=j) (by have:=hto _ (vN D);omega)]
     exact wV (by simp) (by decide)) (λj K=>by simp only[zA2,kJ K,cM])
    rw[zAT (p:=λc=>vld c=true)] at G;simp only[H,dD,cM];rcases G with ⟨G,p⟩ | ⟨y,T,G,p⟩
    ·rw[G];exact .inl ⟨⟨H,p⟩,rfl⟩
    ·rw[G];exact .inr ⟨λq=>p q.2,y,T,rfl⟩
   ·simp only[gY] at H
    simp only[H,dQ,cN];exact .inr ⟨λq=>(by rw[q.1] at H;cases H),1,by decide,rfl⟩
 ·refine yHF (P:= ∀m∈l,m.To.length<=64) ?_ (λZ=>?_) (λr=>r.2.1)
  ·have h:=kG (body:=λ(x:Int)=>zA4 l x) l.length (λk=>(nth l k).To.length<=64) (λy=>y≠0) (λk D=>by
    simp only[zA4,yU D,cN,zU D,zA,zK (k:=k) (by omega)];exact wV (by simp only[cZ];omega) (by decide)) (λk D=>by simp only[zA4,kJ D,cM])
   rw[zAT (p:=λ(m:aI)=>m.To.length<=64)] at h;exact h
  ·refine yHF (P:= ∀m∈l,tagOk m) ?_ (λp2=>⟨0,rfl,by simp only[true_iff];exact⟨Y,Z,p2⟩⟩) (λr=>r.2.2)
   have h:=kG (body:=λ(x:Int)=>zA5 l x) l.length (λk=>tagOk (nth l k)) (λy=>y≠0) (λk D=>by
    simp only[zA5,yU D,cN,zU D,zA,zO,zK (k:=k) (by omega),tagOk];have hb:((nth l k).bN== [])=decide ((nth l k).bN= []):=by cases (nth l k).bN<;>rfl
    rw[hb];by_cases O:(nth l k).bN= []
    ·simp only[O,dB,dD,vF,zA,dR,cM]
     exact .inl ⟨.inl trivial,trivial⟩
    ·simp only[O,dH,dQ,xS,yHE (htg _ (vN D)),zA,dM,false_or]
     exact wV (by simp) (by decide)) (λk D=>by simp only[zA5,kJ D,cM])
   rw[zAT (p:=tagOk)] at h;exact h
omit hl hto htg in
theorem yNR (a b:Int):zGZ [a,b]=some (if a=0 then b else a):=by have k:decide ((0:Int)<(([a,b]:List Int).length:Int))=true:=rfl;have D:decide ((1:Int)<(([a,b]:List Int).length:Int))=true:=rfl;have G:decide ((2:Int)<(([a,b]:List Int).length:Int))=false:=rfl;unfold zGZ;rw[xJ];simp only[zDR,k,cN,yG3,zA];by_cases h:a=0;subst h;simp only[dB,dD,cM,dG];have w1:wi (0+1)=1:=xY (by omega) (by omega);rw[w1,xJ];simp only[zDR,D,cN];have:yD ([0,b]:List Int) 1=some b:=rfl;rw[this];simp only[zA];by_cases hb:b=0;subst hb;simp only[dB,dD,cM];have w2:wi (1+1)=2:=xY (by omega) (by omega);rw[w2,xJ];simp only[zDR,G,cM];rfl;simp[hb];simp[h]
omit hl hto htg in
theorem yUK (x y:Str):zBG x y=some (if x<y then -1 else if y<x then 1 else 0):=by
 unfold zBG zCS;simp only[zA,beq_self_eq_true,dD,cM,yHD];by_cases h:x<y
 ·simp[h]
 ·by_cases D:x=y
  ·subst D;simp[h]
  ·have k:y<x:=by
    by_cases k:y<x
    ·exact k
    ·exact absurd (List.le_antisymm (List.not_lt.1 k) (List.not_lt.1 h)) D
   have hb:(x==y)=false:=by simpa using D
   simp[h,k,hb]
omit hl hto htg in
theorem yUL (a b:aI):∃e,zDP a b=some e/\(0<=e↔¬mlt a b):=by
 unfold zDP;simp only[yDI,yUK,zA,yNR];refine⟨_,rfl,?_⟩;unfold mlt;by_cases h:a.aV<b.aV;simp[h];by_cases D:b.aV<a.aV;have:¬a.aV=b.aV:=by omega
 simp[h,D,this];have:a.aV=b.aV:=by omega
 by_cases k:a.bN<b.bN;simp[this,k];by_cases G:b.bN<a.bN<;>simp[this,k,G]
omit hto htg in
theorem yLQ:∀(n k:Nat) (b:Bool),l.length-k=n->1<=k->∃r,zE (λ(x:Bool×Int)=>uB l x.1 x.2) (b,(k:Int))=some r/\(r=true↔b=true/\∀j,k<=j+1->j+1<l.length->mlt (nth l j) (nth l (j+1))):=by
 intro n
 induction n with
 | zero=>
  intro k b hk Y;refine⟨b,?_,?_⟩;rw[xJ];simp only[uB,kJ (show l.length<=k by omega),cM];exact⟨λh=>⟨h,λj K G=>by omega⟩,λh=>h.1⟩
 | succ n ih=>
  intro k b hk Y;obtain⟨k,rfl⟩:∃k',k=k'+1:=⟨k-1,by omega⟩;have D:k+1<l.length:=by omega
  obtain⟨e,Z,O⟩:=yUL (nth l k) (nth l (k+1));obtain⟨r,hr,hq⟩:=ih (k+2) (cond (decide (0<=e)) false b) (by omega) (by omega);refine⟨r,?_,?_⟩;rw[xJ];simp only[uB,yU D,cN,zD6 (k:=k) (by omega),zU (show k<l.length by omega),zU D,zA,Z,zK (k:=k+1) (by omega)];rw[<-hr];cases decide (0<=e)<;>rfl;rw[hq];by_cases H:mlt (nth l k) (nth l (k+1));have:decide (0<=e)=false:=by simp only[c9];exact λh=>O.1 h H
  rw[this,cM];constructor
  rintro⟨a,c⟩
  refine⟨a,λj K G=>?_⟩;by_cases T:j=k;subst T;exact H;exact c j (by omega) G
  rintro⟨a,c⟩;exact⟨a,λj K G=>c j (by omega) G⟩
  have:decide (0<=e)=true:=by simp only[cZ];exact O.2 H
  rw[this,cN];constructor
  rintro⟨a,_⟩;cases a
  rintro⟨_,c⟩;exact absurd (c k (by omega) D) H
omit hto htg in
theorem yPH:∀(n k:Nat) (m:List (bM×Bool)),l.length-k=n->∃r,zE (λ(x:Int×(List (bM×Bool)))=>uC l x.1 x.2) ((k:Int),m)=some r/\(r= .inl ()\/r= .inr 5):=by
 intro n
 induction n with
 | zero=>
  intro k m D;refine⟨.inl (),?_,.inl rfl⟩;rw[xJ];simp only[uC,kJ (show l.length<=k by omega),cM]
 | succ n G=>
  intro k m D;have h:k<l.length:=by omega
  rw[xJ];simp only[uC,yU h,cN,zU h,zA,zE6,zK (k:=k) (by omega)];cases mgetD m ({cG:=(nth l k).aV,cL:=(nth l k).bN}:bM) false with
  | true=>exact⟨.inr 5,rfl,.inr rfl⟩
  | false=>exact G (k+1) _ (by omega)
theorem yPI:Ver (zE7 l) (MV l):=by
 obtain⟨e,Z,T⟩:=yHG hl hto htg;unfold zE7;rw[Z,zA];by_cases H:e=0;subst H;simp only[dB,dD,cM];obtain⟨p0,p1,p2⟩:=T.1 rfl;obtain⟨r,K,Y⟩:=yLQ hl (l.length-1) 1 true rfl (by omega);have D:zE (λ(x:Bool×Int)=>uB l x.1 x.2) (true,1)=some r:=K;rw[D,zA];cases r with
 | true=>exact⟨0,rfl,by simp only[true_iff];exact⟨p0,p1,p2,λk hk=>(Y.1 rfl).2 k (by omega) hk⟩⟩
 | false=>
  have G:¬MV l:=λh=>by have:=Y.2 ⟨rfl,λj _ hj=>h.lt j hj⟩;cases this
  obtain⟨r,K,O⟩:=yPH hl l.length 0 [] (by omega);have D:zE (λ(x:Int×(List (bM×Bool)))=>uC l x.1 x.2) (0,[])=some r:=K;simp only[cM];rw[D,zA];rcases O with rfl | rfl;exact⟨4,rfl,by simp only[show ((4:Int)=0)=False by simp,eV];exact G⟩
  exact⟨5,rfl,by simp only[show ((5:Int)=0)=False by simp,eV];exact G⟩
 have:(!decide (e=0))=true:=by simp[H]
 rw[this,cN];exact⟨e,rfl,by simp only[H,eV];exact λh=>H (T.2 ⟨h.co,h.sz,h.tg⟩)⟩
end
open Go.AV
section
variable {α:Type} (lt: α->α->Bool)
def u6:List α->α->List α->List α
 | [],x,s=>x::s
 | y::r,x,s=>if lt x y then u6 r x (y::s) else (y::r).reverse++x::s
def zAZ (l:List α) (p:List α):List α:=l.foldl (λp x=>u6 lt p.reverse x []) p
theorem z5F:∀(r:List α) (x: α) (s t:List α),u6 lt r x (s++t)=u6 lt r x s++t
 | [],x,s,t=>rfl
 | y::r,x,s,t=>by
  unfold u6;split;exact z5F r x (y::s) t;simp
theorem zSV:∀(r:List α) (x: α) (s:List α),(u6 lt r x s).Perm (r.reverse++x::s)
 | [],x,s=> .refl _
 | y::r,x,s=>by
  unfold u6;split
  ·
   refine(zSV r x (y::s)).trans ?_;simp only[List.reverse_cons,c8,iD];exact List.Perm.append_left _ (List.Perm.swap y x s)
  · exact .refl _
theorem zWM (r:List α) (x: α) (s:List α):(u6 lt r x s).length=r.length+1+s.length:=by rw[(zSV lt r x s).length_eq];simp;omega
theorem zMO:∀(l p:List α),(zAZ lt l p).Perm (p++l)
 | [],p=>by simp[zAZ]
 | x::l,p=>by
  have h:=zMO l (u6 lt p.reverse x []);refine h.trans ?_;have k:=zSV lt p.reverse x [];rw[fQ] at k;have D:=List.Perm.append_right l k;simpa using D
variable (tr:∀a b c,lt b a=false->lt c b=false->lt c a=false) (asy:∀a b,lt a b=true->lt b a=false)
abbrev LeB (a b: α):Prop:=lt b a=false
include tr asy
theorem zTP:∀(r:List α) (x: α) (s:List α),(r.reverse++s).Pairwise (LeB lt)->(∀y∈s,LeB lt x y)->(u6 lt r x s).Pairwise (LeB lt)
 | [],x,s,h,H=>by simpa[u6] using ⟨H,h⟩
 | y::r,x,s,h,H=>by
  unfold u6;split;rename_i D;refine zTP r x (y::s) (by simpa using h) ?_;intro z hz;rcases dL.1 hz with rfl | hz
  exact asy _ _ D;exact H z hz;rename_i D;have G:LeB lt y x:=by simpa using D
  rw[iG] at h ⊢;refine⟨h.1,fE.2 ⟨H,h.2.1⟩,?_⟩;intro a ha b hb;have k:LeB lt a y\/a=y:=by
   have K:=h.1;rw[List.reverse_cons,iG] at K;rw[List.reverse_cons,eQ] at ha;rcases ha with ha | ha
   exact .inl (K.2.2 a ha y (by simp));exact .inr (by simpa using ha)
  rcases dL.1 hb with rfl | hb;rcases k with k | rfl;exact tr _ _ _ k G;exact G;exact h.2.2 a ha b hb
theorem zMP:∀(l p:List α),p.Pairwise (LeB lt)->(zAZ lt l p).Pairwise (LeB lt)
 | [],p,h=>h
 | x::l,p,h=>zMP l _ (zTP lt tr asy p.reverse x [] (by simpa using h) (by simp))
omit tr asy in
theorem z5G:∀(l p:List α),(p++l).Pairwise (LeB lt)->zAZ lt l p=p++l
 | [],p,_=>by simp[zAZ]
 | x::l,p,h=>by
  have e:u6 lt p.reverse x []=p++ [x]:=by
   cases D:p.reverse with
   | nil=>
    have:p= []:=by simpa using D
    subst this;rfl
   | cons y r=>
    unfold u6;have k:p=r.reverse++ [y]:=by have:=congrArg List.reverse D;simpa using this
    have:lt x y=false:=by
     rw[k,iG] at h;exact h.2.2 y (by simp) x (by simp)
    rw[this];simp[k]
  show zAZ lt l (u6 lt p.reverse x [])=_;rw[e,z5G l (p++ [x]) (by simpa using h)];simp
end
def rlt (a b:Range):Bool:=decide (a.Lo<b.Lo) ||(decide (a.Lo=b.Lo)&&decide (a.Hi<b.Hi))
theorem yUM (a b:Range):∃e,zB2 a b=some e/\(e<0↔rlt a b=true):=by
 unfold zB2;simp only[yDI,zA,yNR];refine⟨_,rfl,?_⟩;unfold rlt;by_cases h:a.Lo<b.Lo;simp[h];by_cases D:b.Lo<a.Lo;have:¬a.Lo=b.Lo:=by omega
 simp[h,D,this];have:a.Lo=b.Lo:=by omega
 by_cases k:a.Hi<b.Hi;simp[this,k];by_cases G:b.Hi<a.Hi<;>simp[this,k,G]
theorem vO {D:Type} {p s:List D} {x: D} {k:Nat} (h:k=p.length):yD (p++x::s) (k:Int)=some x:=by subst h;rw[zV (by simp)];simp
theorem zAR {D:Type} {p s:List D} {x y: D} {k:Nat} (h:k=p.length):zBD (p++x::s) (k:Int) y=some (p++y::s):=by subst h;rw[zID (by simp)];simp
section
variable {f:Range->Range->Option Int} {lt:Range->Range->Bool} (hf:∀a b,∃e,f a b=some e/\(e<0↔lt a b=true))
include hf
theorem yNS:∀(r:List Range) (x:Range) (s:List Range),r.length<=2000->zE (λ(q:Int×List Range)=>yY 0 f q.1 q.2) ((r.length:Int),r.reverse++x::s)=some (u6 lt r x s)
 | [],x,s,_=>by
  rw[xJ];simp only[yY,d6,zO];have:decide ((0:Int)<((0:Nat):Int))=false:=rfl;rw[this];simp[vF,u6]
 | y::r,x,s,Y=>by
  simp only[dO] at Y ⊢;have K:decide ((0:Int)<((r.length+1:Nat):Int))=true:=by simp<;>omega
  have T:(y::r).reverse++x::s=r.reverse++y::(x::s):=by simp
  have Z:wi (((r.length+1:Nat):Int)-1)=(r.length:Int):=zD6 (by omega);have i1:yD ((y::r).reverse++x::s) ((r.length+1:Nat):Int)=some x:=vO (by simp);have i0:yD ((y::r).reverse++x::s) (r.length:Int)=some y:=by rw[T];exact vO (by simp)
  obtain⟨e,O,H⟩:=hf x y;rw[xJ];simp only[yY,K,zO,xS,i1,Z,i0,zA,O,dM];unfold u6;by_cases G:lt x y=true;have k:decide (e<0)=true:=by simpa using H.2 G
  have s1:zBD ((y::r).reverse++x::s) ((r.length+1:Nat):Int) y=some ((y::r).reverse++y::s):=zAR (by simp);have D:(y::r).reverse++y::s=r.reverse++y::(y::s):=by simp
  have i2:yD ((y::r).reverse++y::s) (r.length:Int)=some y:=by rw[D];exact vO (by simp)
  have s2:zBD ((y::r).reverse++y::s) (r.length:Int) x=some (r.reverse++x::(y::s)):=by rw[D];exact zAR (by simp)
  simp only[k,cN,s1,zA,i2,s2,G,dG];exact yNS r x (y::s) (by omega);have k:decide (e<0)=false:=by simp only[c9];exact λh=>G (H.1 h)
  simp only[k,cM,G];rfl
theorem yHH:∀(l p:List Range),1<=p.length->p.length+l.length<=2000->zE (λ(q:Int×List Range)=>yJ ((p.length+l.length:Nat):Int) 0 f q.1 q.2) ((p.length:Int),p++l)=some (zAZ lt l p)
 | [],p,_,_=>by
  rw[xJ];simp only[yJ,d6,fJ,kJ (dA _),cM,eA];rfl
 | x::l,p,O,K=>by
  simp only[dO] at K ⊢;have h:=yNS hf p.reverse x l (by simp;omega)
  rw[gU,fQ] at h;rw[xJ];simp only[yJ,yU (show p.length<p.length+(l.length+1) by omega),cN];rw[h,zA];have G:u6 lt p.reverse x l=u6 lt p.reverse x []++l:=by
   have:=z5F lt p.reverse x [] l;simpa using this
  have k:(u6 lt p.reverse x []).length=p.length+1:=by rw[zWM];simp
  have D:=yHH l (u6 lt p.reverse x []) (by omega) (by omega);rw[k] at D;have H:((p.length+1+l.length:Nat):Int)=((p.length+(l.length+1):Nat):Int):=by congr 1;omega
  rw[H] at D;rw[G,zK (by omega)];exact D
theorem yLR (l:List Range) (h:l.length<=2000):jC l 0 (l.length:Int) f=some (zAZ lt l []):=by
 unfold jC;have D:wi (0+1)=((1:Nat):Int):=xY (by omega) (by omega);rw[D];cases l with
 | nil=>
  rw[xJ];simp only[yJ,kJ (show ([]:List Range).length<=1 by simp),cM];rfl
 | cons x l=>
  have:=yHH hf l [x] (by simp) (by simp at h ⊢;omega)
  have e:((([x]:List Range).length+l.length:Nat):Int)=((x::l).length:Int):=by simp;omega
  rw[e] at this;have k:(([x]:List Range).length:Int)=((1:Nat):Int):=rfl;rw[k] at this;rw[show ([x]++l:List Range)=x::l from rfl] at this;rw[this];rfl
end
theorem yLS:∀n:Fin 13,∃e,zE2 (wu ((n.val:Nat):Int))=some e:=by
 intro n;have:∀n:Fin 13,(zE2 (wu ((n.val:Nat):Int))).isSome=true:=by decide
 exact gO.1 (this n)
theorem yLT {l:List Range} (h:l.length<=12):jF l (λa b=>zB2 a b)=some (zAZ rlt l []):=by
 unfold jF wB;obtain⟨e,D⟩:=yLS ⟨l.length,by omega⟩;rw[D,zA];have hb:kZ (l.length:Int) 0 l (λa b=>zB2 a b) e=some (.done (zAZ rlt l [])):=by
  unfold kZ;have G:wi ((l.length:Int)-0)=(l.length:Int):=xY (by omega) (by omega);have k:decide ((l.length:Int)<=12)=true:=by simp;omega
  rw[G,k,cN,yLR (lt:=rlt) yUM l (by omega)];rfl
 rw[zL (body:=λ(_:Unit)=>kZ (l.length:Int) 0 l (λa b=>zB2 a b) e) hb];rfl
theorem yPJ (a b c:Range) (h:rlt b a=false) (k:rlt c b=false):rlt c a=false:=by unfold rlt at*;simp only[fC,eD,c9] at*;omega
theorem yLU (a b:Range) (h:rlt a b=true):rlt b a=false:=by unfold rlt at*;simp only[fC,eD,c9,fB,dE,cZ] at*;omega
open Go.AV
def zDL (r:Range):Prop:=0<=r.Lo/\r.Lo<=r.Hi/\r.Hi<=1114111
def Can:List Range->Prop
 | []=>True
 | [r]=>zDL r
 | r::q::l=>zDL r/\r.Hi+1<q.Lo/\Can (q::l)
theorem Can.head {r:Range} {l:List Range} (h:Can (r::l)):zDL r:=by
 cases l with
 | nil=>exact h
 | cons q l=>exact h.1
theorem Can.tail {r:Range} {l:List Range} (h:Can (r::l)):Can l:=by
 cases l with
 | nil=>trivial
 | cons q l=>exact h.2.2
theorem Can.ok:∀{l:List Range},Can l->∀r∈l,zDL r
 | [],_,r,k=>by cases k
 | q::l,h,r,k=>by
  rcases dL.1 k with rfl | k;exact h.head;exact Can.ok h.tail r k
theorem Can.gap:∀{l:List Range} {r:Range},Can (r::l)->∀q∈l,r.Hi+1<q.Lo
 | [],_,_,q,k=>by cases k
 | a::l,r,h,q,k=>by
  rcases dL.1 k with rfl | k;exact h.2.1;have G:=Can.gap h.2.2 q k;have D:=(h.2.2.head);have H:=h.2.1;unfold zDL at D;omega
theorem Can.sorted:∀{l:List Range},Can l->l.Pairwise (LeB rlt)
 | [],_=> .nil
 | r::l,h=>by
  refine fE.2 ⟨λq D=>?_,Can.sorted h.tail⟩;have G:=Can.gap h q D;have k:=h.head;unfold zDL at k;unfold LeB rlt;simp only[fC,eD,c9];omega
def z1V (r:Range):Range:={Lo:=max r.Lo 0,Hi:=min r.Hi 1114111}
def zFX (l:List Range):List Range:=(l.map z1V).filter λr=>decide (r.Lo<=r.Hi)
theorem zWN (x:Range) (l:List Range):zFX (x::l)=(if (z1V x).Lo<=(z1V x).Hi then [z1V x] else [])++zFX l:=by unfold zFX;rw[ez,ij];by_cases h:(z1V x).Lo<=(z1V x).Hi<;>simp[h]
theorem z5H (x:Range) (l:List Range):zFX (x::l)=(if max x.Lo 0<=min x.Hi 1114111 then [({Lo:=max x.Lo 0,Hi:=min x.Hi 1114111}:Range)] else [])++zFX l:=zWN x l
theorem z5I (l:List Range):∀r∈zFX l,zDL r:=by intro r k;unfold zFX at k;rw[e6,eK] at k;obtain⟨⟨q,_,rfl⟩,h⟩:=k;simp only[cZ] at h;unfold z1V at h ⊢;unfold zDL;simp only at h ⊢;omega
theorem yHI {l:List Range} (h:∀r∈l,zDL r):zFX l=l:=by
 induction l with
 | nil=>rfl
 | cons x l G=>
  have k:=h x (by simp);have:z1V x=x:=by
   unfold zDL at k;unfold z1V;cases x;simp only[Range.mk.injEq] at k ⊢;omega
  rw[zWN,this,dI k.2.1,G λr D=>h r (by simp[D])];rfl
theorem zZS (l:List Range):(zFX l).length<=l.length:=by unfold zFX;exact d8 (hU _ _) (by simp)
theorem yUN {l:List Range} (T:l.length<=2000):∀(n k:Nat) (o:List Range),l.length-k=n->k<=l.length->o.length<=k->zE (λ(x:Int×(List Range))=>zCB l x.1 x.2) ((k:Int),o)=some (o++zFX (l.drop k)):=by
 intro n
 induction n with
 | zero=>
  intro k o H K O;rw[xJ];simp only[zCB,kJ (show l.length<=k by omega),cM];rw[dC (by omega)];simp[zFX]
 | succ n G=>
  intro k o H K O;have h:k<l.length:=by omega
  rw[xJ];simp only[zCB,yU h,cN,zV h,zA,zK (k:=k) (by omega)];rw[cY h,z5H];by_cases D:max l[k].Lo 0<=min l[k].Hi 1114111;simp only[D,dB,cN,dG];rw[jX (by simp;omega)]
  simp only[zA];have:=G (k+1) (o++ [({Lo:=max l[k].Lo 0,Hi:=min l[k].Hi 1114111}:Range)]) (by omega) (by omega) (by simp;omega)
  rw[c8] at this;exact this;simp only[D,dH,cM,cV,zA,dP];exact G (k+1) o (by omega) (by omega) (by omega)
def mrg:List Range->Range->List Range
 | [],r=>[r]
 | q::l,r=>if r.Lo<=q.Hi+1 then {q with Hi:=max q.Hi r.Hi}::l else r::q::l
theorem zL2 (q:Range) (l:List Range) (r:Range):mrg (q::l) r=if r.Lo<=q.Hi+1 then {q with Hi:=max q.Hi r.Hi}::l else r::q::l:=rfl
theorem yLV (o:List Range) (r:Range):(mrg o r).length<=o.length+1:=by
 cases o with
 | nil=>simp[mrg]
 | cons q l=>rw[zL2];split<;>simp
theorem yPK {o:List Range} {r:Range} (h:∀q∈o,zDL q) (k:zDL r):∀q∈mrg o r,zDL q:=by
 cases o with
 | nil=>simpa[mrg] using k
 | cons q l=>
  intro x hx;have D:=h q (by simp);unfold zDL at D k;rw[zL2] at hx;split at hx;rcases dL.1 hx with rfl | hx
  unfold zDL;simp only;omega;exact h x (by simp[hx]);rcases dL.1 hx with rfl | hx
  exact k;exact h x hx
theorem yUO {t:List Range} (ht:t.length<=2000) (K:∀r∈t,zDL r):∀(n k:Nat) (o:List Range),t.length-k=n->k<=t.length->o.length<=k->(∀r∈o,zDL r)->zE (λ(x:Int×(List Range))=>zCC t x.1 x.2) ((k:Int),o.reverse)=some ((t.drop k).foldl mrg o).reverse:=by
 intro n
 induction n with
 | zero=>
  intro k o h1 h2 T H;rw[xJ];simp only[zCC,kJ (show t.length<=k by omega),cM];rw[dC (by omega)];rfl
 | succ n ih=>
  intro k o h1 h2 T H;have h:k<t.length:=by omega
  have hr:=K _ (eJ h);rw[cY h,iv];rw[<-ih (k+1) (mrg o t[k]) (by omega) (by omega) (by have:=yLV o t[k];omega) (yPK H hr)]
  rw[xJ];simp only[zCC,yU h,cN,zV h,zA,zO,zK (k:=k) (by omega)];cases o with
  | nil=>
   have G:decide ((0:Int)<((([]:List Range).reverse).length:Int))=false:=rfl;simp only[G,vF,zA,dR,cM];rw[jX (by simp)];rfl
  | cons q l=>
   have hq:=H q (by simp);unfold zDL at hq;have D:((q::l).reverse).length=l.length+1:=by simp
   simp only[dO] at T;have G:decide ((0:Int)<(((q::l).reverse).length:Int))=true:=by rw[D];simp<;>omega
   have Z:wi ((((q::l).reverse).length:Int)-1)=(l.length:Int):=by rw[D];exact zD6 (by omega)
   have O:(q::l).reverse=l.reverse++q:: []:=by simp
   have i1:yD (q::l).reverse (l.length:Int)=some q:=by rw[O];exact vO (by simp)
   have e3:wi (q.Hi+1)=q.Hi+1:=xY (by omega) (by omega);simp only[G,Z,i1,xS,zA,dM,e3];rw[zL2];by_cases Y:t[k].Lo<=q.Hi+1;simp only[Y,dB,cN,dG];have s1:zBD (q::l).reverse (l.length:Int) ({q with Hi:=max q.Hi t[k].Hi})=some (({q with Hi:=max q.Hi t[k].Hi}::l).reverse):=by
    rw[O,zAR (by simp)];simp
   rw[s1];rfl;simp only[Y,dH,cM,cV];rw[jX (by simp;omega)]
   simp only[zA];congr 2;simp
def mkE (l:List Range):List Range:=((zAZ rlt (zFX l) []).foldl mrg []).reverse
theorem yLW {l:List Range} (K:l.length<=12):zJM l=some {Ranges:=mkE l}:=by
 unfold zJM;have G:=yUN (l:=l) (by omega) l.length 0 [] (by omega) (by omega) (by simp);simp only[d7,dP] at G;have h:zE (λ(x:Int×(List Range))=>zCB l x.1 x.2) (0,[])=some (zFX l):=G;rw[h,zA,yLT (d8 (zZS l) K),zA];have D:=zMO rlt (zFX l) [];simp only[dP] at D;have H:=yUO (t:=zAZ rlt (zFX l) []) (by rw[D.length_eq];have:=zZS l;omega) (λr O=>z5I l r (D.mem_iff.1 O)) (zAZ rlt (zFX l) []).length 0 [] (by omega) (by omega) (by simp) (by simp)
 simp only[d7] at H;have k:zE (λ(x:Int×(List Range))=>zCC (zAZ rlt (zFX l) []) x.1 x.2) (0,[])=some (mkE l):=H;rw[k];rfl
def CanR:List Range->Prop
 | []=>True
 | [r]=>zDL r
 | r::q::l=>zDL r/\q.Hi+1<r.Lo/\CanR (q::l)
theorem CanR.tail {r:Range} {l:List Range} (h:CanR (r::l)):CanR l:=by
 cases l with
 | nil=>trivial
 | cons q l=>exact h.2.2
theorem CanR.head {r:Range} {l:List Range} (h:CanR (r::l)):zDL r:=by
 cases l with
 | nil=>exact h
 | cons q l=>exact h.1
theorem z1W:∀(r l:List Range),CanR r->Can l->(∀x y,r.head? =some x->l.head? =some y->x.Hi+1<y.Lo)->Can (r.reverse++l)
 | [],l,_,h,_=>h
 | x::r,l,k,H,G=>by
  have:=z1W r (x::l) k.tail (by
   cases l with
   | nil=>exact k.head
   | cons y l=>exact⟨k.head,G x y rfl rfl,H⟩) (λa b D hb=>by
    cases r with
    | nil=>cases D
    | cons q r=>simp only[hY,fD] at D hb;subst D;subst hb;exact k.2.1)
  simpa using this
theorem z94:∀(t o:List Range),t.Pairwise (LeB rlt)->(∀r∈t,zDL r)->CanR o->(∀q r,o.head? =some q->r∈t->q.Lo<=r.Lo)->CanR (t.foldl mrg o)
 | [],o,_,_,h,_=>h
 | r::t,o,hs,H,T,G=>by
  have O:=fE.1 hs;have Y:=H r (by simp);have K:∀x∈t,r.Lo<=x.Lo:=λx D=>by
   have:=O.1 x D;unfold LeB rlt at this;simp only[fC,c9] at this;omega
  rw[iv];refine z94 t (mrg o r) O.2 (λx D=>H x (by simp[D])) ?_ ?_;cases o with
  | nil=>exact Y
  | cons q l=>
   have hq:=T.head;have ab:=G q r rfl (by simp);rw[zL2];split;rename_i Z;unfold zDL at hq Y;cases l with
   | nil=>show zDL _;unfold zDL;simp only;omega
   | cons z l=>exact⟨by unfold zDL;simp only;omega,T.2.1,T.2.2⟩
   rename_i Z;exact⟨Y,by omega,T⟩
  intro q' x k D;cases o with
  | nil=>simp only[mrg,hY,fD] at k;subst k;exact K x D
  | cons q l=>
   rw[zL2] at k;split at k;simp only[hY,fD] at k;subst k;exact G q x rfl (by simp[D]);simp only[hY,fD] at k;subst k;exact K x D
theorem yLX (l:List Range):Can (mkE l):=by have k:=zMO rlt (zFX l) [];simp only[dP] at k;have h:=z94 (zAZ rlt (zFX l) []) [] (zMP rlt yPJ yLU _ _ .nil) (λr D=>z5I l r (k.mem_iff.1 D)) trivial (λ_ _ h=>by cases h);have:=z1W _ [] h trivial (λ_ _ _ h=>by cases h);simpa[mkE] using this
theorem yHJ:∀(t o:List Range),Can (o.reverse++t)->t.foldl mrg o=t.reverse++o
 | [],o,_=>by simp
 | r::t,o,h=>by
  rw[iv];have e:mrg o r=r::o:=by
   cases o with
   | nil=>rfl
   | cons q l=>
    rw[zL2];have:Can (q::r::t):=by
     have k:Can (l.reverse++(q::r::t)):=by simpa using h
     clear h;generalize l.reverse=z at k
     induction z with
     | nil=>exact k
     | cons a z D=>exact D k.tail
    have:=this.2.1;rw[dK (by omega)]
  rw[e,yHJ t (r::o) (by simpa using h)];simp
theorem yPL {l:List Range} (h:Can l):mkE l=l:=by unfold mkE;rw[yHI h.ok,z5G rlt l [] (by simpa using h.sorted)];simp only[dP];rw[yHJ l [] (by simpa using h)];simp
theorem yLY (l:List Range):mkE l=l↔Can l:=⟨λh=>h▸yLX l,yPL⟩
theorem yHK {s:Set} (Y:s.Ranges.length<=12):∃b,zHU s=some b/\(b=true↔Can s.Ranges):=by
 unfold zHU;rw[yLW Y,zA,<-yLY];by_cases D:(mkE s.Ranges).length=s.Ranges.length;have H:(!decide (((mkE s.Ranges).length:Int)=(s.Ranges.length:Int)))=false:=by simp[D]
 simp only[H,cM];have h:=kG (body:=λ(x:Int)=>zCT {Ranges:=mkE s.Ranges} s x) (mkE s.Ranges).length (λk=>nth (mkE s.Ranges) k=nth s.Ranges k) (λy=>y=false) (λk G=>by
  have K:k<s.Ranges.length:=by omega
  simp only[zCT,yU G,cN,zU G,zU K,zA,zK (k:=k) (by omega)];exact wV (by simp) rfl) (λk G=>by simp only[zCT,kJ G,cM])
 have e:(∀j,j<(mkE s.Ranges).length->nth (mkE s.Ranges) j=nth s.Ranges j)↔mkE s.Ranges=s.Ranges:=by
  constructor;intro h;refine fU D λj O T=>?_;have:=h j O
  rwa [zBP O,zBP T] at this
  intro h j _;rw[h]
 rw[e] at h;rcases h with ⟨h,p⟩ | ⟨y,rfl,h,p⟩
 rw[h];exact⟨true,rfl,by simp[p]⟩;rw[h];exact⟨false,rfl,by simp[p]⟩;have H:(!decide (((mkE s.Ranges).length:Int)=(s.Ranges.length:Int)))=true:=by simp;omega
 simp only[H,cN];exact⟨false,rfl,by simp only[dN,eV];exact λh=>D (by rw[h])⟩
open Go.AV
def hkE (c:Int):Int:=if 4352<=c/\c<4371 then 1 else if 4449<=c/\c<4470 then 2 else if 4520<=c/\c<4547 then 3 else if c<44032\/55204<=c then 0 else if (c-44032)%28=0 then 4 else 5
theorem zO1 (c:Int):zEH c=some (hkE c):=by
 unfold zEH hkE;simp only[zO];by_cases D:4352<=c/\c<4371;simp[D];by_cases G:4449<=c/\c<4470;have:¬c<4371:=by omega
 simp[G,this];by_cases H:4520<=c/\c<4547;have a1:¬c<4371:=by omega
 have a2:¬c<4470:=by omega
 simp[H,a1,a2];have K:(decide (4352<=c)&&decide (c<4371))=false:=by simp only[eD,c9];omega
 have O:(decide (4449<=c)&&decide (c<4470))=false:=by simp only[eD,c9];omega
 have T:(decide (4520<=c)&&decide (c<4547))=false:=by simp only[eD,c9];omega
 simp only[K,O,T,cM,D,G,H,cV];by_cases k:c<44032\/55204<=c;have h:(decide (c<44032) ||decide (55204<=c))=true:=by simpa using k
 simp only[h,cN,k,dG];have h:(decide (c<44032) ||decide (55204<=c))=false:=by simp only[fC,c9];omega
 simp only[h,cM,k,cV];rw[xY (by omega) (by omega)];unfold zKF;rw[dK (by omega),zA];have:(c-44032).tmod 28=(c-44032)%28:=gv (by omega);rw[this];by_cases Y:(c-44032)%28=0<;>simp[Y]
def syl (c:Int):Bool:=decide (44032<=c)&&decide (c<=55203)
theorem zI3 (c:Int):syl c=true↔4<=hkE c:=by
 unfold syl hkE;simp only[dE,cZ]
 repeat' split
 all_goals omega
def hdE (c:Int):List Int:=if syl c=true then [4352+(c-44032)/28/21,4449+(c-44032)/28%21]++(if 0<(c-44032)%28 then [4520+(c-44032)%28-1] else []) else [c]
theorem zWO {c e:Int} (k:syl c=true) (he:e∈hdE c):syl e=false/\hkE e≠0:=by
 unfold hdE at he;rw[dI k] at he;unfold syl at k;simp only[dE,cZ] at k;have key:(4352<=e/\e<4371)\/(4449<=e/\e<4470)\/(4520<=e/\e<4547):=by
  simp only[eQ,dL,List.not_mem_nil,or_false] at he;rcases he with (rfl | rfl) | he
  left;omega;right;left;omega;split at he;simp only[g8] at he;right;right;omega;simp at he
 constructor;unfold syl;simp only[eD,c9];omega;unfold hkE;rcases key with h | h | h
 rw[dI h];decide;rw[dK (by omega),dI h];decide;rw[dK (by omega),dK (by omega),dI h];decide
theorem zQD (c:Int):(hdE c).length<=3/\1<=(hdE c).length:=by unfold hdE;split;split<;>simp;simp
theorem z95 {c:Int} (k:syl c=true):zCU c=some (hdE c):=by
 have hk:=(zI3 c).1 k;have h:=k;unfold syl at h;simp only[dE,cZ] at h;unfold zCU zIZ;rw[zO1,zA];have K:decide (hkE c<4)=false:=by simp;omega
 simp only[K,cM];rw[xY (n:=c-44032) (by omega) (by omega)];generalize O:c-44032=n;have T:0<=n/\n<11172:=by omega
 have G:n.tdiv 28=n/28:=hZ (by omega);have H:(n/28).tdiv 21=n/28/21:=hZ (by omega);have Y:n.tmod 28=n%28:=gv (by omega);have Z:(n/28).tmod 21=n/28%21:=gv (by omega);simp only[zNS,zKF,show ((28:Int)=0)=False by simp,show ((21:Int)=0)=False by simp,cV,zA,G,Y];rw[xY (n:=n/28) (by omega) (by omega)];simp only[H,Z];rw[xY (n:=n/28/21) (by omega) (by omega),xY (n:=4352+n/28/21) (by omega) (by omega),xY (n:=4449+n/28%21) (by omega) (by omega),xY (n:=4520+n%28) (by omega) (by omega),xY (n:=4520+n%28-1) (by omega) (by omega)];unfold hdE;rw[dI k,O];by_cases D:0<n%28;simp only[D,dB,cN,zA,dG];have a1:decide (({x0:=4352+n/28/21,x1:=4449+n/28%21,x2:=4520+n%28-1}:bZ)= {x0:=0,x1:=0,x2:=0})=false:=by simp;omega
 have a2:decide ((4520+n%28-1:Int)=0)=false:=by simp;omega
 simp only[a1,a2,cM];rfl;simp only[D,dH,cM,zA,cV];have a1:decide (({x0:=4352+n/28/21,x1:=4449+n/28%21,x2:=0}:bZ)= {x0:=0,x1:=0,x2:=0})=false:=by simp;omega
 simp only[a1,cM,dB,cN];rfl
theorem zQE {lo hi:Nat} (h:lo+hi<=4611686018427387903):wi ((wu (wi ((lo:Int)+(hi:Int))))/2 ^ 1)=(((lo+hi)/2:Nat):Int):=by rw[xY (n:=(lo:Int)+hi) (by omega) (by omega)];have:wu ((lo:Int)+(hi:Int))=(lo:Int)+hi:=IntWalk.u64_in _ (by omega);rw[this,xY (by omega) (by omega)];omega
theorem z1X {n:Nat} (hn:n<=2000) {body:Int×Int->Option (Stp (Int×Int) Int)} (q:Nat->Bool)
  (h:∀k:Nat,k<=n->body ((k:Int),(k:Int))=some (.done (k:Int)))
  (G:∀lo hi:Nat,lo<hi->hi<=n->body ((lo:Int),(hi:Int))=some (.next (if q ((lo+hi)/2) then ((lo:Int),(((lo+hi)/2:Nat):Int)) else ((((lo+hi)/2+1:Nat):Int),(hi:Int)))))
  (mono:∀i j,i<=j->j<n->q i=true->q j=true):
  ∃j,j<=n/\zE body (0,(n:Int))=some (j:Int)/\(∀k,k<j->q k=false)/\(∀k,j<=k->k<n->q k=true):=by
 have key:∀(d lo hi:Nat),hi-lo<=d->lo<=hi->hi<=n->(∀k,k<lo->q k=false)->(∀k,hi<=k->k<n->q k=true)->
   ∃j,j<=n/\zE body ((lo:Int),(hi:Int))=some (j:Int)/\(∀k,k<j->q k=false)/\(∀k,j<=k->k<n->q k=true):=by
  intro d
  induction d with
  | zero=>
   intro lo hi h1 h2 D O T;have:lo=hi:=by omega
   subst this;exact⟨lo,D,zL (h lo D),O,T⟩
  | succ d ih=>
   intro lo hi h1 h2 D O T;by_cases e:lo=hi
   ·subst e
    exact⟨lo,D,zL (h lo D),O,T⟩
   ·have Z:lo<hi:=by omega
    have K:(lo+hi)/2<n:=by omega
    rw[zN (G lo hi Z D)];cases hq:q ((lo+hi)/2) with
    | true=>
     rw[dI rfl];exact ih lo ((lo+hi)/2) (by omega) (by omega) (by omega) O (λk Y H=>mono _ _ Y H hq)
    | false=>
     rw[dK (by simp)];refine ih ((lo+hi)/2+1) hi (by omega) (by omega) D ?_ T;intro k Y;cases aa:q k with
     | false=>rfl
     | true=>
      have:=mono k ((lo+hi)/2) (by omega) K aa;rw[hq] at this;cases this
 exact key n 0 n (by omega) (by omega) (by omega) (by intro k Y;omega) (by intro k Y H;omega)
theorem zRQ {k:Type} [Inhabited k] {l:List k} {p: k->Bool} {i:Nat} (hi:i<l.length) (h:∀j,j<i->p (nth l j)=false) (G:p (nth l i)=true):l.find? p=some (nth l i):=by rw[List.find?_eq_some_iff_getElem];refine⟨G,i,hi,(zBP hi).symm,λj D=>?_⟩;have:=h j D;rw[zBP (by omega)] at this;simp[this]
theorem z1Y {D:Type} [Inhabited D] {l:List D} {p: D->Bool} (h:∀j,j<l.length->p (nth l j)=false):l.find? p=none:=by rw[List.find?_eq_none];intro x H;obtain⟨k,G,rfl⟩:=fA H;have:=h k G;rw[zBP G] at this;simp[this]
def zUH (c:Int) (s:bL):Bool:=decide (s.Lo<=c)&&decide (c<=s.Hi)
def clE (l:List bL) (c:Int):Int:=match l.find? (zUH c) with
 | some s=>s.Value
 | none=>0
theorem CV.mono {l:List bL} (h:CV l):∀(d i:Nat),i+d+1<l.length->(nth l i).Hi<(nth l (i+d+1)).Lo
 | 0,i,hi=>(h.ad i hi).1
 | d+1,i,hi=>by
  have D:=CV.mono h d i (by omega);have k:=h.sp (i+d+1) (by omega);have G:=(h.ad (i+d+1) (by omega)).1;unfold spOk at k;have:i+(d+1)+1=i+d+1+1:=by omega
  rw[this];omega
theorem CV.lt {l:List bL} (h:CV l) {i j:Nat} (k:i<j) (D:j<l.length):(nth l i).Hi<(nth l j).Lo:=by
 have:=CV.mono h (j-i-1) i (by omega)
 rwa [show i+(j-i-1)+1=j by omega] at this
theorem CV.hi {l:List bL} (h:CV l) {i j:Nat} (k:i<=j) (D:j<l.length):(nth l i).Hi<=(nth l j).Hi:=by rcases Nat.lt_or_eq_of_le k with G | rfl;have:=h.lt G D;have H:=h.sp j D;unfold spOk at H;omega;exact fY _
theorem yNT {l:List bL} (h:CV l) {c:Int} {i:Nat} (hi:i<=l.length) (K:∀j,j<i->(nth l j).Hi<c) (O:∀j,i<=j->j<l.length->c<=(nth l j).Hi):
  clE l c=if i<l.length/\(nth l i).Lo<=c then (nth l i).Value else 0:=by
 unfold clE;by_cases k:i<l.length/\(nth l i).Lo<=c
 ·have G:=zRQ (p:=zUH c) k.1 (λj D=>by
   unfold zUH;have:=K j D;simp only[eD,c9];omega) (by
   unfold zUH;simp only[dE,cZ];exact⟨k.2,O i (dA _) k.1⟩)
  rw[dI k,G]
 ·have G:=z1Y (l:=l) (p:=zUH c) (λj D=>by
   unfold zUH;simp only[eD,c9];by_cases H:j<i
   ·have:=K j H;omega
   ·by_cases e:j=i
    ·subst e;left;exact λT=>k ⟨D,T⟩
    ·have Y:=h.lt (show i<j by omega) D
     have Z:=O i (dA _) (by omega);left;omega)
  rw[dK k,G]
theorem zJ5 {l:List bL} (h:CV l) (hl:l.length<=2000) (c:Int):jE l c=some (clE l c):=by
 obtain⟨j,T,hr,K,G⟩:=z1X (n:=l.length) hl (body:=λ(x:Int×Int)=>yF l (λx0 x1=>zA6 x0 x1) c x.1 x.2) (λk=>decide (c<=(nth l k).Hi))
  (λk _=>by simp only[yF,kJ (dA _),cM])
  (λlo hi h1 h2=>by
   have hm:(lo+hi)/2<l.length:=by omega
   simp only[yF,yU h1,cN,zQE (show lo+hi<=4611686018427387903 by omega),zU hm,zA,zA6,zK (k:=(lo+hi)/2) (by omega)];by_cases Y:(nth l ((lo+hi)/2)).Hi<c;have:¬c<=(nth l ((lo+hi)/2)).Hi:=by omega
   simp[Y,this];have:c<=(nth l ((lo+hi)/2)).Hi:=by omega
   by_cases D:c<(nth l ((lo+hi)/2)).Lo<;>simp[Y,D,this])
  (λi j O T hi=>by
   have:=h.hi O T;simp only[cZ] at hi ⊢;omega)
 simp only[c9,cZ] at K G;unfold jE jB;rw[hr,yNT h T (λk hk=>by have:=K k hk;omega) G]
 simp only[zA,zO];by_cases H:j<l.length;have h2:=G j (dA _) H;simp only[yU H,xS,zU H,zA,zA6,dM,H,true_and];have Z:decide ((nth l j).Hi<c)=false:=by simp;omega
 simp only[Z,cM];by_cases D:c<(nth l j).Lo;have:¬(nth l j).Lo<=c:=by omega
 simp[D,this];have:(nth l j).Lo<=c:=by omega
 simp[D,this,zU H];simp only[kJ (show l.length<=j by omega),vF,zA,dR,dQ,cN,H,false_and,cV]
theorem zZT {l:List bL} (G:l.length<=2000) (k:∀x∈l,b9 x) (h:CV l):zBR l=some l:=by obtain⟨e,D,H⟩:=z5E G k;unfold zBR;rw[D,zA,H.2 h];rfl
open Go.AV
theorem z5J {H:Type} {l r:List H} {x: H} {k:Nat} (h:l.drop k=x::r):l[k]? =some x/\l.drop (k+1)=r/\k+1<=l.length:=by
 have G:k<l.length:=by
  rcases fK k l.length with D | D;exact D;rw[dC D] at h;cases h
 rw[cY G] at h;injection h with D K;exact⟨by rw[cO G,D],K,G⟩
theorem yNU {D:Type} [DecidableEq D] {items:List D} {k:Nat} {x: D} (h:items[k]? =some x):yM items k x=some ():=by unfold yM;rw[dI h]
theorem z96 {D:Type} {items:List D} {k:Nat} (h:items.drop k= []) (G:k<=items.length):zV1 items k=some ():=by unfold zV1;rw[dI];have:=congrArg List.length h;simp at this;omega
section
variable {l:List bL} (h:CV l) (hl:l.length<=2000) {text:List Int} (ht:text.length<=2000) {st:Int->Bool} (hst:∀c,st c=decide (clE l c=0)) {items:List Range}
include h hl ht hst
theorem yDM:∀(n i:Nat) (s:Int) (k:Nat),text.length-i=n->i<=text.length->items.drop k=xZ st (text.drop i) (i:Int) s->k<=items.length->
  ∃H G,zE (λ(x:Int×Int×Nat)=>k4 text l items x.1 x.2.1 x.2.2) (s,(i:Int),k)=some (.inl (H,G))/\items.drop G=xZ st [] (text.length:Int) H/\G<=items.length:=by
 intro n
 induction n with
 | zero=>
  intro i s k h1 h2 D T;have:i=text.length:=by omega
  subst this;refine⟨s,k,?_,by rw[D,gX],T⟩;rw[xJ];simp only[k4,kJ (dA _),cM]
 | succ n ih=>
  intro i s k h1 h2 D T;have hi:i<text.length:=by omega
  rw[cY hi] at D;simp only[xZ] at D;have hs:=hst text[i];have ec:((i:Int)+1)=((i+1:Nat):Int):=by omega
  rw[ec] at D;have step:∀H G,k4 text l items s (i:Int) k=some (.next (H,((i+1:Nat):Int),G))->items.drop G=xZ st (text.drop (i+1)) ((i+1:Nat):Int) H->G<=items.length->
    ∃H G,zE (λ(x:Int×Int×Nat)=>k4 text l items x.1 x.2.1 x.2.2) (s,(i:Int),k)=some (.inl (H,G))/\items.drop G=xZ st [] (text.length:Int) H/\G<=items.length:=by
   intro H G hb Y Z;rw[zN (body:=λ(x:Int×Int×Nat)=>k4 text l items x.1 x.2.1 x.2.2) (x:=(s,(i:Int),k)) hb];exact ih (i+1) H G (by omega) (by omega) Y Z
  by_cases O:clE l text[i]=0
  ·rw[hs] at D
   simp only[O,dB,dD,dR,dN,cV,dM] at D;by_cases K:0<=s
   ·simp only[K,dB,dG] at D
    obtain⟨g1,Y,Z⟩:=z5J D;refine step (-1) (k+1) ?_ Y Z;simp only[k4,yU hi,cN,zV hi,zA,zJ5 h hl,zO,zK (k:=i) (by omega),O,dB,dD,dR,cM,dM,K,yNU g1,eW]
   ·simp only[K,dH,dN,cV] at D
    refine step s k ?_ D T;simp only[k4,yU hi,cN,zV hi,zA,zJ5 h hl,zO,zK (k:=i) (by omega),O,dB,dD,dR,cM,dM,K,dH,eW]
  ·rw[hs] at D
   simp only[O,dH,dQ,dM,dR,dN,cV] at D;by_cases K:s<0
   ·simp only[K,dB,dG] at D
    refine step (i:Int) k ?_ D T;simp only[k4,yU hi,cN,zV hi,zA,zJ5 h hl,zO,zK (k:=i) (by omega),O,dH,dQ,dM,K,dB,eW]
   ·simp only[K,dH,dN,cV] at D
    refine step s k ?_ D T;simp only[k4,yU hi,cN,zV hi,zA,zJ5 h hl,zO,zK (k:=i) (by omega),O,dH,dQ,dM,K,cM,dR,eW]
theorem z5K (K:items=xZ st text 0 (-1)):zBS items text l=some ():=by
 obtain⟨s,k,Z,D,h3⟩:=yDM h hl ht hst (items:=items) text.length 0 (-1) 0 (by omega) (by omega) (by rw[d7,d7];exact K) (gH _)
 unfold zBS;have H:zE (λ(x:Int×Int×Nat)=>k4 text l items x.1 x.2.1 x.2.2) (-1,0,0)=some (.inl (s,k)):=Z;rw[H];simp only[zA,eW];unfold xZ at D;by_cases G:0<=s;rw[dI G] at D;obtain⟨O,T,Y⟩:=z5J D;simp only[G,dB,cN,yNU O,zA];exact z96 T Y;rw[dK G] at D;simp only[G,dH,cM];exact z96 D h3
omit h hl ht hst in
theorem zMQ:∀(t:List Int) (i s:Int),(xZ st t i s).length<=t.length+1
 | [],i,s=>by unfold xZ;split<;>simp
 | c::t,i,s=>by
  unfold xZ;split;have:=zMQ t (i+1) i;simp;omega;split;have:=zMQ t (i+1) (-1);simp;omega;have:=zMQ t (i+1) s;simp;omega
omit h hl ht hst in
theorem zMR:∀(t:List Int) (i s:Int),0<=i->(xZ st t i s= []↔s<0/\∀c∈t,st c=true)
 | [],i,s,hi=>by
  unfold xZ;split;simp;omega;simp;omega
 | c::t,i,s,hi=>by
  unfold xZ;cases D:st c with
  | true=>
   simp only[dD,dR,dN,cV,dM];by_cases k:0<=s;simp[k];omega;simp only[k,dH,dN,cV];rw[zMR t (i+1) s (by omega)];simp[D]
  | false=>
   simp only[dQ,dM,dR,dN,cV];by_cases k:s<0;simp only[k,dB,dG];rw[zMR t (i+1) i (by omega)];simp[D];omega;simp only[k,dH,dN,cV];rw[zMR t (i+1) s (by omega)];simp[D,k]
end
theorem yLZ {l:List bL} (h:CV l) (D:l.length<=2000) (G:∀x∈l,b9 x) {text:List Int} (K:text.length<=2000):
  ∃r,zE8 l text=some r/\(r= []↔∀c∈text,clE l c=0):=by
 have k:∀c,(jE l c==some 0)=decide (clE l c=0):=λc=>by
  rw[zJ5 h D,gL];simp
 unfold zE8;rw[zZT D G h,zA,z5K h D K k rfl,zA];have H:=zMQ (st:=λc=>jE l c==some 0) text 0 (-1);refine⟨_,by unfold yOY;rw[dI (by unfold LIM;omega)],?_⟩
 rw[zMR _ _ _ (by omega)];simp only[k,cZ];constructor
 ·exact λh=>h.2
 ·exact λh=>⟨by omega,h⟩
structure DS (l:List aI):Prop where
 asc:∀k,k+1<l.length->(nth l k).aV<(nth l (k+1)).aV
 hk:∀m∈l,hkE m.aV=0
 len:∀m∈l,m.To.length<=2000
theorem DS.mono {l:List aI} (h:DS l):∀(d i:Nat),i+d+1<l.length->(nth l i).aV<(nth l (i+d+1)).aV
 | 0,i,hi=>h.asc i hi
 | d+1,i,hi=>by
  have k:=DS.mono h d i (by omega);have D:=h.asc (i+d+1) (by omega);have:i+(d+1)+1=i+d+1+1:=by omega
  rw[this];omega
theorem DS.lt {l:List aI} (h:DS l) {i j:Nat} (k:i<j) (D:j<l.length):(nth l i).aV<(nth l j).aV:=by
 have:=DS.mono h (j-i-1) i (by omega)
 rwa [show i+(j-i-1)+1=j by omega] at this
def isF (c:Int) (m:aI):Bool:=decide (m.aV=c)
theorem z97 {l:List aI} (h:DS l) (hl:l.length<=2000) (c:Int):∃i:Nat,yQ l c (λx0 x1=>uD x0 x1)=some ((i:Int),(l.find? (isF c)).isSome)/\∀m,l.find? (isF c)=some m->i<l.length/\nth l i=m:=by
 have H:∀m,uD m c=some (if m.aV<c then -1 else if c<m.aV then 1 else 0):=λm=>by
  unfold uD;rw[yDI];rfl
 obtain⟨j,hj,hr,O,K⟩:=z1X (n:=l.length) hl (body:=λ(x:Int×Int)=>z8 l (λx0 x1=>uD x0 x1) c x.1 x.2) (λk=>decide (c<=(nth l k).aV))
  (λk _=>by simp only[z8,kJ (dA _),cM])
  (λlo hi Y h2=>by
   have T:(lo+hi)/2<l.length:=by omega
   simp only[z8,yU Y,cN,zQE (show lo+hi<=4611686018427387903 by omega),zU T,zA,H,zK (k:=(lo+hi)/2) (by omega)];by_cases hc:(nth l ((lo+hi)/2)).aV<c
   ·have:¬c<=(nth l ((lo+hi)/2)).aV:=by omega
    simp[hc,this]
   ·have:c<=(nth l ((lo+hi)/2)).aV:=by omega
    by_cases aa:c<(nth l ((lo+hi)/2)).aV<;>simp[hc,aa,this])
  (λi j ac hj hi=>by
   simp only[cZ] at hi ⊢;rcases Nat.lt_or_eq_of_le ac with Y | rfl
   ·have:=h.lt Y hj;omega
   ·exact hi)
 simp only[c9,cZ] at O K;refine⟨j,?_⟩;unfold yQ;rw[hr];simp only[zA,zO];by_cases G:j<l.length/\(nth l j).aV=c
 ·have hf:=zRQ (p:=isF c) G.1 (λk Z=>by
   have:=O k Z;unfold isF;simp only[c9];omega) (by unfold isF;simpa using G.2)
  rw[hf];simp only[yU G.1,xS,zU G.1,zA,H,dM,G.2];refine⟨by simp,λm T=>?_⟩;injection T with T;exact⟨G.1,T⟩
 ·have hf:=z1Y (l:=l) (p:=isF c) (λk Z=>by
   unfold isF;simp only[c9];intro e;by_cases ad:k<j
   ·have:=O k ad;omega
   ·by_cases e2:k=j
    ·subst e2;exact G ⟨Z,e⟩
    ·have Y:=h.lt (show j<k by omega) Z
     have h2:=K j (dA _) (by omega);omega)
  rw[hf];refine⟨?_,λm T=>by cases T⟩;by_cases D:j<l.length
  ·have h2:=K j (dA _) D
   have h3:¬(nth l j).aV=c:=λe=>G ⟨D,e⟩;have h4:c<(nth l j).aV:=by omega
   have h5:¬(nth l j).aV<c:=by omega
   simp only[yU D,xS,zU D,zA,H,h4,h5,dG,cV,dM];rfl
  ·simp only[kJ (show l.length<=j by omega),vF,zA,dR]
   rfl
def dep (l:List aI) (c:Int):List Int:=if syl c=true then hdE c else match l.find? (isF c) with
 | some m=>m.To
 | none=>[]
def fnd (l:List aI) (c:Int):Bool:=syl c ||(l.find? (isF c)).isSome
theorem yL0 {l:List aI} {c:Int} (h:fnd l c=false):dep l c= []:=by
 unfold fnd at h;simp only[fC] at h;unfold dep;rw[dK (by simp[h.1])];cases k:l.find? (isF c) with
 | none=>rfl
 | some m=>rw[k] at h;simp at h
theorem z98 {n:Norm} (h:DS n.aA) (O:n.aA.length<=2000) (c:Int):uW n c true=some (dep n.aA c,fnd n.aA c):=by
 unfold uW dep fnd;rw[zO1,zA];by_cases k:syl c=true;have e:decide (4<=hkE c)=true:=by simpa using (zI3 c).1 k
 simp only[e,cN,z95 k,zA,k,dG,im];have e:decide (4<=hkE c)=false:=by simp only[c9];exact λK=>k ((zI3 c).2 K)
 simp only[gY] at k;simp only[e,cM,k,dN,cV,eY];obtain⟨i,hb,T⟩:=z97 h O c;rw[hb];simp only[zA,zO];cases H:n.aA.find? (isF c) with
 | none=>simp[vF]
 | some m=>
  obtain⟨D,G⟩:=T m H;simp[xS,zU D,G]
theorem z1Z {l:List aI} (h:DS l) {c e:Int} (G:syl c=true) (D:e∈dep l c):dep l e= []:=by
 unfold dep at D;rw[dI G] at D;obtain⟨K,O⟩:=zWO G D;unfold dep;rw[dK (by simp[K])];cases H:l.find? (isF e) with
 | none=>rfl
 | some m=>
  exfalso;have T:=fP H;have k:=List.find?_some H;unfold isF at k;simp only[cZ] at k;exact O (k▸h.hk m T)
theorem z99 {l:List aI} (h:DS l) (c:Int):(dep l c).length<=2000:=by
 unfold dep;split;have:=(zQD c).1;omega;cases k:l.find? (isF c) with
 | none=>simp
 | some m=>exact h.len m (fP k)
theorem z5L {l:List aI} (h:DS l) {m:aI} (H:m∈l):dep l m.aV=m.To:=by
 have O:=h.hk m H;have G:syl m.aV=false:=by
  cases G:syl m.aV with
  | false=>rfl
  | true=>have:=(zI3 _).1 G;omega
 unfold dep;rw[dK (by simp[G])];obtain⟨k,D,rfl⟩:=fA H;rw[<-zBP D];rw[zRQ (p:=isF (nth l k).aV) D (λj K=>by
  have:=h.lt K D;unfold isF;simp only[c9];omega) (by simp[isF])]
theorem z8Q {l:List aI} {c:Int} (h:dep l c≠[]) (G:syl c=false):∃m∈l,m.aV=c:=by
 unfold dep at h;rw[dK (by simp[G])] at h;cases k:l.find? (isF c) with
 | none=>rw[k] at h;exact absurd rfl h
 | some m=>
  have D:=List.find?_some k;unfold isF at D;exact⟨m,fP k,by simpa using D⟩
open Go.AV
def EE (l:List aI):Nat->Int->Prop
 | 0,_=>False
 | k+1,c=> ∀e∈dep l c,EE l k e
def WW (l:List aI) (c:Int):Prop:= ∃k,EE l k c
theorem yAA {l:List aI}:∀{k:Nat} {c:Int},EE l k c->EE l (k+1) c
 | 0,_,h=>h.elim
 | k+1,_,h=>λe D=>yAA (h e D)
theorem yHL {l:List aI} {c:Int} {k j:Nat} (h:k<=j) (D:EE l k c):EE l j c:=by
 induction h with
 | refl=>exact D
 | step _ G=>exact yAA G
theorem yHM {l:List aI}:∀{L:List Int},(∀e∈L,WW l e)->∃k,∀e∈L,EE l k e
 | [],_=>⟨0,λe D=>by cases D⟩
 | x::L,h=>by
  obtain⟨a,G⟩:=h x (by simp);obtain⟨b,hb⟩:=yHM (L:=L) λe D=>h e (by simp[D]);refine⟨max a b,λe D=>?_⟩;rcases dL.1 D with rfl | D;exact yHL (by omega) G;exact yHL (by omega) (hb e D)
theorem z5M {l:List aI} {c:Int} (h:∀e∈dep l c,WW l e):WW l c:=by obtain⟨k,D⟩:=yHM h;exact⟨k+1,D⟩
theorem z10 {l:List aI} {c:Int} (h:dep l c= []):WW l c:=z5M (by rw[h];intro e k;cases k)
theorem yPM {l:List aI} (k:DS l) {c:Int} (h:syl c=true):WW l c:=z5M λ_ D=>z10 (z1Z k h D)
theorem zRR (m:List (Int×Int)) (c v k:Int):zDM (wX m c v) k=(decide (k=c) ||zDM m k):=by unfold zDM;rw[vD];by_cases h:k=c<;>simp[h]
def pot (l:List aI) (m:List (Int×Int)):Nat:=l.countP λx=>!zDM m x.aV
theorem yPO {l:List aI} {m G:List (Int×Int)} (h:∀k,zDM m k=true->zDM G k=true):pot l G<=pot l m:=by
 refine List.countP_mono_left λx _ D=>?_;cases H:zDM m x.aV with
 | false=>rfl
 | true=>rw[h _ H] at D;exact D
theorem zSW {H:Type} {p q: H->Bool}:∀{l:List H},(∀x∈l,p x=true->q x=true)->(∃x∈l,q x=true/\p x=false)->l.countP p+1<=l.countP q
 | [],_,⟨x,hx,_⟩=>by cases hx
 | y::l,h,⟨x,hx,D,G⟩=>by
  have K:=List.countP_mono_left (l:=l) λz k=>h z (by simp[k]);rw[List.countP_cons,List.countP_cons];rcases dL.1 hx with rfl | hx
  simp[D,G];omega;have Y:=zSW (l:=l) (λz k=>h z (by simp[k])) ⟨x,hx,D,G⟩;have T:=h y (by simp);cases O:p y with
  | false=>simp;omega
  | true=>simp[T O];omega
theorem yAB {l:List aI} {m:List (Int×Int)} {c v:Int} (k:∃x∈l,x.aV=c) (D:zDM m c=false):pot l (wX m c v)+1<=pot l m:=by refine zSW (λx _ h=>?_) ?_;rw[zRR] at h;simp only[Bool.not_or,dE] at h;exact h.2;obtain⟨x,h,rfl⟩:=k;refine⟨x,h,by rw[D];rfl,by rw[zRR];simp⟩
section
variable {n:Norm} (hd:DS n.aA) (hl:n.aA.length<=2000)
include hd hl
noncomputable abbrev zWP (L:List Int×Bool) (rec:Int->Norm->(List (Int×Int))->Bool->Bool->Option (Int×Bool×Bool×(List (Int×Int)))) (n:Norm):Int×Int×Bool×Bool×(List (Int×Int))->Option (Stp (Int×Int×Bool×Bool×(List (Int×Int))) (Int×Bool×Bool×(List (Int×Int)))):=
 λx=>jR L rec n x.1 x.2.1 x.2.2.1 x.2.2.2.1 x.2.2.2.2
theorem yAC {k:Int->Norm->(List (Int×Int))->Bool->Bool->Option (Int×Bool×Bool×(List (Int×Int)))} {c:Int} {m:List (Int×Int)} {D lo:Bool} (h:dep n.aA c= []):jK k c n m D lo=some (1,D,lo,m):=by unfold jK;rw[z98 hd hl,zA,zO];simp[h]
theorem yNV {D:Int->Norm->(List (Int×Int))->Bool->Bool->Option (Int×Bool×Bool×(List (Int×Int)))} {c:Int} {m:List (Int×Int)} {G lo:Bool} (h:dep n.aA c≠[]):
  jK D c n m G lo=cond (zDM m c) (some (max (mgetD m c 0) 1,(G ||decide (mgetD m c 0= -1)),lo,m)) ((zE (zWP (dep n.aA c,true) D n) (0,0,G,lo,wX m c (-1))).bind λy=>some (y.1,y.2.1,(y.2.2.1 ||decide (64<y.1)),wX y.2.2.2 c y.1)):=by
 have H:fnd n.aA c=true:=by
  cases H:fnd n.aA c with
  | true=>rfl
  | false=>exact absurd (yL0 H) h
 unfold jK;rw[z98 hd hl,zA,zO,H];have k:decide (((dep n.aA c).length:Int)=0)=false:=by
  simp only[c9];have:(dep n.aA c).length≠0:=λe=>h (cP e);omega
 simp only[dD,eY,k,cM];rfl
structure MOk (l:List aI) (m:List (Int×Int)) (cy:Bool):Prop where
 bd:∀k v,mget m k=some v-> -1<=v/\v<=65
 ww:cy=false->∀k v,mget m k=some v->v≠ -1->WW l k
def zYI (l:List aI) (f:Nat) (c:Int) (m:List (Int×Int)):Prop:=pot l m+3<=f\/(syl c=true/\2<=f)\/(dep l c= []/\1<=f)
omit hd hl in
theorem zZU {l:List aI} {f:Nat} {c:Int} {m G:List (Int×Int)} (h:∀k,zDM m k=true->zDM G k=true) (D:zYI l f c m):zYI l f c G:=by
 rcases D with D | D;exact .inl (by have:=yPO (l:=l) h;omega)
 exact .inr D
def yNW (l:List aI) (c:Int) (m:List (Int×Int)) (h:Bool) (r:Int×Bool×Bool×(List (Int×Int))):Prop:=
 (1<=r.1/\r.1<=65)/\MOk l r.2.2.2 r.2.1/\(∀k,zDM m k=true->zDM r.2.2.2 k=true)/\(r.2.1=false->h=false/\WW l c)
omit hl in
theorem yPP {f:Nat} (ih:∀c m D lo,MOk n.aA m D->zYI n.aA f c m->∃r,yH f c n m D lo=some r/\yNW n.aA c m D r) (c:Int):
  ∀(d i:Nat) (s:Int) (D lo:Bool) (m:List (Int×Int)),(dep n.aA c).length-i=d->i<=(dep n.aA c).length->0<=s->s<=65->MOk n.aA m D->(∀e∈dep n.aA c,zYI n.aA f e m)->
   ∃r,zE (zWP (dep n.aA c,true) (yH f) n) (s,(i:Int),D,lo,m)=some r/\(s<=r.1/\r.1<=65)/\(i<(dep n.aA c).length->1<=r.1)/\MOk n.aA r.2.2.2 r.2.1/\(∀k,zDM m k=true->zDM r.2.2.2 k=true)/\(r.2.1=false->D=false/\∀e∈(dep n.aA c).drop i,WW n.aA e):=by
 have hL:=z99 hd c;generalize dep n.aA c=L at*;intro d
 induction d with
 | zero=>
  intro i s D lo m Z h2 h3 T G H;refine⟨(s,D,lo,m),?_,⟨fY _,T⟩,λh=>by omega,G,λ_ h=>h,λh=>⟨h,?_⟩⟩
  ·refine zL ?_
   simp only[jR,kJ (show L.length<=i by omega),cM]
  ·rw[dC (by omega)];intro e he;cases he
 | succ d O=>
  intro i s D lo m Z h2 h3 T G H;have hi:i<L.length:=by omega
  obtain⟨r,hr,⟨r1,r2⟩,r3,Y,r5⟩:=ih L[i] m D lo G (H _ (eJ hi));have hb:zWP (L,true) (yH f) n (s,(i:Int),D,lo,m)=some (.next (min (s+r.1) 65,((i+1:Nat):Int),r.2.1,r.2.2.1,r.2.2.2)):=by
   simp only[jR,yU hi,cN,zV hi,zA,hr,zK (k:=i) (by omega)];rw[xY (n:=s+r.1) (by omega) (by omega)]
  rw[zN hb];obtain⟨q,hq,⟨q1,q2⟩,q3,q4,q5,q6⟩:=O (i+1) (min (s+r.1) 65) r.2.1 r.2.2.1 r.2.2.2 (by omega) (by omega) (by omega) (by omega) r3 (λe he=>zZU Y (H e he));refine⟨q,hq,⟨by omega,q2⟩,λ_=>by omega,q4,λk hk=>q5 k (Y k hk),λK=>?_⟩;obtain⟨a1,a2⟩:=q6 K;obtain⟨b1,b2⟩:=r5 a1;refine⟨b1,?_⟩;rw[cY hi];intro e he;rcases dL.1 he with rfl | he
  ·exact b2
  ·exact a2 e he
theorem yHN:∀(f:Nat) (c:Int) (m:List (Int×Int)) (H lo:Bool),MOk n.aA m H->zYI n.aA f c m->∃r,yH f c n m H lo=some r/\yNW n.aA c m H r:=by
 intro f
 induction f with
 | zero=>
  intro c m H lo O hn;exfalso;rcases hn with h | h | h<;>omega
 | succ f ih=>
  intro c m H lo O hn;show ∃r,jK (yH f) c n m H lo=some r/\_;by_cases T:dep n.aA c= [];rw[yAC hd hl T];exact⟨_,rfl,⟨by show (1:Int)<=1;decide,by show (1:Int)<=65;decide⟩,O,λ_ h=>h,λh=>⟨h,z10 T⟩⟩
  rw[yNV hd hl T];cases hh:zDM m c with
  | true=>
   obtain⟨v,hv⟩:=gO.1 hh;have hg:mgetD m c 0=v:=by unfold mgetD;rw[hv];rfl
   have hb:=O.bd c v hv;rw[hg,cN];refine⟨_,rfl,⟨by show 1<=max v 1;omega,by show max v 1<=65;omega⟩,⟨O.bd,λh=>O.ww ?_⟩,λ_ h=>h,λh=>?_⟩
   exact(fC.1 h).1;obtain⟨h1,h2⟩:=fC.1 h;exact⟨h1,O.ww h1 c v hv (by simpa using h2)⟩
  | false=>
   have ad:MOk n.aA (wX m c (-1)) H:=by
    refine⟨λk v D=>?_,λZ k v D K=>?_⟩;rw[vD] at D;split at D;cases D;omega;exact O.bd k v D;rw[vD] at D;split at D;cases D;exact absurd rfl K;exact O.ww Z k v D K
   have Y:∀k,zDM m k=true->zDM (wX m c (-1)) k=true:=λk D=>by rw[zRR,D];simp
   have ac:∀e∈dep n.aA c,zYI n.aA f e (wX m c (-1)):=by
    intro e he;cases hs:syl c with
    | true=>
     refine .inr (.inr ⟨z1Z hd hs he,?_⟩);rcases hn with h | h | h
     omega;omega;exact absurd h.1 T
    | false=>
     rcases hn with h | h | h;refine .inl ?_;have:=yAB (l:=n.aA) (v:= -1) (z8Q T hs) hh;omega;rw[hs] at h;cases h.1;exact absurd h.1 T
   obtain⟨q,hq,⟨q1,q2⟩,q3,q4,q5,q6⟩:=yPP hd ih c (dep n.aA c).length 0 0 H lo (wX m c (-1)) (by omega) (by omega) (by omega) (by omega) ad ac;have ag:zE (zWP (dep n.aA c,true) (yH f) n) (0,0,H,lo,wX m c (-1))=some q:=hq;have aa:0<(dep n.aA c).length:=e9.2 T;have aj:=q3 aa;simp only[cM];rw[ag];refine⟨_,rfl,⟨aj,q2⟩,⟨λk v D=>?_,λZ k v D K=>?_⟩,λk D=>?_,λZ=>?_⟩;have G:mget (wX q.2.2.2 c q.1) k=some v:=D;rw[vD] at G;split at G;cases G;omega;exact q4.bd k v G;have G:mget (wX q.2.2.2 c q.1) k=some v:=D;obtain⟨_,a2⟩:=q6 Z;rw[vD] at G;split at G;rename_i e;rw[e];exact z5M (by simpa using a2);exact q4.ww Z k v G K;show zDM (wX q.2.2.2 c q.1) k=true;rw[zRR,q5 k (Y k D)];simp;obtain⟨a1,a2⟩:=q6 Z;exact⟨a1,z5M (by simpa using a2)⟩
theorem zTQ (hp:n.aA.length<=90):∃r:Bool×Bool,decompose_measure n=some r/\(r.1=false->∀x∈n.aA,WW n.aA x.aV):=by
 have key:∀(d i:Nat) (D lo:Bool) (m:List (Int×Int)),n.aA.length-i=d->i<=n.aA.length->MOk n.aA m D->
   ∃r:Bool×Bool,zE (λ(x:Int×Bool×Bool×(List (Int×Int)))=>k9 n x.1 x.2.1 x.2.2.1 x.2.2.2) ((i:Int),D,lo,m)=some r/\(r.1=false->D=false/\∀x∈n.aA.drop i,WW n.aA x.aV):=by
  intro d
  induction d with
  | zero=>
   intro i D lo m G Y O;refine⟨(D,lo),?_,λh=>⟨h,?_⟩⟩
   ·refine zL ?_
    simp only[k9,kJ (show n.aA.length<=i by omega),cM]
   ·rw[dC (by omega)];intro e he;cases he
  | succ d ih=>
   intro i D lo m G Y O;have hi:i<n.aA.length:=by omega
   have T:pot n.aA m<=n.aA.length:=List.countP_le_length;obtain⟨r,H,_,r3,_,r5⟩:=yHN hd hl 100 n.aA[i].aV m D lo O (.inl (by omega));rw[zN (x':=(((i+1:Nat):Int),r.2.1,r.2.2.1,r.2.2.2)) (by
    simp only[k9,yU hi,cN,zV hi,zA,H,zK (k:=i) (by omega)])]
   obtain⟨q,hq,q1⟩:=ih (i+1) r.2.1 r.2.2.1 r.2.2.2 (by omega) (by omega) r3;refine⟨q,hq,λZ=>?_⟩;obtain⟨a1,a2⟩:=q1 Z;obtain⟨b1,b2⟩:=r5 a1;refine⟨b1,?_⟩;rw[cY hi];intro e he;rcases dL.1 he with rfl | he
   ·exact b2
   ·exact a2 e he
 obtain⟨r,H,G⟩:=key n.aA.length 0 false false [] (by omega) (by omega) ⟨λk v h=>(by cases h),λ_ k v h=>(by cases h)⟩;unfold decompose_measure;have K:zE (λ(x:Int×Bool×Bool×(List (Int×Int)))=>k9 n x.1 x.2.1 x.2.2.1 x.2.2.2) (0,false,false,[])=some r:=H;rw[K];exact⟨r,rfl,λh=>by have:=(G h).2;simpa using this⟩
end
open Go.AV
structure NSm (n:Norm):Prop where
 cl:n.aK.length<=40
 de:n.aA.length<=40
 to:∀m∈n.aA,m.To.length<=70
 tg:∀m∈n.aA,m.bN.length<=40
 ex:n.aN.Ranges.length<=12
theorem yL1 (l:List aI):∃b,zHR l=some b/\(b=true->l.length<=20/\(∀m∈l,m.To.length<=65)/\∀m∈l,m.bN.length<=40):=by
 unfold zHR;have h:=kG (body:=λ(x:Int)=>zCN l x) (min l.length 30) (λk=>(nth l k).To.length<=65/\(nth l k).bN.length<=40) (λy=>y=false) (λk O=>by
  have D:k<l.length:=by omega
  have G:decide ((k:Int)<30)=true:=by simp;omega
  simp only[zCN,zO,yU D,G,fF,cN,zU D,zA,zK (k:=k) (by omega)];by_cases Y:65<(nth l k).To.length;have:decide ((65:Int)<((nth l k).To.length:Int))=true:=by simp;omega
  simp only[this,dD,vF,zA,im,cN];exact .inr ⟨by omega,false,rfl,rfl⟩;have:decide ((65:Int)<((nth l k).To.length:Int))=false:=by simp;omega
  simp only[this,dQ,xS,zA,eY];exact wV (by simp only[cZ];omega) rfl) (λk O=>by
  have:(decide ((k:Int)<(l.length:Int))&&decide ((k:Int)<30))=false:=by
   simp only[eD,c9];omega
  simp only[zCN,zO,this,cM])
 rcases h with ⟨h,p⟩ | ⟨y,rfl,h,p⟩;rw[h];refine⟨_,rfl,λhb=>?_⟩;have T:l.length<=20:=by simp only[cZ] at hb;omega
 rw[hF (by omega)] at p;have K:=(zAT (l:=l) (p:=λm:aI=>m.To.length<=65/\m.bN.length<=40)).1 p;exact⟨T,λm H=>(K m H).1,λm H=>(K m H).2⟩;rw[h];exact⟨false,rfl,λh=>by cases h⟩
theorem yL2 (n:Norm):∃b,zHS n=some b/\(b=true->NSm n):=by
 obtain⟨b,hb,G⟩:=yL1 n.aA;unfold zHS zKR zKS;simp only[zA,zO,hb];by_cases H:n.aK.length<=16;have k:decide ((n.aK.length:Int)<=16)=true:=by simp;omega
 simp only[k,xS,zA,dM];cases b with
 | false=>simp only[vF,zA,dR];exact⟨false,rfl,λh=>by cases h⟩
 | true=>
  simp only[xS,zA,dM];refine⟨_,rfl,λh=>?_⟩;simp only[cZ] at h;obtain⟨a,b,c⟩:=G rfl;exact⟨by omega,by omega,λm D=>by have:=b m D;omega,c,by omega⟩
 have k:decide ((n.aK.length:Int)<=16)=false:=by simp;omega
 simp only[k,vF,zA,dR];exact⟨false,rfl,λh=>by cases h⟩
structure VD0 (n:Norm):Prop where
 cv:CV n.aK
 mv:MV n.aA
 ca:Can n.aN.Ranges
 ne:∀k,k+1<n.aA.length->(nth n.aA (k+1)).aV≠(nth n.aA k).aV
 kd:∀m∈n.aA,m.bN= []->m.To.length=1\/m.To.length=2
 hk:∀m∈n.aA,hkE m.aV=0
 tc:∀m∈n.aA,m.bN≠[]->clE n.aK m.aV=0
 ms:decompose_measure n=some (false,false)
theorem yR5 {n:Norm} (hl:n.aA.length<=2000):∀(d i:Nat) (h:List Int),n.aA.length-i=d->i<=n.aA.length->h.length<=i->
    (zE (λ(x:Int×(List Int))=>kC n x.1 x.2) ((i:Int),h)=some (.inl (h++((n.aA.drop i).filter λm=>!(m.bN== [])).map (·.aV)))/\∀m∈n.aA.drop i,hkE m.aV=0)\/
    (zE (λ(x:Int×(List Int))=>kC n x.1 x.2) ((i:Int),h)=some (.inr 11)/\¬∀m∈n.aA.drop i,hkE m.aV=0):=by
  intro d
  induction d with
  | zero=>
    intro i h T Y Z;rw[dC (by omega)];refine .inl ⟨zL ?_,λm hm=>by cases hm⟩;simp only[kC,kJ (show n.aA.length<=i by omega),cM];simp
  | succ d ih=>
    intro i h T Y Z;have hi:i<n.aA.length:=by omega
    rw[cY hi];by_cases G:hkE n.aA[i].aV=0
    · have conv:∀D,(∃z:Unit,True)->kC n (i:Int) h=some (.next (((i+1:Nat):Int),D))->D.length<=i+1->D++((n.aA.drop (i+1)).filter λm=>!(m.bN== [])).map (·.aV)=h++((n.aA[i]::n.aA.drop (i+1)).filter λm=>!(m.bN== [])).map (·.aV)->
          (zE (λ(x:Int×(List Int))=>kC n x.1 x.2) ((i:Int),h)=some (.inl (h++((n.aA[i]::n.aA.drop (i+1)).filter λm=>!(m.bN== [])).map (·.aV)))/\∀m∈n.aA[i]::n.aA.drop (i+1),hkE m.aV=0)\/
          (zE (λ(x:Int×(List Int))=>kC n x.1 x.2) ((i:Int),h)=some (.inr 11)/\¬∀m∈n.aA[i]::n.aA.drop (i+1),hkE m.aV=0):=by
        intro D _ hb H he;rw[zN (body:=λ(x:Int×(List Int))=>kC n x.1 x.2) (x:=((i:Int),h)) hb];rcases ih (i+1) D (by omega) (by omega) H with ⟨a,b⟩ | ⟨a,b⟩
        · refine .inl ⟨by rw[a,he],λm hm=>?_⟩
          rcases dL.1 hm with rfl | hm
          · exact G
          · exact b m hm
        · exact .inr ⟨a,λO=>b λm hm=>O m (ic _ hm)⟩
      cases K:(n.aA[i].bN== []) with
      | true=>
        refine conv h ⟨(),trivial⟩ ?_ (by omega) ?_
        · simp only[kC,yU hi,cN,zV hi,zA,zO1,G,dB,dD,cM,K,zK (k:=i) (by omega),eW]
        · rw[ij,K];rfl
      | false=>
        refine conv (h++ [n.aA[i].aV]) ⟨(),trivial⟩ ?_ (by simp;omega) ?_
        · simp only[kC,yU hi,cN,zV hi,zA,zO1,G,dB,dD,cM,K,dQ,jX (show h.length+ [n.aA[i].aV].length<=4294967296 by simp;omega),zK (k:=i) (by omega),eW]
        · rw[ij,K,c8];rfl
    · refine .inr ⟨zL ?_,λO=>G (O _ List.mem_cons_self)⟩
      have:(!decide (hkE n.aA[i].aV=0))=true:=by simp[G]
      simp only[kC,yU hi,cN,zV hi,zA,zO1,this,Sum.elim_inr]
theorem yHO {n:Norm} (O:NSm n) (ad:vZ n):Ver (zBT n) (VD0 n):=by
 obtain⟨e1,am,p1⟩:=z5E (l:=n.aK) (by have:=O.cl;omega) ad.1.2
 obtain⟨e2,an,p2⟩:=yPI (l:=n.aA) (by have:=O.de;omega) (λm H=>by have:=O.to m H;omega) (λm H=>by have:=O.tg m H;unfold MX;omega)
 obtain⟨e3,ao,p3⟩:=yHK (s:=n.aN) O.ex;have bg:=O.de;unfold zBT;rw[am,zA];by_cases h1:e1=0
 case neg=>
  have:(!decide (e1=0))=true:=by simp[h1]
  rw[this,cN];exact⟨e1,rfl,by simp only[h1,eV];exact λh=>h1 (p1.2 h.cv)⟩
 rw[h1];simp only[dB,dD,cM];have cv:=p1.1 h1;rw[an,zA];by_cases h2:e2=0
 case neg=>
  have:(!decide (e2=0))=true:=by simp[h2]
  rw[this,cN];exact⟨e2,rfl,by simp only[h2,eV];exact λh=>h2 (p2.2 h.mv)⟩
 rw[h2];simp only[dB,dD,cM];have mv:=p2.1 h2;rw[ao,zA];cases e3 with
 | false=>exact⟨11,rfl,by simp only[show ((11:Int)=0)=False by simp,eV];exact λh=>by have:=p3.2 h.ca;cases this⟩
 | true=>
 have ca:=p3.1 rfl;simp only[dD,cM];have l0:=zO0 (body:=λ(x:Int)=>uE n x) n.aA.length (λk=>(nth n.aA (k+1)).aV≠(nth n.aA k).aV) (λy=>y≠0) (λk D=>by
  have G:k<n.aA.length:=by omega
  simp only[uE,yU D,cN,zU D,zA,zK (k:=k+1) (by omega),zD6 (k:=k) (by omega),zU G];exact wV (by simp) (by decide)) (λk D=>by simp only[uE,kJ D,cM])
 rcases l0 with ⟨l0,ne⟩ | ⟨y,hy,l0,ne⟩
 case inr=>rw[l0];exact⟨y,rfl,by simp only[hy,eV];exact λh=>ne h.ne⟩
 rw[l0];simp only[zA,eW];have Y:=kG (body:=λ(x:Int)=>uF n x) n.aA.length (λk=>(nth n.aA k).bN= []->(nth n.aA k).To.length=1\/(nth n.aA k).To.length=2) (λy=>y≠0) (λk D=>by
  simp only[uF,yU D,cN,zU D,zA,zO,zK (k:=k) (by omega)];have hb:((nth n.aA k).bN== [])=decide ((nth n.aA k).bN= []):=by cases (nth n.aA k).bN<;>rfl
  rw[hb];refine wV ?_ (by decide);simp only[dE,fS,cZ,c9];constructor
  ·
   rintro⟨⟨a,b⟩,c⟩ h
   rcases h a with h | h
   · exact b (by omega)
   · exact c (by omega)
  ·
   intro h;refine⟨⟨?_,?_⟩,?_⟩
   · exact Classical.byContradiction λa=>h λa'=>absurd a' a
   · exact λb=>h λ_=> .inl (by omega)
   · exact λb=>h λ_=> .inr (by omega)) (λk D=>by simp only[uF,kJ D,cM])
 rw[zAT (p:=λm:aI=>m.bN= []->m.To.length=1\/m.To.length=2)] at Y;rcases Y with ⟨Y,kd⟩ | ⟨y,hy,Y,kd⟩
 case inr=>rw[Y];exact⟨y,rfl,by simp only[hy,eV];exact λh=>kd h.kd⟩
 rw[Y];simp only[zA,eW];have Z:=yR5 (n:=n) (by omega) n.aA.length 0 [] (by omega) (by omega) (by simp);simp only[d7,dP] at Z;rcases Z with ⟨Z,D⟩ | ⟨Z,D⟩
 case inr=>
  have T:zE (λ(x:Int×(List Int))=>kC n x.1 x.2) (0,[])=some (.inr 11):=Z;rw[T];exact⟨11,rfl,by simp only[show ((11:Int)=0)=False by simp,eV];exact λh=>D h.hk⟩
 have T:zE (λ(x:Int×(List Int))=>kC n x.1 x.2) (0,[])=some (.inl ((n.aA.filter λm=>!(m.bN== [])).map (·.aV))):=Z;rw[T];simp only[zA,eW];obtain⟨r,hr,pr⟩:=yLZ cv (by have:=O.cl;omega) ad.1.2 (text:=(n.aA.filter λm=>!(m.bN== [])).map (·.aV)) (by
  have:=hU (λm:aI=>!(m.bN== [])) n.aA;simp only[e7];omega)
 rw[hr,zA];have ac:∀m:aI,(m.bN== [])=decide (m.bN= []):=λm=>by cases m.bN<;>rfl
 have ap:(∀c∈(n.aA.filter λm=>!(m.bN== [])).map (·.aV),clE n.aK c=0)↔∀m∈n.aA,m.bN≠[]->clE n.aK m.aV=0:=by
  constructor
  ·
   intro h m H ht;exact h _ (eK.2 ⟨m,e6.2 ⟨H,by rw[ac];simpa using ht⟩,rfl⟩)
  ·
   intro h c hc;obtain⟨m,H,rfl⟩:=eK.1 hc;obtain⟨a,b⟩:=e6.1 H;exact h m a (by rw[ac] at b;simpa using b)
 rw[ap] at pr;by_cases K:r= []
 case neg=>
  have:decide ((0:Int)<(r.length:Int))=true:=by
   have:=e9.2 K;simp only[cZ];omega
  rw[this,cN];exact⟨11,rfl,by simp only[show ((11:Int)=0)=False by simp,eV];exact λh=>K (pr.2 h.tc)⟩
 have:decide ((0:Int)<(r.length:Int))=false:=by rw[K];rfl
 rw[this,cM];have al:DS n.aA:=⟨λk G=>by
  have a:=mv.lt k G;have b:=ne k G;unfold mlt at a;omega,D,λm H=>by have:=mv.sz m H;omega⟩
 obtain⟨q,hq,_⟩:=zTQ al (by omega) (by omega);rw[hq,zA];obtain⟨cy,lo⟩:=q;cases cy with
 | true=>exact⟨12,rfl,by simp only[show ((12:Int)=0)=False by simp,eV];exact λh=>by have:=h.ms;rw[hq] at this;cases this⟩
 | false=>
  cases lo with
  | true=>exact⟨13,rfl,by simp only[show ((13:Int)=0)=False by simp,eV];exact λh=>by have:=h.ms;rw[hq] at this;cases this⟩
  | false=>exact⟨0,rfl,by simp only[true_iff];exact⟨cv,mv,ca,ne,kd,D,pr.1 K,hq⟩⟩
theorem VD0.ds {n:Norm} (h:VD0 n):DS n.aA:=⟨λk D=>by
  have a:=h.mv.lt k D;have b:=h.ne k D;unfold mlt at a;omega,h.hk,λm G=>by have:=h.mv.sz m G;omega⟩
open Go.AV
def DD (l:List aI):Nat->Int->Prop
 | 0,c=>l.find? (isF c)=none
 | k+1,c=> ∀m,l.find? (isF c)=some m->∀e∈m.To,DD l k e
theorem zUX {l:List aI} {c:Int} (h:l.find? (isF c)=none):∀k,DD l k c
 | 0=>h
 | k+1=>λm D=>by rw[h] at D;cases D
theorem zMS {l:List aI}:∀{k:Nat} {c:Int},DD l k c->DD l (k+1) c
 | 0,_,h=>zUX h 1
 | _+1,_,h=>λm G e D=>zMS (h m G e D)
theorem zHM {l:List aI} {c:Int} {m:aI} (h:l.find? (isF c)=some m):m∈l/\m.aV=c:=by refine⟨fP h,?_⟩;have k:=List.find?_some h;unfold isF at k;simpa using k
theorem zWQ {l:List aI} (h:DS l) {m:aI} (k:m∈l):syl m.aV=false:=by
 cases D:syl m.aV with
 | false=>rfl
 | true=>have:=(zI3 _).1 D;have:=h.hk m k;omega
theorem zEU {l:List aI} (D:DS l) {m:aI} (H:m∈l):l.find? (isF m.aV)=some m:=by
 obtain⟨k,h,rfl⟩:=fA H;rw[<-zBP h];exact zRQ (p:=isF (nth l k).aV) h (λj G=>by
  have:=D.lt G h;unfold isF;simp only[c9];omega) (by simp[isF])
theorem z5N {l:List aI} (D:DS l) {c:Int} (h:syl c=true):l.find? (isF c)=none:=by
 cases G:l.find? (isF c) with
 | none=>rfl
 | some m=>
  obtain⟨k,rfl⟩:=zHM G;rw[zWQ D k] at h;cases h
theorem z5O {l:List aI} (D:DS l) {c:Int} {m:aI} (h:l.find? (isF c)=some m):dep l c=m.To:=by obtain⟨k,rfl⟩:=zHM h;exact z5L D k
theorem yNX {l:List aI} (D:DS l):∀{k:Nat} {c:Int},EE l k c->DD l k c
 | 0,_,h=>h.elim
 | _+1,_,h=>λm H e G=>yNX D (h e (by rw[z5O D H];exact G))
theorem yHP {l:List aI} (hd:DS l) (H:∀m∈l,WW l m.aV):∀m∈l,DD l l.length m.aV:=by
 classical
 have key:∀k,(∀m∈l,DD l k m.aV)\/k<=l.countP (λm=>decide (DD l k m.aV)):=by
  intro k
  induction k with
  | zero=>exact .inr (gH _)
  | succ k Y=>
   rcases Y with Y | Y;exact .inl λm D=>zMS (Y m D);by_cases T:∀m∈l,DD l (k+1) m.aV->DD l k m.aV;left;have O:∀j c,DD l j c->DD l k c:=by
    intro j
    induction j with
    | zero=>intro c h;exact zUX h k
    | succ j ac=>
     intro c h;cases hf:l.find? (isF c) with
     | none=>exact zUX hf k
     | some m=>
      obtain⟨K,G⟩:=zHM hf;have:=T m K (by
       rw[G];intro m' aa e he;exact ac e (h m' aa e he))
      rwa [G] at this
   intro m D;obtain⟨j,hj⟩:=H m D;exact zMS (O j _ (yNX hd hj));right;have Z:∃m∈l,DD l (k+1) m.aV/\¬DD l k m.aV:=by
    apply Classical.byContradiction;intro ab;exact T λm D K=>Classical.byContradiction λG=>ab ⟨m,D,K,G⟩
   obtain⟨m,D,K,G⟩:=Z;have:=zSW (p:=λm=>decide (DD l k m.aV)) (q:=λm=>decide (DD l (k+1) m.aV)) (l:=l) (λx _ hx=>by simp only[cZ] at hx ⊢;exact zMS hx) ⟨m,D,by simpa using K,by simpa using G⟩
   omega
 rcases key l.length with h | h;exact h;have ak:l.countP (λm=>decide (DD l l.length m.aV))<=l.length:=List.countP_le_length;have:l.countP (λm=>decide (DD l l.length m.aV))=l.length:=by omega
 intro m D;have:=List.countP_eq_length.1 this m D;simpa using this
theorem zWR {l:List aI} (G:DS l) (H:∀m∈l,WW l m.aV) (c:Int):DD l l.length c:=by
 cases h:l.find? (isF c) with
 | none=>exact zUX h _
 | some m=>
  obtain⟨k,D⟩:=zHM h;have:=yHP G H m k
  rwa [D] at this
def fnB (l:List aI) (b:Bool) (c:Int):Option (List Int):=match l.find? (isF c) with
 | some m=>if (b ||(m.bN== []))=true then some m.To else none
 | none=>none
theorem zL3 {l:List aI} {b:Bool} {c:Int} {D:List Int} (h:fnB l b c=some D):∃m,l.find? (isF c)=some m/\m.To=D/\(b ||(m.bN== []))=true:=by
 unfold fnB at h;cases k:l.find? (isF c) with
 | none=>rw[k] at h;cases h
 | some m=>
  rw[k] at h;simp only at h;split at h;rename_i hb;injection h with h;exact⟨m,rfl,h,hb⟩;cases h
theorem zWS (l:List aI) (c:Int):fnB l true c=(l.find? (isF c)).map (·.To):=by unfold fnB;cases l.find? (isF c)<;>simp
theorem yPQ {l:List aI} {c:Int} {k:List Int} (h:fnB l false c=some k):fnB l true c=some k:=by obtain⟨m,D,G,_⟩:=zL3 h;rw[zWS,D,<-G];rfl
def exF (l:List aI) (b:Bool):Nat->Int->List Int
 | 0,c=>hdE c
 | k+1,c=>match fnB l b c with
  | some h=>h.flatMap (exF l b k)
  | none=>hdE c
def wtF (l:List aI) (b:Bool):Nat->Int->Int
 | 0,c=>((hdE c).length:Int)
 | k+1,c=>match fnB l b c with
  | some h=>min (max (h.map (wtF l b k)).sum 1) 65
  | none=>((hdE c).length:Int)
theorem zQF {f g:Int->List Int}:∀{L:List Int},(∀e∈L,f e=g e)->L.flatMap f=L.flatMap g
 | [],_=>rfl
 | x::L,h=>by rw[d9,d9,h x (by simp),zQF λe k=>h e (by simp[k])]
theorem zJ6 {l:List aI} {b:Bool} {c:Int} (h:l.find? (isF c)=none):fnB l b c=none:=by unfold fnB;rw[h]
theorem yHR {l:List aI} {b:Bool}:∀{k:Nat} {c:Int},DD l k c->∀{j:Nat},k<=j->exF l b j c=exF l b k c
 | 0,c,h,j,_=>by
  cases j with
  | zero=>rfl
  | succ j=>show (match fnB l b c with | some D=>D.flatMap (exF l b j) | none=>hdE c)=hdE c;rw[zJ6 h]
 | k+1,c,h,j,O=>by
  cases j with
  | zero=>omega
  | succ j=>
   show (match fnB l b c with | some D=>D.flatMap (exF l b j) | none=>hdE c)=(match fnB l b c with | some D=>D.flatMap (exF l b k) | none=>hdE c);cases K:fnB l b c with
   | none=>rfl
   | some D=>
    obtain⟨m,G,rfl,_⟩:=zL3 K;exact zQF λe H=>yHR (h m G e H) (by omega)
theorem yHS {l:List aI} {b:Bool}:∀{k:Nat} {c:Int},DD l k c->∀{j:Nat},k<=j->wtF l b j c=wtF l b k c
 | 0,c,h,j,_=>by
  cases j with
  | zero=>rfl
  | succ j=>show (match fnB l b c with | some D=>min (max (D.map (wtF l b j)).sum 1) 65 | none=>((hdE c).length:Int))=((hdE c).length:Int);rw[zJ6 h]
 | k+1,c,h,j,O=>by
  cases j with
  | zero=>omega
  | succ j=>
   show (match fnB l b c with | some D=>min (max (D.map (wtF l b j)).sum 1) 65 | none=>((hdE c).length:Int))=(match fnB l b c with | some D=>min (max (D.map (wtF l b k)).sum 1) 65 | none=>((hdE c).length:Int));cases K:fnB l b c with
   | none=>rfl
   | some D=>
    obtain⟨m,G,rfl,_⟩:=zL3 K;have:m.To.map (wtF l b j)=m.To.map (wtF l b k):=gw λe H=>yHS (h m G e H) (by omega);simp only[this]
def fu (l:List aI) (b:Bool) (c:Int):List Int:=exF l b l.length c
def wt (l:List aI) (b:Bool) (c:Int):Int:=wtF l b l.length c
theorem zTR {l:List aI} {b:Bool} (h:∀c,DD l l.length c) (c:Int):fu l b c=match fnB l b c with | some k=>k.flatMap (fu l b) | none=>hdE c:=by unfold fu;rw[<-yHR (h c) (show l.length<=l.length+1 by omega)];rfl
theorem zZV {l:List aI} {b:Bool} (h:∀c,DD l l.length c) (c:Int):wt l b c=(match fnB l b c with | some k=>(min (max (k.map (wt l b)).sum 1) 65:Int) | none=>((hdE c).length:Int):Int):=by unfold wt;rw[<-yHS (h c) (show l.length<=l.length+1 by omega)];rfl
theorem zO2 {l:List aI} {b:Bool} (k:Nat) (c:Int):1<=wtF l b k c/\wtF l b k c<=65:=by
 have:=zQD c;cases k with
 | zero=>show 1<=((hdE c).length:Int)/\((hdE c).length:Int)<=65;omega
 | succ k=>
  show 1<=(match fnB l b c with | some h=>min (max (h.map (wtF l b k)).sum 1) 65 | none=>((hdE c).length:Int))/\(match fnB l b c with | some h=>min (max (h.map (wtF l b k)).sum 1) 65 | none=>((hdE c).length:Int))<=65;cases fnB l b c with
  | none=>simp only[];omega
  | some h=>simp only[];omega
theorem z11 {f:Int->Int} (h:∀e,1<=f e):∀L:List Int,(L.length:Int)<=(L.map f).sum
 | []=>by simp
 | x::L=>by have:=z11 h L;have:=h x;simp only[ez,iJ,dO];omega
theorem yAD {f:Int->List Int} {w:Int->Int} (k:∀e,1<=w e) (N:Int):∀(L:List Int),(∀e∈L,w e<=N->((f e).length:Int)<=w e)->(L.map w).sum<=N->((L.flatMap f).length:Int)<=(L.map w).sum
 | [],_,_=>by simp
 | x::L,h,G=>by
  have H:=z11 k L;have K:=k x;simp only[ez,iJ] at G ⊢;have T:=yAD k N L (λe D=>h e (by simp[D])) (by omega);have O:=h x (by simp) (by omega);rw[d9,cU];omega
theorem yL3 {l:List aI} {b:Bool}:∀(k:Nat) (c:Int),wtF l b k c<=64->((exF l b k c).length:Int)<=wtF l b k c:=by
 intro k
 induction k with
 | zero=>intro c _;show ((hdE c).length:Int)<=((hdE c).length:Int);omega
 | succ k H=>
  intro c;show (match fnB l b c with | some D=>min (max (D.map (wtF l b k)).sum 1) 65 | none=>((hdE c).length:Int))<=64->(((match fnB l b c with | some D=>D.flatMap (exF l b k) | none=>hdE c):List Int).length:Int)<=(match fnB l b c with | some D=>min (max (D.map (wtF l b k)).sum 1) 65 | none=>((hdE c).length:Int));cases fnB l b c with
  | none=>intro _;simp only[];omega
  | some D=>
   simp only[];intro h;have:=yAD (f:=exF l b k) (w:=wtF l b k) (λe=>(zO2 k e).1) 64 D (λe _ G=>H e G) (by omega);omega
theorem yAE {l:List aI} (H:DS l):∀(k:Nat) (c:Int),wtF l false k c<=wtF l true k c:=by
 intro k
 induction k with
 | zero=>intro c;exact fY _
 | succ k Y=>
  intro c;have O:∀L:List Int,(L.map (wtF l false k)).sum<=(L.map (wtF l true k)).sum:=by
   intro L
   induction L with
   | nil=>simp
   | cons x L Z=>have:=Y x;simp only[ez,iJ];omega
  show (match fnB l false c with | some h=>min (max (h.map (wtF l false k)).sum 1) 65 | none=>((hdE c).length:Int))<=(match fnB l true c with | some h=>min (max (h.map (wtF l true k)).sum 1) 65 | none=>((hdE c).length:Int));cases K:fnB l false c with
  | some h=>
   rw[yPQ K];have:=O h;simp only[];omega
  | none=>
   cases T:fnB l true c with
   | none=>exact fY _
   | some h=>
    obtain⟨m,D,_,_⟩:=zL3 T;obtain⟨G,rfl⟩:=zHM D;have:hdE m.aV= [m.aV]:=by unfold hdE;rw[dK (by simp[zWQ H G])]
    simp only[this,hJ];omega
theorem yPR {l:List aI} (k:DS l) (h:∀c,wt l true c<=64) (b:Bool) (c:Int):(fu l b c).length<=64:=by
 have D:wtF l b l.length c<=wtF l true l.length c:=by
  cases b with
  | true=>exact fY _
  | false=>exact yAE k _ c
 have G:wtF l true l.length c<=64:=h c;have:=yL3 (l:=l) (b:=b) l.length c (by omega);unfold fu;omega
theorem yHT {l:List aI} (Y:DS l) (T:∀c,DD l l.length c) (c:Int):(dep l c= []->wt l true c=1)/\(dep l c≠[]->wt l true c=min ((dep l c).map (wt l true)).sum 65):=by
 have hp:∀e,1<=wt l true e:=λe=>(zO2 _ e).1;rw[zZV T c,zWS];cases Z:l.find? (isF c) with
 | some m=>
  rw[z5O Y Z];simp only[eZ];constructor;intro h;rw[h];rfl;intro h;have:=z11 hp m.To;have:0<m.To.length:=e9.2 h;omega
 | none=>
  simp only[gy];cases G:syl c with
  | false=>
   have H:dep l c= []:=by unfold dep;rw[dK (by simp[G]),Z]
   have h2:hdE c= [c]:=by unfold hdE;rw[dK (by simp[G])]
   rw[H,h2];exact⟨λ_=>rfl,λh=>absurd rfl h⟩
  | true=>
   have H:dep l c=hdE c:=by unfold dep;rw[dI G]
   have hl:=zQD c;have k:∀e∈hdE c,wt l true e=1:=by
    intro e K;obtain⟨p1,p2⟩:=zWO G K;have hn:l.find? (isF e)=none:=by
     cases O:l.find? (isF e) with
     | none=>rfl
     | some m=>obtain⟨q1,rfl⟩:=zHM O;exact absurd (Y.hk m q1) p2
    rw[zZV T e,zJ6 hn];simp only[];unfold hdE;rw[dK (by simp[p1])];rfl
   have D:∀L:List Int,(∀e∈L,wt l true e=1)->(L.map (wt l true)).sum=(L.length:Int):=by
    intro L
    induction L with
    | nil=>intro _;rfl
    | cons x L ih=>intro h;have:=ih λe K=>h e (by simp[K]);have:=h x (by simp);simp only[ez,iJ,dO];omega
   rw[H];constructor;intro h;rw[h] at hl;simp at hl;intro _;rw[D _ k];omega
open Go.AV
section
variable {n:Norm} (hd:DS n.aA) (hl:n.aA.length<=2000) (H:∀m∈n.aA,WW n.aA m.aV)
include hd hl H
structure MeX (l:List aI) (m:List (Int×Int)) (lo:Bool):Prop where
 val:∀k v,mget m k=some v->v= -1\/v=wt l true k
 lof:lo=false->∀k v,mget m k=some v->v≠ -1->v<=64
 lot:lo=true->∃x∈l,64<wt l true x.aV
def z8R (l:List aI) (m D:List (Int×Int)) (h:Bool):Prop:=
 MeX l D h/\(∀k v,mget m k=some v->mget D k=some v)/\∀e,mget D e=some (-1)->mget m e=some (-1)
omit hd hl H in
theorem yDN {m D:List (Int×Int)} (h:∀k v,mget m k=some v->mget D k=some v):∀k,zDM m k=true->zDM D k=true:=by intro k G;obtain⟨v,K⟩:=gO.1 G;show (mget D k).isSome=true;rw[h k v K];rfl
omit H hl in
theorem yL4 {f:Nat} (c:Int) (k1:Nat) (ih:∀c m lo,MeX n.aA m lo->zYI n.aA f c m->(∃k,EE n.aA k c/\∀e,mget m e=some (-1)->¬EE n.aA k e)->∃D G,yH f c n m false lo=some (wt n.aA true c,false,D,G)/\z8R n.aA m G D/\(dep n.aA c≠[]->mget G c=some (wt n.aA true c))) (aa:∀e∈dep n.aA c,EE n.aA k1 e):
  ∀(d i:Nat) (s:Int) (lo:Bool) (m:List (Int×Int)),(dep n.aA c).length-i=d->i<=(dep n.aA c).length->0<=s->s<=65->MeX n.aA m lo->(∀e∈dep n.aA c,zYI n.aA f e m)->(∀e,mget m e=some (-1)->¬EE n.aA k1 e)->
   ∃D G,zE (zWP (dep n.aA c,true) (yH f) n) (s,(i:Int),false,lo,m)=some (min (s+(((dep n.aA c).drop i).map (wt n.aA true)).sum) 65,false,D,G)/\z8R n.aA m G D:=by
 have hL:=z99 hd c;generalize dep n.aA c=L at*;intro d
 induction d with
 | zero=>
  intro i s lo m h1 h2 h3 h4 O T Y;refine⟨lo,m,?_,O,λ_ _ h=>h,λ_ h=>h⟩;refine zL ?_;rw[dC (show L.length<=i by omega)];simp only[jR,kJ (show L.length<=i by omega),cM,fI,List.sum_nil,Int.add_zero];rw[Int.min_eq_left h4]
 | succ d ab=>
  intro i s lo m h1 h2 h3 h4 O T Y;have hi:i<L.length:=by omega
  have hm:=eJ hi;obtain⟨K,m1,hr,⟨r1,r2,r3⟩,_⟩:=ih L[i] m lo O (T _ hm) ⟨k1,aa _ hm,Y⟩;have hp:=zO2 (l:=n.aA) (b:=true) n.aA.length L[i];have aq:1<=wt n.aA true L[i]/\wt n.aA true L[i]<=65:=hp;have hb:zWP (L,true) (yH f) n (s,(i:Int),false,lo,m)=some (.next (min (s+wt n.aA true L[i]) 65,((i+1:Nat):Int),false,K,m1)):=by
   simp only[jR,yU hi,cN,zV hi,zA,hr,zK (k:=i) (by omega)];rw[xY (n:=s+wt n.aA true L[i]) (by omega) (by omega)]
  rw[zN hb];obtain⟨ad,m2,hq,q1,q2,q3⟩:=ab (i+1) (min (s+wt n.aA true L[i]) 65) K m1 (by omega) (by omega) (by omega) (by omega) r1 (λe Z=>zZU (yDN r2) (T e Z)) (λe Z=>Y e (r3 e Z));refine⟨ad,m2,?_,q1,λk v h=>q2 k v (r2 k v h),λe h=>r3 e (q3 e h)⟩;rw[hq,cY hi,ez,iJ];have ao:=z11 (f:=wt n.aA true) (λe=>(zO2 _ e).1) (L.drop (i+1));have:min (min (s+wt n.aA true L[i]) 65+((L.drop (i+1)).map (wt n.aA true)).sum) 65=min (s+(wt n.aA true L[i]+((L.drop (i+1)).map (wt n.aA true)).sum)) 65:=by omega
  rw[this]
theorem yL5 : ∀ (f : Nat) (c : Int) (m : List (Int × Int)) (lo : Bool), MeX n.aA m lo -> zYI n.aA f c m -> (∃ k, EE n.aA k c /\ ∀ e, mget m e = some (-1) -> ¬ EE n.aA k e) ->
    ∃ lo' m', yH f c n m false lo = some (wt n.aA true c, false, lo', m') /\ z8R n.aA m m' lo' /\ (dep n.aA c ≠ [] -> mget m' c = some (wt n.aA true c)) := by
  have hD := zWR hd H;intro f
  induction f with
  | zero =>
    intro c m lo _ hn;exfalso;rcases hn with h | h | h<;>omega
  | succ f ih =>
    intro c m lo hm hn hst;show ∃ lo' m', jK (yH f) c n m false lo = some _ /\ _;obtain⟨w0, w1⟩ := yHT hd hD c;have hp' : 1 <= wt n.aA true c /\ wt n.aA true c <= 65 := zO2 (l := n.aA) (b := true) n.aA.length c;by_cases h0 : dep n.aA c = []
    · rw[yAC hd hl h0, w0 h0]
      exact⟨lo, m, rfl, ⟨hm, λ_ _ h => h, λ_ h => h⟩, λh => absurd h0 h⟩
    · rw[yNV hd hl h0]
      obtain⟨k, hk, hks⟩ := hst;cases hh : zDM m c with
      | true =>
        obtain⟨v, hv⟩ := gO.1 hh;have hg : mgetD m c 0 = v := by unfold mgetD; rw[hv]; rfl
        have hne : v ≠ -1 := λe => hks c (by rw[hv, e]) hk;have hvw : v = wt n.aA true c := (hm.val c v hv).resolve_left hne;rw[hg, cN];have e1 : decide (v = -1) = false := by simpa using hne
        rw[e1];refine⟨lo, m, ?_, ⟨hm, λ_ _ h => h, λ_ h => h⟩, λ_ => by rw[hv, hvw]⟩;rw[show max v 1 = wt n.aA true c by omega];rfl
      | false =>
        have hmin : ∃ k0, EE n.aA (k0+1) c /\ ¬ EE n.aA k0 c /\ k0+1 <= k := by
          clear hks
          induction k with
          | zero => exact hk.elim
          | succ k ihk =>
            by_cases h : EE n.aA k c
            · obtain⟨k0, a, b, e⟩ := ihk h
              exact⟨k0, a, b, by omega⟩
            · exact⟨k, hk, h, dA _⟩
        obtain⟨k0, a, b, e⟩ := hmin;have hgn : mget m c = none := by
          cases hx : mget m c with
          | none => rfl
          | some v => have : zDM m c = true := by unfold zDM; rw[hx]; rfl
                      rw[hh] at this; cases this
        have hok : MeX n.aA (wX m c (-1)) lo := by
          refine⟨λk v hk => ?_, λhc k v hk hne => ?_, hm.lot⟩
          · rw[vD] at hk
            split at hk
            · cases hk; exact .inl rfl
            · exact hm.val k v hk
          · rw[vD] at hk
            split at hk
            · cases hk; exact absurd rfl hne
            · exact hm.lof hc k v hk hne
        have hnd : ∀ e ∈ dep n.aA c, zYI n.aA f e (wX m c (-1)) := by
          intro e he;cases hs : syl c with
          | true =>
            refine .inr (.inr ⟨z1Z hd hs he, ?_⟩);rcases hn with h | h | h
            · omega
            · omega
            · exact absurd h.1 h0
          | false =>
            rcases hn with h | h | h
            · refine .inl ?_
              have := yAB (l := n.aA) (v := -1) (z8Q h0 hs) hh;omega
            · rw[hs] at h; cases h.1
            · exact absurd h.1 h0
        obtain⟨lo1, m1, hq, q1, q2, q3⟩ := yL4 hd c k0 ih (λe he => a e he) (dep n.aA c).length 0 0 lo (wX m c (-1)) (by omega) (by omega) (by omega) (by omega) hok hnd (λe' he' => by
          rw[vD] at he';split at he'
          · rename_i hx; rw[hx]; exact b
          · exact λh => hks e' he' (yHL (by omega) h))
        rw[d7, Int.zero_add, <- w1 h0] at hq;have hq' : zE (zWP (dep n.aA c, true) (yH f) n) (0, 0, false, lo, wX m c (-1)) = some (wt n.aA true c, false, lo1, m1) := hq;simp only[cM];rw[hq'];refine⟨(lo1 || decide (64<wt n.aA true c)), wX m1 c (wt n.aA true c), rfl, ⟨⟨λk v hk => ?_, λhc k v hk hne => ?_, λhc => ?_⟩, λk v hk => ?_, λe' he' => ?_⟩, λ_ => by rw[vD, dI rfl]⟩
        · rw[vD] at hk
          split at hk
          · rename_i hx; cases hk; rw[hx]; exact .inr rfl
          · exact q1.val k v hk
        · rw[fC] at hc
          rw[vD] at hk;split at hk
          · cases hk; have := hc.2; simp only[c9] at this; omega
          · exact q1.lof hc.1 k v hk hne
        · rcases Bool.or_eq_true_iff.1 hc with h | h
          · exact q1.lot h
          · simp only[cZ] at h
            cases hs : syl c with
            | true =>
              have : wt n.aA true c <= 3 := by
                rw[zZV hD c, zJ6 (z5N hd hs)];have := zQD c;simp only[]; omega
              omega
            | false => obtain⟨x, hx, rfl⟩ := z8Q h0 hs; exact⟨x, hx, h⟩
        · rw[vD]
          split
          · rename_i hx; rw[hx, hgn] at hk; cases hk
          · rename_i hx
            exact q2 k v (by rw[vD, dK hx]; exact hk)
        · rw[vD] at he'
          split at he'
          · injection he' with he'; omega
          · rename_i hx
            have := q3 e' he';rw[vD, dK hx] at this;exact this
theorem zWT (hp:n.aA.length<=90):∃lo,decompose_measure n=some (false,lo)/\(lo=false↔∀x∈n.aA,wt n.aA true x.aV<=64):=by
 have hD:=zWR hd H;have key:∀(d i:Nat) (lo:Bool) (m:List (Int×Int)),n.aA.length-i=d->i<=n.aA.length->MeX n.aA m lo->(∀e,mget m e≠some (-1))->(∀x∈n.aA.take i,dep n.aA x.aV≠[]->mget m x.aV=some (wt n.aA true x.aV))->
   ∃G,zE (λ(x:Int×Bool×Bool×(List (Int×Int)))=>k9 n x.1 x.2.1 x.2.2.1 x.2.2.2) ((i:Int),false,lo,m)=some (false,G)/\(G=false↔∀x∈n.aA,wt n.aA true x.aV<=64):=by
  intro d
  induction d with
  | zero=>
   intro i lo m T h2 O Y Z;refine⟨lo,?_,λh x hx=>?_,λh=>?_⟩
   ·refine zL ?_
    simp only[k9,kJ (show n.aA.length<=i by omega),cM]
   ·by_cases h0:dep n.aA x.aV= []
    ·rw[(yHT hd hD x.aV).1 h0];decide
    ·have hg:=Z x (by rw[gC (by omega)];exact hx) h0
     have am:1<=wt n.aA true x.aV/\wt n.aA true x.aV<=65:=zO2 (l:=n.aA) (b:=true) n.aA.length x.aV;exact O.lof h _ _ hg (by omega)
   ·cases lo with
    | false=>rfl
    | true=>obtain⟨x,hx,hg⟩:=O.lot rfl;have:=h x hx;omega
  | succ d ih=>
   intro i lo m T h2 O Y Z;have hi:i<n.aA.length:=by omega
   have ah:pot n.aA m<=n.aA.length:=List.countP_le_length;obtain⟨k,hk⟩:=H n.aA[i] (eJ hi);obtain⟨K,m1,hr,⟨r1,r2,r3⟩,r4⟩:=yL5 hd hl H 100 n.aA[i].aV m lo O (.inl (by omega)) ⟨k,hk,λe he=>absurd he (Y e)⟩;rw[zN (x':=(((i+1:Nat):Int),false,K,m1)) (by
    simp only[k9,yU hi,cN,zV hi,zA,hr,zK (k:=i) (by omega)])]
   refine ih (i+1) K m1 (by omega) (by omega) r1 (λe he=>Y e (r3 e he)) (λx hx D=>?_);rw[List.take_add_one,cO hi] at hx;rcases eQ.1 hx with hx | hx
   ·exact r2 _ _ (Z x hx D)
   ·simp only[Option.toList_some,g8] at hx
    subst hx;exact r4 D
 obtain⟨lo,hr,T⟩:=key n.aA.length 0 false [] (by omega) (by omega) ⟨λk v h=>(by cases h),λ_ k v h=>(by cases h),λh=>by cases h⟩ (λe h=>by cases h) (λx hx=>by cases hx);have ac:zE (λ(x:Int×Bool×Bool×(List (Int×Int)))=>k9 n x.1 x.2.1 x.2.2.1 x.2.2.2) (0,false,false,[])=some (false,lo):=hr;refine⟨lo,?_,T⟩;unfold decompose_measure;rw[ac];rfl
end
theorem yHU {n:Norm} (K:DS n.aA) (T:n.aA.length<=90):decompose_measure n=some (false,false)↔(∀m∈n.aA,WW n.aA m.aV)/\∀m∈n.aA,wt n.aA true m.aV<=64:=by
 have O:n.aA.length<=2000:=by omega
 constructor;intro h;obtain⟨r,D,Y⟩:=zTQ K O T;rw[h] at D;injection D with D;subst D;have H:=Y rfl;obtain⟨lo,k,G⟩:=zWT K O H T;rw[h] at k;injection k with k;injection k with _ k;exact⟨H,G.1 k.symm⟩
 rintro⟨H,h⟩
 obtain⟨lo,k,G⟩:=zWT K O H T;rw[k,G.2 h]
theorem yPS {l:List aI} (G:DS l) (H:∀m∈l,WW l m.aV) (h:∀m∈l,wt l true m.aV<=64) (c:Int):wt l true c<=64:=by
 cases k:l.find? (isF c) with
 | some m=>obtain⟨D,rfl⟩:=zHM k;exact h m D
 | none=>
  rw[zZV (zWR G H) c,zJ6 k];have:=zQD c;simp only[];omega
open Go.AV
set_option linter.unusedSimpArgs false
set_option linter.unusedVariables false
def sg (a b:Int):Int:=if a<b then -1 else if b<a then 1 else 0
theorem yAF (a b:Int):decide (sg a b<0)=decide (a<b):=by unfold sg;by_cases h:a<b;simp[h];by_cases k:b<a<;>simp[h,k]
theorem yAG {D:Type} [Inhabited D] {l m:List D} {k:Nat} (h:k<l.length):nth (l++m) k=nth l k:=by simp[nth,dY h]
theorem yAH {D:Type} [Inhabited D] {l m:List D} {k j:Nat} (h:k=l.length+j):nth (l++m) k=nth m j:=by subst h;simp[nth,dW]
theorem wn {n:Int} (h:0<=n) (k:n<=1000000):wi n=n:=xY (by omega) (by omega)
theorem yNY:∀(U V p W s:List Int) (k:Nat) (N A B:Int),U.length=V.length->N=((k+U.length:Nat):Int)->A+k=(p.length:Int)->B+k=((p.length+U.length+W.length:Nat):Int)->0<=A->0<=B->p.length+U.length+W.length+V.length<=2000->k<=2000->
  zE (λ(x:Int×(List Int))=>kF N B A x.1 x.2) ((k:Int),p++U++W++V++s)=some (p++V++W++U++s)
 | [],[],p,W,s,k,N,A,B,_,h,_,_,_,_,_,_=>by
  refine zL ?_;show kF N B A (k:Int) _=_;simp only[kF,h,kJ (k:=k) (n:=k+0) (by omega),d6,cM]
 | u::U,v::V,p,W,s,k,N,A,B,hl,h,T,D,G,H,hs,hk=>by
  have Z:U.length=V.length:=by simpa using hl
  simp only[dO] at h D hs;have ih:=yNY U V (p++ [v]) (W++ [u]) s (k+1) N A B Z (by rw[h];omega) (by simp;omega) (by simp;omega) G H (by simp;omega) (by omega)
  have Y:p++u::U++W++v::V++s=(p++u::U++W)++v::(V++s):=by simp
  have K:p++u::U++W++v::V++s=p++u::(U++W++v::V++s):=by simp
  have i1:yD (p++u::U++W++v::V++s) (wi (B+k))=some v:=by
   rw[wn (by omega) (by omega),D,Y];exact vO (by simp;omega)
  have i2:yD (p++u::U++W++v::V++s) (wi (A+k))=some u:=by
   rw[wn (by omega) (by omega),T,K];exact vO rfl
  have s1:zBD (p++u::U++W++v::V++s) (wi (A+k)) v=some (p++v::(U++W++v::V++s)):=by
   rw[wn (by omega) (by omega),T,K];exact zAR rfl
  have O:p++v::(U++W++v::V++s)=(p++v::U++W)++v::(V++s):=by simp
  have i3:yD (p++v::(U++W++v::V++s)) (wi (B+k))=some v:=by
   rw[wn (by omega) (by omega),D,O];exact vO (by simp;omega)
  have s2:zBD (p++v::(U++W++v::V++s)) (wi (B+k)) u=some ((p++v::U++W)++u::(V++s)):=by
   rw[wn (by omega) (by omega),D,O];exact zAR (by simp;omega)
  rw[zN (x':=(((k+1:Nat):Int),(p++ [v])++U++(W++ [u])++V++s))]
  ·rw[ih];simp
  ·show kF N B A (k:Int) _=_
   simp only[kF,h,yU (k:=k) (n:=k+(U.length+1)) (by omega),cN,i1,i2,s1,i3,s2,zA,zK (k:=k) (by omega)];simp
theorem z12 {U V p W s:List Int} {N A B:Int} {f:Int->Int->Option Int} (G:U.length=V.length) (D:N=(U.length:Int)) (h:A=(p.length:Int)) (k:B=((p.length+U.length+W.length:Nat):Int)) (H:p.length+U.length+W.length+V.length<=2000):
  kY (p++U++W++V++s) A B N f=some (p++V++W++U++s):=by
 unfold kY;have:=yNY U V p W s 0 N A B G (by rw[D];simp) (by rw[h];simp) (by rw[k];simp) (by omega) (by omega) H (by omega)
 rw[show ((0:Nat):Int)=0 from rfl] at this;rw[this];rfl
theorem yPT {f:Int->Int->Option Int} (M:Nat):∀(n:Nat) (P U V S:List Int),U.length+V.length<=n->(P++U).length=M->0<U.length->0<V.length->P.length+U.length+V.length<=2000->
  ∃(i:Nat) (d:List Int),zE (λ(x:Int×Int×(List Int))=>yV (M:Int) f x.1 x.2.1 x.2.2) ((U.length:Int),(V.length:Int),P++U++V++S)=some ((i:Int),d)/\i<=M/\
   kY d (wi ((M:Int)-(i:Int))) (M:Int) (i:Int) f=some (P++V++U++S)
 | 0,P,U,V,S,hn,Y,Z,hV,hs=>by omega
 | n+1,P,U,V,S,hn,Y,Z,hV,hs=>by
  simp only[cU] at Y;by_cases e:U.length=V.length
  ·refine⟨U.length,P++U++V++S,zL ?_,by omega,?_⟩
   ·show yV (M:Int) f (U.length:Int) (V.length:Int) _=_
    simp only[yV,e,dB,dD,cM]
   ·rw[wn (by omega) (by omega)]
    have:=z12 (U:=U) (V:=V) (p:=P) (W:=[]) (s:=S) (N:=U.length) (A:=(M:Int)-(U.length:Int)) (B:=(M:Int)) (f:=f) e rfl (by omega) (by simp;omega) (by simp;omega)
    simpa using this
  ·by_cases D:V.length<U.length
   ·have T:=yPT (f:=f) M n (P++V) (U.drop V.length) (U.take V.length) S (by simp;omega) (by simp;omega) (by simp;omega) (by simp;omega) (by simp;omega)
    obtain⟨i,d,H,K,O⟩:=T;refine⟨i,d,?_,K,?_⟩
    ·rw[zN (x':=(((U.drop V.length).length:Int),((U.take V.length).length:Int),(P++V)++U.drop V.length++U.take V.length++S))]
     ·exact H
     ·show yV (M:Int) f (U.length:Int) (V.length:Int) _=_
      have h:=z12 (U:=U.take V.length) (V:=V) (p:=P) (W:=U.drop V.length) (s:=S) (N:=V.length) (A:=(M:Int)-(U.length:Int)) (B:=(M:Int)) (f:=f) (by simp;omega) (by simp;omega) (by omega) (by simp;omega) (by simp;omega)
      rw[show P++U.take V.length++U.drop V.length++V++S=P++U++V++S by rw[c8 P,et]] at h;have G:(!decide ((U.length:Int)=(V.length:Int)))=true:=by simp;omega
      simp only[yV,G,cN,yU D,wn (n:=(M:Int)-(U.length:Int)) (by omega) (by omega),wn (n:=(U.length:Int)-(V.length:Int)) (by omega) (by omega),h,zA];simp only[eH,dZ];rw[show ((U.length-V.length:Nat):Int)=(U.length:Int)-(V.length:Int) by omega,show ((min V.length U.length:Nat):Int)=(V.length:Int) by omega]
    ·rw[O,c8 (P++V),et]
   ·have D:U.length<V.length:=by omega
    have T:=yPT (f:=f) M n P (V.drop (V.length-U.length)) (V.take (V.length-U.length)) (U++S) (by simp;omega) (by simp;omega) (by simp;omega) (by simp;omega) (by simp;omega)
    obtain⟨i,d,H,K,O⟩:=T;refine⟨i,d,?_,K,?_⟩
    ·rw[zN (x':=(((V.drop (V.length-U.length)).length:Int),((V.take (V.length-U.length)).length:Int),P++V.drop (V.length-U.length)++V.take (V.length-U.length)++(U++S)))]
     ·exact H
     ·show yV (M:Int) f (U.length:Int) (V.length:Int) _=_
      have h:=z12 (U:=U) (V:=V.drop (V.length-U.length)) (p:=P) (W:=V.take (V.length-U.length)) (s:=S) (N:=U.length) (A:=(M:Int)-(U.length:Int)) (B:=(M:Int)+(V.length:Int)-(U.length:Int)) (f:=f) (by simp;omega) rfl (by omega) (by simp;omega) (by simp;omega)
      rw[show P++U++V.take (V.length-U.length)++V.drop (V.length-U.length)++S=P++U++V++S by rw[c8 (P++U),et]] at h;have G:(!decide ((U.length:Int)=(V.length:Int)))=true:=by simp;omega
      simp only[yV,G,cN,kJ (k:=V.length) (n:=U.length) (by omega),cM,wn (n:=(M:Int)-(U.length:Int)) (by omega) (by omega),wn (n:=(M:Int)+(V.length:Int)) (by omega) (by omega),wn (n:=(M:Int)+(V.length:Int)-(U.length:Int)) (by omega) (by omega),wn (n:=(V.length:Int)-(U.length:Int)) (by omega) (by omega),h,zA];simp only[eH,dZ,c8];rw[show ((V.length-(V.length-U.length):Nat):Int)=(U.length:Int) by omega,show ((min (V.length-U.length) V.length:Nat):Int)=(V.length:Int)-(U.length:Int) by omega]
    ·rw[O]
     rw[show P++V.take (V.length-U.length)++V.drop (V.length-U.length)++(U++S)=P++(V.take (V.length-U.length)++V.drop (V.length-U.length))++U++S by simp,et]
theorem yPU {f:Int->Int->Option Int} {P U V S:List Int} {a m b:Int} (Z:a=(P.length:Int)) (h:m=((P++U).length:Nat)) (hb:b=((P++U++V).length:Nat)) (K:0<U.length) (O:0<V.length) (T:P.length+U.length+V.length<=2000):
  xQ (P++U++V++S) a m b f=some (P++V++U++S):=by
 obtain⟨i,d,G,Y,H⟩:=yPT (f:=f) (P++U).length (U.length+V.length) P U V S (dA _) rfl K O T;unfold xQ;have k:wi (m-a)=(U.length:Int):=by rw[wn (by simp at h;omega) (by simp at h;omega)];simp at h;omega
 have D:wi (b-m)=(V.length:Int):=by rw[wn (by simp at h hb;omega) (by simp at h hb;omega)];simp at h hb;omega
 rw[k,D,h,G,zA,H];rfl
open Go.AV
set_option linter.unusedSimpArgs false
set_option linter.unusedVariables false
section
variable (key:Int->Int)
def Srt (l:List Int):Prop:=l.Pairwise λx y=>key x<=key y
def Flt (a b:List Int):Prop:=a.Perm b/\∀k,a.filter (λx=>decide (key x=k))=b.filter (λx=>decide (key x=k))
end
section
variable {key:Int->Int}
theorem Flt.refl (a:List Int):Flt key a a:=⟨.refl _,λ_=>rfl⟩
theorem Flt.trans {a b c:List Int} (h:Flt key a b) (k:Flt key b c):Flt key a c:=⟨h.1.trans k.1,λq=>(h.2 q).trans (k.2 q)⟩
theorem Flt.symm {a b:List Int} (h:Flt key a b):Flt key b a:=⟨h.1.symm,λq=>(h.2 q).symm⟩
theorem Flt.app {a b c d:List Int} (h:Flt key a b) (k:Flt key c d):Flt key (a++c) (b++d):=⟨h.1.append k.1,λq=>by rw[List.filter_append,List.filter_append,h.2 q,k.2 q]⟩
theorem Flt.swap {a b:List Int} (h:∀x∈a,∀y∈b,key x≠key y):Flt key (a++b) (b++a):=⟨List.perm_append_comm,λq=>by
 rw[List.filter_append,List.filter_append];by_cases G:∃x∈a,key x=q
 ·obtain⟨x,H,e⟩:=G
  have:b.filter (λx=>decide (key x=q))= []:=by
   rw[List.filter_eq_nil_iff];intro y D k;exact h x H y D (by rw[e];simpa using Eq.symm (by simpa using k))
  rw[this];simp
 ·have:a.filter (λx=>decide (key x=q))= []:=by
   rw[List.filter_eq_nil_iff];intro y D k;exact G ⟨y,D,by simpa using k⟩
  rw[this];simp⟩
theorem Flt.mem {a b:List Int} (h:Flt key a b) {x:Int}:x∈a↔x∈b:=h.1.mem_iff
theorem Flt.len {a b:List Int} (h:Flt key a b):a.length=b.length:=h.1.length_eq
theorem zI4 {a b:List Int}:Srt key (a++b)↔Srt key a/\Srt key b/\∀x∈a,∀y∈b,key x<=key y:=iG
theorem zK1 {l:List Int} (h:Srt key l) {i j:Nat} (k:i<=j) (G:j<l.length):key (nth l i)<=key (nth l j):=by rcases Nat.lt_or_eq_of_le k with D | rfl;rw[zBP G,zBP (by omega:i<l.length)];exact ig.1 h i j _ _ D;exact fY _
theorem z5P:∀{a b:List Int},Srt key a->Srt key b->Flt key a b->a=b
 | [],b,_,_,h=>by have:=h.len;exact(cP (by simpa using this.symm)).symm
 | x::a,[],_,_,h=>by have:=h.len;simp at this
 | x::a,y::b,G,hb,h=>by
  have D:key x=key y:=by
   have K:x∈y::b:=h.mem.1 (by simp);have O:y∈x::a:=h.mem.2 (by simp);have Z:key y<=key x:=by
    rcases dL.1 K with e | e;rw[e];exact fY _;exact List.rel_of_pairwise_cons hb e
   have l2:key x<=key y:=by
    rcases dL.1 O with e | e;rw[e];exact fY _;exact List.rel_of_pairwise_cons G e
   omega
  have H:=h.2 (key x);rw[io (by simp),io (by simp[D])] at H;have Y:x=y:=(List.cons.inj H).1;subst Y;have T:Flt key a b:=⟨h.1.cons_inv,λk=>by
   have:=h.2 k;by_cases e:key x=k;rw[io (by simpa using e),io (by simpa using e)] at this;exact(List.cons.inj this).2;rw[List.filter_cons_of_neg (by simpa using e),List.filter_cons_of_neg (by simpa using e)] at this;exact this⟩
  rw[z5P (List.Pairwise.of_cons G) (List.Pairwise.of_cons hb) T]
theorem yHV {k:Nat} (h:k+1<=1000000):wi (((k+1:Nat):Int)-1)=(k:Int):=by rw[wn (by omega) (by omega)];omega
theorem z5Q (lt:Int->Int->Bool):∀(r:List Int) (x:Int) (s:List Int) (y:Int),y∈u6 lt r x s->y∈r\/y=x\/y∈s
 | [],x,s,y,h=>by
  rcases dL.1 h with h | h;exact .inr (.inl h);exact .inr (.inr h)
 | z::r,x,s,y,h=>by
  unfold u6 at h;split at h;rcases z5Q lt r x (z::s) y h with h | h | h
  exact .inl (ic _ h);exact .inr (.inl h);rcases dL.1 h with h | h
  exact .inl (by rw[h];exact List.mem_cons_self)
  exact .inr (.inr h);rcases eQ.1 h with h | h
  exact .inl (List.mem_reverse.1 h);rcases dL.1 h with h | h
  exact .inr (.inl h);exact .inr (.inr h)
section
variable {Q:Int->Prop} {lt:Int->Int->Bool} {g:Int->Int->Option Int} (hq:∀x y,Q x->Q y->∃c,g x y=some c/\decide (c<0)=lt x y)
include hq
theorem yNZ (p t:List Int):∀(r:List Int) (x:Int) (s:List Int),Q x->(∀y∈r,Q y)->p.length+r.length<=2000->zE (λ(q:Int×List Int)=>yA (p.length:Int) g q.1 q.2) (((p.length+r.length:Nat):Int),p++(r.reverse++x::s)++t)=some (p++u6 lt r x s++t)
 | [],x,s,_,_,_=>by
  refine zL ?_;show yA (p.length:Int) g _ _=_;simp only[yA,d6,kJ (k:=p.length) (n:=p.length+0) (by omega),zO,vF,zA,dR,cM];rfl
 | y::r,x,s,Z,Y,h=>by
  simp only[dO] at h;have K:p++((y::r).reverse++x::s)++t=(p++r.reverse++ [y])++x::(s++t):=by simp
  have e2:p++((y::r).reverse++x::s)++t=(p++r.reverse)++y::(x::s++t):=by simp
  have T:((p.length+(y::r).length:Nat):Int)=((p.length+r.length+1:Nat):Int):=by simp;omega
  have i1:yD (p++((y::r).reverse++x::s)++t) ((p.length+r.length+1:Nat):Int)=some x:=by rw[K];exact vO (by simp;omega)
  have i2:yD (p++((y::r).reverse++x::s)++t) ((p.length+r.length:Nat):Int)=some y:=by rw[e2];exact vO (by simp)
  have s1:zBD (p++((y::r).reverse++x::s)++t) ((p.length+r.length+1:Nat):Int) y=some ((p++r.reverse++ [y])++y::(s++t)):=by rw[K];exact zAR (by simp;omega)
  have O:(p++r.reverse++ [y])++y::(s++t)=(p++r.reverse)++y::(y::s++t):=by simp
  have i3:yD ((p++r.reverse++ [y])++y::(s++t)) ((p.length+r.length:Nat):Int)=some y:=by rw[O];exact vO (by simp)
  have s2:zBD ((p++r.reverse++ [y])++y::(s++t)) ((p.length+r.length:Nat):Int) x=some ((p++r.reverse)++x::(y::s++t)):=by rw[O];exact zAR (by simp)
  have hb:decide ((p.length:Int)<((p.length+r.length+1:Nat):Int))=true:=yU (by omega);obtain⟨c,G,D⟩:=hq x y Z (Y y (by simp));cases H:lt x y with
  | true=>
   rw[H] at D;rw[T,zN (x':=(((p.length+r.length:Nat):Int),p++(r.reverse++x::(y::s))++t)),yNZ p t r x (y::s) Z (λz hz=>Y z (by simp[hz])) (by omega)];simp[u6,H];show yA (p.length:Int) g _ _=_;simp only[yA,hb,zO,xS,yHV (k:=p.length+r.length) (by omega),i1,i2,zA,G,D,fF,cN,s1,i3,s2];simp
  | false=>
   rw[H] at D;rw[T];refine zL ?_;show yA (p.length:Int) g _ _=_;simp only[yA,hb,zO,xS,yHV (k:=p.length+r.length) (by omega),i1,i2,zA,G,D,fR,cM];simp[u6,H]
theorem yN0 (p t:List Int):∀(l q:List Int),(∀y∈l,Q y)->(∀y∈q,Q y)->1<=q.length->p.length+q.length+l.length<=2000->zE (λ(x:Int×List Int)=>zZ ((p.length+q.length+l.length:Nat):Int) (p.length:Int) g x.1 x.2) (((p.length+q.length:Nat):Int),p++(q++l)++t)=some (p++zAZ lt l q++t)
 | [],q,_,_,_,_=>by
  refine zL ?_;show zZ _ (p.length:Int) g _ _=_;simp only[zZ,d6,kJ (k:=p.length+q.length) (n:=p.length+q.length+0) (by omega),cM];simp[zAZ]
 | x::l,q,K,G,Z,h=>by
  simp only[dO] at h;have hi:=yNZ hq p (l++t) q.reverse x [] (K x (by simp)) (λy H=>G y (by simpa using H)) (by simp;omega)
  rw[gU,fQ] at hi;have T:p++(q++x::l)++t=p++(q++ [x])++(l++t):=by simp
  have D:=zWM lt q.reverse x [];simp only[gU,d6] at D;have O:∀y∈u6 lt q.reverse x [],Q y:=λy H=>by
   rcases z5Q lt q.reverse x [] y H with h | h | h;exact G y (by simpa using h);rw[h];exact K x (by simp);cases h
  have ih:=yN0 p t l (u6 lt q.reverse x []) (λy H=>K y (by simp[H])) O (by omega) (by omega);rw[zN (x':=(((p.length+(u6 lt q.reverse x []).length:Nat):Int),p++(u6 lt q.reverse x []++l)++t))];have Y:((p.length+q.length+(x::l).length:Nat):Int)=((p.length+(u6 lt q.reverse x []).length+l.length:Nat):Int):=by simp;omega
  rw[Y,ih];rfl;show zZ _ (p.length:Int) g _ _=_;simp only[zZ,dO,yU (k:=p.length+q.length) (n:=p.length+q.length+(l.length+1)) (by omega),cN,T,hi,zA,zK (k:=p.length+q.length) (by omega),D];simp only[c8];rw[show p.length+q.length+1=p.length+(q.length+1+0) by omega]
theorem yR6 {p m t:List Int} {a b:Int} (H:a=(p.length:Int)) (hb:b=((p.length+m.length:Nat):Int)) (G:∀y∈m,Q y) (h:p.length+m.length<=2000):kV (p++m++t) a b g=some (p++zAZ lt m []++t):=by
 unfold kV;have K:wi (a+1)=((p.length+1:Nat):Int):=by rw[wn (by omega) (by omega)];omega
 rw[K];cases m with
 | nil=>
  have:zE (λ(x:Int×List Int)=>zZ b a g x.1 x.2) (((p.length+1:Nat):Int),p++ []++t)=some (p++ []++t):=zL (by
   show zZ b a g _ _=_;simp only[zZ,hb,d6,kJ (k:=p.length+1) (n:=p.length+0) (by omega),cM])
  rw[this];rfl
 | cons x m=>
  have:=yN0 hq p t m [x] (λy D=>G y (by simp[D])) (λy D=>by rw[g8.1 D];exact G x (by simp)) (by simp) (by simp at h ⊢;omega)
  rw[H,hb];have e:p.length+ [x].length+m.length=p.length+(x::m).length:=by simp;omega
  rw[e] at this;simp only[hJ,iD] at this;rw[this];rfl
end
variable {f:Int->Int->Option Int} (hf:∀x y,f x y=some (sg (key x) (key y)))
include hf
theorem yR7 {p m t:List Int} {a b:Int} (k:a=(p.length:Int)) (hb:b=((p.length+m.length:Nat):Int)) (h:p.length+m.length<=2000):kV (p++m++t) a b f=some (p++zAZ (λa b=>decide (key a<key b)) m []++t):=
 yR6 (Q:=λ_=>True) (λx y _ _=>⟨_,hf x y,by simp only[yAF]⟩) k hb (λ_ _=>trivial) h
omit hf in
theorem z5R:∀(r:List Int) (x:Int) (s:List Int),(∀y∈s,key x<key y)->Flt key (r.reverse++x::s) (u6 (λa b=>decide (key a<key b)) r x s)
 | [],x,s,_=>Flt.refl _
 | y::r,x,s,D=>by
  unfold u6;by_cases h:key x<key y
  ·
   simp only[h,dB,dG];refine Flt.trans ?_ (z5R r x (y::s) (λz G=>by
    rcases dL.1 G with e | e
    · rw[e];exact h
    · exact D z e))
   have:Flt key ([y]++ [x]) ([x]++ [y]):=Flt.swap (by simp;omega)
   have k:=(Flt.refl (key:=key) r.reverse).app (this.app (Flt.refl s));simpa using k
  ·
   simp only[h,dH,dN,cV];exact Flt.refl _
omit hf in
theorem zO3:∀(l q:List Int),Flt key (q++l) (zAZ (λa b=>decide (key a<key b)) l q)
 | [],q=>by simp[zAZ];exact Flt.refl _
 | x::l,q=>by
  have h:=z5R (key:=key) q.reverse x [] (by simp);rw[fQ] at h;have k:=(h.app (Flt.refl l)).trans (zO3 l (u6 (λa b=>decide (key a<key b)) q.reverse x []));simpa[zAZ] using k
omit hf in
theorem zSY (l:List Int):Srt key (zAZ (λa b=>decide (key a<key b)) l []):=by
 have:=zMP (λa b=>decide (key a<key b)) (λa b c k D=>by simp at *;omega) (λa b k=>by simp at *;omega) l [] .nil
 exact this.imp λ{a b} h=>by
  have h:decide (key b<key a)=false:=h;simp at h;exact h
end
open Go.AV
set_option linter.unusedSimpArgs false
set_option linter.unusedVariables false
theorem z8S {body:Int×Int->Option (Stp (Int×Int) Int)} (q:Nat->Bool) (A B:Nat)
  (h:∀k:Nat,A<=k->k<=B->body ((k:Int),(k:Int))=some (.done (k:Int)))
  (G:∀lo hi:Nat,A<=lo->lo<hi->hi<=B->body ((lo:Int),(hi:Int))=some (.next (if q ((lo+hi)/2) then ((lo:Int),(((lo+hi)/2:Nat):Int)) else ((((lo+hi)/2+1:Nat):Int),(hi:Int)))))
  (hm:∀i j,A<=i->i<=j->j<B->q i=true->q j=true):
  ∀(n lo hi:Nat),hi-lo<=n->A<=lo->lo<=hi->hi<=B->∃j:Nat,lo<=j/\j<=hi/\zE body ((lo:Int),(hi:Int))=some (j:Int)/\(∀i,lo<=i->i<j->q i=false)/\(∀i,j<=i->i<hi->q i=true):=by
 intro n
 induction n with
 | zero=>
  intro lo hi h1 H h3 K;have:hi=lo:=by omega
  subst this;exact⟨hi,by omega,by omega,zL (h hi H K),λi a b=>by omega,λi a b=>by omega⟩
 | succ n ih=>
  intro lo hi h1 H h3 K;by_cases e:lo=hi
  ·subst e
   exact⟨lo,by omega,by omega,zL (h lo H K),λi a b=>by omega,λi a b=>by omega⟩
  ·have T:=G lo hi H (by omega) K
   cases O:q ((lo+hi)/2) with
   | true=>
    rw[O,dI rfl] at T;obtain⟨j,j1,j2,Z,j4,j5⟩:=ih lo ((lo+hi)/2) (by omega) H (by omega) (by omega);refine⟨j,j1,by omega,by rw[zN T];exact Z,j4,λi a b=>?_⟩
    by_cases D:i<(lo+hi)/2
    ·exact j5 i a D
    ·exact hm ((lo+hi)/2) i (by omega) (by omega) (by omega) O
   | false=>
    rw[O,dK (by simp)] at T;obtain⟨j,j1,j2,Z,j4,j5⟩:=ih ((lo+hi)/2+1) hi (by omega) (by omega) (by omega) K;refine⟨j,by omega,j2,by rw[zN T];exact Z,λi a b=>?_,j5⟩
    by_cases D:(lo+hi)/2+1<=i
    ·exact j4 i D b
    ·cases Y:q i with
     | false=>rfl
     | true=>
      have:=hm i ((lo+hi)/2) (by omega) (by omega) (by omega) Y;rw[O] at this;cases this
theorem yR8 (t:List Int) (x:Int):∀(U p:List Int) (Y:Int),Y=((p.length+U.length+1:Nat):Int)->p.length+U.length<=2000->zE (λ(q:Int×(List Int))=>kM Y q.1 q.2) ((p.length:Int),p++x::U++t)=some (p++U++x::t)
 | [],p,Y,D,h=>by
  refine zL ?_;show kM Y _ _=_;have:wi (Y-1)=((p.length+0:Nat):Int):=by rw[wn (by rw[D];simp) (by rw[D];simp;simp at h;omega),D];simp
  simp only[kM,this,kJ (k:=p.length) (n:=p.length+0) (by omega),cM];simp
 | y::U,p,Y,D,h=>by
  simp only[dO] at D h;have O:wi (Y-1)=((p.length+(U.length+1):Nat):Int):=by rw[wn (by rw[D];omega) (by rw[D];omega),D];omega
  have G:p++x::y::U++t=p++x::(y::U++t):=by simp
  have H:p++x::y::U++t=(p++ [x])++y::(U++t):=by simp
  have K:wi ((p.length:Int)+1)=((p.length+1:Nat):Int):=zK (by omega);have i1:yD (p++x::y::U++t) ((p.length+1:Nat):Int)=some y:=by rw[H];exact vO (by simp)
  have i2:yD (p++x::y::U++t) (p.length:Int)=some x:=by rw[G];exact vO rfl
  have T:zBD (p++x::y::U++t) (p.length:Int) y=some ((p++ [y])++y::(U++t)):=by rw[G,zAR rfl];simp
  have i3:yD ((p++ [y])++y::(U++t)) ((p.length+1:Nat):Int)=some y:=vO (by simp);have Z:zBD ((p++ [y])++y::(U++t)) ((p.length+1:Nat):Int) x=some ((p++ [y])++x::(U++t)):=zAR (by simp);rw[zN (x':=(((p++ [y]).length:Int),(p++ [y])++x::U++t)),yR8 t x U (p++ [y]) Y (by rw[D];simp;omega) (by simp;omega)]
  simp;show kM Y _ _=_;simp only[kM,O,yU (k:=p.length) (n:=p.length+(U.length+1)) (by omega),cN,K,i1,i2,T,i3,Z,zA];simp
theorem yR9 (t p:List Int) (y:Int):∀(r:List Int),p.length+r.length<=2000->∀t,zE (λ(q:Int×(List Int))=>kO (p.length:Int) q.1 q.2) (((p.length+r.length:Nat):Int),p++r.reverse++y::t)=some (p++y::r.reverse++t)
 | [],h,t=>by
  refine zL ?_;show kO _ _ _=_;simp only[kO,d6,kJ (k:=p.length) (n:=p.length+0) (by omega),cM];simp
 | x::r,h,t=>by
  simp only[dO] at h;have K:((p.length+(x::r).length:Nat):Int)=((p.length+r.length+1:Nat):Int):=by simp;omega
  have D:p++(x::r).reverse++y::t=(p++r.reverse++ [x])++y::t:=by simp
  have H:p++(x::r).reverse++y::t=(p++r.reverse)++x::(y::t):=by simp
  have i1:yD (p++(x::r).reverse++y::t) ((p.length+r.length:Nat):Int)=some x:=by rw[H];exact vO (by simp)
  have i2:yD (p++(x::r).reverse++y::t) ((p.length+r.length+1:Nat):Int)=some y:=by rw[D];exact vO (by simp;omega)
  have O:zBD (p++(x::r).reverse++y::t) ((p.length+r.length+1:Nat):Int) x=some ((p++r.reverse++ [x])++x::t):=by rw[D];exact zAR (by simp;omega)
  have G:(p++r.reverse++ [x])++x::t=(p++r.reverse)++x::(x::t):=by simp
  have i3:yD ((p++r.reverse++ [x])++x::t) ((p.length+r.length:Nat):Int)=some x:=by rw[G];exact vO (by simp)
  have T:zBD ((p++r.reverse++ [x])++x::t) ((p.length+r.length:Nat):Int) y=some ((p++r.reverse)++y::(x::t)):=by rw[G];exact zAR (by simp)
  rw[K,zN (x':=(((p.length+r.length:Nat):Int),p++r.reverse++y::(x::t))),yR9 t p y r (by omega) (x::t)];simp;show kO _ _ _=_;simp only[kO,yU (k:=p.length) (n:=p.length+r.length+1) (by omega),cN,yHV (k:=p.length+r.length) (by omega),i1,i2,O,i3,T,zA]
theorem zGK {l:List Int} {x:Int} {n:Nat} (h:x∈l.take n):∃i,i<n/\i<l.length/\nth l i=x:=by obtain⟨i,hi,e⟩:=fA h;simp at hi;refine⟨i,by omega,by omega,?_⟩;rw[zBP (by omega)];simpa using e
theorem zI5 {l:List Int} {x:Int} {n:Nat} (h:x∈l.drop n):∃i,n<=i/\i<l.length/\nth l i=x:=by obtain⟨i,hi,e⟩:=fA h;simp at hi;refine⟨n+i,by omega,by omega,?_⟩;rw[zBP (by omega)];simpa using e
section
variable {key:Int->Int} {f:Int->Int->Option Int} (hf:∀x y,f x y=some (sg (key x) (key y)))
include hf
theorem yUP {Y:List Int->Int->Int->Int->(Int->Int->Option Int)->Option (List Int)} {p R s:List Int} {x:Int} {a m b:Int} (Z:Srt key R) (ha:a=(p.length:Int)) (hm:m=((p.length+1:Nat):Int)) (hb:b=((p.length+1+R.length:Nat):Int)) (h:p.length+1+R.length<=2000):
  ∃M,yS Y (p++ [x]++R++s) a m b f=some (p++M++s)/\Srt key M/\Flt key ([x]++R) M:=by
 have hd:∀i,i<R.length->yD (p++ [x]++R++s) ((p.length+1+i:Nat):Int)=some (nth R i):=λi hi=>by
  rw[zU (by simp;omega),c8 (p++ [x]),yAH (j:=i) (by simp),yAG hi]
 have hx:yD (p++ [x]++R++s) (p.length:Int)=some x:=by
  rw[show p++ [x]++R++s=p++x::(R++s) by simp];exact vO rfl
 obtain⟨j,j1,j2,j3,j4,j5⟩:=z8S (body:=λ(q:Int×Int)=>kL (p++ [x]++R++s) a f q.1 q.2) (λk=>!decide (key (nth R (k-(p.length+1)))<key x)) (p.length+1) (p.length+1+R.length)
  (λk _ _=>by
   show kL _ a f _ _=_;simp only[kL,kJ (dA _),cM])
  (λlo hi K D h3=>by
   show kL _ a f _ _=_;have e:(lo+hi)/2=p.length+1+((lo+hi)/2-(p.length+1)):=by omega
   have T:yD (p++ [x]++R++s) (((lo+hi)/2:Nat):Int)=some (nth R ((lo+hi)/2-(p.length+1))):=by
    have:=hd ((lo+hi)/2-(p.length+1)) (by omega);rw[<-e] at this;exact this
   simp only[kL,yU D,cN,zQE (lo:=lo) (hi:=hi) (by omega),T,ha,hx,zA,hf,yAF];by_cases hc:key (nth R ((lo+hi)/2-(p.length+1)))<key x
   ·simp only[hc,dB,cN,zA,dD,dN,cV,zK (k:=(lo+hi)/2) (by omega)]
   ·simp only[hc,dH,cM,zA,dQ,dG])
  (λi k K D h3 hq=>by
   simp only[fS,c9] at hq ⊢;have:=zK1 Z (i:=i-(p.length+1)) (j:=k-(p.length+1)) (by omega) (by omega);omega) (R.length) (p.length+1) (p.length+1+R.length) (by omega) (by omega) (by omega) (by omega)
 refine⟨R.take (j-(p.length+1))++ [x]++R.drop (j-(p.length+1)),?_,?_,?_⟩
 ·unfold yS
  have e1:decide (wi (m-a)=1)=true:=by rw[wn (by omega) (by omega)];simp;omega
  rw[e1,cN,hm,hb,j3,zA];have:=yR8 (R.drop (j-(p.length+1))++s) x (R.take (j-(p.length+1))) p (j:Int) (by simp;omega) (by simp;omega)
  rw[ha];rw[show p++x::R.take (j-(p.length+1))++(R.drop (j-(p.length+1))++s)=p++ [x]++R++s by
   rw[<-c8,c8 p,fN,c8 p,fN,et];simp] at this
  rw[this];simp
 ·have O:∀y∈R.take (j-(p.length+1)),key y<key x:=λy hy=>by
   obtain⟨i,i1,i2,rfl⟩:=zGK hy;have:=j4 (p.length+1+i) (by omega) (by omega);simpa using this
  have hD:∀y∈R.drop (j-(p.length+1)),key x<=key y:=λy hy=>by
   obtain⟨i,i1,i2,rfl⟩:=zI5 hy;have:=j5 (p.length+1+i) (by omega) (by omega);simpa using this
  have G:=Z;rw[<-et (j-(p.length+1)) R] at G;obtain⟨r1,r2,r3⟩:=zI4.1 G;refine zI4.2 ⟨zI4.2 ⟨r1,List.pairwise_singleton _ _,λy hy z H=>?_⟩,r2,λy hy z H=>?_⟩
  ·simp at H;rw[H];have:=O y hy;omega
  ·rcases eQ.1 hy with hy | hy
   ·exact r3 y hy z H
   ·simp at hy;rw[hy];exact hD z H
 ·have O:∀y∈R.take (j-(p.length+1)),key y<key x:=λy hy=>by
   obtain⟨i,i1,i2,rfl⟩:=zGK hy;have:=j4 (p.length+1+i) (by omega) (by omega);simpa using this
  have K:Flt key ([x]++R.take (j-(p.length+1))) (R.take (j-(p.length+1))++ [x]):=Flt.swap λu hu v hv=>by
   simp at hu;rw[hu];have:=O v hv;omega
  have D:=K.app (Flt.refl (R.drop (j-(p.length+1))));rw[c8,et] at D;exact D
theorem yUQ {Z:List Int->Int->Int->Int->(Int->Int->Option Int)->Option (List Int)} {p L s:List Int} {y:Int} {a m b:Int} (hL:Srt key L) (G:2<=L.length) (ha:a=(p.length:Int)) (T:m=((p.length+L.length:Nat):Int)) (hb:b=((p.length+L.length+1:Nat):Int)) (h:p.length+L.length+1<=2000):
  ∃M,yS Z (p++L++ [y]++s) a m b f=some (p++M++s)/\Srt key M/\Flt key (L++ [y]) M:=by
 have hd:∀i,i<L.length->yD (p++L++ [y]++s) ((p.length+i:Nat):Int)=some (nth L i):=λi hi=>by
  rw[zU (by simp;omega),c8,c8,yAH (j:=i) rfl,yAG hi]
 have hy:yD (p++L++ [y]++s) ((p.length+L.length:Nat):Int)=some y:=by
  rw[show p++L++ [y]++s=(p++L)++y::s by simp];exact vO (by simp)
 obtain⟨j,j1,j2,j3,j4,j5⟩:=z8S (body:=λ(q:Int×Int)=>kN (p++L++ [y]++s) m f q.1 q.2) (λk=>decide (key y<key (nth L (k-p.length)))) p.length (p.length+L.length)
  (λk _ _=>by
   show kN _ m f _ _=_;simp only[kN,kJ (dA _),cM])
  (λlo hi K G h3=>by
   show kN _ m f _ _=_;have e:(lo+hi)/2=p.length+((lo+hi)/2-p.length):=by omega
   have O:yD (p++L++ [y]++s) (((lo+hi)/2:Nat):Int)=some (nth L ((lo+hi)/2-p.length)):=by
    have:=hd ((lo+hi)/2-p.length) (by omega);rw[<-e] at this;exact this
   simp only[kN,yU G,cN,zQE (lo:=lo) (hi:=hi) (by omega),O,T,hy,zA,hf,yAF];by_cases hc:key y<key (nth L ((lo+hi)/2-p.length))
   ·simp only[hc,dB,dD,cM,zA,dG]
   ·simp only[hc,dH,dQ,cN,zA,dN,cV,zK (k:=(lo+hi)/2) (by omega)])
  (λi k K G h3 hq=>by
   simp only[cZ] at hq ⊢;have:=zK1 hL (i:=i-p.length) (j:=k-p.length) (by omega) (by omega);omega) L.length p.length (p.length+L.length) (by omega) (by omega) (by omega) (by omega)
 have hT:∀z∈L.take (j-p.length),key z<=key y:=λz Y=>by
  obtain⟨i,i1,i2,rfl⟩:=zGK Y;have:=j4 (p.length+i) (by omega) (by omega);simpa using this
 have hD:∀z∈L.drop (j-p.length),key y<key z:=λz Y=>by
  obtain⟨i,i1,i2,rfl⟩:=zI5 Y;have:=j5 (p.length+i) (by omega) (by omega);simpa using this
 refine⟨L.take (j-p.length)++([y]++L.drop (j-p.length)),?_,?_,?_⟩
 ·unfold yS
  have e1:decide (wi (m-a)=1)=false:=by rw[wn (by omega) (by omega)];simp;omega
  have e2:decide (wi (b-m)=1)=true:=by rw[wn (by omega) (by omega)];simp;omega
  rw[e1,cM,e2,cN,ha,T];rw[T] at j3;rw[j3,zA];have:=yR9 s (p++L.take (j-p.length)) y (L.drop (j-p.length)).reverse (by simp;omega) s
  rw[fQ] at this;have e3:((p++L.take (j-p.length)).length:Int)=(j:Int):=by simp;omega
  have e4:(((p++L.take (j-p.length)).length+(L.drop (j-p.length)).reverse.length:Nat):Int)=((p.length+L.length:Nat):Int):=by simp;omega
  rw[e3,e4] at this;rw[show p++L.take (j-p.length)++L.drop (j-p.length)++y::s=p++L++ [y]++s by rw[c8 p,et];simp] at this
  rw[this];simp
 ·have H:=hL
  rw[<-et (j-p.length) L] at H;obtain⟨r1,r2,r3⟩:=zI4.1 H;refine zI4.2 ⟨r1,zI4.2 ⟨List.pairwise_singleton _ _,r2,λu D v hv=>?_⟩,λu D v hv=>?_⟩
  ·simp at D;rw[D];have:=hD v hv;omega
  ·rcases eQ.1 hv with hv | hv
   ·simp at hv;rw[hv];exact hT u D
   ·exact r3 u D v hv
 ·have K:Flt key (L.drop (j-p.length)++ [y]) ([y]++L.drop (j-p.length)):=Flt.swap λu D v hv=>by
   simp at hv;rw[hv];have:=hD u D;omega
  have G:=(Flt.refl (key:=key) (L.take (j-p.length))).app K;rw[<-c8,et] at G;exact G
end
open Go.AV
set_option linter.unusedSimpArgs false
set_option linter.unusedVariables false
section
variable {key:Int->Int} {f:Int->Int->Option Int} (hf:∀x y,f x y=some (sg (key x) (key y)))
include hf
theorem yUR {aj:List Int->Int->Int->Int->(Int->Int->Option Int)->Option (List Int)} {p L R s:List Int} {a m b:Int} (hL:Srt key L) (hR:Srt key R) (l2:2<=L.length) (r2:2<=R.length) (ha:a=(p.length:Int)) (hm:m=((p.length+L.length:Nat):Int)) (hb:b=((p.length+L.length+R.length:Nat):Int)) (h:p.length+L.length+R.length<=2000)
  (ih:∀(p L' R' s:List Int) (a m b:Int),2*(L'.length+R'.length)<=L.length+R.length+1->0<L'.length->0<R'.length->Srt key L'->Srt key R'->a=(p.length:Int)->m=((p.length+L'.length:Nat):Int)->b=((p.length+L'.length+R'.length:Nat):Int)->p.length+L'.length+R'.length<=2000->
   ∃M,aj (p++L'++R'++s) a m b f=some (p++M++s)/\Srt key M/\Flt key (L'++R') M):
  ∃M,yS aj (p++L++R++s) a m b f=some (p++M++s)/\Srt key M/\Flt key (L++R) M:=by
 obtain⟨A,hA⟩:∃A,A=p.length:=⟨_,rfl⟩;obtain⟨K,hK⟩:∃K,K=L.length:=⟨_,rfl⟩;obtain⟨N,hN⟩:∃N,N=R.length:=⟨_,rfl⟩;obtain⟨D,bb⟩:∃D,D=(A+(A+K+N))/2:=⟨_,rfl⟩;have br:∀i,i<K->yD (p++L++R++s) ((A+i:Nat):Int)=some (nth L i):=λi hi=>by
  rw[zU (by simp;omega),c8,c8,yAH (j:=i) (by omega),yAG (by omega)]
 have bt:∀i,i<N->yD (p++L++R++s) ((A+K+i:Nat):Int)=some (nth R i):=λi hi=>by
  rw[zU (by simp;omega),c8 (p++L),yAH (j:=i) (by simp;omega),yAG (by omega)]
 obtain⟨s0,r0,h0,bw,cv,ct,cu,ad⟩:∃s0 r0:Nat,(cond (decide ((D:Int)<m)) (some (wi (wi ((D:Int)+m)-b),(D:Int))) (some (a,m)):Option (Int×Int))=some ((s0:Int),(r0:Int))/\s0<=r0/\A<=s0/\r0<=A+K/\r0<=D/\((s0=A/\r0=A+K/\A+K<=D)\/(D=s0+N/\r0=D/\D<A+K)):=by
  by_cases hc:D<A+K
  ·refine⟨D+(A+K)-(A+K+N),D,?_,by omega,by omega,by omega,by omega,.inr ⟨by omega,rfl,by omega⟩⟩
   have:decide ((D:Int)<m)=true:=by simp;omega
   rw[this,cN,wn (n:=(D:Int)+m) (by omega) (by omega),wn (by omega) (by omega)];congr 2;omega
  ·refine⟨A,A+K,?_,by omega,by omega,by omega,by omega,.inl ⟨rfl,rfl,by omega⟩⟩
   have:decide ((D:Int)<m)=false:=by simp;omega
   rw[this,cM,ha,hm,hA,hK]
 have ag:wi ((wu (wi (a+b)))/2 ^ 1)=(D:Int):=by
  rw[ha,hb,<-hA,<-hK,<-hN,zQE (lo:=A) (hi:=A+K+N) (by omega),bb]
 have aq:∀c,s0<=c->c<r0->A<=c/\c-A<K/\A+K<=D+(A+K)-1-c/\D+(A+K)-1-c-(A+K)<N:=λc Y h2=>by
  rcases ad with h3 | h3<;>omega
 obtain⟨j,j1,j2,j3,j4,j5⟩:=z8S (body:=λ(q:Int×Int)=>kP (p++L++R++s) a b m f q.1 q.2) (λc=>decide (key (nth R (D+(A+K)-1-c-(A+K)))<key (nth L (c-A)))) s0 r0
  (λk _ _=>by
   show kP _ a b m f _ _=_;simp only[kP,kJ (dA _),cM])
  (λlo hi Y h2 h3=>by
   show kP _ a b m f _ _=_;obtain⟨c1,c2,c3,c4⟩:=aq ((lo+hi)/2) (by omega) (by omega);have i1:yD (p++L++R++s) (((lo+hi)/2:Nat):Int)=some (nth L ((lo+hi)/2-A)):=by
    have:=br ((lo+hi)/2-A) c2;rw[show A+((lo+hi)/2-A)=(lo+hi)/2 by omega] at this;exact this
   have i2:yD (p++L++R++s) ((D+(A+K)-1-(lo+hi)/2:Nat):Int)=some (nth R (D+(A+K)-1-(lo+hi)/2-(A+K))):=by
    have:=bt (D+(A+K)-1-(lo+hi)/2-(A+K)) c4;rw[show A+K+(D+(A+K)-1-(lo+hi)/2-(A+K))=D+(A+K)-1-(lo+hi)/2 by omega] at this;exact this
   have e1:wi (wi (wi ((D:Int)+m)-1)-(((lo+hi)/2:Nat):Int))=((D+(A+K)-1-(lo+hi)/2:Nat):Int):=by
    rw[wn (n:=(D:Int)+m) (by omega) (by omega),wn (n:=(D:Int)+m-1) (by omega) (by omega),wn (by omega) (by omega)];omega
   simp only[kP,yU h2,cN,ag,zQE (lo:=lo) (hi:=hi) (by omega),e1,i1,i2,zA,hf,yAF];by_cases hc:key (nth R (D+(A+K)-1-(lo+hi)/2-(A+K)))<key (nth L ((lo+hi)/2-A))
   ·simp only[hc,dB,dD,cM,zA,dG]
   ·simp only[hc,dH,dQ,cN,zA,dN,cV,zK (k:=(lo+hi)/2) (by omega)])
  (λi k Y h2 h3 hq=>by
   simp only[cZ] at hq ⊢;obtain⟨c1,c2,c3,c4⟩:=aq i Y (by omega);obtain⟨d1,d2,d3,d4⟩:=aq k (by omega) h3;have q1:=zK1 hL (i:=i-A) (j:=k-A) (by omega) (by omega);have q2:=zK1 hR (i:=D+(A+K)-1-k-(A+K)) (j:=D+(A+K)-1-i-(A+K)) (by omega) (by omega);omega) (r0-s0) s0 r0 (by omega) (by omega) bw (by omega)
 obtain⟨L1,am⟩:∃x,x=L.take (j-A):=⟨_,rfl⟩;obtain⟨H,an⟩:∃x,x=L.drop (j-A):=⟨_,rfl⟩;obtain⟨Z,ao⟩:∃x,x=R.take (D-j):=⟨_,rfl⟩;obtain⟨O,ap⟩:∃x,x=R.drop (D-j):=⟨_,rfl⟩;have eL:L=L1++H:=by rw[am,an,et]
 have eR:R=Z++O:=by rw[ao,ap,et]
 have dc:L1.length=j-A:=by rw[am];simp;omega
 have dg:Z.length=D-j:=by rw[ao];simp;rcases ad with h3 | h3<;>omega
 have de:H.length=A+K-j:=by rw[an];simp;omega
 have dh:O.length=N-(D-j):=by rw[ap];simp;omega
 have cn:j<=D:=by omega
 have cm:D-j<=N:=by rcases ad with h3 | h3<;>omega
 have ba:∀x∈Z,∀y∈H,key x<key y:=λx T y hy=>by
  rw[ao] at T;rw[an] at hy;obtain⟨i,i1,i2,rfl⟩:=zGK T;obtain⟨k,k1,k2,rfl⟩:=zI5 hy;have bu:j<r0:=by rcases ad with h4 | h4<;>omega
  have:=j5 j (dA _) bu;simp only[cZ] at this;have q1:=zK1 hL (i:=j-A) (j:=k) (by omega) (by omega);have q2:=zK1 hR (i:=i) (j:=D+(A+K)-1-j-(A+K)) (by omega) (by omega);omega
 have bv:∀x∈L1,∀y∈O,key x<=key y:=λx T y hy=>by
  rw[am] at T;rw[ap] at hy;obtain⟨i,i1,i2,rfl⟩:=zGK T;obtain⟨k,k1,k2,rfl⟩:=zI5 hy;have cp:s0<j:=by rcases ad with h4 | h4<;>omega
  have:=j4 (j-1) (by omega) (by omega);simp only[c9] at this;have q1:=zK1 hL (i:=i) (j:=j-1-A) (by omega) (by omega);have q2:=zK1 hR (i:=D+(A+K)-1-(j-1)-(A+K)) (j:=k) (by omega) (by omega);omega
 rw[eL] at hL;rw[eR] at hR;obtain⟨bd,be,bm⟩:=zI4.1 hL;obtain⟨bf,bg,bp⟩:=zI4.1 hR;have az:wi (wi ((D:Int)+m)-(j:Int))=((D+(A+K)-j:Nat):Int):=by
  rw[wn (n:=(D:Int)+m) (by omega) (by omega),wn (by omega) (by omega)];omega
 unfold yS;have e1:decide (wi (m-a)=1)=false:=by rw[wn (by omega) (by omega)];simp;omega
 have e2:decide (wi (b-m)=1)=false:=by rw[wn (by omega) (by omega)];simp;omega
 simp only[e1,cM,e2,ag,h0,zA,j3,az,zO];have bc:(cond (decide ((j:Int)<m)&&decide (m<((D+(A+K)-j:Nat):Int))) ((xQ (p++L++R++s) (j:Int) m ((D+(A+K)-j:Nat):Int) f).bind λbh=>some bh) (some (p++L++R++s)):Option (List Int))=some (p++L1++Z++(H++O++s)):=by
  by_cases hc:j<A+K/\A+K<D+(A+K)-j
  ·have G:(decide ((j:Int)<m)&&decide (m<((D+(A+K)-j:Nat):Int)))=true:=by simp;omega
   have hr:=yPU (f:=f) (P:=p++L1) (U:=H) (V:=Z) (S:=O++s) (a:=(j:Int)) (m:=m) (b:=((D+(A+K)-j:Nat):Int)) (by simp;omega) (by simp;omega) (by simp;omega) (by omega) (by omega) (by simp;omega)
   rw[show p++L1++H++Z++(O++s)=p++L++R++s by rw[eL,eR];simp] at hr
   rw[G,cN,hr];simp
  ·have G:(decide ((j:Int)<m)&&decide (m<((D+(A+K)-j:Nat):Int)))=false:=by
    simp only[eD,c9];by_cases Y:j<A+K
    ·right;omega
    ·left;omega
   rw[G,cM];by_cases Y:j<A+K
   ·have:Z= []:=cP (by omega)
    rw[eL,eR,this];simp
   ·have:H= []:=cP (by omega)
    rw[eL,eR,this];simp
 rw[bc,zA];obtain⟨M1,bn,bx,al⟩:∃M1,(cond (decide (a<(j:Int))&&decide ((j:Int)<(D:Int))) ((aj (p++L1++Z++(H++O++s)) a (j:Int) (D:Int) f).bind λbi=>some bi) (some (p++L1++Z++(H++O++s))):Option (List Int))=some (p++M1++(H++O++s))/\Srt key M1/\Flt key (L1++Z) M1:=by
  by_cases hc:A<j/\j<D
  ·have G:(decide (a<(j:Int))&&decide ((j:Int)<(D:Int)))=true:=by simp;omega
   obtain⟨M,Y,h2,h3⟩:=ih p L1 Z (H++O++s) a (j:Int) (D:Int) (by omega) (by omega) (by omega) bd bf ha (by omega) (by omega) (by omega);exact⟨M,by rw[G,cN,Y];rfl,h2,h3⟩
  ·have G:(decide (a<(j:Int))&&decide ((j:Int)<(D:Int)))=false:=by
    simp only[eD,c9];by_cases Y:A<j
    ·right;omega
    ·left;omega
   refine⟨L1++Z,by rw[G,cM];simp,?_,Flt.refl _⟩
   by_cases Y:A<j
   ·have:Z= []:=cP (by omega)
    rw[this];simpa using bd
   ·have:L1= []:=cP (by omega)
    rw[this];simpa using bf
 rw[bn,zA];have df:M1.length=D-A:=by rw[<-al.len];simp;omega
 obtain⟨M2,bo,bz,aw⟩:∃M2,(cond (decide ((D:Int)<((D+(A+K)-j:Nat):Int))&&decide (((D+(A+K)-j:Nat):Int)<b)) ((aj (p++M1++(H++O++s)) (D:Int) ((D+(A+K)-j:Nat):Int) b f).bind λbj=>some bj) (some (p++M1++(H++O++s))):Option (List Int))=some (p++(M1++M2)++s)/\Srt key M2/\Flt key (H++O) M2:=by
  by_cases hc:D<D+(A+K)-j/\D+(A+K)-j<A+K+N
  ·have G:(decide ((D:Int)<((D+(A+K)-j:Nat):Int))&&decide (((D+(A+K)-j:Nat):Int)<b))=true:=by simp;omega
   obtain⟨M,Y,h2,h3⟩:=ih (p++M1) H O s (D:Int) ((D+(A+K)-j:Nat):Int) b (by omega) (by omega) (by omega) be bg (by simp;omega) (by simp;omega) (by simp;omega) (by simp;omega)
   rw[show p++M1++H++O++s=p++M1++(H++O++s) by simp] at Y;exact⟨M,by rw[G,cN,Y];simp,h2,h3⟩
  ·have G:(decide ((D:Int)<((D+(A+K)-j:Nat):Int))&&decide (((D+(A+K)-j:Nat):Int)<b))=false:=by
    simp only[eD,c9];by_cases Y:D<D+(A+K)-j
    ·right;omega
    ·left;omega
   refine⟨H++O,by rw[G,cM];simp,?_,Flt.refl _⟩
   by_cases Y:D<D+(A+K)-j
   ·have:O= []:=cP (by omega)
    rw[this];simpa using be
   ·have:H= []:=cP (by omega)
    rw[this];simpa using bg
 refine⟨M1++M2,bo,zI4.2 ⟨bx,bz,λx T y hy=>?_⟩,?_⟩
 ·have T:=al.mem.2 T
  have hy:=aw.mem.2 hy;rcases eQ.1 T with T | T<;>rcases eQ.1 hy with hy | hy
  ·exact bm x T y hy
  ·exact bv x T y hy
  ·have:=ba x T y hy;omega
  ·exact bp x T y hy
 ·have Y:Flt key (H++Z) (Z++H):=Flt.swap λx T y hy=>by have:=ba y hy x T;omega
  have h2:=(Flt.refl (key:=key) L1).app (Y.app (Flt.refl O));have h3:=al.app aw;rw[eL,eR];refine Flt.trans ?_ h3;simpa using h2
theorem yHW:∀(n:Nat) (p L R s:List Int) (a m b:Int),L.length+R.length<=2 ^ n->0<L.length->0<R.length->Srt key L->Srt key R->a=(p.length:Int)->m=((p.length+L.length:Nat):Int)->b=((p.length+L.length+R.length:Nat):Int)->p.length+L.length+R.length<=2000->
  ∃M,kR (n+1) (p++L++R++s) a m b f=some (p++M++s)/\Srt key M/\Flt key (L++R) M:=by
 intro n
 induction n with
 | zero=>intro p L R s a m b h;omega
 | succ n ih=>
  intro p L R s a m b Y l1 r1 G H k D hb h;show ∃M,yS (kR (n+1)) (p++L++R++s) a m b f=_/\_;by_cases Z:L.length=1
  ·obtain⟨x,rfl⟩:=List.length_eq_one_iff.1 Z
   exact yUP hf H k (by simpa using D) (by simpa using hb) (by simpa using h)
  ·by_cases hr:R.length=1
   ·obtain⟨y,rfl⟩:=List.length_eq_one_iff.1 hr
    exact yUQ hf G (by omega) k D (by simpa using hb) (by simpa using h)
   ·refine yUR hf G H (by omega) (by omega) k D hb h λp' K R' s' O m' T h1=>ih p' K R' s' O m' T ?_
    rw[Nat.pow_succ] at Y;omega
end
open Go.AV
set_option linter.unusedSimpArgs false
set_option linter.unusedVariables false
section
variable {key:Int->Int} {f:Int->Int->Option Int} (hf:∀x y,f x y=some (sg (key x) (key y)))
theorem k59:(2000:Nat)<=2 ^ 59:=by decide
def OkB (key:Int->Int) (bs:Nat) (Bs:List (List Int)):Prop:= ∀B∈Bs,B.length=bs/\Srt key B
include hf
theorem yUS:∀(n:Nat) (P rest:List Int) (Nn:Int),rest.length<=n->Nn=((P.length+rest.length:Nat):Int)->P.length+rest.length<=2000->
  ∃Bs G,zE (λ(x:Int×Int×(List Int))=>yL Nn f x.1 x.2.1 x.2.2) ((P.length:Int),((P.length+20:Nat):Int),P++rest)=some (((P.length+(Bs.flatten).length:Nat):Int),P++Bs.flatten++G)/\OkB key 20 Bs/\G.length<20/\Flt key rest (Bs.flatten++G):=by
 intro n
 induction n with
 | zero=>
  intro P rest Nn hn T h;have:rest= []:=cP (by omega);subst this;refine⟨[],[],zL ?_,(λB D=>by cases D),by simp,Flt.refl _⟩;show yL Nn f _ _ _=_;have H:decide (((P.length+20:Nat):Int)<=Nn)=false:=by simp at T ⊢;omega
  simp only[yL,H,cM];simp
 | succ n ih=>
  intro P rest Nn hn T h;by_cases hc:20<=rest.length
  ·have Y:=yR7 hf (p:=P) (m:=rest.take 20) (t:=rest.drop 20) (a:=(P.length:Int)) (b:=((P.length+20:Nat):Int)) rfl (by simp;omega) (by simp;omega)
   rw[c8 P,et] at Y;have k:=zO3 (key:=key) (rest.take 20) [];rw[dP] at k;obtain⟨B,D⟩:∃B,B=zAZ (λa b=>decide (key a<key b)) (rest.take 20) []:=⟨_,rfl⟩;rw[<-D] at Y k;have K:B.length=20:=by rw[<-k.len];simp;omega
   have O:Srt key B:=by rw[D];exact zSY _
   obtain⟨Bs,G,h1,h2,h3,h4⟩:=ih (P++B) (rest.drop 20) Nn (by simp;omega) (by rw[T];simp;omega) (by simp;omega)
   refine⟨B::Bs,G,?_,?_,h3,?_⟩
   ·rw[zN (x':=(((P++B).length:Int),(((P++B).length+20:Nat):Int),(P++B)++rest.drop 20)),h1]
    ·simp[fX]
    ·show yL Nn f _ _ _=_
     have H:decide (((P.length+20:Nat):Int)<=Nn)=true:=by simp;omega
     have Z:wi (((P.length+20:Nat):Int)+20)=(((P++B).length+20:Nat):Int):=by rw[wn (by omega) (by omega)];simp;omega
     have e3:((P.length+20:Nat):Int)=((P++B).length:Int):=by simp;omega
     simp only[yL,H,cN,Y,zA,Z];rw[e3]
   ·intro C hC
    rcases dL.1 hC with e | e
    ·rw[e];exact⟨K,O⟩
    ·exact h2 C e
   ·have:=k.app h4
    rw[et] at this;simpa using this
  ·refine⟨[],rest,zL ?_,(λB D=>by cases D),by omega,Flt.refl _⟩
   show yL Nn f _ _ _=_;have H:decide (((P.length+20:Nat):Int)<=Nn)=false:=by simp;omega
   simp only[yL,H,cM];simp
theorem ySA (bs:Nat) (Y:0<bs) (Z:bs<=2000) (T:List Int) (hT:T.length<bs):∀(Bs:List (List Int)) (P:List Int) (Nn:Int),OkB key bs Bs->Nn=((P.length+Bs.flatten.length+T.length:Nat):Int)->P.length+Bs.flatten.length+T.length<=2000->
  ∃Cs Ds,zE (λ(x:Int×Int×(List Int))=>yN Nn (bs:Int) f x.1 x.2.1 x.2.2) ((P.length:Int),((P.length+2*bs:Nat):Int),P++Bs.flatten++T)=some (((P.length+Cs.flatten.length:Nat):Int),P++Cs.flatten++Ds.flatten++T)/\OkB key (2*bs) Cs/\OkB key bs Ds/\Ds.length<=1/\Flt key Bs.flatten (Cs.flatten++Ds.flatten)
 | [],P,Nn,D,G,h=>by
  refine⟨[],[],zL ?_,(λB k=>by cases k),(λB k=>by cases k),by simp,Flt.refl _⟩;show yN Nn _ f _ _ _=_;have H:decide (((P.length+2*bs:Nat):Int)<=Nn)=false:=by simp at G ⊢;omega
  simp only[yN,H,cM];simp
 | [B],P,Nn,D,G,h=>by
  have k:=(D B (by simp)).1;refine⟨[],[B],zL ?_,(λB k=>by cases k),D,by simp,by simpa using Flt.refl B⟩;show yN Nn _ f _ _ _=_;have H:decide (((P.length+2*bs:Nat):Int)<=Nn)=false:=by simp at G ⊢;omega
  simp only[yN,H,cM];simp
 | K::O::Bs,P,Nn,D,G,h=>by
  obtain⟨l1,s1⟩:=D K (by simp);obtain⟨l2,s2⟩:=D O (by simp);simp only[gQ,cU] at G h;obtain⟨M,m1,m2,m3⟩:=yHW hf 59 P K O (Bs.flatten++T) (P.length:Int) ((P.length+bs:Nat):Int) ((P.length+2*bs:Nat):Int) (d8 (by omega) k59) (by omega) (by omega) s1 s2 rfl (by rw[l1]) (by omega) (by omega);have hM:M.length=2*bs:=by rw[<-m3.len];simp;omega
  obtain⟨Cs,Ds,h1,h2,h3,h4,h5⟩:=ySA bs Y Z T hT Bs (P++M) Nn (λB k=>D B (by simp[k])) (by rw[G,cU];omega) (by rw[cU];omega)
  refine⟨M::Cs,Ds,?_,?_,h3,h4,?_⟩
  ·rw[zN (x':=(((P++M).length:Int),(((P++M).length+2*bs:Nat):Int),(P++M)++Bs.flatten++T)),h1]
   ·simp[fX]
   ·show yN Nn _ f _ _ _=_
    have H:decide (((P.length+2*bs:Nat):Int)<=Nn)=true:=by simp;omega
    have e0:wi ((P.length:Int)+(bs:Int))=((P.length+bs:Nat):Int):=by rw[wn (by omega) (by omega)];omega
    have e2:wi (2*(bs:Int))=((2*bs:Nat):Int):=by rw[wn (by omega) (by omega)];omega
    have e3:wi (((P.length+2*bs:Nat):Int)+((2*bs:Nat):Int))=(((P++M).length+2*bs:Nat):Int):=by rw[wn (by omega) (by omega)];simp;omega
    have e4:P++(K::O::Bs).flatten++T=P++K++O++(Bs.flatten++T):=by simp
    have e5:((P.length+2*bs:Nat):Int)=((P++M).length:Int):=by simp;omega
    simp only[yN,H,cN,e0,e2,e3,e4,m1,zA];rw[e5];simp
  ·intro C hC
   rcases dL.1 hC with e | e
   ·rw[e];exact⟨hM,m2⟩
   ·exact h2 C e
  ·have:=m3.app h5
   simpa using this
theorem yUT (Nn:Int) (N:Nat) (H:Nn=(N:Int)) (ba:N<=2000):∀(n bs:Nat) (Bs:List (List Int)) (T:List Int),N-bs<=n->0<bs->bs<=4000->OkB key bs Bs->Srt key T->T.length<bs->Bs.flatten.length+T.length=N->
  ∃r,zE (λ(x:Int×(List Int))=>yW Nn f x.1 x.2) ((bs:Int),Bs.flatten++T)=some r/\Srt key r/\Flt key (Bs.flatten++T) r:=by
 have Y:∀(bs:Nat) (Bs:List (List Int)) (T:List Int),N<=bs->0<bs->OkB key bs Bs->Srt key T->T.length<bs->Bs.flatten.length+T.length=N->
  ∃r,zE (λ(x:Int×(List Int))=>yW Nn f x.1 x.2) ((bs:Int),Bs.flatten++T)=some r/\Srt key r/\Flt key (Bs.flatten++T) r:=by
  intro bs Bs T h1 Z K G h5 O;refine⟨Bs.flatten++T,zL ?_,?_,Flt.refl _⟩
  ·show yW Nn f _ _=_
   simp only[yW,H,kJ h1,cM]
  ·cases Bs with
   | nil=>simpa using G
   | cons B Bs=>
    have hB:=K B (by simp);simp only[gQ,cU] at O;have e1:Bs.flatten= []:=cP (by omega);have e2:T= []:=cP (by omega);simp only[gQ,e1,e2,eA];exact hB.2
 intro n
 induction n with
 | zero=>intro bs Bs T h1 Z ak K G h5 O;exact Y bs Bs T (by omega) Z K G h5 O
 | succ n ih=>
  intro bs Bs T h1 Z ak K G h5 O;by_cases hc:N<=bs
  ·exact Y bs Bs T hc Z K G h5 O
  ·obtain⟨Cs,Ds,c1,c2,c3,c4,c5⟩:=ySA hf bs Z (by omega) T h5 Bs [] Nn K (by rw[H,d6];omega) (by rw[d6];omega)
   simp only[d6,eE,dP] at c1;have ab:Cs.flatten.length+Ds.flatten.length=Bs.flatten.length:=by rw[c5.len,cU]
   obtain⟨h,t1,t2,t3,t4⟩:∃h,(cond (decide ((wi (((Cs.flatten.length:Nat):Int)+(bs:Int)))<Nn)) ((kR 60 (Cs.flatten++Ds.flatten++T) ((Cs.flatten.length:Nat):Int) (wi (((Cs.flatten.length:Nat):Int)+(bs:Int))) Nn f).bind λan=>some an) (some (Cs.flatten++Ds.flatten++T)):Option (List Int))=some (Cs.flatten++h)/\Srt key h/\h.length<2*bs/\Flt key (Ds.flatten++T) h:=by
    have e0:wi (((Cs.flatten.length:Nat):Int)+(bs:Int))=((Cs.flatten.length+bs:Nat):Int):=by rw[wn (by omega) (by omega)];omega
    match Ds,c3,c4 with
    | [],_,_=>
     simp only[List.flatten_nil,d6] at ab;refine⟨T,?_,G,by omega,by simpa using Flt.refl T⟩;rw[e0,H,kJ (k:=Cs.flatten.length+bs) (n:=N) (by omega),cM];simp
    | [D],c3,_=>
     have hD:=c3 D (by simp);simp only[gQ,List.flatten_nil,eA] at ab ⊢;by_cases am:T.length=0
     ·have:T= []:=cP am
      subst this;refine⟨D,?_,hD.2,by omega,by simpa using Flt.refl D⟩;rw[e0,H,kJ (k:=Cs.flatten.length+bs) (n:=N) (by rw[d6] at O;omega),cM]
      simp
     ·obtain⟨M,m1,m2,m3⟩:=yHW hf 59 Cs.flatten D T [] (Cs.flatten.length:Int) ((Cs.flatten.length+bs:Nat):Int) Nn (d8 (by omega) k59) (by omega) (by omega) hD.2 G rfl (by rw[hD.1]) (by omega) (by omega)
      simp only[eA] at m1;refine⟨M,?_,m2,by rw[<-m3.len,cU];omega,m3⟩
      rw[e0,H,yU (k:=Cs.flatten.length+bs) (n:=N) (by omega),cN,<-H,m1];rfl
   obtain⟨r,r1,r2,r3⟩:=ih (2*bs) Cs h (by omega) (by omega) (by omega) c2 t2 t3 (by rw[<-t4.len,cU];omega)
   refine⟨r,?_,r2,?_⟩
   ·rw[zN (x':=(((2*bs:Nat):Int),Cs.flatten++h)),r1]
    show yW Nn f _ _=_;have e1:decide ((bs:Int)<Nn)=true:=by rw[H];exact yU (by omega)
    have e2:wi (2*(bs:Int))=((2*bs:Nat):Int):=by rw[wn (by omega) (by omega)];omega
    have e3:wi ((bs:Int)*2)=((2*bs:Nat):Int):=by rw[wn (by omega) (by omega)];omega
    simp only[yW,e1,cN,e2];have ac:zE (λ(x:Int×Int×(List Int))=>yN Nn (bs:Int) f x.1 x.2.1 x.2.2) (0,((2*bs:Nat):Int),Bs.flatten++T)=some (((Cs.flatten.length:Nat):Int),Cs.flatten++Ds.flatten++T):=c1;rw[ac,zA];simp only[t1,zA,e3]
   ·refine Flt.trans ?_ r3
    have:=c5.app (Flt.refl (key:=key) T);refine this.trans ?_;rw[c8];exact(Flt.refl _).app t4
theorem yDO (l:List Int) (h:l.length<=2000):∃r,jA l f=some r/\Srt key r/\Flt key l r:=by
 unfold jA uL;obtain⟨Bs,D,K,Y,Z,O⟩:=yUS hf l.length [] l (l.length:Int) (dA _) (by simp) (by simpa using h);simp only[d6,eE,dP] at K;have G:zE (λ(x:Int×Int×(List Int))=>yL (l.length:Int) f x.1 x.2.1 x.2.2) (0,20,l)=some (((Bs.flatten.length:Nat):Int),Bs.flatten++D):=K;rw[G,zA];have hl:Bs.flatten.length+D.length=l.length:=by rw[O.len,cU]
 have T:=yR7 hf (p:=Bs.flatten) (m:=D) (t:=[]) (a:=((Bs.flatten.length:Nat):Int)) (b:=(l.length:Int)) rfl (by omega) (by omega);simp only[eA] at T;have k:=zO3 (key:=key) D [];rw[dP] at k;obtain⟨r,r1,r2,r3⟩:=yUT hf (l.length:Int) l.length rfl h l.length 20 Bs (zAZ (λa b=>decide (key a<key b)) D []) (by omega) (by omega) (by omega) Y (zSY _) (by rw[<-k.len];exact Z) (by rw[<-k.len];exact hl)
 have H:zE (λ(x:Int×(List Int))=>yW (l.length:Int) f x.1 x.2) (20,Bs.flatten++zAZ (λa b=>decide (key a<key b)) D [])=some r:=r1;refine⟨r,?_,r2,O.trans (((Flt.refl _).app k).trans r3)⟩;simp only[T,zA,H]
end
end Go.M


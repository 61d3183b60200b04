/- What the plain counterparts answer. Conditions: none. -/
import Derived.Test.YtjnpmmedmedokaaGreatDoorMir
set_option linter.unusedSimpArgs false
set_option linter.unusedVariables false
set_option linter.unnecessarySimpa false
namespace Go.M
open Go.AV
theorem xN {n:Int} (h: -9223372036854775808<=n) (k:n<=9223372036854775807):wi n=n:=w64 h k
theorem zJ {k:Nat} (h:k+1<=9223372036854775807):wi ((k:Int)+1)=((k+1:Nat):Int):=by rw[xN (by omega) (by omega)];omega
theorem zD8 {k:Nat} (h:k+1<=9223372036854775807):wi (((k+1:Nat):Int)-1)=(k:Int):=by rw[xN (by omega) (by omega)];omega
theorem yS {k n:Nat} (h:k<n):decide ((k:Int)<(n:Int))=true:=by simp;omega
theorem kH {k n:Nat} (h:n<=k):decide ((k:Int)<(n:Int))=false:=by simp;omega
theorem zU {D:Type} {l:List D} {k:Nat} (h:k<l.length):yD l (k:Int)=some l[k]:=by unfold yD;rw[dG (by omega)];simp[h]
theorem yG4 {h:Type} {x: h} {l:List h}:yD (x::l) 0=some x:=rfl
theorem zIJ {D:Type} {l:List D} {k:Nat} (h:k<l.length) (x: D):zBD l (k:Int) x=some (l.set k x):=by unfold zBD;rw[dG ⟨by omega,by simpa using h⟩];simp
theorem jY {k:Type} {l m:List k} (h:l.length+m.length<=4294967296):app l m=some (l++m):=by unfold app;rw[dG (by unfold LIM;exact h)]
theorem z1M {k:Type} {z: k} {n:Nat} (h:n<=4294967296):mkM z (n:Int)=some (List.replicate n z):=by unfold mkM;rw[dG ⟨by omega,by unfold LIM;simpa using h⟩];simp
theorem zS7 {k:Type} {l:List k} {a b:Nat} (D:a<=b) (h:b<=l.length):slc l (a:Int) (b:Int)=some ((l.take b).drop a):=by unfold slc;rw[dG ⟨by omega,by omega,by simpa using h⟩];simp
theorem zFI {k:Type} {l:List k} {b:Nat} (h:b<=l.length):slc l 0 (b:Int)=some (l.take b):=by have:=zS7 (l:=l) (a:=0) (b:=b) (by omega) h;simpa using this
theorem zIK {k:Type} {l:List k} {a:Nat} (h:a<=l.length):slc l (a:Int) (l.length:Int)=some (l.drop a):=by have:=zS7 (l:=l) (a:=a) (b:=l.length) h (dC _);simpa using this
theorem zK {h k:Type} (x: h) (f: h->Option k):(pv x).bind f=f x:=rfl
theorem xB {h:Type} [Inhabited h] (m:Option h):gM true m=m:=rfl
theorem vB {h:Type} [Inhabited h] (m:Option h):gM false m=some default:=rfl
theorem zA {h k:Type} (x: h) (f: h->Option k):(some x).bind f=f x:=rfl
theorem zM {X Y:Type} {body:X->Option (Stp X Y)} {x x':X} (h:body x=some (.next x')):zF body x=zF body x':=by rw[xK,h]
theorem zL {X Y:Type} {body:X->Option (Stp X Y)} {x:X} {y:Y} (h:body x=some (.done y)):zF body x=some y:=by rw[xK,h]
theorem z0:((0:Nat):Int)=0:=rfl
open Go.AV
def chk {A Y:Type} (p:Nat->A->Option Y):List A->Nat->Option Y
 | [],_=>none
 | x::xs,k=>match p k x with
  | some y=>some y
  | none=>chk p xs (k+1)
def toS {Y:Type}:Option Y->Unit⊕Y
 | some y=> .inr y
 | none=> .inl ()
def stp {Y:Type} (k:Nat):Option Y->Stp Int (Unit⊕Y)
 | some y=> .done (.inr y)
 | none=> .next ((k+1:Nat):Int)
theorem z44 {A Y:Type} (l:List A) {body:Int->Option (Stp Int (Unit⊕Y))} (p:Nat->A->Option Y)
  (s:Nat) (hb:∀k (h:k<l.length),s<=k->body (k:Int)=some (stp k (p k l[k]))) (K:∀k:Nat,l.length<=k->body (k:Int)=some (.done (.inl ()))):
  ∀(n k:Nat),s<=k->l.length-k=n->zF body (k:Int)=some (toS (chk p (l.drop k) k)):=by
 intro n
 induction n with
 | zero=>
  intro k H O;rw[xK,K k (by omega),dE (by omega)];rfl
 | succ n T=>
  intro k H O;have D:k<l.length:=by omega
  rw[xK,hb k D H,cW D];simp only[chk];cases Z:p k l[k] with
  | some y=>rfl
  | none=>exact T (k+1) (by omega) (by omega)
theorem xU {A Y:Type} (l:List A) {body:Int->Option (Stp Int (Unit⊕Y))} (p:Nat->A->Option Y)
  (hb:∀k (h:k<l.length),body (k:Int)=some (stp k (p k l[k]))) (D:∀k:Nat,l.length<=k->body (k:Int)=some (.done (.inl ()))):zF body 0=some (toS (chk p l 0)):=by
 have:=z44 l p 0 (λk h _=>hb k h) D l.length 0 (by omega) (by omega);simpa using this
theorem xF {Y Z:Type} (o:Option Y) (f:Unit->Option Z) (g:Y->Option Z):(toS o).elim f g=match o with | some y=>g y | none=>f ():=by cases o<;>rfl
abbrev MX:Nat:=9223372036854775807
def zHJ (t:Int):Bool:=((((decide (65<=t)&&decide (t<=90)) ||(decide (97<=t)&&decide (t<=122))) ||(decide (48<=t)&&decide (t<=57))) ||decide (t=95))
theorem z1N:wQ=zHO:=rfl
theorem z45 {s:Str} {k:Nat} (h:k<s.length):z3G s (k:Int)=some (s[k].toNat:Int):=by unfold z3G;rw[zU h];rfl
theorem zT2 (s:Str) (D:s.length<=MX):zF (λ(x:Int)=>wQ s x) 0=some (toS (chk (λ_ (b:UInt8)=>if zHJ (b.toNat:Int) then none else some false) s 0)):=by
 refine xU s _ (λk h=>?_) (λk h=>?_);simp only[wQ,yS h,cO,z45 h,zA,zK,zJ (k:=k) (by unfold MX at D;omega)]
 by_cases hb:zHJ (s[k].toNat:Int)=true;simp only[hb,dH,stp];unfold zHJ at hb;rw[hb];rfl;simp only[hb,cY,stp];unfold zHJ at hb;simp only[gS] at hb;rw[hb];rfl;simp only[wQ,kH h,cN]
def zOJ (s:Str):Bool:=match chk (λ_ (b:UInt8)=>if zHJ (b.toNat:Int) then none else some false) s 0 with
 | some y=>y
 | none=>decide (1<=s.length)&&decide (s.length<=32)
theorem yDD {s:Str} (k:s.length<=MX):zCR s=some (zOJ s):=by
 unfold zCR zOJ;rw[zT2 s k,zA,xF];cases chk (λ_ (b:UInt8)=>if zHJ (b.toNat:Int) then none else some false) s 0 with
 | some y=>rfl
 | none=>
  simp only[zK];congr 1;cases s with
  | nil=>rfl
  | cons x l=>
   have h:((x::l:Str)== [])=false:=rfl;rw[h];simp;omega
theorem z94 {s:Str} (h:s.length<=MX):zG5 s=some (zOJ s):=by
 unfold zG5 zOJ;rw[<-z1N,zT2 s h,zA,xF];cases chk (λ_ (b:UInt8)=>if zHJ (b.toNat:Int) then none else some false) s 0 with
 | some y=>rfl
 | none=>
  simp only[zK];congr 1;congr 1;simp;omega;simp;omega
def gpN (_:Nat) (g:cC):Option Int:=if zOJ g.bT then none else some 6
def gpR (b:Int) (_:Nat) (g:cC):Option Int:=if g.Lo<1\/g.Hi<g.Lo\/b<=g.Hi then some 1 else none
def gpO (l:List cC) (k:Nat) (g:cC):Option Int:=if 0<k/\¬g.Lo=wi ((l.getD (k-1) default).Hi+1) then some 4 else none
def gpT (l:List cC) (k:Nat) (g:cC):Option Int:=if g.bT∈(l.take k).map (·.bT) then some 5 else none
section
variable {c:Collation} (hg:c.aF.length<=2000) (hn:∀g∈c.aF,g.bT.length<=MX)
include hg
theorem wiS {k:Nat} (h:k<c.aF.length):wi ((k:Int)+1)=((k+1:Nat):Int):=zJ (by omega)
include hn in
theorem gL0:zF (λ(x:Int)=>xP c x) 0=some (toS (chk gpN c.aF 0)):=by refine xU c.aF _ (λk h=>?_) (λk h=>?_);simp only[xP,yS h,cO,zU h,zA,yDD (hn _ (eF h)),wiS hg h,gpN];cases zOJ (c.aF[k]).bT<;>rfl;simp only[xP,kH h,cN]
include hn in
theorem rL0:zF (λ(x:Int)=>zBX c x) 0=some (toS (chk gpN c.aF 0)):=by refine xU c.aF _ (λk h=>?_) (λk h=>?_);simp only[zBX,yS h,cO,zU h,zA,z94 (hn _ (eF h)),wiS hg h,gpN];cases zOJ (c.aF[k]).bT<;>rfl;simp only[zBX,kH h,cN]
theorem gL2:zF (λ(x:Int)=>xQ c x) 0=some (toS (chk (gpR c.bL) c.aF 0)):=by refine xU c.aF _ (λk h=>?_) (λk h=>?_);simp only[xQ,yS h,cO,zU h,zA,zK,wiS hg h,gpR];by_cases D:(c.aF[k]).Lo<1<;>by_cases H:(c.aF[k]).Hi<(c.aF[k]).Lo<;>by_cases K:c.bL<=(c.aF[k]).Hi<;>simp[D,H,K,stp];simp only[xQ,kH h,cN]
theorem rL3:zF (λ(x:Int)=>zB0 c x) 0=some (toS (chk (gpR c.bL) c.aF 0)):=by refine xU c.aF _ (λk h=>?_) (λk h=>?_);simp only[zB0,yS h,cO,zU h,zA,zK,wiS hg h,gpR];by_cases D:(c.aF[k]).Lo<1<;>by_cases H:(c.aF[k]).Hi<(c.aF[k]).Lo<;>by_cases K:c.bL<=(c.aF[k]).Hi<;>simp[D,H,K,stp,xB,vB,zA];simp only[zB0,kH h,cN]
theorem gL3:zF (λ(x:Int)=>xR c x) 0=some (toS (chk (gpO c.aF) c.aF 0)):=by
 refine xU c.aF _ (λk h=>?_) (λk h=>?_);simp only[xR,yS h,cO,zU h,zA,zK,wiS hg h,gpO];cases k with
 | zero=>simp[vB,zA,stp]
 | succ k=>
  have D:k<c.aF.length:=by omega
  have H:wi (((k+1:Nat):Int)-1)=(k:Int):=zD8 (by omega);have K:decide ((0:Int)<((k+1:Nat):Int))=true:=by simp
  rw[K,xB,H,zU D,zA];have O:c.aF.getD (k+1-1) default=c.aF[k]:=by simp[D]
  rw[O];by_cases T:(c.aF[k+1]).Lo=wi ((c.aF[k]).Hi+1)<;>simp[T,stp]
 simp only[xR,kH h,cN]
theorem rL4:zF (λ(x:Int)=>zAO c x) 1=some (toS (chk (gpO c.aF) (c.aF.drop 1) 1)):=by
 have:=z44 (body:=λ(x:Int)=>zAO c x) c.aF (gpO c.aF) 1 (λk h O=>?_) (λk h=>?_) (c.aF.length-1) 1 (by omega) rfl;exact this;simp only[zAO,yS h,cO,zU h,zA,wiS hg h,gpO];cases k with
 | zero=>omega
 | succ k=>
  have D:k<c.aF.length:=by omega
  have H:wi (((k+1:Nat):Int)-1)=(k:Int):=zD8 (by omega);rw[H,zU D,zA];have K:c.aF.getD (k+1-1) default=c.aF[k]:=by simp[D]
  rw[K];by_cases T:(c.aF[k+1]).Lo=wi ((c.aF[k]).Hi+1)<;>simp[T,stp]
 simp only[zAO,kH h,cN]
omit hg in
theorem yRT:chk (gpO c.aF) c.aF 0=chk (gpO c.aF) (c.aF.drop 1) 1:=by
 cases h:c.aF with
 | nil=>rfl
 | cons g l=>simp[chk,gpO]
omit hg in
theorem zQJ {K O:Type} [DecidableEq K] (m:List (K×O)) (k D: K) (v z: O):mgetD (vD m k v) D z=if D=k then v else mgetD m D z:=by
 unfold mgetD
 induction m with
 | nil=>simp only[vD,mget];by_cases h:D=k<;>simp[h,mget]
 | cons p m T=>
  obtain⟨q,u⟩:=p;simp only[vD];by_cases H:k=q;subst H;simp only[dH,mget];by_cases h:D=k<;>simp[h];simp only[H,cY,mget];by_cases h:D=q;subst h;have:¬D=k:=λe=>H e.symm;simp[this];simp only[h,cY];exact T
theorem gL1:∀(n k:Nat) (m:List (Str×Bool)),c.aF.length-k=n->k<=c.aF.length->(∀s,mgetD m s false=decide (s∈(c.aF.take k).map (·.bT)))->
    zF (λ(x:Int×(List (Str×Bool)))=>jX c x.1 x.2) ((k:Int),m)=some (toS (chk (gpT c.aF) (c.aF.drop k) k)):=by
  intro n
  induction n with
  | zero=>
    intro k m Z K O;have H:c.aF.length<=k:=by omega
    rw[xK,dE H];simp only[jX,kH H,cN,chk,toS]
  | succ n ih=>
    intro k m Z K O;have h:k<c.aF.length:=by omega
    rw[xK,cW h];simp only[jX,yS h,cO,zU h,zA,O,wiS hg h,chk,gpT];by_cases D:(c.aF[k]).bT∈(c.aF.take k).map (·.bT)
    · simp only[D,dA,cO,dH,toS]
    · simp only[D,dF,cN,cY]
      refine ih (k+1) _ (by omega) (by omega) λs=>?_;rw[zQJ,O s];have Y:(c.aF.take (k+1)).map (·.bT)=(c.aF.take k).map (·.bT)++ [(c.aF[k]).bT]:=by
        rw[List.take_add_one,cS h,gW];rfl
      rw[Y];by_cases T:s=(c.aF[k]).bT
      · simp[T]
      · simp[T]
omit hg in
theorem z95 {A Y:Type} (P:A->Bool) (y:Y):∀(l:List A) (k:Nat),chk (λ_ x=>if P x then some y else none) l k=if l.any P then some y else none
 | [],_=>rfl
 | x::l,k=>by
  simp only[chk,ik];by_cases h:P x=true;simp[h];simp only[h,dQ,cY,eY];exact z95 P y l (k+1)
theorem rL1:zF (λ(x:Int)=>zBZ c x) 0=some (toS (chk (gpT c.aF) c.aF 0)):=by
  refine xU c.aF _ (λk h=>?_) (λk h=>?_)
  · have K:zF (λ(x:Int)=>zBY (k:Int) c x) 0=some (toS (chk (λ_ (g:cC)=>if (g.bT==(c.aF[k]).bT) then some (5:Int) else none) (c.aF.take k) 0)):=by
      refine xU (c.aF.take k) _ (λj O=>?_) (λj O=>?_)
      · have T:j<k:=by rw[dZ] at O;omega
        have D:j<c.aF.length:=by omega
        have H:decide ((j:Int)<(k:Int))=true:=by simp;omega
        simp only[zBY,H,cO,zU D,zU h,zA,wiS hg D,List.getElem_take];by_cases Y:((c.aF[j]).bT==(c.aF[k]).bT)=true
        · simp only[Y,cO,dH,stp]
        · simp only[Y,gS] at*
          simp only[Y,cN,dQ,cY,stp]
      · have T:k<=j:=by rw[dZ] at O;omega
        have H:decide ((j:Int)<(k:Int))=false:=by simp;omega
        simp only[zBY,H,cN]
    simp only[zBZ,yS h,cO,K,zA,xF,z95,gpT,wiS hg h];have e2:((c.aF.take k).any λg=>g.bT==(c.aF[k]).bT)=decide ((c.aF[k]).bT∈(c.aF.take k).map (·.bT)):=by
      rw[g7];simp only[fU,beq_iff_eq,cZ,eM]
    rw[e2];by_cases Z:(c.aF[k]).bT∈(c.aF.take k).map (·.bT)
    · simp only[Z,dA,dH,stp]
    · simp only[Z,dF,dQ,cY,stp]
  · simp only[zBZ,kH h,cN]
def grpE (c:Collation):Int:=match chk gpN c.aF 0 with
 | some y=>y
 | none=>match chk (gpT c.aF) c.aF 0 with
  | some y=>y
  | none=>match chk (gpR c.bL) c.aF 0 with
   | some y=>y
   | none=>match chk (gpO c.aF) c.aF 0 with
    | some y=>y
    | none=>0
include hn in
theorem yDE:uD c=some (grpE c):=by
 have h:=gL1 hg c.aF.length 0 [] (by omega) (by omega) (λs=>by simp[mgetD,mget]);have h:zF (λ(x:Int×(List (Str×Bool)))=>jX c x.1 x.2) (0,[])=some (toS (chk (gpT c.aF) c.aF 0)):=h;unfold uD grpE;rw[gL0 hg hn,zA,xF];cases chk gpN c.aF 0 with
 | some y=>rfl
 | none=>
  simp only[];rw[h,zA,xF];cases chk (gpT c.aF) c.aF 0 with
  | some y=>rfl
  | none=>
   simp only[];rw[gL2 hg,zA,xF];cases chk (gpR c.bL) c.aF 0 with
   | some y=>rfl
   | none=>
    simp only[];rw[gL3 hg,zA,xF];cases chk (gpO c.aF) c.aF 0<;>rfl
include hn in
theorem z1O:zGC c=some (grpE c):=by
 unfold zGC grpE;rw[rL0 hg hn,zA,xF];cases chk gpN c.aF 0 with
 | some y=>rfl
 | none=>
  simp only[];rw[rL1 hg,zA,xF];cases chk (gpT c.aF) c.aF 0 with
  | some y=>rfl
  | none=>
   simp only[];rw[rL3 hg,zA,xF];cases chk (gpR c.bL) c.aF 0 with
   | some y=>rfl
   | none=>
    simp only[];rw[rL4 hg,zA,xF,yRT];cases chk (gpO c.aF) (c.aF.drop 1) 1<;>rfl
end
open Go.AV
def elE (e:aP):Int:=
 if (e.aT<0\/65535<e.aT)\/(e.aL<0\/65535<e.aL)\/(e.aO<0\/65535<e.aO) then 1
 else if (e.aT≠0/\(e.aL=0\/e.aO=0))\/(e.aL≠0/\e.aO=0)\/(e.aD=true/\e.aT=0) then 11 else 0
theorem yLK (e:aP):zE6 e=some (elE e):=by
 have O:zF (λ(x:Int)=>zA1 e x) 0=some (toS (chk (λ_ (w:Int)=>if w<0\/65535<w then some 1 else none) [e.aT,e.aL,e.aO] 0)):=by
  refine xU [e.aT,e.aL,e.aO] _ (λk h=>?_) (λk h=>?_);have H:decide ((k:Int)<3)=true:=by simp at h ⊢;omega
  simp only[zA1,H,cO,zU h,zA,zK,zJ (k:=k) (by simp at h;omega)]
  by_cases D: [e.aT,e.aL,e.aO][k]<0<;>by_cases K:65535 < [e.aT,e.aL,e.aO][k]<;>simp[D,K,stp];have H:decide ((k:Int)<3)=false:=by simp at h ⊢;omega
  simp only[zA1,H,cN]
 unfold zE6 elE;rw[O,zA,xF];simp only[chk];by_cases D:e.aT<0\/65535<e.aT;simp[D];by_cases K:e.aL<0\/65535<e.aL;simp[D,K];by_cases H:e.aO<0\/65535<e.aO;simp[D,K,H];simp only[D,K,H,cY,or_self,zK];by_cases a:e.aT=0<;>by_cases b:e.aL=0<;>by_cases c:e.aO=0<;>cases e.aD<;>simp[a,b,c]
theorem z8J (e:aP):zH6 e=some (elE e):=by
 unfold zH6 elE zET;simp only[zK,zA];by_cases a1:0<=e.aT;by_cases a2:e.aT<=65535;by_cases b1:0<=e.aL;by_cases b2:e.aL<=65535;by_cases h:0<=e.aO;by_cases k:e.aO<=65535;have D:¬(e.aT<0\/65535<e.aT):=by omega
 have H:¬(e.aL<0\/65535<e.aL):=by omega
 have K:¬(e.aO<0\/65535<e.aO):=by omega
 simp only[a1,a2,b1,b2,h,k,D,H,K,dA,fA,dD,dS,xB,zA,iK,cN,or_self,cY];by_cases a:e.aT=0<;>by_cases b:e.aL=0<;>by_cases c:e.aO=0<;>cases e.aD<;>simp[a,b,c];have:(65535:Int)<e.aO:=by omega
 simp[a1,a2,b1,b2,h,k,xB,zA,this];have:e.aO<0:=by omega
 simp[a1,a2,b1,b2,h,xB,zA,this];have:(65535:Int)<e.aL:=by omega
 simp[a1,a2,b1,b2,xB,vB,zA,this];have:e.aL<0:=by omega
 simp[a1,a2,b1,xB,vB,zA,this];have:(65535:Int)<e.aT:=by omega
 simp[a1,a2,xB,vB,zA,this];have:e.aT<0:=by omega
 simp[a1,xB,vB,zA,this]
def vld (c:Int):Bool:=decide (0<=c)&&decide (c<=1114111)
theorem zRX (c:Int):zAN c=some (vld c):=rfl
theorem zFY (c:Int):vH c=some (vld c):=rfl
def pV (_:Nat) (c:Int):Option Int:=if vld c then none else some 1
def pE (_:Nat) (e:aP):Option Int:=if elE e=0 then none else some (elE e)
def pP (b:Int) (_:Nat) (e:aP):Option Int:=if b<=e.aT then some 1 else none
def enE (x:bP) (b:Int):Int:=
 if x.aY.length<1\/8<x.aY.length\/16<x.aV.length then 2
 else match chk pV x.aY 0 with
  | some y=>y
  | none=>match chk pE x.aV 0 with
   | some y=>y
   | none=>match chk (pP b) x.aV 0 with
    | some y=>y
    | none=>0
section
variable {x:bP} (hc:x.aY.length<=2000) (he:x.aV.length<=2000)
include hc in
theorem eL0:zF (λ(v:Int)=>j6 x v) 0=some (toS (chk pV x.aY 0)):=by refine xU x.aY _ (λk h=>?_) (λk h=>?_);simp only[j6,yS h,cO,zU h,zA,zRX,zJ (k:=k) (by omega),pV];cases vld x.aY[k]<;>rfl;simp only[j6,kH h,cN]
include he in
theorem eL1:zF (λ(v:Int)=>wB x v) 0=some (toS (chk pE x.aV 0)):=by refine xU x.aV _ (λk h=>?_) (λk h=>?_);simp only[wB,yS h,cO,zU h,zA,yLK,zJ (k:=k) (by omega),pE];by_cases D:elE x.aV[k]=0<;>simp[D,stp];simp only[wB,kH h,cN]
include he in
theorem eL2 (b:Int):zF (λ(v:Int)=>j7 x b v) 0=some (toS (chk (pP b) x.aV 0)):=by refine xU x.aV _ (λk h=>?_) (λk h=>?_);simp only[j7,yS h,cO,zU h,zA,zJ (k:=k) (by omega),pP];by_cases D:b<=(x.aV[k]).aT<;>simp[D,stp];simp only[j7,kH h,cN]
theorem yRU:zGD=j6:=rfl
theorem yRV (c:Collation):(λv=>zGE x c v)=λv=>j7 x c.bL v:=rfl
include he in
theorem yT8:zF (λ(v:Int)=>zDB x v) 0=some (toS (chk pE x.aV 0)):=by refine xU x.aV _ (λk h=>?_) (λk h=>?_);simp only[zDB,yS h,cO,zU h,zA,z8J,zJ (k:=k) (by omega),pE];by_cases D:elE x.aV[k]=0<;>simp[D,stp];simp only[zDB,kH h,cN]
theorem szc:(((decide ((x.aY.length:Int)<1) ||decide (8<(x.aY.length:Int))) ||decide (16<(x.aV.length:Int))))=decide (x.aY.length<1\/8<x.aY.length\/16<x.aV.length):=by rw[g7];simp only[fP,cZ];omega
include hc he in
theorem yG6 (b:Int):u0 x b=some (enE x b):=by
 unfold u0 enE;simp only[zK,szc];by_cases h:x.aY.length<1\/8<x.aY.length\/16<x.aV.length;simp only[h,dA,cO,dH];simp only[h,dF,cN,cY];rw[eL0 hc,zA,xF];cases chk pV x.aY 0 with
 | some y=>rfl
 | none=>
  simp only[];rw[eL1 he,zA,xF];cases chk pE x.aV 0 with
  | some y=>rfl
  | none=>
   simp only[];rw[eL2 he,zA,xF];cases chk (pP b) x.aV 0<;>rfl
end
def z1P (a b:List Int):Int:=match chk (λ_ (p:Int×Int)=>if p.1=p.2 then none else some (if p.1<p.2 then (-1:Int) else 1)) (a.zip b) 0 with
 | some y=>y
 | none=>if a.length<b.length then -1 else if b.length<a.length then 1 else 0
section
variable {a b:List Int} (ha:a.length<=4611686018427387904) (hb:b.length<=2000)
theorem yDF (x y:Int):xL x y=some (if x<y then -1 else if y<x then 1 else 0):=by unfold xL zE5;simp only[zA,dA,dD,cN];by_cases h:x<y;simp[h];by_cases k:y<x<;>simp[h,k]
include ha in
theorem cL0:zF (λ(v:Int)=>vF a b v) 0=some (toS (chk (λ_ (p:Int×Int)=>if p.1=p.2 then none else some (if p.1<p.2 then (-1:Int) else 1)) (a.zip b) 0)):=by
 refine xU (a.zip b) _ (λk h=>?_) (λk h=>?_);have Y:=h;rw[List.length_zip] at Y;have O:k<a.length:=by omega
 have T:k<b.length:=by omega
 have D:decide ((k:Int)<min (a.length:Int) (b.length:Int))=true:=by simp;omega
 simp only[vF,D,cO,zU O,zU T,zA,yDF,zJ (k:=k) (by omega),List.getElem_zip];by_cases K:a[k]=b[k];simp[K,stp];simp only[K,dF,dS,cO,cY,stp];by_cases H:a[k]<b[k];simp[H];have:b[k]<a[k]:=by omega
 simp[H,this];rw[List.length_zip] at h;have D:decide ((k:Int)<min (a.length:Int) (b.length:Int))=false:=by simp;omega
 simp only[vF,D,cN]
include ha in
theorem yT9:zF (λ(v:Int)=>zA8 a b v) 0=some (toS (chk (λ_ (p:Int×Int)=>if p.1=p.2 then none else some (if p.1<p.2 then (-1:Int) else 1)) (a.zip b) 0)):=by
 refine xU (a.zip b) _ (λk h=>?_) (λk h=>?_);have T:=h;rw[List.length_zip] at T;have D:k<a.length:=by omega
 have H:k<b.length:=by omega
 simp only[zA8,yS D,yS H,zK,fA,cO,zU D,zU H,zA,zJ (k:=k) (by omega),List.getElem_zip];by_cases K:a[k]<b[k];have:¬a[k]=b[k]:=by omega
 simp[K,this,stp];by_cases Y:b[k]<a[k];have:¬a[k]=b[k]:=by omega
 simp[K,Y,this,stp];have:a[k]=b[k]:=by omega
 simp[this,stp];rw[List.length_zip] at h;have O:(decide ((k:Int)<(a.length:Int))&&decide ((k:Int)<(b.length:Int)))=false:=by
  rw[eE];simp;omega
 simp only[zA8,zK,O,cN]
include ha in
theorem z8K:zB4 a b=some (z1P a b):=by
 unfold zB4 z1P;rw[cL0 ha,zA,xF];cases chk (λ_ (p:Int×Int)=>if p.1=p.2 then none else some (if p.1<p.2 then (-1:Int) else 1)) (a.zip b) 0 with
 | some y=>rfl
 | none=>
  simp only[yDF,zA];congr 1;by_cases k:a.length<b.length;have:(a.length:Int)<b.length:=by omega
  simp[k,this];have h:¬(a.length:Int)<b.length:=by omega
  by_cases H:b.length<a.length;have:(b.length:Int)<a.length:=by omega
  simp[k,h,H,this];have D:¬(b.length:Int)<a.length:=by omega
  simp[k,h,H,D]
include ha in
theorem zPZ:zDV a b=some (z1P a b):=by
 unfold zDV z1P;rw[yT9 ha,zA,xF];cases chk (λ_ (p:Int×Int)=>if p.1=p.2 then none else some (if p.1<p.2 then (-1:Int) else 1)) (a.zip b) 0 with
 | some y=>rfl
 | none=>
  simp only[];by_cases k:a.length<b.length;have:(a.length:Int)<b.length:=by omega
  simp[k,this];have h:¬(a.length:Int)<b.length:=by omega
  by_cases H:b.length<a.length;have:(b.length:Int)<a.length:=by omega
  simp[k,h,H,this];have D:¬(b.length:Int)<a.length:=by omega
  simp[k,h,H,D]
end
open Go.AV
structure Sm (c:Collation):Prop where
 en:c.aB.length<=12
 gr:c.aF.length<=8
 co:∀x∈c.aB,x.aY.length<=16
 el:∀x∈c.aB,x.aV.length<=20
def smB (c:Collation):Bool:=if 12<c.aB.length\/8<c.aF.length then false else match chk (λ_ (x:bP)=>if 10<x.aY.length\/20<x.aV.length then some false else none) c.aB 0 with
 | some y=>y
 | none=>true
theorem zOK {A Y:Type} {p:Nat->A->Option Y}:∀{l:List A} {k:Nat},chk p l k=none->∀j (h:j<l.length),p (k+j) l[j]=none
 | [],_,_,j,h=>by simp at h
 | x::xs,k,D,j,h=>by
  simp only[chk] at D;cases H:p k x with
  | some y=>rw[H] at D;cases D
  | none=>
   rw[H] at D;cases j with
   | zero=>simpa using H
   | succ j=>
    have:=zOK D j (by simp at h;omega)
    rw[show k+1+j=k+(j+1) by omega] at this;simpa using this
theorem zKA {A Y:Type} {p:Nat->A->Option Y} {P:Y->Prop} (H:∀k x y,p k x=some y->P y):∀{l:List A} {k:Nat} {y:Y},chk p l k=some y->P y
 | [],_,_,h=>by cases h
 | x::xs,k,y,h=>by
  simp only[chk] at h;cases D:p k x with
  | some K=>rw[D] at h;cases h;exact H _ _ _ D
  | none=>rw[D] at h;exact zKA H h
theorem yG7 (c:Collation):zHY c=some (smB c):=by
 unfold zHY smB;simp only[zK];by_cases T:12<c.aB.length\/8<c.aF.length;have:(decide (12<(c.aB.length:Int)) ||decide (8<(c.aF.length:Int)))=true:=by simp only[fP,cZ];omega
 simp only[this,cO,T,dH];have Y:(decide (12<(c.aB.length:Int)) ||decide (8<(c.aF.length:Int)))=false:=by simp only[fB,dB];omega
 have Z:zF (λ(v:Int)=>zCP c v) 0=some (toS (chk (λ_ (x:bP)=>if 10<x.aY.length\/20<x.aV.length then some false else none) c.aB 0)):=by
  refine xU c.aB _ (λk h=>?_) (λk h=>?_);simp only[zCP,yS h,cO,zU h,zA,zK,zJ (k:=k) (by omega)];by_cases K:10<(c.aB[k]).aY.length;have D:(10:Int)<(c.aB[k]).aY.length:=by omega
  simp[K,D,vB,zA,stp];have D:¬(10:Int)<(c.aB[k]).aY.length:=by omega
  by_cases O:20<(c.aB[k]).aV.length;have H:(20:Int)<(c.aB[k]).aV.length:=by omega
  simp[K,D,O,H,xB,zA,stp];have H:¬(20:Int)<(c.aB[k]).aV.length:=by omega
  simp[K,D,O,H,xB,zA,stp];simp only[zCP,kH h,cN]
 simp only[Y,cN,T,cY];rw[Z,zA,xF];cases chk (λ_ (x:bP)=>if 10<x.aY.length\/20<x.aV.length then some false else none) c.aB 0<;>rfl
theorem yPB {c:Collation} (h:smB c=true):Sm c:=by
 unfold smB at h;split at h;cases h;rename_i hz;cases H:chk (λ_ (x:bP)=>if 10<x.aY.length\/20<x.aV.length then some false else none) c.aB 0 with
 | some y=>
  exfalso;rw[H] at h;have T:y=true:=h;subst T;have:=zKA (P:=λy=>y=false) (λk x y K=>by
   split at K;cases K;rfl;cases K) H
  cases this
 | none=>
  have Z:=zOK H;have O:∀x∈c.aB,¬(10<x.aY.length\/20<x.aV.length):=by
   intro x D;obtain⟨j,Y,rfl⟩:=fc D;have this:(if 10<(c.aB[j]).aY.length\/20<(c.aB[j]).aV.length then some false else none)=none:=Z j Y;split at this;cases this;assumption
  exact⟨by omega,by omega,λx D=>by have:=O x D;omega,λx D=>by have:=O x D;omega⟩
def pK (c:Collation) (k:Nat) (x:bP):Option Int:=
 if enE x c.bL≠0 then some (enE x c.bL) else if 0<k/\0<=z1P (c.aB.getD (k-1) default).aY x.aY then some 4 else none
def wOk (w:Int):Bool:=decide (1<=w)&&decide (w<=65535)
def ckE (c:Collation):Int:=
 if c.bL<1\/65502<c.bL\/wOk c.bF=false\/wOk c.bK=false then 1
 else if grpE c≠0 then grpE c
 else match chk (pK c) c.aB 0 with
  | some y=>y
  | none=>0
section
variable {c:Collation} (hs:Sm c) (hn:∀g∈c.aF,g.bT.length<=MX)
include hs
theorem kL0:zF (λ(v:Int)=>uI c v) 0=some (toS (chk (pK c) c.aB 0)):=by
 refine xU c.aB _ (λk h=>?_) (λk h=>?_);have K:=eF h;have Z:=hs.en;simp only[uI,yS h,cO,zU h,zA,zK,yG6 (d9 (hs.co _ K) (by omega)) (d9 (hs.el _ K) (by omega)),zJ (k:=k) (by omega),pK];by_cases H:enE c.aB[k] c.bL=0;simp only[H,dA,dD,cN,ne_eq,not_true,cY];cases k with
 | zero=>simp[vB,zA,stp]
 | succ k=>
  have D:k<c.aB.length:=by omega
  have O:wi (((k+1:Nat):Int)-1)=(k:Int):=zD8 (by omega);have T:decide ((0:Int)<((k+1:Nat):Int))=true:=by simp
  have Y:c.aB.getD (k+1-1) default=c.aB[k]:=by simp[D]
  rw[T,xB,O,zU D,zA,xB,z8K (d9 (hs.co _ (eF D)) (by omega)),zA,Y];by_cases hq:0<=z1P (c.aB[k]).aY (c.aB[k+1]).aY<;>simp[hq,stp]
 simp[H,stp];simp only[uI,kH h,cN]
theorem yDG {k:Nat} (h:k<c.aB.length):zH7 c (k:Int)=some (match pK c k c.aB[k] with | some y=>y | none=>0):=by
 have O:=eF h;have ac:=hs.en;have hc:=d9 (hs.co _ O) (by omega:16<=2000);have K:=d9 (hs.el _ O) (by omega:20<=2000);unfold zH7;simp only[zU h,zA,zK,szc,yRU,yRV];unfold pK enE;by_cases T:(c.aB[k]).aY.length<1\/8<(c.aB[k]).aY.length\/16<(c.aB[k]).aV.length
 ·simp only[T,dA,cO,dH]
  rfl
 ·simp only[T,dF,cN,cY]
  rw[eL0 hc,zA,xF];cases h1:chk pV (c.aB[k]).aY 0 with
  | some y=>
   have D:y≠0:=zKA (P:=λy=>y≠0) (λk x y D=>by
      unfold pV at D;split at D
      ·first | (cases D;done) | (cases D;decide) | (cases D;assumption)
      ·first | (cases D;done) | (cases D;decide) | (cases D;assumption)) h1
   simp[D]
  | none=>
   simp only[];rw[yT8 K,zA,xF];cases h2:chk pE (c.aB[k]).aV 0 with
   | some y=>
    have D:y≠0:=zKA (P:=λy=>y≠0) (λk x y D=>by
      unfold pE at D;split at D
      ·first | (cases D;done) | (cases D;decide) | (cases D;assumption)
      ·first | (cases D;done) | (cases D;decide) | (cases D;assumption)) h2
    simp[D]
   | none=>
    simp only[];rw[eL2 K,zA,xF];cases h3:chk (pP c.bL) (c.aB[k]).aV 0 with
    | some y=>
     have D:y≠0:=zKA (P:=λy=>y≠0) (λk x y D=>by
      unfold pP at D;split at D
      ·first | (cases D;done) | (cases D;decide) | (cases D;assumption)
      ·first | (cases D;done) | (cases D;decide) | (cases D;assumption)) h3
     simp[D]
    | none=>
     simp only[ne_eq,not_true,cY];cases k with
     | zero=>simp[vB,zA]
     | succ k=>
      have H:k<c.aB.length:=by omega
      have Y:wi (((k+1:Nat):Int)-1)=(k:Int):=zD8 (by omega);have Z:decide ((0:Int)<((k+1:Nat):Int))=true:=by simp
      have e3:c.aB.getD (k+1-1) default=c.aB[k]:=by simp[H]
      rw[Z,xB,Y,zU H,zA,xB,zPZ (d9 (hs.co _ (eF H)) (by omega)),zA,e3];by_cases hq:0<=z1P (c.aB[k]).aY (c.aB[k+1]).aY<;>simp[hq]
theorem yUA:zF (λ(v:Int)=>zDC c v) 0=some (toS (chk (pK c) c.aB 0)):=by
 refine xU c.aB _ (λk h=>?_) (λk h=>?_);have K:=hs.en;simp only[zDC,yS h,cO,yDG hs h,zA,zJ (k:=k) (by omega)];have H:∀y,pK c k c.aB[k]=some y->y≠0:=by
  intro y D;unfold pK at D;split at D;cases D;assumption;split at D;cases D;decide;cases D
 cases O:pK c k c.aB[k] with
 | some y=>simp[H y O,stp]
 | none=>simp[stp]
 simp only[zDC,kH h,cN]
omit hs in
theorem isW (w:Int):zBF w=some (wOk w):=rfl
omit hs in
theorem yUB (w:Int):zGB w=some (wOk w):=rfl
include hn in
theorem yG9:zBS c=some (ckE c):=by unfold zBS ckE;simp only[zK,isW];by_cases h:c.bL<1;simp[h,vB,zA];by_cases k:65502<c.bL;simp[h,k,vB,zA];by_cases D:wOk c.bF=false;simp[h,k,D,xB,vB,zA];by_cases H:wOk c.bK=false;simp[h,k,D,H,xB,zA];simp only[Bool.not_eq_false] at D H;simp only[h,k,D,H,dF,iK,dS,xB,zA,dD,cN,or_self,Bool.true_eq_false,cY];rw[yDE (d9 hs.gr (by omega)) hn,zA];by_cases K:grpE c=0;simp only[K,dA,dD,cN,ne_eq,not_true,cY];rw[kL0 hs,zA,xF];cases chk (pK c) c.aB 0<;>rfl;simp[K]
include hn in
theorem z47:zH8 c=some (ckE c):=by unfold zH8 ckE;simp only[zK,yUB];by_cases h:c.bL<1;simp[h,vB,zA];by_cases k:65502<c.bL;simp[h,k,vB,zA];by_cases D:wOk c.bF=false;simp[h,k,D,xB,vB,zA];by_cases H:wOk c.bK=false;simp[h,k,D,H,xB,zA];simp only[Bool.not_eq_false] at D H;simp only[h,k,D,H,dF,iK,dS,xB,zA,dD,cN,or_self,Bool.true_eq_false,cY];rw[z1O (d9 hs.gr (by omega)) hn,zA];by_cases K:grpE c=0;simp only[K,dA,dD,cN,ne_eq,not_true,cY];rw[yUA hs,zA,xF];cases chk (pK c) c.aB 0<;>rfl;simp[K]
end
theorem zRY {c:Collation} (h:zEE c):∀g∈c.aF,g.bT.length<=MX:=λg k=>(h.2.1.2 g k).1
open Go.AV
def lx:List Int->List Int->Prop
 | [],[]=>False
 | [],_::_=>True
 | _::_,[]=>False
 | x::a,y::b=>x<y\/(x=y/\lx a b)
theorem z48:∀{a b c:List Int},lx a b->lx b c->lx a c
 | [],[],_,h,_=>h.elim
 | [],_::_,[],_,h=>h.elim
 | [],_::_,_::_,_,_=>trivial
 | _::_,[],_,h,_=>h.elim
 | _::_,_::_,[],_,h=>h.elim
 | x::a,y::b,z::c,D,k=>by
  rcases D with D | ⟨rfl,D⟩;rcases k with k | ⟨rfl,_⟩;exact .inl (by omega);exact .inl D;rcases k with k | ⟨rfl,k⟩;exact .inl k;exact .inr ⟨rfl,z48 D k⟩
theorem zZR:∀{a:List Int},¬lx a a
 | [],h=>h
 | x::a,h=>by
  rcases h with h | ⟨_,h⟩;omega;exact zZR h
def pC (_:Nat) (p:Int×Int):Option Int:=if p.1=p.2 then none else some (if p.1<p.2 then (-1:Int) else 1)
def zWQ (a b:List Int) (k:Nat):Int:=match chk pC (a.zip b) k with
 | some y=>y
 | none=>if a.length<b.length then -1 else if b.length<a.length then 1 else 0
theorem zS8:∀(a b:List Int) (k:Nat),(zWQ a b k<0↔lx a b)/\(zWQ a b k=0↔a=b)
 | [],[],k=>by simp[zWQ,chk,lx]
 | [],y::b,k=>by simp[zWQ,chk,lx]
 | x::a,[],k=>by simp[zWQ,chk,lx]
 | x::a,y::b,k=>by
  have O:=zS8 a b (k+1);by_cases h:x=y
  ·subst h
   have D:zWQ (x::a) (x::b) k=zWQ a b (k+1):=by
    simp only[zWQ,List.zip_cons_cons,chk,pC,dH,dR];cases chk pC (a.zip b) (k+1) with
    | some y=>rfl
    | none=>
     simp only[];by_cases H:a.length<b.length
     ·simp[H]
     ·by_cases T:b.length<a.length<;>simp[H,T]
   rw[D];refine⟨O.1.trans ?_,O.2.trans ?_⟩
   ·simp[lx]
   ·simp
  ·have D:zWQ (x::a) (y::b) k=if x<y then -1 else 1:=by
    simp only[zWQ,List.zip_cons_cons,chk,pC,h,cY]
   rw[D];by_cases K:x<y
   ·simp[K,lx,h]
   ·simp[K,lx,h]
theorem yHA (a b:List Int):z1P a b=zWQ a b 0:=rfl
def zS9 (a:List Int):bW:={x0:=a.length,x1:=cpA a 0 0,x2:=cpA a 1 0,x3:=cpA a 2 0,x4:=cpA a 3 0,x5:=cpA a 4 0,x6:=cpA a 5 0,x7:=cpA a 6 0,x8:=cpA a 7 0}
theorem z49 (a:List Int):zDO a=some (zS9 a):=rfl
theorem yHB {a b:List Int} (ha:a.length<=8) (h:zS9 a=zS9 b):a=b:=by
 unfold zS9 at h;simp only[bW.mk.injEq] at h;obtain⟨H,K,O,T,Y,Z,h6,h7,h8⟩:=h;have H:a.length=b.length:=by omega
 apply ia H;intro i hi k;have key:∀j,j<a.length->cpA a j 0=cpA b j 0->a.getD j 0=b.getD j 0:=λj _ h=>by simpa[cpA,fI] using h
 have:a.getD i 0=b.getD i 0:=by
  have D:i<8:=by omega
  match i,D with
  | 0,_=>exact key 0 hi K
  | 1,_=>exact key 1 hi O
  | 2,_=>exact key 2 hi T
  | 3,_=>exact key 3 hi Y
  | 4,_=>exact key 4 hi Z
  | 5,_=>exact key 5 hi h6
  | 6,_=>exact key 6 hi h7
  | 7,_=>exact key 7 hi h8
 simpa[fI,hi,k] using this
def kC (c:Collation):Collation:=if ckE c=0 then c else {aB:=[],aF:=[],bL:=64448,bF:=32,bK:=2}
def yDH (es:List bP) (m:List (bW×List aP)):List (bW×List aP):=es.foldl (λm x=>vD m (zS9 x.aY) x.aV) m
def zRZ (es:List bP) (n:Int):Int:=es.foldl (λn x=>max n (x.aY.length:Int)) n
def zTA (c:Collation):bI:={c:=kC c,entries:=yDH (kC c).aB [],bV:=zRZ (kC c).aB 0,bR:=[],top:=0}
theorem zZS (y:(List bP)×(List cC)×Int×Int×Int) (O:y.1.length<=2000):∀(n k:Nat) (m:List (bW×List aP)) (q:Int),y.1.length-k=n->
  zF (λ(x:Int×(List (bW×(List aP)))×Int)=>wS y x.1 x.2.1 x.2.2) ((k:Int),m,q)=some (yDH (y.1.drop k) m,zRZ (y.1.drop k) q):=by
 intro n
 induction n with
 | zero=>
  intro k m q H;have D:y.1.length<=k:=by omega
  rw[xK,dE D];simp only[wS,kH D,cN];rfl
 | succ n K=>
  intro k m q H;have h:k<y.1.length:=by omega
  rw[xK,cW h];simp only[wS,yS h,cO,zU h,zA,z49,zJ (k:=k) (by omega)];exact K (k+1) _ _ (by omega)
theorem yLL {c:Collation} (k:Sm c) (O:∀g∈c.aF,g.bT.length<=MX):zEF c=some (zTA c):=by
 unfold zEF;have K:zBS {aB:=c.aB,aF:=c.aF,bL:=c.bL,bF:=c.bF,bK:=c.bK}=some (ckE c):=yG9 k O;rw[K,zA];unfold zTA kC;have H:=k.en;by_cases D:ckE c=0;simp only[D,dA,dD,cN,dH,zA];have:=zZS (c.aB,c.aF,c.bL,c.bF,c.bK) (by show c.aB.length<=2000;omega) c.aB.length 0 [] 0 (by show c.aB.length-0=_;omega)
 have h:zF (λ(x:Int×(List (bW×(List aP)))×Int)=>wS (c.aB,c.aF,c.bL,c.bF,c.bK) x.1 x.2.1 x.2.2) (0,[],0)=some (yDH c.aB [],zRZ c.aB 0):=by simpa using this
 rw[h];rfl;simp only[D,dF,dS,cO,cY,zA];have:=zZS (([]:List bP),([]:List cC),64448,32,2) (by simp) 0 0 [] 0 (by simp);have h:zF (λ(x:Int×(List (bW×(List aP)))×Int)=>wS (([]:List bP),([]:List cC),64448,32,2) x.1 x.2.1 x.2.2) (0,[],0)=some (yDH [] [],zRZ [] 0):=by simpa using this
 rw[h];rfl
structure Vd (es:List bP):Prop where
 lo:∀x∈es,1<=x.aY.length
 hi:∀x∈es,x.aY.length<=8
 el:∀x∈es,x.aV.length<=20
 ne:es.Pairwise λx y=>x.aY≠y.aY
theorem z1Q {c:Collation} (hs:Sm c):Vd (kC c).aB:=by
 unfold kC;by_cases D:ckE c=0;simp only[D,dH];have hk:chk (pK c) c.aB 0=none:=by
  unfold ckE at D;split at D;cases D;split at D;rename_i hg;exact absurd D hg;cases hc:chk (pK c) c.aB 0 with
  | none=>rfl
  | some y=>
   rw[hc] at D;have H:y≠0:=zKA (P:=λy=>y≠0) (λk x y H=>by
    unfold pK at H;split at H;cases H;assumption;split at H;cases H;decide;cases H) hc
   exact absurd D H
 have hn:=zOK hk;have K:∀j (h:j<c.aB.length),enE c.aB[j] c.bL=0/\(0<j->lx (c.aB.getD (j-1) default).aY (c.aB[j]).aY):=by
  intro j h;have:=hn j h;rw[em] at this;unfold pK at this;split at this;cases this;rename_i h1;split at this;cases this;rename_i Z;refine⟨by simpa using h1,λO=>?_⟩;have h3:¬0<=z1P (c.aB.getD (j-1) default).aY (c.aB[j]).aY:=λh=>Z ⟨O,h⟩;exact((zS8 _ _ 0).1).1 (by rw[<-yHA];omega)
 have Y:∀j (h:j<c.aB.length),1<=(c.aB[j]).aY.length/\(c.aB[j]).aY.length<=8:=by
  intro j h;have:=(K j h).1;unfold enE at this;split at this;cases this;omega
 have ab:∀n i (h:i+n+1<c.aB.length),lx (c.aB[i]).aY (c.aB[i+n+1]).aY:=by
  intro n
  induction n with
  | zero=>
   intro i h;have:=(K (i+1) (by omega)).2 (by omega);have T:c.aB.getD (i+1-1) default=c.aB[i]:=by
    have:i<c.aB.length:=by omega
    simp[this]
   rw[T] at this;exact this
  | succ n ih=>
   intro i h;have h1:=ih i (by omega);have Z:=(K (i+(n+1)+1) (by omega)).2 (by omega);have T:c.aB.getD (i+(n+1)+1-1) default=c.aB[i+n+1]:=by
    have:i+n+1<c.aB.length:=by omega
    rw[show i+(n+1)+1-1=i+n+1 by omega];simp[this]
   rw[T] at Z;exact z48 h1 Z
 refine⟨λx hx=>?_,λx hx=>?_,hs.el,?_⟩;obtain⟨j,O,rfl⟩:=fc hx;exact(Y j O).1;obtain⟨j,O,rfl⟩:=fc hx;exact(Y j O).2;rw[hY];intro i j hi O ai he;have:=ab (j-i-1) i (by omega);have T:i+(j-i-1)+1=j:=by omega
 simp only[T] at this;rw[he] at this;exact zZR this;simp only[D,cY];exact⟨by simp,by simp,by simp,by simp⟩
theorem vL {K O:Type} [DecidableEq K] (m:List (K×O)) (k D: K) (v: O):mget (vD m k v) D=if D=k then some v else mget m D:=by
 induction m with
 | nil=>simp only[vD,mget]
 | cons p m T=>
  obtain⟨q,u⟩:=p;simp only[vD];by_cases H:k=q;subst H;simp only[dH,mget];by_cases h:D=k<;>simp[h];simp only[H,cY,mget];by_cases h:D=q;subst h;have:¬D=k:=λe=>H e.symm;simp[this];simp only[h,cY];exact T
theorem z96 (codes:List Int) (K:codes.length<=8):∀(es:List bP) (m:List (bW×List aP)),(∀x∈es,x.aY.length<=8)->es.Pairwise (λx y=>x.aY≠y.aY)->
  mget (yDH es m) (zS9 codes)=match es.find? (λx=>decide (x.aY=codes)) with | some x=>some x.aV | none=>mget m (zS9 codes)
 | [],m,_,_=>rfl
 | x::es,m,O,D=>by
  rw[eZ] at D;have Y:=z96 codes K es (vD m (zS9 x.aY) x.aV) (λy H=>O y (by simp[H])) D.2;show mget (yDH es (vD m (zS9 x.aY) x.aV)) (zS9 codes)=_;rw[Y,vL];by_cases h:x.aY=codes
  ·have k:es.find? (λx=>decide (x.aY=codes))=none:=by
    rw[iq];intro y H;have:=D.1 y H;simp only[cZ];intro e;exact this (h.trans e.symm)
   simp[k,h]
  ·have T:¬zS9 codes=zS9 x.aY:=λe=>h (yHB K e).symm
   simp[h,T]
theorem z1R:∀(es:List bP) (n:Int),n<=zRZ es n/\∀x∈es,(x.aY.length:Int)<=zRZ es n
 | [],n=>⟨by show n<=n;omega,by simp⟩
 | x::es,n=>by
  have h:=z1R es (max n (x.aY.length:Int));show n<=zRZ es (max n (x.aY.length:Int))/\∀y∈x::es,(y.aY.length:Int)<=zRZ es (max n (x.aY.length:Int));refine⟨by omega,λy hy=>?_⟩;rcases dM.1 hy with rfl | hy
  omega;exact h.2 y hy
theorem yHC:∀(es:List bP) (n:Int),(∀x∈es,x.aY.length<=8)->n<=8->zRZ es n<=8
 | [],n,_,h=>h
 | x::es,n,k,h=>yHC es (max n (x.aY.length:Int)) (λy D=>k y (by simp[D])) (by have:=k x (by simp);omega)
def zEB (es:List bP) (codes:List Int):List aP×Bool:=match es.find? (λx=>decide (x.aY=codes)) with
 | some x=>(x.aV,true)
 | none=>([],false)
theorem yLM {c:Collation} (hs:Sm c) {codes:List Int}:xD (zTA c) codes=some (zEB (kC c).aB codes):=by
 have D:=z1Q hs;unfold xD;simp only[zK,z49,zA];have k:=z1R (kC c).aB 0;have ac:=yHC (kC c).aB 0 D.hi (by omega);by_cases K:codes.length=0\/zRZ (kC c).aB 0<(codes.length:Int)
 ·have H:(decide ((codes.length:Int)=0) ||decide ((zTA c).bV<(codes.length:Int)))=true:=by
   simp only[fP,cZ];rcases K with h | h
   ·left;omega
   ·right;exact h
  rw[H,cO];have T:(kC c).aB.find? (λx=>decide (x.aY=codes))=none:=by
   rw[iq];intro x Y;simp only[cZ];intro e;have Z:=D.lo x Y;have h2:=k.2 x Y;rw[e] at Z h2;rcases K with h | h<;>omega
  simp only[zEB,T]
 ·have H:(decide ((codes.length:Int)=0) ||decide ((zTA c).bV<(codes.length:Int)))=false:=by
   simp only[fB,dB];refine⟨by omega,λh=>K (.inr h)⟩
  rw[H,cN];have hg:=z96 codes (by omega) (kC c).aB [] D.hi D.ne;have O:mget (zTA c).entries (zS9 codes)=match (kC c).aB.find? (λx=>decide (x.aY=codes)) with | some x=>some x.aV | none=>none:=hg
  simp only[mgetD,zDM,O,zEB];cases (kC c).aB.find? (λx=>decide (x.aY=codes))<;>rfl
open Go.AV
theorem yPC {k:Type} {l:List k} (h:l.length<=2000):app [] l=some l:=by
 rw[jY (by simp;omega)]
 rfl
theorem zWR {c:Collation} (k:Sm c) (h:∀g∈c.aF,g.bT.length<=MX):zHA c=some (kC c):=by unfold zHA kC;rw[z47 k h,zA];by_cases D:ckE c=0<;>simp[D]
theorem zWS {a b:List Int} (h:a.length<=4611686018427387904):uA a b=some (decide (a=b)):=by unfold uA;rw[zPZ h,zA,yHA];congr 1;rw[g7];simp only[cZ];exact(zS8 a b 0).2
theorem z5A (codes:List Int):∀(es:List bP) (k:Nat),chk (λ_ (x:bP)=>if x.aY=codes then some (true,x.aV) else none) es k=(es.find? (λx=>decide (x.aY=codes))).map λx=>(true,x.aV)
 | [],_=>rfl
 | x::es,k=>by
  simp only[chk,ir];by_cases h:x.aY=codes;simp[h];simp only[h,cY,dF];exact z5A codes es (k+1)
theorem z8L {es:List bP} (K:Vd es) (Y:es.length<=2000) {d:Collation} (T:d.aB=es) (codes:List Int):zEL d codes=some (zEB es codes):=by
 have D:zF (λ(v:Int)=>zDZ d codes v) 0=some (toS (chk (λ_ (x:bP)=>if x.aY=codes then some (true,x.aV) else none) es 0)):=by
  subst T;refine xU d.aB _ (λk h=>?_) (λk h=>?_);have O:=eF h;have e8:=K.hi _ O;simp only[zDZ,yS h,cO,zU h,zA,zWS (d9 e8 (by omega)),zJ (k:=k) (by omega)];by_cases H:(d.aB[k]).aY=codes;rw[yPC (d9 (K.el _ O) (by omega))];simp[H,stp,zA];simp[H,stp];simp only[zDZ,kH h,cN]
 unfold zEL zEB;rw[D,zA,xF,z5A];cases es.find? (λx=>decide (x.aY=codes))<;>rfl
theorem yLN {c:Collation} (k:Sm c):(kC c).aB.length<=2000:=by unfold kC;have:=k.en;by_cases h:ckE c=0;simp only[h,dH];omega;simp[h]
theorem yLO {es:List bP} (k:Vd es) (codes:List Int):(zEB es codes).1.length<=2000:=by
 unfold zEB;cases h:es.find? (λx=>decide (x.aY=codes)) with
 | none=>simp
 | some x=>exact d9 (k.el x (fK h)) (by omega)
def zUS (d:Collation) (h:Int):List aP:=if vld h=true then
 [({aT:=wi (d.bL+wi (h.tdiv 32768)),aL:=d.bF,aO:=d.bK,aD:=false}:aP),({aT:=wi (32768+h.tmod 32768),aL:=0,aO:=0,aD:=false}:aP)] else []
theorem z5B (c:Collation) (h:Int):xT (zTA c) h=some (zUS (kC c) h):=by unfold xT zUS;rw[zRX,zA];cases vld h<;>simp[zNY,zKJ,zTA]
theorem zOL {c:Collation} (D:Sm c) (k:∀g∈c.aF,g.bT.length<=MX) (h:Int):zEM c h=some (zUS (kC c) h):=by unfold zEM zUS;rw[zFY,zA,zWR D k];cases vld h<;>simp[zNY,zKJ]
theorem yLP (d:Collation) (h:Int):(zUS d h).length<=2000:=by unfold zUS;cases vld h<;>simp
open Go.AV
def nth {h:Type} [Inhabited h] (l:List h) (k:Nat): h:=l.getD k default
theorem zX {D:Type} [Inhabited D] {l:List D} {k:Nat} (h:k<l.length):yD l (k:Int)=some (nth l k):=by rw[zU h];simp[nth,h]
theorem vT {D:Type} [Inhabited D] {l:List D} {k:Nat} (h:k<l.length):nth l k∈l:=by simp[nth,h]
theorem zBQ {D:Type} [Inhabited D] {l:List D} {k:Nat} (h:k<l.length):nth l k=l[k]:=by simp[nth,h]
theorem zAW {H:Type} [Inhabited H] {l:List H} {p: H->Prop}:(∀k,k<l.length->p (nth l k))↔∀x∈l,p x:=by
 constructor;intro h x K;obtain⟨k,D,rfl⟩:=fc K;have:=h k D
 rwa [zBQ D] at this
 intro h k D;exact h _ (vT D)
def Ver (m:Option Int) (p:Prop):Prop:= ∃e,m=some e/\(e=0↔p)
theorem z5C {Y:Type} {body:Int->Option (Stp Int (Unit⊕Y))} (N:Nat) (P:Nat->Prop) (Q:Y->Prop) (s:Nat)
  (hb:∀k,s<=k->k<N->(P k/\body (k:Int)=some (.next ((k+1:Nat):Int)))\/(¬P k/\∃y,Q y/\body (k:Int)=some (.done (.inr y))))
  (he:∀k,N<=k->body (k:Int)=some (.done (.inl ()))):
  ∀(n k:Nat),N-k=n->s<=k->(zF body (k:Int)=some (.inl ())/\∀j,k<=j->j<N->P j)\/(∃y,Q y/\zF body (k:Int)=some (.inr y)/\¬∀j,k<=j->j<N->P j):=by
 intro n
 induction n with
 | zero=>
  intro k hk _;refine .inl ⟨zL (he k (by omega)),λj H K=>by omega⟩
 | succ n ih=>
  intro k hk hs;rcases hb k hs (by omega) with ⟨Z,h⟩ | ⟨Z,y,hy,h⟩
  ·rw[zM h]
   rcases ih (k+1) (by omega) (by omega) with ⟨H,K⟩ | ⟨y,hy,H,K⟩
   ·refine .inl ⟨H,λj T D=>?_⟩
    by_cases e:j=k
    ·subst e;exact Z
    ·exact K j (by omega) D
   ·exact .inr ⟨y,hy,H,λO=>K λj T D=>O j (by omega) D⟩
  ·exact .inr ⟨y,hy,zL h,λO=>Z (O k (dC _) (by omega))⟩
theorem w6 {X Y:Type} {P:Prop} {b:Bool} {k:X} {y:Y} {Q:Y->Prop} (hb:b=true↔¬P) (H:Q y):(P/\(cond b (some (Stp.done (Sum.inr y))) (some (.next k)):Option (Stp X (Unit⊕Y)))=some (.next k))\/(¬P/\∃D,Q D/\(cond b (some (Stp.done (Sum.inr y))) (some (.next k)):Option (Stp X (Unit⊕Y)))=some (.done (.inr D))):=by
 cases b with
 | true=>exact .inr ⟨hb.1 rfl,y,H,rfl⟩
 | false=>exact .inl ⟨Classical.byContradiction (λh=>Bool.noConfusion (hb.2 h)),rfl⟩
theorem kJ {Y:Type} {body:Int->Option (Stp Int (Unit⊕Y))} (N:Nat) (P:Nat->Prop) (Q:Y->Prop)
  (hb:∀k,k<N->(P k/\body (k:Int)=some (.next ((k+1:Nat):Int)))\/(¬P k/\∃y,Q y/\body (k:Int)=some (.done (.inr y))))
  (O:∀k,N<=k->body (k:Int)=some (.done (.inl ()))):
  (zF body 0=some (.inl ())/\∀j,j<N->P j)\/(∃y,Q y/\zF body 0=some (.inr y)/\¬∀j,j<N->P j):=by
 rcases z5C N P Q 0 (λk _ h=>hb k h) O N 0 (by omega) (by omega) with ⟨D,H⟩ | ⟨y,Z,D,H⟩
 ·exact .inl ⟨D,λj K=>H j (by omega) K⟩
 ·exact .inr ⟨y,Z,D,λT=>H λj _ K=>T j K⟩
theorem zO6 {Y:Type} {body:Int->Option (Stp Int (Unit⊕Y))} (N:Nat) (P:Nat->Prop) (Q:Y->Prop)
  (hb:∀k,k+1<N->(P k/\body ((k+1:Nat):Int)=some (.next ((k+2:Nat):Int)))\/(¬P k/\∃y,Q y/\body ((k+1:Nat):Int)=some (.done (.inr y))))
  (K:∀k,N<=k->body (k:Int)=some (.done (.inl ()))):
  (zF body 1=some (.inl ())/\∀j,j+1<N->P j)\/(∃y,Q y/\zF body 1=some (.inr y)/\¬∀j,j+1<N->P j):=by
 have:=z5C N (λk=>P (k-1)) Q 1 (λk D h=>by
  cases k with
  | zero=>omega
  | succ k=>exact hb k h) K (N-1) 1 (by omega) (by omega)
 rcases this with ⟨D,h⟩ | ⟨y,hy,D,h⟩
 ·exact .inl ⟨D,λj T=>h (j+1) (by omega) T⟩
 ·refine .inr ⟨y,hy,D,λO=>h λj Z H=>?_⟩
  cases j with
  | zero=>omega
  | succ j=>exact O j H
def spOk (s:bM):Prop:=0<=s.Lo/\s.Hi<=1114111/\s.Lo<=s.Hi/\1<=s.Value/\s.Value<=254
def adOk (a b:bM):Prop:=a.Hi<b.Lo/\¬(b.Lo=a.Hi+1/\b.Value=a.Value)
def hgOk (s:bM):Prop:= ¬(s.Lo<=4370/\4352<=s.Hi)/\¬(s.Lo<=4469/\4449<=s.Hi)/\¬(s.Lo<=4546/\4520<=s.Hi)/\¬(s.Lo<=55203/\44032<=s.Hi)
structure CV (l:List bM):Prop where
 sp:∀k,k<l.length->spOk (nth l k)
 ad:∀k,k+1<l.length->adOk (nth l k) (nth l (k+1))
 hg:∀k,k<l.length->hgOk (nth l k)
theorem yRX (s:bM):(zF (λ(x:Int)=>wU ({x0:=({Lo:=4352,Hi:=4370}:Range),x1:=({Lo:=4449,Hi:=4469}:Range),x2:=({Lo:=4520,Hi:=4546}:Range),x3:=({Lo:=44032,Hi:=55203}:Range)}:cE) s x) 0=some (.inl ())/\hgOk s)\/(zF (λ(x:Int)=>wU ({x0:=({Lo:=4352,Hi:=4370}:Range),x1:=({Lo:=4449,Hi:=4469}:Range),x2:=({Lo:=4520,Hi:=4546}:Range),x3:=({Lo:=44032,Hi:=55203}:Range)}:cE) s x) 0=some (.inr 11)/\¬hgOk s):=by
 have h:=kJ (body:=λ(x:Int)=>wU ({x0:=({Lo:=4352,Hi:=4370}:Range),x1:=({Lo:=4449,Hi:=4469}:Range),x2:=({Lo:=4520,Hi:=4546}:Range),x3:=({Lo:=44032,Hi:=55203}:Range)}:cE) s x) 4
  (λk=> ¬(s.Lo<=(nth [({Lo:=4352,Hi:=4370}:Range),{Lo:=4449,Hi:=4469},{Lo:=4520,Hi:=4546},{Lo:=44032,Hi:=55203}] k).Hi/\(nth [({Lo:=4352,Hi:=4370}:Range),{Lo:=4449,Hi:=4469},{Lo:=4520,Hi:=4546},{Lo:=44032,Hi:=55203}] k).Lo<=s.Hi)) (λy=>y=11) (λk O=>?_) (λk O=>?_)
 ·have e:(∀j,j<4->¬(s.Lo<=(nth [({Lo:=4352,Hi:=4370}:Range),{Lo:=4449,Hi:=4469},{Lo:=4520,Hi:=4546},{Lo:=44032,Hi:=55203}] j).Hi/\(nth [({Lo:=4352,Hi:=4370}:Range),{Lo:=4449,Hi:=4469},{Lo:=4520,Hi:=4546},{Lo:=44032,Hi:=55203}] j).Lo<=s.Hi))↔hgOk s:=by
   unfold hgOk;constructor
   ·intro h;exact⟨h 0 (by omega),h 1 (by omega),h 2 (by omega),h 3 (by omega)⟩
   ·rintro⟨T,D,H,Y⟩ j Z
    match j,Z with
    | 0,_=>exact T
    | 1,_=>exact D
    | 2,_=>exact H
    | 3,_=>exact Y
  rw[e] at h;rcases h with h | ⟨y,rfl,h⟩
  ·exact .inl h
  ·exact .inr h
 ·have hi:yD [({Lo:=4352,Hi:=4370}:Range),{Lo:=4449,Hi:=4469},{Lo:=4520,Hi:=4546},{Lo:=44032,Hi:=55203}] (k:Int)=some (nth [({Lo:=4352,Hi:=4370}:Range),{Lo:=4449,Hi:=4469},{Lo:=4520,Hi:=4546},{Lo:=44032,Hi:=55203}] k):=zX (by simpa using O)
  have K:decide ((k:Int)<4)=true:=by simp;omega
  simp only[wU,K,cO,hi,zA,zK,zJ (k:=k) (by omega)];generalize nth [({Lo:=4352,Hi:=4370}:Range),{Lo:=4449,Hi:=4469},{Lo:=4520,Hi:=4546},{Lo:=44032,Hi:=55203}] k=q;by_cases D:s.Lo<=q.Hi<;>by_cases H:q.Lo<=s.Hi<;>simp[D,H]
 ·have K:decide ((k:Int)<4)=false:=by simp;omega
  simp only[wU,K,cN]
theorem z5D {l:List bM} (hl:l.length<=2000) (ah:∀x∈l,b9 x):Ver (zCS l) (CV l):=by
 have Y:=kJ (body:=λ(x:Int)=>zAD l x) l.length (λk=>spOk (nth l k)) (λy=>y≠0) (λk D=>by
  simp only[zAD,yS D,cO,zX D,zA,zK,zJ (k:=k) (by omega),spOk];generalize nth l k=q;by_cases K:q.Lo<0<;>by_cases O:1114111<q.Hi<;>by_cases h3:q.Hi<q.Lo<;>by_cases h4:q.Value<1<;>by_cases h5:254<q.Value<;>simp[K,O,h3,h4,h5]<;>omega) (λk D=>by simp only[zAD,kH D,cN])
 unfold zCS Ver;rcases Y with ⟨Y,T⟩ | ⟨y,Z,Y,T⟩
 rw[Y];simp only[zA,eJ];have K:=zO6 (body:=λ(x:Int)=>zAE l x) l.length (λk=>adOk (nth l k) (nth l (k+1))) (λy=>y≠0) (λk D=>by
  have H:k<l.length:=by omega
  have w:=(T k H).2.1;have w0:=(T k H).1;have w1:=(T k H).2.2.1;simp only[zAE,yS D,cO,zX D,zA,zK,zJ (k:=k+1) (by omega),zD8 (k:=k) (by omega),zX H,adOk];rw[xN (n:=(nth l k).Hi+1) (by omega) (by omega)];generalize nth l k=q at*;generalize nth l (k+1)=q' at*;exact w6 (by simp only[fP,dL,cZ];omega) (by decide)) (λk D=>by simp only[zAE,kH D,cN])
 rcases K with ⟨K,p1⟩ | ⟨y,Z,K,p1⟩;rw[K];simp only[zA,eJ];have O:=kJ (body:=λ(x:Int)=>zAF l x) l.length (λk=>hgOk (nth l k)) (λy=>y≠0) (λk D=>by
  simp only[zAF,yS D,cO,zX D,zA,zK,zJ (k:=k) (by omega)];rcases yRX (nth l k) with ⟨h,p⟩ | ⟨h,p⟩
  rw[h];exact .inl ⟨p,rfl⟩;rw[h];exact .inr ⟨p,11,by decide,rfl⟩) (λk D=>by simp only[zAF,kH D,cN])
 rcases O with ⟨O,p2⟩ | ⟨y,Z,O,p2⟩;rw[O];exact⟨0,rfl,by simp only[true_iff];exact⟨T,p1,p2⟩⟩
 rw[O];exact⟨y,rfl,by simp only[Z,eW];exact λh=>p2 h.hg⟩
 rw[K];exact⟨y,rfl,by simp only[Z,eW];exact λh=>p1 h.ad⟩
 rw[Y];exact⟨y,rfl,by simp only[Z,eW];exact λh=>T h.sp⟩
open Go.AV
theorem yHE:∀(x y:Str),Op.bytesLess x y=decide (x<y)
 | [],[]=>by simp[Op.bytesLess]
 | _::_,[]=>by simp[Op.bytesLess]
 | [],_::_=>by simp[Op.bytesLess]
 | a::x,b::y=>by
  rw[Op.bytesLess,yHE x y];rw[g7];simp[List.cons_lt_cons_iff]
theorem z8M (s:Str) (D:s.length<=MX):zF (λ(x:Int)=>zAG s x) 0=some (toS (chk (λ_ (b:UInt8)=>if zHJ (b.toNat:Int) then none else some false) s 0)):=by
 refine xU s _ (λk h=>?_) (λk h=>?_);simp only[zAG,yS h,cO,z45 h,zA,zK,zJ (k:=k) (by unfold MX at D;omega)]
 have e:(((!(decide ((65:Int)<=(s[k].toNat:Int))&&decide ((s[k].toNat:Int)<=90) ||decide ((97:Int)<=(s[k].toNat:Int))&&decide ((s[k].toNat:Int)<=122)))&& !(decide ((48:Int)<=(s[k].toNat:Int))&&decide ((s[k].toNat:Int)<=57)))&& !decide ((s[k].toNat:Int)=95))= !zHJ (s[k].toNat:Int):=by
  unfold zHJ;generalize (decide ((65:Int)<=(s[k].toNat:Int))&&decide ((s[k].toNat:Int)<=90) ||decide ((97:Int)<=(s[k].toNat:Int))&&decide ((s[k].toNat:Int)<=122))=A;generalize (decide ((48:Int)<=(s[k].toNat:Int))&&decide ((s[k].toNat:Int)<=57))=B;generalize decide ((s[k].toNat:Int)=95)=C;cases A<;>cases B<;>cases C<;>rfl
 rw[e];cases zHJ (s[k].toNat:Int)<;>rfl;simp only[zAG,kH h,cN]
theorem yHF {s:Str} (O:s.length<=MX):zEG s=some (zOJ s):=by
 unfold zEG;rw[zK];cases s with
 | nil=>rfl
 | cons x l=>
  have H:((x::l:Str)== [])=false:=rfl;rw[H,eY];by_cases D:32<(x::l).length
  ·
   have:decide ((32:Int)<((x::l).length:Int))=true:=by simp at D ⊢;omega
   rw[this,cO];unfold zOJ;cases K:chk (λ_ (b:UInt8)=>if zHJ (b.toNat:Int) then none else some false) (x::l) 0 with
   | none=>
    have:decide ((x::l).length<=32)=false:=by simp at D ⊢;omega
    simp only[this,fG]
   | some y=>
    have:y=false:=zKA (P:=λy=>y=false) (λk b y h=>by split at h<;>simp_all) K
    simp[this]
  ·
   have:decide ((32:Int)<((x::l).length:Int))=false:=by simp at D ⊢;omega
   rw[this,cN,z8M _ O,zA,xF];unfold zOJ;cases chk (λ_ (b:UInt8)=>if zHJ (b.toNat:Int) then none else some false) (x::l) 0 with
   | none=>simp at D ⊢;omega
   | some y=>rfl
def codesOk (m:aI):Prop:=vld m.aW=true/\∀c∈m.To,vld c=true
def tagOk (m:aI):Prop:=m.bO= []\/zOJ m.bO=true
def mlt (a b:aI):Prop:=a.aW<b.aW\/(a.aW=b.aW/\a.bO<b.bO)
structure MV (l:List aI):Prop where
 co:∀m∈l,codesOk m
 sz:∀m∈l,m.To.length<=64
 tg:∀m∈l,tagOk m
 lt:∀k,k+1<l.length->mlt (nth l k) (nth l (k+1))
theorem yHG {body:Int->Option (Stp Int (Unit⊕Int))} {P:Prop} (h:(zF body 0=some (.inl ())/\P)\/(∃y,y≠0/\zF body 0=some (.inr y)/\¬P)) {f:Unit->Option Int} {R:Prop} (D:P->Ver (f ()) R) (k:R->P):
  Ver ((zF body 0).bind λy=>y.elim f λy=>some y) R:=by
 rcases h with ⟨h,p⟩ | ⟨y,H,h,p⟩
 ·rw[h];exact D p
 ·rw[h];exact⟨y,rfl,by simp only[H,eW];exact λr=>p (k r)⟩
section
variable {l:List aI} (hl:l.length<=2000) (hto:∀m∈l,m.To.length<=2000) (htg:∀m∈l,m.bO.length<=MX)
include hl hto htg
theorem yHH:Ver (zE7 l) ((∀m∈l,codesOk m)/\(∀m∈l,m.To.length<=64)/\∀m∈l,tagOk m):=by
 unfold zE7;refine yHG (P:= ∀m∈l,codesOk m) ?_ (λZ=>?_) (λr=>r.1)
 ·have h:=kJ (body:=λ(x:Int)=>zA3 l x) l.length (λk=>codesOk (nth l k)) (λy=>y≠0) (λk D=>?_) (λk D=>by simp only[zA3,kH D,cN])
  ·rw[zAW (p:=codesOk)] at h;exact h
  ·simp only[zA3,yS D,cO,zX D,zA,zRX,zJ (k:=k) (by omega)]
   by_cases K:vld (nth l k).aW=true
   ·have H:=kJ (body:=λ(x:Int)=>zA2 (nth l k) x) (nth l k).To.length (λj=>vld (nth (nth l k).To j)=true) (λy=>y≠0) (λj O=>by
     simp only[zA2,yS O,cO,zX O,zA,zRX,zJ (k:=j) (by have:=hto _ (vT D);omega)]
     exact w6 (by simp) (by decide)) (λj O=>by simp only[zA2,kH O,cN])
    rw[zAW (p:=λc=>vld c=true)] at H;simp only[K,dD,cN];rcases H with ⟨H,p⟩ | ⟨y,Y,H,p⟩
    ·rw[H];exact .inl ⟨⟨K,p⟩,rfl⟩
    ·rw[H];exact .inr ⟨λq=>p q.2,y,Y,rfl⟩
   ·simp only[gS] at K
    simp only[K,dS,cO];exact .inr ⟨λq=>(by rw[q.1] at K;cases K),1,by decide,rfl⟩
 ·refine yHG (P:= ∀m∈l,m.To.length<=64) ?_ (λp1=>?_) (λr=>r.2.1)
  ·have h:=kJ (body:=λ(x:Int)=>zA4 l x) l.length (λk=>(nth l k).To.length<=64) (λy=>y≠0) (λk D=>by
    simp only[zA4,yS D,cO,zX D,zA,zJ (k:=k) (by omega)];exact w6 (by simp only[cZ];omega) (by decide)) (λk D=>by simp only[zA4,kH D,cN])
   rw[zAW (p:=λ(m:aI)=>m.To.length<=64)] at h;exact h
  ·refine yHG (P:= ∀m∈l,tagOk m) ?_ (λp2=>⟨0,rfl,by simp only[true_iff];exact⟨Z,p1,p2⟩⟩) (λr=>r.2.2)
   have h:=kJ (body:=λ(x:Int)=>zA5 l x) l.length (λk=>tagOk (nth l k)) (λy=>y≠0) (λk D=>by
    simp only[zA5,yS D,cO,zX D,zA,zK,zJ (k:=k) (by omega),tagOk];have hb:((nth l k).bO== [])=decide ((nth l k).bO= []):=by cases (nth l k).bO<;>rfl
    rw[hb];by_cases T:(nth l k).bO= []
    ·simp only[T,dA,dD,vB,zA,dP,cN]
     exact .inl ⟨.inl trivial,trivial⟩
    ·simp only[T,dF,dS,xB,yHF (htg _ (vT D)),zA,dK,false_or]
     exact w6 (by simp) (by decide)) (λk D=>by simp only[zA5,kH D,cN])
   rw[zAW (p:=tagOk)] at h;exact h
omit hl hto htg in
theorem yNK (a b:Int):zG4 [a,b]=some (if a=0 then b else a):=by have k:decide ((0:Int)<(([a,b]:List Int).length:Int))=true:=rfl;have D:decide ((1:Int)<(([a,b]:List Int).length:Int))=true:=rfl;have H:decide ((2:Int)<(([a,b]:List Int).length:Int))=false:=rfl;unfold zG4;rw[xK];simp only[zDT,k,cO,yG4,zA];by_cases h:a=0;subst h;simp only[dA,dD,cN,dH];have w1:wi (0+1)=1:=xN (by omega) (by omega);rw[w1,xK];simp only[zDT,D,cO];have:yD ([0,b]:List Int) 1=some b:=rfl;rw[this];simp only[zA];by_cases hb:b=0;subst hb;simp only[dA,dD,cN];have w2:wi (1+1)=2:=xN (by omega) (by omega);rw[w2,xK];simp only[zDT,H,cN];rfl;simp[hb];simp[h]
omit hl hto htg in
theorem yUC (x y:Str):zBG x y=some (if x<y then -1 else if y<x then 1 else 0):=by
 unfold zBG zCT;simp only[zA,beq_self_eq_true,dD,cN,yHE];by_cases h:x<y
 ·simp[h]
 ·by_cases D:x=y
  ·subst D;simp[h]
  ·have k:y<x:=by
    by_cases k:y<x
    ·exact k
    ·exact absurd (List.le_antisymm (List.not_lt.1 k) (List.not_lt.1 h)) D
   have hb:(x==y)=false:=by simpa using D
   simp[h,k,hb]
omit hl hto htg in
theorem yUD (a b:aI):∃e,zDP a b=some e/\(0<=e↔¬mlt a b):=by
 unfold zDP;simp only[yDF,yUC,zA,yNK];refine⟨_,rfl,?_⟩;unfold mlt;by_cases h:a.aW<b.aW;simp[h];by_cases D:b.aW<a.aW;have:¬a.aW=b.aW:=by omega
 simp[h,D,this];have:a.aW=b.aW:=by omega
 by_cases k:a.bO<b.bO;simp[this,k];by_cases H:b.bO<a.bO<;>simp[this,k,H]
omit hto htg in
theorem yLQ:∀(n k:Nat) (b:Bool),l.length-k=n->1<=k->∃r,zF (λ(x:Bool×Int)=>uJ l x.1 x.2) (b,(k:Int))=some r/\(r=true↔b=true/\∀j,k<=j+1->j+1<l.length->mlt (nth l j) (nth l (j+1))):=by
 intro n
 induction n with
 | zero=>
  intro k b hk Z;refine⟨b,?_,?_⟩;rw[xK];simp only[uJ,kH (show l.length<=k by omega),cN];exact⟨λh=>⟨h,λj O H=>by omega⟩,λh=>h.1⟩
 | succ n ih=>
  intro k b hk Z;obtain⟨k,rfl⟩:∃k',k=k'+1:=⟨k-1,by omega⟩;have D:k+1<l.length:=by omega
  obtain⟨e,he,T⟩:=yUD (nth l k) (nth l (k+1));obtain⟨r,hr,hq⟩:=ih (k+2) (cond (decide (0<=e)) false b) (by omega) (by omega);refine⟨r,?_,?_⟩;rw[xK];simp only[uJ,yS D,cO,zD8 (k:=k) (by omega),zX (show k<l.length by omega),zX D,zA,he,zJ (k:=k+1) (by omega)];rw[<-hr];cases decide (0<=e)<;>rfl;rw[hq];by_cases K:mlt (nth l k) (nth l (k+1));have:decide (0<=e)=false:=by simp only[dB];exact λh=>T.1 h K
  rw[this,cN];constructor
  rintro⟨a,c⟩
  refine⟨a,λj O H=>?_⟩;by_cases Y:j=k;subst Y;exact K;exact c j (by omega) H
  rintro⟨a,c⟩;exact⟨a,λj O H=>c j (by omega) H⟩
  have:decide (0<=e)=true:=by simp only[cZ];exact T.2 K
  rw[this,cO];constructor
  rintro⟨a,_⟩;cases a
  rintro⟨_,c⟩;exact absurd (c k (by omega) D) K
omit hto htg in
theorem yPD:∀(n k:Nat) (m:List (bN×Bool)),l.length-k=n->∃r,zF (λ(x:Int×(List (bN×Bool)))=>uK l x.1 x.2) ((k:Int),m)=some r/\(r= .inl ()\/r= .inr 5):=by
 intro n
 induction n with
 | zero=>
  intro k m D;refine⟨.inl (),?_,.inl rfl⟩;rw[xK];simp only[uK,kH (show l.length<=k by omega),cN]
 | succ n H=>
  intro k m D;have h:k<l.length:=by omega
  rw[xK];simp only[uK,yS h,cO,zX h,zA,zE8,zJ (k:=k) (by omega)];cases mgetD m ({cH:=(nth l k).aW,cM:=(nth l k).bO}:bN) false with
  | true=>exact⟨.inr 5,rfl,.inr rfl⟩
  | false=>exact H (k+1) _ (by omega)
theorem yPE:Ver (zE9 l) (MV l):=by
 obtain⟨e,he,Y⟩:=yHH hl hto htg;unfold zE9;rw[he,zA];by_cases K:e=0;subst K;simp only[dA,dD,cN];obtain⟨p0,p1,p2⟩:=Y.1 rfl;obtain⟨r,O,Z⟩:=yLQ hl (l.length-1) 1 true rfl (by omega);have D:zF (λ(x:Bool×Int)=>uJ l x.1 x.2) (true,1)=some r:=O;rw[D,zA];cases r with
 | true=>exact⟨0,rfl,by simp only[true_iff];exact⟨p0,p1,p2,λk hk=>(Z.1 rfl).2 k (by omega) hk⟩⟩
 | false=>
  have H:¬MV l:=λh=>by have:=Z.2 ⟨rfl,λj _ hj=>h.lt j hj⟩;cases this
  obtain⟨r,O,T⟩:=yPD hl l.length 0 [] (by omega);have D:zF (λ(x:Int×(List (bN×Bool)))=>uK l x.1 x.2) (0,[])=some r:=O;simp only[cN];rw[D,zA];rcases T with rfl | rfl;exact⟨4,rfl,by simp only[show ((4:Int)=0)=False by simp,eW];exact H⟩
  exact⟨5,rfl,by simp only[show ((5:Int)=0)=False by simp,eW];exact H⟩
 have:(!decide (e=0))=true:=by simp[K]
 rw[this,cO];exact⟨e,rfl,by simp only[K,eW];exact λh=>K (Y.2 ⟨h.co,h.sz,h.tg⟩)⟩
end
open Go.AV
section
variable {α:Type} (lt: α->α->Bool)
def zAB:List α->α->List α->List α
 | [],x,s=>x::s
 | y::r,x,s=>if lt x y then zAB r x (y::s) else (y::r).reverse++x::s
def zA0 (l:List α) (p:List α):List α:=l.foldl (λp x=>zAB lt p.reverse x []) p
theorem z5E:∀(r:List α) (x: α) (s t:List α),zAB lt r x (s++t)=zAB lt r x s++t
 | [],x,s,t=>rfl
 | y::r,x,s,t=>by
  unfold zAB;split;exact z5E r x (y::s) t;simp
theorem zTB:∀(r:List α) (x: α) (s:List α),(zAB lt r x s).Perm (r.reverse++x::s)
 | [],x,s=> .refl _
 | y::r,x,s=>by
  unfold zAB;split
  ·
   refine(zTB r x (y::s)).trans ?_;simp only[List.reverse_cons,c9,iA];exact List.Perm.append_left _ (List.Perm.swap y x s)
  · exact .refl _
theorem zWT (r:List α) (x: α) (s:List α):(zAB lt r x s).length=r.length+1+s.length:=by rw[(zTB lt r x s).length_eq];simp;omega
theorem zMT:∀(l p:List α),(zA0 lt l p).Perm (p++l)
 | [],p=>by simp[zA0]
 | x::l,p=>by
  have h:=zMT l (zAB lt p.reverse x []);refine h.trans ?_;have k:=zTB lt p.reverse x [];rw[fN] at k;have D:=List.Perm.append_right l k;simpa using D
variable (tr:∀a b c,lt b a=false->lt c b=false->lt c a=false) (asy:∀a b,lt a b=true->lt b a=false)
abbrev LeB (a b: α):Prop:=lt b a=false
include tr asy
theorem zT3:∀(r:List α) (x: α) (s:List α),(r.reverse++s).Pairwise (LeB lt)->(∀y∈s,LeB lt x y)->(zAB lt r x s).Pairwise (LeB lt)
 | [],x,s,h,K=>by simpa[zAB] using ⟨K,h⟩
 | y::r,x,s,h,K=>by
  unfold zAB;split;rename_i D;refine zT3 r x (y::s) (by simpa using h) ?_;intro z hz;rcases dM.1 hz with rfl | hz
  exact asy _ _ D;exact K z hz;rename_i D;have H:LeB lt y x:=by simpa using D
  rw[iF] at h ⊢;refine⟨h.1,eZ.2 ⟨K,h.2.1⟩,?_⟩;intro a ha b hb;have k:LeB lt a y\/a=y:=by
   have O:=h.1;rw[List.reverse_cons,iF] at O;rw[List.reverse_cons,eK] at ha;rcases ha with ha | ha
   exact .inl (O.2.2 a ha y (by simp));exact .inr (by simpa using ha)
  rcases dM.1 hb with rfl | hb;rcases k with k | rfl;exact tr _ _ _ k H;exact H;exact h.2.2 a ha b hb
theorem zMU:∀(l p:List α),p.Pairwise (LeB lt)->(zA0 lt l p).Pairwise (LeB lt)
 | [],p,h=>h
 | x::l,p,h=>zMU l _ (zT3 lt tr asy p.reverse x [] (by simpa using h) (by simp))
omit tr asy in
theorem z5F:∀(l p:List α),(p++l).Pairwise (LeB lt)->zA0 lt l p=p++l
 | [],p,_=>by simp[zA0]
 | x::l,p,h=>by
  have e:zAB lt p.reverse x []=p++ [x]:=by
   cases D:p.reverse with
   | nil=>
    have:p= []:=by simpa using D
    subst this;rfl
   | cons y r=>
    unfold zAB;have k:p=r.reverse++ [y]:=by have:=congrArg List.reverse D;simpa using this
    have:lt x y=false:=by
     rw[k,iF] at h;exact h.2.2 y (by simp) x (by simp)
    rw[this];simp[k]
  show zA0 lt l (zAB lt p.reverse x [])=_;rw[e,z5F l (p++ [x]) (by simpa using h)];simp
end
def rlt (a b:Range):Bool:=decide (a.Lo<b.Lo) ||(decide (a.Lo=b.Lo)&&decide (a.Hi<b.Hi))
theorem yUE (a b:Range):∃e,zB5 a b=some e/\(e<0↔rlt a b=true):=by
 unfold zB5;simp only[yDF,zA,yNK];refine⟨_,rfl,?_⟩;unfold rlt;by_cases h:a.Lo<b.Lo;simp[h];by_cases D:b.Lo<a.Lo;have:¬a.Lo=b.Lo:=by omega
 simp[h,D,this];have:a.Lo=b.Lo:=by omega
 by_cases k:a.Hi<b.Hi;simp[this,k];by_cases H:b.Hi<a.Hi<;>simp[this,k,H]
theorem vU {D:Type} {p s:List D} {x: D} {k:Nat} (h:k=p.length):yD (p++x::s) (k:Int)=some x:=by subst h;rw[zU (by simp)];simp
theorem zAU {D:Type} {p s:List D} {x y: D} {k:Nat} (h:k=p.length):zBD (p++x::s) (k:Int) y=some (p++y::s):=by subst h;rw[zIJ (by simp)];simp
section
variable {f:Range->Range->Option Int} {lt:Range->Range->Bool} (hf:∀a b,∃e,f a b=some e/\(e<0↔lt a b=true))
include hf
theorem yNL:∀(r:List Range) (x:Range) (s:List Range),r.length<=2000->zF (λ(q:Int×List Range)=>yZ 0 f q.1 q.2) ((r.length:Int),r.reverse++x::s)=some (zAB lt r x s)
 | [],x,s,_=>by
  rw[xK];simp only[yZ,d7,zK];have:decide ((0:Int)<((0:Nat):Int))=false:=rfl;rw[this];simp[vB,zAB]
 | y::r,x,s,Z=>by
  simp only[dR] at Z ⊢;have O:decide ((0:Int)<((r.length+1:Nat):Int))=true:=by simp<;>omega
  have Y:(y::r).reverse++x::s=r.reverse++y::(x::s):=by simp
  have hw:wi (((r.length+1:Nat):Int)-1)=(r.length:Int):=zD8 (by omega);have i1:yD ((y::r).reverse++x::s) ((r.length+1:Nat):Int)=some x:=vU (by simp);have i0:yD ((y::r).reverse++x::s) (r.length:Int)=some y:=by rw[Y];exact vU (by simp)
  obtain⟨e,T,K⟩:=hf x y;rw[xK];simp only[yZ,O,zK,xB,i1,hw,i0,zA,T,dK];unfold zAB;by_cases H:lt x y=true;have k:decide (e<0)=true:=by simpa using K.2 H
  have s1:zBD ((y::r).reverse++x::s) ((r.length+1:Nat):Int) y=some ((y::r).reverse++y::s):=zAU (by simp);have D:(y::r).reverse++y::s=r.reverse++y::(y::s):=by simp
  have i2:yD ((y::r).reverse++y::s) (r.length:Int)=some y:=by rw[D];exact vU (by simp)
  have s2:zBD ((y::r).reverse++y::s) (r.length:Int) x=some (r.reverse++x::(y::s)):=by rw[D];exact zAU (by simp)
  simp only[k,cO,s1,zA,i2,s2,H,dH];exact yNL r x (y::s) (by omega);have k:decide (e<0)=false:=by simp only[dB];exact λh=>H (K.1 h)
  simp only[k,cN,H];rfl
theorem yHI:∀(l p:List Range),1<=p.length->p.length+l.length<=2000->zF (λ(q:Int×List Range)=>yL ((p.length+l.length:Nat):Int) 0 f q.1 q.2) ((p.length:Int),p++l)=some (zA0 lt l p)
 | [],p,_,_=>by
  rw[xK];simp only[yL,d7,fE,kH (dC _),cN,et];rfl
 | x::l,p,T,O=>by
  simp only[dR] at O ⊢;have h:=yNL hf p.reverse x l (by simp;omega)
  rw[gO,fN] at h;rw[xK];simp only[yL,yS (show p.length<p.length+(l.length+1) by omega),cO];rw[h,zA];have H:zAB lt p.reverse x l=zAB lt p.reverse x []++l:=by
   have:=z5E lt p.reverse x [] l;simpa using this
  have k:(zAB lt p.reverse x []).length=p.length+1:=by rw[zWT];simp
  have D:=yHI l (zAB lt p.reverse x []) (by omega) (by omega);rw[k] at D;have K:((p.length+1+l.length:Nat):Int)=((p.length+(l.length+1):Nat):Int):=by congr 1;omega
  rw[K] at D;rw[H,zJ (by omega)];exact D
theorem yLR (l:List Range) (h:l.length<=2000):jB l 0 (l.length:Int) f=some (zA0 lt l []):=by
 unfold jB;have D:wi (0+1)=((1:Nat):Int):=xN (by omega) (by omega);rw[D];cases l with
 | nil=>
  rw[xK];simp only[yL,kH (show ([]:List Range).length<=1 by simp),cN];rfl
 | cons x l=>
  have:=yHI hf l [x] (by simp) (by simp at h ⊢;omega)
  have e:((([x]:List Range).length+l.length:Nat):Int)=((x::l).length:Int):=by simp;omega
  rw[e] at this;have k:(([x]:List Range).length:Int)=((1:Nat):Int):=rfl;rw[k] at this;rw[show ([x]++l:List Range)=x::l from rfl] at this;rw[this];rfl
end
theorem yLS:∀n:Fin 13,∃e,zE4 (wu ((n.val:Nat):Int))=some e:=by
 intro n;have:∀n:Fin 13,(zE4 (wu ((n.val:Nat):Int))).isSome=true:=by decide
 exact gI.1 (this n)
theorem yLT {l:List Range} (h:l.length<=12):jE l (λa b=>zB5 a b)=some (zA0 rlt l []):=by
 unfold jE wE;obtain⟨e,D⟩:=yLS ⟨l.length,by omega⟩;rw[D,zA];have hb:kZ (l.length:Int) 0 l (λa b=>zB5 a b) e=some (.done (zA0 rlt l [])):=by
  unfold kZ;have H:wi ((l.length:Int)-0)=(l.length:Int):=xN (by omega) (by omega);have k:decide ((l.length:Int)<=12)=true:=by simp;omega
  rw[H,k,cO,yLR (lt:=rlt) yUE l (by omega)];rfl
 rw[zL (body:=λ(_:Unit)=>kZ (l.length:Int) 0 l (λa b=>zB5 a b) e) hb];rfl
theorem yPF (a b c:Range) (h:rlt b a=false) (k:rlt c b=false):rlt c a=false:=by unfold rlt at*;simp only[fB,eE,dB] at*;omega
theorem yLU (a b:Range) (h:rlt a b=true):rlt b a=false:=by unfold rlt at*;simp only[fB,eE,dB,fP,dL,cZ] at*;omega
open Go.AV
def zDL (r:Range):Prop:=0<=r.Lo/\r.Lo<=r.Hi/\r.Hi<=1114111
def Can:List Range->Prop
 | []=>True
 | [r]=>zDL r
 | r::q::l=>zDL r/\r.Hi+1<q.Lo/\Can (q::l)
theorem Can.head {r:Range} {l:List Range} (h:Can (r::l)):zDL r:=by
 cases l with
 | nil=>exact h
 | cons q l=>exact h.1
theorem Can.tail {r:Range} {l:List Range} (h:Can (r::l)):Can l:=by
 cases l with
 | nil=>trivial
 | cons q l=>exact h.2.2
theorem Can.ok:∀{l:List Range},Can l->∀r∈l,zDL r
 | [],_,r,k=>by cases k
 | q::l,h,r,k=>by
  rcases dM.1 k with rfl | k;exact h.head;exact Can.ok h.tail r k
theorem Can.gap:∀{l:List Range} {r:Range},Can (r::l)->∀q∈l,r.Hi+1<q.Lo
 | [],_,_,q,k=>by cases k
 | a::l,r,h,q,k=>by
  rcases dM.1 k with rfl | k;exact h.2.1;have H:=Can.gap h.2.2 q k;have D:=(h.2.2.head);have K:=h.2.1;unfold zDL at D;omega
theorem Can.sorted:∀{l:List Range},Can l->l.Pairwise (LeB rlt)
 | [],_=> .nil
 | r::l,h=>by
  refine eZ.2 ⟨λq D=>?_,Can.sorted h.tail⟩;have H:=Can.gap h q D;have k:=h.head;unfold zDL at k;unfold LeB rlt;simp only[fB,eE,dB];omega
def z1S (r:Range):Range:={Lo:=max r.Lo 0,Hi:=min r.Hi 1114111}
def zFZ (l:List Range):List Range:=(l.map z1S).filter λr=>decide (r.Lo<=r.Hi)
theorem zWU (x:Range) (l:List Range):zFZ (x::l)=(if (z1S x).Lo<=(z1S x).Hi then [z1S x] else [])++zFZ l:=by unfold zFZ;rw[eA,ib];by_cases h:(z1S x).Lo<=(z1S x).Hi<;>simp[h]
theorem z5G (x:Range) (l:List Range):zFZ (x::l)=(if max x.Lo 0<=min x.Hi 1114111 then [({Lo:=max x.Lo 0,Hi:=min x.Hi 1114111}:Range)] else [])++zFZ l:=zWU x l
theorem z5H (l:List Range):∀r∈zFZ l,zDL r:=by intro r k;unfold zFZ at k;rw[fb,eM] at k;obtain⟨⟨q,_,rfl⟩,h⟩:=k;simp only[cZ] at h;unfold z1S at h ⊢;unfold zDL;simp only at h ⊢;omega
theorem yHJ {l:List Range} (h:∀r∈l,zDL r):zFZ l=l:=by
 induction l with
 | nil=>rfl
 | cons x l H=>
  have k:=h x (by simp);have:z1S x=x:=by
   unfold zDL at k;unfold z1S;cases x;simp only[Range.mk.injEq] at k ⊢;omega
  rw[zWU,this,dG k.2.1,H λr D=>h r (by simp[D])];rfl
theorem zZT (l:List Range):(zFZ l).length<=l.length:=by unfold zFZ;exact d9 (g9 _ _) (by simp)
theorem yUF {l:List Range} (Y:l.length<=2000):∀(n k:Nat) (o:List Range),l.length-k=n->k<=l.length->o.length<=k->zF (λ(x:Int×(List Range))=>zCD l x.1 x.2) ((k:Int),o)=some (o++zFZ (l.drop k)):=by
 intro n
 induction n with
 | zero=>
  intro k o K O T;rw[xK];simp only[zCD,kH (show l.length<=k by omega),cN];rw[dE (by omega)];simp[zFZ]
 | succ n H=>
  intro k o K O T;have h:k<l.length:=by omega
  rw[xK];simp only[zCD,yS h,cO,zU h,zA,zJ (k:=k) (by omega)];rw[cW h,z5G];by_cases D:max l[k].Lo 0<=min l[k].Hi 1114111;simp only[D,dA,cO,dH];rw[jY (by simp;omega)]
  simp only[zA];have:=H (k+1) (o++ [({Lo:=max l[k].Lo 0,Hi:=min l[k].Hi 1114111}:Range)]) (by omega) (by omega) (by simp;omega)
  rw[c9] at this;exact this;simp only[D,dF,cN,cY,zA,dO];exact H (k+1) o (by omega) (by omega) (by omega)
def mrg:List Range->Range->List Range
 | [],r=>[r]
 | q::l,r=>if r.Lo<=q.Hi+1 then {q with Hi:=max q.Hi r.Hi}::l else r::q::l
theorem zL5 (q:Range) (l:List Range) (r:Range):mrg (q::l) r=if r.Lo<=q.Hi+1 then {q with Hi:=max q.Hi r.Hi}::l else r::q::l:=rfl
theorem yLV (o:List Range) (r:Range):(mrg o r).length<=o.length+1:=by
 cases o with
 | nil=>simp[mrg]
 | cons q l=>rw[zL5];split<;>simp
theorem yPG {o:List Range} {r:Range} (h:∀q∈o,zDL q) (k:zDL r):∀q∈mrg o r,zDL q:=by
 cases o with
 | nil=>simpa[mrg] using k
 | cons q l=>
  intro x hx;have D:=h q (by simp);unfold zDL at D k;rw[zL5] at hx;split at hx;rcases dM.1 hx with rfl | hx
  unfold zDL;simp only;omega;exact h x (by simp[hx]);rcases dM.1 hx with rfl | hx
  exact k;exact h x hx
theorem yUG {t:List Range} (ht:t.length<=2000) (O:∀r∈t,zDL r):∀(n k:Nat) (o:List Range),t.length-k=n->k<=t.length->o.length<=k->(∀r∈o,zDL r)->zF (λ(x:Int×(List Range))=>zCE t x.1 x.2) ((k:Int),o.reverse)=some ((t.drop k).foldl mrg o).reverse:=by
 intro n
 induction n with
 | zero=>
  intro k o h1 h2 Y K;rw[xK];simp only[zCE,kH (show t.length<=k by omega),cN];rw[dE (by omega)];rfl
 | succ n ih=>
  intro k o h1 h2 Y K;have h:k<t.length:=by omega
  have hr:=O _ (eF h);rw[cW h,io];rw[<-ih (k+1) (mrg o t[k]) (by omega) (by omega) (by have:=yLV o t[k];omega) (yPG K hr)]
  rw[xK];simp only[zCE,yS h,cO,zU h,zA,zK,zJ (k:=k) (by omega)];cases o with
  | nil=>
   have H:decide ((0:Int)<((([]:List Range).reverse).length:Int))=false:=rfl;simp only[H,vB,zA,dP,cN];rw[jY (by simp)];rfl
  | cons q l=>
   have hq:=K q (by simp);unfold zDL at hq;have D:((q::l).reverse).length=l.length+1:=by simp
   simp only[dR] at Y;have H:decide ((0:Int)<(((q::l).reverse).length:Int))=true:=by rw[D];simp<;>omega
   have e1:wi ((((q::l).reverse).length:Int)-1)=(l.length:Int):=by rw[D];exact zD8 (by omega)
   have T:(q::l).reverse=l.reverse++q:: []:=by simp
   have i1:yD (q::l).reverse (l.length:Int)=some q:=by rw[T];exact vU (by simp)
   have e3:wi (q.Hi+1)=q.Hi+1:=xN (by omega) (by omega);simp only[H,e1,i1,xB,zA,dK,e3];rw[zL5];by_cases Z:t[k].Lo<=q.Hi+1;simp only[Z,dA,cO,dH];have s1:zBD (q::l).reverse (l.length:Int) ({q with Hi:=max q.Hi t[k].Hi})=some (({q with Hi:=max q.Hi t[k].Hi}::l).reverse):=by
    rw[T,zAU (by simp)];simp
   rw[s1];rfl;simp only[Z,dF,cN,cY];rw[jY (by simp;omega)]
   simp only[zA];congr 2;simp
def mkE (l:List Range):List Range:=((zA0 rlt (zFZ l) []).foldl mrg []).reverse
theorem yLW {l:List Range} (O:l.length<=12):zJQ l=some {Ranges:=mkE l}:=by
 unfold zJQ;have H:=yUF (l:=l) (by omega) l.length 0 [] (by omega) (by omega) (by simp);simp only[d8,dO] at H;have h:zF (λ(x:Int×(List Range))=>zCD l x.1 x.2) (0,[])=some (zFZ l):=H;rw[h,zA,yLT (d9 (zZT l) O),zA];have D:=zMT rlt (zFZ l) [];simp only[dO] at D;have K:=yUG (t:=zA0 rlt (zFZ l) []) (by rw[D.length_eq];have:=zZT l;omega) (λr T=>z5H l r (D.mem_iff.1 T)) (zA0 rlt (zFZ l) []).length 0 [] (by omega) (by omega) (by simp) (by simp)
 simp only[d8] at K;have k:zF (λ(x:Int×(List Range))=>zCE (zA0 rlt (zFZ l) []) x.1 x.2) (0,[])=some (mkE l):=K;rw[k];rfl
def CanR:List Range->Prop
 | []=>True
 | [r]=>zDL r
 | r::q::l=>zDL r/\q.Hi+1<r.Lo/\CanR (q::l)
theorem CanR.tail {r:Range} {l:List Range} (h:CanR (r::l)):CanR l:=by
 cases l with
 | nil=>trivial
 | cons q l=>exact h.2.2
theorem CanR.head {r:Range} {l:List Range} (h:CanR (r::l)):zDL r:=by
 cases l with
 | nil=>exact h
 | cons q l=>exact h.1
theorem z1T:∀(r l:List Range),CanR r->Can l->(∀x y,r.head? =some x->l.head? =some y->x.Hi+1<y.Lo)->Can (r.reverse++l)
 | [],l,_,h,_=>h
 | x::r,l,k,K,H=>by
  have:=z1T r (x::l) k.tail (by
   cases l with
   | nil=>exact k.head
   | cons y l=>exact⟨k.head,H x y rfl rfl,K⟩) (λa b D hb=>by
    cases r with
    | nil=>cases D
    | cons q r=>simp only[hF,fC] at D hb;subst D;subst hb;exact k.2.1)
  simpa using this
theorem z97:∀(t o:List Range),t.Pairwise (LeB rlt)->(∀r∈t,zDL r)->CanR o->(∀q r,o.head? =some q->r∈t->q.Lo<=r.Lo)->CanR (t.foldl mrg o)
 | [],o,_,_,h,_=>h
 | r::t,o,hs,K,Y,H=>by
  have T:=eZ.1 hs;have Z:=K r (by simp);have O:∀x∈t,r.Lo<=x.Lo:=λx D=>by
   have:=T.1 x D;unfold LeB rlt at this;simp only[fB,dB] at this;omega
  rw[io];refine z97 t (mrg o r) T.2 (λx D=>K x (by simp[D])) ?_ ?_;cases o with
  | nil=>exact Z
  | cons q l=>
   have hq:=Y.head;have ac:=H q r rfl (by simp);rw[zL5];split;rename_i hc;unfold zDL at hq Z;cases l with
   | nil=>show zDL _;unfold zDL;simp only;omega
   | cons z l=>exact⟨by unfold zDL;simp only;omega,Y.2.1,Y.2.2⟩
   rename_i hc;exact⟨Z,by omega,Y⟩
  intro q' x k D;cases o with
  | nil=>simp only[mrg,hF,fC] at k;subst k;exact O x D
  | cons q l=>
   rw[zL5] at k;split at k;simp only[hF,fC] at k;subst k;exact H q x rfl (by simp[D]);simp only[hF,fC] at k;subst k;exact O x D
theorem yLX (l:List Range):Can (mkE l):=by have k:=zMT rlt (zFZ l) [];simp only[dO] at k;have h:=z97 (zA0 rlt (zFZ l) []) [] (zMU rlt yPF yLU _ _ .nil) (λr D=>z5H l r (k.mem_iff.1 D)) trivial (λ_ _ h=>by cases h);have:=z1T _ [] h trivial (λ_ _ _ h=>by cases h);simpa[mkE] using this
theorem yHK:∀(t o:List Range),Can (o.reverse++t)->t.foldl mrg o=t.reverse++o
 | [],o,_=>by simp
 | r::t,o,h=>by
  rw[io];have e:mrg o r=r::o:=by
   cases o with
   | nil=>rfl
   | cons q l=>
    rw[zL5];have:Can (q::r::t):=by
     have k:Can (l.reverse++(q::r::t)):=by simpa using h
     clear h;generalize l.reverse=z at k
     induction z with
     | nil=>exact k
     | cons a z D=>exact D k.tail
    have:=this.2.1;rw[dN (by omega)]
  rw[e,yHK t (r::o) (by simpa using h)];simp
theorem yPH {l:List Range} (h:Can l):mkE l=l:=by unfold mkE;rw[yHJ h.ok,z5F rlt l [] (by simpa using h.sorted)];simp only[dO];rw[yHK l [] (by simpa using h)];simp
theorem yLY (l:List Range):mkE l=l↔Can l:=⟨λh=>h▸yLX l,yPH⟩
theorem yHL {s:Set} (Z:s.Ranges.length<=12):∃b,zHZ s=some b/\(b=true↔Can s.Ranges):=by
 unfold zHZ;rw[yLW Z,zA,<-yLY];by_cases D:(mkE s.Ranges).length=s.Ranges.length;have K:(!decide (((mkE s.Ranges).length:Int)=(s.Ranges.length:Int)))=false:=by simp[D]
 simp only[K,cN];have h:=kJ (body:=λ(x:Int)=>zCU {Ranges:=mkE s.Ranges} s x) (mkE s.Ranges).length (λk=>nth (mkE s.Ranges) k=nth s.Ranges k) (λy=>y=false) (λk H=>by
  have O:k<s.Ranges.length:=by omega
  simp only[zCU,yS H,cO,zX H,zX O,zA,zJ (k:=k) (by omega)];exact w6 (by simp) rfl) (λk H=>by simp only[zCU,kH H,cN])
 have e:(∀j,j<(mkE s.Ranges).length->nth (mkE s.Ranges) j=nth s.Ranges j)↔mkE s.Ranges=s.Ranges:=by
  constructor;intro h;refine ia D λj T Y=>?_;have:=h j T
  rwa [zBQ T,zBQ Y] at this
  intro h j _;rw[h]
 rw[e] at h;rcases h with ⟨h,p⟩ | ⟨y,rfl,h,p⟩
 rw[h];exact⟨true,rfl,by simp[p]⟩;rw[h];exact⟨false,rfl,by simp[p]⟩;have K:(!decide (((mkE s.Ranges).length:Int)=(s.Ranges.length:Int)))=true:=by simp;omega
 simp only[K,cO];exact⟨false,rfl,by simp only[dQ,eW];exact λh=>D (by rw[h])⟩
open Go.AV
def hkE (c:Int):Int:=if 4352<=c/\c<4371 then 1 else if 4449<=c/\c<4470 then 2 else if 4520<=c/\c<4547 then 3 else if c<44032\/55204<=c then 0 else if (c-44032)%28=0 then 4 else 5
theorem zO7 (c:Int):zEH c=some (hkE c):=by
 unfold zEH hkE;simp only[zK];by_cases D:4352<=c/\c<4371;simp[D];by_cases H:4449<=c/\c<4470;have:¬c<4371:=by omega
 simp[H,this];by_cases K:4520<=c/\c<4547;have a1:¬c<4371:=by omega
 have a2:¬c<4470:=by omega
 simp[K,a1,a2];have O:(decide (4352<=c)&&decide (c<4371))=false:=by simp only[eE,dB];omega
 have T:(decide (4449<=c)&&decide (c<4470))=false:=by simp only[eE,dB];omega
 have Y:(decide (4520<=c)&&decide (c<4547))=false:=by simp only[eE,dB];omega
 simp only[O,T,Y,cN,D,H,K,cY];by_cases k:c<44032\/55204<=c;have h:(decide (c<44032) ||decide (55204<=c))=true:=by simpa using k
 simp only[h,cO,k,dH];have h:(decide (c<44032) ||decide (55204<=c))=false:=by simp only[fB,dB];omega
 simp only[h,cN,k,cY];rw[xN (by omega) (by omega)];unfold zKJ;rw[dN (by omega),zA];have:(c-44032).tmod 28=(c-44032)%28:=fW (by omega);rw[this];by_cases Z:(c-44032)%28=0<;>simp[Z]
def syl (c:Int):Bool:=decide (44032<=c)&&decide (c<=55203)
theorem zI6 (c:Int):syl c=true↔4<=hkE c:=by
 unfold syl hkE;simp only[dL,cZ]
 repeat' split
 all_goals omega
def hdE (c:Int):List Int:=if syl c=true then [4352+(c-44032)/28/21,4449+(c-44032)/28%21]++(if 0<(c-44032)%28 then [4520+(c-44032)%28-1] else []) else [c]
theorem zR0 {c e:Int} (k:syl c=true) (he:e∈hdE c):syl e=false/\hkE e≠0:=by
 unfold hdE at he;rw[dG k] at he;unfold syl at k;simp only[dL,cZ] at k;have key:(4352<=e/\e<4371)\/(4449<=e/\e<4470)\/(4520<=e/\e<4547):=by
  simp only[eK,dM,iG,or_false] at he;rcases he with (rfl | rfl) | he
  left;omega;right;left;omega;split at he;simp only[gx] at he;right;right;omega;simp at he
 constructor;unfold syl;simp only[eE,dB];omega;unfold hkE;rcases key with h | h | h
 rw[dG h];decide;rw[dN (by omega),dG h];decide;rw[dN (by omega),dN (by omega),dG h];decide
theorem zQL (c:Int):(hdE c).length<=3/\1<=(hdE c).length:=by unfold hdE;split;split<;>simp;simp
theorem z98 {c:Int} (k:syl c=true):zCV c=some (hdE c):=by
 have hk:=(zI6 c).1 k;have h:=k;unfold syl at h;simp only[dL,cZ] at h;unfold zCV zI3;rw[zO7,zA];have O:decide (hkE c<4)=false:=by simp;omega
 simp only[O,cN];rw[xN (n:=c-44032) (by omega) (by omega)];generalize T:c-44032=n;have Y:0<=n/\n<11172:=by omega
 have H:n.tdiv 28=n/28:=hJ (by omega);have K:(n/28).tdiv 21=n/28/21:=hJ (by omega);have Z:n.tmod 28=n%28:=fW (by omega);have m2:(n/28).tmod 21=n/28%21:=fW (by omega);simp only[zNY,zKJ,show ((28:Int)=0)=False by simp,show ((21:Int)=0)=False by simp,cY,zA,H,Z];rw[xN (n:=n/28) (by omega) (by omega)];simp only[K,m2];rw[xN (n:=n/28/21) (by omega) (by omega),xN (n:=4352+n/28/21) (by omega) (by omega),xN (n:=4449+n/28%21) (by omega) (by omega),xN (n:=4520+n%28) (by omega) (by omega),xN (n:=4520+n%28-1) (by omega) (by omega)];unfold hdE;rw[dG k,T];by_cases D:0<n%28;simp only[D,dA,cO,zA,dH];have a1:decide (({x0:=4352+n/28/21,x1:=4449+n/28%21,x2:=4520+n%28-1}:b4)= {x0:=0,x1:=0,x2:=0})=false:=by simp;omega
 have a2:decide ((4520+n%28-1:Int)=0)=false:=by simp;omega
 simp only[a1,a2,cN];rfl;simp only[D,dF,cN,zA,cY];have a1:decide (({x0:=4352+n/28/21,x1:=4449+n/28%21,x2:=0}:b4)= {x0:=0,x1:=0,x2:=0})=false:=by simp;omega
 simp only[a1,cN,dA,cO];rfl
theorem zQM {lo hi:Nat} (h:lo+hi<=4611686018427387903):wi ((wu (wi ((lo:Int)+(hi:Int))))/2 ^ 1)=(((lo+hi)/2:Nat):Int):=by rw[xN (n:=(lo:Int)+hi) (by omega) (by omega)];have:wu ((lo:Int)+(hi:Int))=(lo:Int)+hi:=IntWalk.u64_in _ (by omega);rw[this,xN (by omega) (by omega)];omega
theorem z1U {n:Nat} (hn:n<=2000) {body:Int×Int->Option (Stp (Int×Int) Int)} (q:Nat->Bool)
  (h:∀k:Nat,k<=n->body ((k:Int),(k:Int))=some (.done (k:Int)))
  (H:∀lo hi:Nat,lo<hi->hi<=n->body ((lo:Int),(hi:Int))=some (.next (if q ((lo+hi)/2) then ((lo:Int),(((lo+hi)/2:Nat):Int)) else ((((lo+hi)/2+1:Nat):Int),(hi:Int)))))
  (mono:∀i j,i<=j->j<n->q i=true->q j=true):
  ∃j,j<=n/\zF body (0,(n:Int))=some (j:Int)/\(∀k,k<j->q k=false)/\(∀k,j<=k->k<n->q k=true):=by
 have key:∀(d lo hi:Nat),hi-lo<=d->lo<=hi->hi<=n->(∀k,k<lo->q k=false)->(∀k,hi<=k->k<n->q k=true)->
   ∃j,j<=n/\zF body ((lo:Int),(hi:Int))=some (j:Int)/\(∀k,k<j->q k=false)/\(∀k,j<=k->k<n->q k=true):=by
  intro d
  induction d with
  | zero=>
   intro lo hi h1 h2 D T Y;have:lo=hi:=by omega
   subst this;exact⟨lo,D,zL (h lo D),T,Y⟩
  | succ d ih=>
   intro lo hi h1 h2 D T Y;by_cases e:lo=hi
   ·subst e
    exact⟨lo,D,zL (h lo D),T,Y⟩
   ·have aa:lo<hi:=by omega
    have O:(lo+hi)/2<n:=by omega
    rw[zM (H lo hi aa D)];cases hq:q ((lo+hi)/2) with
    | true=>
     rw[dG rfl];exact ih lo ((lo+hi)/2) (by omega) (by omega) (by omega) T (λk Z K=>mono _ _ Z K hq)
    | false=>
     rw[dN (by simp)];refine ih ((lo+hi)/2+1) hi (by omega) (by omega) D ?_ Y;intro k Z;cases ab:q k with
     | false=>rfl
     | true=>
      have:=mono k ((lo+hi)/2) (by omega) O ab;rw[hq] at this;cases this
 exact key n 0 n (by omega) (by omega) (by omega) (by intro k Z;omega) (by intro k Z K;omega)
theorem zR1 {k:Type} [Inhabited k] {l:List k} {p: k->Bool} {i:Nat} (hi:i<l.length) (h:∀j,j<i->p (nth l j)=false) (H:p (nth l i)=true):l.find? p=some (nth l i):=by rw[List.find?_eq_some_iff_getElem];refine⟨H,i,hi,(zBQ hi).symm,λj D=>?_⟩;have:=h j D;rw[zBQ (by omega)] at this;simp[this]
theorem z1V {D:Type} [Inhabited D] {l:List D} {p: D->Bool} (h:∀j,j<l.length->p (nth l j)=false):l.find? p=none:=by rw[iq];intro x K;obtain⟨k,H,rfl⟩:=fc K;have:=h k H;rw[zBQ H] at this;simp[this]
def zUU (c:Int) (s:bM):Bool:=decide (s.Lo<=c)&&decide (c<=s.Hi)
def clE (l:List bM) (c:Int):Int:=match l.find? (zUU c) with
 | some s=>s.Value
 | none=>0
theorem CV.mono {l:List bM} (h:CV l):∀(d i:Nat),i+d+1<l.length->(nth l i).Hi<(nth l (i+d+1)).Lo
 | 0,i,hi=>(h.ad i hi).1
 | d+1,i,hi=>by
  have D:=CV.mono h d i (by omega);have k:=h.sp (i+d+1) (by omega);have H:=(h.ad (i+d+1) (by omega)).1;unfold spOk at k;have:i+(d+1)+1=i+d+1+1:=by omega
  rw[this];omega
theorem CV.lt {l:List bM} (h:CV l) {i j:Nat} (k:i<j) (D:j<l.length):(nth l i).Hi<(nth l j).Lo:=by
 have:=CV.mono h (j-i-1) i (by omega)
 rwa [show i+(j-i-1)+1=j by omega] at this
theorem CV.hi {l:List bM} (h:CV l) {i j:Nat} (k:i<=j) (D:j<l.length):(nth l i).Hi<=(nth l j).Hi:=by rcases Nat.lt_or_eq_of_le k with H | rfl;have:=h.lt H D;have K:=h.sp j D;unfold spOk at K;omega;exact fT _
theorem yNM {l:List bM} (h:CV l) {c:Int} {i:Nat} (hi:i<=l.length) (O:∀j,j<i->(nth l j).Hi<c) (T:∀j,i<=j->j<l.length->c<=(nth l j).Hi):
  clE l c=if i<l.length/\(nth l i).Lo<=c then (nth l i).Value else 0:=by
 unfold clE;by_cases k:i<l.length/\(nth l i).Lo<=c
 ·have H:=zR1 (p:=zUU c) k.1 (λj D=>by
   unfold zUU;have:=O j D;simp only[eE,dB];omega) (by
   unfold zUU;simp only[dL,cZ];exact⟨k.2,T i (dC _) k.1⟩)
  rw[dG k,H]
 ·have H:=z1V (l:=l) (p:=zUU c) (λj D=>by
   unfold zUU;simp only[eE,dB];by_cases K:j<i
   ·have:=O j K;omega
   ·by_cases e:j=i
    ·subst e;left;exact λY=>k ⟨D,Y⟩
    ·have Z:=h.lt (show i<j by omega) D
     have h2:=T i (dC _) (by omega);left;omega)
  rw[dN k,H]
theorem zKB {l:List bM} (h:CV l) (hl:l.length<=2000) (c:Int):jD l c=some (clE l c):=by
 obtain⟨j,Y,hr,O,H⟩:=z1U (n:=l.length) hl (body:=λ(x:Int×Int)=>yG l (λx0 x1=>zA6 x0 x1) c x.1 x.2) (λk=>decide (c<=(nth l k).Hi))
  (λk _=>by simp only[yG,kH (dC _),cN])
  (λlo hi h1 h2=>by
   have hm:(lo+hi)/2<l.length:=by omega
   simp only[yG,yS h1,cO,zQM (show lo+hi<=4611686018427387903 by omega),zX hm,zA,zA6,zJ (k:=(lo+hi)/2) (by omega)];by_cases Z:(nth l ((lo+hi)/2)).Hi<c;have:¬c<=(nth l ((lo+hi)/2)).Hi:=by omega
   simp[Z,this];have:c<=(nth l ((lo+hi)/2)).Hi:=by omega
   by_cases D:c<(nth l ((lo+hi)/2)).Lo<;>simp[Z,D,this])
  (λi j T Y hi=>by
   have:=h.hi T Y;simp only[cZ] at hi ⊢;omega)
 simp only[dB,cZ] at O H;unfold jD jA;rw[hr,yNM h Y (λk hk=>by have:=O k hk;omega) H]
 simp only[zA,zK];by_cases K:j<l.length;have h2:=H j (dC _) K;simp only[yS K,xB,zX K,zA,zA6,dK,K,true_and];have e1:decide ((nth l j).Hi<c)=false:=by simp;omega
 simp only[e1,cN];by_cases D:c<(nth l j).Lo;have:¬(nth l j).Lo<=c:=by omega
 simp[D,this];have:(nth l j).Lo<=c:=by omega
 simp[D,this,zX K];simp only[kH (show l.length<=j by omega),vB,zA,dP,dS,cO,K,false_and,cY]
theorem zZU {l:List bM} (H:l.length<=2000) (k:∀x∈l,b9 x) (h:CV l):zBT l=some l:=by obtain⟨e,D,K⟩:=z5D H k;unfold zBT;rw[D,zA,K.2 h];rfl
open Go.AV
theorem z5I {K:Type} {l r:List K} {x: K} {k:Nat} (h:l.drop k=x::r):l[k]? =some x/\l.drop (k+1)=r/\k+1<=l.length:=by
 have H:k<l.length:=by
  rcases fF k l.length with D | D;exact D;rw[dE D] at h;cases h
 rw[cW H] at h;injection h with D O;exact⟨by rw[cS H,D],O,H⟩
theorem yNN {D:Type} [DecidableEq D] {items:List D} {k:Nat} {x: D} (h:items[k]? =some x):yM items k x=some ():=by unfold yM;rw[dG h]
theorem z99 {D:Type} {items:List D} {k:Nat} (h:items.drop k= []) (H:k<=items.length):zV9 items k=some ():=by unfold zV9;rw[dG];have:=congrArg List.length h;simp at this;omega
section
variable {l:List bM} (h:CV l) (hl:l.length<=2000) {text:List Int} (ht:text.length<=2000) {st:Int->Bool} (hst:∀c,st c=decide (clE l c=0)) {items:List Range}
include h hl ht hst
theorem yDJ:∀(n i:Nat) (s:Int) (k:Nat),text.length-i=n->i<=text.length->items.drop k=wA st (text.drop i) (i:Int) s->k<=items.length->
  ∃K H,zF (λ(x:Int×Int×Nat)=>k4 text l items x.1 x.2.1 x.2.2) (s,(i:Int),k)=some (.inl (K,H))/\items.drop H=wA st [] (text.length:Int) K/\H<=items.length:=by
 intro n
 induction n with
 | zero=>
  intro i s k h1 h2 D Y;have:i=text.length:=by omega
  subst this;refine⟨s,k,?_,by rw[D,gB],Y⟩;rw[xK];simp only[k4,kH (dC _),cN]
 | succ n ih=>
  intro i s k h1 h2 D Y;have hi:i<text.length:=by omega
  rw[cW hi] at D;simp only[wA] at D;have hs:=hst text[i];have ec:((i:Int)+1)=((i+1:Nat):Int):=by omega
  rw[ec] at D;have step:∀K H,k4 text l items s (i:Int) k=some (.next (K,((i+1:Nat):Int),H))->items.drop H=wA st (text.drop (i+1)) ((i+1:Nat):Int) K->H<=items.length->
    ∃K H,zF (λ(x:Int×Int×Nat)=>k4 text l items x.1 x.2.1 x.2.2) (s,(i:Int),k)=some (.inl (K,H))/\items.drop H=wA st [] (text.length:Int) K/\H<=items.length:=by
   intro K H hb Z g3;rw[zM (body:=λ(x:Int×Int×Nat)=>k4 text l items x.1 x.2.1 x.2.2) (x:=(s,(i:Int),k)) hb];exact ih (i+1) K H (by omega) (by omega) Z g3
  by_cases T:clE l text[i]=0
  ·rw[hs] at D
   simp only[T,dA,dD,dP,dQ,cY,dK] at D;by_cases O:0<=s
   ·simp only[O,dA,dH] at D
    obtain⟨g1,Z,g3⟩:=z5I D;refine step (-1) (k+1) ?_ Z g3;simp only[k4,yS hi,cO,zU hi,zA,zKB h hl,zK,zJ (k:=i) (by omega),T,dA,dD,dP,cN,dK,O,yNN g1,eJ]
   ·simp only[O,dF,dQ,cY] at D
    refine step s k ?_ D Y;simp only[k4,yS hi,cO,zU hi,zA,zKB h hl,zK,zJ (k:=i) (by omega),T,dA,dD,dP,cN,dK,O,dF,eJ]
  ·rw[hs] at D
   simp only[T,dF,dS,dK,dP,dQ,cY] at D;by_cases O:s<0
   ·simp only[O,dA,dH] at D
    refine step (i:Int) k ?_ D Y;simp only[k4,yS hi,cO,zU hi,zA,zKB h hl,zK,zJ (k:=i) (by omega),T,dF,dS,dK,O,dA,eJ]
   ·simp only[O,dF,dQ,cY] at D
    refine step s k ?_ D Y;simp only[k4,yS hi,cO,zU hi,zA,zKB h hl,zK,zJ (k:=i) (by omega),T,dF,dS,dK,O,cN,dP,eJ]
theorem z5J (O:items=wA st text 0 (-1)):zBU items text l=some ():=by
 obtain⟨s,k,h1,D,h3⟩:=yDJ h hl ht hst (items:=items) text.length 0 (-1) 0 (by omega) (by omega) (by rw[d8,d8];exact O) (gD _)
 unfold zBU;have K:zF (λ(x:Int×Int×Nat)=>k4 text l items x.1 x.2.1 x.2.2) (-1,0,0)=some (.inl (s,k)):=h1;rw[K];simp only[zA,eJ];unfold wA at D;by_cases H:0<=s;rw[dG H] at D;obtain⟨T,Y,Z⟩:=z5I D;simp only[H,dA,cO,yNN T,zA];exact z99 Y Z;rw[dN H] at D;simp only[H,dF,cN];exact z99 D h3
omit h hl ht hst in
theorem zMV:∀(t:List Int) (i s:Int),(wA st t i s).length<=t.length+1
 | [],i,s=>by unfold wA;split<;>simp
 | c::t,i,s=>by
  unfold wA;split;have:=zMV t (i+1) i;simp;omega;split;have:=zMV t (i+1) (-1);simp;omega;have:=zMV t (i+1) s;simp;omega
omit h hl ht hst in
theorem zMW:∀(t:List Int) (i s:Int),0<=i->(wA st t i s= []↔s<0/\∀c∈t,st c=true)
 | [],i,s,hi=>by
  unfold wA;split;simp;omega;simp;omega
 | c::t,i,s,hi=>by
  unfold wA;cases D:st c with
  | true=>
   simp only[dD,dP,dQ,cY,dK];by_cases k:0<=s;simp[k];omega;simp only[k,dF,dQ,cY];rw[zMW t (i+1) s (by omega)];simp[D]
  | false=>
   simp only[dS,dK,dP,dQ,cY];by_cases k:s<0;simp only[k,dA,dH];rw[zMW t (i+1) i (by omega)];simp[D];omega;simp only[k,dF,dQ,cY];rw[zMW t (i+1) s (by omega)];simp[D,k]
end
theorem yLZ {l:List bM} (h:CV l) (D:l.length<=2000) (H:∀x∈l,b9 x) {text:List Int} (O:text.length<=2000):
  ∃r,zFA l text=some r/\(r= []↔∀c∈text,clE l c=0):=by
 have k:∀c,(jD l c==some 0)=decide (clE l c=0):=λc=>by
  rw[zKB h D,g7];simp
 unfold zFA;rw[zZU D H h,zA,z5J h D O k rfl,zA];have K:=zMV (st:=λc=>jD l c==some 0) text 0 (-1);refine⟨_,by unfold yOR;rw[dG (by unfold LIM;omega)],?_⟩
 rw[zMW _ _ _ (by omega)];simp only[k,cZ];constructor
 ·exact λh=>h.2
 ·exact λh=>⟨by omega,h⟩
structure DS (l:List aI):Prop where
 asc:∀k,k+1<l.length->(nth l k).aW<(nth l (k+1)).aW
 hk:∀m∈l,hkE m.aW=0
 len:∀m∈l,m.To.length<=2000
theorem DS.mono {l:List aI} (h:DS l):∀(d i:Nat),i+d+1<l.length->(nth l i).aW<(nth l (i+d+1)).aW
 | 0,i,hi=>h.asc i hi
 | d+1,i,hi=>by
  have k:=DS.mono h d i (by omega);have D:=h.asc (i+d+1) (by omega);have:i+(d+1)+1=i+d+1+1:=by omega
  rw[this];omega
theorem DS.lt {l:List aI} (h:DS l) {i j:Nat} (k:i<j) (D:j<l.length):(nth l i).aW<(nth l j).aW:=by
 have:=DS.mono h (j-i-1) i (by omega)
 rwa [show i+(j-i-1)+1=j by omega] at this
def isF (c:Int) (m:aI):Bool:=decide (m.aW=c)
theorem yAA {l:List aI} (h:DS l) (hl:l.length<=2000) (c:Int):∃i:Nat,yR l c (λx0 x1=>uL x0 x1)=some ((i:Int),(l.find? (isF c)).isSome)/\∀m,l.find? (isF c)=some m->i<l.length/\nth l i=m:=by
 have K:∀m,uL m c=some (if m.aW<c then -1 else if c<m.aW then 1 else 0):=λm=>by
  unfold uL;rw[yDF];rfl
 obtain⟨j,hj,hr,T,O⟩:=z1U (n:=l.length) hl (body:=λ(x:Int×Int)=>yB l (λx0 x1=>uL x0 x1) c x.1 x.2) (λk=>decide (c<=(nth l k).aW))
  (λk _=>by simp only[yB,kH (dC _),cN])
  (λlo hi Z h2=>by
   have Y:(lo+hi)/2<l.length:=by omega
   simp only[yB,yS Z,cO,zQM (show lo+hi<=4611686018427387903 by omega),zX Y,zA,K,zJ (k:=(lo+hi)/2) (by omega)];by_cases hc:(nth l ((lo+hi)/2)).aW<c
   ·have:¬c<=(nth l ((lo+hi)/2)).aW:=by omega
    simp[hc,this]
   ·have:c<=(nth l ((lo+hi)/2)).aW:=by omega
    by_cases ab:c<(nth l ((lo+hi)/2)).aW<;>simp[hc,ab,this])
  (λi j ad hj hi=>by
   simp only[cZ] at hi ⊢;rcases Nat.lt_or_eq_of_le ad with Z | rfl
   ·have:=h.lt Z hj;omega
   ·exact hi)
 simp only[dB,cZ] at T O;refine⟨j,?_⟩;unfold yR;rw[hr];simp only[zA,zK];by_cases H:j<l.length/\(nth l j).aW=c
 ·have hf:=zR1 (p:=isF c) H.1 (λk hk=>by
   have:=T k hk;unfold isF;simp only[dB];omega) (by unfold isF;simpa using H.2)
  rw[hf];simp only[yS H.1,xB,zX H.1,zA,K,dK,H.2];refine⟨by simp,λm Y=>?_⟩;injection Y with Y;exact⟨H.1,Y⟩
 ·have hf:=z1V (l:=l) (p:=isF c) (λk hk=>by
   unfold isF;simp only[dB];intro e;by_cases ag:k<j
   ·have:=T k ag;omega
   ·by_cases e2:k=j
    ·subst e2;exact H ⟨hk,e⟩
    ·have Z:=h.lt (show j<k by omega) hk
     have h2:=O j (dC _) (by omega);omega)
  rw[hf];refine⟨?_,λm Y=>by cases Y⟩;by_cases D:j<l.length
  ·have h2:=O j (dC _) D
   have h3:¬(nth l j).aW=c:=λe=>H ⟨D,e⟩;have h4:c<(nth l j).aW:=by omega
   have h5:¬(nth l j).aW<c:=by omega
   simp only[yS D,xB,zX D,zA,K,h4,h5,dH,cY,dK];rfl
  ·simp only[kH (show l.length<=j by omega),vB,zA,dP]
   rfl
def dep (l:List aI) (c:Int):List Int:=if syl c=true then hdE c else match l.find? (isF c) with
 | some m=>m.To
 | none=>[]
def fnd (l:List aI) (c:Int):Bool:=syl c ||(l.find? (isF c)).isSome
theorem yL0 {l:List aI} {c:Int} (h:fnd l c=false):dep l c= []:=by
 unfold fnd at h;simp only[fB] at h;unfold dep;rw[dN (by simp[h.1])];cases k:l.find? (isF c) with
 | none=>rfl
 | some m=>rw[k] at h;simp at h
theorem yAB {n:Norm} (h:DS n.aA) (T:n.aA.length<=2000) (c:Int):u2 n c true=some (dep n.aA c,fnd n.aA c):=by
 unfold u2 dep fnd;rw[zO7,zA];by_cases k:syl c=true;have e:decide (4<=hkE c)=true:=by simpa using (zI6 c).1 k
 simp only[e,cO,z98 k,zA,k,dH,ic];have e:decide (4<=hkE c)=false:=by simp only[dB];exact λO=>k ((zI6 c).2 O)
 simp only[gS] at k;simp only[e,cN,k,dQ,cY,eY];obtain⟨i,hb,Y⟩:=yAA h T c;rw[hb];simp only[zA,zK];cases K:n.aA.find? (isF c) with
 | none=>simp[vB]
 | some m=>
  obtain⟨D,H⟩:=Y m K;simp[xB,zX D,H]
theorem z1W {l:List aI} (h:DS l) {c e:Int} (H:syl c=true) (D:e∈dep l c):dep l e= []:=by
 unfold dep at D;rw[dG H] at D;obtain⟨O,T⟩:=zR0 H D;unfold dep;rw[dN (by simp[O])];cases K:l.find? (isF e) with
 | none=>rfl
 | some m=>
  exfalso;have Y:=fK K;have k:=List.find?_some K;unfold isF at k;simp only[cZ] at k;exact T (k▸h.hk m Y)
theorem yAC {l:List aI} (h:DS l) (c:Int):(dep l c).length<=2000:=by
 unfold dep;split;have:=(zQL c).1;omega;cases k:l.find? (isF c) with
 | none=>simp
 | some m=>exact h.len m (fK k)
theorem z5K {l:List aI} (h:DS l) {m:aI} (K:m∈l):dep l m.aW=m.To:=by
 have T:=h.hk m K;have H:syl m.aW=false:=by
  cases H:syl m.aW with
  | false=>rfl
  | true=>have:=(zI6 _).1 H;omega
 unfold dep;rw[dN (by simp[H])];obtain⟨k,D,rfl⟩:=fc K;rw[<-zBQ D];rw[zR1 (p:=isF (nth l k).aW) D (λj O=>by
  have:=h.lt O D;unfold isF;simp only[dB];omega) (by simp[isF])]
theorem z8N {l:List aI} {c:Int} (h:dep l c≠[]) (H:syl c=false):∃m∈l,m.aW=c:=by
 unfold dep at h;rw[dN (by simp[H])] at h;cases k:l.find? (isF c) with
 | none=>rw[k] at h;exact absurd rfl h
 | some m=>
  have D:=List.find?_some k;unfold isF at D;exact⟨m,fK k,by simpa using D⟩
open Go.AV
def EE (l:List aI):Nat->Int->Prop
 | 0,_=>False
 | k+1,c=> ∀e∈dep l c,EE l k e
def WW (l:List aI) (c:Int):Prop:= ∃k,EE l k c
theorem yAD {l:List aI}:∀{k:Nat} {c:Int},EE l k c->EE l (k+1) c
 | 0,_,h=>h.elim
 | k+1,_,h=>λe D=>yAD (h e D)
theorem yHM {l:List aI} {c:Int} {k j:Nat} (h:k<=j) (D:EE l k c):EE l j c:=by
 induction h with
 | refl=>exact D
 | step _ H=>exact yAD H
theorem yHN {l:List aI}:∀{L:List Int},(∀e∈L,WW l e)->∃k,∀e∈L,EE l k e
 | [],_=>⟨0,λe D=>by cases D⟩
 | x::L,h=>by
  obtain⟨a,H⟩:=h x (by simp);obtain⟨b,hb⟩:=yHN (L:=L) λe D=>h e (by simp[D]);refine⟨max a b,λe D=>?_⟩;rcases dM.1 D with rfl | D;exact yHM (by omega) H;exact yHM (by omega) (hb e D)
theorem z5L {l:List aI} {c:Int} (h:∀e∈dep l c,WW l e):WW l c:=by obtain⟨k,D⟩:=yHN h;exact⟨k+1,D⟩
theorem z1X {l:List aI} {c:Int} (h:dep l c= []):WW l c:=z5L (by rw[h];intro e k;cases k)
theorem yPI {l:List aI} (k:DS l) {c:Int} (h:syl c=true):WW l c:=z5L λ_ D=>z1X (z1W k h D)
theorem zR2 (m:List (Int×Int)) (c v k:Int):zDM (vD m c v) k=(decide (k=c) ||zDM m k):=by unfold zDM;rw[vL];by_cases h:k=c<;>simp[h]
def pot (l:List aI) (m:List (Int×Int)):Nat:=l.countP λx=>!zDM m x.aW
theorem yPK {l:List aI} {m H:List (Int×Int)} (h:∀k,zDM m k=true->zDM H k=true):pot l H<=pot l m:=by
 refine List.countP_mono_left λx _ D=>?_;cases K:zDM m x.aW with
 | false=>rfl
 | true=>rw[h _ K] at D;exact D
theorem zTC {K:Type} {p q: K->Bool}:∀{l:List K},(∀x∈l,p x=true->q x=true)->(∃x∈l,q x=true/\p x=false)->l.countP p+1<=l.countP q
 | [],_,⟨x,hx,_⟩=>by cases hx
 | y::l,h,⟨x,hx,D,H⟩=>by
  have O:=List.countP_mono_left (l:=l) λz k=>h z (by simp[k]);rw[List.countP_cons,List.countP_cons];rcases dM.1 hx with rfl | hx
  simp[D,H];omega;have Z:=zTC (l:=l) (λz k=>h z (by simp[k])) ⟨x,hx,D,H⟩;have Y:=h y (by simp);cases T:p y with
  | false=>simp;omega
  | true=>simp[Y T];omega
theorem yAE {l:List aI} {m:List (Int×Int)} {c v:Int} (k:∃x∈l,x.aW=c) (D:zDM m c=false):pot l (vD m c v)+1<=pot l m:=by refine zTC (λx _ h=>?_) ?_;rw[zR2] at h;simp only[Bool.not_or,dL] at h;exact h.2;obtain⟨x,h,rfl⟩:=k;refine⟨x,h,by rw[D];rfl,by rw[zR2];simp⟩
section
variable {n:Norm} (hd:DS n.aA) (hl:n.aA.length<=2000)
include hd hl
noncomputable abbrev zWV (L:List Int×Bool) (rec:Int->Norm->(List (Int×Int))->Bool->Bool->Option (Int×Bool×Bool×(List (Int×Int)))) (n:Norm):Int×Int×Bool×Bool×(List (Int×Int))->Option (Stp (Int×Int×Bool×Bool×(List (Int×Int))) (Int×Bool×Bool×(List (Int×Int)))):=
 λx=>jS L rec n x.1 x.2.1 x.2.2.1 x.2.2.2.1 x.2.2.2.2
theorem yAF {k:Int->Norm->(List (Int×Int))->Bool->Bool->Option (Int×Bool×Bool×(List (Int×Int)))} {c:Int} {m:List (Int×Int)} {D lo:Bool} (h:dep n.aA c= []):jJ k c n m D lo=some (1,D,lo,m):=by unfold jJ;rw[yAB hd hl,zA,zK];simp[h]
theorem yNO {D:Int->Norm->(List (Int×Int))->Bool->Bool->Option (Int×Bool×Bool×(List (Int×Int)))} {c:Int} {m:List (Int×Int)} {H lo:Bool} (h:dep n.aA c≠[]):
  jJ D c n m H lo=cond (zDM m c) (some (max (mgetD m c 0) 1,(H ||decide (mgetD m c 0= -1)),lo,m)) ((zF (zWV (dep n.aA c,true) D n) (0,0,H,lo,vD m c (-1))).bind λy=>some (y.1,y.2.1,(y.2.2.1 ||decide (64<y.1)),vD y.2.2.2 c y.1)):=by
 have K:fnd n.aA c=true:=by
  cases K:fnd n.aA c with
  | true=>rfl
  | false=>exact absurd (yL0 K) h
 unfold jJ;rw[yAB hd hl,zA,zK,K];have k:decide (((dep n.aA c).length:Int)=0)=false:=by
  simp only[dB];have:(dep n.aA c).length≠0:=λe=>h (cP e);omega
 simp only[dD,eY,k,cN];rfl
structure MOk (l:List aI) (m:List (Int×Int)) (cy:Bool):Prop where
 bd:∀k v,mget m k=some v-> -1<=v/\v<=65
 ww:cy=false->∀k v,mget m k=some v->v≠ -1->WW l k
def zYI (l:List aI) (f:Nat) (c:Int) (m:List (Int×Int)):Prop:=pot l m+3<=f\/(syl c=true/\2<=f)\/(dep l c= []/\1<=f)
omit hd hl in
theorem zZV {l:List aI} {f:Nat} {c:Int} {m H:List (Int×Int)} (h:∀k,zDM m k=true->zDM H k=true) (D:zYI l f c m):zYI l f c H:=by
 rcases D with D | D;exact .inl (by have:=yPK (l:=l) h;omega)
 exact .inr D
def yNP (l:List aI) (c:Int) (m:List (Int×Int)) (h:Bool) (r:Int×Bool×Bool×(List (Int×Int))):Prop:=
 (1<=r.1/\r.1<=65)/\MOk l r.2.2.2 r.2.1/\(∀k,zDM m k=true->zDM r.2.2.2 k=true)/\(r.2.1=false->h=false/\WW l c)
omit hl in
theorem yPL {f:Nat} (ih:∀c m D lo,MOk n.aA m D->zYI n.aA f c m->∃r,yJ f c n m D lo=some r/\yNP n.aA c m D r) (c:Int):
  ∀(d i:Nat) (s:Int) (D lo:Bool) (m:List (Int×Int)),(dep n.aA c).length-i=d->i<=(dep n.aA c).length->0<=s->s<=65->MOk n.aA m D->(∀e∈dep n.aA c,zYI n.aA f e m)->
   ∃r,zF (zWV (dep n.aA c,true) (yJ f) n) (s,(i:Int),D,lo,m)=some r/\(s<=r.1/\r.1<=65)/\(i<(dep n.aA c).length->1<=r.1)/\MOk n.aA r.2.2.2 r.2.1/\(∀k,zDM m k=true->zDM r.2.2.2 k=true)/\(r.2.1=false->D=false/\∀e∈(dep n.aA c).drop i,WW n.aA e):=by
 have hL:=yAC hd c;generalize dep n.aA c=L at*;intro d
 induction d with
 | zero=>
  intro i s D lo m h1 h2 h3 Y H K;refine⟨(s,D,lo,m),?_,⟨fT _,Y⟩,λh=>by omega,H,λ_ h=>h,λh=>⟨h,?_⟩⟩
  ·refine zL ?_
   simp only[jS,kH (show L.length<=i by omega),cN]
  ·rw[dE (by omega)];intro e he;cases he
 | succ d T=>
  intro i s D lo m h1 h2 h3 Y H K;have hi:i<L.length:=by omega
  obtain⟨r,hr,⟨r1,r2⟩,r3,Z,r5⟩:=ih L[i] m D lo H (K _ (eF hi));have hb:zWV (L,true) (yJ f) n (s,(i:Int),D,lo,m)=some (.next (min (s+r.1) 65,((i+1:Nat):Int),r.2.1,r.2.2.1,r.2.2.2)):=by
   simp only[jS,yS hi,cO,zU hi,zA,hr,zJ (k:=i) (by omega)];rw[xN (n:=s+r.1) (by omega) (by omega)]
  rw[zM hb];obtain⟨q,hq,⟨q1,q2⟩,q3,q4,q5,q6⟩:=T (i+1) (min (s+r.1) 65) r.2.1 r.2.2.1 r.2.2.2 (by omega) (by omega) (by omega) (by omega) r3 (λe he=>zZV Z (K e he));refine⟨q,hq,⟨by omega,q2⟩,λ_=>by omega,q4,λk hk=>q5 k (Z k hk),λO=>?_⟩;obtain⟨a1,a2⟩:=q6 O;obtain⟨b1,b2⟩:=r5 a1;refine⟨b1,?_⟩;rw[cW hi];intro e he;rcases dM.1 he with rfl | he
  ·exact b2
  ·exact a2 e he
theorem yHO:∀(f:Nat) (c:Int) (m:List (Int×Int)) (K lo:Bool),MOk n.aA m K->zYI n.aA f c m->∃r,yJ f c n m K lo=some r/\yNP n.aA c m K r:=by
 intro f
 induction f with
 | zero=>
  intro c m K lo T hn;exfalso;rcases hn with h | h | h<;>omega
 | succ f ih=>
  intro c m K lo T hn;show ∃r,jJ (yJ f) c n m K lo=some r/\_;by_cases Y:dep n.aA c= [];rw[yAF hd hl Y];exact⟨_,rfl,⟨by show (1:Int)<=1;decide,by show (1:Int)<=65;decide⟩,T,λ_ h=>h,λh=>⟨h,z1X Y⟩⟩
  rw[yNO hd hl Y];cases hh:zDM m c with
  | true=>
   obtain⟨v,hv⟩:=gI.1 hh;have hg:mgetD m c 0=v:=by unfold mgetD;rw[hv];rfl
   have hb:=T.bd c v hv;rw[hg,cO];refine⟨_,rfl,⟨by show 1<=max v 1;omega,by show max v 1<=65;omega⟩,⟨T.bd,λh=>T.ww ?_⟩,λ_ h=>h,λh=>?_⟩
   exact(fB.1 h).1;obtain⟨h1,h2⟩:=fB.1 h;exact⟨h1,T.ww h1 c v hv (by simpa using h2)⟩
  | false=>
   have ag:MOk n.aA (vD m c (-1)) K:=by
    refine⟨λk v D=>?_,λhc k v D O=>?_⟩;rw[vL] at D;split at D;cases D;omega;exact T.bd k v D;rw[vL] at D;split at D;cases D;exact absurd rfl O;exact T.ww hc k v D O
   have Z:∀k,zDM m k=true->zDM (vD m c (-1)) k=true:=λk D=>by rw[zR2,D];simp
   have ad:∀e∈dep n.aA c,zYI n.aA f e (vD m c (-1)):=by
    intro e he;cases hs:syl c with
    | true=>
     refine .inr (.inr ⟨z1W hd hs he,?_⟩);rcases hn with h | h | h
     omega;omega;exact absurd h.1 Y
    | false=>
     rcases hn with h | h | h;refine .inl ?_;have:=yAE (l:=n.aA) (v:= -1) (z8N Y hs) hh;omega;rw[hs] at h;cases h.1;exact absurd h.1 Y
   obtain⟨q,hq,⟨q1,q2⟩,q3,q4,q5,q6⟩:=yPL hd ih c (dep n.aA c).length 0 0 K lo (vD m c (-1)) (by omega) (by omega) (by omega) (by omega) ag ad;have ah:zF (zWV (dep n.aA c,true) (yJ f) n) (0,0,K,lo,vD m c (-1))=some q:=hq;have ab:0<(dep n.aA c).length:=eU.2 Y;have ak:=q3 ab;simp only[cN];rw[ah];refine⟨_,rfl,⟨ak,q2⟩,⟨λk v D=>?_,λhc k v D O=>?_⟩,λk D=>?_,λhc=>?_⟩;have H:mget (vD q.2.2.2 c q.1) k=some v:=D;rw[vL] at H;split at H;cases H;omega;exact q4.bd k v H;have H:mget (vD q.2.2.2 c q.1) k=some v:=D;obtain⟨_,a2⟩:=q6 hc;rw[vL] at H;split at H;rename_i e;rw[e];exact z5L (by simpa using a2);exact q4.ww hc k v H O;show zDM (vD q.2.2.2 c q.1) k=true;rw[zR2,q5 k (Z k D)];simp;obtain⟨a1,a2⟩:=q6 hc;exact⟨a1,z5L (by simpa using a2)⟩
theorem zT4 (hp:n.aA.length<=90):∃r:Bool×Bool,decompose_measure n=some r/\(r.1=false->∀x∈n.aA,WW n.aA x.aW):=by
 have key:∀(d i:Nat) (D lo:Bool) (m:List (Int×Int)),n.aA.length-i=d->i<=n.aA.length->MOk n.aA m D->
   ∃r:Bool×Bool,zF (λ(x:Int×Bool×Bool×(List (Int×Int)))=>k8 n x.1 x.2.1 x.2.2.1 x.2.2.2) ((i:Int),D,lo,m)=some r/\(r.1=false->D=false/\∀x∈n.aA.drop i,WW n.aA x.aW):=by
  intro d
  induction d with
  | zero=>
   intro i D lo m H Z T;refine⟨(D,lo),?_,λh=>⟨h,?_⟩⟩
   ·refine zL ?_
    simp only[k8,kH (show n.aA.length<=i by omega),cN]
   ·rw[dE (by omega)];intro e he;cases he
  | succ d ih=>
   intro i D lo m H Z T;have hi:i<n.aA.length:=by omega
   have Y:pot n.aA m<=n.aA.length:=List.countP_le_length;obtain⟨r,K,_,r3,_,r5⟩:=yHO hd hl 100 n.aA[i].aW m D lo T (.inl (by omega));rw[zM (x':=(((i+1:Nat):Int),r.2.1,r.2.2.1,r.2.2.2)) (by
    simp only[k8,yS hi,cO,zU hi,zA,K,zJ (k:=i) (by omega)])]
   obtain⟨q,hq,q1⟩:=ih (i+1) r.2.1 r.2.2.1 r.2.2.2 (by omega) (by omega) r3;refine⟨q,hq,λhc=>?_⟩;obtain⟨a1,a2⟩:=q1 hc;obtain⟨b1,b2⟩:=r5 a1;refine⟨b1,?_⟩;rw[cW hi];intro e he;rcases dM.1 he with rfl | he
   ·exact b2
   ·exact a2 e he
 obtain⟨r,K,H⟩:=key n.aA.length 0 false false [] (by omega) (by omega) ⟨λk v h=>(by cases h),λ_ k v h=>(by cases h)⟩;unfold decompose_measure;have O:zF (λ(x:Int×Bool×Bool×(List (Int×Int)))=>k8 n x.1 x.2.1 x.2.2.1 x.2.2.2) (0,false,false,[])=some r:=K;rw[O];exact⟨r,rfl,λh=>by have:=(H h).2;simpa using this⟩
end
open Go.AV
structure NSm (n:Norm):Prop where
 cl:n.aK.length<=40
 de:n.aA.length<=40
 to:∀m∈n.aA,m.To.length<=70
 tg:∀m∈n.aA,m.bO.length<=40
 ex:n.aN.Ranges.length<=12
theorem yL1 (l:List aI):∃b,zHW l=some b/\(b=true->l.length<=20/\(∀m∈l,m.To.length<=65)/\∀m∈l,m.bO.length<=40):=by
 unfold zHW;have h:=kJ (body:=λ(x:Int)=>zCO l x) (min l.length 30) (λk=>(nth l k).To.length<=65/\(nth l k).bO.length<=40) (λy=>y=false) (λk T=>by
  have D:k<l.length:=by omega
  have H:decide ((k:Int)<30)=true:=by simp;omega
  simp only[zCO,zK,yS D,H,fA,cO,zX D,zA,zJ (k:=k) (by omega)];by_cases Z:65<(nth l k).To.length;have:decide ((65:Int)<((nth l k).To.length:Int))=true:=by simp;omega
  simp only[this,dD,vB,zA,ic,cO];exact .inr ⟨by omega,false,rfl,rfl⟩;have:decide ((65:Int)<((nth l k).To.length:Int))=false:=by simp;omega
  simp only[this,dS,xB,zA,eY];exact w6 (by simp only[cZ];omega) rfl) (λk T=>by
  have:(decide ((k:Int)<(l.length:Int))&&decide ((k:Int)<30))=false:=by
   simp only[eE,dB];omega
  simp only[zCO,zK,this,cN])
 rcases h with ⟨h,p⟩ | ⟨y,rfl,h,p⟩;rw[h];refine⟨_,rfl,λhb=>?_⟩;have Y:l.length<=20:=by simp only[cZ] at hb;omega
 rw[gX (by omega)] at p;have O:=(zAW (l:=l) (p:=λm:aI=>m.To.length<=65/\m.bO.length<=40)).1 p;exact⟨Y,λm K=>(O m K).1,λm K=>(O m K).2⟩;rw[h];exact⟨false,rfl,λh=>by cases h⟩
theorem yL2 (n:Norm):∃b,zHX n=some b/\(b=true->NSm n):=by
 obtain⟨b,hb,H⟩:=yL1 n.aA;unfold zHX zKV zKW;simp only[zA,zK,hb];by_cases K:n.aK.length<=16;have k:decide ((n.aK.length:Int)<=16)=true:=by simp;omega
 simp only[k,xB,zA,dK];cases b with
 | false=>simp only[vB,zA,dP];exact⟨false,rfl,λh=>by cases h⟩
 | true=>
  simp only[xB,zA,dK];refine⟨_,rfl,λh=>?_⟩;simp only[cZ] at h;obtain⟨a,b,c⟩:=H rfl;exact⟨by omega,by omega,λm D=>by have:=b m D;omega,c,by omega⟩
 have k:decide ((n.aK.length:Int)<=16)=false:=by simp;omega
 simp only[k,vB,zA,dP];exact⟨false,rfl,λh=>by cases h⟩
structure VD0 (n:Norm):Prop where
 cv:CV n.aK
 mv:MV n.aA
 ca:Can n.aN.Ranges
 ne:∀k,k+1<n.aA.length->(nth n.aA (k+1)).aW≠(nth n.aA k).aW
 kd:∀m∈n.aA,m.bO= []->m.To.length=1\/m.To.length=2
 hk:∀m∈n.aA,hkE m.aW=0
 tc:∀m∈n.aA,m.bO≠[]->clE n.aK m.aW=0
 ms:decompose_measure n=some (false,false)
theorem yRY {n:Norm} (hl:n.aA.length<=2000):∀(d i:Nat) (h:List Int),n.aA.length-i=d->i<=n.aA.length->h.length<=i->
    (zF (λ(x:Int×(List Int))=>kD n x.1 x.2) ((i:Int),h)=some (.inl (h++((n.aA.drop i).filter λm=>!(m.bO== [])).map (·.aW)))/\∀m∈n.aA.drop i,hkE m.aW=0)\/
    (zF (λ(x:Int×(List Int))=>kD n x.1 x.2) ((i:Int),h)=some (.inr 11)/\¬∀m∈n.aA.drop i,hkE m.aW=0):=by
  intro d
  induction d with
  | zero=>
    intro i h Y Z h3;rw[dE (by omega)];refine .inl ⟨zL ?_,λm hm=>by cases hm⟩;simp only[kD,kH (show n.aA.length<=i by omega),cN];simp
  | succ d ih=>
    intro i h Y Z h3;have hi:i<n.aA.length:=by omega
    rw[cW hi];by_cases H:hkE n.aA[i].aW=0
    · have conv:∀D,(∃z:Unit,True)->kD n (i:Int) h=some (.next (((i+1:Nat):Int),D))->D.length<=i+1->D++((n.aA.drop (i+1)).filter λm=>!(m.bO== [])).map (·.aW)=h++((n.aA[i]::n.aA.drop (i+1)).filter λm=>!(m.bO== [])).map (·.aW)->
          (zF (λ(x:Int×(List Int))=>kD n x.1 x.2) ((i:Int),h)=some (.inl (h++((n.aA[i]::n.aA.drop (i+1)).filter λm=>!(m.bO== [])).map (·.aW)))/\∀m∈n.aA[i]::n.aA.drop (i+1),hkE m.aW=0)\/
          (zF (λ(x:Int×(List Int))=>kD n x.1 x.2) ((i:Int),h)=some (.inr 11)/\¬∀m∈n.aA[i]::n.aA.drop (i+1),hkE m.aW=0):=by
        intro D _ hb K he;rw[zM (body:=λ(x:Int×(List Int))=>kD n x.1 x.2) (x:=((i:Int),h)) hb];rcases ih (i+1) D (by omega) (by omega) K with ⟨a,b⟩ | ⟨a,b⟩
        · refine .inl ⟨by rw[a,he],λm hm=>?_⟩
          rcases dM.1 hm with rfl | hm
          · exact H
          · exact b m hm
        · exact .inr ⟨a,λT=>b λm hm=>T m (iE _ hm)⟩
      cases O:(n.aA[i].bO== []) with
      | true=>
        refine conv h ⟨(),trivial⟩ ?_ (by omega) ?_
        · simp only[kD,yS hi,cO,zU hi,zA,zO7,H,dA,dD,cN,O,zJ (k:=i) (by omega),eJ]
        · rw[ib,O];rfl
      | false=>
        refine conv (h++ [n.aA[i].aW]) ⟨(),trivial⟩ ?_ (by simp;omega) ?_
        · simp only[kD,yS hi,cO,zU hi,zA,zO7,H,dA,dD,cN,O,dS,jY (show h.length+ [n.aA[i].aW].length<=4294967296 by simp;omega),zJ (k:=i) (by omega),eJ]
        · rw[ib,O,c9];rfl
    · refine .inr ⟨zL ?_,λT=>H (T _ List.mem_cons_self)⟩
      have:(!decide (hkE n.aA[i].aW=0))=true:=by simp[H]
      simp only[kD,yS hi,cO,zU hi,zA,zO7,this,Sum.elim_inr]
theorem yHP {n:Norm} (T:NSm n) (ag:wO n):Ver (zBV n) (VD0 n):=by
 obtain⟨e1,an,p1⟩:=z5D (l:=n.aK) (by have:=T.cl;omega) ag.1.2
 obtain⟨e2,ao,p2⟩:=yPE (l:=n.aA) (by have:=T.de;omega) (λm K=>by have:=T.to m K;omega) (λm K=>by have:=T.tg m K;unfold MX;omega)
 obtain⟨e3,ap,p3⟩:=yHL (s:=n.aN) T.ex;have bh:=T.de;unfold zBV;rw[an,zA];by_cases h1:e1=0
 case neg=>
  have:(!decide (e1=0))=true:=by simp[h1]
  rw[this,cO];exact⟨e1,rfl,by simp only[h1,eW];exact λh=>h1 (p1.2 h.cv)⟩
 rw[h1];simp only[dA,dD,cN];have cv:=p1.1 h1;rw[ao,zA];by_cases h2:e2=0
 case neg=>
  have:(!decide (e2=0))=true:=by simp[h2]
  rw[this,cO];exact⟨e2,rfl,by simp only[h2,eW];exact λh=>h2 (p2.2 h.mv)⟩
 rw[h2];simp only[dA,dD,cN];have mv:=p2.1 h2;rw[ap,zA];cases e3 with
 | false=>exact⟨11,rfl,by simp only[show ((11:Int)=0)=False by simp,eW];exact λh=>by have:=p3.2 h.ca;cases this⟩
 | true=>
 have ca:=p3.1 rfl;simp only[dD,cN];have l0:=zO6 (body:=λ(x:Int)=>uM n x) n.aA.length (λk=>(nth n.aA (k+1)).aW≠(nth n.aA k).aW) (λy=>y≠0) (λk D=>by
  have H:k<n.aA.length:=by omega
  simp only[uM,yS D,cO,zX D,zA,zJ (k:=k+1) (by omega),zD8 (k:=k) (by omega),zX H];exact w6 (by simp) (by decide)) (λk D=>by simp only[uM,kH D,cN])
 rcases l0 with ⟨l0,ne⟩ | ⟨y,hy,l0,ne⟩
 case inr=>rw[l0];exact⟨y,rfl,by simp only[hy,eW];exact λh=>ne h.ne⟩
 rw[l0];simp only[zA,eJ];have Z:=kJ (body:=λ(x:Int)=>uN n x) n.aA.length (λk=>(nth n.aA k).bO= []->(nth n.aA k).To.length=1\/(nth n.aA k).To.length=2) (λy=>y≠0) (λk D=>by
  simp only[uN,yS D,cO,zX D,zA,zK,zJ (k:=k) (by omega)];have hb:((nth n.aA k).bO== [])=decide ((nth n.aA k).bO= []):=by cases (nth n.aA k).bO<;>rfl
  rw[hb];refine w6 ?_ (by decide);simp only[dL,fS,cZ,dB];constructor
  ·
   rintro⟨⟨a,b⟩,c⟩ h
   rcases h a with h | h
   · exact b (by omega)
   · exact c (by omega)
  ·
   intro h;refine⟨⟨?_,?_⟩,?_⟩
   · exact Classical.byContradiction λa=>h λa'=>absurd a' a
   · exact λb=>h λ_=> .inl (by omega)
   · exact λb=>h λ_=> .inr (by omega)) (λk D=>by simp only[uN,kH D,cN])
 rw[zAW (p:=λm:aI=>m.bO= []->m.To.length=1\/m.To.length=2)] at Z;rcases Z with ⟨Z,kd⟩ | ⟨y,hy,Z,kd⟩
 case inr=>rw[Z];exact⟨y,rfl,by simp only[hy,eW];exact λh=>kd h.kd⟩
 rw[Z];simp only[zA,eJ];have l2:=yRY (n:=n) (by omega) n.aA.length 0 [] (by omega) (by omega) (by simp);simp only[d8,dO] at l2;rcases l2 with ⟨l2,D⟩ | ⟨l2,D⟩
 case inr=>
  have Y:zF (λ(x:Int×(List Int))=>kD n x.1 x.2) (0,[])=some (.inr 11):=l2;rw[Y];exact⟨11,rfl,by simp only[show ((11:Int)=0)=False by simp,eW];exact λh=>D h.hk⟩
 have Y:zF (λ(x:Int×(List Int))=>kD n x.1 x.2) (0,[])=some (.inl ((n.aA.filter λm=>!(m.bO== [])).map (·.aW))):=l2;rw[Y];simp only[zA,eJ];obtain⟨r,hr,pr⟩:=yLZ cv (by have:=T.cl;omega) ag.1.2 (text:=(n.aA.filter λm=>!(m.bO== [])).map (·.aW)) (by
  have:=g9 (λm:aI=>!(m.bO== [])) n.aA;simp only[e7];omega)
 rw[hr,zA];have ad:∀m:aI,(m.bO== [])=decide (m.bO= []):=λm=>by cases m.bO<;>rfl
 have aq:(∀c∈(n.aA.filter λm=>!(m.bO== [])).map (·.aW),clE n.aK c=0)↔∀m∈n.aA,m.bO≠[]->clE n.aK m.aW=0:=by
  constructor
  ·
   intro h m K ht;exact h _ (eM.2 ⟨m,fb.2 ⟨K,by rw[ad];simpa using ht⟩,rfl⟩)
  ·
   intro h c hc;obtain⟨m,K,rfl⟩:=eM.1 hc;obtain⟨a,b⟩:=fb.1 K;exact h m a (by rw[ad] at b;simpa using b)
 rw[aq] at pr;by_cases O:r= []
 case neg=>
  have:decide ((0:Int)<(r.length:Int))=true:=by
   have:=eU.2 O;simp only[cZ];omega
  rw[this,cO];exact⟨11,rfl,by simp only[show ((11:Int)=0)=False by simp,eW];exact λh=>O (pr.2 h.tc)⟩
 have:decide ((0:Int)<(r.length:Int))=false:=by rw[O];rfl
 rw[this,cN];have am:DS n.aA:=⟨λk H=>by
  have a:=mv.lt k H;have b:=ne k H;unfold mlt at a;omega,D,λm K=>by have:=mv.sz m K;omega⟩
 obtain⟨q,hq,_⟩:=zT4 am (by omega) (by omega);rw[hq,zA];obtain⟨cy,lo⟩:=q;cases cy with
 | true=>exact⟨12,rfl,by simp only[show ((12:Int)=0)=False by simp,eW];exact λh=>by have:=h.ms;rw[hq] at this;cases this⟩
 | false=>
  cases lo with
  | true=>exact⟨13,rfl,by simp only[show ((13:Int)=0)=False by simp,eW];exact λh=>by have:=h.ms;rw[hq] at this;cases this⟩
  | false=>exact⟨0,rfl,by simp only[true_iff];exact⟨cv,mv,ca,ne,kd,D,pr.1 O,hq⟩⟩
theorem VD0.ds {n:Norm} (h:VD0 n):DS n.aA:=⟨λk D=>by
  have a:=h.mv.lt k D;have b:=h.ne k D;unfold mlt at a;omega,h.hk,λm H=>by have:=h.mv.sz m H;omega⟩
open Go.AV
def DD (l:List aI):Nat->Int->Prop
 | 0,c=>l.find? (isF c)=none
 | k+1,c=> ∀m,l.find? (isF c)=some m->∀e∈m.To,DD l k e
theorem zU5 {l:List aI} {c:Int} (h:l.find? (isF c)=none):∀k,DD l k c
 | 0=>h
 | k+1=>λm D=>by rw[h] at D;cases D
theorem zMX {l:List aI}:∀{k:Nat} {c:Int},DD l k c->DD l (k+1) c
 | 0,_,h=>zU5 h 1
 | _+1,_,h=>λm H e D=>zMX (h m H e D)
theorem zGP {l:List aI} {c:Int} {m:aI} (h:l.find? (isF c)=some m):m∈l/\m.aW=c:=by refine⟨fK h,?_⟩;have k:=List.find?_some h;unfold isF at k;simpa using k
theorem zWW {l:List aI} (h:DS l) {m:aI} (k:m∈l):syl m.aW=false:=by
 cases D:syl m.aW with
 | false=>rfl
 | true=>have:=(zI6 _).1 D;have:=h.hk m k;omega
theorem zEZ {l:List aI} (D:DS l) {m:aI} (K:m∈l):l.find? (isF m.aW)=some m:=by
 obtain⟨k,h,rfl⟩:=fc K;rw[<-zBQ h];exact zR1 (p:=isF (nth l k).aW) h (λj H=>by
  have:=D.lt H h;unfold isF;simp only[dB];omega) (by simp[isF])
theorem z5M {l:List aI} (D:DS l) {c:Int} (h:syl c=true):l.find? (isF c)=none:=by
 cases H:l.find? (isF c) with
 | none=>rfl
 | some m=>
  obtain⟨k,rfl⟩:=zGP H;rw[zWW D k] at h;cases h
theorem z5N {l:List aI} (D:DS l) {c:Int} {m:aI} (h:l.find? (isF c)=some m):dep l c=m.To:=by obtain⟨k,rfl⟩:=zGP h;exact z5K D k
theorem yNQ {l:List aI} (D:DS l):∀{k:Nat} {c:Int},EE l k c->DD l k c
 | 0,_,h=>h.elim
 | _+1,_,h=>λm K e H=>yNQ D (h e (by rw[z5N D K];exact H))
theorem yHQ {l:List aI} (hd:DS l) (H:∀m∈l,WW l m.aW):∀m∈l,DD l l.length m.aW:=by
 classical
 have key:∀k,(∀m∈l,DD l k m.aW)\/k<=l.countP (λm=>decide (DD l k m.aW)):=by
  intro k
  induction k with
  | zero=>exact .inr (gD _)
  | succ k Z=>
   rcases Z with Z | Z;exact .inl λm D=>zMX (Z m D);by_cases Y:∀m∈l,DD l (k+1) m.aW->DD l k m.aW;left;have T:∀j c,DD l j c->DD l k c:=by
    intro j
    induction j with
    | zero=>intro c h;exact zU5 h k
    | succ j ad=>
     intro c h;cases hf:l.find? (isF c) with
     | none=>exact zU5 hf k
     | some m=>
      obtain⟨O,K⟩:=zGP hf;have:=Y m O (by
       rw[K];intro m' ab e he;exact ad e (h m' ab e he))
      rwa [K] at this
   intro m D;obtain⟨j,hj⟩:=H m D;exact zMX (T j _ (yNQ hd hj));right;have aa:∃m∈l,DD l (k+1) m.aW/\¬DD l k m.aW:=by
    apply Classical.byContradiction;intro ac;exact Y λm D O=>Classical.byContradiction λK=>ac ⟨m,D,O,K⟩
   obtain⟨m,D,O,K⟩:=aa;have:=zTC (p:=λm=>decide (DD l k m.aW)) (q:=λm=>decide (DD l (k+1) m.aW)) (l:=l) (λx _ hx=>by simp only[cZ] at hx ⊢;exact zMX hx) ⟨m,D,by simpa using O,by simpa using K⟩
   omega
 rcases key l.length with h | h;exact h;have al:l.countP (λm=>decide (DD l l.length m.aW))<=l.length:=List.countP_le_length;have:l.countP (λm=>decide (DD l l.length m.aW))=l.length:=by omega
 intro m D;have:=List.countP_eq_length.1 this m D;simpa using this
theorem zWX {l:List aI} (K:DS l) (H:∀m∈l,WW l m.aW) (c:Int):DD l l.length c:=by
 cases h:l.find? (isF c) with
 | none=>exact zU5 h _
 | some m=>
  obtain⟨k,D⟩:=zGP h;have:=yHQ K H m k
  rwa [D] at this
def fnB (l:List aI) (b:Bool) (c:Int):Option (List Int):=match l.find? (isF c) with
 | some m=>if (b ||(m.bO== []))=true then some m.To else none
 | none=>none
theorem zKD {l:List aI} {b:Bool} {c:Int} {D:List Int} (h:fnB l b c=some D):∃m,l.find? (isF c)=some m/\m.To=D/\(b ||(m.bO== []))=true:=by
 unfold fnB at h;cases k:l.find? (isF c) with
 | none=>rw[k] at h;cases h
 | some m=>
  rw[k] at h;simp only at h;split at h;rename_i hb;injection h with h;exact⟨m,rfl,h,hb⟩;cases h
theorem zWY (l:List aI) (c:Int):fnB l true c=(l.find? (isF c)).map (·.To):=by unfold fnB;cases l.find? (isF c)<;>simp
theorem yPM {l:List aI} {c:Int} {k:List Int} (h:fnB l false c=some k):fnB l true c=some k:=by obtain⟨m,D,H,_⟩:=zKD h;rw[zWY,D,<-H];rfl
def exF (l:List aI) (b:Bool):Nat->Int->List Int
 | 0,c=>hdE c
 | k+1,c=>match fnB l b c with
  | some h=>h.flatMap (exF l b k)
  | none=>hdE c
def wtF (l:List aI) (b:Bool):Nat->Int->Int
 | 0,c=>((hdE c).length:Int)
 | k+1,c=>match fnB l b c with
  | some h=>min (max (h.map (wtF l b k)).sum 1) 65
  | none=>((hdE c).length:Int)
theorem zQN {f g:Int->List Int}:∀{L:List Int},(∀e∈L,f e=g e)->L.flatMap f=L.flatMap g
 | [],_=>rfl
 | x::L,h=>by rw[d5,d5,h x (by simp),zQN λe k=>h e (by simp[k])]
theorem zGQ {l:List aI} {b:Bool} {c:Int} (h:l.find? (isF c)=none):fnB l b c=none:=by unfold fnB;rw[h]
theorem yHR {l:List aI} {b:Bool}:∀{k:Nat} {c:Int},DD l k c->∀{j:Nat},k<=j->exF l b j c=exF l b k c
 | 0,c,h,j,_=>by
  cases j with
  | zero=>rfl
  | succ j=>show (match fnB l b c with | some D=>D.flatMap (exF l b j) | none=>hdE c)=hdE c;rw[zGQ h]
 | k+1,c,h,j,T=>by
  cases j with
  | zero=>omega
  | succ j=>
   show (match fnB l b c with | some D=>D.flatMap (exF l b j) | none=>hdE c)=(match fnB l b c with | some D=>D.flatMap (exF l b k) | none=>hdE c);cases O:fnB l b c with
   | none=>rfl
   | some D=>
    obtain⟨m,H,rfl,_⟩:=zKD O;exact zQN λe K=>yHR (h m H e K) (by omega)
theorem yHS {l:List aI} {b:Bool}:∀{k:Nat} {c:Int},DD l k c->∀{j:Nat},k<=j->wtF l b j c=wtF l b k c
 | 0,c,h,j,_=>by
  cases j with
  | zero=>rfl
  | succ j=>show (match fnB l b c with | some D=>min (max (D.map (wtF l b j)).sum 1) 65 | none=>((hdE c).length:Int))=((hdE c).length:Int);rw[zGQ h]
 | k+1,c,h,j,T=>by
  cases j with
  | zero=>omega
  | succ j=>
   show (match fnB l b c with | some D=>min (max (D.map (wtF l b j)).sum 1) 65 | none=>((hdE c).length:Int))=(match fnB l b c with | some D=>min (max (D.map (wtF l b k)).sum 1) 65 | none=>((hdE c).length:Int));cases O:fnB l b c with
   | none=>rfl
   | some D=>
    obtain⟨m,H,rfl,_⟩:=zKD O;have:m.To.map (wtF l b j)=m.To.map (wtF l b k):=gt λe K=>yHS (h m H e K) (by omega);simp only[this]
def fu (l:List aI) (b:Bool) (c:Int):List Int:=exF l b l.length c
def wt (l:List aI) (b:Bool) (c:Int):Int:=wtF l b l.length c
theorem zR3 {l:List aI} {b:Bool} (h:∀c,DD l l.length c) (c:Int):fu l b c=match fnB l b c with | some k=>k.flatMap (fu l b) | none=>hdE c:=by unfold fu;rw[<-yHR (h c) (show l.length<=l.length+1 by omega)];rfl
theorem zZW {l:List aI} {b:Bool} (h:∀c,DD l l.length c) (c:Int):wt l b c=(match fnB l b c with | some k=>(min (max (k.map (wt l b)).sum 1) 65:Int) | none=>((hdE c).length:Int):Int):=by unfold wt;rw[<-yHS (h c) (show l.length<=l.length+1 by omega)];rfl
theorem zO8 {l:List aI} {b:Bool} (k:Nat) (c:Int):1<=wtF l b k c/\wtF l b k c<=65:=by
 have:=zQL c;cases k with
 | zero=>show 1<=((hdE c).length:Int)/\((hdE c).length:Int)<=65;omega
 | succ k=>
  show 1<=(match fnB l b c with | some h=>min (max (h.map (wtF l b k)).sum 1) 65 | none=>((hdE c).length:Int))/\(match fnB l b c with | some h=>min (max (h.map (wtF l b k)).sum 1) 65 | none=>((hdE c).length:Int))<=65;cases fnB l b c with
  | none=>simp only[];omega
  | some h=>simp only[];omega
theorem z1Y {f:Int->Int} (h:∀e,1<=f e):∀L:List Int,(L.length:Int)<=(L.map f).sum
 | []=>by simp
 | x::L=>by have:=z1Y h L;have:=h x;simp only[eA,iI,dR];omega
theorem yAG {f:Int->List Int} {w:Int->Int} (k:∀e,1<=w e) (N:Int):∀(L:List Int),(∀e∈L,w e<=N->((f e).length:Int)<=w e)->(L.map w).sum<=N->((L.flatMap f).length:Int)<=(L.map w).sum
 | [],_,_=>by simp
 | x::L,h,H=>by
  have K:=z1Y k L;have O:=k x;simp only[eA,iI] at H ⊢;have Y:=yAG k N L (λe D=>h e (by simp[D])) (by omega);have T:=h x (by simp) (by omega);rw[d5,cX];omega
theorem yL3 {l:List aI} {b:Bool}:∀(k:Nat) (c:Int),wtF l b k c<=64->((exF l b k c).length:Int)<=wtF l b k c:=by
 intro k
 induction k with
 | zero=>intro c _;show ((hdE c).length:Int)<=((hdE c).length:Int);omega
 | succ k K=>
  intro c;show (match fnB l b c with | some D=>min (max (D.map (wtF l b k)).sum 1) 65 | none=>((hdE c).length:Int))<=64->(((match fnB l b c with | some D=>D.flatMap (exF l b k) | none=>hdE c):List Int).length:Int)<=(match fnB l b c with | some D=>min (max (D.map (wtF l b k)).sum 1) 65 | none=>((hdE c).length:Int));cases fnB l b c with
  | none=>intro _;simp only[];omega
  | some D=>
   simp only[];intro h;have:=yAG (f:=exF l b k) (w:=wtF l b k) (λe=>(zO8 k e).1) 64 D (λe _ H=>K e H) (by omega);omega
theorem yAH {l:List aI} (K:DS l):∀(k:Nat) (c:Int),wtF l false k c<=wtF l true k c:=by
 intro k
 induction k with
 | zero=>intro c;exact fT _
 | succ k Z=>
  intro c;have T:∀L:List Int,(L.map (wtF l false k)).sum<=(L.map (wtF l true k)).sum:=by
   intro L
   induction L with
   | nil=>simp
   | cons x L aa=>have:=Z x;simp only[eA,iI];omega
  show (match fnB l false c with | some h=>min (max (h.map (wtF l false k)).sum 1) 65 | none=>((hdE c).length:Int))<=(match fnB l true c with | some h=>min (max (h.map (wtF l true k)).sum 1) 65 | none=>((hdE c).length:Int));cases O:fnB l false c with
  | some h=>
   rw[yPM O];have:=T h;simp only[];omega
  | none=>
   cases Y:fnB l true c with
   | none=>exact fT _
   | some h=>
    obtain⟨m,D,_,_⟩:=zKD Y;obtain⟨H,rfl⟩:=zGP D;have:hdE m.aW= [m.aW]:=by unfold hdE;rw[dN (by simp[zWW K H])]
    simp only[this,gY];omega
theorem yPN {l:List aI} (k:DS l) (h:∀c,wt l true c<=64) (b:Bool) (c:Int):(fu l b c).length<=64:=by
 have D:wtF l b l.length c<=wtF l true l.length c:=by
  cases b with
  | true=>exact fT _
  | false=>exact yAH k _ c
 have H:wtF l true l.length c<=64:=h c;have:=yL3 (l:=l) (b:=b) l.length c (by omega);unfold fu;omega
theorem yHT {l:List aI} (Z:DS l) (Y:∀c,DD l l.length c) (c:Int):(dep l c= []->wt l true c=1)/\(dep l c≠[]->wt l true c=min ((dep l c).map (wt l true)).sum 65):=by
 have hp:∀e,1<=wt l true e:=λe=>(zO8 _ e).1;rw[zZW Y c,zWY];cases hf:l.find? (isF c) with
 | some m=>
  rw[z5N Z hf];simp only[e6];constructor;intro h;rw[h];rfl;intro h;have:=z1Y hp m.To;have:0<m.To.length:=eU.2 h;omega
 | none=>
  simp only[gv];cases H:syl c with
  | false=>
   have K:dep l c= []:=by unfold dep;rw[dN (by simp[H]),hf]
   have h2:hdE c= [c]:=by unfold hdE;rw[dN (by simp[H])]
   rw[K,h2];exact⟨λ_=>rfl,λh=>absurd rfl h⟩
  | true=>
   have K:dep l c=hdE c:=by unfold dep;rw[dG H]
   have hl:=zQL c;have k:∀e∈hdE c,wt l true e=1:=by
    intro e O;obtain⟨p1,p2⟩:=zR0 H O;have hn:l.find? (isF e)=none:=by
     cases T:l.find? (isF e) with
     | none=>rfl
     | some m=>obtain⟨q1,rfl⟩:=zGP T;exact absurd (Z.hk m q1) p2
    rw[zZW Y e,zGQ hn];simp only[];unfold hdE;rw[dN (by simp[p1])];rfl
   have D:∀L:List Int,(∀e∈L,wt l true e=1)->(L.map (wt l true)).sum=(L.length:Int):=by
    intro L
    induction L with
    | nil=>intro _;rfl
    | cons x L ih=>intro h;have:=ih λe O=>h e (by simp[O]);have:=h x (by simp);simp only[eA,iI,dR];omega
   rw[K];constructor;intro h;rw[h] at hl;simp at hl;intro _;rw[D _ k];omega
open Go.AV
section
variable {n:Norm} (hd:DS n.aA) (hl:n.aA.length<=2000) (H:∀m∈n.aA,WW n.aA m.aW)
include hd hl H
structure MeX (l:List aI) (m:List (Int×Int)) (lo:Bool):Prop where
 val:∀k v,mget m k=some v->v= -1\/v=wt l true k
 lof:lo=false->∀k v,mget m k=some v->v≠ -1->v<=64
 lot:lo=true->∃x∈l,64<wt l true x.aW
def z8O (l:List aI) (m D:List (Int×Int)) (h:Bool):Prop:=
 MeX l D h/\(∀k v,mget m k=some v->mget D k=some v)/\∀e,mget D e=some (-1)->mget m e=some (-1)
omit hd hl H in
theorem yDL {m D:List (Int×Int)} (h:∀k v,mget m k=some v->mget D k=some v):∀k,zDM m k=true->zDM D k=true:=by intro k K;obtain⟨v,O⟩:=gI.1 K;show (mget D k).isSome=true;rw[h k v O];rfl
omit H hl in
theorem yL4 {f:Nat} (c:Int) (k1:Nat) (ih:∀c m lo,MeX n.aA m lo->zYI n.aA f c m->(∃k,EE n.aA k c/\∀e,mget m e=some (-1)->¬EE n.aA k e)->∃D K,yJ f c n m false lo=some (wt n.aA true c,false,D,K)/\z8O n.aA m K D/\(dep n.aA c≠[]->mget K c=some (wt n.aA true c))) (ab:∀e∈dep n.aA c,EE n.aA k1 e):
  ∀(d i:Nat) (s:Int) (lo:Bool) (m:List (Int×Int)),(dep n.aA c).length-i=d->i<=(dep n.aA c).length->0<=s->s<=65->MeX n.aA m lo->(∀e∈dep n.aA c,zYI n.aA f e m)->(∀e,mget m e=some (-1)->¬EE n.aA k1 e)->
   ∃D K,zF (zWV (dep n.aA c,true) (yJ f) n) (s,(i:Int),false,lo,m)=some (min (s+(((dep n.aA c).drop i).map (wt n.aA true)).sum) 65,false,D,K)/\z8O n.aA m K D:=by
 have hL:=yAC hd c;generalize dep n.aA c=L at*;intro d
 induction d with
 | zero=>
  intro i s lo m h1 h2 h3 h4 T Y Z;refine⟨lo,m,?_,T,λ_ _ h=>h,λ_ h=>h⟩;refine zL ?_;rw[dE (show L.length<=i by omega)];simp only[jS,kH (show L.length<=i by omega),cN,fD,List.sum_nil,Int.add_zero];rw[Int.min_eq_left h4]
 | succ d ac=>
  intro i s lo m h1 h2 h3 h4 T Y Z;have hi:i<L.length:=by omega
  have hm:=eF hi;obtain⟨O,m1,hr,⟨r1,r2,r3⟩,_⟩:=ih L[i] m lo T (Y _ hm) ⟨k1,ab _ hm,Z⟩;have hp:=zO8 (l:=n.aA) (b:=true) n.aA.length L[i];have ar:1<=wt n.aA true L[i]/\wt n.aA true L[i]<=65:=hp;have hb:zWV (L,true) (yJ f) n (s,(i:Int),false,lo,m)=some (.next (min (s+wt n.aA true L[i]) 65,((i+1:Nat):Int),false,O,m1)):=by
   simp only[jS,yS hi,cO,zU hi,zA,hr,zJ (k:=i) (by omega)];rw[xN (n:=s+wt n.aA true L[i]) (by omega) (by omega)]
  rw[zM hb];obtain⟨ag,m2,hq,q1,q2,q3⟩:=ac (i+1) (min (s+wt n.aA true L[i]) 65) O m1 (by omega) (by omega) (by omega) (by omega) r1 (λe he=>zZV (yDL r2) (Y e he)) (λe he=>Z e (r3 e he));refine⟨ag,m2,?_,q1,λk v h=>q2 k v (r2 k v h),λe h=>r3 e (q3 e h)⟩;rw[hq,cW hi,eA,iI];have ap:=z1Y (f:=wt n.aA true) (λe=>(zO8 _ e).1) (L.drop (i+1));have:min (min (s+wt n.aA true L[i]) 65+((L.drop (i+1)).map (wt n.aA true)).sum) 65=min (s+(wt n.aA true L[i]+((L.drop (i+1)).map (wt n.aA true)).sum)) 65:=by omega
  rw[this]
theorem yL5 : ∀ (f : Nat) (c : Int) (m : List (Int × Int)) (lo : Bool), MeX n.aA m lo -> zYI n.aA f c m -> (∃ k, EE n.aA k c /\ ∀ e, mget m e = some (-1) -> ¬ EE n.aA k e) ->
    ∃ lo' m', yJ f c n m false lo = some (wt n.aA true c, false, lo', m') /\ z8O n.aA m m' lo' /\ (dep n.aA c ≠ [] -> mget m' c = some (wt n.aA true c)) := by
  have hD := zWX hd H;intro f
  induction f with
  | zero =>
    intro c m lo _ hn;exfalso;rcases hn with h | h | h<;>omega
  | succ f ih =>
    intro c m lo hm hn hst;show ∃ lo' m', jJ (yJ f) c n m false lo = some _ /\ _;obtain⟨w0, w1⟩ := yHT hd hD c;have hp' : 1 <= wt n.aA true c /\ wt n.aA true c <= 65 := zO8 (l := n.aA) (b := true) n.aA.length c;by_cases h0 : dep n.aA c = []
    · rw[yAF hd hl h0, w0 h0]
      exact⟨lo, m, rfl, ⟨hm, λ_ _ h => h, λ_ h => h⟩, λh => absurd h0 h⟩
    · rw[yNO hd hl h0]
      obtain⟨k, hk, hks⟩ := hst;cases hh : zDM m c with
      | true =>
        obtain⟨v, hv⟩ := gI.1 hh;have hg : mgetD m c 0 = v := by unfold mgetD; rw[hv]; rfl
        have hne : v ≠ -1 := λe => hks c (by rw[hv, e]) hk;have hvw : v = wt n.aA true c := (hm.val c v hv).resolve_left hne;rw[hg, cO];have e1 : decide (v = -1) = false := by simpa using hne
        rw[e1];refine⟨lo, m, ?_, ⟨hm, λ_ _ h => h, λ_ h => h⟩, λ_ => by rw[hv, hvw]⟩;rw[show max v 1 = wt n.aA true c by omega];rfl
      | false =>
        have hmin : ∃ k0, EE n.aA (k0+1) c /\ ¬ EE n.aA k0 c /\ k0+1 <= k := by
          clear hks
          induction k with
          | zero => exact hk.elim
          | succ k ihk =>
            by_cases h : EE n.aA k c
            · obtain⟨k0, a, b, e⟩ := ihk h
              exact⟨k0, a, b, by omega⟩
            · exact⟨k, hk, h, dC _⟩
        obtain⟨k0, a, b, e⟩ := hmin;have hgn : mget m c = none := by
          cases hx : mget m c with
          | none => rfl
          | some v => have : zDM m c = true := by unfold zDM; rw[hx]; rfl
                      rw[hh] at this; cases this
        have hok : MeX n.aA (vD m c (-1)) lo := by
          refine⟨λk v hk => ?_, λhc k v hk hne => ?_, hm.lot⟩
          · rw[vL] at hk
            split at hk
            · cases hk; exact .inl rfl
            · exact hm.val k v hk
          · rw[vL] at hk
            split at hk
            · cases hk; exact absurd rfl hne
            · exact hm.lof hc k v hk hne
        have hnd : ∀ e ∈ dep n.aA c, zYI n.aA f e (vD m c (-1)) := by
          intro e he;cases hs : syl c with
          | true =>
            refine .inr (.inr ⟨z1W hd hs he, ?_⟩);rcases hn with h | h | h
            · omega
            · omega
            · exact absurd h.1 h0
          | false =>
            rcases hn with h | h | h
            · refine .inl ?_
              have := yAE (l := n.aA) (v := -1) (z8N h0 hs) hh;omega
            · rw[hs] at h; cases h.1
            · exact absurd h.1 h0
        obtain⟨lo1, m1, hq, q1, q2, q3⟩ := yL4 hd c k0 ih (λe he => a e he) (dep n.aA c).length 0 0 lo (vD m c (-1)) (by omega) (by omega) (by omega) (by omega) hok hnd (λe' he' => by
          rw[vL] at he';split at he'
          · rename_i hx; rw[hx]; exact b
          · exact λh => hks e' he' (yHM (by omega) h))
        rw[d8, Int.zero_add, <- w1 h0] at hq;have hq' : zF (zWV (dep n.aA c, true) (yJ f) n) (0, 0, false, lo, vD m c (-1)) = some (wt n.aA true c, false, lo1, m1) := hq;simp only[cN];rw[hq'];refine⟨(lo1 || decide (64<wt n.aA true c)), vD m1 c (wt n.aA true c), rfl, ⟨⟨λk v hk => ?_, λhc k v hk hne => ?_, λhc => ?_⟩, λk v hk => ?_, λe' he' => ?_⟩, λ_ => by rw[vL, dG rfl]⟩
        · rw[vL] at hk
          split at hk
          · rename_i hx; cases hk; rw[hx]; exact .inr rfl
          · exact q1.val k v hk
        · rw[fB] at hc
          rw[vL] at hk;split at hk
          · cases hk; have := hc.2; simp only[dB] at this; omega
          · exact q1.lof hc.1 k v hk hne
        · rcases Bool.or_eq_true_iff.1 hc with h | h
          · exact q1.lot h
          · simp only[cZ] at h
            cases hs : syl c with
            | true =>
              have : wt n.aA true c <= 3 := by
                rw[zZW hD c, zGQ (z5M hd hs)];have := zQL c;simp only[]; omega
              omega
            | false => obtain⟨x, hx, rfl⟩ := z8N h0 hs; exact⟨x, hx, h⟩
        · rw[vL]
          split
          · rename_i hx; rw[hx, hgn] at hk; cases hk
          · rename_i hx
            exact q2 k v (by rw[vL, dN hx]; exact hk)
        · rw[vL] at he'
          split at he'
          · injection he' with he'; omega
          · rename_i hx
            have := q3 e' he';rw[vL, dN hx] at this;exact this
theorem zWZ (hp:n.aA.length<=90):∃lo,decompose_measure n=some (false,lo)/\(lo=false↔∀x∈n.aA,wt n.aA true x.aW<=64):=by
 have hD:=zWX hd H;have key:∀(d i:Nat) (lo:Bool) (m:List (Int×Int)),n.aA.length-i=d->i<=n.aA.length->MeX n.aA m lo->(∀e,mget m e≠some (-1))->(∀x∈n.aA.take i,dep n.aA x.aW≠[]->mget m x.aW=some (wt n.aA true x.aW))->
   ∃K,zF (λ(x:Int×Bool×Bool×(List (Int×Int)))=>k8 n x.1 x.2.1 x.2.2.1 x.2.2.2) ((i:Int),false,lo,m)=some (false,K)/\(K=false↔∀x∈n.aA,wt n.aA true x.aW<=64):=by
  intro d
  induction d with
  | zero=>
   intro i lo m Y h2 T Z h5;refine⟨lo,?_,λh x hx=>?_,λh=>?_⟩
   ·refine zL ?_
    simp only[k8,kH (show n.aA.length<=i by omega),cN]
   ·by_cases h0:dep n.aA x.aW= []
    ·rw[(yHT hd hD x.aW).1 h0];decide
    ·have hg:=h5 x (by rw[gA (by omega)];exact hx) h0
     have an:1<=wt n.aA true x.aW/\wt n.aA true x.aW<=65:=zO8 (l:=n.aA) (b:=true) n.aA.length x.aW;exact T.lof h _ _ hg (by omega)
   ·cases lo with
    | false=>rfl
    | true=>obtain⟨x,hx,hg⟩:=T.lot rfl;have:=h x hx;omega
  | succ d ih=>
   intro i lo m Y h2 T Z h5;have hi:i<n.aA.length:=by omega
   have ai:pot n.aA m<=n.aA.length:=List.countP_le_length;obtain⟨k,hk⟩:=H n.aA[i] (eF hi);obtain⟨O,m1,hr,⟨r1,r2,r3⟩,r4⟩:=yL5 hd hl H 100 n.aA[i].aW m lo T (.inl (by omega)) ⟨k,hk,λe he=>absurd he (Z e)⟩;rw[zM (x':=(((i+1:Nat):Int),false,O,m1)) (by
    simp only[k8,yS hi,cO,zU hi,zA,hr,zJ (k:=i) (by omega)])]
   refine ih (i+1) O m1 (by omega) (by omega) r1 (λe he=>Z e (r3 e he)) (λx hx D=>?_);rw[List.take_add_one,cS hi] at hx;rcases eK.1 hx with hx | hx
   ·exact r2 _ _ (h5 x hx D)
   ·simp only[Option.toList_some,gx] at hx
    subst hx;exact r4 D
 obtain⟨lo,hr,Y⟩:=key n.aA.length 0 false [] (by omega) (by omega) ⟨λk v h=>(by cases h),λ_ k v h=>(by cases h),λh=>by cases h⟩ (λe h=>by cases h) (λx hx=>by cases hx);have ad:zF (λ(x:Int×Bool×Bool×(List (Int×Int)))=>k8 n x.1 x.2.1 x.2.2.1 x.2.2.2) (0,false,false,[])=some (false,lo):=hr;refine⟨lo,?_,Y⟩;unfold decompose_measure;rw[ad];rfl
end
theorem yHU {n:Norm} (O:DS n.aA) (Y:n.aA.length<=90):decompose_measure n=some (false,false)↔(∀m∈n.aA,WW n.aA m.aW)/\∀m∈n.aA,wt n.aA true m.aW<=64:=by
 have T:n.aA.length<=2000:=by omega
 constructor;intro h;obtain⟨r,D,Z⟩:=zT4 O T Y;rw[h] at D;injection D with D;subst D;have H:=Z rfl;obtain⟨lo,k,K⟩:=zWZ O T H Y;rw[h] at k;injection k with k;injection k with _ k;exact⟨H,K.1 k.symm⟩
 rintro⟨H,h⟩
 obtain⟨lo,k,K⟩:=zWZ O T H Y;rw[k,K.2 h]
theorem yPO {l:List aI} (K:DS l) (H:∀m∈l,WW l m.aW) (h:∀m∈l,wt l true m.aW<=64) (c:Int):wt l true c<=64:=by
 cases k:l.find? (isF c) with
 | some m=>obtain⟨D,rfl⟩:=zGP k;exact h m D
 | none=>
  rw[zZW (zWX K H) c,zGQ k];have:=zQL c;simp only[];omega
open Go.AV
set_option linter.unusedSimpArgs false
set_option linter.unusedVariables false
def sg (a b:Int):Int:=if a<b then -1 else if b<a then 1 else 0
theorem yAI (a b:Int):decide (sg a b<0)=decide (a<b):=by unfold sg;by_cases h:a<b;simp[h];by_cases k:b<a<;>simp[h,k]
theorem yAJ {D:Type} [Inhabited D] {l m:List D} {k:Nat} (h:k<l.length):nth (l++m) k=nth l k:=by simp[nth,dY h]
theorem yAK {D:Type} [Inhabited D] {l m:List D} {k j:Nat} (h:k=l.length+j):nth (l++m) k=nth m j:=by subst h;simp[nth,dV]
theorem wn {n:Int} (h:0<=n) (k:n<=1000000):wi n=n:=xN (by omega) (by omega)
theorem yNR:∀(U V p W s:List Int) (k:Nat) (N A B:Int),U.length=V.length->N=((k+U.length:Nat):Int)->A+k=(p.length:Int)->B+k=((p.length+U.length+W.length:Nat):Int)->0<=A->0<=B->p.length+U.length+W.length+V.length<=2000->k<=2000->
  zF (λ(x:Int×(List Int))=>kG N B A x.1 x.2) ((k:Int),p++U++W++V++s)=some (p++V++W++U++s)
 | [],[],p,W,s,k,N,A,B,_,h,_,_,_,_,_,_=>by
  refine zL ?_;show kG N B A (k:Int) _=_;simp only[kG,h,kH (k:=k) (n:=k+0) (by omega),d7,cN]
 | u::U,v::V,p,W,s,k,N,A,B,hl,h,Y,D,H,K,hs,hk=>by
  have hU:U.length=V.length:=by simpa using hl
  simp only[dR] at h D hs;have ih:=yNR U V (p++ [v]) (W++ [u]) s (k+1) N A B hU (by rw[h];omega) (by simp;omega) (by simp;omega) H K (by simp;omega) (by omega)
  have Z:p++u::U++W++v::V++s=(p++u::U++W)++v::(V++s):=by simp
  have O:p++u::U++W++v::V++s=p++u::(U++W++v::V++s):=by simp
  have i1:yD (p++u::U++W++v::V++s) (wi (B+k))=some v:=by
   rw[wn (by omega) (by omega),D,Z];exact vU (by simp;omega)
  have i2:yD (p++u::U++W++v::V++s) (wi (A+k))=some u:=by
   rw[wn (by omega) (by omega),Y,O];exact vU rfl
  have s1:zBD (p++u::U++W++v::V++s) (wi (A+k)) v=some (p++v::(U++W++v::V++s)):=by
   rw[wn (by omega) (by omega),Y,O];exact zAU rfl
  have T:p++v::(U++W++v::V++s)=(p++v::U++W)++v::(V++s):=by simp
  have i3:yD (p++v::(U++W++v::V++s)) (wi (B+k))=some v:=by
   rw[wn (by omega) (by omega),D,T];exact vU (by simp;omega)
  have s2:zBD (p++v::(U++W++v::V++s)) (wi (B+k)) u=some ((p++v::U++W)++u::(V++s)):=by
   rw[wn (by omega) (by omega),D,T];exact zAU (by simp;omega)
  rw[zM (x':=(((k+1:Nat):Int),(p++ [v])++U++(W++ [u])++V++s))]
  ·rw[ih];simp
  ·show kG N B A (k:Int) _=_
   simp only[kG,h,yS (k:=k) (n:=k+(U.length+1)) (by omega),cO,i1,i2,s1,i3,s2,zA,zJ (k:=k) (by omega)];simp
theorem z1Z {U V p W s:List Int} {N A B:Int} {f:Int->Int->Option Int} (H:U.length=V.length) (D:N=(U.length:Int)) (h:A=(p.length:Int)) (k:B=((p.length+U.length+W.length:Nat):Int)) (K:p.length+U.length+W.length+V.length<=2000):
  kY (p++U++W++V++s) A B N f=some (p++V++W++U++s):=by
 unfold kY;have:=yNR U V p W s 0 N A B H (by rw[D];simp) (by rw[h];simp) (by rw[k];simp) (by omega) (by omega) K (by omega)
 rw[show ((0:Nat):Int)=0 from rfl] at this;rw[this];rfl
theorem yPP {f:Int->Int->Option Int} (M:Nat):∀(n:Nat) (P U V S:List Int),U.length+V.length<=n->(P++U).length=M->0<U.length->0<V.length->P.length+U.length+V.length<=2000->
  ∃(i:Nat) (d:List Int),zF (λ(x:Int×Int×(List Int))=>yW (M:Int) f x.1 x.2.1 x.2.2) ((U.length:Int),(V.length:Int),P++U++V++S)=some ((i:Int),d)/\i<=M/\
   kY d (wi ((M:Int)-(i:Int))) (M:Int) (i:Int) f=some (P++V++U++S)
 | 0,P,U,V,S,hn,Z,hU,hV,hs=>by omega
 | n+1,P,U,V,S,hn,Z,hU,hV,hs=>by
  simp only[cX] at Z;by_cases e:U.length=V.length
  ·refine⟨U.length,P++U++V++S,zL ?_,by omega,?_⟩
   ·show yW (M:Int) f (U.length:Int) (V.length:Int) _=_
    simp only[yW,e,dA,dD,cN]
   ·rw[wn (by omega) (by omega)]
    have:=z1Z (U:=U) (V:=V) (p:=P) (W:=[]) (s:=S) (N:=U.length) (A:=(M:Int)-(U.length:Int)) (B:=(M:Int)) (f:=f) e rfl (by omega) (by simp;omega) (by simp;omega)
    simpa using this
  ·by_cases D:V.length<U.length
   ·have Y:=yPP (f:=f) M n (P++V) (U.drop V.length) (U.take V.length) S (by simp;omega) (by simp;omega) (by simp;omega) (by simp;omega) (by simp;omega)
    obtain⟨i,d,K,O,T⟩:=Y;refine⟨i,d,?_,O,?_⟩
    ·rw[zM (x':=(((U.drop V.length).length:Int),((U.take V.length).length:Int),(P++V)++U.drop V.length++U.take V.length++S))]
     ·exact K
     ·show yW (M:Int) f (U.length:Int) (V.length:Int) _=_
      have h:=z1Z (U:=U.take V.length) (V:=V) (p:=P) (W:=U.drop V.length) (s:=S) (N:=V.length) (A:=(M:Int)-(U.length:Int)) (B:=(M:Int)) (f:=f) (by simp;omega) (by simp;omega) (by omega) (by simp;omega) (by simp;omega)
      rw[show P++U.take V.length++U.drop V.length++V++S=P++U++V++S by rw[c9 P,ey]] at h;have H:(!decide ((U.length:Int)=(V.length:Int)))=true:=by simp;omega
      simp only[yW,H,cO,yS D,wn (n:=(M:Int)-(U.length:Int)) (by omega) (by omega),wn (n:=(U.length:Int)-(V.length:Int)) (by omega) (by omega),h,zA];simp only[eH,dZ];rw[show ((U.length-V.length:Nat):Int)=(U.length:Int)-(V.length:Int) by omega,show ((min V.length U.length:Nat):Int)=(V.length:Int) by omega]
    ·rw[T,c9 (P++V),ey]
   ·have D:U.length<V.length:=by omega
    have Y:=yPP (f:=f) M n P (V.drop (V.length-U.length)) (V.take (V.length-U.length)) (U++S) (by simp;omega) (by simp;omega) (by simp;omega) (by simp;omega) (by simp;omega)
    obtain⟨i,d,K,O,T⟩:=Y;refine⟨i,d,?_,O,?_⟩
    ·rw[zM (x':=(((V.drop (V.length-U.length)).length:Int),((V.take (V.length-U.length)).length:Int),P++V.drop (V.length-U.length)++V.take (V.length-U.length)++(U++S)))]
     ·exact K
     ·show yW (M:Int) f (U.length:Int) (V.length:Int) _=_
      have h:=z1Z (U:=U) (V:=V.drop (V.length-U.length)) (p:=P) (W:=V.take (V.length-U.length)) (s:=S) (N:=U.length) (A:=(M:Int)-(U.length:Int)) (B:=(M:Int)+(V.length:Int)-(U.length:Int)) (f:=f) (by simp;omega) rfl (by omega) (by simp;omega) (by simp;omega)
      rw[show P++U++V.take (V.length-U.length)++V.drop (V.length-U.length)++S=P++U++V++S by rw[c9 (P++U),ey]] at h;have H:(!decide ((U.length:Int)=(V.length:Int)))=true:=by simp;omega
      simp only[yW,H,cO,kH (k:=V.length) (n:=U.length) (by omega),cN,wn (n:=(M:Int)-(U.length:Int)) (by omega) (by omega),wn (n:=(M:Int)+(V.length:Int)) (by omega) (by omega),wn (n:=(M:Int)+(V.length:Int)-(U.length:Int)) (by omega) (by omega),wn (n:=(V.length:Int)-(U.length:Int)) (by omega) (by omega),h,zA];simp only[eH,dZ,c9];rw[show ((V.length-(V.length-U.length):Nat):Int)=(U.length:Int) by omega,show ((min (V.length-U.length) V.length:Nat):Int)=(V.length:Int)-(U.length:Int) by omega]
    ·rw[T]
     rw[show P++V.take (V.length-U.length)++V.drop (V.length-U.length)++(U++S)=P++(V.take (V.length-U.length)++V.drop (V.length-U.length))++U++S by simp,ey]
theorem yPQ {f:Int->Int->Option Int} {P U V S:List Int} {a m b:Int} (ha:a=(P.length:Int)) (h:m=((P++U).length:Nat)) (hb:b=((P++U++V).length:Nat)) (O:0<U.length) (T:0<V.length) (Y:P.length+U.length+V.length<=2000):
  xS (P++U++V++S) a m b f=some (P++V++U++S):=by
 obtain⟨i,d,H,Z,K⟩:=yPP (f:=f) (P++U).length (U.length+V.length) P U V S (dC _) rfl O T Y;unfold xS;have k:wi (m-a)=(U.length:Int):=by rw[wn (by simp at h;omega) (by simp at h;omega)];simp at h;omega
 have D:wi (b-m)=(V.length:Int):=by rw[wn (by simp at h hb;omega) (by simp at h hb;omega)];simp at h hb;omega
 rw[k,D,h,H,zA,K];rfl
open Go.AV
set_option linter.unusedSimpArgs false
set_option linter.unusedVariables false
section
variable (key:Int->Int)
def Srt (l:List Int):Prop:=l.Pairwise λx y=>key x<=key y
def Flt (a b:List Int):Prop:=a.Perm b/\∀k,a.filter (λx=>decide (key x=k))=b.filter (λx=>decide (key x=k))
end
section
variable {key:Int->Int}
theorem Flt.refl (a:List Int):Flt key a a:=⟨.refl _,λ_=>rfl⟩
theorem Flt.trans {a b c:List Int} (h:Flt key a b) (k:Flt key b c):Flt key a c:=⟨h.1.trans k.1,λq=>(h.2 q).trans (k.2 q)⟩
theorem Flt.symm {a b:List Int} (h:Flt key a b):Flt key b a:=⟨h.1.symm,λq=>(h.2 q).symm⟩
theorem Flt.app {a b c d:List Int} (h:Flt key a b) (k:Flt key c d):Flt key (a++c) (b++d):=⟨h.1.append k.1,λq=>by rw[List.filter_append,List.filter_append,h.2 q,k.2 q]⟩
theorem Flt.swap {a b:List Int} (h:∀x∈a,∀y∈b,key x≠key y):Flt key (a++b) (b++a):=⟨List.perm_append_comm,λq=>by
 rw[List.filter_append,List.filter_append];by_cases H:∃x∈a,key x=q
 ·obtain⟨x,K,e⟩:=H
  have:b.filter (λx=>decide (key x=q))= []:=by
   rw[List.filter_eq_nil_iff];intro y D k;exact h x K y D (by rw[e];simpa using Eq.symm (by simpa using k))
  rw[this];simp
 ·have:a.filter (λx=>decide (key x=q))= []:=by
   rw[List.filter_eq_nil_iff];intro y D k;exact H ⟨y,D,by simpa using k⟩
  rw[this];simp⟩
theorem Flt.mem {a b:List Int} (h:Flt key a b) {x:Int}:x∈a↔x∈b:=h.1.mem_iff
theorem Flt.len {a b:List Int} (h:Flt key a b):a.length=b.length:=h.1.length_eq
theorem zI7 {a b:List Int}:Srt key (a++b)↔Srt key a/\Srt key b/\∀x∈a,∀y∈b,key x<=key y:=iF
theorem zK7 {l:List Int} (h:Srt key l) {i j:Nat} (k:i<=j) (H:j<l.length):key (nth l i)<=key (nth l j):=by rcases Nat.lt_or_eq_of_le k with D | rfl;rw[zBQ H,zBQ (by omega:i<l.length)];exact hY.1 h i j _ _ D;exact fT _
theorem zW0:∀{a b:List Int},Srt key a->Srt key b->Flt key a b->a=b
 | [],b,_,_,h=>by have:=h.len;exact(cP (by simpa using this.symm)).symm
 | x::a,[],_,_,h=>by have:=h.len;simp at this
 | x::a,y::b,H,hb,h=>by
  have D:key x=key y:=by
   have O:x∈y::b:=h.mem.1 (by simp);have T:y∈x::a:=h.mem.2 (by simp);have l1:key y<=key x:=by
    rcases dM.1 O with e | e;rw[e];exact fT _;exact List.rel_of_pairwise_cons hb e
   have l2:key x<=key y:=by
    rcases dM.1 T with e | e;rw[e];exact fT _;exact List.rel_of_pairwise_cons H e
   omega
  have K:=h.2 (key x);rw[ig (by simp),ig (by simp[D])] at K;have Z:x=y:=(List.cons.inj K).1;subst Z;have Y:Flt key a b:=⟨h.1.cons_inv,λk=>by
   have:=h.2 k;by_cases e:key x=k;rw[ig (by simpa using e),ig (by simpa using e)] at this;exact(List.cons.inj this).2;rw[List.filter_cons_of_neg (by simpa using e),List.filter_cons_of_neg (by simpa using e)] at this;exact this⟩
  rw[zW0 (List.Pairwise.of_cons H) (List.Pairwise.of_cons hb) Y]
theorem yHV {k:Nat} (h:k+1<=1000000):wi (((k+1:Nat):Int)-1)=(k:Int):=by rw[wn (by omega) (by omega)];omega
theorem z5O (lt:Int->Int->Bool):∀(r:List Int) (x:Int) (s:List Int) (y:Int),y∈zAB lt r x s->y∈r\/y=x\/y∈s
 | [],x,s,y,h=>by
  rcases dM.1 h with h | h;exact .inr (.inl h);exact .inr (.inr h)
 | z::r,x,s,y,h=>by
  unfold zAB at h;split at h;rcases z5O lt r x (z::s) y h with h | h | h
  exact .inl (iE _ h);exact .inr (.inl h);rcases dM.1 h with h | h
  exact .inl (by rw[h];exact List.mem_cons_self)
  exact .inr (.inr h);rcases eK.1 h with h | h
  exact .inl (List.mem_reverse.1 h);rcases dM.1 h with h | h
  exact .inr (.inl h);exact .inr (.inr h)
section
variable {Q:Int->Prop} {lt:Int->Int->Bool} {g:Int->Int->Option Int} (hq:∀x y,Q x->Q y->∃c,g x y=some c/\decide (c<0)=lt x y)
include hq
theorem yNS (p t:List Int):∀(r:List Int) (x:Int) (s:List Int),Q x->(∀y∈r,Q y)->p.length+r.length<=2000->zF (λ(q:Int×List Int)=>yC (p.length:Int) g q.1 q.2) (((p.length+r.length:Nat):Int),p++(r.reverse++x::s)++t)=some (p++zAB lt r x s++t)
 | [],x,s,_,_,_=>by
  refine zL ?_;show yC (p.length:Int) g _ _=_;simp only[yC,d7,kH (k:=p.length) (n:=p.length+0) (by omega),zK,vB,zA,dP,cN];rfl
 | y::r,x,s,hx,Z,h=>by
  simp only[dR] at h;have O:p++((y::r).reverse++x::s)++t=(p++r.reverse++ [y])++x::(s++t):=by simp
  have e2:p++((y::r).reverse++x::s)++t=(p++r.reverse)++y::(x::s++t):=by simp
  have Y:((p.length+(y::r).length:Nat):Int)=((p.length+r.length+1:Nat):Int):=by simp;omega
  have i1:yD (p++((y::r).reverse++x::s)++t) ((p.length+r.length+1:Nat):Int)=some x:=by rw[O];exact vU (by simp;omega)
  have i2:yD (p++((y::r).reverse++x::s)++t) ((p.length+r.length:Nat):Int)=some y:=by rw[e2];exact vU (by simp)
  have s1:zBD (p++((y::r).reverse++x::s)++t) ((p.length+r.length+1:Nat):Int) y=some ((p++r.reverse++ [y])++y::(s++t)):=by rw[O];exact zAU (by simp;omega)
  have T:(p++r.reverse++ [y])++y::(s++t)=(p++r.reverse)++y::(y::s++t):=by simp
  have i3:yD ((p++r.reverse++ [y])++y::(s++t)) ((p.length+r.length:Nat):Int)=some y:=by rw[T];exact vU (by simp)
  have s2:zBD ((p++r.reverse++ [y])++y::(s++t)) ((p.length+r.length:Nat):Int) x=some ((p++r.reverse)++x::(y::s++t)):=by rw[T];exact zAU (by simp)
  have hb:decide ((p.length:Int)<((p.length+r.length+1:Nat):Int))=true:=yS (by omega);obtain⟨c,H,D⟩:=hq x y hx (Z y (by simp));cases K:lt x y with
  | true=>
   rw[K] at D;rw[Y,zM (x':=(((p.length+r.length:Nat):Int),p++(r.reverse++x::(y::s))++t)),yNS p t r x (y::s) hx (λz hz=>Z z (by simp[hz])) (by omega)];simp[zAB,K];show yC (p.length:Int) g _ _=_;simp only[yC,hb,zK,xB,yHV (k:=p.length+r.length) (by omega),i1,i2,zA,H,D,fA,cO,s1,i3,s2];simp
  | false=>
   rw[K] at D;rw[Y];refine zL ?_;show yC (p.length:Int) g _ _=_;simp only[yC,hb,zK,xB,yHV (k:=p.length+r.length) (by omega),i1,i2,zA,H,D,fG,cN];simp[zAB,K]
theorem yNT (p t:List Int):∀(l q:List Int),(∀y∈l,Q y)->(∀y∈q,Q y)->1<=q.length->p.length+q.length+l.length<=2000->zF (λ(x:Int×List Int)=>z8 ((p.length+q.length+l.length:Nat):Int) (p.length:Int) g x.1 x.2) (((p.length+q.length:Nat):Int),p++(q++l)++t)=some (p++zA0 lt l q++t)
 | [],q,_,_,_,_=>by
  refine zL ?_;show z8 _ (p.length:Int) g _ _=_;simp only[z8,d7,kH (k:=p.length+q.length) (n:=p.length+q.length+0) (by omega),cN];simp[zA0]
 | x::l,q,O,H,aa,h=>by
  simp only[dR] at h;have hi:=yNS hq p (l++t) q.reverse x [] (O x (by simp)) (λy K=>H y (by simpa using K)) (by simp;omega)
  rw[gO,fN] at hi;have Y:p++(q++x::l)++t=p++(q++ [x])++(l++t):=by simp
  have D:=zWT lt q.reverse x [];simp only[gO,d7] at D;have T:∀y∈zAB lt q.reverse x [],Q y:=λy K=>by
   rcases z5O lt q.reverse x [] y K with h | h | h;exact H y (by simpa using h);rw[h];exact O x (by simp);cases h
  have ih:=yNT p t l (zAB lt q.reverse x []) (λy K=>O y (by simp[K])) T (by omega) (by omega);rw[zM (x':=(((p.length+(zAB lt q.reverse x []).length:Nat):Int),p++(zAB lt q.reverse x []++l)++t))];have Z:((p.length+q.length+(x::l).length:Nat):Int)=((p.length+(zAB lt q.reverse x []).length+l.length:Nat):Int):=by simp;omega
  rw[Z,ih];rfl;show z8 _ (p.length:Int) g _ _=_;simp only[z8,dR,yS (k:=p.length+q.length) (n:=p.length+q.length+(l.length+1)) (by omega),cO,Y,hi,zA,zJ (k:=p.length+q.length) (by omega),D];simp only[c9];rw[show p.length+q.length+1=p.length+(q.length+1+0) by omega]
theorem yRZ {p m t:List Int} {a b:Int} (K:a=(p.length:Int)) (hb:b=((p.length+m.length:Nat):Int)) (H:∀y∈m,Q y) (h:p.length+m.length<=2000):kV (p++m++t) a b g=some (p++zA0 lt m []++t):=by
 unfold kV;have O:wi (a+1)=((p.length+1:Nat):Int):=by rw[wn (by omega) (by omega)];omega
 rw[O];cases m with
 | nil=>
  have:zF (λ(x:Int×List Int)=>z8 b a g x.1 x.2) (((p.length+1:Nat):Int),p++ []++t)=some (p++ []++t):=zL (by
   show z8 b a g _ _=_;simp only[z8,hb,d7,kH (k:=p.length+1) (n:=p.length+0) (by omega),cN])
  rw[this];rfl
 | cons x m=>
  have:=yNT hq p t m [x] (λy D=>H y (by simp[D])) (λy D=>by rw[gx.1 D];exact H x (by simp)) (by simp) (by simp at h ⊢;omega)
  rw[K,hb];have e:p.length+ [x].length+m.length=p.length+(x::m).length:=by simp;omega
  rw[e] at this;simp only[gY,iA] at this;rw[this];rfl
end
variable {f:Int->Int->Option Int} (hf:∀x y,f x y=some (sg (key x) (key y)))
include hf
theorem yR0 {p m t:List Int} {a b:Int} (k:a=(p.length:Int)) (hb:b=((p.length+m.length:Nat):Int)) (h:p.length+m.length<=2000):kV (p++m++t) a b f=some (p++zA0 (λa b=>decide (key a<key b)) m []++t):=
 yRZ (Q:=λ_=>True) (λx y _ _=>⟨_,hf x y,by simp only[yAI]⟩) k hb (λ_ _=>trivial) h
omit hf in
theorem z5P:∀(r:List Int) (x:Int) (s:List Int),(∀y∈s,key x<key y)->Flt key (r.reverse++x::s) (zAB (λa b=>decide (key a<key b)) r x s)
 | [],x,s,_=>Flt.refl _
 | y::r,x,s,D=>by
  unfold zAB;by_cases h:key x<key y
  ·
   simp only[h,dA,dH];refine Flt.trans ?_ (z5P r x (y::s) (λz H=>by
    rcases dM.1 H with e | e
    · rw[e];exact h
    · exact D z e))
   have:Flt key ([y]++ [x]) ([x]++ [y]):=Flt.swap (by simp;omega)
   have k:=(Flt.refl (key:=key) r.reverse).app (this.app (Flt.refl s));simpa using k
  ·
   simp only[h,dF,dQ,cY];exact Flt.refl _
omit hf in
theorem zO9:∀(l q:List Int),Flt key (q++l) (zA0 (λa b=>decide (key a<key b)) l q)
 | [],q=>by simp[zA0];exact Flt.refl _
 | x::l,q=>by
  have h:=z5P (key:=key) q.reverse x [] (by simp);rw[fN] at h;have k:=(h.app (Flt.refl l)).trans (zO9 l (zAB (λa b=>decide (key a<key b)) q.reverse x []));simpa[zA0] using k
omit hf in
theorem zL6 (l:List Int):Srt key (zA0 (λa b=>decide (key a<key b)) l []):=by
 have:=zMU (λa b=>decide (key a<key b)) (λa b c k D=>by simp at *;omega) (λa b k=>by simp at *;omega) l [] .nil
 exact this.imp λ{a b} h=>by
  have h:decide (key b<key a)=false:=h;simp at h;exact h
end
open Go.AV
set_option linter.unusedSimpArgs false
set_option linter.unusedVariables false
theorem z8P {body:Int×Int->Option (Stp (Int×Int) Int)} (q:Nat->Bool) (A B:Nat)
  (h:∀k:Nat,A<=k->k<=B->body ((k:Int),(k:Int))=some (.done (k:Int)))
  (H:∀lo hi:Nat,A<=lo->lo<hi->hi<=B->body ((lo:Int),(hi:Int))=some (.next (if q ((lo+hi)/2) then ((lo:Int),(((lo+hi)/2:Nat):Int)) else ((((lo+hi)/2+1:Nat):Int),(hi:Int)))))
  (hm:∀i j,A<=i->i<=j->j<B->q i=true->q j=true):
  ∀(n lo hi:Nat),hi-lo<=n->A<=lo->lo<=hi->hi<=B->∃j:Nat,lo<=j/\j<=hi/\zF body ((lo:Int),(hi:Int))=some (j:Int)/\(∀i,lo<=i->i<j->q i=false)/\(∀i,j<=i->i<hi->q i=true):=by
 intro n
 induction n with
 | zero=>
  intro lo hi h1 K h3 O;have:hi=lo:=by omega
  subst this;exact⟨hi,by omega,by omega,zL (h hi K O),λi a b=>by omega,λi a b=>by omega⟩
 | succ n ih=>
  intro lo hi h1 K h3 O;by_cases e:lo=hi
  ·subst e
   exact⟨lo,by omega,by omega,zL (h lo K O),λi a b=>by omega,λi a b=>by omega⟩
  ·have Y:=H lo hi K (by omega) O
   cases T:q ((lo+hi)/2) with
   | true=>
    rw[T,dG rfl] at Y;obtain⟨j,j1,j2,j3,j4,j5⟩:=ih lo ((lo+hi)/2) (by omega) K (by omega) (by omega);refine⟨j,j1,by omega,by rw[zM Y];exact j3,j4,λi a b=>?_⟩
    by_cases D:i<(lo+hi)/2
    ·exact j5 i a D
    ·exact hm ((lo+hi)/2) i (by omega) (by omega) (by omega) T
   | false=>
    rw[T,dN (by simp)] at Y;obtain⟨j,j1,j2,j3,j4,j5⟩:=ih ((lo+hi)/2+1) hi (by omega) (by omega) (by omega) O;refine⟨j,by omega,j2,by rw[zM Y];exact j3,λi a b=>?_,j5⟩
    by_cases D:(lo+hi)/2+1<=i
    ·exact j4 i D b
    ·cases Z:q i with
     | false=>rfl
     | true=>
      have:=hm i ((lo+hi)/2) (by omega) (by omega) (by omega) Z;rw[T] at this;cases this
theorem yR1 (t:List Int) (x:Int):∀(U p:List Int) (Y:Int),Y=((p.length+U.length+1:Nat):Int)->p.length+U.length<=2000->zF (λ(q:Int×(List Int))=>kN Y q.1 q.2) ((p.length:Int),p++x::U++t)=some (p++U++x::t)
 | [],p,Y,D,h=>by
  refine zL ?_;show kN Y _ _=_;have:wi (Y-1)=((p.length+0:Nat):Int):=by rw[wn (by rw[D];simp) (by rw[D];simp;simp at h;omega),D];simp
  simp only[kN,this,kH (k:=p.length) (n:=p.length+0) (by omega),cN];simp
 | y::U,p,Y,D,h=>by
  simp only[dR] at D h;have T:wi (Y-1)=((p.length+(U.length+1):Nat):Int):=by rw[wn (by rw[D];omega) (by rw[D];omega),D];omega
  have H:p++x::y::U++t=p++x::(y::U++t):=by simp
  have K:p++x::y::U++t=(p++ [x])++y::(U++t):=by simp
  have O:wi ((p.length:Int)+1)=((p.length+1:Nat):Int):=zJ (by omega);have i1:yD (p++x::y::U++t) ((p.length+1:Nat):Int)=some y:=by rw[K];exact vU (by simp)
  have i2:yD (p++x::y::U++t) (p.length:Int)=some x:=by rw[H];exact vU rfl
  have Z:zBD (p++x::y::U++t) (p.length:Int) y=some ((p++ [y])++y::(U++t)):=by rw[H,zAU rfl];simp
  have i3:yD ((p++ [y])++y::(U++t)) ((p.length+1:Nat):Int)=some y:=vU (by simp);have s2:zBD ((p++ [y])++y::(U++t)) ((p.length+1:Nat):Int) x=some ((p++ [y])++x::(U++t)):=zAU (by simp);rw[zM (x':=(((p++ [y]).length:Int),(p++ [y])++x::U++t)),yR1 t x U (p++ [y]) Y (by rw[D];simp;omega) (by simp;omega)]
  simp;show kN Y _ _=_;simp only[kN,T,yS (k:=p.length) (n:=p.length+(U.length+1)) (by omega),cO,O,i1,i2,Z,i3,s2,zA];simp
theorem yR2 (t p:List Int) (y:Int):∀(r:List Int),p.length+r.length<=2000->∀t,zF (λ(q:Int×(List Int))=>kP (p.length:Int) q.1 q.2) (((p.length+r.length:Nat):Int),p++r.reverse++y::t)=some (p++y::r.reverse++t)
 | [],h,t=>by
  refine zL ?_;show kP _ _ _=_;simp only[kP,d7,kH (k:=p.length) (n:=p.length+0) (by omega),cN];simp
 | x::r,h,t=>by
  simp only[dR] at h;have O:((p.length+(x::r).length:Nat):Int)=((p.length+r.length+1:Nat):Int):=by simp;omega
  have D:p++(x::r).reverse++y::t=(p++r.reverse++ [x])++y::t:=by simp
  have K:p++(x::r).reverse++y::t=(p++r.reverse)++x::(y::t):=by simp
  have i1:yD (p++(x::r).reverse++y::t) ((p.length+r.length:Nat):Int)=some x:=by rw[K];exact vU (by simp)
  have i2:yD (p++(x::r).reverse++y::t) ((p.length+r.length+1:Nat):Int)=some y:=by rw[D];exact vU (by simp;omega)
  have T:zBD (p++(x::r).reverse++y::t) ((p.length+r.length+1:Nat):Int) x=some ((p++r.reverse++ [x])++x::t):=by rw[D];exact zAU (by simp;omega)
  have H:(p++r.reverse++ [x])++x::t=(p++r.reverse)++x::(x::t):=by simp
  have i3:yD ((p++r.reverse++ [x])++x::t) ((p.length+r.length:Nat):Int)=some x:=by rw[H];exact vU (by simp)
  have Y:zBD ((p++r.reverse++ [x])++x::t) ((p.length+r.length:Nat):Int) y=some ((p++r.reverse)++y::(x::t)):=by rw[H];exact zAU (by simp)
  rw[O,zM (x':=(((p.length+r.length:Nat):Int),p++r.reverse++y::(x::t))),yR2 t p y r (by omega) (x::t)];simp;show kP _ _ _=_;simp only[kP,yS (k:=p.length) (n:=p.length+r.length+1) (by omega),cO,yHV (k:=p.length+r.length) (by omega),i1,i2,T,i3,Y,zA]
theorem zGR {l:List Int} {x:Int} {n:Nat} (h:x∈l.take n):∃i,i<n/\i<l.length/\nth l i=x:=by obtain⟨i,hi,e⟩:=fc h;simp at hi;refine⟨i,by omega,by omega,?_⟩;rw[zBQ (by omega)];simpa using e
theorem zI8 {l:List Int} {x:Int} {n:Nat} (h:x∈l.drop n):∃i,n<=i/\i<l.length/\nth l i=x:=by obtain⟨i,hi,e⟩:=fc h;simp at hi;refine⟨n+i,by omega,by omega,?_⟩;rw[zBQ (by omega)];simpa using e
section
variable {key:Int->Int} {f:Int->Int->Option Int} (hf:∀x y,f x y=some (sg (key x) (key y)))
include hf
theorem yUH {Z:List Int->Int->Int->Int->(Int->Int->Option Int)->Option (List Int)} {p R s:List Int} {x:Int} {a m b:Int} (hR:Srt key R) (ha:a=(p.length:Int)) (hm:m=((p.length+1:Nat):Int)) (hb:b=((p.length+1+R.length:Nat):Int)) (h:p.length+1+R.length<=2000):
  ∃M,yU Z (p++ [x]++R++s) a m b f=some (p++M++s)/\Srt key M/\Flt key ([x]++R) M:=by
 have hd:∀i,i<R.length->yD (p++ [x]++R++s) ((p.length+1+i:Nat):Int)=some (nth R i):=λi hi=>by
  rw[zX (by simp;omega),c9 (p++ [x]),yAK (j:=i) (by simp),yAJ hi]
 have hx:yD (p++ [x]++R++s) (p.length:Int)=some x:=by
  rw[show p++ [x]++R++s=p++x::(R++s) by simp];exact vU rfl
 obtain⟨j,j1,j2,j3,j4,j5⟩:=z8P (body:=λ(q:Int×Int)=>kM (p++ [x]++R++s) a f q.1 q.2) (λk=>!decide (key (nth R (k-(p.length+1)))<key x)) (p.length+1) (p.length+1+R.length)
  (λk _ _=>by
   show kM _ a f _ _=_;simp only[kM,kH (dC _),cN])
  (λlo hi O D h3=>by
   show kM _ a f _ _=_;have e:(lo+hi)/2=p.length+1+((lo+hi)/2-(p.length+1)):=by omega
   have Y:yD (p++ [x]++R++s) (((lo+hi)/2:Nat):Int)=some (nth R ((lo+hi)/2-(p.length+1))):=by
    have:=hd ((lo+hi)/2-(p.length+1)) (by omega);rw[<-e] at this;exact this
   simp only[kM,yS D,cO,zQM (lo:=lo) (hi:=hi) (by omega),Y,ha,hx,zA,hf,yAI];by_cases hc:key (nth R ((lo+hi)/2-(p.length+1)))<key x
   ·simp only[hc,dA,cO,zA,dD,dQ,cY,zJ (k:=(lo+hi)/2) (by omega)]
   ·simp only[hc,dF,cN,zA,dS,dH])
  (λi k O D h3 hq=>by
   simp only[fS,dB] at hq ⊢;have:=zK7 hR (i:=i-(p.length+1)) (j:=k-(p.length+1)) (by omega) (by omega);omega) (R.length) (p.length+1) (p.length+1+R.length) (by omega) (by omega) (by omega) (by omega)
 refine⟨R.take (j-(p.length+1))++ [x]++R.drop (j-(p.length+1)),?_,?_,?_⟩
 ·unfold yU
  have e1:decide (wi (m-a)=1)=true:=by rw[wn (by omega) (by omega)];simp;omega
  rw[e1,cO,hm,hb,j3,zA];have:=yR1 (R.drop (j-(p.length+1))++s) x (R.take (j-(p.length+1))) p (j:Int) (by simp;omega) (by simp;omega)
  rw[ha];rw[show p++x::R.take (j-(p.length+1))++(R.drop (j-(p.length+1))++s)=p++ [x]++R++s by
   rw[<-c9,c9 p,fH,c9 p,fH,ey];simp] at this
  rw[this];simp
 ·have T:∀y∈R.take (j-(p.length+1)),key y<key x:=λy hy=>by
   obtain⟨i,i1,i2,rfl⟩:=zGR hy;have:=j4 (p.length+1+i) (by omega) (by omega);simpa using this
  have hD:∀y∈R.drop (j-(p.length+1)),key x<=key y:=λy hy=>by
   obtain⟨i,i1,i2,rfl⟩:=zI8 hy;have:=j5 (p.length+1+i) (by omega) (by omega);simpa using this
  have H:=hR;rw[<-ey (j-(p.length+1)) R] at H;obtain⟨r1,r2,r3⟩:=zI7.1 H;refine zI7.2 ⟨zI7.2 ⟨r1,List.pairwise_singleton _ _,λy hy z K=>?_⟩,r2,λy hy z K=>?_⟩
  ·simp at K;rw[K];have:=T y hy;omega
  ·rcases eK.1 hy with hy | hy
   ·exact r3 y hy z K
   ·simp at hy;rw[hy];exact hD z K
 ·have T:∀y∈R.take (j-(p.length+1)),key y<key x:=λy hy=>by
   obtain⟨i,i1,i2,rfl⟩:=zGR hy;have:=j4 (p.length+1+i) (by omega) (by omega);simpa using this
  have O:Flt key ([x]++R.take (j-(p.length+1))) (R.take (j-(p.length+1))++ [x]):=Flt.swap λu hu v hv=>by
   simp at hu;rw[hu];have:=T v hv;omega
  have D:=O.app (Flt.refl (R.drop (j-(p.length+1))));rw[c9,ey] at D;exact D
theorem yUI {aa:List Int->Int->Int->Int->(Int->Int->Option Int)->Option (List Int)} {p L s:List Int} {y:Int} {a m b:Int} (hL:Srt key L) (H:2<=L.length) (ha:a=(p.length:Int)) (Y:m=((p.length+L.length:Nat):Int)) (hb:b=((p.length+L.length+1:Nat):Int)) (h:p.length+L.length+1<=2000):
  ∃M,yU aa (p++L++ [y]++s) a m b f=some (p++M++s)/\Srt key M/\Flt key (L++ [y]) M:=by
 have hd:∀i,i<L.length->yD (p++L++ [y]++s) ((p.length+i:Nat):Int)=some (nth L i):=λi hi=>by
  rw[zX (by simp;omega),c9,c9,yAK (j:=i) rfl,yAJ hi]
 have hy:yD (p++L++ [y]++s) ((p.length+L.length:Nat):Int)=some y:=by
  rw[show p++L++ [y]++s=(p++L)++y::s by simp];exact vU (by simp)
 obtain⟨j,j1,j2,j3,j4,j5⟩:=z8P (body:=λ(q:Int×Int)=>kO (p++L++ [y]++s) m f q.1 q.2) (λk=>decide (key y<key (nth L (k-p.length)))) p.length (p.length+L.length)
  (λk _ _=>by
   show kO _ m f _ _=_;simp only[kO,kH (dC _),cN])
  (λlo hi O H h3=>by
   show kO _ m f _ _=_;have e:(lo+hi)/2=p.length+((lo+hi)/2-p.length):=by omega
   have T:yD (p++L++ [y]++s) (((lo+hi)/2:Nat):Int)=some (nth L ((lo+hi)/2-p.length)):=by
    have:=hd ((lo+hi)/2-p.length) (by omega);rw[<-e] at this;exact this
   simp only[kO,yS H,cO,zQM (lo:=lo) (hi:=hi) (by omega),T,Y,hy,zA,hf,yAI];by_cases hc:key y<key (nth L ((lo+hi)/2-p.length))
   ·simp only[hc,dA,dD,cN,zA,dH]
   ·simp only[hc,dF,dS,cO,zA,dQ,cY,zJ (k:=(lo+hi)/2) (by omega)])
  (λi k O H h3 hq=>by
   simp only[cZ] at hq ⊢;have:=zK7 hL (i:=i-p.length) (j:=k-p.length) (by omega) (by omega);omega) L.length p.length (p.length+L.length) (by omega) (by omega) (by omega) (by omega)
 have hT:∀z∈L.take (j-p.length),key z<=key y:=λz Z=>by
  obtain⟨i,i1,i2,rfl⟩:=zGR Z;have:=j4 (p.length+i) (by omega) (by omega);simpa using this
 have hD:∀z∈L.drop (j-p.length),key y<key z:=λz Z=>by
  obtain⟨i,i1,i2,rfl⟩:=zI8 Z;have:=j5 (p.length+i) (by omega) (by omega);simpa using this
 refine⟨L.take (j-p.length)++([y]++L.drop (j-p.length)),?_,?_,?_⟩
 ·unfold yU
  have e1:decide (wi (m-a)=1)=false:=by rw[wn (by omega) (by omega)];simp;omega
  have e2:decide (wi (b-m)=1)=true:=by rw[wn (by omega) (by omega)];simp;omega
  rw[e1,cN,e2,cO,ha,Y];rw[Y] at j3;rw[j3,zA];have:=yR2 s (p++L.take (j-p.length)) y (L.drop (j-p.length)).reverse (by simp;omega) s
  rw[fN] at this;have e3:((p++L.take (j-p.length)).length:Int)=(j:Int):=by simp;omega
  have e4:(((p++L.take (j-p.length)).length+(L.drop (j-p.length)).reverse.length:Nat):Int)=((p.length+L.length:Nat):Int):=by simp;omega
  rw[e3,e4] at this;rw[show p++L.take (j-p.length)++L.drop (j-p.length)++y::s=p++L++ [y]++s by rw[c9 p,ey];simp] at this
  rw[this];simp
 ·have K:=hL
  rw[<-ey (j-p.length) L] at K;obtain⟨r1,r2,r3⟩:=zI7.1 K;refine zI7.2 ⟨r1,zI7.2 ⟨List.pairwise_singleton _ _,r2,λu D v hv=>?_⟩,λu D v hv=>?_⟩
  ·simp at D;rw[D];have:=hD v hv;omega
  ·rcases eK.1 hv with hv | hv
   ·simp at hv;rw[hv];exact hT u D
   ·exact r3 u D v hv
 ·have O:Flt key (L.drop (j-p.length)++ [y]) ([y]++L.drop (j-p.length)):=Flt.swap λu D v hv=>by
   simp at hv;rw[hv];have:=hD u D;omega
  have H:=(Flt.refl (key:=key) (L.take (j-p.length))).app O;rw[<-c9,ey] at H;exact H
end
open Go.AV
set_option linter.unusedSimpArgs false
set_option linter.unusedVariables false
section
variable {key:Int->Int} {f:Int->Int->Option Int} (hf:∀x y,f x y=some (sg (key x) (key y)))
include hf
theorem yUJ {ak:List Int->Int->Int->Int->(Int->Int->Option Int)->Option (List Int)} {p L R s:List Int} {a m b:Int} (hL:Srt key L) (hR:Srt key R) (l2:2<=L.length) (r2:2<=R.length) (ha:a=(p.length:Int)) (hm:m=((p.length+L.length:Nat):Int)) (hb:b=((p.length+L.length+R.length:Nat):Int)) (h:p.length+L.length+R.length<=2000)
  (ih:∀(p L' R' s:List Int) (a m b:Int),2*(L'.length+R'.length)<=L.length+R.length+1->0<L'.length->0<R'.length->Srt key L'->Srt key R'->a=(p.length:Int)->m=((p.length+L'.length:Nat):Int)->b=((p.length+L'.length+R'.length:Nat):Int)->p.length+L'.length+R'.length<=2000->
   ∃M,ak (p++L'++R'++s) a m b f=some (p++M++s)/\Srt key M/\Flt key (L'++R') M):
  ∃M,yU ak (p++L++R++s) a m b f=some (p++M++s)/\Srt key M/\Flt key (L++R) M:=by
 obtain⟨A,hA⟩:∃A,A=p.length:=⟨_,rfl⟩;obtain⟨K,hK⟩:∃K,K=L.length:=⟨_,rfl⟩;obtain⟨N,hN⟩:∃N,N=R.length:=⟨_,rfl⟩;obtain⟨D,bc⟩:∃D,D=(A+(A+K+N))/2:=⟨_,rfl⟩;have bt:∀i,i<K->yD (p++L++R++s) ((A+i:Nat):Int)=some (nth L i):=λi hi=>by
  rw[zX (by simp;omega),c9,c9,yAK (j:=i) (by omega),yAJ (by omega)]
 have bu:∀i,i<N->yD (p++L++R++s) ((A+K+i:Nat):Int)=some (nth R i):=λi hi=>by
  rw[zX (by simp;omega),c9 (p++L),yAK (j:=i) (by simp;omega),yAJ (by omega)]
 obtain⟨s0,r0,h0,bx,cw,cu,cv,ag⟩:∃s0 r0:Nat,(cond (decide ((D:Int)<m)) (some (wi (wi ((D:Int)+m)-b),(D:Int))) (some (a,m)):Option (Int×Int))=some ((s0:Int),(r0:Int))/\s0<=r0/\A<=s0/\r0<=A+K/\r0<=D/\((s0=A/\r0=A+K/\A+K<=D)\/(D=s0+N/\r0=D/\D<A+K)):=by
  by_cases hc:D<A+K
  ·refine⟨D+(A+K)-(A+K+N),D,?_,by omega,by omega,by omega,by omega,.inr ⟨by omega,rfl,by omega⟩⟩
   have:decide ((D:Int)<m)=true:=by simp;omega
   rw[this,cO,wn (n:=(D:Int)+m) (by omega) (by omega),wn (by omega) (by omega)];congr 2;omega
  ·refine⟨A,A+K,?_,by omega,by omega,by omega,by omega,.inl ⟨rfl,rfl,by omega⟩⟩
   have:decide ((D:Int)<m)=false:=by simp;omega
   rw[this,cN,ha,hm,hA,hK]
 have ah:wi ((wu (wi (a+b)))/2 ^ 1)=(D:Int):=by
  rw[ha,hb,<-hA,<-hK,<-hN,zQM (lo:=A) (hi:=A+K+N) (by omega),bc]
 have ar:∀c,s0<=c->c<r0->A<=c/\c-A<K/\A+K<=D+(A+K)-1-c/\D+(A+K)-1-c-(A+K)<N:=λc Z h2=>by
  rcases ag with h3 | h3<;>omega
 obtain⟨j,j1,j2,j3,j4,j5⟩:=z8P (body:=λ(q:Int×Int)=>kQ (p++L++R++s) a b m f q.1 q.2) (λc=>decide (key (nth R (D+(A+K)-1-c-(A+K)))<key (nth L (c-A)))) s0 r0
  (λk _ _=>by
   show kQ _ a b m f _ _=_;simp only[kQ,kH (dC _),cN])
  (λlo hi Z h2 h3=>by
   show kQ _ a b m f _ _=_;obtain⟨c1,c2,c3,c4⟩:=ar ((lo+hi)/2) (by omega) (by omega);have i1:yD (p++L++R++s) (((lo+hi)/2:Nat):Int)=some (nth L ((lo+hi)/2-A)):=by
    have:=bt ((lo+hi)/2-A) c2;rw[show A+((lo+hi)/2-A)=(lo+hi)/2 by omega] at this;exact this
   have i2:yD (p++L++R++s) ((D+(A+K)-1-(lo+hi)/2:Nat):Int)=some (nth R (D+(A+K)-1-(lo+hi)/2-(A+K))):=by
    have:=bu (D+(A+K)-1-(lo+hi)/2-(A+K)) c4;rw[show A+K+(D+(A+K)-1-(lo+hi)/2-(A+K))=D+(A+K)-1-(lo+hi)/2 by omega] at this;exact this
   have e1:wi (wi (wi ((D:Int)+m)-1)-(((lo+hi)/2:Nat):Int))=((D+(A+K)-1-(lo+hi)/2:Nat):Int):=by
    rw[wn (n:=(D:Int)+m) (by omega) (by omega),wn (n:=(D:Int)+m-1) (by omega) (by omega),wn (by omega) (by omega)];omega
   simp only[kQ,yS h2,cO,ah,zQM (lo:=lo) (hi:=hi) (by omega),e1,i1,i2,zA,hf,yAI];by_cases hc:key (nth R (D+(A+K)-1-(lo+hi)/2-(A+K)))<key (nth L ((lo+hi)/2-A))
   ·simp only[hc,dA,dD,cN,zA,dH]
   ·simp only[hc,dF,dS,cO,zA,dQ,cY,zJ (k:=(lo+hi)/2) (by omega)])
  (λi k Z h2 h3 hq=>by
   simp only[cZ] at hq ⊢;obtain⟨c1,c2,c3,c4⟩:=ar i Z (by omega);obtain⟨d1,d2,d3,d4⟩:=ar k (by omega) h3;have q1:=zK7 hL (i:=i-A) (j:=k-A) (by omega) (by omega);have q2:=zK7 hR (i:=D+(A+K)-1-k-(A+K)) (j:=D+(A+K)-1-i-(A+K)) (by omega) (by omega);omega) (r0-s0) s0 r0 (by omega) (by omega) bx (by omega)
 obtain⟨L1,an⟩:∃x,x=L.take (j-A):=⟨_,rfl⟩;obtain⟨O,ao⟩:∃x,x=L.drop (j-A):=⟨_,rfl⟩;obtain⟨R1,ap⟩:∃x,x=R.take (D-j):=⟨_,rfl⟩;obtain⟨T,aq⟩:∃x,x=R.drop (D-j):=⟨_,rfl⟩;have eL:L=L1++O:=by rw[an,ao,ey]
 have eR:R=R1++T:=by rw[ap,aq,ey]
 have de:L1.length=j-A:=by rw[an];simp;omega
 have dh:R1.length=D-j:=by rw[ap];simp;rcases ag with h3 | h3<;>omega
 have df:O.length=A+K-j:=by rw[ao];simp;omega
 have dj:T.length=N-(D-j):=by rw[aq];simp;omega
 have cp:j<=D:=by omega
 have cn:D-j<=N:=by rcases ag with h3 | h3<;>omega
 have bb:∀x∈R1,∀y∈O,key x<key y:=λx Y y hy=>by
  rw[ap] at Y;rw[ao] at hy;obtain⟨i,i1,i2,rfl⟩:=zGR Y;obtain⟨k,k1,k2,rfl⟩:=zI8 hy;have bv:j<r0:=by rcases ag with h4 | h4<;>omega
  have:=j5 j (dC _) bv;simp only[cZ] at this;have q1:=zK7 hL (i:=j-A) (j:=k) (by omega) (by omega);have q2:=zK7 hR (i:=i) (j:=D+(A+K)-1-j-(A+K)) (by omega) (by omega);omega
 have bw:∀x∈L1,∀y∈T,key x<=key y:=λx Y y hy=>by
  rw[an] at Y;rw[aq] at hy;obtain⟨i,i1,i2,rfl⟩:=zGR Y;obtain⟨k,k1,k2,rfl⟩:=zI8 hy;have cq:s0<j:=by rcases ag with h4 | h4<;>omega
  have:=j4 (j-1) (by omega) (by omega);simp only[dB] at this;have q1:=zK7 hL (i:=i) (j:=j-1-A) (by omega) (by omega);have q2:=zK7 hR (i:=D+(A+K)-1-(j-1)-(A+K)) (j:=k) (by omega) (by omega);omega
 rw[eL] at hL;rw[eR] at hR;obtain⟨be,bf,bn⟩:=zI7.1 hL;obtain⟨bg,bh,bq⟩:=zI7.1 hR;have ba:wi (wi ((D:Int)+m)-(j:Int))=((D+(A+K)-j:Nat):Int):=by
  rw[wn (n:=(D:Int)+m) (by omega) (by omega),wn (by omega) (by omega)];omega
 unfold yU;have e1:decide (wi (m-a)=1)=false:=by rw[wn (by omega) (by omega)];simp;omega
 have e2:decide (wi (b-m)=1)=false:=by rw[wn (by omega) (by omega)];simp;omega
 simp only[e1,cN,e2,ah,h0,zA,j3,ba,zK];have bd:(cond (decide ((j:Int)<m)&&decide (m<((D+(A+K)-j:Nat):Int))) ((xS (p++L++R++s) (j:Int) m ((D+(A+K)-j:Nat):Int) f).bind λbi=>some bi) (some (p++L++R++s)):Option (List Int))=some (p++L1++R1++(O++T++s)):=by
  by_cases hc:j<A+K/\A+K<D+(A+K)-j
  ·have H:(decide ((j:Int)<m)&&decide (m<((D+(A+K)-j:Nat):Int)))=true:=by simp;omega
   have hr:=yPQ (f:=f) (P:=p++L1) (U:=O) (V:=R1) (S:=T++s) (a:=(j:Int)) (m:=m) (b:=((D+(A+K)-j:Nat):Int)) (by simp;omega) (by simp;omega) (by simp;omega) (by omega) (by omega) (by simp;omega)
   rw[show p++L1++O++R1++(T++s)=p++L++R++s by rw[eL,eR];simp] at hr
   rw[H,cO,hr];simp
  ·have H:(decide ((j:Int)<m)&&decide (m<((D+(A+K)-j:Nat):Int)))=false:=by
    simp only[eE,dB];by_cases Z:j<A+K
    ·right;omega
    ·left;omega
   rw[H,cN];by_cases Z:j<A+K
   ·have:R1= []:=cP (by omega)
    rw[eL,eR,this];simp
   ·have:O= []:=cP (by omega)
    rw[eL,eR,this];simp
 rw[bd,zA];obtain⟨M1,bo,bz,am⟩:∃M1,(cond (decide (a<(j:Int))&&decide ((j:Int)<(D:Int))) ((ak (p++L1++R1++(O++T++s)) a (j:Int) (D:Int) f).bind λbj=>some bj) (some (p++L1++R1++(O++T++s))):Option (List Int))=some (p++M1++(O++T++s))/\Srt key M1/\Flt key (L1++R1) M1:=by
  by_cases hc:A<j/\j<D
  ·have H:(decide (a<(j:Int))&&decide ((j:Int)<(D:Int)))=true:=by simp;omega
   obtain⟨M,Z,h2,h3⟩:=ih p L1 R1 (O++T++s) a (j:Int) (D:Int) (by omega) (by omega) (by omega) be bg ha (by omega) (by omega) (by omega);exact⟨M,by rw[H,cO,Z];rfl,h2,h3⟩
  ·have H:(decide (a<(j:Int))&&decide ((j:Int)<(D:Int)))=false:=by
    simp only[eE,dB];by_cases Z:A<j
    ·right;omega
    ·left;omega
   refine⟨L1++R1,by rw[H,cN];simp,?_,Flt.refl _⟩
   by_cases Z:A<j
   ·have:R1= []:=cP (by omega)
    rw[this];simpa using be
   ·have:L1= []:=cP (by omega)
    rw[this];simpa using bg
 rw[bo,zA];have dg:M1.length=D-A:=by rw[<-am.len];simp;omega
 obtain⟨M2,bp,ca,ax⟩:∃M2,(cond (decide ((D:Int)<((D+(A+K)-j:Nat):Int))&&decide (((D+(A+K)-j:Nat):Int)<b)) ((ak (p++M1++(O++T++s)) (D:Int) ((D+(A+K)-j:Nat):Int) b f).bind λbk=>some bk) (some (p++M1++(O++T++s))):Option (List Int))=some (p++(M1++M2)++s)/\Srt key M2/\Flt key (O++T) M2:=by
  by_cases hc:D<D+(A+K)-j/\D+(A+K)-j<A+K+N
  ·have H:(decide ((D:Int)<((D+(A+K)-j:Nat):Int))&&decide (((D+(A+K)-j:Nat):Int)<b))=true:=by simp;omega
   obtain⟨M,Z,h2,h3⟩:=ih (p++M1) O T s (D:Int) ((D+(A+K)-j:Nat):Int) b (by omega) (by omega) (by omega) bf bh (by simp;omega) (by simp;omega) (by simp;omega) (by simp;omega)
   rw[show p++M1++O++T++s=p++M1++(O++T++s) by simp] at Z;exact⟨M,by rw[H,cO,Z];simp,h2,h3⟩
  ·have H:(decide ((D:Int)<((D+(A+K)-j:Nat):Int))&&decide (((D+(A+K)-j:Nat):Int)<b))=false:=by
    simp only[eE,dB];by_cases Z:D<D+(A+K)-j
    ·right;omega
    ·left;omega
   refine⟨O++T,by rw[H,cN];simp,?_,Flt.refl _⟩
   by_cases Z:D<D+(A+K)-j
   ·have:T= []:=cP (by omega)
    rw[this];simpa using bf
   ·have:O= []:=cP (by omega)
    rw[this];simpa using bh
 refine⟨M1++M2,bp,zI7.2 ⟨bz,ca,λx Y y hy=>?_⟩,?_⟩
 ·have Y:=am.mem.2 Y
  have hy:=ax.mem.2 hy;rcases eK.1 Y with Y | Y<;>rcases eK.1 hy with hy | hy
  ·exact bn x Y y hy
  ·exact bw x Y y hy
  ·have:=bb x Y y hy;omega
  ·exact bq x Y y hy
 ·have Z:Flt key (O++R1) (R1++O):=Flt.swap λx Y y hy=>by have:=bb y hy x Y;omega
  have h2:=(Flt.refl (key:=key) L1).app (Z.app (Flt.refl T));have h3:=am.app ax;rw[eL,eR];refine Flt.trans ?_ h3;simpa using h2
theorem yHW:∀(n:Nat) (p L R s:List Int) (a m b:Int),L.length+R.length<=2 ^ n->0<L.length->0<R.length->Srt key L->Srt key R->a=(p.length:Int)->m=((p.length+L.length:Nat):Int)->b=((p.length+L.length+R.length:Nat):Int)->p.length+L.length+R.length<=2000->
  ∃M,kT (n+1) (p++L++R++s) a m b f=some (p++M++s)/\Srt key M/\Flt key (L++R) M:=by
 intro n
 induction n with
 | zero=>intro p L R s a m b h;omega
 | succ n ih=>
  intro p L R s a m b Z l1 r1 H K k D hb h;show ∃M,yU (kT (n+1)) (p++L++R++s) a m b f=_/\_;by_cases hl:L.length=1
  ·obtain⟨x,rfl⟩:=List.length_eq_one_iff.1 hl
   exact yUH hf K k (by simpa using D) (by simpa using hb) (by simpa using h)
  ·by_cases hr:R.length=1
   ·obtain⟨y,rfl⟩:=List.length_eq_one_iff.1 hr
    exact yUI hf H (by omega) k D (by simpa using hb) (by simpa using h)
   ·refine yUJ hf H K (by omega) (by omega) k D hb h λp' O R' s' T m' Y h1=>ih p' O R' s' T m' Y ?_
    rw[Nat.pow_succ] at Z;omega
end
open Go.AV
set_option linter.unusedSimpArgs false
set_option linter.unusedVariables false
section
variable {key:Int->Int} {f:Int->Int->Option Int} (hf:∀x y,f x y=some (sg (key x) (key y)))
theorem k59:(2000:Nat)<=2 ^ 59:=by decide
def OkB (key:Int->Int) (bs:Nat) (Bs:List (List Int)):Prop:= ∀B∈Bs,B.length=bs/\Srt key B
include hf
theorem yUK:∀(n:Nat) (P rest:List Int) (Nn:Int),rest.length<=n->Nn=((P.length+rest.length:Nat):Int)->P.length+rest.length<=2000->
  ∃Bs H,zF (λ(x:Int×Int×(List Int))=>yO Nn f x.1 x.2.1 x.2.2) ((P.length:Int),((P.length+20:Nat):Int),P++rest)=some (((P.length+(Bs.flatten).length:Nat):Int),P++Bs.flatten++H)/\OkB key 20 Bs/\H.length<20/\Flt key rest (Bs.flatten++H):=by
 intro n
 induction n with
 | zero=>
  intro P rest Nn hn Y h;have:rest= []:=cP (by omega);subst this;refine⟨[],[],zL ?_,(λB D=>by cases D),by simp,Flt.refl _⟩;show yO Nn f _ _ _=_;have K:decide (((P.length+20:Nat):Int)<=Nn)=false:=by simp at Y ⊢;omega
  simp only[yO,K,cN];simp
 | succ n ih=>
  intro P rest Nn hn Y h;by_cases hc:20<=rest.length
  ·have Z:=yR0 hf (p:=P) (m:=rest.take 20) (t:=rest.drop 20) (a:=(P.length:Int)) (b:=((P.length+20:Nat):Int)) rfl (by simp;omega) (by simp;omega)
   rw[c9 P,ey] at Z;have k:=zO9 (key:=key) (rest.take 20) [];rw[dO] at k;obtain⟨B,D⟩:∃B,B=zA0 (λa b=>decide (key a<key b)) (rest.take 20) []:=⟨_,rfl⟩;rw[<-D] at Z k;have O:B.length=20:=by rw[<-k.len];simp;omega
   have T:Srt key B:=by rw[D];exact zL6 _
   obtain⟨Bs,H,h1,h2,h3,h4⟩:=ih (P++B) (rest.drop 20) Nn (by simp;omega) (by rw[Y];simp;omega) (by simp;omega)
   refine⟨B::Bs,H,?_,?_,h3,?_⟩
   ·rw[zM (x':=(((P++B).length:Int),(((P++B).length+20:Nat):Int),(P++B)++rest.drop 20)),h1]
    ·simp[fV]
    ·show yO Nn f _ _ _=_
     have K:decide (((P.length+20:Nat):Int)<=Nn)=true:=by simp;omega
     have e2:wi (((P.length+20:Nat):Int)+20)=(((P++B).length+20:Nat):Int):=by rw[wn (by omega) (by omega)];simp;omega
     have e3:((P.length+20:Nat):Int)=((P++B).length:Int):=by simp;omega
     simp only[yO,K,cO,Z,zA,e2];rw[e3]
   ·intro C hC
    rcases dM.1 hC with e | e
    ·rw[e];exact⟨O,T⟩
    ·exact h2 C e
   ·have:=k.app h4
    rw[ey] at this;simpa using this
  ·refine⟨[],rest,zL ?_,(λB D=>by cases D),by omega,Flt.refl _⟩
   show yO Nn f _ _ _=_;have K:decide (((P.length+20:Nat):Int)<=Nn)=false:=by simp;omega
   simp only[yO,K,cN];simp
theorem yR3 (bs:Nat) (Z:0<bs) (aa:bs<=2000) (T:List Int) (hT:T.length<bs):∀(Bs:List (List Int)) (P:List Int) (Nn:Int),OkB key bs Bs->Nn=((P.length+Bs.flatten.length+T.length:Nat):Int)->P.length+Bs.flatten.length+T.length<=2000->
  ∃Cs Ds,zF (λ(x:Int×Int×(List Int))=>yP Nn (bs:Int) f x.1 x.2.1 x.2.2) ((P.length:Int),((P.length+2*bs:Nat):Int),P++Bs.flatten++T)=some (((P.length+Cs.flatten.length:Nat):Int),P++Cs.flatten++Ds.flatten++T)/\OkB key (2*bs) Cs/\OkB key bs Ds/\Ds.length<=1/\Flt key Bs.flatten (Cs.flatten++Ds.flatten)
 | [],P,Nn,D,H,h=>by
  refine⟨[],[],zL ?_,(λB k=>by cases k),(λB k=>by cases k),by simp,Flt.refl _⟩;show yP Nn _ f _ _ _=_;have K:decide (((P.length+2*bs:Nat):Int)<=Nn)=false:=by simp at H ⊢;omega
  simp only[yP,K,cN];simp
 | [B],P,Nn,D,H,h=>by
  have k:=(D B (by simp)).1;refine⟨[],[B],zL ?_,(λB k=>by cases k),D,by simp,by simpa using Flt.refl B⟩;show yP Nn _ f _ _ _=_;have K:decide (((P.length+2*bs:Nat):Int)<=Nn)=false:=by simp at H ⊢;omega
  simp only[yP,K,cN];simp
 | O::Y::Bs,P,Nn,D,H,h=>by
  obtain⟨l1,s1⟩:=D O (by simp);obtain⟨l2,s2⟩:=D Y (by simp);simp only[gK,cX] at H h;obtain⟨M,m1,m2,m3⟩:=yHW hf 59 P O Y (Bs.flatten++T) (P.length:Int) ((P.length+bs:Nat):Int) ((P.length+2*bs:Nat):Int) (d9 (by omega) k59) (by omega) (by omega) s1 s2 rfl (by rw[l1]) (by omega) (by omega);have hM:M.length=2*bs:=by rw[<-m3.len];simp;omega
  obtain⟨Cs,Ds,h1,h2,h3,h4,h5⟩:=yR3 bs Z aa T hT Bs (P++M) Nn (λB k=>D B (by simp[k])) (by rw[H,cX];omega) (by rw[cX];omega)
  refine⟨M::Cs,Ds,?_,?_,h3,h4,?_⟩
  ·rw[zM (x':=(((P++M).length:Int),(((P++M).length+2*bs:Nat):Int),(P++M)++Bs.flatten++T)),h1]
   ·simp[fV]
   ·show yP Nn _ f _ _ _=_
    have K:decide (((P.length+2*bs:Nat):Int)<=Nn)=true:=by simp;omega
    have e0:wi ((P.length:Int)+(bs:Int))=((P.length+bs:Nat):Int):=by rw[wn (by omega) (by omega)];omega
    have e2:wi (2*(bs:Int))=((2*bs:Nat):Int):=by rw[wn (by omega) (by omega)];omega
    have e3:wi (((P.length+2*bs:Nat):Int)+((2*bs:Nat):Int))=(((P++M).length+2*bs:Nat):Int):=by rw[wn (by omega) (by omega)];simp;omega
    have e4:P++(O::Y::Bs).flatten++T=P++O++Y++(Bs.flatten++T):=by simp
    have e5:((P.length+2*bs:Nat):Int)=((P++M).length:Int):=by simp;omega
    simp only[yP,K,cO,e0,e2,e3,e4,m1,zA];rw[e5];simp
  ·intro C hC
   rcases dM.1 hC with e | e
   ·rw[e];exact⟨hM,m2⟩
   ·exact h2 C e
  ·have:=m3.app h5
   simpa using this
theorem yUL (Nn:Int) (N:Nat) (K:Nn=(N:Int)) (bb:N<=2000):∀(n bs:Nat) (Bs:List (List Int)) (T:List Int),N-bs<=n->0<bs->bs<=4000->OkB key bs Bs->Srt key T->T.length<bs->Bs.flatten.length+T.length=N->
  ∃r,zF (λ(x:Int×(List Int))=>yX Nn f x.1 x.2) ((bs:Int),Bs.flatten++T)=some r/\Srt key r/\Flt key (Bs.flatten++T) r:=by
 have Z:∀(bs:Nat) (Bs:List (List Int)) (T:List Int),N<=bs->0<bs->OkB key bs Bs->Srt key T->T.length<bs->Bs.flatten.length+T.length=N->
  ∃r,zF (λ(x:Int×(List Int))=>yX Nn f x.1 x.2) ((bs:Int),Bs.flatten++T)=some r/\Srt key r/\Flt key (Bs.flatten++T) r:=by
  intro bs Bs T h1 h2 O H h5 Y;refine⟨Bs.flatten++T,zL ?_,?_,Flt.refl _⟩
  ·show yX Nn f _ _=_
   simp only[yX,K,kH h1,cN]
  ·cases Bs with
   | nil=>simpa using H
   | cons B Bs=>
    have hB:=O B (by simp);simp only[gK,cX] at Y;have e1:Bs.flatten= []:=cP (by omega);have e2:T= []:=cP (by omega);simp only[gK,e1,e2,et];exact hB.2
 intro n
 induction n with
 | zero=>intro bs Bs T h1 h2 al O H h5 Y;exact Z bs Bs T (by omega) h2 O H h5 Y
 | succ n ih=>
  intro bs Bs T h1 h2 al O H h5 Y;by_cases hc:N<=bs
  ·exact Z bs Bs T hc h2 O H h5 Y
  ·obtain⟨Cs,Ds,c1,c2,c3,c4,c5⟩:=yR3 hf bs h2 (by omega) T h5 Bs [] Nn O (by rw[K,d7];omega) (by rw[d7];omega)
   simp only[d7,em,dO] at c1;have ac:Cs.flatten.length+Ds.flatten.length=Bs.flatten.length:=by rw[c5.len,cX]
   obtain⟨h,t1,t2,t3,t4⟩:∃h,(cond (decide ((wi (((Cs.flatten.length:Nat):Int)+(bs:Int)))<Nn)) ((kT 60 (Cs.flatten++Ds.flatten++T) ((Cs.flatten.length:Nat):Int) (wi (((Cs.flatten.length:Nat):Int)+(bs:Int))) Nn f).bind λao=>some ao) (some (Cs.flatten++Ds.flatten++T)):Option (List Int))=some (Cs.flatten++h)/\Srt key h/\h.length<2*bs/\Flt key (Ds.flatten++T) h:=by
    have e0:wi (((Cs.flatten.length:Nat):Int)+(bs:Int))=((Cs.flatten.length+bs:Nat):Int):=by rw[wn (by omega) (by omega)];omega
    match Ds,c3,c4 with
    | [],_,_=>
     simp only[List.flatten_nil,d7] at ac;refine⟨T,?_,H,by omega,by simpa using Flt.refl T⟩;rw[e0,K,kH (k:=Cs.flatten.length+bs) (n:=N) (by omega),cN];simp
    | [D],c3,_=>
     have hD:=c3 D (by simp);simp only[gK,List.flatten_nil,et] at ac ⊢;by_cases an:T.length=0
     ·have:T= []:=cP an
      subst this;refine⟨D,?_,hD.2,by omega,by simpa using Flt.refl D⟩;rw[e0,K,kH (k:=Cs.flatten.length+bs) (n:=N) (by rw[d7] at Y;omega),cN]
      simp
     ·obtain⟨M,m1,m2,m3⟩:=yHW hf 59 Cs.flatten D T [] (Cs.flatten.length:Int) ((Cs.flatten.length+bs:Nat):Int) Nn (d9 (by omega) k59) (by omega) (by omega) hD.2 H rfl (by rw[hD.1]) (by omega) (by omega)
      simp only[et] at m1;refine⟨M,?_,m2,by rw[<-m3.len,cX];omega,m3⟩
      rw[e0,K,yS (k:=Cs.flatten.length+bs) (n:=N) (by omega),cO,<-K,m1];rfl
   obtain⟨r,r1,r2,r3⟩:=ih (2*bs) Cs h (by omega) (by omega) (by omega) c2 t2 t3 (by rw[<-t4.len,cX];omega)
   refine⟨r,?_,r2,?_⟩
   ·rw[zM (x':=(((2*bs:Nat):Int),Cs.flatten++h)),r1]
    show yX Nn f _ _=_;have e1:decide ((bs:Int)<Nn)=true:=by rw[K];exact yS (by omega)
    have e2:wi (2*(bs:Int))=((2*bs:Nat):Int):=by rw[wn (by omega) (by omega)];omega
    have e3:wi ((bs:Int)*2)=((2*bs:Nat):Int):=by rw[wn (by omega) (by omega)];omega
    simp only[yX,e1,cO,e2];have ad:zF (λ(x:Int×Int×(List Int))=>yP Nn (bs:Int) f x.1 x.2.1 x.2.2) (0,((2*bs:Nat):Int),Bs.flatten++T)=some (((Cs.flatten.length:Nat):Int),Cs.flatten++Ds.flatten++T):=c1;rw[ad,zA];simp only[t1,zA,e3]
   ·refine Flt.trans ?_ r3
    have:=c5.app (Flt.refl (key:=key) T);refine this.trans ?_;rw[c9];exact(Flt.refl _).app t4
theorem yDM (l:List Int) (h:l.length<=2000):∃r,k9 l f=some r/\Srt key r/\Flt key l r:=by
 unfold k9 uS;obtain⟨Bs,D,O,Z,h3,T⟩:=yUK hf l.length [] l (l.length:Int) (dC _) (by simp) (by simpa using h);simp only[d7,em,dO] at O;have H:zF (λ(x:Int×Int×(List Int))=>yO (l.length:Int) f x.1 x.2.1 x.2.2) (0,20,l)=some (((Bs.flatten.length:Nat):Int),Bs.flatten++D):=O;rw[H,zA];have hl:Bs.flatten.length+D.length=l.length:=by rw[T.len,cX]
 have Y:=yR0 hf (p:=Bs.flatten) (m:=D) (t:=[]) (a:=((Bs.flatten.length:Nat):Int)) (b:=(l.length:Int)) rfl (by omega) (by omega);simp only[et] at Y;have k:=zO9 (key:=key) D [];rw[dO] at k;obtain⟨r,r1,r2,r3⟩:=yUL hf (l.length:Int) l.length rfl h l.length 20 Bs (zA0 (λa b=>decide (key a<key b)) D []) (by omega) (by omega) (by omega) Z (zL6 _) (by rw[<-k.len];exact h3) (by rw[<-k.len];exact hl)
 have K:zF (λ(x:Int×(List Int))=>yX (l.length:Int) f x.1 x.2) (20,Bs.flatten++zA0 (λa b=>decide (key a<key b)) D [])=some r:=r1;refine⟨r,?_,r2,T.trans (((Flt.refl _).app k).trans r3)⟩;simp only[Y,zA,K]
end
end Go.M


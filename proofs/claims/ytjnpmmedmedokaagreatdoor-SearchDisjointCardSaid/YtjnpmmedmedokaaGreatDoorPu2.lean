/- What the plain counterparts answer. Conditions: none. -/
import Derived.Test.YtjnpmmedmedokaaGreatDoorPu1
import Derived.Test.YtjnpmmedmedokaaGreatDoorLa3
set_option linter.unusedSimpArgs false
set_option linter.unusedVariables false
set_option linter.unnecessarySimpa false
namespace Go.M
open Go.AV
open Classical in
noncomputable def wJ (n:Norm):List bM:=if VD0 n then n.aK else []
theorem yHX:CV []:=⟨λk h=>(by cases h),λk h=>(by cases h),λk h=>(by cases h)⟩
theorem z5Q (n:Norm):CV (wJ n):=by unfold wJ;split;rename_i h;exact h.cv;exact yHX
theorem zTE {n:Norm} (h:NSm n):(wJ n).length<=40:=by unfold wJ;split;exact h.cl;simp
def zYJ (l:List bM) (t:Int):Int:=l.foldl (λt s=>max t s.Value) t
def zOM (c:Collation) (l:List bM):bI:={zTA c with bR:=l,top:=zYJ l 0}
theorem yHY {l:List bM} (O:l.length<=2000):∀(d k:Nat) (t:Int),l.length-k=d->k<=l.length->zF (λ(x:Int×Int)=>j8 l x.1 x.2) ((k:Int),t)=some (zYJ (l.drop k) t):=by
 intro d
 induction d with
 | zero=>
  intro k t D H;rw[dE (by omega)];refine zL ?_;simp only[j8,kH (show l.length<=k by omega),cN];rfl
 | succ d K=>
  intro k t D H;have h:k<l.length:=by omega
  rw[cW h];rw[zM (x':=(((k+1:Nat):Int),max t l[k].Value)) (by simp only[j8,yS h,cO,zU h,zA,zJ (k:=k) (by omega)])];exact K (k+1) _ (by omega) (by omega)
theorem yL6 {c:Collation} {n:Norm} (O:NSm n) (D:wO n):u3 (zTA c) n=some (zOM c (wJ n)):=by
 obtain⟨e,Y,K⟩:=yHP O D;unfold u3;rw[Y,zA];have T:(cond (decide (e=0)) (some n.aK) (some (zTA c).bR):Option (List bM))=some (wJ n):=by
  unfold wJ;by_cases h:e=0;rw[dG (K.1 h)];simp[h];rw[dN (λZ=>h (K.2 Z))];simp[h,zTA]
 rw[T,zA];have H:=yHY (l:=wJ n) (by have:=zTE O;omega) (wJ n).length 0 0 (by omega) (by omega)
 rw[d8] at H;have k:zF (λ(x:Int×Int)=>j8 (wJ n) x.1 x.2) (0,(zTA c).top)=some (zYJ (wJ n) 0):=H;rw[k];rfl
theorem zON {c:Collation} (h:Sm c) {l:List bM} {codes:List Int}:xD (zOM c l) codes=some (zEB (kC c).aB codes):=yLM h (codes:=codes)
theorem zPA {c:Collation} {l:List bM} (h:CV l) (hl:l.length<=2000) (x:Int):uE (zOM c l) x=some (clE l x):=by
 obtain⟨j,Z,hr,H,D⟩:=z1U (n:=l.length) hl (body:=λ(q:Int×Int)=>zCW (λx0=>vG x0 (zOM c l) x) q.1 q.2) (λk=>decide (x<=(nth l k).Hi))
  (λk _=>by simp only[zCW,kH (dC _),cN])
  (λlo hi h1 h2=>by
   have hm:(lo+hi)/2<l.length:=by omega
   have T:yD (zOM c l).bR (((lo+hi)/2:Nat):Int)=some (nth l ((lo+hi)/2)):=zX hm;simp only[zCW,yS h1,cO,zQM (show lo+hi<=4611686018427387903 by omega),vG,T,zA,zJ (k:=(lo+hi)/2) (by omega)];by_cases hc:x<=(nth l ((lo+hi)/2)).Hi<;>simp[hc])
  (λi j Y Z hi=>by
   have:=h.hi Y Z;simp only[cZ] at hi ⊢;omega)
 simp only[dB,cZ] at H D;unfold uE zKX;have e0:(zOM c l).bR=l:=rfl;rw[e0,hr,yNM h Z (λk hk=>by have:=H k hk;omega) D]
 simp only[zA,zK];by_cases K:j<l.length;simp only[yS K,xB,zX K,zA,dK,K,true_and];by_cases O:(nth l j).Lo<=x<;>simp[O];simp only[kH (show l.length<=j by omega),vB,zA,dP,cN,K,false_and,cY]
theorem z8Q:∀(l:List bM) (t:Int),t<=zYJ l t/\∀s∈l,s.Value<=zYJ l t
 | [],t=>⟨fT _,λs h=>by cases h⟩
 | x::l,t=>by
  have k:=z8Q l (max t x.Value);refine⟨by show t<=zYJ l (max t x.Value);omega,λs hs=>?_⟩
  show s.Value<=zYJ l (max t x.Value);rcases dM.1 hs with rfl | hs
  omega;exact k.2 s hs
theorem yR4 {l:List bM} (x:Int):clE l x<=zYJ l 0:=by
 unfold clE;cases h:l.find? (zUU x) with
 | none=>exact(z8Q l 0).1
 | some s=>exact(z8Q l 0).2 s (fK h)
theorem yNU {l:List bM} (h:CV l) (x:Int):0<=clE l x:=by
 unfold clE;cases H:l.find? (zUU x) with
 | none=>exact fT _
 | some s=>
  have:=fK H;obtain⟨k,D,rfl⟩:=fc this;have:=h.sp k D;rw[zBQ D] at this;unfold spOk at this;show 0<=(l[k]).Value;omega
def zK8 (p:Nat->Bool):Nat->Nat
 | 0=>0
 | k+1=>if p (k+1) then k+1 else zK8 p k
theorem zR4 (p:Nat->Bool):∀k,zK8 p k<=k
 | 0=>dC _
 | k+1=>by unfold zK8;split;omega;have:=zR4 p k;omega
theorem zZX {p : Nat -> Bool} {m : Nat} : ∀ {k : Nat}, m <= k -> (∀ j, m<j -> j <= k -> p j = false) -> zK8 p k = zK8 p m
  | 0, h, _ => by have : m = 0 := by omega
                  rw[this]
  | k+1, h, hp => by
    by_cases e : m = k+1
    · rw[e]
    · unfold zK8
      rw[hp (k+1) (by omega) (dC _)];simp only[dQ, cY];rw[zZX (m := m) (by omega) λj h1 h2 => hp j h1 (by omega)];cases m<;>rfl
def pfx (es:List bP) (text:List Int) (k:Nat):Bool:=(zEB es (text.take k)).2
def zAP (es:List bP) (text:List Int):Nat:=zK8 (pfx es text) text.length
def zE0 (fd:List Int->Bool) (cl:Int->Int):List Int->List Int->List Int->Int->List Int×List Int
 | [],p,s,_=>(p,s)
 | x::r,p,s,h=>if cl x=0 then (p,s++x::r) else if fd (p++ [x])&&decide (h<cl x) then zE0 fd cl r (p++ [x]) s h else zE0 fd cl r p (s++ [x]) (max h (cl x))
theorem zZY {fd:List Int->Bool} {cl:Int->Int}:∀(r p s:List Int) (h:Int),(∀x,cl x<=h)->zE0 fd cl r p s h=(p,s++r)
 | [],p,s,h,_=>by simp[zE0]
 | x::r,p,s,h,k=>by
  have D:=k x;unfold zE0;split;rfl;have e:decide (h<cl x)=false:=by simp;omega
  rw[e,fG,dN (by simp),zZY r p (s++ [x]) (max h (cl x)) (λy=>by have:=k y;omega)]
  simp
theorem zR5 {fd:List Int->Bool} {cl:Int->Int}:∀(r p s:List Int) (h:Int),p.length<=(zE0 fd cl r p s h).1.length/\(zE0 fd cl r p s h).1.length+(zE0 fd cl r p s h).2.length=p.length+s.length+r.length/\((zE0 fd cl r p s h).1.length=p.length->zE0 fd cl r p s h=(p,s++r))
 | [],p,s,h=>by simp[zE0]
 | x::r,p,s,h=>by
  unfold zE0;split;refine⟨dC _,by simp;omega,λ_=>rfl⟩
  split;have k:=zR5 (fd:=fd) (cl:=cl) r (p++ [x]) s h;simp only[cX,dR,d7] at k ⊢;exact⟨by omega,by omega,λe=>by omega⟩;have k:=zR5 (fd:=fd) (cl:=cl) r p (s++ [x]) (max h (cl x));simp only[cX,dR,d7] at k ⊢;refine⟨k.1,by omega,λe=>?_⟩;rw[k.2.2 e];simp
section
variable {c:Collation} (hs:Sm c) {l:List bM} (hcv:CV l) (hl:l.length<=2000)
include hs
theorem mL0 {text:List Int} (K:text.length<=2000):∀k,k<=text.length->zF (λ(x:Int)=>jF text (zOM c l) x) (k:Int)=some ((zK8 (pfx (kC c).aB text) k:Nat):Int)
 | 0,_=>by
  refine zL ?_;have:decide ((0:Int)<((0:Nat):Int))=false:=rfl;simp only[jF,this,cN];rfl
 | k+1,H=>by
  have D:decide ((0:Int)<((k+1:Nat):Int))=true:=by simp<;>omega
  have O:=mL0 K k (by omega);unfold zK8;cases h:pfx (kC c).aB text (k+1) with
  | true=>
   rw[dG rfl];refine zL ?_;unfold pfx at h;simp only[jF,D,cO,zFI H,zA,zON hs,h]
  | false=>
   rw[dN (by simp),<-O];refine zM ?_;unfold pfx at h;simp only[jF,D,cO,zFI H,zA,zON hs,h,cN,zD8 (k:=k) (by omega)]
omit hs in
theorem yHZ {text:List Int} {k:Nat} (O:k<=text.length) (h:zRZ (kC c).aB 0<(k:Int)):pfx (kC c).aB text k=false:=by
 have D:=z1R (kC c).aB 0;unfold pfx zEB;have:(kC c).aB.find? (λx=>decide (x.aY=text.take k))=none:=by
  rw[iq];intro x K;simp only[cZ];intro e;have H:=D.2 x K;rw[e] at H;have:(text.take k).length=k:=by simp;omega
  omega
 rw[this]
theorem yPR {text:List Int} (H:text.length<=2000):zF (λ(x:Int)=>jF text (zOM c l) x) (min (zOM c l).bV (text.length:Int))=some ((zAP (kC c).aB text:Nat):Int):=by have K:=z1R (kC c).aB 0;have e:(zOM c l).bV=zRZ (kC c).aB 0:=rfl;rw[e];obtain⟨m,D⟩:∃m:Nat,min (zRZ (kC c).aB 0) (text.length:Int)=(m:Int):=⟨(min (zRZ (kC c).aB 0) (text.length:Int)).toNat,by omega⟩;rw[D,mL0 hs H m (by omega)];unfold zAP;rw[zZX (p:=pfx (kC c).aB text) (m:=m) (k:=text.length) (by omega) λj O h=>yHZ h (by omega)]
omit hs in
theorem yPS {p s r:List Int} {x:Int}:zBD (cpM (p++s++x::r) ((p.length+1:Nat):Int) ((p.length+s.length+1:Nat):Int) (p.length:Int) ((p.length+s.length:Nat):Int)) (p.length:Int) x=some ((p++ [x])++s++r):=by
 have H:((p++s++x::r).drop p.length).take (p.length+s.length-p.length)=s:=by
  rw[c9,List.drop_left];have:p.length+s.length-p.length=s.length:=by omega
  rw[this,gQ]
 have K:min (p.length+s.length-p.length) (p.length+s.length+1-(p.length+1))=s.length:=by omega
 unfold cpM;simp only[Int.toNat_natCast];rw[H,K,gA (dC _)];cases s with
 | nil=>
  have D:(p++ []++x::r)=p++x::r:=by simp
  rw[D];have h:(p++x::r).take (p.length+1)=p++ [x]:=by
   rw[List.take_append,gA (by omega)];simp
  have k:(p++x::r).drop (p.length+1+([]:List Int).length)=r:=by
   rw[List.drop_append,dE (by simp)];simp
  rw[h,k];have:p++ [x]++ []++r=p++x::r:=by simp
  rw[this,zAU rfl]
 | cons y s=>
  have D:(p++(y::s)++x::r)=p++y::(s++x::r):=by simp
  rw[D];have h:(p++y::(s++x::r)).take (p.length+1)=p++ [y]:=by
   rw[List.take_append,gA (by omega)];simp
  have k:(p++y::(s++x::r)).drop (p.length+1+(y::s).length)=r:=by
   have:p++y::(s++x::r)=(p++y::(s++ [x]))++r:=by simp
   rw[this,List.drop_left' (by simp;omega)]
  rw[h,k];have:p++ [y]++(y::s)++r=p++y::((y::s)++r):=by simp
  rw[this,zAU rfl];simp
include hcv hl
theorem mL1:∀(r p s:List Int) (h:Int),p.length+s.length+r.length<=2000->
  zF (λ(x:Int×Int×Int×(List Int))=>kR (zOM c l) x.1 x.2.1 x.2.2.1 x.2.2.2) ((p.length:Int),h,((p.length+s.length:Nat):Int),p++s++r)=
   some ((((zE0 (λq=>(zEB (kC c).aB q).2) (clE l) r p s h).1.length:Nat):Int),(zE0 (λq=>(zEB (kC c).aB q).2) (clE l) r p s h).1++(zE0 (λq=>(zEB (kC c).aB q).2) (clE l) r p s h).2)
 | [],p,s,h,_=>by
  refine zL ?_;have:decide (((p.length+s.length:Nat):Int)<((p++s++ []).length:Int))=false:=by simp
  simp only[kR,zK,this,dP,cN];simp[zE0]
 | x::r,p,s,h,hn=>by
  simp only[dR] at hn;have Z:decide (((p.length+s.length:Nat):Int)<((p++s++x::r).length:Int))=true:=by simp<;>omega
  have hi:yD (p++s++x::r) ((p.length+s.length:Nat):Int)=some x:=vU (by simp);have H:(zOM c l).top=zYJ l 0:=rfl;by_cases K:h<zYJ l 0
  ·have D:decide (h<(zOM c l).top)=true:=by rw[H];simpa using K
   by_cases O:clE l x=0
   ·refine zL ?_
    simp only[kR,zK,Z,D,fA,cO,hi,zA,zPA hcv hl,O,dA,eJ];unfold zE0;rw[dG O];simp
   ·unfold zE0
    rw[dN O];by_cases hk:clE l x<=h
    ·have e:decide (h<clE l x)=false:=by simp;omega
     rw[e,fG,dN (by simp)];rw[zM (x':=((p.length:Int),h,((p.length+(s++ [x]).length:Nat):Int),p++(s++ [x])++r)) (by
      have e2:p++(s++ [x])++r=p++s++x::r:=by simp
      have T:p.length+(s++ [x]).length=p.length+s.length+1:=by simp;omega
      rw[e2,T];simp only[kR,zK,Z,D,fA,cO,hi,zA,zPA hcv hl,O,hk,dA,dF,cN,Sum.elim_inr,zJ (k:=p.length+s.length) (by omega)])]
     have:=mL1 r p (s++ [x]) h (by simp;omega)
     rw[show max h (clE l x)=h by omega];exact this
    ·have e:decide (h<clE l x)=true:=by simp;omega
     rw[e,iJ];have s1:slc (p++s++x::r) 0 (p.length:Int)=some p:=by
      rw[zFI (by simp)];simp
     have a1:app p [x]=some (p++ [x]):=jY (by simp;omega)
     cases hf:(zEB (kC c).aB (p++ [x])).2 with
     | false=>
      rw[dN (by simp)];rw[zM (x':=((p.length:Int),clE l x,((p.length+(s++ [x]).length:Nat):Int),p++(s++ [x])++r)) (by
       have e2:p++(s++ [x])++r=p++s++x::r:=by simp
       have T:p.length+(s++ [x]).length=p.length+s.length+1:=by simp;omega
       rw[e2,T];simp only[kR,zK,Z,D,fA,cO,hi,zA,zPA hcv hl,O,hk,dF,cN,s1,a1,zON hs,hf,dS,Sum.elim_inr,zJ (k:=p.length+s.length) (by omega)])]
      have:=mL1 r p (s++ [x]) (clE l x) (by simp;omega)
      rw[show max h (clE l x)=clE l x by omega];exact this
     | true=>
      rw[dG rfl];have aj:∃q,slc (p++s++x::r) ((p.length+1:Nat):Int) ((p.length+s.length+1:Nat):Int)=some q:=⟨_,zS7 (by omega) (by simp;omega)⟩
      have ak:∃q,slc (p++s++x::r) (p.length:Int) ((p.length+s.length:Nat):Int)=some q:=⟨_,zS7 (by omega) (by simp)⟩;obtain⟨q1,ag⟩:=aj;obtain⟨q2,ah⟩:=ak;have Y:=yPS (p:=p) (s:=s) (r:=r) (x:=x);obtain⟨_,_,ad⟩:=zOU Y;have ab:∃q,yD (cpM (p++s++x::r) ((p.length+1:Nat):Int) ((p.length+s.length+1:Nat):Int) (p.length:Int) ((p.length+s.length:Nat):Int)) (p.length:Int)=some q:=⟨_,zU (by simpa using ad)⟩;obtain⟨q3,ai⟩:=ab;rw[zM (x':=(((p++ [x]).length:Int),h,(((p++ [x]).length+s.length:Nat):Int),(p++ [x])++s++r)) (by
       have T:(p++ [x]).length+s.length=p.length+s.length+1:=by simp;omega
       have e4:(p++ [x]).length=p.length+1:=by simp
       rw[T,e4];simp only[kR,zK,Z,D,fA,cO,hi,zA,zPA hcv hl,O,hk,dF,cN,s1,a1,zON hs,hf,dD,zJ (k:=p.length+s.length) (by omega),zJ (k:=p.length) (by omega),ag,ah,ai,Y,Sum.elim_inr])]
      exact mL1 r (p++ [x]) s h (by simp;omega)
  ·have D:decide (h<(zOM c l).top)=false:=by rw[H];simpa using K
   have hm:=zZY (fd:=λq=>(zEB (kC c).aB q).2) (cl:=clE l) (x::r) p s h (λy=>by have:=yR4 (l:=l) y;omega)
   rw[hm];refine zL ?_;simp only[kR,zK,Z,D,fG,cN,c9]
noncomputable def stE (c:Collation) (l:List bM) (text:List Int):Int×List Int×List aP:=if zAP (kC c).aB text=0 then (1,text.drop 1,zUS (kC c) (nth text 0)) else
 ((((zE0 (λq=>(zEB (kC c).aB q).2) (clE l) (text.drop (zAP (kC c).aB text)) (text.take (zAP (kC c).aB text)) [] 0).1.length:Nat):Int),(zE0 (λq=>(zEB (kC c).aB q).2) (clE l) (text.drop (zAP (kC c).aB text)) (text.take (zAP (kC c).aB text)) [] 0).2,(zEB (kC c).aB (zE0 (λq=>(zEB (kC c).aB q).2) (clE l) (text.drop (zAP (kC c).aB text)) (text.take (zAP (kC c).aB text)) [] 0).1).1)
theorem yH0 {text:List Int} (ht:text.length<=2000) (h0:text≠[]):∃D,uF (zOM c l) text=some ((stE c l text).1,(stE c l text).2.2,decide (zAP (kC c).aB text≠0),D)/\slc D (stE c l text).1 (D.length:Int)=some (stE c l text).2.1:=by
 unfold uF;rw[yPR hs ht,zA];have H:0<text.length:=eU.2 h0;by_cases K:zAP (kC c).aB text=0;have O:decide (((zAP (kC c).aB text:Nat):Int)=0)=true:=by simp[K]
 have i0:yD text (0:Int)=some (nth text 0):=zX (k:=0) H;have h:stE c l text=(1,text.drop 1,zUS (kC c) (nth text 0)):=by unfold stE;rw[dG K]
 have Y:xT (zOM c l) (nth text 0)=some (zUS (kC c) (nth text 0)):=z5B c (nth text 0);rw[O,cO,i0,zA,Y,zA,h];refine⟨text,?_,?_⟩;simp[K];exact zIK (l:=text) (a:=1) (by omega);have O:decide (((zAP (kC c).aB text:Nat):Int)=0)=false:=by simp;omega
 rw[O,cN];have ac:zAP (kC c).aB text<=text.length:=zR4 _ _;have T:=mL1 hs hcv hl (text.drop (zAP (kC c).aB text)) (text.take (zAP (kC c).aB text)) [] 0 (by simp;omega)
 have Z:(text.take (zAP (kC c).aB text)).length=zAP (kC c).aB text:=by simp;omega
 have e3:text.take (zAP (kC c).aB text)++ []++text.drop (zAP (kC c).aB text)=text:=by simp
 rw[e3,Z] at T;simp only[d7,fE] at T;rw[T,zA];have h:stE c l text=((((zE0 (λq=>(zEB (kC c).aB q).2) (clE l) (text.drop (zAP (kC c).aB text)) (text.take (zAP (kC c).aB text)) [] 0).1.length:Nat):Int),(zE0 (λq=>(zEB (kC c).aB q).2) (clE l) (text.drop (zAP (kC c).aB text)) (text.take (zAP (kC c).aB text)) [] 0).2,(zEB (kC c).aB (zE0 (λq=>(zEB (kC c).aB q).2) (clE l) (text.drop (zAP (kC c).aB text)) (text.take (zAP (kC c).aB text)) [] 0).1).1):=by unfold stE;rw[dN K]
 rw[h];generalize zE0 (λq=>(zEB (kC c).aB q).2) (clE l) (text.drop (zAP (kC c).aB text)) (text.take (zAP (kC c).aB text)) [] 0=q;have s1:slc (q.1++q.2) 0 ((q.1.length:Nat):Int)=some q.1:=by rw[zFI (by simp)];simp
 simp only[s1,zA,zON hs];refine⟨q.1++q.2,?_,?_⟩;simp[K];rw[zIK (by simp)];simp
end
open Go.AV
def n0:Norm:={aK:=[{Lo:=769,Hi:=769,Value:=230},{Lo:=803,Hi:=803,Value:=220}],aA:=[],aN:={Ranges:=[]}}
def c0:Collation:={aB:=[{aY:=[97],aV:=[{aT:=7,aL:=1,aO:=1,aD:=false}]},{aY:=[97,769],aV:=[{aT:=8,aL:=1,aO:=1,aD:=false}]}],aF:=[],bL:=100,bF:=1,bK:=1}
open Go.AV
theorem yH1 {n:Norm} (h:DS n.aA) (T:n.aA.length<=2000) (c:Int) (b:Bool):u2 n c b=some (if syl c=true then (hdE c,true) else ((fnB n.aA b c).getD [],(fnB n.aA b c).isSome)):=by
 unfold u2;rw[zO7,zA];by_cases k:syl c=true;have e:decide (4<=hkE c)=true:=by simpa using (zI6 c).1 k
 simp only[e,cO,z98 k,zA,k,dH];have e:decide (4<=hkE c)=false:=by simp only[dB];exact λO=>k ((zI6 c).2 O)
 simp only[gS] at k;simp only[e,cN,k,dQ,cY];obtain⟨i,hb,Z⟩:=yAA h T c;rw[hb];simp only[zA,zK];unfold fnB;cases K:n.aA.find? (isF c) with
 | none=>simp[vB]
 | some m=>
  obtain⟨D,H⟩:=Z m K;simp only[Option.isSome_some,dD,dS,xB,zX D,H,zA,eY];cases b<;>cases Y:(m.bO== [])<;>simp[Y]
section
variable {n:Norm} {b:Bool} (hd:DS n.aA) (hl:n.aA.length<=2000) (hD:∀c,DD n.aA n.aA.length c) (hw:∀c,(fu n.aA b c).length<=64)
def XOk (l:List aI) (b:Bool) (m:List (Int×List Int)):Prop:= ∀k v,mget m k=some v->v=fu l b k
def yAL (l:List aI) (f:Nat) (c:Int):Prop:=(∃k,DD l k c/\k+2<=f)\/(l.find? (isF c)=none/\syl c=false/\1<=f)
include hw in
theorem yPT {f:Nat} (ih:∀c m,XOk n.aA b m->yAL n.aA f c->∃h,kU f c m n b=some (fu n.aA b c,h)/\XOk n.aA b h) (L:List Int) (hL:L.length<=2000) (hn:∀e∈L,yAL n.aA f e):
  ∀(d i:Nat) (acc:List Int) (m:List (Int×List Int)),L.length-i=d->i<=L.length->acc.length<=64*i->XOk n.aA b m->
   ∃h,zF (λ(x:Int×(List Int)×(List (Int×(List Int))))=>jL (L,true) (kU f) n b x.1 x.2.1 x.2.2) ((i:Int),acc,m)=some (acc++(L.drop i).flatMap (fu n.aA b),h)/\XOk n.aA b h:=by
 intro d
 induction d with
 | zero=>
  intro i acc m O T Y D;refine⟨m,?_,D⟩;refine zL ?_;rw[dE (show L.length<=i by omega)];simp only[jL,kH (show L.length<=i by omega),cN,gU,et]
 | succ d H=>
  intro i acc m O T Y D;have hi:i<L.length:=by omega
  obtain⟨K,hr,r1⟩:=ih L[i] m D (hn _ (eF hi));have ad:=hw L[i];have Z:app acc (fu n.aA b L[i])=some (acc++fu n.aA b L[i]):=jY (by omega);rw[zM (x':=(((i+1:Nat):Int),acc++fu n.aA b L[i],K)) (by
   simp only[jL,yS hi,cO,zU hi,zA,hr,Z,zJ (k:=i) (by omega)])]
  obtain⟨m2,hq,q1⟩:=H (i+1) (acc++fu n.aA b L[i]) K (by omega) (by omega) (by rw[cX];omega) r1
  refine⟨m2,?_,q1⟩;rw[hq,cW hi,d5,c9]
include hd hl hD hw in
theorem yR5:∀(f:Nat) (c:Int) (m:List (Int×List Int)),XOk n.aA b m->yAL n.aA f c->∃T,kU f c m n b=some (fu n.aA b c,T)/\XOk n.aA b T:=by
 intro f
 induction f with
 | zero=>intro c m _ hn;exfalso;rcases hn with ⟨k,_,h⟩ | ⟨_,_,h⟩<;>omega
 | succ f ih=>
  intro c m hm hn;show ∃T,vO (kU f) c m n b=some _/\_;unfold vO;cases hh:zDM m c with
  | true=>
   obtain⟨v,hv⟩:=gI.1 hh;have hg:mgetD m c []=v:=by unfold mgetD;rw[hv];rfl
   rw[cO,hg,hm c v hv];exact⟨m,rfl,hm⟩
  | false=>
   rw[cN,yH1 hd hl,zA];have Y:∀(L:List Int),L.length<=2000->(∀e∈L,yAL n.aA f e)->L.flatMap (fu n.aA b)=fu n.aA b c->∃T,(cond (!((L,true):List Int×Bool).2) (some ([c],m)) ((zF (λ(x:Int×(List Int)×(List (Int×(List Int))))=>jL (L,true) (kU f) n b x.1 x.2.1 x.2.2) (0,[],m)).bind λ(y1:(List Int)×(List (Int×(List Int))))=>some (y1.1,vD y1.2 c y1.1)))=some (fu n.aA b c,T)/\XOk n.aA b T:=by
    intro L hL ak aj;obtain⟨m1,hq,q1⟩:=yPT hw ih L hL ak L.length 0 [] m (by omega) (by omega) (by simp) hm;rw[d8,dO,aj] at hq;have al:zF (λ(x:Int×(List Int)×(List (Int×(List Int))))=>jL (L,true) (kU f) n b x.1 x.2.1 x.2.2) (0,[],m)=some (fu n.aA b c,m1):=hq;simp only[dD,cN];rw[al];refine⟨vD m1 c (fu n.aA b c),rfl,λk v K=>?_⟩;rw[vL] at K;split at K;rename_i hx;cases K;rw[hx];exact q1 k v K
   cases hs:syl c with
   | true=>
    simp only[dH];have O:=z5M hd hs;have Z:∀e∈hdE c,n.aA.find? (isF e)=none/\syl e=false:=by
     intro e H;obtain⟨p1,p2⟩:=zR0 hs H;refine⟨?_,p1⟩;cases ai:n.aA.find? (isF e) with
     | none=>rfl
     | some m=>obtain⟨q1,rfl⟩:=zGP ai;exact absurd (hd.hk m q1) p2
    refine Y (hdE c) (by have:=zQL c;omega) (λe H=>?_) ?_
    obtain⟨p1,p2⟩:=Z e H;refine .inr ⟨p1,p2,?_⟩;rcases hn with ⟨k,_,h⟩ | ⟨_,h,_⟩;omega;rw[hs] at h;cases h;have D:fu n.aA b c=hdE c:=by rw[zR3 hD,zGQ O]
    rw[D];have:∀L:List Int,(∀e∈L,n.aA.find? (isF e)=none/\syl e=false)->L.flatMap (fu n.aA b)=L:=by
     intro L
     induction L with
     | nil=>intro _;rfl
     | cons x L an=>
      intro h;obtain⟨p1,p2⟩:=h x (by simp);have hx:fu n.aA b x= [x]:=by rw[zR3 hD,zGQ p1];show hdE x= [x];unfold hdE;rw[dN (by simp[p2])]
      rw[d5,hx,an λe H=>h e (by simp[H])];rfl
    exact this _ Z
   | false=>
    simp only[dQ,cY];cases hf:fnB n.aA b c with
    | none=>
     simp only[Option.getD_none,Option.isSome_none,dS,cO];refine⟨m,?_,hm⟩;rw[zR3 hD,hf];have:hdE c= [c]:=by unfold hdE;rw[dN (by simp[hs])]
     simp only[this]
    | some to=>
     simp only[gR,Option.isSome_some];obtain⟨mm,D,rfl,_⟩:=zKD hf;obtain⟨h2,_⟩:=zGP D;refine Y mm.To (hd.len mm h2) (λe H=>?_) (by rw[zR3 hD c,hf]);rcases hn with ⟨k,K,h⟩ | ⟨h,_,_⟩
     cases k with
     | zero=>have:n.aA.find? (isF c)=none:=K;rw[this] at D;cases D
     | succ k=>exact .inl ⟨k,K mm D e H,by omega⟩
     rw[h] at D;cases D
end
noncomputable def usN (n:Norm):Norm:=open Classical in if VD0 n then n else {aK:=[],aA:=[],aN:={Ranges:=[]}}
structure GN (n:Norm):Prop where
 ds:DS n.aA
 cv:CV n.aK
 H:∀m∈n.aA,WW n.aA m.aW
 w:∀m∈n.aA,wt n.aA true m.aW<=64
 cl:n.aK.length<=40
 de:n.aA.length<=40
 ok:∀x∈n.aK,b9 x
theorem zTF {n:Norm} (K:NSm n) (H:wO n):GN (usN n):=by
 unfold usN;split;rename_i h;obtain⟨O,T⟩:=(yHU h.ds (by have:=K.de;omega)).1 h.ms
 exact⟨h.ds,h.cv,O,T,K.cl,K.de,H.1.2⟩;exact⟨⟨λk Y=>(by cases Y),λm D=>(by cases D),λm D=>(by cases D)⟩,yHX,λm D=>(by cases D),λm D=>(by cases D),by simp,by simp,λx Z=>by cases Z⟩
theorem GN.dd {n:Norm} (h:GN n):∀c,DD n.aA n.aA.length c:=zWX h.ds h.H
theorem GN.len {n:Norm} (h:GN n) (b:Bool) (c:Int):(fu n.aA b c).length<=64:=yPN h.ds (yPO h.ds h.H h.w) b c
theorem GN.ex {n:Norm} (h:GN n) {b:Bool} (c:Int) (m:List (Int×List Int)) (D:XOk n.aA b m):∃k,kU 100 c m n b=some (fu n.aA b c,k)/\XOk n.aA b k:=
 yR5 h.ds (by have:=h.de;omega) h.dd (h.len b) 100 c m D (.inl ⟨_,h.dd c,by have:=h.de;omega⟩)
theorem yL7 {n:Norm} (O:NSm n) (D:wO n):zA7 n=some (usN n):=by obtain⟨e,K,H⟩:=yHP O D;unfold zA7 usN;rw[K,zA];by_cases k:e=0;rw[dG (H.1 k)];simp[k];rw[dN (λh=>k (H.2 h))];simp[k]
theorem z5R {f:Int->List Int} {k:Nat} (h:∀e,(f e).length<=k):∀L:List Int,(L.flatMap f).length<=k*L.length
 | []=>by simp
 | x::L=>by have:=z5R h L;have:=h x;rw[d5,cX,dR,Nat.mul_succ];omega
theorem yDN {n:Norm} (h:GN n) {b:Bool} {text:List Int} (ht:text.length<=2000):∀(d i:Nat) (acc:List Int) (m:List (Int×List Int)),text.length-i=d->i<=text.length->acc.length<=64*i->XOk n.aA b m->
  zF (λ(x:Int×(List Int)×(List (Int×(List Int))))=>xY text n b x.1 x.2.1 x.2.2) ((i:Int),acc,m)=some (acc++(text.drop i).flatMap (fu n.aA b)):=by
 intro d
 induction d with
 | zero=>
  intro i acc m K O T D;refine zL ?_;rw[dE (show text.length<=i by omega)];simp only[xY,kH (show text.length<=i by omega),cN,gU,et]
 | succ d ih=>
  intro i acc m K O T D;have hi:i<text.length:=by omega
  obtain⟨H,Z,r1⟩:=h.ex (b:=b) text[i] m D;have aa:=h.len b text[i];have Y:app acc (fu n.aA b text[i])=some (acc++fu n.aA b text[i]):=jY (by omega);rw[zM (x':=(((i+1:Nat):Int),acc++fu n.aA b text[i],H)) (by
   simp only[xY,yS hi,cO,zU hi,zA,Z,Y,zJ (k:=i) (by omega)])]
  rw[ih (i+1) (acc++fu n.aA b text[i]) H (by omega) (by omega) (by rw[cX];omega) r1,cW hi,d5,c9]
noncomputable def zGW (n:Norm) (b:Bool) (text:List Int):List Int:=text.flatMap (fu (usN n).aA b)
theorem yL8 {n:Norm} (O:NSm n) (K:wO n) {text:List Int} (T:text.length<=2000) (b:Bool):vP n text b=zCF (usN n).aK (zGW n b text):=by have h:=zTF O K;unfold vP zDH;have Y:zA7 {aK:=n.aK,aA:=n.aA,aN:={Ranges:=n.aN.Ranges}}=some (usN n):=yL7 O K;have D:=yDN h (b:=b) T text.length 0 [] [] (by omega) (by omega) (by simp) (λk v h=>by cases h);rw[d8,dO] at D;have H:zF (λ(x:Int×(List Int)×(List (Int×(List Int))))=>xY text (usN n) b x.1 x.2.1 x.2.2) (0,[],[])=some (zGW n b text):=D;rw[Y,zA,zA,H,zA];cases zCF (usN n).aK (zGW n b text)<;>rfl
open Go.AV
section
variable (key:Int->Int)
def ltK (a b:Int):Bool:=decide (key a<key b)
def ltC (a b:Int):Bool:=decide (0<key a)&&decide (key a<key b)
def srt (l:List Int):List Int:=zA0 (ltK key) l []
def csE (l:List Int):List Int:=zA0 (ltC key) l []
def rsE:List Int->List Int->List Int
 | [],run=>srt key run
 | x::t,run=>if key x=0 then srt key run++x::rsE t [] else rsE t (run++ [x])
end
section
variable {key:Int->Int}
theorem yH2 (l:List Int) (x:Int):srt key (l++ [x])=zAB (ltK key) (srt key l).reverse x []:=by unfold srt zA0;rw[List.foldl_append];rfl
theorem zR6 (l:List Int):Flt key l (srt key l):=by have:=zO9 (key:=key) l [];exact this
theorem yAM (l:List Int):(srt key l).length=l.length:=(zR6 l).len.symm
theorem yAN {x:Int} (k:0<key x):∀(r q s:List Int),(∀y,q.head? =some y->key y=0)->zAB (ltC key) (r++q) x s=q.reverse++zAB (ltK key) r x s
 | [],q,s,h=>by
  cases q with
  | nil=>rfl
  | cons y q=>
   have:ltC key x y=false:=by unfold ltC;rw[h y rfl];simp;omega
   show zAB (ltC key) (y::q) x s=_;simp only[zAB,this,dQ,cY]
 | y::r,q,s,h=>by
  have e:ltC key x y=ltK key x y:=by unfold ltC ltK;simp[k]
  show zAB (ltC key) (y::(r++q)) x s=q.reverse++zAB (ltK key) (y::r) x s;simp only[zAB,e];cases ltK key x y with
  | true=>simp only[dH];exact yAN k r q (y::s) h
  | false=>simp
theorem yH3 (h:∀x,0<=key x):∀(t run p:List Int),(∀y,p.reverse.head? =some y->key y=0)->zA0 (ltC key) t (p++srt key run)=p++rsE key t run
 | [],run,p,_=>rfl
 | x::t,run,p,D=>by
  show zA0 (ltC key) t (zAB (ltC key) (p++srt key run).reverse x [])=p++rsE key (x::t) run;by_cases k:key x=0
  ·have e:∀r:List Int,zAB (ltC key) r x []=r.reverse++ [x]:=by
    intro r;cases r with
    | nil=>rfl
    | cons y r=>
     have:ltC key x y=false:=by unfold ltC;rw[k];simp
     simp[zAB,this]
   have K:=yH3 h t [] (p++srt key run++ [x]) (λy H=>by simp at H;rw[<-H];exact k)
   have O:srt key []= []:=rfl;rw[O,et] at K;rw[e,fN,K];simp[rsE,k]
  ·have T:0<key x:=by have:=h x;omega
   rw[List.reverse_append,yAN T _ _ _ D,fN,<-yH2,yH3 h t (run++ [x]) p D];simp[rsE,k]
theorem z10 (h:∀x,0<=key x) (t:List Int):csE key t=rsE key t []:=by have:=yH3 h t [] [] (λy k=>by cases k);exact this
theorem z5S (t:List Int):(csE key t).Perm t:=by have:=zMT (ltC key) t [];rw[dO] at this;exact this
theorem yL9 (t:List Int):(csE key t).length=t.length:=(z5S t).length_eq
theorem z5T {f:List Int->Option (List Int)} {P run T r:List Int} (h:0<run.length) (K:f run=some r):zM3 f (P++run++T) (P.length:Int) ((P.length+run.length:Nat):Int)=some (P++r++T):=by
 unfold zM3;have a1:((P.length:Int)).toNat=P.length:=by simp
 have a2:(((P.length+run.length:Nat):Int)).toNat=P.length+run.length:=by omega
 rw[a1,a2,dG ⟨by omega,by omega,by rw[cX,cX];omega⟩]
 have H:((P++run++T).drop P.length).take (P.length+run.length-P.length)=run:=by
  rw[c9,List.drop_left,show P.length+run.length-P.length=run.length by omega,gQ]
 have k:(P++run++T).take P.length=P:=by rw[c9,gQ]
 have D:(P++run++T).drop (P.length+run.length)=T:=by rw[<-cX,List.drop_left]
 rw[H,k,D,K];rfl
theorem yAO {f:List Int->Option (List Int)} {st:Int->Bool} (k:∀x,st x=decide (key x=0)) (O:∀l,l.length<=2000->f l=some (srt key l)):∀(t run P:List Int) (s:Int),P.length+run.length+t.length<=2000->(run= []/\s= -1\/run≠[]/\s=(P.length:Int))->
  zBE f Range.Lo Range.Hi (P++run++t) (wA st t ((P.length+run.length:Nat):Int) s)=some (P++rsE key t run)
 | [],run,P,s,hl,Y=>by
  rcases Y with ⟨rfl,rfl⟩ | ⟨H,rfl⟩
  ·simp only[wA,show ¬(0:Int)<= -1 by decide,cY]
   show some (P++ []++ [])=some (P++ []);simp
  ·have K:(0:Int)<=(P.length:Int):=by omega
   simp only[wA,K,dH];have h:0<run.length:=eU.2 H;show (some (P++run++ [])).bind (λl=>zM3 f l (P.length:Int) ((P.length+run.length:Nat):Int))=_;rw[zA,z5T h (O run (by simp at hl;omega))]
   simp[rsE]
 | x::t,run,P,s,hl,Y=>by
  have ac:P.length+run.length+t.length+1<=2000:=by simp only[dR] at hl;omega
  by_cases K:key x=0
  ·have D:st x=true:=by rw[k];simp[K]
   rcases Y with ⟨rfl,rfl⟩ | ⟨H,rfl⟩
   ·have e:wA st (x::t) ((P.length+([]:List Int).length:Nat):Int) (-1)=wA st t (((P++ [x]).length+([]:List Int).length:Nat):Int) (-1):=by
     simp only[wA,D];simp
    have T:=yAO k O t [] (P++ [x]) (-1) (by simp only[cX,gY,d7];simp at ac;omega) (.inl ⟨rfl,rfl⟩)
    rw[e,show P++ []++x::t=P++ [x]++ []++t by simp,T];have e2:srt key []= []:=rfl;simp[rsE,K,e2]
   ·have aa:(0:Int)<=(P.length:Int):=by omega
    have h:0<run.length:=eU.2 H;have e:wA st (x::t) ((P.length+run.length:Nat):Int) (P.length:Int)= {Lo:=(P.length:Int),Hi:=((P.length+run.length:Nat):Int)}::wA st t (((P++srt key run++ [x]).length+([]:List Int).length:Nat):Int) (-1):=by
     have Z:(((P++srt key run++ [x]).length+([]:List Int).length:Nat):Int)=((P.length+run.length:Nat):Int)+1:=by simp[yAM];omega
     rw[Z];simp only[wA,D,dD,dP,dQ,cY,dK,aa,dA,dH]
    have T:=yAO k O t [] (P++srt key run++ [x]) (-1) (by simp[yAM];omega) (.inl ⟨rfl,rfl⟩)
    have e4:zM3 f (P++run++x::t) (P.length:Int) ((P.length+run.length:Nat):Int)=some (P++srt key run++ [x]++ []++t):=by
     rw[z5T h (O run (by omega))];simp
    have e5:zBE f Range.Lo Range.Hi (P++run++x::t) ({Lo:=(P.length:Int),Hi:=((P.length+run.length:Nat):Int)}::wA st t (((P++srt key run++ [x]).length+([]:List Int).length:Nat):Int) (-1))=zBE f Range.Lo Range.Hi (P++srt key run++ [x]++ []++t) (wA st t (((P++srt key run++ [x]).length+([]:List Int).length:Nat):Int) (-1)):=by
     unfold zBE;rw[io,zA,e4]
    rw[e,e5,T];simp[rsE,K]
  ·have D:st x=false:=by rw[k];simp[K]
   have e:wA st (x::t) ((P.length+run.length:Nat):Int) s=wA st t ((P.length+(run++ [x]).length:Nat):Int) (P.length:Int):=by
    have Z:((P.length+(run++ [x]).length:Nat):Int)=((P.length+run.length:Nat):Int)+1:=by simp;omega
    rw[Z];rcases Y with ⟨rfl,rfl⟩ | ⟨H,rfl⟩
    ·simp[wA,D]
    ·have:¬((P.length:Int)<0):=by omega
     simp only[wA,D,dS,dK,this,dF,dQ,cY,dP]
   have T:=yAO k O t (run++ [x]) P (P.length:Int) (by simp;omega) (.inr ⟨by simp,rfl⟩)
   rw[e,show P++run++x::t=P++(run++ [x])++t by simp,T];simp[rsE,K]
end
theorem yH4 {l:List bM} (h:CV l) (k:l.length<=2000) (x y:Int):vY x y l=some (sg (clE l x) (clE l y)):=by unfold vY;simp only[zKB h k,zA,yDF];unfold sg;rfl
theorem yPV {l:List bM} (h:CV l) (D:l.length<=2000) (K:∀x∈l,b9 x) {text:List Int} (O:text.length<=2000):zCF l text=some (csE (clE l) text):=by
 have H:∀x,0<=clE l x:=yNU h;unfold zCF zB6;have k:∀x,(jD l x==some 0)=decide (clE l x=0):=λx=>by rw[zKB h D];by_cases Y:clE l x=0<;>simp[Y]
 rw[zZU D K h,zA,yPC O,zA,z5J h D O k rfl,zA];have:=yAO (key:=clE l) (f:=λp=>k9 p (λx0 x1=>vY x0 x1 l)) (st:=λc=>jD l c==some 0) k (λp T=>by
  obtain⟨r,Z,r2,r3⟩:=yDM (key:=clE l) (f:=λx0 x1=>vY x0 x1 l) (λx y=>yH4 h D x y) p T;rw[Z];have:=zW0 (key:=clE l) r2 (zL6 (key:=clE l) p) (r3.symm.trans (zR6 p));rw[this];rfl) text [] [] (-1) (by simpa using O) (.inl ⟨rfl,rfl⟩)
 rw[z10 H];exact this
noncomputable def zDE (n:Norm) (b:Bool) (text:List Int):List Int:=csE (clE (usN n).aK) (zGW n b text)
theorem zL7 (n:Norm) (b:Bool) (text:List Int):(zDE n b text).length=(zGW n b text).length:=yL9 _
theorem yDP {n:Norm} (k:NSm n) (h:wO n) (b:Bool) (text:List Int):(zGW n b text).length<=64*text.length:=z5R ((zTF k h).len b) text
theorem z5U {n:Norm} (D:NSm n) (k:wO n) {text:List Int} {b:Bool} (K:text.length<=2000) (H:(zGW n b text).length<=2000):vP n text b=some (zDE n b text):=by
 have h:=zTF D k;rw[yL8 D k K,yPV h.cv (by have:=h.cl;omega) h.ok H]
 rfl
open Go.AV
noncomputable def wkE (c:Collation) (l:List bM):Nat->List Int->List aP×Bool
 | 0,_=>([],true)
 | k+1,text=>if text= [] then ([],true) else ((stE c l text).2.2++(wkE c l k (stE c l text).2.1).1,decide (zAP (kC c).aB text≠0)&&(wkE c l k (stE c l text).2.1).2)
theorem yH5 {c:Collation} {l:List bM} {text:List Int} (H:text≠[]):1<=(stE c l text).1/\(stE c l text).1+((stE c l text).2.1.length:Int)=(text.length:Int):=by have D:0<text.length:=eU.2 H;unfold stE;split;refine⟨by simp,?_⟩;show (1:Int)+((text.drop 1).length:Int)=_;rw[eH];omega;rename_i K;have k:zAP (kC c).aB text<=text.length:=zR4 _ _;have h:=zR5 (fd:=λq=>(zEB (kC c).aB q).2) (cl:=clE l) (text.drop (zAP (kC c).aB text)) (text.take (zAP (kC c).aB text)) [] 0;generalize zE0 (λq=>(zEB (kC c).aB q).2) (clE l) (text.drop (zAP (kC c).aB text)) (text.take (zAP (kC c).aB text)) [] 0=q at*;obtain⟨i1,i2,_⟩:=h;rw[dZ,gX k] at i1 i2;rw[eH] at i2;simp only[d7] at i2;constructor;show (1:Int)<=(q.1.length:Int);omega;show (q.1.length:Int)+(q.2.length:Int)=_;omega
theorem zZZ {c:Collation} {l:List bM} {text:List Int} (h:text≠[]):(stE c l text).2.1.length<text.length:=by have:=yH5 (c:=c) (l:=l) h;omega
theorem yH6 {c:Collation} (h:Sm c) {l:List bM} (text:List Int):(stE c l text).2.2.length<=2000:=by unfold stE;split;exact yLP _ _;exact yLO (z1Q h) _
theorem yAP {c:Collation} {l:List bM}:∀(k j:Nat) (text:List Int),text.length<=k->text.length<=j->wkE c l k text=wkE c l j text
 | 0,j,text,h,_=>by
  have:text= []:=cP (by omega);subst this;cases j with
  | zero=>rfl
  | succ j=>simp[wkE]
 | k+1,j,text,h,O=>by
  by_cases D:text= [];subst D;cases j<;>simp[wkE];have H:0<text.length:=eU.2 D;cases j with
  | zero=>omega
  | succ j=>
   have K:=zZZ (c:=c) (l:=l) D;simp only[wkE,D,cY];rw[yAP k j _ (by omega) (by omega)]
noncomputable def wk (c:Collation) (l:List bM) (text:List Int):List aP×Bool:=wkE c l text.length text
theorem zOO (c:Collation) (l:List bM):wk c l []=([],true):=rfl
theorem zU7 {c:Collation} {l:List bM} {text:List Int} (h:text≠[]):wk c l text=((stE c l text).2.2++(wk c l (stE c l text).2.1).1,decide (zAP (kC c).aB text≠0)&&(wk c l (stE c l text).2.1).2):=by
 have H:=zZZ (c:=c) (l:=l) h;unfold wk;obtain⟨k,D⟩:∃k,text.length=k+1:=⟨text.length-1,by have:=eU.2 h;omega⟩
 rw[D];simp only[wkE,h,cY];rw[yAP k (stE c l text).2.1.length _ (by omega) (by omega)]
theorem yPW {c:Collation} (K:Sm c) {l:List bM}:∀(k:Nat) (text:List Int),text.length<=k->(wk c l text).1.length<=2000*text.length:=by
 intro k
 induction k with
 | zero=>
  intro text h;have:text= []:=cP (by omega);subst this;rw[zOO];simp
 | succ k O=>
  intro text h;by_cases D:text= [];subst D;rw[zOO];simp;have H:=zZZ (c:=c) (l:=l) D;have T:=O _ (show (stE c l text).2.1.length<=k by omega);have Y:=yH6 K (l:=l) text;rw[zU7 D];show ((stE c l text).2.2++(wk c l (stE c l text).2.1).1).length<=_;rw[cX];omega
section
variable {c:Collation} (hs:Sm c) {l:List bM} (hcv:CV l) (hl:l.length<=2000)
include hs hcv hl
theorem yMB:∀(k:Nat) (text:List Int) (acc:List aP),text.length<=k->text.length<=2000->acc.length+2000*text.length<=100000000->zF (λ(x:(List aP)×(List Int))=>xW (zOM c l) x.1 x.2) (acc,text)=some (acc++(wk c l text).1):=by
 intro k
 induction k with
 | zero=>
  intro text acc h _ _;have:text= []:=cP (by omega);subst this;refine zL ?_;simp[xW,zOO]
 | succ k Z=>
  intro text acc h Y ha;by_cases D:text= [];subst D;refine zL ?_;simp[xW,zOO];have H:0<text.length:=eU.2 D;have T:=zZZ (c:=c) (l:=l) D;have h2:=yH6 hs (l:=l) text;obtain⟨ac,m1,m2⟩:=yH0 hs hcv hl Y D;have K:decide ((0:Int)<(text.length:Int))=true:=by simp;omega
  have O:app acc (stE c l text).2.2=some (acc++(stE c l text).2.2):=jY (by omega);rw[zM (x':=(acc++(stE c l text).2.2,(stE c l text).2.1)) (by simp only[xW,K,cO,m1,zA,O,m2])];rw[Z _ _ (by omega) (by omega) (by rw[cX];omega),zU7 D,c9]
end
theorem zW1 (n:Norm):wJ n=(usN n).aK:=by unfold wJ usN;split<;>rfl
section
variable {n:Norm} {c:Collation} (hn:NSm n) (hok:wO n) (hs:Sm c) (hg:∀g∈c.aF,g.bT.length<=MX) {text:List Int} (ht:text.length<=2000) (hf:(zGW n false text).length<=2000)
include hn hok hs hg ht hf
theorem zT5:kE n c text=some (wk c (wJ n) (zDE n false text)).1:=by
 unfold kE;have k:(wJ n).length<=2000:=by have:=zTE hn;omega
 have h:(zDE n false text).length<=2000:=by rw[zL7];exact hf
 rw[yLL hs hg,zA,yL6 hn hok,zA,z5U hn hok ht hf,zA,yMB hs (z5Q n) k _ _ [] (dC _) h (by simp;omega)]
 rfl
end
theorem yH7 {n:Norm} {c:Collation} (h:Sm c) {text:List Int} (k:(zDE n false text).length<=2000):(wk c (wJ n) (zDE n false text)).1.length<=1000000000:=by have:=yPW h (l:=wJ n) _ (zDE n false text) (dC _);omega
open Go.AV
section
variable {key:Int->Int}
theorem z5V (l:List Int):srt key (srt key l)=srt key l:=
 zW0 (key:=key) (zL6 (key:=key) (srt key l)) (zL6 (key:=key) l) (zR6 (srt key l)).symm
theorem z8R:∀(q run u:List Int),(∀x∈q,key x≠0)->rsE key (q++u) run=rsE key u (run++q)
 | [],run,u,_=>by simp
 | x::q,run,u,h=>by
  have k:=h x (by simp);show (if key x=0 then srt key run++x::rsE key (q++u) [] else rsE key (q++u) (run++ [x]))=_;rw[dN k,z8R q _ u λy D=>h y (by simp[D])];simp
theorem z11:∀(t run:List Int),(∀x∈run,key x≠0)->rsE key (rsE key t run) []=rsE key t run
 | [],run,h=>by
  show rsE key (srt key run) []=srt key run;have:=z8R (key:=key) (srt key run) [] [] λx D=>h x ((zR6 run).mem.2 D);rw[et,dO] at this;rw[this];exact z5V run
 | x::t,run,h=>by
  by_cases k:key x=0;have e:rsE key (x::t) run=srt key run++x::rsE key t []:=by simp[rsE,k]
  rw[e,z8R (key:=key) (srt key run) [] _ λx D=>h x ((zR6 run).mem.2 D),dO];show (if key x=0 then srt key (srt key run)++x::rsE key (rsE key t []) [] else _)=_;rw[dG k,z5V,z11 t [] λy hy=>by cases hy];have e:rsE key (x::t) run=rsE key t (run++ [x]):=by simp[rsE,k]
  rw[e];refine z11 t (run++ [x]) λy hy=>?_;rcases eK.1 hy with hy | hy
  exact h y hy;simp only[gx] at hy;rw[hy];exact k
theorem yH8 (h:∀x,0<=key x) (t:List Int):csE key (csE key t)=csE key t:=by rw[z10 h t,z10 h,z11 t [] λy k=>by cases k]
end
theorem yAQ {l:List aI} (K:DS l) {b:Bool} {c:Int} (O:fnB l b c=none):∀e∈hdE c,fnB l b e=none/\hdE e= [e]:=by
 intro e h;have k:∀{z:Int},syl z=false->hdE z= [z]:=λ{z} T=>by unfold hdE;rw[dN (by simp[T])]
 cases H:syl c with
 | true=>
  obtain⟨Y,Z⟩:=zR0 H h;refine⟨zGQ ?_,k Y⟩;cases D:l.find? (isF e) with
  | none=>rfl
  | some m=>obtain⟨q1,rfl⟩:=zGP D;exact absurd (K.hk m q1) Z
 | false=>
  rw[k H] at h;simp only[gx] at h;subst h;exact⟨O,k H⟩
theorem yAR {l:List aI} (K:DS l) {b:Bool}:∀(k:Nat) (c:Int),DD l k c->∀e∈exF l b k c,fnB l b e=none/\hdE e= [e]
 | 0,c,h,e,D=>yAQ K (zGQ h) e D
 | k+1,c,h,e,D=>by
  replace D:e∈(match fnB l b c with | some O=>O.flatMap (exF l b k) | none=>hdE c):=D;cases H:fnB l b c with
  | none=>rw[H] at D;exact yAQ K H e D
  | some O=>
   rw[H] at D;obtain⟨m,T,rfl,_⟩:=zKD H;obtain⟨z,Y,D⟩:=iD.1 D;exact yAR K k z (h m T z Y) e D
theorem GN.leaf {n:Norm} (h:GN n) {b:Bool} {c e:Int} (H:e∈fu n.aA b c):fu n.aA b e= [e]:=by obtain⟨k,D⟩:=yAR h.ds (b:=b) _ c (h.dd c) e H;rw[zR3 h.dd,k,D]
theorem z12 {f:Int->List Int}:∀{L:List Int},(∀e∈L,f e= [e])->L.flatMap f=L
 | [],_=>rfl
 | x::L,h=>by rw[d5,h x (by simp),z12 λe k=>h e (by simp[k])];rfl
theorem zZ0 {n:Norm} (H:NSm n) (k:wO n) (b:Bool) (text:List Int):zGW n b (zDE n b text)=zDE n b text:=by refine z12 λe D=>?_;have h:e∈zGW n b text:=(z5S _).mem_iff.1 D;obtain⟨z,_,K⟩:=iD.1 h;exact(zTF H k).leaf K
theorem yDQ {n:Norm} (D:NSm n) (k:wO n) (b:Bool) (text:List Int):zDE n b (zDE n b text)=zDE n b text:=by have h:=zZ0 D k b text;show csE _ (zGW n b (zDE n b text))=_;rw[h];exact yH8 (yNU (zTF D k).cv) _
open Go.AV
open Go.AV
theorem yR6 (D:List bM) (K:Nat) (hv:K<D.length) (H:List Range) (Z:H= [{Lo:=4352,Hi:=4370},{Lo:=4449,Hi:=4469},{Lo:=4520,Hi:=4546},{Lo:=44032,Hi:=55203}]):
  (zF (λ(x:Int)=>u6 H D (K:Int) x) 0=some (.inl ())/\hgOk (nth D K))\/(zF (λ(x:Int)=>u6 H D (K:Int) x) 0=some (.inr 11)/\¬hgOk (nth D K)):=by
 have h:=kJ (body:=λ(x:Int)=>u6 H D (K:Int) x) H.length (λk=> ¬((nth D K).Lo<=(nth H k).Hi/\(nth H k).Lo<=(nth D K).Hi)) (λy=>y=11) (λk T=>by
  have hl:H.length=4:=by rw[Z];rfl
  simp only[u6,yS T,cO,zX hv,zX T,zA,zK,zJ (k:=k) (by omega)];by_cases O:(nth D K).Lo<=(nth H k).Hi
  ·simp only[O,dA,xB,zA,dK,true_and]
   exact w6 (by simp) rfl
  ·simp only[O,dF,vB,zA,dP,cN,false_and]
   exact .inl ⟨by simp,trivial⟩) (λk T=>by simp only[u6,kH T,cN])
 have e:(∀j,j<H.length->¬((nth D K).Lo<=(nth H j).Hi/\(nth H j).Lo<=(nth D K).Hi))↔hgOk (nth D K):=by
  subst Z;unfold hgOk;constructor
  ·intro h;exact⟨h 0 (by decide),h 1 (by decide),h 2 (by decide),h 3 (by decide)⟩
  ·rintro⟨h0,O,h2,h3⟩ j hj
   have Y:j<4:=hj
   match j,Y with
   | 0,_=>exact h0
   | 1,_=>exact O
   | 2,_=>exact h2
   | 3,_=>exact h3
 rw[e] at h;rcases h with h | ⟨y,rfl,h⟩
 ·exact .inl h
 ·exact .inr h
theorem yH9 {l:List bM} (hl:l.length<=2000):Ver (zFU l) (CV l):=by
 have Y:=kJ (body:=λ(x:Int)=>zC0 l x) l.length (λk=>spOk (nth l k)) (λy=>y≠0) (λk D=>by
  simp only[zC0,yS D,cO,zX D,zA,zK,zFY,zJ (k:=k) (by omega),spOk,vld];generalize nth l k=q;by_cases K:0<=q.Lo<;>by_cases O:q.Lo<=1114111<;>by_cases h3:0<=q.Hi<;>by_cases h4:q.Hi<=1114111<;>by_cases h5:q.Hi<q.Lo<;>by_cases h6:q.Value<1<;>by_cases h7:254<q.Value<;>simp[K,O,h3,h4,h5,h6,h7,xB,vB,zA]<;>omega) (λk D=>by simp only[zC0,kH D,cN])
 unfold zFU Ver;rcases Y with ⟨Y,T⟩ | ⟨y,Z,Y,T⟩
 rw[Y];simp only[zA,eJ];have K:=zO6 (body:=λ(x:Int)=>zC1 l x) l.length (λk=>adOk (nth l k) (nth l (k+1))) (λy=>y≠0) (λk D=>by
  have H:k<l.length:=by omega
  have w:=(T k H).2.1;have w0:=(T k H).1;have w1:=(T k H).2.2.1;simp only[zC1,yS D,cO,zX D,zA,zK,zJ (k:=k+1) (by omega),zD8 (k:=k) (by omega),zX H];by_cases a1:(nth l (k+1)).Lo<=(nth l k).Hi;simp only[a1,dA,dD,vB,zA,dP,ic,cO];exact .inr ⟨by unfold adOk;omega,4,by decide,rfl⟩
  simp only[a1,dF,dS,xB,zA,dK,eY];rw[xN (n:=(nth l k).Hi+1) (by omega) (by omega)];by_cases a2:(nth l (k+1)).Lo=(nth l k).Hi+1;simp only[a2,dA,xB,zA,dK];exact w6 (by unfold adOk;simp only[cZ];omega) (by decide)
  simp only[a2,dF,vB,zA,dP,cN];exact .inl ⟨by unfold adOk;omega,trivial⟩) (λk D=>by simp only[zC1,kH D,cN])
 rcases K with ⟨K,p1⟩ | ⟨y,Z,K,p1⟩;rw[K];simp only[zA,eJ,zI4];have O:=kJ (body:=λ(x:Int)=>zC2 l [{Lo:=4352,Hi:=4370},{Lo:=4449,Hi:=4469},{Lo:=4520,Hi:=4546},{Lo:=44032,Hi:=55203}] x) l.length (λk=>hgOk (nth l k)) (λy=>y≠0) (λk D=>by
  simp only[zC2,yS D,cO,zJ (k:=k) (by omega)];rcases yR6 l k D _ rfl with ⟨h,p⟩ | ⟨h,p⟩
  rw[h];exact .inl ⟨p,rfl⟩;rw[h];exact .inr ⟨p,11,by decide,rfl⟩) (λk D=>by simp only[zC2,kH D,cN])
 rcases O with ⟨O,p2⟩ | ⟨y,Z,O,p2⟩;rw[O];exact⟨0,rfl,by simp only[true_iff];exact⟨T,p1,p2⟩⟩
 rw[O];exact⟨y,rfl,by simp only[Z,eW];exact λh=>p2 h.hg⟩
 rw[K];exact⟨y,rfl,by simp only[Z,eW];exact λh=>p1 h.ad⟩
 rw[Y];exact⟨y,rfl,by simp only[Z,eW];exact λh=>T h.sp⟩
theorem zKE {l:List bM} (Z:l.length<=2000) (h:CV l) (c:Int):zB7 l c=some (clE l c):=by
 obtain⟨e,T,hp⟩:=yH9 Z;unfold zB7;rw[T,zA,hp.2 h];simp only[dA,dD,cN];have hb:∀k,k<l.length->vR l c (k:Int)=if zUU c (nth l k) then some (.done (.inr (nth l k).Value)) else some (.next ((k+1:Nat):Int)):=λk D=>by
  simp only[vR,yS D,cO,zX D,zA,zK,zJ (k:=k) (by omega),zUU];by_cases H:(nth l k).Lo<=c
  · by_cases O:c<=(nth l k).Hi<;>simp[H,O,xB]
  · simp[H,vB]
 have key:∀(d k:Nat),l.length-k=d->k<=l.length->(∀j,j<k->zUU c (nth l j)=false)->(zF (λ(x:Int)=>vR l c x) (k:Int)).bind (λy=>y.elim (λ_=>some 0) λy=>some y)=some (clE l c):=by
  intro d
  induction d with
  | zero=>
   intro k H O K;have:k=l.length:=by omega
   subst this;rw[zL (y:= .inl ()) (by simp only[vR,kH (dC _),cN])];unfold clE;rw[z1V K];rfl
  | succ d ih=>
   intro k H O K;have D:k<l.length:=by omega
   cases hi:zUU c (nth l k) with
   | true=>
    rw[zL (y:= .inr (nth l k).Value) (by show vR l c (k:Int)=_;rw[hb k D,hi];rfl)]
    unfold clE;rw[zR1 D K hi];rfl
   | false=>
    rw[zM (x':=((k+1:Nat):Int)) (by show vR l c (k:Int)=_;rw[hb k D,hi];rfl)]
    refine ih (k+1) (by omega) (by omega) λj Y=>?_;by_cases e:j=k
    · subst e;exact hi
    · exact K j (by omega)
 exact key l.length 0 (by omega) (by omega) (λj Y=>by omega)
theorem zQO {l:List bM} (k:l.length<=2000) (h:CV l) (c:Int):zFC l c=some (decide (clE l c=0)):=by unfold zFC;rw[zKE k h];rfl
open Go.AV
theorem yPX {a b c:aI} (k:mlt a b) (h:mlt b c):mlt a c:=by
 unfold mlt at*;rcases k with k | ⟨k,H⟩
 rcases h with h | ⟨h,D⟩;exact .inl (by omega);exact .inl (by omega);rcases h with h | ⟨h,D⟩;exact .inl (by omega);exact .inr ⟨by omega,List.lt_trans H D⟩
theorem yMC {a b:aI} (h:mlt a b):¬(a.aW=b.aW/\a.bO=b.bO):=by
 rintro⟨D,k⟩
 unfold mlt at h;rcases h with h | ⟨_,h⟩
 omega;rw[k] at h;exact List.lt_irrefl _ h
theorem yAS {l:List aI} (h:∀k,k+1<l.length->mlt (nth l k) (nth l (k+1))):∀(d i:Nat),i+d+1<l.length->mlt (nth l i) (nth l (i+d+1))
 | 0,i,hi=>h i hi
 | d+1,i,hi=>by
  have D:=yAS h d i (by omega);have H:=h (i+d+1) (by omega);have:i+(d+1)+1=i+d+1+1:=by omega
  rw[this];exact yPX D H
theorem yR7 (x y:Str):(x==y)=decide (x=y):=by rw[g7];simp
section
variable {l:List aI} (hl:l.length<=2000) (hto:∀m∈l,m.To.length<=2000) (htg:∀m∈l,m.bO.length<=MX)
include hl hto htg
omit hl hto htg in
theorem yIA {m:aI} (H:m.To.length<=2000):∃b,zH1 m=some b/\(b=true↔codesOk m):=by
 unfold zH1;have h:=kJ (body:=λ(x:Int)=>zC3 m x) m.To.length (λj=>vld (nth m.To j)=true) (λy=>y=false) (λj D=>by
  simp only[zC3,yS D,cO,zX D,zA,zFY,zJ (k:=j) (by omega)];exact w6 (by simp) rfl) (λj D=>by simp only[zC3,kH D,cN])
 rw[zAW (p:=λc=>vld c=true)] at h;rcases h with ⟨h,p⟩ | ⟨y,rfl,h,p⟩
 rw[h];simp only[zA,eJ,zFY];exact⟨_,rfl,⟨λa=>⟨a,p⟩,λa=>a.1⟩⟩;rw[h];exact⟨false,rfl,by simp only[dQ,eW];exact λa=>p a.2⟩
omit hto htg in
theorem yIB:∃b,zH2 l=some b/\(b=true->¬∀k,k+1<l.length->mlt (nth l k) (nth l (k+1)))/\(b=false->True):=by
 unfold zH2;have inner:∀i,i<l.length->(zF (λ(x:Int)=>u7 (i:Int) l x) 0=some (.inl ())/\∀j,j<i->¬((nth l i).aW=(nth l j).aW/\(nth l i).bO=(nth l j).bO))\/(∃y,y=true/\zF (λ(x:Int)=>u7 (i:Int) l x) 0=some (.inr y)/\¬∀j,j<i->¬((nth l i).aW=(nth l j).aW/\(nth l i).bO=(nth l j).bO)):=by
  intro i hi;refine kJ (body:=λ(x:Int)=>u7 (i:Int) l x) i _ (λy=>y=true) (λj D=>?_) (λj D=>by simp only[u7,kH D,cN]);have H:j<l.length:=by omega
  simp only[u7,yS D,cO,zX hi,zX H,zA,zK,zJ (k:=j) (by omega),yR7];by_cases a:(nth l i).aW=(nth l j).aW;simp only[a,dA,xB,zA,dK,true_and];exact w6 (by simp) rfl;simp only[a,dF,vB,zA,dP,cN,false_and];exact .inl ⟨by simp,trivial⟩
 have h:=kJ (body:=λ(x:Int)=>zC4 l x) l.length (λi=> ∀j,j<i->¬((nth l i).aW=(nth l j).aW/\(nth l i).bO=(nth l j).bO)) (λy=>y=true) (λk K=>by
  simp only[zC4,yS K,cO,zJ (k:=k) (by omega)];rcases inner k K with ⟨h,p⟩ | ⟨y,T,h,p⟩
  rw[h];exact .inl ⟨p,rfl⟩;rw[h];exact .inr ⟨p,y,T,rfl⟩) (λj D=>by simp only[zC4,kH D,cN])
 rcases h with ⟨h,p⟩ | ⟨y,rfl,h,p⟩;rw[h];exact⟨false,rfl,λh=>(by cases h),λ_=>trivial⟩;rw[h];refine⟨true,rfl,λ_ O=>p λi hi j D=>?_,λ_=>trivial⟩;have:=yAS O (i-j-1) j (by omega);rw[show j+(i-j-1)+1=i by omega] at this;have:=yMC this;exact λ⟨a,b⟩=>this ⟨a.symm,b.symm⟩
theorem yPY:∃e,zEI l=some e/\(e=0->(∀m∈l,codesOk m)/\(∀m∈l,m.To.length<=64)/\∀m∈l,tagOk m)/\(e≠0->¬MV l):=by
 unfold zEI;have H:=kJ (body:=λ(x:Int)=>zAI l x) l.length (λk=>codesOk (nth l k)) (λy=>y≠0) (λk D=>by
  obtain⟨b,hb,Y⟩:=yIA (hto _ (vT D));simp only[zAI,yS D,cO,zX D,zA,hb,zJ (k:=k) (by omega)];exact w6 (by rw[<-Y];simp) (by decide)) (λk D=>by simp only[zAI,kH D,cN])
 rw[zAW (p:=codesOk)] at H;rcases H with ⟨H,Z⟩ | ⟨y,T,H,Z⟩
 case inr=>rw[H];exact⟨y,rfl,λh=>absurd h T,λ_ h=>Z h.co⟩
 rw[H];simp only[zA,eJ];have K:=kJ (body:=λ(x:Int)=>zAJ l x) l.length (λk=>(nth l k).To.length<=64) (λy=>y≠0) (λk D=>by
  simp only[zAJ,yS D,cO,zX D,zA,zJ (k:=k) (by omega)];exact w6 (by simp only[cZ];omega) (by decide)) (λk D=>by simp only[zAJ,kH D,cN])
 rw[zAW (p:=λ(m:aI)=>m.To.length<=64)] at K;rcases K with ⟨K,p1⟩ | ⟨y,T,K,p1⟩
 case inr=>rw[K];exact⟨y,rfl,λh=>absurd h T,λ_ h=>p1 h.sz⟩
 rw[K];simp only[zA,eJ];have O:=kJ (body:=λ(x:Int)=>zAK l x) l.length (λk=>tagOk (nth l k)) (λy=>y≠0) (λk D=>by
  simp only[zAK,yS D,cO,zX D,zA,zK,zJ (k:=k) (by omega),tagOk,yR7];by_cases ht:(nth l k).bO= []
  ·
   simp only[ht,dA,dD,vB,zA,dP,cN];exact .inl ⟨.inl trivial,trivial⟩
  ·
   simp only[ht,dF,dS,xB,zA,z94 (htg _ (vT D)),dK,false_or];exact w6 (by simp) (by decide)) (λk D=>by simp only[zAK,kH D,cN])
 rw[zAW (p:=tagOk)] at O;rcases O with ⟨O,p2⟩ | ⟨y,T,O,p2⟩
 case inr=>rw[O];exact⟨y,rfl,λh=>absurd h T,λ_ h=>p2 h.tg⟩
 rw[O];simp only[zA,eJ];obtain⟨b,hb,Y,_⟩:=yIB hl;rw[hb,zA];cases b with
 | true=>exact⟨5,rfl,λh=>absurd h (by decide),λ_ h=>Y rfl h.lt⟩
 | false=>exact⟨0,rfl,λ_=>⟨Z,p1,p2⟩,λh=>absurd rfl h⟩
theorem yPZ:Ver (zH3 l) (MV l):=by
 obtain⟨e,he,Y,Z⟩:=yPY hl hto htg;unfold zH3;rw[he,zA];by_cases H:e=0
 case neg=>
  have:(!decide (e=0))=true:=by simp[H]
  rw[this,cO];exact⟨e,rfl,by simp only[H,eW];exact Z H⟩
 obtain⟨p0,p1,p2⟩:=Y H;rw[H];simp only[dA,dD,cN];have D:=zO6 (body:=λ(x:Int)=>zC5 l x) l.length (λk=>mlt (nth l k) (nth l (k+1))) (λy=>y≠0) (λk K=>by
  have O:k<l.length:=by omega
  simp only[zC5,yS K,cO,zX K,zA,zJ (k:=k+1) (by omega),zD8 (k:=k) (by omega),zX O,zI5,zK,yHE];exact w6 (by unfold mlt;simp only[fS,fB,eE,dB,not_or,Classical.not_and_iff_not_or_not]) (by decide)) (λk K=>by simp only[zC5,kH K,cN])
 rcases D with ⟨D,T⟩ | ⟨y,hy,D,T⟩
 · rw[D];exact⟨0,rfl,by simp only[true_iff];exact⟨p0,p1,p2,T⟩⟩
 · rw[D];exact⟨y,rfl,by simp only[hy,eW];exact λh=>T h.lt⟩
end
open Go.AV
section
variable {β:Type} [Inhabited β] (upd:List β->Nat->β)
def zR7:Nat->Nat->List β->List β
 | 0,_,h=>h
 | d+1,i,h=>zR7 d (i+1) (h.set i (upd h i))
def zKF (n:Nat):Nat->List β->List β
 | 0,h=>h
 | k+1,h=>zKF n k (zR7 upd n 0 h)
end
section
variable {β:Type} [Inhabited β] {upd:List β->Nat->β} {n:Nat} {Inv:List β->Prop}
theorem zU8 {k:List β} {i j:Nat} {x: β} (hi:i<k.length):nth (k.set i x) j=if j=i then x else nth k j:=by unfold nth;rw[fI,fI,iy];by_cases h:i=j;subst h;simp[hi];rw[dN h,dN (λe=>h e.symm)]
theorem yMD {h:List β} {i:Nat} (hi:i<h.length):h.set i (nth h i)=h:=by rw[zBQ hi];simp
omit [Inhabited β] in
theorem zU9:∀(d i:Nat) (h:List β),(zR7 upd d i h).length=h.length
 | 0,_,_=>rfl
 | d+1,i,h=>by rw[zR7,zU9 d];simp
omit [Inhabited β] in
theorem zVA (hi:∀i k,i<n->k.length=n->Inv k->Inv (k.set i (upd k i))):∀(d i:Nat) (k:List β),i+d=n->k.length=n->Inv k->Inv (zR7 upd d i k)
 | 0,_,_,_,_,h=>h
 | d+1,i,k,H,D,h=>by
  rw[zR7];exact zVA hi d (i+1) _ (by omega) (by simp[D]) (hi i k (by omega) D h)
omit [Inhabited β] in
theorem z13 (hi:∀i D,i<n->D.length=n->Inv D->Inv (D.set i (upd D i))):∀(k:Nat) (D:List β),D.length=n->Inv D->Inv (zKF upd n k D)/\(zKF upd n k D).length=n
 | 0,_,H,h=>⟨h,H⟩
 | k+1,D,H,h=>by
  rw[zKF];exact z13 hi k _ (by rw[zU9,H]) (zVA hi n 0 D (by omega) H h)
theorem yIC {R R':Nat->Prop} {t:Nat->β} (Z:∀j,R j->R' j) (hi:∀i k,i<n->k.length=n->Inv k->Inv (k.set i (upd k i)))
  (hs:∀k i,i<n->k.length=n->Inv k->(∀j,j<n->R j->nth k j=t j)->R' i->upd k i=t i):
  ∀(d i:Nat) (k:List β),i+d=n->k.length=n->Inv k->(∀j,j<n->R j->nth k j=t j)->(∀j,j<i->R' j->nth k j=t j)->∀j,j<n->R' j->nth (zR7 upd d i k) j=t j
 | 0,i,k,hd,O,h,T,Y,j,K,D=>Y j (by omega) D
 | d+1,i,k,hd,O,h,T,Y,j,K,D=>by
  have H:i<n:=by omega
  have hu:R' i->upd k i=t i:=hs k i H O h T;rw[zR7];refine yIC Z hi hs d (i+1) _ (by omega) (by simp[O]) (hi i k H O h) (λj K D=>?_) (λj K D=>?_) j K D
  ·rw[zU8 (by omega)]
   split
   ·rename_i e;subst e;exact hu (Z _ D)
   ·exact T j K D
  ·rw[zU8 (by omega)]
   split
   ·rename_i e;subst e;exact hu D
   ·exact Y j (by omega) D
theorem z14 {R:Nat->Nat->Prop} {t:Nat->β} (T:∀r j,R r j->R (r+1) j) (hi:∀i D,i<n->D.length=n->Inv D->Inv (D.set i (upd D i)))
  (Y:∀r D i,i<n->D.length=n->Inv D->(∀j,j<n->R r j->nth D j=t j)->R (r+1) i->upd D i=t i):
  ∀(k r:Nat) (D:List β),D.length=n->Inv D->(∀j,j<n->R r j->nth D j=t j)->∀j,j<n->R (r+k) j->nth (zKF upd n k D) j=t j
 | 0,_,_,_,_,h,j,H,O=>h j H O
 | k+1,r,D,K,h,Z,j,H,O=>by
  rw[zKF];have:=yIC (R:=R r) (R':=R (r+1)) (T r) hi (Y r) n 0 D (by omega) K h Z (λj H=>by omega);refine z14 T hi Y k (r+1) _ (by rw[zU9,K]) (zVA hi n 0 D (by omega) K h) this j H ?_;rw[show r+1+k=r+(k+1) by omega];exact O
omit [Inhabited β] in
theorem zR8 {X Y:Type} (mk:Nat->List β->X) {body:X->Option (Stp X Y)} (D:List β->Y)
  (hb:∀i k,i<n->k.length=n->Inv k->body (mk i k)=some (.next (mk (i+1) (k.set i (upd k i)))))
  (hi:∀i k,i<n->k.length=n->Inv k->Inv (k.set i (upd k i)))
  (K:∀k,body (mk n k)=some (.done (D k))):∀(d i:Nat) (k:List β),i+d=n->k.length=n->Inv k->zF body (mk i k)=some (D (zR7 upd d i k))
 | 0,i,k,O,H,h=>by
  have:i=n:=by omega
  subst this;exact zL (K k)
 | d+1,i,k,O,H,h=>by
  rw[zM (hb i k (by omega) H h),zR7];exact zR8 mk D hb hi K d (i+1) _ (by omega) (by simp[H]) (hi i k (by omega) H h)
omit [Inhabited β] in
theorem zR9 {X Y:Type} (mk:Nat->List β->X) {body:X->Option (Stp X Y)} (H:List β->Y) {N:Nat}
  (hb:∀r D,r<N->D.length=n->Inv D->body (mk r D)=some (.next (mk (r+1) (zR7 upd n 0 D))))
  (hi:∀i D,i<n->D.length=n->Inv D->Inv (D.set i (upd D i)))
  (O:∀D,body (mk N D)=some (.done (H D))):∀(k r:Nat) (D:List β),r+k=N->D.length=n->Inv D->zF body (mk r D)=some (H (zKF upd n k D))
 | 0,r,D,T,K,h=>by
  have:r=N:=by omega
  subst this;exact zL (O D)
 | k+1,r,D,T,K,h=>by
  rw[zM (hb r D (by omega) K h),zKF];exact zR9 mk H hb hi O k (r+1) _ (by omega) (by rw[zU9,K]) (zVA hi n 0 D (by omega) K h)
end
theorem z5W {A Y:Type} {p:Nat->A->Option Y}:∀{l:List A} {k:Nat} {y:Y},chk p l k=some y->∃j,∃h:j<l.length,p (k+j) l[j]=some y
 | [],_,_,h=>by cases h
 | x::l,k,y,h=>by
  unfold chk at h;cases D:p k x with
  | some z=>
   rw[D] at h;exact⟨0,by simp,by simpa[D] using h⟩
  | none=>
   rw[D] at h;obtain⟨j,H,e⟩:=z5W h;exact⟨j+1,by simpa using H,by rw[show k+(j+1)=k+1+j by omega];simpa using e⟩
theorem zZ1 {A Y:Type} {p:Nat->A->Option Y}:∀{l:List A} {k j:Nat} (h:j<l.length),p (k+j) l[j]≠none->∃i,∃hi:i<l.length,i<=j/\chk p l k=p (k+i) l[i]
 | [],_,_,h,_=>by cases h
 | x::l,k,j,h,D=>by
  unfold chk;cases H:p k x with
  | some z=>exact⟨0,by simp,gD _,by simp[H]⟩
  | none=>
   cases j with
   | zero=>exact absurd (by simpa using H) D
   | succ j=>
    obtain⟨i,hi,K,e⟩:=zZ1 (p:=p) (l:=l) (k:=k+1) (j:=j) (by simpa using h) (by rw[show k+1+j=k+(j+1) by omega];simpa using D)
    exact⟨i+1,by simpa using hi,by omega,by rw[show k+(i+1)=k+1+i by omega];simpa using e⟩
def pM (c:Int) (b:Bool) (k:Nat) (m:aI):Option Nat:=if m.aW=c/\(b ||(m.bO== []))=true then some k else none
def fi (l:List aI) (c:Int) (b:Bool):Option Nat:=chk (pM c b) l 0
theorem zK9 {l:List aI} {c:Int} {b:Bool} {i:Nat} (h:fi l c b=some i):i<l.length/\(nth l i).aW=c/\(b ||((nth l i).bO== []))=true:=by
 obtain⟨j,k,e⟩:=z5W h;unfold pM at e;split at e;rename_i D;injection e with e;have:i=j:=by omega
 subst this;rw[zBQ k];exact⟨k,D⟩;cases e
theorem yAT {l:List aI} {c:Int} {b:Bool} (h:fi l c b=none):∀m∈l,¬(m.aW=c/\(b ||(m.bO== []))=true):=by intro m D H;obtain⟨j,k,rfl⟩:=fc D;have:=zOK h j k;unfold pM at this;rw[dG H] at this;cases this
theorem zZ2 {l:List aI} (T:DS l) (c:Int) (b:Bool):(∃i,fi l c b=some i/\i<l.length/\(nth l i).aW=c/\fnB l b c=some (nth l i).To)\/(fi l c b=none/\fnB l b c=none):=by
 cases H:fi l c b with
 | some i=>
  obtain⟨h,D,k⟩:=zK9 H;refine .inl ⟨i,rfl,h,D,?_⟩;have:=zEZ T (vT h);rw[D] at this;unfold fnB;rw[this];simp only[k,dH]
 | none=>
  refine .inr ⟨rfl,?_⟩;cases Y:fnB l b c with
  | none=>rfl
  | some Z=>
   obtain⟨m,h,_,k⟩:=zKD Y;obtain⟨K,O⟩:=zGP h;exact absurd ⟨O,k⟩ (yAT H m K)
def fiI (l:List aI) (c:Int) (b:Bool):Int:=match fi l c b with
 | some i=>(i:Int)
 | none=> -1
open Go.AV
section
variable {l:List aI} (hd:DS l)
def zQP (l:List aI) (h:List Bool) (i:Nat):Bool:=(nth l i).To.all λe=>match fi l e true with
 | some m=>nth h m
 | none=>true
def yDR (l:List aI) (h:List Bool):Prop:= ∀j,j<l.length->nth h j=true->WW l (nth l j).aW
include hd
theorem yMF {D:List Bool} (h:yDR l D) {i:Nat} (hi:i<l.length) (Z:zQP l D i=true):WW l (nth l i).aW:=by
 refine z5L λe K=>?_;rw[z5K hd (vT hi)] at K;have:=eC.1 Z e K;rcases zZ2 hd e true with ⟨m,H,k,T,_⟩ | ⟨H,k⟩
 rw[H] at this;have:=h m k this;rw[T] at this;exact this;cases O:syl e with
 | true=>exact yPI hd O
 | false=>
  refine z1X ?_;unfold dep;rw[dN (by simp[O])];rw[zWY] at k;cases Y:l.find? (isF e) with
  | none=>rfl
  | some m=>rw[Y] at k;cases k
theorem zZ3 (i:Nat) (k:List Bool) (hi:i<l.length) (K:k.length=l.length) (h:yDR l k):yDR l (k.set i (zQP l k i)):=by intro j H D;rw[zU8 (by omega)] at D;split at D;rename_i e;subst e;exact yMF hd h hi D;exact h j H D
theorem yMG (r:Nat) (h:List Bool) (i:Nat) (hi:i<l.length) (_hl:h.length=l.length) (K:∀j,j<l.length->DD l r (nth l j).aW->nth h j=true) (T:DD l (r+1) (nth l i).aW):zQP l h i=true:=by
 refine eC.2 λe O=>?_;have:=T (nth l i) (zEZ hd (vT hi)) e O;rcases zZ2 hd e true with ⟨m,k,D,H,_⟩ | ⟨k,_⟩
 rw[k];exact K m D (by rw[H];exact this)
 rw[k]
theorem yID:(∀j,j<l.length->nth (zKF (zQP l) l.length l.length (List.replicate l.length false)) j=true)↔∀m∈l,WW l m.aW:=by
 have T:yDR l (List.replicate l.length false):=by
  intro j D Z;rw[zBQ (by simpa using D)] at Z;simp at Z
 constructor;intro h;have hv:=(z13 (upd:=zQP l) (n:=l.length) (Inv:=yDR l) (zZ3 hd) l.length _ (by simp) T).1;rw[<-zAW (p:=λm:aI=>WW l m.aW)];exact λk Y=>hv k Y (h k Y);intro H j D;have hp:=yHQ hd H;refine z14 (upd:=zQP l) (n:=l.length) (Inv:=yDR l) (R:=λr j=>j<l.length/\DD l r (nth l j).aW) (t:=λ_=>true) (λr j h=>⟨h.1,zMX h.2⟩) (zZ3 hd) (λr O i hi hl _ h1 K=>yMG hd r O i hi hl (λj D K=>h1 j D ⟨D,K⟩) K.2) l.length 0 _ (by simp) T (λj D K=>?_) j D ⟨D,by rw[em];exact hp _ (vT D)⟩
 have:l.find? (isF (nth l j).aW)=none:=K.2;rw[zEZ hd (vT D)] at this;cases this
end
section
variable {l:List aI} (hd:DS l) (hD:∀c,DD l l.length c) {b:Bool}
def lenOf (l:List aI) (b:Bool) (h:List Int) (e:Int):Int:=match fi l e b with
 | some m=>nth h m
 | none=>((hdE e).length:Int)
def updL (l:List aI) (b:Bool) (h:List Int) (i:Nat):Int:=if (b ||((nth l i).bO== []))=true then min (max (((nth l i).To.map (lenOf l b h)).sum) 1) 65 else 1
def z15 (h:List Int):Prop:= ∀x∈h,0<=x/\x<=65
theorem yMH (h:List Int) (i:Nat):0<=updL l b h i/\updL l b h i<=65:=by unfold updL;split<;>omega
theorem zTG (i:Nat) (k:List Int) (_hi:i<l.length) (_hl:k.length=l.length) (h:z15 k):z15 (k.set i (updL l b k i)):=by
 intro x D;rcases gu D with D | rfl
 exact h x D;exact yMH k i
include hd hD
theorem yMI {i:Nat} (hi:i<l.length):wt l b (nth l i).aW=if (b ||((nth l i).bO== []))=true then min (max (((nth l i).To.map (wt l b)).sum) 1) 65 else 1:=by
 rw[zZW hD];unfold fnB;rw[zEZ hd (vT hi)];by_cases h:(b ||((nth l i).bO== []))=true;simp only[h,dH];have D:=zWW hd (vT hi);have k:hdE (nth l i).aW= [(nth l i).aW]:=by unfold hdE;rw[dN (by simp[D])]
 rw[dN h];simp only[k];rw[dN h];rfl
omit hD in
theorem yIE {k:List Int} {e:Int} (K:fnB l b e=none->wt l b e=((hdE e).length:Int)) (h:∀m,m<l.length->(nth l m).aW=e->nth k m=wt l b e):lenOf l b k e=wt l b e:=by
 unfold lenOf;rcases zZ2 hd e b with ⟨m,D,H,O,_⟩ | ⟨D,H⟩
 rw[D];exact h m H O;rw[D,K H]
theorem yMJ (r:Nat) (h:List Int) (i:Nat) (hi:i<l.length) (H:∀j,j<l.length->DD l r (nth l j).aW->nth h j=wt l b (nth l j).aW) (Y:DD l (r+1) (nth l i).aW):updL l b h i=wt l b (nth l i).aW:=by
 rw[yMI hd hD hi];unfold updL;split
 ·have:(nth l i).To.map (lenOf l b h)=(nth l i).To.map (wt l b):=gt λe K=>by
   have k:=Y (nth l i) (zEZ hd (vT hi)) e K;exact yIE hd (λT=>by rw[zZW hD,T]) λm O D=>by rw[<-D];exact H m O (by rw[D];exact k)
  rw[this]
 ·rfl
theorem yAU (j:Nat) (k:j<l.length):nth (zKF (updL l b) l.length l.length (List.replicate l.length 0)) j=wt l b (nth l j).aW:=by
 have K:z15 (List.replicate l.length 0):=λx T=>by rw[(List.mem_replicate.1 T).2];omega
 refine z14 (upd:=updL l b) (n:=l.length) (Inv:=z15) (R:=λr j=>j<l.length/\DD l r (nth l j).aW) (t:=λj=>wt l b (nth l j).aW) (λr j h=>⟨h.1,zMX h.2⟩) zTG (λr H i hi Y _ O D=>yMJ hd hD r H i hi (λj k D=>O j k ⟨k,D⟩) D.2) l.length 0 _ (by simp) K (λj k D=>?_) j k ⟨k,by rw[em];exact hD _⟩
 have:l.find? (isF (nth l j).aW)=none:=D.2;rw[zEZ hd (vT k)] at this;cases this
end
section
variable {l:List aI} (hd:DS l) (hD:∀c,DD l l.length c) {b:Bool}
def zIL (l:List aI) (b:Bool) (h:List (List Int)) (e:Int):List Int:=match fi l e b with
 | some m=>nth h m
 | none=>hdE e
def zW2 (l:List aI) (b:Bool) (h:List (List Int)) (i:Nat):List Int:=if (b ||((nth l i).bO== []))=true then (nth l i).To.flatMap (zIL l b h) else nth h i
def zYL (l:List aI) (b:Bool) (h:List (List Int)):Prop:= ∀j,j<l.length->(nth h j).length<=(fu l b (nth l j).aW).length
include hd hD
theorem yAV {i:Nat} (hi:i<l.length) (h:(b ||((nth l i).bO== []))=true):fu l b (nth l i).aW=(nth l i).To.flatMap (fu l b):=by rw[zR3 hD];unfold fnB;rw[zEZ hd (vT hi)];simp only[h,dH]
theorem yAW {k:List (List Int)} (h:zYL l b k) (e:Int):(zIL l b k e).length<=(fu l b e).length:=by
 unfold zIL;rcases zZ2 hd e b with ⟨m,D,H,K,_⟩ | ⟨D,H⟩
 rw[D];have:=h m H;rw[K] at this;exact this;rw[D,zR3 hD,H];exact dC _
omit hd hD in
theorem z5X {f g:Int->List Int} (h:∀e,(f e).length<=(g e).length):∀L:List Int,(L.flatMap f).length<=(L.flatMap g).length
 | []=>dC _
 | x::L=>by have:=z5X h L;have:=h x;simp only[d5,cX];omega
theorem yIF {k:List (List Int)} (h:zYL l b k) {i:Nat} (hi:i<l.length):(zW2 l b k i).length<=(fu l b (nth l i).aW).length:=by unfold zW2;split;rename_i D;rw[yAV hd hD hi D];exact z5X (yAW hd hD h) _;exact h i hi
theorem zTH (i:Nat) (k:List (List Int)) (hi:i<l.length) (H:k.length=l.length) (h:zYL l b k):zYL l b (k.set i (zW2 l b k i)):=by intro j D;rw[zU8 (by omega)];split;rename_i e;subst e;exact yIF hd hD h hi;exact h j D
omit hD in
theorem yMK (hD:∀c,DD l l.length c) (r:Nat) (h:List (List Int)) (i:Nat) (hi:i<l.length) (Y:∀j,j<l.length->(b ||((nth l j).bO== []))=true->DD l r (nth l j).aW->nth h j=fu l b (nth l j).aW) (O:(b ||((nth l i).bO== []))=true) (hr:DD l (r+1) (nth l i).aW):zW2 l b h i=fu l b (nth l i).aW:=by
 rw[yAV hd hD hi O];unfold zW2;rw[dG O];refine zQN λe Z=>?_;have H:=hr (nth l i) (zEZ hd (vT hi)) e Z;unfold zIL;cases K:fi l e b with
 | some m=>
  obtain⟨k,D,T⟩:=zK9 K;show nth h m=_;rw[Y m k T (by rw[D];exact H),D]
 | none=>
  rcases zZ2 hd e b with ⟨m,k,_⟩ | ⟨_,D⟩;rw[K] at k;cases k;show hdE e=_;rw[zR3 hD,D]
def z5Y (l:List aI) (b:Bool):List (List Int):=zKF (zW2 l b) l.length l.length (List.replicate l.length [])
omit hd hD in
theorem yNV:zYL l b (List.replicate l.length []):=by intro j h;rw[zBQ (by simpa using h)];simp
theorem yP0 (j:Nat) (k:j<l.length) (H:(b ||((nth l j).bO== []))=true):nth (z5Y l b) j=fu l b (nth l j).aW:=by
 refine z14 (upd:=zW2 l b) (n:=l.length) (Inv:=zYL l b) (R:=λr j=>j<l.length/\(b ||((nth l j).bO== []))=true/\DD l r (nth l j).aW) (t:=λj=>fu l b (nth l j).aW) (λr j h=>⟨h.1,h.2.1,zMX h.2.2⟩) (zTH hd hD) (λr K i hi T _ O D=>yMK hd hD r K i hi (λj k H D=>O j k ⟨k,H,D⟩) D.2.1 D.2.2) l.length 0 _ (by simp) yNV (λj k D=>?_) j k ⟨k,H,by rw[em];exact hD _⟩
 have:l.find? (isF (nth l j).aW)=none:=D.2.2;rw[zEZ hd (vT k)] at this;cases this
theorem yML (e:Int):zIL l b (z5Y l b) e=fu l b e:=by
 unfold zIL;cases D:fi l e b with
 | some m=>
  obtain⟨h,k,H⟩:=zK9 D;show nth (z5Y l b) m=_;rw[yP0 hd hD m h H,k]
 | none=>
  rcases zZ2 hd e b with ⟨m,h,_⟩ | ⟨_,k⟩;rw[D] at h;cases h;show hdE e=_;rw[zR3 hD,k]
end
open Go.AV
def plF (n:Int):Bool->List Int->Bool×List Int
 | true,l=>(true,l)
 | false,[]=>(false,[])
 | false,x::l=>if n<=x then (true,if n<x then n::x::l else x::l) else ((plF n false l).1,x::(plF n false l).2)
def plE (n:Int):List Int->List Int
 | []=>[n]
 | x::l=>if n<=x then (if n<x then n::x::l else x::l) else x::plE n l
theorem yNW (n:Int):∀l:List Int,(if (plF n false l).1=true then (plF n false l).2 else (plF n false l).2++ [n])=plE n l
 | []=>rfl
 | x::l=>by
  have:=yNW n l;unfold plF plE;by_cases h:n<=x;simp[h];simp only[h,cY];rw[<-this];split<;>simp
theorem z8S {l:List Int} {n:Int} (hl:l.length<=2000):∀(d k:Nat) (b:Bool) (h:List Int),l.length-k=d->k<=l.length->h.length<=2*k->
  zF (λ(x:Bool×Int×(List Int))=>j9 l n x.1 x.2.1 x.2.2) (b,(k:Int),h)=some ((plF n b (l.drop k)).1,h++(plF n b (l.drop k)).2):=by
 intro d
 induction d with
 | zero=>
  intro k b h h1 h2 h3;rw[dE (show l.length<=k by omega)];refine zL ?_;simp only[j9,kH (show l.length<=k by omega),cN];cases b<;>simp[plF]
 | succ d ih=>
  intro k b h h1 h2 h3;have H:k<l.length:=by omega
  have O:∀{o:List Int} (x:Int),o.length<=2*k+1->app o [x]=some (o++ [x]):=λ{o} x ho=>jY (by simp;omega)
  rw[cW H];have Z:∀(K:Bool) (T:List Int),T.length<=2*(k+1)->j9 l n b (k:Int) h=some (.next (K,((k+1:Nat):Int),T))->(plF n K (l.drop (k+1))).1=(plF n b (l[k]::l.drop (k+1))).1->T++(plF n K (l.drop (k+1))).2=h++(plF n b (l[k]::l.drop (k+1))).2->
    zF (λ(x:Bool×Int×(List Int))=>j9 l n x.1 x.2.1 x.2.2) (b,(k:Int),h)=some ((plF n b (l[k]::l.drop (k+1))).1,h++(plF n b (l[k]::l.drop (k+1))).2):=by
   intro K T ho hb e1 e2;rw[zM (body:=λ(x:Bool×Int×(List Int))=>j9 l n x.1 x.2.1 x.2.2) (x:=(b,(k:Int),h)) hb,ih (k+1) K T (by omega) (by omega) ho,e1,e2]
  cases b with
  | true=>
   refine Z true (h++ [l[k]]) (by simp;omega) ?_ ?_ ?_
   ·simp only[j9,yS H,cO,zK,dD,vB,zA,dP,cN,zU H,O _ (show h.length<=2*k+1 by omega),zJ (k:=k) (by omega)]
   ·simp[plF]
   ·simp[plF]
  | false=>
   by_cases D:n<=l[k]
   ·by_cases Y:n<l[k]
    ·refine Z true (h++ [n]++ [l[k]]) (by simp;omega) ?_ ?_ ?_
     ·simp only[j9,yS H,cO,zK,dS,xB,zA,dK,zU H,D,Y,dA,O _ (show h.length<=2*k+1 by omega),O _ (show (h++ [n]).length<=2*k+1 by simp;omega),zJ (k:=k) (by omega)]
     ·simp[plF,D]
     ·simp[plF,D,Y]
    ·refine Z true (h++ [l[k]]) (by simp;omega) ?_ ?_ ?_
     ·simp only[j9,yS H,cO,zK,dS,xB,zA,dK,zU H,D,Y,dA,dF,cN,O _ (show h.length<=2*k+1 by omega),zJ (k:=k) (by omega)]
     ·simp[plF,D]
     ·simp[plF,D,Y]
   ·refine Z false (h++ [l[k]]) (by simp;omega) ?_ ?_ ?_
    ·simp only[j9,yS H,cO,zK,dS,xB,zA,dK,zU H,D,dF,cN,O _ (show h.length<=2*k+1 by omega),zJ (k:=k) (by omega)]
    ·simp[plF,D]
    ·simp[plF,D]
theorem yAX (n:Int):∀l:List Int,(plF n false l).2.length<=l.length+1
 | []=>by simp[plF]
 | x::l=>by
  have:=yAX n l;unfold plF;by_cases h:n<=x;by_cases k:n<x<;>simp[h,k];simp only[h,cY,dR];omega
theorem zSA {l:List Int} (H:l.length<=2000) (n:Int):zEJ l n=some (plE n l):=by
 unfold zEJ;have h:=z8S (n:=n) H l.length 0 false [] (by omega) (by omega) (by simp);have k:=yAX n l;rw[d8,dO] at h;have D:zF (λ(x:Bool×Int×(List Int))=>j9 l n x.1 x.2.1 x.2.2) (false,0,[])=some ((plF n false l).1,(plF n false l).2):=h;rw[D,zA,<-yNW];cases (plF n false l).1 with
 | true=>rfl
 | false=>simp only[dS,cO,jY (show (plF n false l).2.length+ [n].length<=4294967296 by simp;omega),zA];rfl
def Gd (l:List Int):Prop:=l.Pairwise (· < ·)/\∀x∈l,0<=x/\x<=1114111
theorem z16 (n:Int):∀{l:List Int} {x:Int},x∈plE n l->x=n\/x∈l
 | [],x,h=>by simp[plE] at h;exact .inl h
 | y::l,x,h=>by
  unfold plE at h;split at h;split at h;rcases dM.1 h with h | h
  exact .inl h;exact .inr h;exact .inr h;rcases dM.1 h with h | h
  exact .inr (by simp[h]);rcases z16 n h with h | h
  exact .inl h;exact .inr (by simp[h])
theorem yAY (n:Int):∀{l:List Int},l.Pairwise (· < ·)->(plE n l).Pairwise (· < ·)
 | [],_=>by simp[plE]
 | y::l,h=>by
  obtain⟨D,K⟩:=eZ.1 h;unfold plE;split;split;rename_i H;refine eZ.2 ⟨λz k=>?_,h⟩;rcases dM.1 k with rfl | k;exact H;have:=D z k;omega;exact h;rename_i H;refine eZ.2 ⟨λz k=>?_,yAY n K⟩;rcases z16 n k with rfl | k;omega;exact D z k
theorem zTI {n:Int} (k:0<=n/\n<=1114111) {l:List Int} (h:Gd l):Gd (plE n l):=by
 refine⟨yAY n h.1,λx hx=>?_⟩;rcases z16 n hx with rfl | hx
 exact k;exact h.2 x hx
theorem zPB (n:Int):∀l:List Int,(plE n l).length<=l.length+1
 | []=>by simp[plE]
 | x::l=>by
  have:=zPB n l;unfold plE;split;split<;>simp;simp only[dR];omega
theorem z17 {n:Int}:∀{l:List Int},(∀x∈l,x<n)->plE n l=l++ [n]
 | [],_=>rfl
 | y::l,h=>by
  have D:=h y (by simp);unfold plE;rw[dN (by omega),z17 λx k=>h x (by simp[k])];rfl
def cuS (c:List Int) (r:Range):List Int:=if 0<=r.Hi/\r.Hi<1114111 then plE (r.Hi+1) (if vld r.Lo=true then plE r.Lo c else c) else (if vld r.Lo=true then plE r.Lo c else c)
theorem yAZ (c:List Int) (r:Range):(cuS c r).length<=c.length+2:=by
 have k:=zPB r.Lo c;unfold cuS;split
 ·
  have h:=zPB (r.Hi+1) (if vld r.Lo=true then plE r.Lo c else c);split at h<;>split<;>simp_all<;>omega
 · split<;>omega
theorem yP1 {c:List Int} {r:Range} (h:Gd c):Gd (cuS c r):=by
 have D:Gd (if vld r.Lo=true then plE r.Lo c else c):=by
  split;rename_i k;unfold vld at k;simp only[dL,cZ] at k;exact zTI k h;exact h
 unfold cuS;split;exact zTI (by omega) D;exact D
def cuE (l:List Range) (c:List Int):List Int:=l.foldl cuS c
theorem z18:∀(l:List Range) {c:List Int},Gd c->Gd (cuE l c)
 | [],_,h=>h
 | r::l,_,h=>z18 l (yP1 h)
theorem z19:∀(l:List Range) (c:List Int),(cuE l c).length<=c.length+2*l.length
 | [],c=>by simp[cuE]
 | r::l,c=>by
  have h:=z19 l (cuS c r);have k:=yAZ c r;show (cuE l (cuS c r)).length<=_;simp only[dR];omega
theorem yDT {s:Set} (hl:s.Ranges.length<=12):∀(d k:Nat) (c:List Int),s.Ranges.length-k=d->k<=s.Ranges.length->c.length<=100+2*k->
  zF (λ(x:(List Int)×Int)=>uU s x.1 x.2) (c,(k:Int))=some (cuE (s.Ranges.drop k) c):=by
 intro d
 induction d with
 | zero=>
  intro k c O T Y;rw[dE (show s.Ranges.length<=k by omega)];refine zL ?_;simp only[uU,kH (show s.Ranges.length<=k by omega),cN];rfl
 | succ d Z=>
  intro k c O T Y;have H:k<s.Ranges.length:=by omega
  have hs:=yAZ c s.Ranges[k];have hb:uU s c (k:Int)=some (.next (cuS c s.Ranges[k],((k+1:Nat):Int))):=by
   have hp:=zPB s.Ranges[k].Lo c;simp only[uU,yS H,cO,zU H,zA,zFY,zK,zJ (k:=k) (by omega),zSA (show c.length<=2000 by omega)];unfold cuS;by_cases K:vld s.Ranges[k].Lo=true
   ·simp only[K,cO,zA,dH]
    by_cases h:0<=s.Ranges[k].Hi
    ·by_cases D:s.Ranges[k].Hi<1114111
     ·simp only[h,D,dA,fA,cO,iv,dH]
      rw[xN (n:=s.Ranges[k].Hi+1) (by omega) (by omega),zSA (by omega)];rfl
     ·simp[h,D]
    ·simp[h]
   ·simp only[K,dQ,cY,cN,zA]
    by_cases h:0<=s.Ranges[k].Hi
    ·by_cases D:s.Ranges[k].Hi<1114111
     ·simp only[h,D,dA,fA,cO,iv,dH]
      rw[xN (n:=s.Ranges[k].Hi+1) (by omega) (by omega),zSA (by omega)];rfl
     ·simp[h,D]
    ·simp[h]
  rw[zM (body:=λ(x:(List Int)×Int)=>uU s x.1 x.2) (x:=(c,(k:Int))) hb,Z (k+1) _ (by omega) (by omega) (by omega),cW H];rfl
theorem yA0 {s:Set} (D:s.Ranges.length<=12) {c:List Int} (H:c.length<=100):zG6 c s=some (plE 0 (cuE s.Ranges c)):=by unfold zG6;have h:=yDT D s.Ranges.length 0 c (by omega) (by omega) (by omega);rw[d8] at h;have k:zF (λ(x:(List Int)×Int)=>uU s x.1 x.2) (c,0)=some (cuE s.Ranges c):=h;have:=z19 s.Ranges c;rw[k,zA,zSA (by omega)];rfl
def zHL (l:List Range) (c:Int):Bool:=l.any λr=>vld c&&decide (r.Lo<=c)&&decide (c<=r.Hi)
theorem yIG {s:Set} (O:s.Ranges.length<=2000) (c:Int):zG7 s c=some (zHL s.Ranges c):=by
 unfold zG7;have h:=kJ (body:=λ(x:Int)=>zES s c x) s.Ranges.length (λk=> ¬(vld c&&decide ((nth s.Ranges k).Lo<=c)&&decide (c<=(nth s.Ranges k).Hi))=true) (λy=>y=true) (λk D=>by
  simp only[zES,yS D,cO,zFY,zA,zK,zX D,zJ (k:=k) (by omega)];cases T:vld c with
  | false=>simp only[vB,zA,dP,cN];exact .inl ⟨by simp,trivial⟩
  | true=>
   simp only[xB,zA,dK];by_cases K:(nth s.Ranges k).Lo<=c;simp only[K,dA,xB,zA,dK];exact w6 (by simp) rfl;simp only[K,dF,vB,zA,dP,cN];exact .inl ⟨by simp,trivial⟩) (λk D=>by simp only[zES,kH D,cN])
 rw[zAW (p:=λr:Range=> ¬(vld c&&decide (r.Lo<=c)&&decide (c<=r.Hi))=true)] at h;rcases h with ⟨h,p⟩ | ⟨y,rfl,h,p⟩
 rw[h];have:zHL s.Ranges c=false:=by unfold zHL;rw[gJ];exact p
 rw[this];rfl;rw[h];have:zHL s.Ranges c=true:=by
  cases H:zHL s.Ranges c with
  | true=>rfl
  | false=>exfalso;apply p;unfold zHL at H;rw[gJ] at H;exact H
 rw[this];rfl
def nxt:List Int->Int
 | []=>1114111
 | d::_=>d-1
def coF (has:Int->Bool):List Int->Bool->List Range->List Range
 | [],_,o=>o
 | c::cs,k,o=>if has c=true then (if k=true then coF has cs true (match o with
   | q::h=>{q with Hi:=nxt cs}::h
   | []=>[]) else coF has cs true ({Lo:=c,Hi:=nxt cs}::o)) else coF has cs false o
theorem yMM {C:List Int} {s:Set} (hl:s.Ranges.length<=12) (hC:C.length<=200) (hg:Gd C):∀(d k:Nat) (D:Bool) (o:List Range),C.length-k=d->k<=C.length->o.length<=k->(D=true->o≠[])->
  zF (λ(x:Bool×Int×(List Range))=>jR C s {Ranges:=[]} 1 x.1 x.2.1 x.2.2) (D,(k:Int),o.reverse)=some (coF (zHL s.Ranges) (C.drop k) D o).reverse:=by
 intro d
 induction d with
 | zero=>
  intro k D o h1 h2 h3 h4;rw[dE (show C.length<=k by omega)];refine zL ?_;simp only[jR,kH (show C.length<=k by omega),cN];rfl
 | succ d ih=>
  intro k D o h1 h2 h3 h4;have hk:k<C.length:=by omega
  have he:zG7 {Ranges:=[]} C[k]=some false:=by rw[yIG (by simp)];rfl
  have ad:(cond (decide (((k+1:Nat):Int)<(C.length:Int))) ((yD C ((k+1:Nat):Int)).bind λah=>some (wi (ah-1))) (some 1114111):Option Int)=some (nxt (C.drop (k+1))):=by
   by_cases O:k+1<C.length
   ·have:=hg.2 _ (eF O)
    rw[yS O,cO,zU O,zA,xN (by omega) (by omega),cW O];rfl
   ·rw[kH (by omega),cN,dE (by omega)]
    rfl
  rw[cW hk];have nx:∀(H:Bool) (Z:List Range),Z.length<=k+1->(H=true->Z≠[])->jR C s {Ranges:=[]} 1 D (k:Int) o.reverse=some (.next (H,((k+1:Nat):Int),Z.reverse))->coF (zHL s.Ranges) (C.drop (k+1)) H Z=coF (zHL s.Ranges) (C[k]::C.drop (k+1)) D o->
    zF (λ(x:Bool×Int×(List Range))=>jR C s {Ranges:=[]} 1 x.1 x.2.1 x.2.2) (D,(k:Int),o.reverse)=some (coF (zHL s.Ranges) (C[k]::C.drop (k+1)) D o).reverse:=by
   intro H Z ho ac hb e;rw[zM (body:=λ(x:Bool×Int×(List Range))=>jR C s {Ranges:=[]} 1 x.1 x.2.1 x.2.2) (x:=(D,(k:Int),o.reverse)) hb,ih (k+1) H Z (by omega) (by omega) ho ac,e]
  have T:jR C s {Ranges:=[]} 1 D (k:Int) o.reverse=((cond (zHL s.Ranges C[k]&&D) ((yD o.reverse (wi ((o.reverse.length:Int)-1))).bind λai=>(zBD o.reverse (wi ((o.reverse.length:Int)-1)) ({ai with Hi:=nxt (C.drop (k+1))})).bind λK=>some K) (some o.reverse)).bind λ(y3:List Range)=>
    (cond (zHL s.Ranges C[k]&& !D) ((app y3 [({Lo:=C[k],Hi:=nxt (C.drop (k+1))}:Range)]).bind λr=>some r) (some y3)).bind λ(y5:List Range)=>some (Stp.next (zHL s.Ranges C[k],((k+1:Nat):Int),y5))):=by
   unfold jR;simp only[zJ (k:=k) (show k+1<=9223372036854775807 by omega),yS hk,cO,ad,zA,zU hk,yIG (show s.Ranges.length<=2000 by omega),he,zKY,dA,zK,Bool.or_false]
  cases Y:zHL s.Ranges C[k] with
  | false=>
   refine nx false o (by omega) (λh=>by cases h) ?_ ?_
   ·rw[T,Y];rfl
   ·simp[coF,Y]
  | true=>
   cases D with
   | false=>
    refine nx true ({Lo:=C[k],Hi:=nxt (C.drop (k+1))}::o) (by simp;omega) (λ_=>by simp) ?_ ?_
    ·rw[T,Y]
     simp only[fG,cN,zA,dS,fA,cO,jY (show o.reverse.length+ [({Lo:=C[k],Hi:=nxt (C.drop (k+1))}:Range)].length<=4294967296 by simp;omega)]
     simp
    ·simp[coF,Y]
   | true=>
    cases o with
    | nil=>exact absurd rfl (h4 rfl)
    | cons q o=>
     refine nx true ({q with Hi:=nxt (C.drop (k+1))}::o) (by simp only[dR] at h3 ⊢;omega) (λ_=>by simp) ?_ ?_
     ·rw[T,Y]
      have e1:wi (((q::o).reverse.length:Int)-1)=((o.length:Nat):Int):=by
       simp only[dR] at h3;have hL:((q::o).reverse.length:Int)=(o.length:Int)+1:=by simp
       rw[hL,xN (by omega) (by omega)];omega
      have e2:(q::o).reverse=o.reverse++q:: []:=by simp
      rw[e1,e2,vU (by simp),zA,zAU (by simp)];simp
     ·simp[coF,Y]
theorem yIH {l:List Range} (k:l.length<=12):zJS l=some {Ranges:=(coF (zHL l) (plE 0 (plE 0 (cuE l []))) false []).reverse}:=by unfold zJS zHP;have H:=z19 l [];have h2:=zPB 0 (cuE l []);have h3:=zPB 0 (plE 0 (cuE l []));simp only[d7] at H;have Z:cuE ([]:List Range) (plE 0 (cuE l []))=plE 0 (cuE l []):=rfl;have K:Gd (plE 0 (plE 0 (cuE l []))):=zTI (by omega) (zTI (by omega) (z18 l ⟨.nil,λx O=>by cases O⟩));rw[yA0 (s:={Ranges:=l}) k (by simp),zA,yA0 (s:={Ranges:=[]}) (by simp) (show (plE 0 (cuE l [])).length<=100 by omega)];rw[zA];have h:=yMM (s:={Ranges:=l}) k (by omega) K _ 0 false [] rfl (by omega) (by simp) (λh=>by cases h);rw[d8] at h;have D:zF (λ(x:Bool×Int×(List Range))=>jR (plE 0 (plE 0 (cuE l []))) {Ranges:=l} {Ranges:=[]} 1 x.1 x.2.1 x.2.2) (false,0,[])=some (coF (zHL l) (plE 0 (plE 0 (cuE l []))) false []).reverse:=h;change ((zF (λ(x:Bool×Int×(List Range))=>jR (plE 0 (plE 0 (cuE l []))) {Ranges:=l} {Ranges:=[]} 1 x.1 x.2.1 x.2.2) (false,0,[])).bind λY=>some ({Ranges:=Y}:Set)).bind (λT=>some T)=_;rw[D];rfl
open Go.AV
theorem zVC {has:Int->Bool}:∀(C:List Int) (T:Bool) (o:List Range),Gd C->CanR o->(T=true->∀c,C.head? =some c->∃q O,o=q::O/\q.Hi=c-1/\q.Lo<=c)->(T=false->∀c q,C.head? =some c->o.head? =some q->q.Hi+1<c)->(T=true->o≠[])->CanR (coF has C T o)
 | [],_,_,_,h,_,_,_=>h
 | c::cs,T,o,hg,Y,h1,h2,h3=>by
  obtain⟨ha,hb⟩:=eZ.1 hg.1;have K:Gd cs:=⟨hb,λx hx=>hg.2 x (by simp[hx])⟩;have hc:=hg.2 c (by simp);have k:c<=nxt cs/\nxt cs<=1114111/\∀d,cs.head? =some d->nxt cs=d-1/\c<d:=by
   cases cs with
   | nil=>exact⟨hc.2,fT _,λd D=>by cases D⟩
   | cons d cs=>
    have h5:=ha d (by simp);have h6:=hg.2 d (by simp);refine⟨show c<=d-1 by omega,show d-1<=1114111 by omega,λe he=>?_⟩;simp only[hF,fC] at he;subst he;exact⟨rfl,h5⟩
  unfold coF;split;split;rename_i H;obtain⟨q,O,rfl,e1,e2⟩:=h1 H c rfl;refine zVC cs true _ K ?_ (λ_ d D=>⟨_,_,rfl,(k.2.2 d D).1,?_⟩) (λh=>by cases h) (λ_=>by simp);have Z:=Y.head;unfold zDL at Z;cases O with
  | nil=>show zDL _;unfold zDL;simp only;omega
  | cons z O=>exact⟨by unfold zDL;simp only;omega,Y.2.1,Y.2.2⟩
  have:=(k.2.2 d D).2;show q.Lo<=d;omega;rename_i H;simp only[gS] at H;refine zVC cs true _ K ?_ (λ_ d D=>⟨_,_,rfl,(k.2.2 d D).1,?_⟩) (λh=>by cases h) (λ_=>by simp);cases o with
  | nil=>show zDL _;unfold zDL;simp only;omega
  | cons z O=>exact⟨by unfold zDL;simp only;omega,h2 H c z rfl rfl,Y⟩
  have:=(k.2.2 d D).2;show c<=d;omega;refine zVC cs false o K Y (λh=>by cases h) (λ_ d q D Z=>?_) (λh=>by cases h);have h7:=(k.2.2 d D).2;cases T with
  | true=>
   obtain⟨q',O,rfl,e1,_⟩:=h1 rfl c rfl;simp only[hF,fC] at Z;subst Z;omega
  | false=>
   have:=h2 rfl c q rfl Z;omega
def zNH (l:List Range):List Int:=l.flatMap λr=>r.Lo::if r.Hi<1114111 then [r.Hi+1] else []
theorem yII:∀(l:List Range) (c:List Int),Can l->(∀x∈c,∀r,l.head? =some r->x<r.Lo)->cuE l c=c++zNH l
 | [],c,_,_=>by simp[cuE,zNH]
 | r::l,c,h,D=>by
  have T:=h.head;unfold zDL at T;have Y:vld r.Lo=true:=by unfold vld;simp;omega
  have O:plE r.Lo c=c++ [r.Lo]:=z17 λx hx=>D x hx r rfl;have K:cuS c r=c++(r.Lo::if r.Hi<1114111 then [r.Hi+1] else []):=by
   unfold cuS;rw[dG Y,O];by_cases k:r.Hi<1114111;rw[dG ⟨by omega,k⟩,dG k,z17];simp;intro x hx;rcases eK.1 hx with hx | hx
   have:=D x hx r rfl;omega;simp only[gx] at hx;omega;rw[dN (λh=>k h.2),dN k]
  show cuE l (cuS c r)=_;rw[yII l (cuS c r) h.tail,K];simp[zNH];intro x hx q H;have Z:r.Hi+1<q.Lo:=h.gap q (by cases l with | nil=>cases H | cons a l=>simp only[hF,fC] at H;simp[H])
  rw[K] at hx;rcases eK.1 hx with hx | hx
  have:=D x hx r rfl;omega;rcases dM.1 hx with rfl | hx
  omega;split at hx;simp only[gx] at hx;omega;cases hx
theorem yP2 {l:List Range} (h:Can l) {r:Range} (k:r∈l):zHL l r.Lo=true:=by have:=h.ok r k;unfold zDL at this;unfold zHL;refine fU.2 ⟨r,k,?_⟩;unfold vld;simp;omega
theorem yIJ:∀{l:List Range},Can l->∀{r:Range},r∈l->zHL l (r.Hi+1)=false
 | [],_,r,H=>by cases H
 | a::l,h,r,H=>by
  unfold zHL;rw[gJ];intro q D;have K:∀(c:Int) (q:Range),(c<q.Lo\/q.Hi<c)->¬(vld c&&decide (q.Lo<=c)&&decide (c<=q.Hi))=true:=by
   intro c q Y;simp only[dL,cZ];omega
  rcases dM.1 H with rfl | k;refine K _ _ ?_;rcases dM.1 D with rfl | D;omega;have:=h.gap q D;omega;rcases dM.1 D with rfl | D;refine K _ _ ?_;have T:=h.gap r k;have O:=h.tail.ok r k;unfold zDL at O;omega;have:=yIJ h.tail k;unfold zHL at this;rw[gJ] at this;exact this q D
theorem yA1 {has:Int->Bool}:∀(l:List Range) (o:List Range),Can l->(∀r∈l,has r.Lo=true/\(r.Hi<1114111->has (r.Hi+1)=false))->coF has (zNH l) false o=l.reverse++o
 | [],o,_,_=>by simp[zNH,coF]
 | r::l,o,h,H=>by
  obtain⟨D,K⟩:=H r (by simp);have ih:=yA1 (has:=has) l (r::o) h.tail λq Y=>H q (by simp[Y]);have Z:=h.head;unfold zDL at Z;by_cases k:r.Hi<1114111
  ·have e:zNH (r::l)=r.Lo::(r.Hi+1)::zNH l:=by simp[zNH,k]
   have en:nxt ((r.Hi+1)::zNH l)=r.Hi:=by show r.Hi+1-1=r.Hi;omega
   rw[e];unfold coF;rw[dG D,dN (by simp),en];unfold coF;rw[dN (by rw[K k];simp),ih]
   simp
  ·have T:l= []:=by
    cases l with
    | nil=>rfl
    | cons q l=>
     have:=h.2.1;have O:=h.tail.head;unfold zDL at O;omega
   subst T;have e:zNH [r]= [r.Lo]:=by simp[zNH,k]
   rw[e];unfold coF;rw[dG D,dN (by simp)];unfold coF;have:nxt []=r.Hi:=by show (1114111:Int)=r.Hi;omega
   rw[this];rfl
theorem yIK {l:List Int} (h:Gd l):plE 0 (plE 0 l)=plE 0 l:=by
 cases l with
 | nil=>rfl
 | cons x l=>
  have:=h.2 x (by simp);by_cases k:0<x;have e:plE 0 (x::l)=0::x::l:=by unfold plE;rw[dG (by omega),dG k]
  rw[e];unfold plE;rw[dG (by omega),dN (by omega)];have e:plE 0 (x::l)=x::l:=by unfold plE;rw[dG (by omega),dN k]
  rw[e,e]
theorem yIL {l:List Range} (h:Can l):(coF (zHL l) (plE 0 (plE 0 (cuE l []))) false []).reverse=l:=by
 rw[yIK (z18 l ⟨.nil,λx k=>by cases k⟩),yII l [] h (λx k=>by cases k),dO];have K:=yA1 (has:=zHL l) l [] h λr H=>⟨yP2 h H,λ_=>yIJ h H⟩;rw[et] at K;have D:plE 0 (zNH l)=zNH l\/(plE 0 (zNH l)=0::zNH l/\zHL l 0=false):=by
  cases l with
  | nil=>exact .inr ⟨rfl,rfl⟩
  | cons r l=>
   have H:=h.head;unfold zDL at H;have e:zNH (r::l)=r.Lo::((if r.Hi<1114111 then [r.Hi+1] else [])++zNH l):=by simp[zNH]
   rw[e];by_cases k:0<r.Lo;refine .inr ⟨by unfold plE;rw[dG (by omega),dG k],?_⟩
   unfold zHL;rw[gJ];intro q hq;simp only[dL,cZ];rcases dM.1 hq with rfl | hq
   omega;have:=h.gap q hq;omega;exact .inl (by unfold plE;rw[dG (by omega),dN k])
 rcases D with D | ⟨D,O⟩;rw[D,K,fN];rw[D];unfold coF;rw[dN (by rw[O];simp),K,fN]
theorem yDV (l:List Range):Can (coF (zHL l) (plE 0 (plE 0 (cuE l []))) false []).reverse:=by have D:Gd (plE 0 (plE 0 (cuE l []))):=zTI (by omega) (zTI (by omega) (z18 l ⟨.nil,λx K=>by cases K⟩));have:=zVC (has:=zHL l) _ false [] D trivial (λh=>by cases h) (λ_ c q _ H=>by cases H) (λh=>by cases h);have k:=z1T _ [] this trivial (λ_ _ _ h=>by cases h);simpa using k
theorem yMN {a b:Set} (Y:a.Ranges.length<=2000):zJT a b=some (decide (a.Ranges=b.Ranges)):=by
 unfold zJT;by_cases H:a.Ranges.length=b.Ranges.length;have e:(!decide ((a.Ranges.length:Int)=(b.Ranges.length:Int)))=false:=by simp[H]
 rw[e,cN];have h:=kJ (body:=λ(x:Int)=>zDW a b x) a.Ranges.length (λk=>nth a.Ranges k=nth b.Ranges k) (λy=>y=false) (λk D=>by
  simp only[zDW,yS D,cO,zX D,zX (show k<b.Ranges.length by omega),zA,zJ (k:=k) (by omega)];exact w6 (by simp) rfl) (λk D=>by simp only[zDW,kH D,cN])
 have T:(∀j,j<a.Ranges.length->nth a.Ranges j=nth b.Ranges j)↔a.Ranges=b.Ranges:=by
  constructor;intro h;refine ia H λi K O=>?_;have:=h i K
  rwa [zBQ K,zBQ O] at this
  intro h j _;rw[h]
 rw[T] at h;rcases h with ⟨h,p⟩ | ⟨y,rfl,h,p⟩
 rw[h];simp[p];rw[h];simp[p];have e:(!decide ((a.Ranges.length:Int)=(b.Ranges.length:Int)))=true:=by simp;omega
 rw[e,cO];have:a.Ranges≠b.Ranges:=λh=>H (by rw[h]);simp[this]
theorem yP3 {s:Set} (k:s.Ranges.length<=12):∃b,zH4 s=some b/\(b=true↔Can s.Ranges):=by unfold zH4;rw[yIH k,zA,yMN (by omega),zA];refine⟨_,rfl,?_⟩;simp only[cZ];constructor;intro h;rw[h];exact yDV _;intro h;rw[yIL h]
open Go.AV
theorem z2A {l:List aI} (T:l.length<=2000) (c:Int) (b:Bool):zEK l c b=some (fiI l c b):=by
 unfold zEK;have h:zF (λ(x:Int)=>zDX l c b x) 0=some (toS (chk (λk m=>(pM c b k m).map λ(i:Nat)=>(i:Int)) l 0)):=by
  refine xU l _ (λk H=>?_) (λk H=>?_);simp only[zDX,yS H,cO,zU H,zA,zK,zJ (k:=k) (by omega),pM];by_cases D:l[k].aW=c;cases b with
  | true=>simp[D,vB,stp]
  | false=>
   cases K:(l[k].bO== []) with
   | true=>simp only[D,dA,dS,fA,xB,zA,eY,K,dK,cO,iv,dH,e6,stp]
   | false=>simp only[D,dA,dS,fA,xB,zA,eY,K,dK,cN,dQ,and_false,cY,gv,stp]
  simp[D,vB,stp];simp only[zDX,kH H,cN]
 rw[h,zA,xF];have e:∀(L:List aI) (k:Nat),chk (λk m=>(pM c b k m).map λ(i:Nat)=>(i:Int)) L k=(chk (pM c b) L k).map λ(i:Nat)=>(i:Int):=by
  intro L
  induction L with
  | nil=>intro k;rfl
  | cons x L O=>
   intro k;unfold chk;cases pM c b k x with
   | none=>exact O (k+1)
   | some y=>rfl
 rw[e];unfold fiI fi;cases chk (pM c b) l 0<;>rfl
theorem yIM (c:Int):zG8 c=some (hkE c):=by
 unfold zG8 hkE;simp only[zK];by_cases h:4352<=c/\c<4371;rw[dG h];have:(decide (4352<=c)&&decide (c<=4370))=true:=by simp;omega
 rw[this];rfl;rw[dN h];have K:(decide (4352<=c)&&decide (c<=4370))=false:=by simp only[eE,dB];omega
 rw[K,cN];by_cases k:4449<=c/\c<4470;rw[dG k];have:(decide (4449<=c)&&decide (c<=4469))=true:=by simp;omega
 rw[this];rfl;rw[dN k];have O:(decide (4449<=c)&&decide (c<=4469))=false:=by simp only[eE,dB];omega
 rw[O,cN];by_cases D:4520<=c/\c<4547;rw[dG D];have:(decide (4520<=c)&&decide (c<=4546))=true:=by simp;omega
 rw[this];rfl;rw[dN D];have T:(decide (4520<=c)&&decide (c<=4546))=false:=by simp only[eE,dB];omega
 rw[T,cN];by_cases H:c<44032\/55204<=c;rw[dG H];have:(decide (44032<=c)&&decide (c<=55203))=false:=by simp only[eE,dB];omega
 rw[this];rfl;rw[dN H];have Y:(decide (44032<=c)&&decide (c<=55203))=true:=by simp;omega
 rw[Y,cO,xN (n:=c-44032) (by omega) (by omega)];have er:zKJ (c-44032) 28=some ((c-44032)%28):=by
  unfold zKJ;rw[dN (by decide),fW (by omega)]
 rw[er,zA];by_cases Z:(c-44032)%28=0<;>simp[Z]
theorem yNX (c:Int):zBW c=some (hdE c):=by
 unfold zBW;rw[yIM,zA];cases k:syl c with
 | false=>
  have:decide (hkE c<4)=true:=by
   simp only[cZ];have:¬4<=hkE c:=λh=>by have:=(zI6 c).2 h;rw[k] at this;cases this
   omega
  rw[this,cO];unfold hdE;rw[dN (by simp[k])]
 | true=>
  have Y:=(zI6 c).1 k;have:decide (hkE c<4)=false:=by simp only[dB];omega
  rw[this,cN];have Z:44032<=c/\c<=55203:=by unfold syl at k;simpa using k
  rw[xN (n:=c-44032) (by omega) (by omega)];have H:zNY wi (c-44032) 28=some ((c-44032)/28):=by
   unfold zNY;rw[dN (by decide),hJ (by omega),xN (by omega) (by omega)]
  have K:zNY wi ((c-44032)/28) 21=some ((c-44032)/28/21):=by
   unfold zNY;rw[dN (by decide),hJ (by omega),xN (by omega) (by omega)]
  have O:zKJ ((c-44032)/28) 21=some ((c-44032)/28%21):=by
   unfold zKJ;rw[dN (by decide),fW (by omega)]
  have T:zKJ (c-44032) 28=some ((c-44032)%28):=by
   unfold zKJ;rw[dN (by decide),fW (by omega)]
  simp only[H,K,O,T,zA];unfold hdE;rw[dG k,xN (n:=4352+(c-44032)/28/21) (by omega) (by omega),xN (n:=4449+(c-44032)/28%21) (by omega) (by omega)];by_cases D:0<(c-44032)%28;rw[dG D,xN (n:=4520+(c-44032)%28) (by omega) (by omega),xN (n:=4520+(c-44032)%28-1) (by omega) (by omega)];simp only[D,dA,cO];rw[jY (by simp)];rfl;rw[dN D];simp only[D,dF,cN];rfl
section
variable {l:List aI} (hl:l.length<=2000) (hto:∀m∈l,m.To.length<=2000)
include hl hto
theorem yMO {h:List Bool} (ho:h.length=l.length) {i:Nat} (hi:i<l.length):∀(d k:Nat) (b:Bool),(nth l i).To.length-k=d->k<=(nth l i).To.length->
  zF (λ(x:Bool×Int)=>uV l (i:Int) h x.1 x.2) (b,(k:Int))=some (b&&((nth l i).To.drop k).all λe=>match fi l e true with | some m=>nth h m | none=>true):=by
 have H:=hto _ (vT hi);intro d
 induction d with
 | zero=>
  intro k b K O;rw[dE (show (nth l i).To.length<=k by omega)];refine zL ?_;simp only[uV,zX hi,zA,kH (show (nth l i).To.length<=k by omega),cN,List.all_nil,iJ]
 | succ d Y=>
  intro k b K O;have D:k<(nth l i).To.length:=by omega
  have hb:uV l (i:Int) h b (k:Int)=some (.next (b&&(match fi l (nth l i).To[k] true with | some m=>nth h m | none=>true),((k+1:Nat):Int))):=by
   simp only[uV,zX hi,zA,yS D,cO,zU D,z2A hl,zK,zJ (k:=k) (by omega)];unfold fiI;cases T:fi l (nth l i).To[k] true with
   | none=>simp[vB]
   | some m=>
    obtain⟨Z,_,_⟩:=zK9 T;have e:decide (((m:Nat):Int)<0)=false:=by simp
    simp only[e,dS,iJ,eY];cases b with
    | false=>simp[vB]
    | true=>simp only[xB,zX (show m<h.length by omega),zA,dK]
  rw[zM (body:=λ(x:Bool×Int)=>uV l (i:Int) h x.1 x.2) (x:=(b,(k:Int))) hb,Y (k+1) _ (by omega) (by omega),cW D,ij,Bool.and_assoc]
theorem yMP:zJU l=some (zKF (zQP l) l.length l.length (List.replicate l.length false)):=by
 unfold zJU;rw[z1M (by omega),zA];have K:∀(h:List Bool),h.length=l.length->zF (λ(x:Int×(List Bool))=>zCH l x.1 x.2) (0,h)=some (zR7 (zQP l) l.length 0 h):=λh D=>
  zR8 (upd:=zQP l) (n:=l.length) (Inv:=λ_=>True) (body:=λ(x:Int×(List Bool))=>zCH l x.1 x.2) (λi h=>((i:Int),h)) id (λi h hi D _=>by
   have:=yMO hl hto D hi _ 0 true rfl (by omega);rw[d8,dK] at this;have H:zF (λ(x:Bool×Int)=>uV l (i:Int) h x.1 x.2) (true,0)=some (zQP l h i):=this;simp only[zCH,yS hi,cO,H,zA,zX (show i<h.length by omega),zIJ (show i<h.length by omega),zJ (k:=i) (by omega)]) (λ_ _ _ _ _=>trivial) (λh=>by simp only[zCH,kH (dC _),cN];rfl) l.length 0 h (by omega) D trivial
 have O:=zR9 (upd:=zQP l) (n:=l.length) (Inv:=λ_=>True) (body:=λ(x:Int×(List Bool))=>zCI l x.1 x.2) (λi h=>((i:Int),h)) id (N:=l.length) (λr h Y D _=>by
  simp only[zCI,yS Y,cO,K h D,zA,zJ (k:=r) (by omega)]) (λ_ _ _ _ _=>trivial) (λh=>by simp only[zCI,kH (dC _),cN];rfl) l.length 0 (List.replicate l.length false) (by omega) (by simp) trivial
 have T:zF (λ(x:Int×(List Bool))=>zCI l x.1 x.2) (0,List.replicate l.length false)=some (zKF (zQP l) l.length l.length (List.replicate l.length false)):=O;rw[T];rfl
theorem yMQ {b:Bool} {h:List Int} (ho:h.length=l.length) (hv:z15 h) {i:Nat} (hi:i<l.length):∀(d k:Nat) (n:Int),(nth l i).To.length-k=d->k<=(nth l i).To.length->0<=n->n<=100*(k:Int)->
  zF (λ(x:Int×Int)=>wM l (i:Int) b h x.1 x.2) (n,(k:Int))=some (n+(((nth l i).To.drop k).map (lenOf l b h)).sum):=by
 have O:=hto _ (vT hi);intro d
 induction d with
 | zero=>
  intro k n T Y D Z;rw[dE (show (nth l i).To.length<=k by omega)];refine zL ?_;simp only[wM,zX hi,zA,kH (show (nth l i).To.length<=k by omega),cN,fD,List.sum_nil,Int.add_zero]
 | succ d ih=>
  intro k n T Y D Z;have K:k<(nth l i).To.length:=by omega
  have aa:0<=lenOf l b h (nth l i).To[k]/\lenOf l b h (nth l i).To[k]<=65:=by
   unfold lenOf;cases H:fi l (nth l i).To[k] b with
   | none=>have:=zQL (nth l i).To[k];simp only[];omega
   | some m=>obtain⟨D,_,_⟩:=zK9 H;exact hv _ (vT (by omega))
  have hb:wM l (i:Int) b h n (k:Int)=some (.next (n+lenOf l b h (nth l i).To[k],((k+1:Nat):Int))):=by
   have hw:wi (n+lenOf l b h (nth l i).To[k])=n+lenOf l b h (nth l i).To[k]:=xN (by omega) (by omega);simp only[wM,zX hi,zA,yS K,cO,zU K,z2A hl,zJ (k:=k) (by omega),yNX];rw[<-hw];unfold lenOf fiI;cases H:fi l (nth l i).To[k] b with
   | none=>rfl
   | some m=>
    obtain⟨D,_,_⟩:=zK9 H;have e:decide (0<=((m:Nat):Int))=true:=by simp
    simp only[e,cO,zX (show m<h.length by omega),zA]
  rw[zM (body:=λ(x:Int×Int)=>wM l (i:Int) b h x.1 x.2) (x:=(n,(k:Int))) hb,ih (k+1) _ (by omega) (by omega) (by omega) (by omega),cW K,eA,iI,Int.add_assoc]
theorem yA2 (b:Bool):zDY l b=some (zKF (updL l b) l.length l.length (List.replicate l.length 0)):=by
 unfold zDY;rw[z1M (by omega),zA];have O:z15 (List.replicate l.length 0):=λx hx=>by rw[(List.mem_replicate.1 hx).2];omega
 have T:∀(h:List Int),h.length=l.length->z15 h->zF (λ(x:Int×(List Int))=>uP l b x.1 x.2) (0,h)=some (zR7 (updL l b) l.length 0 h):=λh D H=>
  zR8 (upd:=updL l b) (n:=l.length) (Inv:=z15) (body:=λ(x:Int×(List Int))=>uP l b x.1 x.2) (λi h=>((i:Int),h)) id (λi h hi D H=>by
   have:=yMQ hl hto (b:=b) D H hi _ 0 0 rfl (by omega) (by omega) (by omega);rw[d8,Int.zero_add] at this;have K:zF (λ(x:Int×Int)=>wM l (i:Int) b h x.1 x.2) (0,0)=some (((nth l i).To.map (lenOf l b h)).sum):=this;simp only[uP,yS hi,cO,K,zA,zX (show i<h.length by omega),zIJ (show i<h.length by omega),zX hi,zK,zJ (k:=i) (by omega)];unfold updL;cases b with
   | true=>simp
   | false=>
    cases ht:((nth l i).bO== []) with
    | true=>simp
    | false=>simp[zX (show i<(h.set i (min (max (List.map (lenOf l false h) (nth l i).To).sum 1) 65)).length by simp;omega),zIJ (show i<(h.set i (min (max (List.map (lenOf l false h) (nth l i).To).sum 1) 65)).length by simp;omega)]) zTG (λh=>by simp only[uP,kH (dC _),cN];rfl) l.length 0 h (by omega) D H
 have Y:=zR9 (upd:=updL l b) (n:=l.length) (Inv:=z15) (body:=λ(x:Int×(List Int))=>uQ l b x.1 x.2) (λi h=>((i:Int),h)) id (N:=l.length) (λr h hr D H=>by
  simp only[uQ,yS hr,cO,T h D H,zA,zJ (k:=r) (by omega)]) zTG (λh=>by simp only[uQ,kH (dC _),cN];rfl) l.length 0 (List.replicate l.length 0) (by omega) (by simp) O
 have Z:zF (λ(x:Int×(List Int))=>uQ l b x.1 x.2) (0,List.replicate l.length 0)=some (zKF (updL l b) l.length l.length (List.replicate l.length 0)):=Y;rw[Z];rfl
end
open Go.AV
theorem zVD {H:Type} [Inhabited H] {upd:List H->Nat->H} {n k:Nat} {D:List H} (h:D.length=n):(zKF upd n k D).length=n:=
 (z13 (upd:=upd) (n:=n) (Inv:=λ_=>True) (λ_ _ _ _ _=>trivial) k D h trivial).2
theorem z5Z {l:List aI} (h:∀k,k+1<l.length->(nth l k).aW<(nth l (k+1)).aW):∀(d i:Nat),i+d+1<l.length->(nth l i).aW<(nth l (i+d+1)).aW
 | 0,i,hi=>h i hi
 | d+1,i,hi=>by
  have D:=z5Z h d i (by omega);have H:=h (i+d+1) (by omega);have:i+(d+1)+1=i+d+1+1:=by omega
  rw[this];omega
theorem yDW {l:List aI} (Y:∀k,k+1<l.length->mlt (nth l k) (nth l (k+1))):(∀k,k<l.length->¬fiI l (nth l k).aW true<(k:Int))↔∀k,k+1<l.length->(nth l (k+1)).aW≠(nth l k).aW:=by
 constructor;intro h k K e;have H:k<l.length:=by omega
 have hp:pM (nth l (k+1)).aW true (0+k) l[k]≠none:=by
  unfold pM;rw[dG ⟨by rw[e,zBQ H],rfl⟩];simp
 obtain⟨i,hi,ab,Z⟩:=zZ1 (p:=pM (nth l (k+1)).aW true) (l:=l) (k:=0) H hp;have T:fi l (nth l (k+1)).aW true=some i:=by
  unfold fi;rw[Z];unfold pM;split;simp;rename_i hn;exfalso;have:chk (pM (nth l (k+1)).aW true) l 0=none:=by rw[Z];unfold pM;rw[dN hn]
  exact hp (zOK this k H)
 refine h (k+1) K ?_;unfold fiI;rw[T];simp only[];omega;intro h k K D;have hs:∀k,k+1<l.length->(nth l k).aW<(nth l (k+1)).aW:=λk K=>by
  have a:=Y k K;have b:=h k K;unfold mlt at a;omega
 unfold fiI at D;cases O:fi l (nth l k).aW true with
 | none=>exact absurd ⟨rfl,rfl⟩ (yAT O _ (vT K))
 | some i=>
  rw[O] at D;simp only[] at D;obtain⟨h1,h2,_⟩:=zK9 O;have:=z5Z hs (k-i-1) i (by omega);rw[show i+(k-i-1)+1=k by omega] at this;omega
theorem yP4 {n:Norm} (Y:NSm n) (bk:wO n):Ver (zH5 n) (VD0 n):=by
 obtain⟨e1,aw,p1⟩:=yH9 (l:=n.aK) (by have:=Y.cl;omega)
 obtain⟨e2,ax,p2⟩:=yPZ (l:=n.aA) (by have:=Y.de;omega) (λm K=>by have:=Y.to m K;omega) (λm K=>by have:=Y.tg m K;unfold MX;omega)
 obtain⟨e3,ay,p3⟩:=yP3 (s:=n.aN) Y.ex;have bi:=Y.de;have hl:n.aA.length<=2000:=by omega
 have aa:∀m∈n.aA,m.To.length<=2000:=λm K=>by have:=Y.to m K;omega
 unfold zH5;rw[aw,zA];by_cases h1:e1=0
 case neg=>
  have:(!decide (e1=0))=true:=by simp[h1]
  rw[this,cO];exact⟨e1,rfl,by simp only[h1,eW];exact λh=>h1 (p1.2 h.cv)⟩
 rw[h1];simp only[dA,dD,cN];have cv:=p1.1 h1;rw[ax,zA];by_cases h2:e2=0
 case neg=>
  have:(!decide (e2=0))=true:=by simp[h2]
  rw[this,cO];exact⟨e2,rfl,by simp only[h2,eW];exact λh=>h2 (p2.2 h.mv)⟩
 rw[h2];simp only[dA,dD,cN];have mv:=p2.1 h2;rw[ay,zA];cases e3 with
 | false=>exact⟨11,rfl,by simp only[show ((11:Int)=0)=False by simp,eW];exact λh=>by have:=p3.2 h.ca;cases this⟩
 | true=>
 have ca:=p3.1 rfl;simp only[dD,cN];have l0:=kJ (body:=λ(x:Int)=>zC6 n x) n.aA.length (λk=> ¬fiI n.aA (nth n.aA k).aW true<(k:Int)) (λy=>y≠0) (λk D=>by
  simp only[zC6,yS D,cO,zX D,zA,z2A hl,zJ (k:=k) (by omega)];exact w6 (by simp) (by decide)) (λk D=>by simp only[zC6,kH D,cN])
 rw[yDW mv.lt] at l0;rcases l0 with ⟨l0,ne⟩ | ⟨y,T,l0,ne⟩
 case inr=>rw[l0];exact⟨y,rfl,by simp only[T,eW];exact λh=>ne h.ne⟩
 rw[l0];simp only[zA,eJ];have am:∀m:aI,(m.bO== [])=decide (m.bO= []):=λm=>by cases m.bO<;>rfl
 have l1:=kJ (body:=λ(x:Int)=>zC7 n x) n.aA.length (λk=>(nth n.aA k).bO= []->(nth n.aA k).To.length=1\/(nth n.aA k).To.length=2) (λy=>y≠0) (λk D=>by
  simp only[zC7,yS D,cO,zX D,zA,zK,zJ (k:=k) (by omega),am];by_cases ht:(nth n.aA k).bO= []
  ·
   simp only[ht,dA,xB,zA,dK,true_implies];by_cases h5:((nth n.aA k).To.length:Int)=1
   ·
    simp only[h5,dA,dD,vB,zA,dP,cN];exact .inl ⟨.inl (by omega),trivial⟩
   ·
    simp only[h5,dF,dS,xB,zA,dK];exact w6 (by simp only[fS,dB];omega) (by decide)
  ·
   simp only[ht,dF,vB,zA,dP,cN,false_implies];exact .inl ⟨trivial,trivial⟩) (λk D=>by simp only[zC7,kH D,cN])
 rw[zAW (p:=λm:aI=>m.bO= []->m.To.length=1\/m.To.length=2)] at l1;rcases l1 with ⟨l1,kd⟩ | ⟨y,T,l1,kd⟩
 case inr=>rw[l1];exact⟨y,rfl,by simp only[T,eW];exact λh=>kd h.kd⟩
 rw[l1];simp only[zA,eJ];have l2:=kJ (body:=λ(x:Int)=>zC8 n x) n.aA.length (λk=>hkE (nth n.aA k).aW=0/\((nth n.aA k).bO≠[]->clE n.aK (nth n.aA k).aW=0)) (λy=>y≠0) (λk D=>by
  simp only[zC8,yS D,cO,zX D,zA,zK,yIM,zJ (k:=k) (by omega),am];by_cases h5:hkE (nth n.aA k).aW=0
  ·
   simp only[h5,dA,dD,dS,xB,zA,dK,eY,true_and];by_cases ht:(nth n.aA k).bO= []
   ·
    simp only[ht,dA,dD,vB,zA,dP,cN];exact .inl ⟨λh=>absurd rfl h,trivial⟩
   ·
    simp only[ht,dF,dS,xB,zA,dK,zKE (show n.aK.length<=2000 by have:=Y.cl;omega) cv]
    exact w6 (by simp[ht]) (by decide)
  ·
   have:(!decide (hkE (nth n.aA k).aW=0))=true:=by simp[h5]
   simp only[this,dD,vB,zA,dP,ic,cO];exact .inr ⟨λh=>h5 h.1,11,by decide,rfl⟩) (λk D=>by simp only[zC8,kH D,cN])
 rw[zAW (p:=λm:aI=>hkE m.aW=0/\(m.bO≠[]->clE n.aK m.aW=0))] at l2;rcases l2 with ⟨l2,D⟩ | ⟨y,T,l2,D⟩
 case inr=>rw[l2];exact⟨y,rfl,by simp only[T,eW];exact λh=>D λm K=>⟨h.hk m K,h.tc m K⟩⟩
 rw[l2];simp only[zA,eJ];have O:DS n.aA:=⟨λk an=>by
  have a:=mv.lt k an;have b:=ne k an;unfold mlt at a;omega,λm K=>(D m K).1,λm K=>by have:=mv.sz m K;omega⟩
 have Z:=yHU O (by omega);rw[yMP hl aa,zA];have l3:=kJ (body:=λ(x:Int)=>zC9 n (zKF (zQP n.aA) n.aA.length n.aA.length (List.replicate n.aA.length false)) x) n.aA.length (λk=>nth (zKF (zQP n.aA) n.aA.length n.aA.length (List.replicate n.aA.length false)) k=true) (λy=>y≠0) (λk D=>by
  simp only[zC9,yS D,cO,zX (show k<(zKF (zQP n.aA) n.aA.length n.aA.length (List.replicate n.aA.length false)).length by rw[zVD (by simp)];exact D),zA,zJ (k:=k) (by omega)]
  exact w6 (by simp) (by decide)) (λk D=>by simp only[zC9,kH D,cN])
 rw[yID O] at l3;rcases l3 with ⟨l3,H⟩ | ⟨y,T,l3,H⟩
 case inr=>rw[l3];exact⟨y,rfl,by simp only[T,eW];exact λh=>H (Z.1 h.ms).1⟩
 rw[l3];simp only[zA,eJ];have hD:=zWX O H;rw[yA2 hl aa false,zA,yA2 hl aa true,zA];have l4:=kJ (body:=λ(x:Int)=>zDA n (zKF (updL n.aA false) n.aA.length n.aA.length (List.replicate n.aA.length 0)) (zKF (updL n.aA true) n.aA.length n.aA.length (List.replicate n.aA.length 0)) x) n.aA.length (λk=>wt n.aA true (nth n.aA k).aW<=64) (λy=>y≠0) (λk D=>by
  have bj:wt n.aA false (nth n.aA k).aW<=wt n.aA true (nth n.aA k).aW:=yAH O _ _;simp only[zDA,yS D,cO,zX (show k<(zKF (updL n.aA false) n.aA.length n.aA.length (List.replicate n.aA.length 0)).length by rw[zVD (by simp)];exact D),zX (show k<(zKF (updL n.aA true) n.aA.length n.aA.length (List.replicate n.aA.length 0)).length by rw[zVD (by simp)];exact D),zA,zK,yAU O hD (b:=false) k D,yAU O hD (b:=true) k D,zJ (k:=k) (by omega)]
  by_cases h6:64<wt n.aA false (nth n.aA k).aW
  ·
   simp only[h6,dA,dD,vB,zA,ic,cO];exact .inr ⟨by omega,13,by decide,rfl⟩
  ·
   simp only[h6,dF,dS,xB,zA,eY];exact w6 (by simp) (by decide)) (λk D=>by simp only[zDA,kH D,cN])
 rw[zAW (p:=λm:aI=>wt n.aA true m.aW<=64)] at l4;rcases l4 with ⟨l4,W⟩ | ⟨y,T,l4,W⟩
 ·
  rw[l4];exact⟨0,rfl,by simp only[true_iff];exact⟨cv,mv,ca,ne,kd,λm K=>(D m K).1,λm K=>(D m K).2,Z.2 ⟨H,W⟩⟩⟩
 · rw[l4];exact⟨y,rfl,by simp only[T,eW];exact λh=>W (Z.1 h.ms).2⟩
theorem yIN {n:Norm} (O:NSm n) (D:wO n):zG9 n=some (usN n):=by obtain⟨e,K,H⟩:=yP4 O D;unfold zG9 usN;rw[K,zA];by_cases k:e=0;rw[dG (H.1 k)];simp[k];rw[dN (λh=>k (H.2 h))];simp[k]
section
variable {c:Collation} (hs:Sm c) {l:List bM} (hcv:CV l) (hl:l.length<=2000)
include hs
theorem yA3 (codes:List Int):zEL (kC c) codes=some (zEB (kC c).aB codes):=z8L (z1Q hs) (yLN hs) rfl codes
theorem rM0 {text:List Int} (O:text.length<=2000):∀(d k:Nat),text.length-k=d->k<=text.length->zF (λ(x:Int×Int)=>wN text (kC c) x.1 x.2) (((zK8 (pfx (kC c).aB text) k:Nat):Int),((k+1:Nat):Int))=some ((zAP (kC c).aB text:Nat):Int):=by
 intro d
 induction d with
 | zero=>
  intro k D H;have:k=text.length:=by omega
  subst this;refine zL ?_;have e:decide (((text.length+1:Nat):Int)<=(text.length:Int))=false:=by simp;omega
  simp only[wN,e,cN];rfl
 | succ d K=>
  intro k D H;have e:decide (((k+1:Nat):Int)<=(text.length:Int))=true:=by simp;omega
  have hb:wN text (kC c) ((zK8 (pfx (kC c).aB text) k:Nat):Int) ((k+1:Nat):Int)=some (.next (((zK8 (pfx (kC c).aB text) (k+1):Nat):Int),((k+1+1:Nat):Int))):=by
   simp only[wN,e,cO,zFI (show k+1<=text.length by omega),zA,yA3 hs,zJ (k:=k+1) (by omega)];have h:zK8 (pfx (kC c).aB text) (k+1)=if pfx (kC c).aB text (k+1)=true then k+1 else zK8 (pfx (kC c).aB text) k:=rfl
   have:(zEB (kC c).aB (text.take (k+1))).2=pfx (kC c).aB text (k+1):=rfl;rw[this,h];cases pfx (kC c).aB text (k+1)<;>rfl
  rw[zM (body:=λ(x:Int×Int)=>wN text (kC c) x.1 x.2) hb];exact K (k+1) (by omega) (by omega)
include hcv hl
theorem rM1 {text:List Int}:∀(r p s:List Int) (h:Int) (k:Nat),text.drop k=r->k<=text.length->p.length+s.length+r.length<=2000->text.length<=2000->
  ∃(m:Nat) (q:List Int),zF (λ(x:(List Int)×Int×Int×(List Int))=>vI text l (kC c) x.1 x.2.1 x.2.2.1 x.2.2.2) (p,h,(k:Int),s)=some ((zE0 (λq=>(zEB (kC c).aB q).2) (clE l) r p s h).1,(m:Int),q)/\m<=text.length/\q++text.drop m=(zE0 (λq=>(zEB (kC c).aB q).2) (clE l) r p s h).2
 | [],p,s,h,k,K,hk,_,_=>by
  have aa:text.length<=k:=by have:=congrArg List.length K;simp at this;omega
  refine⟨k,s,zL ?_,hk,?_⟩
  ·simp only[vI,kH aa,zK,vB,zA,dP,cN]
   rfl
  ·rw[K];simp[zE0]
 | x::r,p,s,h,k,K,hk,hn,ht=>by
  have D:k<text.length:=by have:=congrArg List.length K;simp at this;omega
  obtain⟨hx,O⟩:=List.cons_eq_cons.1 ((cW D).symm.trans K);simp only[dR] at hn;have hj:zHC p x=some (p++ [x]):=by
   unfold zHC;rw[jY (by simp;omega),zA,dO,jY (by simp;omega)]
   rfl
  by_cases H:clE l x=0
  ·refine⟨k,s,zL ?_,hk,?_⟩
   ·simp only[vI,yS D,zK,xB,zU D,zA,hx,zQO hl hcv,H,dA,dD,fG,cN]
    unfold zE0;rw[dG H]
   ·unfold zE0;rw[dG H,K]
  ·unfold zE0
   rw[dN H];cases hb:((zEB (kC c).aB (p++ [x])).2&&decide (h<clE l x)) with
   | true=>
    rw[dG rfl];obtain⟨m,q,T,Y,Z⟩:=rM1 r (p++ [x]) s h (k+1) O (by omega) (by simp;omega) ht
    refine⟨m,q,?_,Y,Z⟩;rw[<-T];refine zM ?_;simp only[vI,yS D,zK,xB,zU D,zA,hx,zQO hl hcv,H,dF,dS,iJ,cO,zKE hl hcv,hj,yA3 hs,hb,zJ (k:=k) (by omega)]
   | false=>
    rw[dN (by simp)];obtain⟨m,q,T,Y,Z⟩:=rM1 r p (s++ [x]) (max h (clE l x)) (k+1) O (by omega) (by simp;omega) ht
    refine⟨m,q,?_,Y,Z⟩;rw[<-T];refine zM ?_;simp only[vI,yS D,zK,xB,zU D,zA,hx,zQO hl hcv,H,dF,dS,iJ,cO,cN,zKE hl hcv,hj,yA3 hs,hb,jY (show s.length+ [x].length<=4294967296 by simp;omega),zJ (k:=k) (by omega)]
noncomputable def mtE (c:Collation) (l:List bM) (text:List Int):List Int×List Int:=zE0 (λq=>(zEB (kC c).aB q).2) (clE l) (text.drop (zAP (kC c).aB text)) (text.take (zAP (kC c).aB text)) [] 0
theorem z8T {text:List Int} (T:text.length<=2000) (Z:text≠[]):zFD l (kC c) text=some (if zAP (kC c).aB text=0 then (text.take 1,text.drop 1,false) else ((mtE c l text).1,(mtE c l text).2,true)):=by
 have h:0<text.length:=eU.2 Z;unfold zFD;have h1:=rM0 hs T text.length 0 (by omega) (by omega);have K:zF (λ(x:Int×Int)=>wN text (kC c) x.1 x.2) (0,1)=some ((zAP (kC c).aB text:Nat):Int):=h1;rw[K,zA];by_cases O:zAP (kC c).aB text=0;have H:decide (((zAP (kC c).aB text:Nat):Int)=0)=true:=by simp[O]
 have s1:slc text 0 1=some (text.take 1):=zFI (b:=1) h;have s2:slc text 1 (text.length)=some (text.drop 1):=zIK (a:=1) h;rw[H,cO,s1,zA,s2,zA,dG O];have H:decide (((zAP (kC c).aB text:Nat):Int)=0)=false:=by simp;omega
 have D:zAP (kC c).aB text<=text.length:=zR4 _ _;rw[H,cN,zFI D,zA,yPC (by simp;omega),zA,dN O]
 obtain⟨m,q,r1,r2,Y⟩:=rM1 hs hcv hl (text:=text) (text.drop (zAP (kC c).aB text)) (text.take (zAP (kC c).aB text)) [] 0 (zAP (kC c).aB text) rfl D (by simp;omega) T
 have k:=zR5 (fd:=λq=>(zEB (kC c).aB q).2) (cl:=clE l) (text.drop (zAP (kC c).aB text)) (text.take (zAP (kC c).aB text)) [] 0;have hq:q.length+(text.drop m).length<=4294967296:=by
  have:=congrArg List.length Y;rw[cX] at this;have h2:=k.2.1;simp only[dZ,eH,d7] at h2;omega
 rw[r1,zA];simp only[zIK r2,zA,jY hq,Y];rfl
end
open Go.AV
theorem yA4 {l:List aI} (hl:l.length<=2000) {b:Bool} {lists:List (List Int)} (hn:lists.length=l.length) (hb:∀e,(zIL l b lists e).length<=64) {text:List Int} (ht:text.length<=2000):u9 l lists text b=some (text.flatMap (zIL l b lists)):=by
 have key:∀(d k:Nat) (D:List Int),text.length-k=d->k<=text.length->D.length<=64*k->zF (λ(x:Int×(List Int))=>jU text l b lists x.1 x.2) ((k:Int),D)=some (D++(text.drop k).flatMap (zIL l b lists)):=by
  intro d
  induction d with
  | zero=>
   intro k D Z h2 h3;rw[dE (show text.length<=k by omega)];refine zL ?_;simp only[jU,kH (show text.length<=k by omega),cN,gU,et]
  | succ d ih=>
   intro k D Z h2 h3;have T:k<text.length:=by omega
   have ac:=hb text[k];have K:jU text l b lists (k:Int) D=some (.next (((k+1:Nat):Int),D++zIL l b lists text[k])):=by
    have H:app D (zIL l b lists text[k])=some (D++zIL l b lists text[k]):=jY (by omega);simp only[jU,yS T,cO,zU T,zA,z2A hl,zJ (k:=k) (by omega),yNX];unfold zIL at H ⊢;unfold fiI;cases O:fi l text[k] b with
    | none=>
     rw[O] at H;simp only[] at H;simp only[show decide ((0:Int)<= -1)=false by decide,cN,H,zA]
    | some m=>
     rw[O] at H;simp only[] at H;obtain⟨h4,_,_⟩:=zK9 O;have e:decide (0<=((m:Nat):Int))=true:=by simp
     simp only[e,cO,zX (show m<lists.length by omega),zA,H]
   rw[zM (body:=λ(x:Int×(List Int))=>jU text l b lists x.1 x.2) (x:=((k:Int),D)) K,ih (k+1) _ (by omega) (by omega) (by rw[cX];omega),cW T,d5,c9]
 unfold u9;have h:=key text.length 0 [] (by omega) (by omega) (by simp);rw[d8,dO] at h;have Y:zF (λ(x:Int×(List Int))=>jU text l b lists x.1 x.2) (0,[])=some (text.flatMap (zIL l b lists)):=h;rw[Y];rfl
theorem yP5 {n:Norm} (h:GN n) (b:Bool):zH9 n.aA b=some (z5Y n.aA b):=by
 have hl:n.aA.length<=2000:=by have:=h.de;omega
 have O:∀{D:List (List Int)},zYL n.aA b D->∀e,(zIL n.aA b D e).length<=64:=λH e=>d9 (yAW h.ds h.dd H e) (h.len b e);unfold zH9;rw[z1M (by omega),zA];have Y:∀(D:List (List Int)),D.length=n.aA.length->zYL n.aA b D->zF (λ(x:Int×(List (List Int)))=>zBL n.aA b x.1 x.2) (0,D)=some (zR7 (zW2 n.aA b) n.aA.length 0 D):=λD K H=>
  zR8 (upd:=zW2 n.aA b) (n:=n.aA.length) (Inv:=zYL n.aA b) (body:=λ(x:Int×(List (List Int)))=>zBL n.aA b x.1 x.2) (λi D=>((i:Int),D)) id (λi D hi K H=>by
   have T:=yA4 hl (b:=b) K (O H) (text:=(nth n.aA i).To) (h.ds.len _ (vT hi));simp only[zBL,yS hi,cO,zK,zX hi,zX (show i<D.length by omega),zA,T,zIJ (show i<D.length by omega),zJ (k:=i) (by omega)];unfold zW2;cases b with
   | true=>simp[vB]
   | false=>
    simp only[dS,xB,zA,eY];cases ht:((nth n.aA i).bO== []) with
    | true=>simp
    | false=>simp[yMD (show i<D.length by omega)]) (zTH h.ds h.dd) (λD=>by simp only[zBL,kH (dC _),cN];rfl) n.aA.length 0 D (by omega) K H
 have Z:=zR9 (upd:=zW2 n.aA b) (n:=n.aA.length) (Inv:=zYL n.aA b) (body:=λ(x:Int×(List (List Int)))=>zBM n.aA b x.1 x.2) (λi D=>((i:Int),D)) id (N:=n.aA.length) (λr D T K H=>by
  simp only[zBM,yS T,cO,Y D K H,zA,zJ (k:=r) (by omega)]) (zTH h.ds h.dd) (λD=>by simp only[zBM,kH (dC _),cN];rfl) n.aA.length 0 (List.replicate n.aA.length []) (by omega) (by simp) yNV
 have h3:zF (λ(x:Int×(List (List Int)))=>zBM n.aA b x.1 x.2) (0,List.replicate n.aA.length [])=some (z5Y n.aA b):=Z;rw[h3];rfl
theorem yMR {n:Norm} (h:GN n) (b:Bool) {text:List Int} (D:text.length<=2000):zJV n text b=some (text.flatMap (fu n.aA b)):=by
 have k:n.aA.length<=2000:=by have:=h.de;omega
 unfold zJV;have e:∀c,zIL n.aA b (z5Y n.aA b) c=fu n.aA b c:=yML h.ds h.dd;rw[yP5 h,zA,yA4 (lists:=z5Y n.aA b) k (zVD (by simp)) (λc=>by rw[e];exact h.len b c) D,zA,show zIL n.aA b (z5Y n.aA b)=fu n.aA b from funext e]
section
variable {l:List bM} (hcv:CV l) (hl:l.length<=2000)
include hcv hl
theorem sIn {text:List Int} {v:Nat} (O:v<text.length):∀(r s:List Int),r.length<=2000->zF (λ(q:Int×(List Int))=>zAX (clE l text[v]) l text (v:Int) q.1 q.2) ((r.length:Int),r.reverse++text[v]::s)=some (zAB (ltC (clE l)) r text[v] s)
 | [],s,_=>by
  refine zL ?_;simp[zAX,zK,vB,zA,zAB]
 | y::r,s,T=>by
  simp only[dR] at T;have H:decide ((0:Int)<((r.length+1:Nat):Int))=true:=by simp only[cZ];omega
  have K:(y::r).reverse++text[v]::s=r.reverse++y::text[v]::s:=by simp
  have i1:yD (r.reverse++y::text[v]::s) (r.length:Int)=some y:=vU (by simp);have i2:yD (r.reverse++y::text[v]::s) ((r.length+1:Nat):Int)=some text[v]:=by
   have:=vU (p:=r.reverse++ [y]) (s:=s) (x:=text[v]) (k:=r.length+1) (by simp);simpa using this
  have Y:zBD (r.reverse++y::text[v]::s) ((r.length+1:Nat):Int) y=some (r.reverse++y::y::s):=by
   have:=zAU (p:=r.reverse++ [y]) (s:=s) (x:=text[v]) (y:=y) (k:=r.length+1) (by simp);simpa using this
  have i3:yD (r.reverse++y::y::s) (r.length:Int)=some y:=vU (by simp);have Z:zBD (r.reverse++y::y::s) (r.length:Int) text[v]=some (r.reverse++text[v]::y::s):=zAU (by simp);rw[K];show zF _ (((r.length+1:Nat):Int),_)=_;by_cases D:0<clE l text[v]
  ·by_cases h:clE l text[v]<clE l y
   ·rw[zM (x':=((r.length:Int),r.reverse++text[v]::(y::s))) (by
     simp only[zAX,zK,H,D,dA,fA,zD8 (k:=r.length) (by omega),xB,i1,zA,zKE hl hcv,h,cO,i2,Y,zU O,i3,Z])]
    rw[sIn O r (y::s) (by omega)];have:ltC (clE l) text[v] y=true:=by unfold ltC;simp[D,h]
    simp[zAB,this]
   ·refine zL ?_
    have:ltC (clE l) text[v] y=false:=by unfold ltC;simp[h]
    simp only[zAX,zK,H,D,dA,fA,zD8 (k:=r.length) (by omega),xB,i1,zA,zKE hl hcv,h,dF,fG,cN,zAB,this,dQ,cY,K]
  ·refine zL ?_
   have:ltC (clE l) text[v] y=false:=by unfold ltC;simp[D]
   simp only[zAX,zK,H,D,dF,fG,vB,zA,dP,cN,zAB,this,dQ,cY,K]
theorem yMS {text:List Int} (ht:text.length<=900):zHB l text=some (csE (clE l) text):=by
 have key:∀(d k:Nat) (D:List Int),text.length-k=d->k<=text.length->D.length=k->zF (λ(x:Int×(List Int))=>uW text l x.1 x.2) ((k:Int),D)=some (zA0 (ltC (clE l)) (text.drop k) D):=by
  intro d
  induction d with
  | zero=>
   intro k D T Y Z;rw[dE (show text.length<=k by omega)];refine zL ?_;simp only[uW,kH (show text.length<=k by omega),cN];rfl
  | succ d ih=>
   intro k D T Y Z;have H:k<text.length:=by omega
   have hi:=sIn hcv hl H D.reverse [] (by simp;omega)
   rw[fN,gO] at hi;have hb:uW text l (k:Int) D=some (.next (((k+1:Nat):Int),zAB (ltC (clE l)) D.reverse text[k] [])):=by
    have K:wi (((D++ [text[k]]).length:Int)-1)=(D.length:Int):=by
     have hL:((D++ [text[k]]).length:Int)=(D.length:Int)+1:=by simp
     rw[hL,xN (by omega) (by omega)];omega
    simp only[uW,yS H,cO,zU H,zA,jY (show D.length+ [text[k]].length<=4294967296 by simp;omega),zKE hl hcv,K,hi,zJ (k:=k) (by omega)]
   rw[zM (body:=λ(x:Int×(List Int))=>uW text l x.1 x.2) (x:=((k:Int),D)) hb,ih (k+1) _ (by omega) (by omega) (by rw[zWT];simp;omega),cW H]
   rfl
 unfold zHB;have h:=key text.length 0 [] (by omega) (by omega) rfl;rw[d8] at h;have O:zF (λ(x:Int×(List Int))=>uW text l x.1 x.2) (0,[])=some (csE (clE l) text):=h;rw[O];rfl
end
theorem z8U {n:Norm} (D:NSm n) (k:wO n) {text:List Int} {b:Bool} (O:text.length<=2000) (K:(zGW n b text).length<=900):zFP n text b=some (zDE n b text):=by
 have h:=zTF D k;unfold zFP;rw[yIN D k,zA,yMR h b O,zA];have e:=yMS h.cv (by have:=h.cl;omega) K
 have H:zHB (usN n).aK (text.flatMap (fu (usN n).aA b))=some (zDE n b text):=e;rw[H];rfl
section
variable {c:Collation} (hs:Sm c) (hg:∀g∈c.aF,g.bT.length<=MX) {n:Norm} (hl:(wJ n).length<=2000)
include hs hg hl
theorem yR8:∀(k:Nat) (text:List Int) (b:Bool) (acc:List aP),text.length<=k->text.length<=2000->acc.length+2000*text.length<=100000000->
  zF (λ(x:(List Int)×Bool×(List aP))=>uX (usN n) (kC c) c x.1 x.2.1 x.2.2) (text,b,acc)=some (b&&(wk c (wJ n) text).2,acc++(wk c (wJ n) text).1):=by
 intro k
 induction k with
 | zero=>
  intro text b acc h _ _;have:text= []:=cP (by omega);subst this;refine zL ?_;simp[uX,zOO]
 | succ k ih=>
  intro text b acc h ht ha;by_cases D:text= []
  ·subst D
   refine zL ?_;simp[uX,zOO]
  ·have aa:0<text.length:=eU.2 D
   have ac:=zZZ (c:=c) (l:=wJ n) D;have h2:=yH6 hs (l:=wJ n) text;have e0:decide ((0:Int)<(text.length:Int))=true:=by simp;omega
   have Z:=z8T hs (z5Q n) hl ht D;rw[zW1] at Z;have K:app acc (stE c (wJ n) text).2.2=some (acc++(stE c (wJ n) text).2.2):=jY (by omega);have hb:uX (usN n) (kC c) c text b acc=some (.next ((stE c (wJ n) text).2.1,(b&&decide (zAP (kC c).aB text≠0)),acc++(stE c (wJ n) text).2.2)):=by
    unfold uX;rw[e0,cO,Z,zA,<-zW1];by_cases T:zAP (kC c).aB text=0
    ·have H:stE c (wJ n) text=(1,text.drop 1,zUS (kC c) (nth text 0)):=by unfold stE;rw[dG T]
     rw[H] at K ⊢;obtain⟨y,ys,rfl⟩:=List.exists_cons_of_ne_nil D;have i0:yD ((y::ys).take 1) (0:Int)=some (nth (y::ys) 0):=rfl;simp only[] at K;simp only[T,dH,i0,zA,zOL hs hg,cN,K,zK];simp
    ·have H:stE c (wJ n) text=(((mtE c (wJ n) text).1.length:Int),(mtE c (wJ n) text).2,(zEB (kC c).aB (mtE c (wJ n) text).1).1):=by unfold stE;rw[dN T];rfl
     have O:=(yH5 (c:=c) (l:=wJ n) D).1;rw[H] at K O ⊢;have Y:0<(mtE c (wJ n) text).1.length:=by simp only[] at O;omega
     have i0:yD (mtE c (wJ n) text).1 (0:Int)=some (nth (mtE c (wJ n) text).1 0):=zX (k:=0) Y;simp only[] at K;simp only[T,cY,i0,zA,zOL hs hg,cO,yA3 hs,K,zK];simp[T]
   rw[zM (body:=λ(x:(List Int)×Bool×(List aP))=>uX (usN n) (kC c) c x.1 x.2.1 x.2.2) (x:=(text,b,acc)) hb,ih _ _ _ (by omega) (by omega) (by rw[cX];omega),zU7 D,c9,Bool.and_assoc]
end
theorem zW4 {n:Norm} {c:Collation} (k:NSm n) (h:wO n) (H:Sm c) (D:∀g∈c.aF,g.bT.length<=MX) {text:List Int} (Y:text.length<=2000) (O:(zGW n false text).length<=900):zJW n c text=some (wk c (wJ n) (zDE n false text)):=by
 have T:(wJ n).length<=2000:=by have:=zTE k;omega
 have K:(zDE n false text).length<=2000:=by rw[zL7];omega
 unfold zJW;rw[yIN k h,zA,zWR H D,zA,z8U k h Y O,zA,yR8 H D T _ _ true [] (dC _) K (by simp;omega)]
 simp
open Go.AV
open Go.AV
open Go.AV
def ckO (o:Options):Int:=if o.aJ<1\/4<o.aJ then 1 else if o.aD<1\/3<o.aD then 8 else 0
def wH (o:Options):Options:=if ckO o=0 then o else {aJ:=3,aD:=1,aQ:=false,aU:=false}
theorem yP6 (o:Options):zFB o=some (ckO o):=by
 unfold zFB ckO;rw[zK];by_cases h:o.aJ<1\/4<o.aJ;have:(decide (o.aJ<1) ||decide (4<o.aJ))=true:=by simpa using h
 rw[this,dG h];rfl;have:(decide (o.aJ<1) ||decide (4<o.aJ))=false:=by simpa using h
 rw[this,dN h,cN];by_cases k:o.aD=1;simp[k];by_cases D:o.aD=2;simp[D];by_cases H:o.aD=3;simp[H];rw[dG (by omega)];simp[k,D,H]
theorem yIO (o:Options):zIA o=some (ckO o):=by
 unfold zIA ckO;rw[zK,zK];by_cases h:o.aJ<1\/4<o.aJ;have:(decide (o.aJ<1) ||decide (4<o.aJ))=true:=by simpa using h
 rw[this,dG h];rfl;have:(decide (o.aJ<1) ||decide (4<o.aJ))=false:=by simpa using h
 rw[this,dN h,cN];by_cases k:o.aD<1\/3<o.aD;have:(decide (o.aD<1) ||decide (3<o.aD))=true:=by simpa using k
 rw[this,dG k];rfl;have:(decide (o.aD<1) ||decide (3<o.aD))=false:=by simpa using k
 rw[this,dN k];rfl
theorem yA5 (o:Options):zAH o=some (wH o):=by unfold zAH wH;rw[yP6,zA];by_cases h:ckO o=0<;>simp[h]
theorem zZ4 (o:Options):zD0 o=some (wH o):=by unfold zD0 wH;rw[yIO,zA];by_cases h:ckO o=0<;>simp[h]
theorem zQQ (o:Options):ckO (wH o)=0:=by unfold wH;split;assumption;rfl
theorem yNZ {o:Options} (h:ckO o=0):wH o=o:=by unfold wH;rw[dG h]
theorem yIP {o:Options} (h:ckO o=0):1<=o.aJ/\o.aJ<=4/\1<=o.aD/\o.aD<=3:=by unfold ckO at h;split at h;cases h;split at h;cases h;omega
def nz (x:Int):List Int:=if x=0 then [] else [x]
def col:Nat->bG->Int
 | 0,w=>w.x0
 | 1,w=>w.x1
 | 2,w=>w.x2
 | _,w=>w.x3
def row (k:Nat) (L:List bG):List Int:=L.flatMap λw=>nz (col k w)
def zMY (f:Bool) (e:aP):Bool:=if e.aD=true\/e.aT≠0 then e.aD else f
def zZ5 (e:aP):Prop:=e.aT=0/\e.aL=0/\e.aO=0
instance (e:aP):Decidable (zZ5 e):=by unfold zZ5;infer_instance
def tr1 (v:Int) (f:Bool) (e:aP):bG:=
 if v=1 then {x0:=e.aT,x1:=e.aL,x2:=e.aO,x3:=if zZ5 e then 0 else 65535}
 else if zMY f e=true then {x0:=0,x1:=0,x2:=0,x3:=if v=3/\e.aD=true then e.aT else 0}
 else {x0:=e.aT,x1:=e.aL,x2:=e.aO,x3:=if v=3/\¬zZ5 e then 65535 else 0}
def trL (v:Int):Bool->List aP->List bG
 | _,[]=>[]
 | f,e::l=>tr1 v f e::trL v (zMY f e) l
theorem zSB (v:Int):∀(l:List aP) (f:Bool),(trL v f l).length=l.length
 | [],_=>rfl
 | e::l,f=>by simp[trL,zSB v l]
theorem yIQ {v:Int} (K:1<=v/\v<=3) (e:aP) (f:Bool):zAR e v f=some (tr1 v f e,if v=1 then f else zMY f e):=by obtain⟨p,s,t,H⟩:=e;unfold zAR tr1 zMY zZ5;rcases (by omega:v=1\/v=2\/v=3) with rfl | rfl | rfl<;>cases H<;>cases f<;>by_cases h:p=0<;>by_cases k:s=0<;>by_cases D:t=0<;>simp[h,k,D]
theorem yR9 (f g:Bool) (e:aP):tr1 1 f e=tr1 1 g e:=rfl
theorem yN0:∀(l:List aP) (f g:Bool),trL 1 f l=trL 1 g l
 | [],_,_=>rfl
 | e::l,f,g=>by
  show tr1 1 f e::trL 1 _ l=tr1 1 g e::trL 1 _ l;rw[yR9 f g,yN0 l (zMY f e) (zMY g e)]
theorem z8W (x:Int):(nz x).length<=1:=by unfold nz;split<;>simp
theorem zW5 {r:List Int} {x:Int} (h:r.length+1<=4294967296):(cond (!decide (x=0)) ((app r [x]).bind λq=>some q) (some r))=some (r++nz x):=by unfold nz;by_cases k:x=0;simp[k];simp only[k,dF,dS,cO,cY];rw[jY (by simpa using h)];rfl
theorem wl1 (t:bG×Bool) {r0 h k D:List Int} {n:Nat} (Y:n+1<=4294967296) (H:r0.length<=n) (K:h.length<=n) (O:k.length<=n) (T:D.length<=n):
  zF (λ(x:Int×(List Int)×(List Int)×(List Int)×(List Int))=>xH t x.1 x.2.1 x.2.2.1 x.2.2.2.1 x.2.2.2.2) (0,r0,h,k,D)=some (r0++nz t.1.x0,h++nz t.1.x1,k++nz t.1.x2,D++nz t.1.x3):=by
 have i0:yD [t.1.x0,t.1.x1,t.1.x2,t.1.x3] (0:Int)=some t.1.x0:=rfl;have i1:yD [t.1.x0,t.1.x1,t.1.x2,t.1.x3] (1:Int)=some t.1.x1:=rfl;have i2:yD [t.1.x0,t.1.x1,t.1.x2,t.1.x3] (2:Int)=some t.1.x2:=rfl;have i3:yD [t.1.x0,t.1.x1,t.1.x2,t.1.x3] (3:Int)=some t.1.x3:=rfl;rw[zM (x':=(1,r0++nz t.1.x0,h,k,D)) (by
  simp only[xH,i0,zA,zW5 (x:=t.1.x0) (show r0.length+1<=4294967296 by omega)];rfl)]
 rw[zM (x':=(2,r0++nz t.1.x0,h++nz t.1.x1,k,D)) (by
  simp only[xH,i1,zA,zW5 (x:=t.1.x1) (show h.length+1<=4294967296 by omega)];rfl)]
 rw[zM (x':=(3,r0++nz t.1.x0,h++nz t.1.x1,k++nz t.1.x2,D)) (by
  simp only[xH,i2,zA,zW5 (x:=t.1.x2) (show k.length+1<=4294967296 by omega)];rfl)]
 rw[zM (x':=(4,r0++nz t.1.x0,h++nz t.1.x1,k++nz t.1.x2,D++nz t.1.x3)) (by
  simp only[xH,i3,zA,zW5 (x:=t.1.x3) (show D.length+1<=4294967296 by omega)];rfl)]
 exact zL (by simp only[xH];rfl)
theorem wl0 {l:List aP} {o:Options} (hv:1<=o.aD/\o.aD<=3) (hl:l.length<=4000000000):∀(m k:Nat) (f:Bool) (r0 D H K:List Int),k+m=l.length->r0.length<=k->D.length<=k->H.length<=k->K.length<=k->
  zF (λ(x:Int×Bool×(List Int)×(List Int)×(List Int)×(List Int))=>uO l o x.1 x.2.1 x.2.2.1 x.2.2.2.1 x.2.2.2.2.1 x.2.2.2.2.2) ((k:Int),f,r0,D,H,K)=
   some (r0++row 0 (trL o.aD f (l.drop k)),D++row 1 (trL o.aD f (l.drop k)),H++row 2 (trL o.aD f (l.drop k)),K++row 3 (trL o.aD f (l.drop k)))
 | 0,k,f,r0,D,H,K,h,_,_,_,_=>by
  rw[dE (by omega)];refine zL ?_;simp only[uO,kH (show l.length<=k by omega),cN,trL,row,gU,et]
 | m+1,k,f,r0,D,H,K,h,Y,O,Z,h3=>by
  have T:k<l.length:=by omega
  have q:∀{r:List Int} (x:Int),r.length<=k->(r++nz x).length<=k+1:=λx hr=>by rw[cX];have:=z8W x;omega
  rw[zM (x':=(((k+1:Nat):Int),(if o.aD=1 then f else zMY f l[k]),r0++nz (tr1 o.aD f l[k]).x0,D++nz (tr1 o.aD f l[k]).x1,H++nz (tr1 o.aD f l[k]).x2,K++nz (tr1 o.aD f l[k]).x3)) (by
   simp only[uO,yS T,cO,zU T,zA,yIQ hv,wl1 _ (n:=k) (by omega) Y O Z h3,zJ (k:=k) (by omega)])]
  rw[wl0 hv hl m (k+1) _ _ _ _ _ (by omega) (q _ Y) (q _ O) (q _ Z) (q _ h3),cW T];have e:trL o.aD (if o.aD=1 then f else zMY f l[k]) (l.drop (k+1))=trL o.aD (zMY f l[k]) (l.drop (k+1)):=by
   by_cases O:o.aD=1
   ·rw[O];exact yN0 _ _ _
   ·rw[dN O]
  rw[e];simp[trL,row,col]
theorem yIR:∀(n:Nat) (a m b:List Int),m.length=n->a.length=b.length->a.length+m.length+b.length<=9000000000000000000->
  zF (λ(x:Int×Int×(List Int))=>xG x.1 x.2.1 x.2.2) ((a.length:Int),((a.length+m.length:Nat):Int)-1,a++m++b)=some (a++m.reverse++b):=by
 intro n
 induction n using Nat.strongRecOn with
 | ind n ih=>
  intro a m b hn ab hb;by_cases D:m.length<=1
  ·have e:decide ((a.length:Int)<((a.length+m.length:Nat):Int)-1)=false:=by simp;omega
   refine zL ?_;have hr:m.reverse=m:=by
    match m,D with
    | [],_=>rfl
    | [x],_=>rfl
   simp only[xG,e,cN,hr]
  ·obtain⟨x,K,rfl⟩:=List.exists_cons_of_ne_nil (l:=m) (λe=>by rw[e] at D;simp at D)
   have H:K≠[]:=λe=>by rw[e] at D;simp at D
   obtain⟨h,y,rfl⟩:∃h y,K=h++ [y]:=⟨K.dropLast,K.getLast H,(List.dropLast_concat_getLast H).symm⟩;simp only[dR,cX,d7] at hn hb D;have e:decide ((a.length:Int)<((a.length+(x::(h++ [y])).length:Nat):Int)-1)=true:=by simp;omega
   have T:((a.length+(x::(h++ [y])).length:Nat):Int)-1=((a.length+1+h.length:Nat):Int):=by simp;omega
   have Y:yD (a++(x::(h++ [y]))++b) (((a.length+1+h.length:Nat):Int))=some y:=by
    rw[zU (by simp;omega)];congr 1;rw[List.getElem_append_left (by simp;omega),gC (by omega)]
    simp only[show a.length+1+h.length-a.length=h.length+1 by omega,List.getElem_cons_succ];rw[gC (by omega)];simp
   have Z:yD (a++(x::(h++ [y]))++b) ((a.length:Nat):Int)=some x:=by
    rw[zU (by simp)];congr 1;rw[List.getElem_append_left (by simp),gC (by omega)];simp
   have s1:zBD (a++(x::(h++ [y]))++b) ((a.length:Nat):Int) y=some (a++(y::(h++ [y]))++b):=by
    rw[zIJ (by simp)];congr 1;simp
   have g3:yD (a++(y::(h++ [y]))++b) (((a.length+1+h.length:Nat):Int))=some y:=by
    rw[zU (by simp;omega)];congr 1;rw[List.getElem_append_left (by simp;omega),gC (by omega)]
    simp only[show a.length+1+h.length-a.length=h.length+1 by omega,List.getElem_cons_succ];rw[gC (by omega)];simp
   have s2:zBD (a++(y::(h++ [y]))++b) (((a.length+1+h.length:Nat):Int)) x=some ((a++ [y])++h++(x::b)):=by
    rw[zIJ (by simp;omega)];congr 1;have O:a++(y::(h++ [y]))++b=(a++y::h)++y::b:=by simp
    rw[O,show a.length+1+h.length=(a++y::h).length by simp;omega,List.set_append_right _ _ (dC _)]
    simp
   rw[zM (x':=(((a++ [y]).length:Int),(((a++ [y]).length+h.length:Nat):Int)-1,(a++ [y])++h++(x::b))) (by
    simp only[xG,e,cO];rw[T];simp only[Y,Z,s1,g3,s2,zA];rw[zJ (k:=a.length) (by omega),xN (by omega) (by omega)];simp only[cX,dR,d7])]
   rw[ih h.length (by omega) (a++ [y]) h (x::b) rfl (by simp;omega) (by simp;omega)]
   simp
theorem yP7 {l:List Int} (h:l.length<=4294967296):wL l=some l.reverse:=by
 unfold wL;have:=yIR l.length [] l [] rfl rfl (by simp;omega)
 simp only[dO,et,d7,em] at this;rw[xN (by omega) (by omega)];rw[show ((0:Nat):Int)=0 from rfl] at this;rw[this];rfl
def yDX (b:Bool) (l:List Int):List Int:=if b=true then l.reverse else l
def rows (b:Bool) (L:List bG):List (List Int):=[row 0 L,yDX b (row 1 L),row 2 L,row 3 L]
def wts (l:List aP) (o:Options):List (List Int):=(rows o.aQ (trL o.aD false l)).take o.aJ.toNat
theorem zVE (k:Nat):∀(L:List bG),(row k L).length<=L.length
 | []=>by simp[row]
 | w::L=>by
  have:=zVE k L;have h:=z8W (col k w);simp only[row,d5,cX,dR] at this ⊢;omega
theorem zMZ {l:List aP} (K:l.length<=4000000000) (o:Options):vZ l o=some (wts l (wH o)):=by
 have hb:=yIP (zQQ o);unfold vZ wts;have H:({aJ:=o.aJ,aD:=o.aD,aQ:=o.aQ,aU:=o.aU}:Options)=o:=rfl;rw[H,yA5,zA];generalize wH o=q at*;have k:=wl0 (l:=l) (o:=q) hb.2.2 K l.length 0 false [] [] [] [] (by omega) (by simp) (by simp) (by simp) (by simp);simp only[d8,dO] at k;rw[show ((0:Nat):Int)=0 from rfl] at k;unfold zD5;rw[zA,k,zA];have O:(cond q.aQ ((wL (row 1 (trL q.aD false l))).bind λD=>some D) (some (row 1 (trL q.aD false l))))=some (yDX q.aQ (row 1 (trL q.aD false l))):=by
  cases q.aQ with
  | false=>rfl
  | true=>
   have:=zVE 1 (trL q.aD false l);rw[zSB] at this;rw[cO,yP7 (by omega)];rfl
 simp only[O,zA];have T:q.aJ=((q.aJ.toNat:Nat):Int):=by omega
 have h:slc [row 0 (trL q.aD false l),yDX q.aQ (row 1 (trL q.aD false l)),row 2 (trL q.aD false l),row 3 (trL q.aD false l)] 0 q.aJ=some ((rows q.aQ (trL q.aD false l)).take q.aJ.toNat):=by
  rw[T,zFI (by simp;omega)];rfl
 rw[h,zA,jY (by simp[rows];omega)]
 rfl
open Go.AV
theorem yIS {l:List aP} {v:Int} (Z:1<=v/\v<=3) (K:l.length<=4000000000):∀(m k:Nat) (f:Bool) (acc:List bG),k+m=l.length->acc.length<=k->
  zF (λ(x:Bool×Int×(List bG))=>zA9 l v x.1 x.2.1 x.2.2) (f,(k:Int),acc)=some (acc++trL v f (l.drop k))
 | 0,k,f,acc,h,_=>by
  rw[dE (by omega)];refine zL ?_;simp only[zA9,kH (show l.length<=k by omega),cN,trL,et]
 | m+1,k,f,acc,h,ha=>by
  have D:k<l.length:=by omega
  rw[zM (x':=(zMY f l[k],((k+1:Nat):Int),acc++ [tr1 v f l[k]])) (by
   simp only[zA9,yS D,cO,zU D,zA,zK,zJ (k:=k) (by omega)];generalize l[k]=e;have H:∀w:bG,app acc [w]=some (acc++ [w]):=λw=>jY (by simp;omega)
   obtain⟨p,s,t,va⟩:=e;unfold tr1 zMY zZ5;rcases (by omega:v=1\/v=2\/v=3) with rfl | rfl | rfl<;>cases va<;>cases f<;>by_cases O:p=0<;>by_cases T:s=0<;>by_cases Y:t=0<;>simp[O,T,Y,H])]
  rw[yIS Z K m (k+1) _ _ (by omega) (by simp;omega),cW D]
  simp[trL]
theorem z8X {l:List aP} {v:Int} (k:1<=v/\v<=3) (h:l.length<=4000000000):zFE l v=some (trL v false l):=by unfold zFE;have:=yIS k h l.length 0 false [] (by omega) (by simp);rw[show ((0:Nat):Int)=0 from rfl] at this;rw[this];simp
theorem yUN (w:bG) {k:Nat} (h:k<4):yD [w.x0,w.x1,w.x2,w.x3] (k:Int)=some (col k w):=by
 match k,h with
 | 0,_=>rfl
 | 1,_=>rfl
 | 2,_=>rfl
 | 3,_=>rfl
def zM0 (b:Bool) (k:Nat) (L:List bG):List bG:=if k=1/\b=true then L.reverse else L
theorem z50 (b:Bool) (k:Nat) (L:List bG):(zM0 b k L).length=L.length:=by unfold zM0;split;exact gO;rfl
theorem rw1 {L:List bG} {o:Options} {q:Nat} (Y:q<4) (hl:L.length<=4000000000):∀(m k:Nat) (acc:List Int),k+m=L.length->acc.length<=k->
  zF (λ(x:Int×(List Int))=>vJ L (q:Int) o x.1 x.2) ((k:Int),acc)=some (acc++row q ((zM0 o.aQ q L).drop k))
 | 0,k,acc,h,_=>by
  rw[dE (by rw[z50];omega)]
  refine zL ?_;simp only[vJ,kH (show L.length<=k by omega),cN,row,gU,et]
 | m+1,k,acc,h,ha=>by
  have H:k<L.length:=by omega
  have K:k<(zM0 o.aQ q L).length:=by rw[z50];exact H
  have hi:∃j:Nat,j<L.length/\cond (decide ((q:Int)=1)&&o.aQ) (some (wi ((wi ((L.length:Int)-1))-(k:Int)))) (some (k:Int))=some (j:Int)/\L[j]? =some (zM0 o.aQ q L)[k]:=by
   unfold zM0;by_cases D:q=1/\o.aQ=true
   ·have e:(decide ((q:Int)=1)&&o.aQ)=true:=by simp[D.1,D.2]
    refine⟨L.length-1-k,by omega,?_,?_⟩
    ·rw[e,cO,xN (n:=(L.length:Int)-1) (by omega) (by omega),xN (by omega) (by omega)]
     congr 1;omega
    ·simp only[D,iv,dH]
     rw[List.getElem_reverse,cS (by omega)]
   ·have e:(decide ((q:Int)=1)&&o.aQ)=false:=by
     cases hb:o.aQ with
     | false=>simp
     | true=>
      have:q≠1:=λe=>D ⟨e,hb⟩;simp;omega
    refine⟨k,H,by rw[e,cN],?_⟩;simp only[D,cY];rw[cS H]
  obtain⟨j,T,Z,O⟩:=hi;rw[cS T] at O;have e3:yD L (j:Int)=some (zM0 o.aQ q L)[k]:=by rw[zU T];exact O
  rw[zM (x':=(((k+1:Nat):Int),acc++nz (col q (zM0 o.aQ q L)[k]))) (by
   simp only[vJ,yS H,cO,zK,Z,zA,e3,yUN _ Y,zW5 (x:=col q (zM0 o.aQ q L)[k]) (show acc.length+1<=4294967296 by omega),zJ (k:=k) (by omega)])]
  rw[rw1 Y hl m (k+1) _ (by omega) (by rw[cX];have:=z8W (col q (zM0 o.aQ q L)[k]);omega),cW K]
  simp only[row,d5,c9]
theorem yP8 (x:Int):(nz x).reverse=nz x:=by unfold nz;split<;>rfl
theorem yA7 (k:Nat):∀(L:List bG),row k L.reverse=(row k L).reverse
 | []=>rfl
 | w::L=>by
  have:=yA7 k L;simp only[row] at this ⊢;simp[this,yP8]
theorem yIT (b:Bool) (L:List bG) {q:Nat} (h:q<4):(rows b L)[q]? =some (row q (zM0 b q L)):=by
 match q,h with
 | 0,_=>simp[rows,zM0]
 | 1,_=>cases b<;>simp[rows,zM0,yDX,yA7]
 | 2,_=>simp[rows,zM0]
 | 3,_=>simp[rows,zM0]
theorem rw0 {L:List bG} {o:Options} (Z:1<=o.aJ/\o.aJ<=4) (O:L.length<=4000000000):∀(m k:Nat) (acc:List (List Int)),k+m=o.aJ.toNat->acc.length=k->
  zF (λ(x:Int×(List (List Int)))=>vK o L x.1 x.2) ((k:Int),acc)=some (acc++((rows o.aQ L).take o.aJ.toNat).drop k)
 | 0,k,acc,h,_=>by
  rw[dE (by simp[rows];omega)]
  have e:decide ((k:Int)<o.aJ)=false:=by simp;omega
  refine zL ?_;simp only[vK,e,cN,et]
 | m+1,k,acc,h,ha=>by
  have e:decide ((k:Int)<o.aJ)=true:=by simp;omega
  have D:k<4:=by omega
  have T:=rw1 (o:=o) D O L.length 0 [] (by omega) (by simp);rw[show ((0:Nat):Int)=0 from rfl,d8,dO] at T;rw[zM (x':=(((k+1:Nat):Int),acc++ [row k (zM0 o.aQ k L)])) (by
   simp only[vK,e,cO,T,zA,jY (show acc.length+ [row k (zM0 o.aQ k L)].length<=4294967296 by simp;omega),zJ (k:=k) (by omega)])]
  rw[rw0 Z O m (k+1) _ (by omega) (by simp;omega)]
  have H:k<((rows o.aQ L).take o.aJ.toNat).length:=by simp[rows];omega
  rw[cW H,c9];have Y:=yIT o.aQ L D;have:((rows o.aQ L).take o.aJ.toNat)[k]=row k (zM0 o.aQ k L):=by
   have K:((rows o.aQ L).take o.aJ.toNat)[k]? =some (row k (zM0 o.aQ k L)):=by rw[d6,dG (by omega)];exact Y
   rw[cS H] at K;exact g6 K
  rw[this];rfl
theorem zP0 {l:List aP} (h:l.length<=4000000000) (o:Options):zAY l o=some (wts l (wH o)):=by
 have hb:=yIP (zQQ o);unfold zAY wts;have k:({aJ:=o.aJ,aD:=o.aD,aQ:=o.aQ,aU:=o.aU}:Options)=o:=rfl;rw[k,zZ4,zA];generalize wH o=q at*;rw[z8X hb.2.2 h,zA];have:=rw0 (o:=q) ⟨hb.1,hb.2.1⟩ (L:=trL q.aD false l) (by rw[zSB];exact h) q.aJ.toNat 0 [] (by omega) rfl
 rw[show ((0:Nat):Int)=0 from rfl] at this;rw[this];simp
theorem zW6 {l:List aP} {o:Options} {x:List Int} (h:x∈wts l o):x.length<=l.length:=by
 unfold wts at h;have h:=eD h;have key:∀k,(row k (trL o.aD false l)).length<=l.length:=λk=>by have:=zVE k (trL o.aD false l);rwa [zSB] at this
 simp only[rows,dM,iG,or_false] at h;rcases h with rfl | rfl | rfl | rfl
 exact key 0;unfold yDX;split;rw[gO];exact key 1;exact key 1;exact key 2;exact key 3
theorem z2B {l:List aP} {o:Options} (h:ckO o=0):(wts l o).length=o.aJ.toNat:=by have:=yIP h;unfold wts;simp[rows];omega
open Go.AV
def jn:Nat->List Int->List (List Int)->List Int
 | _,acc,[]=>acc
 | k,acc,x::xs=>jn (k+1) ((if 0<k then acc++ [0] else acc)++x) xs
theorem z2C {N:Nat}:∀(l:List (List Int)) (k:Nat) (acc:List Int),(∀x∈l,x.length<=N)->(jn k acc l).length<=acc.length+l.length*(N+1)
 | [],_,acc,_=>by simp[jn]
 | x::xs,k,acc,h=>by
  have H:=h x (by simp);have K:=z2C xs (k+1) ((if 0<k then acc++ [0] else acc)++x) (λy D=>h y (by simp[D]));have O:((if 0<k then acc++ [0] else acc)++x).length<=acc.length+1+N:=by
   split<;>simp<;>omega
  simp only[jn,dR,eG];omega
theorem ySA {acc:List Int} {k:Nat} (h:acc.length+1<=4294967296):(cond (decide ((0:Int)<(k:Int))) ((app acc [0]).bind λq=>some q) (some acc))=some (if 0<k then acc++ [0] else acc):=by
 by_cases D:0<k;have e:decide ((0:Int)<(k:Int))=true:=by simp;omega
 rw[e,cO,jY (by simpa using h),dG D];rfl;have e:decide ((0:Int)<(k:Int))=false:=by simp;omega
 rw[e,cN,dN D]
section
variable {l:List (List Int)} {N:Nat} (hN:∀x∈l,x.length<=N) (hl:l.length<=1000000)
include hN hl
theorem ySB:∀(m k:Nat) (acc:List Int),k+m=l.length->acc.length+m*(N+1)<=4294967296->zF (λ(x:Int×(List Int))=>zCY l x.1 x.2) ((k:Int),acc)=some (jn k acc (l.drop k))
 | 0,k,acc,h,_=>by
  rw[dE (by omega)];refine zL ?_;simp only[zCY,kH (show l.length<=k by omega),cN,jn]
 | m+1,k,acc,h,H=>by
  have D:k<l.length:=by omega
  have O:=hN _ (eF D);rw[eG] at H;have K:(if 0<k then acc++ [0] else acc).length<=acc.length+1:=by split<;>simp
  rw[zM (x':=(((k+1:Nat):Int),(if 0<k then acc++ [0] else acc)++l[k])) (by
   simp only[zCY,yS D,cO,zU D,zA,ySA (k:=k) (show acc.length+1<=4294967296 by omega),jY (show (if 0<k then acc++ [0] else acc).length+l[k].length<=4294967296 by omega),zJ (k:=k) (by omega)])]
  rw[ySB m (k+1) _ (by omega) (by rw[cX];omega),cW D]
  rfl
theorem yN1:∀(m k:Nat) (acc:List Int),k+m=l.length->acc.length+m*(N+1)<=4294967296->zF (λ(x:Int×(List Int))=>zD1 l x.1 x.2) ((k:Int),acc)=some (jn k acc (l.drop k))
 | 0,k,acc,h,_=>by
  rw[dE (by omega)];refine zL ?_;simp only[zD1,kH (show l.length<=k by omega),cN,jn]
 | m+1,k,acc,h,H=>by
  have D:k<l.length:=by omega
  have O:=hN _ (eF D);rw[eG] at H;have K:(if 0<k then acc++ [0] else acc).length<=acc.length+1:=by split<;>simp
  rw[zM (x':=(((k+1:Nat):Int),(if 0<k then acc++ [0] else acc)++l[k])) (by
   simp only[zD1,yS D,cO,zU D,zA,ySA (k:=k) (show acc.length+1<=4294967296 by omega),jY (show (if 0<k then acc++ [0] else acc).length+l[k].length<=4294967296 by omega),zJ (k:=k) (by omega)])]
  rw[yN1 m (k+1) _ (by omega) (by rw[cX];omega),cW D]
  rfl
end
def idn (t:List Int):List Int:=t.flatMap λc=>if 0<=c/\c<=1114111 then [c+1] else []
theorem yIV (c:Int) {acc:List Int} (h:acc.length+1<=4294967296):(cond (decide (0<=c)&&decide (c<=1114111)) ((app acc [wi (c+1)]).bind λq=>some q) (some acc))=some (acc++if 0<=c/\c<=1114111 then [c+1] else []):=by
 by_cases k:0<=c/\c<=1114111
 ·have e:(decide (0<=c)&&decide (c<=1114111))=true:=by simpa using k
  rw[e,cO,jY (by simpa using h),dG k,xN (by omega) (by omega)];rfl
 ·have e:(decide (0<=c)&&decide (c<=1114111))=false:=by
   cases h:(decide (0<=c)&&decide (c<=1114111)) with
   | false=>rfl
   | true=>exact absurd (by simpa using h) k
  rw[e,cN,dN k,et]
theorem yA8 (c:Int):(if 0<=c/\c<=1114111 then [c+1] else ([]:List Int)).length<=1:=by split<;>simp
theorem ySC {t:List Int} (H:t.length<=1000000):∀(m k:Nat) (acc:List Int),k+m=t.length->acc.length+m<=4294967296->zF (λ(x:Int×(List Int))=>zCZ t x.1 x.2) ((k:Int),acc)=some (acc++idn (t.drop k))
 | 0,k,acc,h,_=>by
  rw[dE (by omega)];refine zL ?_;simp only[zCZ,kH (show t.length<=k by omega),cN,idn,gU,et]
 | m+1,k,acc,h,O=>by
  have D:k<t.length:=by omega
  have K:=yA8 t[k];rw[zM (x':=(((k+1:Nat):Int),acc++if 0<=t[k]/\t[k]<=1114111 then [t[k]+1] else [])) (by
   simp only[zCZ,yS D,cO,zU D,zA,zK,yIV t[k] (show acc.length+1<=4294967296 by omega),zJ (k:=k) (by omega)])]
  rw[ySC H m (k+1) _ (by omega) (by rw[cX];omega),cW D]
  simp only[idn,d5,c9]
def zYM (o:Options) (h:List aP) (t:List Int):List Int:=jn 0 [] (wts h o)++if o.aU=true then [0]++idn t else []
theorem zVF (l:List aP) (o:Options):(wts l o).length<=4:=by unfold wts;simp[rows];omega
theorem yA9 (o:Options):wH (wH o)=wH o:=yNZ (zQQ o)
section
variable {n:Norm} {c:Collation} (hn:NSm n) (hok:wO n) (hs:Sm c) (hg:∀g∈c.aF,g.bT.length<=MX) {text:List Int} (ht:text.length<=2000) (hf:(zGW n false text).length<=2000)
include hn hok hs hg ht hf
theorem yP9 (o:Options):zH0 n c o text=some (zYM (wH o) (wk c (wJ n) (zDE n false text)).1 (zDE n false text)):=by
 unfold zH0 zYM;have T:(zDE n false text).length<=2000:=by rw[zL7];exact hf
 have H:=yH7 (n:=n) hs (text:=text) T;rw[show ({aJ:=o.aJ,aD:=o.aD,aQ:=o.aQ,aU:=o.aU}:Options)=o from rfl,yA5,zA,zT5 hn hok hs hg ht hf,zA,show ({aJ:=(wH o).aJ,aD:=(wH o).aD,aQ:=(wH o).aQ,aU:=(wH o).aU}:Options)=wH o from rfl,zMZ (by omega),yA9,zA];generalize (wk c (wJ n) (zDE n false text)).1=h at*;have Z:=zVF h (wH o);have O:∀x∈wts h (wH o),x.length<=1000000000:=λx Y=>d9 (zW6 Y) H;have k:=ySB O (by omega) (wts h (wH o)).length 0 [] (by omega) (by simp;omega)
 rw[show ((0:Nat):Int)=0 from rfl,d8] at k;have K:=z2C (wts h (wH o)) 0 [] O;simp only[d7] at K;rw[k,zA];cases hi:(wH o).aU with
 | false=>simp
 | true=>
  have h5:(jn 0 [] (wts h (wH o))).length<=4000000004:=by omega
  rw[dD,cN,jY (by simp;omega),zA,z5U hn hok ht hf,zA]
  have D:=ySC (t:=zDE n false text) (by omega) (zDE n false text).length 0 (jn 0 [] (wts h (wH o))++ [0]) (by omega) (by simp;omega)
  rw[show ((0:Nat):Int)=0 from rfl,d8] at D;rw[D,zA,dG rfl,c9]
theorem yDY (o:Options) (s:Int):zBK n c o text s=some (zYM (wH {aJ:=s,aD:=o.aD,aQ:=o.aQ,aU:=false}) (wk c (wJ n) (zDE n false text)).1 (zDE n false text)):=by unfold zBK;rw[yP9 hn hok hs hg ht hf,zA]
end
def nZ:Norm:={aK:=[],aA:=[],aN:={Ranges:=[]}}
theorem z52:NSm nZ:=⟨by decide,by decide,λm h=>(by cases h),λm h=>(by cases h),by decide⟩
theorem zT6:wO nZ:=by unfold wO b9 zWC nZ;simp
theorem yIW:usN nZ=nZ:=by unfold usN;split<;>rfl
theorem ySD:wJ nZ= []:=by rw[zW1,yIW];rfl
open Go.AV
theorem ySE {x y:Int} (h:y∈nz x):y≠0:=by unfold nz at h;split at h;cases h;rw[gx] at h;subst h;assumption
theorem zW7 {k:Nat} {L:List bG} {y:Int} (h:y∈row k L):y≠0:=by obtain⟨w,_,D⟩:=iD.1 h;exact ySE D
theorem z8Y {l:List aP} {o:Options} {x:List Int} (k:x∈wts l o) {y:Int} (h:y∈x):y≠0:=by
 unfold wts at k;have k:=eD k;simp only[rows,dM,iG,or_false] at k;rcases k with rfl | rfl | rfl | rfl
 exact zW7 h;unfold yDX at h;split at h;exact zW7 (List.mem_reverse.1 h);exact zW7 h;exact zW7 h;exact zW7 h
open Go.AV
open Go.AV
theorem rk1 {t:List Int} (H:t.length<=1000000):∀(m k:Nat) (acc:List Int),k+m=t.length->acc.length+m<=4294967296->zF (λ(x:Int×(List Int))=>zEU t x.1 x.2) ((k:Int),acc)=some (acc++idn (t.drop k))
 | 0,k,acc,h,_=>by
  rw[dE (by omega)];refine zL ?_;simp only[zEU,kH (show t.length<=k by omega),cN,idn,gU,et]
 | m+1,k,acc,h,O=>by
  have D:k<t.length:=by omega
  have K:=yA8 t[k];rw[zM (x':=(((k+1:Nat):Int),acc++if 0<=t[k]/\t[k]<=1114111 then [t[k]+1] else [])) (by
   simp only[zEU,vH,yS D,cO,zU D,zA,zK,yIV t[k] (show acc.length+1<=4294967296 by omega),zJ (k:=k) (by omega)])]
  rw[rk1 H m (k+1) _ (by omega) (by rw[cX];omega),cW D]
  simp only[idn,d5,c9]
section
variable {n:Norm} {c:Collation} (hn:NSm n) (hok:wO n) (hs:Sm c) (hg:∀g∈c.aF,g.bT.length<=MX) {text:List Int} (ht:text.length<=2000) (hf:(zGW n false text).length<=900)
include hn hok hs hg ht hf
theorem yDZ (o:Options):zLS n c o text=some (zYM (wH o) (wk c (wJ n) (zDE n false text)).1 (zDE n false text)):=by
 unfold zLS zYM;have Y:(zDE n false text).length<=2000:=by rw[zL7];omega
 have H:=yH7 (n:=n) hs (text:=text) Y;have T:xM n c text=some (wk c (wJ n) (zDE n false text)).1:=by
  unfold xM;rw[zW4 hn hok hs hg ht hf,zA]
 rw[show ({aJ:=o.aJ,aD:=o.aD,aQ:=o.aQ,aU:=o.aU}:Options)=o from rfl,zZ4,zA,T,zA,show ({aJ:=(wH o).aJ,aD:=(wH o).aD,aQ:=(wH o).aQ,aU:=(wH o).aU}:Options)=wH o from rfl,zP0 (by omega),yA9,zA];generalize (wk c (wJ n) (zDE n false text)).1=h at*;have h4:=zVF h (wH o);have O:∀x∈wts h (wH o),x.length<=1000000000:=λx Z=>d9 (zW6 Z) H;have k:=yN1 O (by omega) (wts h (wH o)).length 0 [] (by omega) (by simp;omega)
 rw[show ((0:Nat):Int)=0 from rfl,d8] at k;have K:=z2C (wts h (wH o)) 0 [] O;simp only[d7] at K;unfold zMM;rw[k,zA,zA];cases hi:(wH o).aU with
 | false=>simp
 | true=>
  have h5:(jn 0 [] (wts h (wH o))).length<=4000000004:=by omega
  rw[dD,cN,jY (by simp;omega),zA,z8U hn hok ht hf,zA]
  have D:=rk1 (t:=zDE n false text) (by omega) (zDE n false text).length 0 (jn 0 [] (wts h (wH o))++ [0]) (by omega) (by simp;omega)
  rw[show ((0:Nat):Int)=0 from rfl,d8] at D;rw[D,zA,dG rfl,c9]
end
open Go.AV
def tj (xs:List (List Int)):List Int:=xs.flatMap λy=>0::y
theorem ySF:∀(xs:List (List Int)) (k:Nat) (acc:List Int),0<k->jn k acc xs=acc++tj xs
 | [],_,acc,_=>by simp[jn,tj]
 | x::xs,k,acc,h=>by
  simp only[jn,h,dH];rw[ySF xs (k+1) _ (by omega)];simp[tj]
theorem yQA (x:List Int) (xs:List (List Int)):jn 0 [] (x::xs)=x++tj xs:=by simp only[jn,Nat.lt_irrefl,cY,dO];exact ySF xs 1 x (by omega)
def zz0 (s:List Int):Prop:=s= []\/∃t,s=0::t
theorem z8Z:∀{x y u v:List Int},(∀a∈x,a≠0)->(∀a∈y,a≠0)->zz0 u->zz0 v->x++u=y++v->x=y/\u=v
 | [],[],u,v,_,_,_,_,h=>⟨rfl,h⟩
 | [],b::y,u,v,_,O,D,_,h=>by
  rcases D with rfl | ⟨t,rfl⟩;simp at h;simp only[dO,fH,g8] at h;exact absurd h.1.symm (O b (by simp))
 | a::x,[],u,v,K,_,_,H,h=>by
  rcases H with rfl | ⟨t,rfl⟩;simp at h;simp only[dO,fH,g8] at h;exact absurd h.1 (K a (by simp))
 | a::x,b::y,u,v,K,O,D,H,h=>by
  simp only[fH,g8] at h;obtain⟨T,Y⟩:=z8Z (λq k=>K q (by simp[k])) (λq k=>O q (by simp[k])) D H h.2;exact⟨by rw[h.1,T],Y⟩
theorem z2D {xs:List (List Int)} {s:List Int} (h:zz0 s):zz0 (tj xs++s):=by
 cases xs with
 | nil=>exact h
 | cons x xs=>exact .inr ⟨x++tj xs++s,by simp[tj]⟩
theorem yIX:∀{A B:List (List Int)} {s t:List Int},A.length=B.length->(∀x∈A,∀a∈x,a≠0)->(∀x∈B,∀a∈x,a≠0)->zz0 s->zz0 t->tj A++s=tj B++t->A=B/\s=t
 | [],[],s,t,_,_,_,_,_,h=>⟨rfl,h⟩
 | [],b::B,_,_,k,_,_,_,_,_=>by simp at k
 | a::A,[],_,_,k,_,_,_,_,_=>by simp at k
 | a::A,b::B,s,t,k,H,K,O,T,h=>by
  have e:∀(c:List Int) (C:List (List Int)) (u:List Int),tj (c::C)++u=0::(c++(tj C++u)):=λc C u=>by simp[tj]
  rw[e,e,g8] at h;obtain⟨Y,Z⟩:=z8Z (H a (by simp)) (K b (by simp)) (z2D O) (z2D T) h.2;obtain⟨h3,h4⟩:=yIX (by simpa using k) (λx D=>H x (by simp[D])) (λx D=>K x (by simp[D])) O T Z;exact⟨by rw[Y,h3],h4⟩
theorem yQB {A B:List (List Int)} {s t:List Int} (k:A.length=B.length) (H:∀x∈A,∀a∈x,a≠0) (K:∀x∈B,∀a∈x,a≠0) (O:zz0 s) (T:zz0 t) (h:jn 0 [] A++s=jn 0 [] B++t):A=B/\s=t:=by
 cases A with
 | nil=>cases B with
  | nil=>exact⟨rfl,h⟩
  | cons b B=>simp at k
 | cons a A=>cases B with
  | nil=>simp at k
  | cons b B=>
   rw[yQA,yQA,c9,c9] at h;obtain⟨Y,Z⟩:=z8Z (H a (by simp)) (K b (by simp)) (z2D O) (z2D T) h;obtain⟨h3,h4⟩:=yIX (by simpa using k) (λx D=>H x (by simp[D])) (λx D=>K x (by simp[D])) O T Z;exact⟨by rw[Y,h3],h4⟩
theorem yIY {o:Options} (K:ckO o=0) {A B:List aP} {s t:List Int} (h:zYM o A s=zYM o B t):wts A o=wts B o/\(o.aU=true->idn s=idn t):=by
 unfold zYM at h;have Y:(wts A o).length=(wts B o).length:=by rw[z2B K,z2B K]
 have O:∀u:List Int,zz0 (if o.aU=true then [0]++idn u else []):=λu=>by
  split;exact .inr ⟨idn u,rfl⟩;exact .inl rfl
 obtain⟨T,H⟩:=yQB Y (λx D a k=>z8Y D k) (λx D a k=>z8Y D k) (O s) (O t) h;refine⟨T,λhi=>?_⟩;rw[dG hi,dG hi] at H;exact(List.cons.inj H).2
open Go.AV
noncomputable def eLm (n:Norm) (c:Collation) (t:List Int):List aP:=(wk c (wJ n) (zDE n false t)).1
def TOk (n:Norm) (t:List Int):Prop:=t.length<=2000/\(zGW n false t).length<=900
section
variable {n:Norm} {c:Collation} (hn:NSm n) (hok:wO n) (hs:Sm c) (hg:∀g∈c.aF,g.bT.length<=MX)
include hn hok hs hg
theorem z2E {t:List Int} (h:TOk n t):kE n c t=some (eLm n c t):=zT5 hn hok hs hg h.1 (by have:=h.2;omega)
theorem yIZ {t:List Int} (h:TOk n t):xM n c t=some (eLm n c t):=by unfold xM;rw[zW4 hn hok hs hg h.1 h.2,zA];rfl
end
noncomputable def stE0 (n:Norm) (c:Collation) (o:Options) (a b:List Int):Bool:=decide ((row0 b).length<=(row0 a).length/\(row0 a).take (row0 b).length=row0 b) where
 row0 (t:List Int):List Int:=(wts (eLm n c t) (wH o)).headD []
section
variable {n:Norm} {c:Collation} (hn:NSm n) (hok:wO n) (hs:Sm c) (hg:∀g∈c.aF,g.bT.length<=MX)
include hn hok hs hg
omit hn hok hs hg in
theorem w0 (o:Options) (t:List Int):yD (wts (eLm n c t) (wH o)) (0:Int)=some (stE0.row0 n c o t)/\(stE0.row0 n c o t).length<=(eLm n c t).length:=by
 unfold stE0.row0;have h:=z2B (l:=eLm n c t) (zQQ o);have hb:=yIP (zQQ o);cases k:wts (eLm n c t) (wH o) with
 | nil=>rw[k] at h;simp at h;omega
 | cons x xs=>
  refine⟨rfl,?_⟩;have:x∈wts (eLm n c t) (wH o):=by rw[k];simp
  exact zW6 this
end
open Go.AV
theorem zZ7:∀{a b:List Int},a.Pairwise (· < ·)->b.Pairwise (· < ·)->(∀x,x∈a↔x∈b)->a=b
 | [],[],_,_,_=>rfl
 | [],y::b,_,_,h=>absurd ((h y).2 (by simp)) (by simp)
 | x::a,[],_,_,h=>absurd ((h x).1 (by simp)) (by simp)
 | x::a,y::b,D,hb,h=>by
  rw[eZ] at D hb;have H:x=y:=by
   have h1:=(h x).1 (by simp);have h2:=(h y).2 (by simp);rcases dM.1 h1 with e | h1
   exact e;rcases dM.1 h2 with e | h2
   exact e.symm;have:=hb.1 x h1;have:=D.1 y h2;omega
  subst H;congr 1;refine zZ7 D.2 hb.2 λz=>?_;constructor;intro k;have:=(h z).1 (by simp[k]);rcases dM.1 this with e | h1
  have:=D.1 z k;omega;exact h1;intro k;have:=(h z).2 (by simp[k]);rcases dM.1 this with e | h1
  have:=hb.1 z k;omega;exact h1
section
open Go.Lib
theorem z2F (l:List Int) {j:Nat} (D:j<l.length):keeps l.toArray j=(decide (j=0) ||decide (l[j]≠l[j-1]'(by omega))):=by
 unfold keeps;have h:l.toArray[j]! =l[j]:=by simp[getElem!_pos,D]
 have k:l.toArray[j-1]! =l[j-1]'(by omega):=by
  have:j-1<l.length:=by omega
  simp[getElem!_pos,this]
 rw[h,k];rw[Bool.decide_or]
theorem z54 {l:List Int} {x:Int}:x∈compact l↔x∈l:=by
 unfold compact compactUpTo;simp only[eM,fb,fO];constructor
 rintro⟨j,⟨K,_⟩,rfl⟩
 have:l.toArray[j]! =l[j]:=by simp[getElem!_pos,K]
 rw[this];exact eF K;intro O;have key:∀(n:Nat) (h:n<l.length),∃j,j<=n/\∃K:j<l.length,l[j]=l[n]/\keeps l.toArray j=true:=by
  intro n
  induction n with
  | zero=>intro h;exact⟨0,dC _,h,rfl,by rw[z2F l h];simp⟩
  | succ n T=>
   intro h;by_cases e:l[n+1]=l[n];obtain⟨j,Y,k,D,H⟩:=T (by omega);exact⟨j,by omega,k,D.trans e.symm,H⟩;refine⟨n+1,dC _,h,rfl,?_⟩;rw[z2F l h];simp[e]
 obtain⟨n,h,rfl⟩:=List.mem_iff_getElem.1 O;obtain⟨j,_,k,D,H⟩:=key n h;refine⟨j,⟨k,H⟩,?_⟩;have:l.toArray[j]! =l[j]:=by simp[getElem!_pos,k]
 rw[this,D]
theorem z80 {l:List Int} (h:l.Pairwise (·<=·)):(compact l).Pairwise (· < ·):=by
 unfold compact compactUpTo;rw[List.pairwise_map];refine List.Pairwise.imp_of_mem (R:=λa b=>a<b) ?_ (List.Pairwise.filter _ List.pairwise_lt_range);intro i j hi k T;simp only[fb,fO] at hi k;have K:l.toArray[i]! =l[i]'hi.1:=by simp[getElem!_pos,hi.1]
 have O:l.toArray[j]! =l[j]'k.1:=by simp[getElem!_pos,k.1]
 rw[K,O];have D:=k.2;rw[z2F l k.1] at D;simp only[fP,cZ] at D;have H:=hY.1 h;have Y:l[j-1]'(by omega)<=l[j]'k.1:=H (j-1) j (by omega) k.1 (by omega);have Z:l[i]'hi.1<=l[j-1]'(by omega):=by
  by_cases e:i=j-1;subst e;exact fT _;exact H i (j-1) hi.1 (by omega) (by omega)
 rcases D with D | D;omega;omega
end
def zOP (cuts:List Int) (n:Nat):List Int:=((List.range (n+1)).map λ(k:Nat)=>(k:Int)).filter λx=>decide (x∈cuts)
theorem yQC {cuts:List Int} {n:Nat}:Go.Lib.compact ((cuts.filter λc=>decide (0<=c)&&decide (c<=(n:Int))).mergeSort λx y=>decide (x<=y))=zOP cuts n:=by
 refine zZ7 (z80 ?_) ?_ λx=>?_;have:=List.pairwise_mergeSort (le:=λx y:Int=>decide (x<=y)) (λa b c D H=>by simp at D H ⊢;omega) (λa b=>by simp;omega) (cuts.filter λc=>decide (0<=c)&&decide (c<=(n:Int)))
 exact this.imp λh=>by simpa using h
 unfold zOP;refine List.Pairwise.filter _ ?_;rw[List.pairwise_map];exact List.pairwise_lt_range.imp λh=>by omega
 rw[z54,List.mem_mergeSort,fb];unfold zOP;simp only[fb,eM,fO,dL,cZ];constructor
 rintro⟨D,H,K⟩
 exact⟨⟨x.toNat,by omega,by omega⟩,D⟩
 rintro⟨⟨k,O,rfl⟩,D⟩
 exact⟨D,by omega,by omega⟩
section
variable {α:Type} (mk:Int->Int->α) (m:Int->Int->Bool)
def z81:List Int->List α
 | []=>[]
 | lo::rest=>(match rest.find? (m lo) with
  | some hi=>[mk lo hi]
  | none=>[])++z81 rest
def zLI (cuts:List Int) (size:Nat) (k n:Nat):List α:=
 (List.range' k n).flatMap λ(f:Nat)=>if decide ((f:Int)∈cuts)=true then
  match ((List.range' (f+1) (size-f)).find? λ(t:Nat)=>decide ((t:Int)∈cuts)&&m (f:Int) (t:Int)) with
  | some t=>[mk (f:Int) (t:Int)]
  | none=>[]
 else []
theorem zTJ (cuts:List Int) (f:Nat):∀(L:List Nat),((L.map λ(k:Nat)=>(k:Int)).filter λx=>decide (x∈cuts)).find? (m (f:Int))=((L.find? λ(t:Nat)=>decide ((t:Int)∈cuts)&&m (f:Int) (t:Int)).map λ(k:Nat)=>(k:Int))
 | []=>rfl
 | a::L=>by
  rw[eA,ib,ir];by_cases h:(a:Int)∈cuts;simp only[h,dA,dH,dK];rw[ir];cases m (f:Int) (a:Int) with
  | true=>rfl
  | false=>exact zTJ cuts f L
  simp only[h,dF,dQ,cY,dP];exact zTJ cuts f L
theorem zZ8 (cuts:List Int) (size:Nat):∀(n k:Nat),k+n=size+1->z81 mk m (((List.range' k n).map λ(k:Nat)=>(k:Int)).filter λx=>decide (x∈cuts))=zLI mk m cuts size k n
 | 0,k,_=>rfl
 | n+1,k,h=>by
  have H:=zZ8 cuts size n (k+1) (by omega);unfold zLI at H ⊢;rw[ie,eA,ib,d5,<-H];have K:size-k=n:=by omega
  by_cases D:(k:Int)∈cuts;simp only[D,dA,dH];rw[z81,zTJ,K];congr 1;cases (List.range' (k+1) n).find? (λ(t:Nat)=>decide ((t:Int)∈cuts)&&m (k:Int) (t:Int))<;>rfl;simp only[D,dF,dQ,cY,dO]
theorem yI0 (cuts:List Int) (size:Nat):z81 mk m (zOP cuts size)=zLI mk m cuts size 0 size:=by unfold zOP;have h:=zZ8 mk m cuts size (size+1) 0 (by omega);rw[<-gH] at h;rw[h];unfold zLI;rw[<-gH,List.range_succ,List.flatMap_append,<-gH];simp
end
open Go.AV
theorem zSC {D:Type} [Inhabited D] {a b:List D} (K:a.length=b.length):(∀j,j<a.length->nth a j=nth b j)↔a=b:=by
 constructor;intro h;apply ia K;intro i k H;have:=h i k
 rwa [zBQ k,zBQ H] at this
 intro h j _;rw[h]
theorem yBA {a b:List Int} (T:a.length<=1000000000):xE a b=some (decide (a=b)):=by
 unfold xE;by_cases O:a.length=b.length;have H:(!decide ((a.length:Int)=(b.length:Int)))=false:=by simp[O]
 rw[H,cN];have h:=kJ (body:=λ(x:Int)=>wC a b x) a.length (λj=>nth a j=nth b j) (λy=>y=false) (λj D=>by
  have K:j<b.length:=by omega
  simp only[wC,yS D,cO,zX D,zX K,zA,zJ (k:=j) (by omega)];exact w6 (by simp) rfl) (λj D=>by simp only[wC,kH D,cN])
 rw[zSC O] at h;rcases h with ⟨h,p⟩ | ⟨y,rfl,h,p⟩
 rw[h];simp[p];rw[h];simp[p];have H:(!decide ((a.length:Int)=(b.length:Int)))=true:=by simp;omega
 rw[H,cO];have:a≠b:=λe=>O (by rw[e]);simp[this]
theorem zTK {a b:List aP} (T:a.length<=1000000000):yK a b=some (decide (a=b)):=by
 unfold yK;by_cases O:a.length=b.length;have H:(!decide ((a.length:Int)=(b.length:Int)))=false:=by simp[O]
 rw[H,cN];have h:=kJ (body:=λ(x:Int)=>kB a b x) a.length (λj=>nth a j=nth b j) (λy=>y=false) (λj D=>by
  have K:j<b.length:=by omega
  simp only[kB,yS D,cO,zX D,zX K,zA,zJ (k:=j) (by omega)];exact w6 (by simp) rfl) (λj D=>by simp only[kB,kH D,cN])
 rw[zSC O] at h;rcases h with ⟨h,p⟩ | ⟨y,rfl,h,p⟩
 rw[h];simp[p];rw[h];simp[p];have H:(!decide ((a.length:Int)=(b.length:Int)))=true:=by simp;omega
 rw[H,cO];have:a≠b:=λe=>O (by rw[e]);simp[this]
theorem yQD {a b:List (List Int)} (Y:a.length<=1000000000) (T:∀x∈a,x.length<=1000000000):jT a b (λx0 x1=>xE x0 x1)=some (decide (a=b)):=by
 unfold jT;by_cases O:a.length=b.length;have H:(!decide ((a.length:Int)=(b.length:Int)))=false:=by simp[O]
 rw[H,cN];have h:=kJ (body:=λ(x:Int)=>kW a b (λx0 x1=>xE x0 x1) x) a.length (λj=>nth a j=nth b j) (λy=>y=false) (λj D=>by
  have K:j<b.length:=by omega
  simp only[kW,yS D,cO,zX D,zX K,zA,yBA (T _ (vT D)),zJ (k:=j) (by omega)];exact w6 (by simp) rfl) (λj D=>by simp only[kW,kH D,cN])
 rw[zSC O] at h;rcases h with ⟨h,p⟩ | ⟨y,rfl,h,p⟩
 rw[h];simp[p];rw[h];simp[p];have H:(!decide ((a.length:Int)=(b.length:Int)))=true:=by simp;omega
 rw[H,cO];have:a≠b:=λe=>O (by rw[e]);simp[this]
theorem z82 {a b:List Range} (T:a.length<=1000000000):zBJ a b=some (decide (a=b)):=by
 unfold zBJ;by_cases O:a.length=b.length;have H:(!decide ((a.length:Int)=(b.length:Int)))=false:=by simp[O]
 rw[H,cN];have h:=kJ (body:=λ(x:Int)=>zDU a b x) a.length (λj=>nth a j=nth b j) (λy=>y=false) (λj D=>by
  have K:j<b.length:=by omega
  simp only[zDU,yS D,cO,zX D,zX K,zA,zJ (k:=j) (by omega)];exact w6 (by simp) rfl) (λj D=>by simp only[zDU,kH D,cN])
 rw[zSC O] at h;rcases h with ⟨h,p⟩ | ⟨y,rfl,h,p⟩
 rw[h];simp[p];rw[h];simp[p];have H:(!decide ((a.length:Int)=(b.length:Int)))=true:=by simp;omega
 rw[H,cO];have:a≠b:=λe=>O (by rw[e]);simp[this]
theorem cfi {l:List Int} (O:l.length<=1000000000) {f:Int->Option Bool} (q:Int->Bool) (H:∀x,f x=some (q x)):xZ l f=some (l.any q):=by
 unfold xZ uT;have h:=kJ (body:=λ(x:Int)=>jZ l f x) l.length (λj=>q (nth l j)=false) (λy=>0<=y) (λj D=>by
  simp only[jZ,yS D,cO,zX D,zA,H,zJ (k:=j) (by omega)];exact w6 (by simp) (by omega)) (λj D=>by simp only[jZ,kH D,cN])
 rw[zAW (p:=λx=>q x=false)] at h;have e:(¬∀x∈l,q x=false)↔l.any q=true:=by simp
 rcases h with ⟨h,p⟩ | ⟨y,K,h,p⟩;rw[h];have:l.any q=false:=by simpa using p
 rw[this];rfl;rw[h,e.1 p];simp[K]
theorem cfr {l:List (List Int)} (O:l.length<=1000000000) {f:List Int->Option Bool} (q:List Int->Bool) (H:∀x,f x=some (q x)):jN l f=some (l.any q):=by
 unfold jN vQ;have h:=kJ (body:=λ(x:Int)=>jM l f x) l.length (λj=>q (nth l j)=false) (λy=>0<=y) (λj D=>by
  simp only[jM,yS D,cO,zX D,zA,H,zJ (k:=j) (by omega)];exact w6 (by simp) (by omega)) (λj D=>by simp only[jM,kH D,cN])
 rw[zAW (p:=λx=>q x=false)] at h;have e:(¬∀x∈l,q x=false)↔l.any q=true:=by simp
 rcases h with ⟨h,p⟩ | ⟨y,K,h,p⟩;rw[h];have:l.any q=false:=by simpa using p
 rw[this];rfl;rw[h,e.1 p];simp[K]
theorem z55 {l:List Int} (O:l.length<=1000000000) (v:Int):zRG l v=some (decide (v∈l)):=by
 unfold zRG;have h:=kJ (body:=λ(x:Int)=>zKZ l v x) l.length (λj=>nth l j≠v) (λy=>y=true) (λj D=>by
  simp only[zKZ,yS D,cO,zX D,zA,zJ (k:=j) (by omega)];exact w6 (by simp) rfl) (λj D=>by simp only[zKZ,kH D,cN])
 rw[zAW (p:=λx=>x≠v)] at h;rcases h with ⟨h,p⟩ | ⟨y,rfl,h,p⟩
 rw[h];have:¬v∈l:=λH=>p v H rfl;simp[this];rw[h];have:v∈l:=Classical.byContradiction λH=>p λx K e=>H (e▸K);simp[this]
theorem yI1 {l:List Int} (h:l.length<=1000000000) (v:Int):zOC l v=some (decide (v∈l)):=z55 h v
theorem yMU {a b c:List aP} (h:a.length+b.length+c.length<=1000000):jC [a,b,c]=some (a++b++c):=by
 unfold jC;have w1:wi (0+(a.length:Int))=((a.length:Nat):Int):=by rw[xN (by omega) (by omega)];omega
 have w2:wi ((a.length:Int)+(b.length:Int))=((a.length+b.length:Nat):Int):=by rw[xN (by omega) (by omega)];omega
 have w3:wi (((a.length+b.length:Nat):Int)+(c.length:Int))=((a.length+b.length+c.length:Nat):Int):=by rw[xN (by omega) (by omega)];omega
 have n0:∀k:Nat,decide ((k:Int)<0)=false:=λk=>by simp
 have l0:∀v:Int,yN [a,b,c] v 3=some (.done v):=λv=>rfl;have i0:yD [a,b,c] (0:Int)=some a:=rfl;have i1:yD [a,b,c] (1:Int)=some b:=rfl;have i2:yD [a,b,c] (2:Int)=some c:=rfl;have D:decide ((0:Int)<(([a,b,c]:List (List aP)).length:Int))=true:=rfl;have H:decide ((1:Int)<(([a,b,c]:List (List aP)).length:Int))=true:=rfl;have K:decide ((2:Int)<(([a,b,c]:List (List aP)).length:Int))=true:=rfl;have O:wi (0+1)=1:=by decide
 have T:wi (1+1)=2:=by decide
 have Y:wi (2+1)=3:=by decide
 rw[zM (x':=(((a.length:Nat):Int),(1:Int))) (by simp only[yN,D,cO,i0,zA,w1,n0,cN,O])];rw[zM (x':=(((a.length+b.length:Nat):Int),(2:Int))) (by simp only[yN,H,cO,i1,zA,w2,n0,cN,T])];rw[zM (x':=(((a.length+b.length+c.length:Nat):Int),(3:Int))) (by simp only[yN,K,cO,i2,zA,w3,n0,cN,Y])];rw[zL (l0 _),zA];have Z:z36 ((a.length+b.length+c.length:Nat):Int)=some ():=by unfold z36;rw[dG (by omega)]
 rw[Z,zA];rw[zM (x':=((1:Int),a)) (by simp only[kA,D,cO,i0,zA,jY (l:=[]) (m:=a) (by simp;omega),O,dO])]
 rw[zM (x':=((2:Int),a++b)) (by simp only[kA,H,cO,i1,zA,jY (l:=a) (m:=b) (by omega),T])];rw[zM (x':=((3:Int),a++b++c)) (by simp only[kA,K,cO,i2,zA,jY (l:=a++b) (m:=c) (by simp;omega),Y])]
 rw[zL (y:=a++b++c) rfl];rfl
theorem yQE {cuts:List Int} {n:Nat} (K:cuts.length<=1000):∀(m k:Nat) (acc:List Int),k+m=cuts.length->acc.length<=k->
  zF (λ(x:Int×(List Int))=>wP cuts (n:Int) x.1 x.2) ((k:Int),acc)=some (acc++(cuts.drop k).filter λc=>decide (0<=c)&&decide (c<=(n:Int)))
 | 0,k,acc,h,O=>by
  have:k=cuts.length:=by omega
  subst this;rw[gB,List.filter_nil,et];exact zL (by simp only[wP,kH (dC _),cN])
 | m+1,k,acc,h,O=>by
  have D:k<cuts.length:=by omega
  rw[cW D,ib];by_cases H:(decide (0<=cuts[k])&&decide (cuts[k]<=(n:Int)))=true
  ·rw[zM (x':=(((k+1:Nat):Int),acc++ [cuts[k]])) (by simp only[wP,yS D,cO,zU D,zA,zK,H,jY (l:=acc) (m:=[cuts[k]]) (by simp;omega),zJ (k:=k) (by omega)])]
   rw[yQE K m (k+1) _ (by omega) (by simp;omega),dG H,c9]
   rfl
  ·rw[gS] at H
   rw[zM (x':=(((k+1:Nat):Int),acc)) (by simp only[wP,yS D,cO,zU D,zA,zK,H,cN,zJ (k:=k) (by omega)])];rw[yQE K m (k+1) _ (by omega) (by omega),dN (by rw[H];exact Bool.false_ne_true)]
theorem z2G {cuts:List Int} {n:Nat} (k:cuts.length<=1000):zCQ cuts (n:Int)=some (zOP cuts n):=by
 unfold zCQ;have h:=yQE (n:=n) k cuts.length 0 [] (by omega) (by simp);rw[show ((0:Nat):Int)=0 from rfl,d8,dO] at h;have D:=g9 (λc=>decide (0<=c)&&decide (c<=(n:Int))) cuts;rw[h,zA];unfold z9N;rw[dG (by unfold LIM;omega),zA]
 unfold z9O;rw[dG (by rw[List.length_mergeSort];unfold LIM;omega),zA,yQC]
theorem ySG {es:List bP} (k:Vd es) (codes:List Int):(zEB es codes).1.length<=20:=by
 unfold zEB;cases h:es.find? (λx=>decide (x.aY=codes)) with
 | none=>simp
 | some x=>exact k.el x (fK h)
theorem ySH (d:Collation) (h:Int):(zUS d h).length<=20:=by unfold zUS;cases vld h<;>simp
theorem yMV {c:Collation} (h:Sm c) {l:List bM} (text:List Int):(stE c l text).2.2.length<=20:=by unfold stE;split;exact ySH _ _;exact ySG (z1Q h) _
theorem ySI {c:Collation} (H:Sm c) {l:List bM}:∀(k:Nat) (text:List Int),text.length<=k->(wk c l text).1.length<=20*text.length
 | 0,text,h=>by
  have:text= []:=cP (by omega);subst this;rw[zOO];simp
 | k+1,text,h=>by
  by_cases D:text= [];subst D;rw[zOO];simp;have K:=zZZ (c:=c) (l:=l) D;have O:=ySI H (l:=l) k _ (show (stE c l text).2.1.length<=k by omega);have T:=yMV H (l:=l) text;rw[zU7 D];show ((stE c l text).2.2++(wk c l (stE c l text).2.1).1).length<=_;rw[cX];omega
theorem zNI {n:Norm} {c:Collation} (k:Sm c) {t:List Int} (h:TOk n t):(eLm n c t).length<=18000:=by have:=ySI k (l:=wJ n) _ (zDE n false t) (dC _);rw[zL7] at this;have:=h.2;unfold eLm;omega
open Go.AV
noncomputable def wT (n:Norm) (c:Collation) (o:Options) (t:List Int):List (List Int):=wts (eLm n c t) (wH o)
def zKH (A:List (List Int)):Bool:=A.any λr=>decide (0<(r.length:Int))
noncomputable def kS (n:Norm) (c:Collation) (o:Options) (t:List Int):List Int:=jn 0 [] (wT n c o t)
def oP (o:Options):Options:={aJ:=o.aJ,aD:=o.aD,aQ:=o.aQ,aU:=false}
theorem z83 (l:List aP) (o:Options):wts l (wH (oP o))=wts l (wH o):=by unfold wH;have:ckO (oP o)=ckO o:=rfl;rw[this];split<;>rfl
theorem ySJ (o:Options):(wH (oP o)).aU=false:=by unfold wH;split<;>rfl
theorem zVG (n:Norm) (c:Collation) (o:Options) (t u:List Int):zYM (wH (oP o)) (eLm n c t) u=kS n c o t:=by unfold zYM kS wT;rw[z83,dN (by rw[ySJ];exact Bool.false_ne_true),et]
theorem yI2 {n:Norm} {c:Collation} {o:Options} {a b:List Int}:kS n c o a=kS n c o b↔wT n c o a=wT n c o b:=by
 constructor;intro h;rw[<-zVG n c o a [],<-zVG n c o b []] at h;have:=(yIY (zQQ (oP o)) h).1
 rwa [z83,z83] at this
 intro h;unfold kS;rw[h]
theorem ySK {n:Norm} {c:Collation} {o:Options} {t:List Int} {x:List Int} (h:x∈wT n c o t):x.length<=(eLm n c t).length:=zW6 h
theorem zVH (n:Norm) (c:Collation) (o:Options) (t:List Int):(wT n c o t).length<=4:=zVF _ _
theorem yI3:∀(A:List (List Int)),(∀x∈A,∀a∈x,a≠0)->(tj A).any (λw=>!decide (w=0))=zKH A
 | [],_=>rfl
 | x::A,h=>by
  have k:=yI3 A λy D=>h y (by simp[D]);unfold zKH at k ⊢;rw[ik,<-k];show ((0::x)++tj A).any _=_;rw[List.any_append,ik];congr 1;cases x with
  | nil=>rfl
  | cons a x=>
   have:=h (a::x) (by simp) a (by simp);simp[this]
theorem yQF (n:Norm) (c:Collation) (o:Options) (t:List Int):(kS n c o t).any (λw=>!decide (w=0))=zKH (wT n c o t):=by
 have k:∀x∈wT n c o t,∀a∈x,a≠0:=λx K a D=>z8Y K D;unfold kS;cases H:wT n c o t with
 | nil=>rfl
 | cons x A=>
  rw[H] at k;have h:=yI3 (x::A) k;rw[<-h,yQA];show _=((0::x)++tj A).any _;rw[fH,ik];rfl
section
variable {n:Norm} {c:Collation} (hn:NSm n) (hok:wO n) (hs:Sm c) (hg:∀g∈c.aF,g.bT.length<=MX)
include hn hok hs hg
omit hn hok hg in
theorem yI4 (o:Options) {t:List Int} (h:TOk n t):(kS n c o t).length<=100000:=by
 have K:=zNI hs h;have k:=z2C (N:=18000) (wT n c o t) 0 [] (λx H=>by have:=ySK H;omega)
 have D:=zVH n c o t;have O:(wT n c o t).length*(18000+1)<=4*(18000+1):=dU _ D;unfold kS;simp only[d7] at k;omega
theorem yI5 (o:Options) {t:List Int} (h:TOk n t):zBK n c o t o.aJ=some (kS n c o t):=by
 rw[yDY hn hok hs hg h.1 (by have:=h.2;omega)]
 exact congrArg some (zVG n c o t _)
theorem z2H (o:Options) {t:List Int} (h:TOk n t):zDI n c o t o.aJ=some (kS n c o t):=by unfold zDI;rw[yDZ hn hok hs hg h.1 h.2,zA];exact congrArg some (zVG n c o t _)
theorem zVI (o:Options) {t:List Int} (h:TOk n t):zFV n c o t=some (kS n c o t):=by unfold zFV;rw[z2H hn hok hs hg o h,zA]
omit hn hok hg in
theorem yI6 (o:Options) {a b:List Int} (h:TOk n a):uA (kS n c o a) (kS n c o b)=some (decide (wT n c o a=wT n c o b)):=by
 rw[zWS (by have:=yI4 (c:=c) hs o h;omega)]
 simp only[yI2]
theorem yBB (o:Options) {t:List Int} (h:TOk n t):zHD n c o t=some (zKH (wT n c o t)):=by
 unfold zHD;have O:=zNI (c:=c) hs h;rw[yIZ hn hok hs hg h,zA,zP0 (by omega),zA];show (zF (λ(x:Int)=>zCJ (wT n c o t) x) 0).bind _=_;have K:=zVH n c o t;have h:=kJ (body:=λ(x:Int)=>zCJ (wT n c o t) x) (wT n c o t).length (λj=>decide (0<((nth (wT n c o t) j).length:Int))=false) (λy=>y=true) (λj D=>by
  simp only[zCJ,yS D,cO,zX D,zA,zJ (k:=j) (by omega)];exact w6 (by simp only[Bool.not_eq_false]) rfl) (λj D=>by simp only[zCJ,kH D,cN])
 rw[zAW (p:=λx:List Int=>decide (0<(x.length:Int))=false)] at h;have e:(¬∀x∈wT n c o t,decide (0<(x.length:Int))=false)↔zKH (wT n c o t)=true:=by unfold zKH;simp only[fU,Classical.not_forall,Bool.not_eq_false,exists_prop]
 rcases h with ⟨h,p⟩ | ⟨y,rfl,h,p⟩;rw[h];have:zKH (wT n c o t)=false:=by
  cases H:zKH (wT n c o t) with
  | false=>rfl
  | true=>exact absurd p (e.2 H)
 rw[this];rfl;rw[h,e.1 p];rfl
theorem zPC (o:Options) {a b:List Int} (h:TOk n a) (hb:TOk n b):w7 n c o a b=some (zKH (wT n c o a)&&decide (wT n c o a=wT n c o b)):=by unfold w7;have k:=yI4 (c:=c) hs o h;rw[yI5 hn hok hs hg o h,zA,yI5 hn hok hs hg o hb,zA,cfi (f:=λx0=>zGA x0) (by omega) (λw=>!decide (w=0)) (λx=>rfl),zA,zK,yQF,yBA (by omega)];simp only[yI2];cases zKH (wT n c o a)<;>simp[gM]
theorem yD0 (o:Options) {a b:List Int} (h:TOk n a) (hb:TOk n b):zIB n c o a b=some (zKH (wT n c o a)&&decide (wT n c o a=wT n c o b)):=by
 unfold zIB;rw[yBB hn hok hs hg o h,zA,zK];cases zKH (wT n c o a) with
 | false=>rfl
 | true=>simp only[xB,zVI hn hok hs hg o h,zVI hn hok hs hg o hb,zA,yI6 hs o h]
end
open Go.AV
def sl (t:List Int) (lo hi:Int):List Int:=(t.take hi.toNat).drop lo.toNat
noncomputable def whB (n:Norm) (c:Collation) (t:List Int) (lo hi:Int):Bool:=decide (eLm n c (t.take lo.toNat)++eLm n c (sl t lo hi)++eLm n c (t.drop hi.toNat)=eLm n c t)
noncomputable def mB (n:Norm) (c:Collation) (o:Options) (p t:List Int) (lo hi:Int):Bool:=decide (wT n c o (sl t lo hi)=wT n c o p)&&whB n c t lo hi
def mkR (lo hi:Int):Range:={Lo:=lo,Hi:=hi}
section
variable {n:Norm} {c:Collation} (hn:NSm n) (hok:wO n) (hs:Sm c) (hg:∀g∈c.aF,g.bT.length<=MX)
include hn hok hs hg
omit hs hg in
theorem tk0 {t:List Int} (h:t.length<=12):TOk n t:=⟨by omega,by have:=yDP hn hok false t;omega⟩
omit hs hg in
theorem tk1 {t:List Int} (h:t.length<=12) (k:Nat):TOk n (t.take k):=tk0 hn hok (by rw[dZ];omega)
omit hs hg in
theorem tk2 {t:List Int} (h:t.length<=12) (k:Nat):TOk n (t.drop k):=tk0 hn hok (by rw[eH];omega)
omit hs hg in
theorem tk3 {t:List Int} (h:t.length<=12) (lo hi:Int):TOk n (sl t lo hi):=tk0 hn hok (by unfold sl;rw[eH,dZ];omega)
theorem zW8 {t:List Int} (k:t.length<=12) (r:Range):w8 n c t r=some (decide (0<=r.Lo/\r.Lo<=r.Hi/\r.Hi<=(t.length:Int))&&whB n c t r.Lo r.Hi):=by
 unfold w8;rw[zK,zK];by_cases h:0<=r.Lo/\r.Lo<=r.Hi/\r.Hi<=(t.length:Int)
 ·obtain⟨D,H,K⟩:=h
  have e:((decide (r.Lo<0) ||decide (r.Hi<r.Lo)) ||decide ((t.length:Int)<r.Hi))=false:=by simp;omega
  have O:slc t 0 r.Lo=some (t.take r.Lo.toNat):=by unfold slc;rw[dG (by omega)];simp
  have T:slc t r.Lo r.Hi=some (sl t r.Lo r.Hi):=by unfold slc;rw[dG (by omega)];rfl
  have Y:slc t r.Hi (t.length:Int)=some (t.drop r.Hi.toNat):=by unfold slc;rw[dG (by omega)];simp
  have Z:=zNI (c:=c) hs (tk1 hn hok k r.Lo.toNat);have l2:=zNI (c:=c) hs (tk3 hn hok k r.Lo r.Hi);have l3:=zNI (c:=c) hs (tk2 hn hok k r.Hi.toNat);rw[e,cN,O,zA,z2E hn hok hs hg (tk1 hn hok k _),zA,T,zA,z2E hn hok hs hg (tk3 hn hok k _ _),zA,Y,zA,z2E hn hok hs hg (tk2 hn hok k _),zA,yMU (by omega),zA,z2E hn hok hs hg (tk0 hn hok k),zA,zTK (by simp only[cX];omega),zA]
  simp only[D,H,K,iv,dA,dK];rfl
 ·have e:((decide (r.Lo<0) ||decide (r.Hi<r.Lo)) ||decide ((t.length:Int)<r.Hi))=true:=by
   simp only[fP,cZ];omega
  rw[e,cO];simp only[h,dF,dP]
theorem yD1 {t:List Int} (D:t.length<=12) (r:Range):zN9 n c t r=some (decide (0<=r.Lo/\r.Lo<=r.Hi/\r.Hi<=(t.length:Int))&&whB n c t r.Lo r.Hi):=by
 unfold zN9;rw[zK,zK];by_cases h:0<=r.Lo/\r.Lo<=r.Hi/\r.Hi<=(t.length:Int)
 ·obtain⟨Y,Z,h3⟩:=h
  have e:((decide (r.Lo<0) ||decide (r.Hi<r.Lo)) ||decide ((t.length:Int)<r.Hi))=false:=by simp;omega
  have s1:slc t 0 r.Lo=some (t.take r.Lo.toNat):=by unfold slc;rw[dG (by omega)];simp
  have s2:slc t r.Lo r.Hi=some (sl t r.Lo r.Hi):=by unfold slc;rw[dG (by omega)];rfl
  have s3:slc t r.Hi (t.length:Int)=some (t.drop r.Hi.toNat):=by unfold slc;rw[dG (by omega)];simp
  have l1:=zNI (c:=c) hs (tk1 hn hok D r.Lo.toNat);have l2:=zNI (c:=c) hs (tk3 hn hok D r.Lo r.Hi);have l3:=zNI (c:=c) hs (tk2 hn hok D r.Hi.toNat);have l0:=zNI (c:=c) hs (tk0 hn hok D);rw[e,cN,yIZ hn hok hs hg (tk0 hn hok D),zA,s1,zA,yIZ hn hok hs hg (tk1 hn hok D _),zA,jY (by simp;omega),zA,dO,s2,zA,yIZ hn hok hs hg (tk3 hn hok D _ _),zA,jY (by omega),zA,s3,zA,yIZ hn hok hs hg (tk2 hn hok D _),zA,jY (by simp only[cX];omega),zA]
  simp only[Y,Z,h3,iv,dA,dK];unfold whB;generalize eLm n c (t.take r.Lo.toNat)++eLm n c (sl t r.Lo r.Hi)++eLm n c (t.drop r.Hi.toNat)=b;generalize eLm n c t=a at l0 ⊢;by_cases T:a.length=b.length
  ·have K:(!decide ((a.length:Int)=(b.length:Int)))=false:=by simp[T]
   rw[K,cN];have h:=kJ (body:=λ(x:Int)=>zGF a b x) a.length (λj=>nth a j=nth b j) (λy=>y=false) (λj H=>by
    have O:j<b.length:=by omega
    simp only[zGF,yS H,cO,zX H,zX O,zA,zJ (k:=j) (by omega)];exact w6 (by simp) rfl) (λj H=>by simp only[zGF,kH H,cN])
   rw[zSC T] at h;rcases h with ⟨h,p⟩ | ⟨y,rfl,h,p⟩
   ·rw[h];simp[p]
   ·have p':¬b=a:=λe=>p e.symm
    rw[h];simp[p']
  ·have K:(!decide ((a.length:Int)=(b.length:Int)))=true:=by simp;omega
   rw[K,cO];have:b≠a:=λe=>T (by rw[e]);simp[this]
 ·have e:((decide (r.Lo<0) ||decide (r.Hi<r.Lo)) ||decide ((t.length:Int)<r.Hi))=true:=by
   simp only[fP,cZ];omega
  rw[e,cO];simp only[h,dF,dP]
def yUO (f:Int):Option Nat->Unit⊕(Bool×Int×Int)
 | some t=> .inr (true,f,(t:Int))
 | none=> .inl ()
theorem yI7 (o:Options) {p t cuts:List Int} (Z:TOk n p) (O:t.length<=12) (hc:cuts.length<=1000) {f:Nat} (hf:f<=t.length):∀(m k:Nat),k+m=t.length+1->f<k->
  zF (λ(x:Int)=>zEN t cuts (f:Int) n c o p x) (k:Int)=some (yUO (f:Int) ((List.range' k m).find? λ(q:Nat)=>decide ((q:Int)∈cuts)&&mB n c o p t (f:Int) (q:Int)))
 | 0,k,h,_=>by
  have e:decide ((k:Int)<=(t.length:Int))=false:=by simp;omega
  exact zL (by simp only[zEN,e,cN];rfl)
 | m+1,k,h,hk=>by
  have e:decide ((k:Int)<=(t.length:Int))=true:=by simp;omega
  have ih:=yI7 o Z O hc hf m (k+1) (by omega) (by omega);have s2:slc t (f:Int) (k:Int)=some (sl t (f:Int) (k:Int)):=by unfold slc;rw[dG (by omega)];rfl
  have hw:=yD1 hn hok hs hg O ({Lo:=(f:Int),Hi:=(k:Int)}:Range);have H:decide (0<=({Lo:=(f:Int),Hi:=(k:Int)}:Range).Lo/\({Lo:=(f:Int),Hi:=(k:Int)}:Range).Lo<=({Lo:=(f:Int),Hi:=(k:Int)}:Range).Hi/\({Lo:=(f:Int),Hi:=(k:Int)}:Range).Hi<=(t.length:Int))=true:=by simp;omega
  rw[H,dK] at hw;have D:zEN t cuts (f:Int) n c o p (k:Int)=cond (decide ((k:Int)∈cuts)&&mB n c o p t (f:Int) (k:Int)) (some (.done (.inr (true,(f:Int),(k:Int))))) (some (.next ((k+1:Nat):Int))):=by
   have K:wi ((k:Int)+1)=((k+1:Nat):Int):=zJ (by omega);unfold zEN;rw[e,cO,z55 (by omega),zA,zK];by_cases T:(k:Int)∈cuts
   ·simp only[T,dA,xB,s2,zA,zVI hn hok hs hg o (tk3 hn hok O _ _),zVI hn hok hs hg o Z,yI6 hs o (tk3 hn hok O _ _),dK,zK]
    unfold mB;by_cases Y:wT n c o (sl t (f:Int) (k:Int))=wT n c o p
    ·simp only[Y,dA,xB,hw,zA,dK]
     rw[K]
    ·simp only[Y,dF,vB,zA,dP,cN]
     rw[K]
   ·simp only[T,dF,vB,zA,dP,zK,cN]
    rw[K]
  rw[ie,ir];cases hq:(decide ((k:Int)∈cuts)&&mB n c o p t (f:Int) (k:Int)) with
  | true=>
   rw[hq] at D;exact zL D
  | false=>
   rw[hq] at D;rw[zM (x':=((k+1:Nat):Int)) D];exact ih
theorem yI8 (o:Options) {p t cuts:List Int} (D:TOk n p) (H:t.length<=12) (h:cuts.length<=1000) {f:Nat} (K:f<t.length):zOA n c o p t cuts (f:Int)=some (match ((List.range' (f+1) (t.length-f)).find? λ(q:Nat)=>decide ((q:Int)∈cuts)&&mB n c o p t (f:Int) (q:Int)) with
  | some q=>(mkR (f:Int) (q:Int),true)
  | none=>(mkR 0 0,false)):=by
 unfold zOA;rw[zJ (k:=f) (by omega),yI7 hn hok hs hg o D H h (by omega) (t.length-f) (f+1) (by omega) (by omega),zA];cases (List.range' (f+1) (t.length-f)).find? (λ(q:Nat)=>decide ((q:Int)∈cuts)&&mB n c o p t (f:Int) (q:Int))<;>rfl
theorem yMX (o:Options) {p t cuts:List Int} (Y:TOk n p) (Z:t.length<=12) (K:cuts.length<=1000):∀(m k:Nat) (acc:List Range),k+m=t.length->acc.length<=k->
  zF (λ(x:Int×(List Range))=>zEV t cuts n c o p x.1 x.2) ((k:Int),acc)=some (acc++zLI mkR (mB n c o p t) cuts t.length k m)
 | 0,k,acc,h,_=>by
  have:k=t.length:=by omega
  subst this;rw[zL (y:=acc) (by simp only[zEV,kH (dC _),cN])];simp[zLI]
 | m+1,k,acc,h,ha=>by
  have T:k<t.length:=by omega
  have e:zLI mkR (mB n c o p t) cuts t.length k (m+1)=(if decide ((k:Int)∈cuts)=true then
   match ((List.range' (k+1) (t.length-k)).find? λ(q:Nat)=>decide ((q:Int)∈cuts)&&mB n c o p t (k:Int) (q:Int)) with
   | some q=>[mkR (k:Int) (q:Int)]
   | none=>[]
   else [])++zLI mkR (mB n c o p t) cuts t.length (k+1) m:=by
   unfold zLI;rw[ie,d5]<;>rfl
  rw[e];have O:=yI8 hn hok hs hg o Y Z K T;have D:wi ((k:Int)+1)=((k+1:Nat):Int):=zJ (by omega);by_cases H:(k:Int)∈cuts
  ·cases hq:(List.range' (k+1) (t.length-k)).find? (λ(q:Nat)=>decide ((q:Int)∈cuts)&&mB n c o p t (k:Int) (q:Int)) with
   | some q=>
    rw[hq] at O;rw[zM (x':=(((k+1:Nat):Int),acc++ [mkR (k:Int) (q:Int)])) (by
     simp only[zEV,yS T,cO,z55 (show cuts.length<=1000000000 by omega),zA,H,dA,dD,cN,O,jY (l:=acc) (m:=[mkR (k:Int) (q:Int)]) (by simp;omega)]
     rw[D])]
    rw[yMX o Y Z K m (k+1) _ (by omega) (by simp;omega)]
    simp[H]
   | none=>
    rw[hq] at O;rw[zM (x':=(((k+1:Nat):Int),acc)) (by
     simp only[zEV,yS T,cO,z55 (show cuts.length<=1000000000 by omega),zA,H,dA,dD,cN,O];rw[D])]
    rw[yMX o Y Z K m (k+1) _ (by omega) (by omega)];simp[H]
  ·rw[zM (x':=(((k+1:Nat):Int),acc)) (by
     simp only[zEV,yS T,cO,z55 (show cuts.length<=1000000000 by omega),zA,H,dF,dS];rw[D])]
   rw[yMX o Y Z K m (k+1) _ (by omega) (by omega)];simp[H]
noncomputable def aM (n:Norm) (c:Collation) (o:Options) (p t cuts:List Int):List Range:=if zKH (wT n c o p)=true then zLI mkR (mB n c o p t) cuts t.length 0 t.length else []
theorem yBC (o:Options) {p t cuts:List Int} (k:TOk n p) (H:t.length<=12) (D:cuts.length<=1000):zSR n c o p t cuts=some (aM n c o p t cuts):=by
 unfold zSR aM;rw[yBB hn hok hs hg o k,zA];cases zKH (wT n c o p) with
 | false=>rfl
 | true=>
  have h:=yMX hn hok hs hg o k H D t.length 0 [] (by omega) (by simp);rw[show ((0:Nat):Int)=0 from rfl,dO] at h;rw[dD,cN,h,zA,dG rfl]
end
end Go.M


/- What the plain counterparts answer. Conditions: none. -/
import Derived.Test.YtjnpmmedmedokaaGreatDoorPu1
import Derived.Test.YtjnpmmedmedokaaGreatDoorLa3
set_option linter.unusedSimpArgs false
set_option linter.unusedVariables false
set_option linter.unnecessarySimpa false
namespace Go.M
open Go.AV
open Classical in
noncomputable def wF (n:Norm):List bL:=if VD0 n then n.aK else []
theorem yHX:CV []:=⟨λk h=>(by cases h),λk h=>(by cases h),λk h=>(by cases h)⟩
theorem z5S (n:Norm):CV (wF n):=by unfold wF;split;rename_i h;exact h.cv;exact yHX
theorem zSZ {n:Norm} (h:NSm n):(wF n).length<=40:=by unfold wF;split;exact h.cl;simp
def zYJ (l:List bL) (t:Int):Int:=l.foldl (λt s=>max t s.Value) t
def zOF (c:Collation) (l:List bL):bG:={zSU c with bQ:=l,top:=zYJ l 0}
theorem yHY {l:List bL} (K:l.length<=2000):∀(d k:Nat) (t:Int),l.length-k=d->k<=l.length->zE (λ(x:Int×Int)=>j8 l x.1 x.2) ((k:Int),t)=some (zYJ (l.drop k) t):=by
 intro d
 induction d with
 | zero=>
  intro k t D G;rw[dC (by omega)];refine zL ?_;simp only[j8,kJ (show l.length<=k by omega),cM];rfl
 | succ d H=>
  intro k t D G;have h:k<l.length:=by omega
  rw[cY h];rw[zN (x':=(((k+1:Nat):Int),max t l[k].Value)) (by simp only[j8,yU h,cN,zV h,zA,zK (k:=k) (by omega)])];exact H (k+1) _ (by omega) (by omega)
theorem yL6 {c:Collation} {n:Norm} (K:NSm n) (D:vZ n):uX (zSU c) n=some (zOF c (wF n)):=by
 obtain⟨e,T,H⟩:=yHO K D;unfold uX;rw[T,zA];have O:(cond (decide (e=0)) (some n.aK) (some (zSU c).bQ):Option (List bL))=some (wF n):=by
  unfold wF;by_cases h:e=0;rw[dI (H.1 h)];simp[h];rw[dK (λY=>h (H.2 Y))];simp[h,zSU]
 rw[O,zA];have G:=yHY (l:=wF n) (by have:=zSZ K;omega) (wF n).length 0 0 (by omega) (by omega)
 rw[d7] at G;have k:zE (λ(x:Int×Int)=>j8 (wF n) x.1 x.2) (0,(zSU c).top)=some (zYJ (wF n) 0):=G;rw[k];rfl
theorem zOG {c:Collation} (h:Sm c) {l:List bL} {codes:List Int}:xB (zOF c l) codes=some (zEA (kB c).aB codes):=yLM h (codes:=codes)
theorem zO4 {c:Collation} {l:List bL} (h:CV l) (hl:l.length<=2000) (x:Int):vW (zOF c l) x=some (clE l x):=by
 obtain⟨j,Y,hr,G,D⟩:=z1X (n:=l.length) hl (body:=λ(q:Int×Int)=>zCV (λx0=>w7 x0 (zOF c l) x) q.1 q.2) (λk=>decide (x<=(nth l k).Hi))
  (λk _=>by simp only[zCV,kJ (dA _),cM])
  (λlo hi h1 h2=>by
   have hm:(lo+hi)/2<l.length:=by omega
   have O:yD (zOF c l).bQ (((lo+hi)/2:Nat):Int)=some (nth l ((lo+hi)/2)):=zU hm;simp only[zCV,yU h1,cN,zQE (show lo+hi<=4611686018427387903 by omega),w7,O,zA,zK (k:=(lo+hi)/2) (by omega)];by_cases hc:x<=(nth l ((lo+hi)/2)).Hi<;>simp[hc])
  (λi j T Y hi=>by
   have:=h.hi T Y;simp only[cZ] at hi ⊢;omega)
 simp only[c9,cZ] at G D;unfold vW zKT;have Z:(zOF c l).bQ=l:=rfl;rw[Z,hr,yNT h Y (λk hk=>by have:=G k hk;omega) D]
 simp only[zA,zO];by_cases H:j<l.length;simp only[yU H,xS,zU H,zA,dM,H,true_and];by_cases K:(nth l j).Lo<=x<;>simp[K];simp only[kJ (show l.length<=j by omega),vF,zA,dR,cM,H,false_and,cV]
theorem z8T:∀(l:List bL) (t:Int),t<=zYJ l t/\∀s∈l,s.Value<=zYJ l t
 | [],t=>⟨fY _,λs h=>by cases h⟩
 | x::l,t=>by
  have k:=z8T l (max t x.Value);refine⟨by show t<=zYJ l (max t x.Value);omega,λs hs=>?_⟩
  show s.Value<=zYJ l (max t x.Value);rcases dL.1 hs with rfl | hs
  omega;exact k.2 s hs
theorem ySB {l:List bL} (x:Int):clE l x<=zYJ l 0:=by
 unfold clE;cases h:l.find? (zUH x) with
 | none=>exact(z8T l 0).1
 | some s=>exact(z8T l 0).2 s (fP h)
theorem ySC {l:List bL} (h:CV l) (x:Int):0<=clE l x:=by
 unfold clE;cases G:l.find? (zUH x) with
 | none=>exact fY _
 | some s=>
  have:=fP G;obtain⟨k,D,rfl⟩:=fA this;have:=h.sp k D;rw[zBP D] at this;unfold spOk at this;show 0<=(l[k]).Value;omega
def zK2 (p:Nat->Bool):Nat->Nat
 | 0=>0
 | k+1=>if p (k+1) then k+1 else zK2 p k
theorem zRS (p:Nat->Bool):∀k,zK2 p k<=k
 | 0=>dA _
 | k+1=>by unfold zK2;split;omega;have:=zRS p k;omega
theorem zZW {p : Nat -> Bool} {m : Nat} : ∀ {k : Nat}, m <= k -> (∀ j, m<j -> j <= k -> p j = false) -> zK2 p k = zK2 p m
  | 0, h, _ => by have : m = 0 := by omega
                  rw[this]
  | k+1, h, hp => by
    by_cases e : m = k+1
    · rw[e]
    · unfold zK2
      rw[hp (k+1) (by omega) (dA _)];simp only[dN, cV];rw[zZW (m := m) (by omega) λj h1 h2 => hp j h1 (by omega)];cases m<;>rfl
def pfx (es:List bO) (text:List Int) (k:Nat):Bool:=(zEA es (text.take k)).2
def zAL (es:List bO) (text:List Int):Nat:=zK2 (pfx es text) text.length
def zEX (fd:List Int->Bool) (cl:Int->Int):List Int->List Int->List Int->Int->List Int×List Int
 | [],p,s,_=>(p,s)
 | x::r,p,s,h=>if cl x=0 then (p,s++x::r) else if fd (p++ [x])&&decide (h<cl x) then zEX fd cl r (p++ [x]) s h else zEX fd cl r p (s++ [x]) (max h (cl x))
theorem zZX {fd:List Int->Bool} {cl:Int->Int}:∀(r p s:List Int) (h:Int),(∀x,cl x<=h)->zEX fd cl r p s h=(p,s++r)
 | [],p,s,h,_=>by simp[zEX]
 | x::r,p,s,h,k=>by
  have D:=k x;unfold zEX;split;rfl;have e:decide (h<cl x)=false:=by simp;omega
  rw[e,fR,dK (by simp),zZX r p (s++ [x]) (max h (cl x)) (λy=>by have:=k y;omega)]
  simp
theorem zRT {fd:List Int->Bool} {cl:Int->Int}:∀(r p s:List Int) (h:Int),p.length<=(zEX fd cl r p s h).1.length/\(zEX fd cl r p s h).1.length+(zEX fd cl r p s h).2.length=p.length+s.length+r.length/\((zEX fd cl r p s h).1.length=p.length->zEX fd cl r p s h=(p,s++r))
 | [],p,s,h=>by simp[zEX]
 | x::r,p,s,h=>by
  unfold zEX;split;refine⟨dA _,by simp;omega,λ_=>rfl⟩
  split;have k:=zRT (fd:=fd) (cl:=cl) r (p++ [x]) s h;simp only[cU,dO,d6] at k ⊢;exact⟨by omega,by omega,λe=>by omega⟩;have k:=zRT (fd:=fd) (cl:=cl) r p (s++ [x]) (max h (cl x));simp only[cU,dO,d6] at k ⊢;refine⟨k.1,by omega,λe=>?_⟩;rw[k.2.2 e];simp
section
variable {c:Collation} (hs:Sm c) {l:List bL} (hcv:CV l) (hl:l.length<=2000)
include hs
theorem mL0 {text:List Int} (H:text.length<=2000):∀k,k<=text.length->zE (λ(x:Int)=>jG text (zOF c l) x) (k:Int)=some ((zK2 (pfx (kB c).aB text) k:Nat):Int)
 | 0,_=>by
  refine zL ?_;have:decide ((0:Int)<((0:Nat):Int))=false:=rfl;simp only[jG,this,cM];rfl
 | k+1,G=>by
  have D:decide ((0:Int)<((k+1:Nat):Int))=true:=by simp<;>omega
  have K:=mL0 H k (by omega);unfold zK2;cases h:pfx (kB c).aB text (k+1) with
  | true=>
   rw[dI rfl];refine zL ?_;unfold pfx at h;simp only[jG,D,cN,zFE G,zA,zOG hs,h]
  | false=>
   rw[dK (by simp),<-K];refine zN ?_;unfold pfx at h;simp only[jG,D,cN,zFE G,zA,zOG hs,h,cM,zD6 (k:=k) (by omega)]
omit hs in
theorem yHZ {text:List Int} {k:Nat} (K:k<=text.length) (h:zRO (kB c).aB 0<(k:Int)):pfx (kB c).aB text k=false:=by
 have D:=z1U (kB c).aB 0;unfold pfx zEA;have:(kB c).aB.find? (λx=>decide (x.aW=text.take k))=none:=by
  rw[List.find?_eq_none];intro x H;simp only[cZ];intro e;have G:=D.2 x H;rw[e] at G;have:(text.take k).length=k:=by simp;omega
  omega
 rw[this]
theorem yPV {text:List Int} (G:text.length<=2000):zE (λ(x:Int)=>jG text (zOF c l) x) (min (zOF c l).bT (text.length:Int))=some ((zAL (kB c).aB text:Nat):Int):=by have H:=z1U (kB c).aB 0;have e:(zOF c l).bT=zRO (kB c).aB 0:=rfl;rw[e];obtain⟨m,D⟩:∃m:Nat,min (zRO (kB c).aB 0) (text.length:Int)=(m:Int):=⟨(min (zRO (kB c).aB 0) (text.length:Int)).toNat,by omega⟩;rw[D,mL0 hs G m (by omega)];unfold zAL;rw[zZW (p:=pfx (kB c).aB text) (m:=m) (k:=text.length) (by omega) λj K h=>yHZ h (by omega)]
omit hs in
theorem yPW {p s r:List Int} {x:Int}:zBD (cpM (p++s++x::r) ((p.length+1:Nat):Int) ((p.length+s.length+1:Nat):Int) (p.length:Int) ((p.length+s.length:Nat):Int)) (p.length:Int) x=some ((p++ [x])++s++r):=by
 have G:((p++s++x::r).drop p.length).take (p.length+s.length-p.length)=s:=by
  rw[c8,List.drop_left];have:p.length+s.length-p.length=s.length:=by omega
  rw[this,gW]
 have H:min (p.length+s.length-p.length) (p.length+s.length+1-(p.length+1))=s.length:=by omega
 unfold cpM;simp only[Int.toNat_natCast];rw[G,H,gC (dA _)];cases s with
 | nil=>
  have D:(p++ []++x::r)=p++x::r:=by simp
  rw[D];have h:(p++x::r).take (p.length+1)=p++ [x]:=by
   rw[List.take_append,gC (by omega)];simp
  have k:(p++x::r).drop (p.length+1+([]:List Int).length)=r:=by
   rw[List.drop_append,dC (by simp)];simp
  rw[h,k];have:p++ [x]++ []++r=p++x::r:=by simp
  rw[this,zAR rfl]
 | cons y s=>
  have D:(p++(y::s)++x::r)=p++y::(s++x::r):=by simp
  rw[D];have h:(p++y::(s++x::r)).take (p.length+1)=p++ [y]:=by
   rw[List.take_append,gC (by omega)];simp
  have k:(p++y::(s++x::r)).drop (p.length+1+(y::s).length)=r:=by
   have:p++y::(s++x::r)=(p++y::(s++ [x]))++r:=by simp
   rw[this,List.drop_left' (by simp;omega)]
  rw[h,k];have:p++ [y]++(y::s)++r=p++y::((y::s)++r):=by simp
  rw[this,zAR rfl];simp
include hcv hl
theorem mL1:∀(r p s:List Int) (h:Int),p.length+s.length+r.length<=2000->
  zE (λ(x:Int×Int×Int×(List Int))=>kQ (zOF c l) x.1 x.2.1 x.2.2.1 x.2.2.2) ((p.length:Int),h,((p.length+s.length:Nat):Int),p++s++r)=
   some ((((zEX (λq=>(zEA (kB c).aB q).2) (clE l) r p s h).1.length:Nat):Int),(zEX (λq=>(zEA (kB c).aB q).2) (clE l) r p s h).1++(zEX (λq=>(zEA (kB c).aB q).2) (clE l) r p s h).2)
 | [],p,s,h,_=>by
  refine zL ?_;have:decide (((p.length+s.length:Nat):Int)<((p++s++ []).length:Int))=false:=by simp
  simp only[kQ,zO,this,dR,cM];simp[zEX]
 | x::r,p,s,h,hn=>by
  simp only[dO] at hn;have Y:decide (((p.length+s.length:Nat):Int)<((p++s++x::r).length:Int))=true:=by simp<;>omega
  have hi:yD (p++s++x::r) ((p.length+s.length:Nat):Int)=some x:=vO (by simp);have G:(zOF c l).top=zYJ l 0:=rfl;by_cases H:h<zYJ l 0
  ·have D:decide (h<(zOF c l).top)=true:=by rw[G];simpa using H
   by_cases K:clE l x=0
   ·refine zL ?_
    simp only[kQ,zO,Y,D,fF,cN,hi,zA,zO4 hcv hl,K,dB,eW];unfold zEX;rw[dI K];simp
   ·unfold zEX
    rw[dK K];by_cases hk:clE l x<=h
    ·have e:decide (h<clE l x)=false:=by simp;omega
     rw[e,fR,dK (by simp)];rw[zN (x':=((p.length:Int),h,((p.length+(s++ [x]).length:Nat):Int),p++(s++ [x])++r)) (by
      have Z:p++(s++ [x])++r=p++s++x::r:=by simp
      have O:p.length+(s++ [x]).length=p.length+s.length+1:=by simp;omega
      rw[Z,O];simp only[kQ,zO,Y,D,fF,cN,hi,zA,zO4 hcv hl,K,hk,dB,dH,cM,Sum.elim_inr,zK (k:=p.length+s.length) (by omega)])]
     have:=mL1 r p (s++ [x]) h (by simp;omega)
     rw[show max h (clE l x)=h by omega];exact this
    ·have e:decide (h<clE l x)=true:=by simp;omega
     rw[e,Bool.and_true];have s1:slc (p++s++x::r) 0 (p.length:Int)=some p:=by
      rw[zFE (by simp)];simp
     have a1:app p [x]=some (p++ [x]):=jX (by simp;omega)
     cases hf:(zEA (kB c).aB (p++ [x])).2 with
     | false=>
      rw[dK (by simp)];rw[zN (x':=((p.length:Int),clE l x,((p.length+(s++ [x]).length:Nat):Int),p++(s++ [x])++r)) (by
       have Z:p++(s++ [x])++r=p++s++x::r:=by simp
       have O:p.length+(s++ [x]).length=p.length+s.length+1:=by simp;omega
       rw[Z,O];simp only[kQ,zO,Y,D,fF,cN,hi,zA,zO4 hcv hl,K,hk,dH,cM,s1,a1,zOG hs,hf,dQ,Sum.elim_inr,zK (k:=p.length+s.length) (by omega)])]
      have:=mL1 r p (s++ [x]) (clE l x) (by simp;omega)
      rw[show max h (clE l x)=clE l x by omega];exact this
     | true=>
      rw[dI rfl];have ai:∃q,slc (p++s++x::r) ((p.length+1:Nat):Int) ((p.length+s.length+1:Nat):Int)=some q:=⟨_,zSR (by omega) (by simp;omega)⟩
      have aj:∃q,slc (p++s++x::r) (p.length:Int) ((p.length+s.length:Nat):Int)=some q:=⟨_,zSR (by omega) (by simp)⟩;obtain⟨q1,ad⟩:=ai;obtain⟨q2,ag⟩:=aj;have T:=yPW (p:=p) (s:=s) (r:=r) (x:=x);obtain⟨_,_,ac⟩:=zOP T;have aa:∃q,yD (cpM (p++s++x::r) ((p.length+1:Nat):Int) ((p.length+s.length+1:Nat):Int) (p.length:Int) ((p.length+s.length:Nat):Int)) (p.length:Int)=some q:=⟨_,zV (by simpa using ac)⟩;obtain⟨q3,ah⟩:=aa;rw[zN (x':=(((p++ [x]).length:Int),h,(((p++ [x]).length+s.length:Nat):Int),(p++ [x])++s++r)) (by
       have O:(p++ [x]).length+s.length=p.length+s.length+1:=by simp;omega
       have e4:(p++ [x]).length=p.length+1:=by simp
       rw[O,e4];simp only[kQ,zO,Y,D,fF,cN,hi,zA,zO4 hcv hl,K,hk,dH,cM,s1,a1,zOG hs,hf,dD,zK (k:=p.length+s.length) (by omega),zK (k:=p.length) (by omega),ad,ag,ah,T,Sum.elim_inr])]
      exact mL1 r (p++ [x]) s h (by simp;omega)
  ·have D:decide (h<(zOF c l).top)=false:=by rw[G];simpa using H
   have hm:=zZX (fd:=λq=>(zEA (kB c).aB q).2) (cl:=clE l) (x::r) p s h (λy=>by have:=ySB (l:=l) y;omega)
   rw[hm];refine zL ?_;simp only[kQ,zO,Y,D,fR,cM,c8]
noncomputable def stE (c:Collation) (l:List bL) (text:List Int):Int×List Int×List aP:=if zAL (kB c).aB text=0 then (1,text.drop 1,zUF (kB c) (nth text 0)) else
 ((((zEX (λq=>(zEA (kB c).aB q).2) (clE l) (text.drop (zAL (kB c).aB text)) (text.take (zAL (kB c).aB text)) [] 0).1.length:Nat):Int),(zEX (λq=>(zEA (kB c).aB q).2) (clE l) (text.drop (zAL (kB c).aB text)) (text.take (zAL (kB c).aB text)) [] 0).2,(zEA (kB c).aB (zEX (λq=>(zEA (kB c).aB q).2) (clE l) (text.drop (zAL (kB c).aB text)) (text.take (zAL (kB c).aB text)) [] 0).1).1)
theorem yH0 {text:List Int} (ht:text.length<=2000) (h0:text≠[]):∃D,vX (zOF c l) text=some ((stE c l text).1,(stE c l text).2.2,decide (zAL (kB c).aB text≠0),D)/\slc D (stE c l text).1 (D.length:Int)=some (stE c l text).2.1:=by
 unfold vX;rw[yPV hs ht,zA];have G:0<text.length:=e9.2 h0;by_cases H:zAL (kB c).aB text=0;have K:decide (((zAL (kB c).aB text:Nat):Int)=0)=true:=by simp[H]
 have i0:yD text (0:Int)=some (nth text 0):=zU (k:=0) G;have h:stE c l text=(1,text.drop 1,zUF (kB c) (nth text 0)):=by unfold stE;rw[dI H]
 have T:xR (zOF c l) (nth text 0)=some (zUF (kB c) (nth text 0)):=z5C c (nth text 0);rw[K,cN,i0,zA,T,zA,h];refine⟨text,?_,?_⟩;simp[H];exact zIE (l:=text) (a:=1) (by omega);have K:decide (((zAL (kB c).aB text:Nat):Int)=0)=false:=by simp;omega
 rw[K,cM];have ab:zAL (kB c).aB text<=text.length:=zRS _ _;have O:=mL1 hs hcv hl (text.drop (zAL (kB c).aB text)) (text.take (zAL (kB c).aB text)) [] 0 (by simp;omega)
 have Y:(text.take (zAL (kB c).aB text)).length=zAL (kB c).aB text:=by simp;omega
 have Z:text.take (zAL (kB c).aB text)++ []++text.drop (zAL (kB c).aB text)=text:=by simp
 rw[Z,Y] at O;simp only[d6,fJ] at O;rw[O,zA];have h:stE c l text=((((zEX (λq=>(zEA (kB c).aB q).2) (clE l) (text.drop (zAL (kB c).aB text)) (text.take (zAL (kB c).aB text)) [] 0).1.length:Nat):Int),(zEX (λq=>(zEA (kB c).aB q).2) (clE l) (text.drop (zAL (kB c).aB text)) (text.take (zAL (kB c).aB text)) [] 0).2,(zEA (kB c).aB (zEX (λq=>(zEA (kB c).aB q).2) (clE l) (text.drop (zAL (kB c).aB text)) (text.take (zAL (kB c).aB text)) [] 0).1).1):=by unfold stE;rw[dK H]
 rw[h];generalize zEX (λq=>(zEA (kB c).aB q).2) (clE l) (text.drop (zAL (kB c).aB text)) (text.take (zAL (kB c).aB text)) [] 0=q;have s1:slc (q.1++q.2) 0 ((q.1.length:Nat):Int)=some q.1:=by rw[zFE (by simp)];simp
 simp only[s1,zA,zOG hs];refine⟨q.1++q.2,?_,?_⟩;simp[H];rw[zIE (by simp)];simp
end
open Go.AV
def n0:Norm:={aK:=[{Lo:=769,Hi:=769,Value:=230},{Lo:=803,Hi:=803,Value:=220}],aA:=[],aN:={Ranges:=[]}}
def c0:Collation:={aB:=[{aW:=[97],aU:=[{aS:=7,aL:=1,aO:=1,aD:=false}]},{aW:=[97,769],aU:=[{aS:=8,aL:=1,aO:=1,aD:=false}]}],aF:=[],bJ:=100,bA:=1,bI:=1}
open Go.AV
theorem yH1 {n:Norm} (h:DS n.aA) (O:n.aA.length<=2000) (c:Int) (b:Bool):uW n c b=some (if syl c=true then (hdE c,true) else ((fnB n.aA b c).getD [],(fnB n.aA b c).isSome)):=by
 unfold uW;rw[zO1,zA];by_cases k:syl c=true;have e:decide (4<=hkE c)=true:=by simpa using (zI3 c).1 k
 simp only[e,cN,z95 k,zA,k,dG];have e:decide (4<=hkE c)=false:=by simp only[c9];exact λK=>k ((zI3 c).2 K)
 simp only[gY] at k;simp only[e,cM,k,dN,cV];obtain⟨i,hb,Y⟩:=z97 h O c;rw[hb];simp only[zA,zO];unfold fnB;cases H:n.aA.find? (isF c) with
 | none=>simp[vF]
 | some m=>
  obtain⟨D,G⟩:=Y m H;simp only[Option.isSome_some,dD,dQ,xS,zU D,G,zA,eY];cases b<;>cases T:(m.bN== [])<;>simp[T]
section
variable {n:Norm} {b:Bool} (hd:DS n.aA) (hl:n.aA.length<=2000) (hD:∀c,DD n.aA n.aA.length c) (hw:∀c,(fu n.aA b c).length<=64)
def XOk (l:List aI) (b:Bool) (m:List (Int×List Int)):Prop:= ∀k v,mget m k=some v->v=fu l b k
def yAI (l:List aI) (f:Nat) (c:Int):Prop:=(∃k,DD l k c/\k+2<=f)\/(l.find? (isF c)=none/\syl c=false/\1<=f)
include hw in
theorem yPX {f:Nat} (ih:∀c m,XOk n.aA b m->yAI n.aA f c->∃h,kU f c m n b=some (fu n.aA b c,h)/\XOk n.aA b h) (L:List Int) (hL:L.length<=2000) (Z:∀e∈L,yAI n.aA f e):
  ∀(d i:Nat) (acc:List Int) (m:List (Int×List Int)),L.length-i=d->i<=L.length->acc.length<=64*i->XOk n.aA b m->
   ∃h,zE (λ(x:Int×(List Int)×(List (Int×(List Int))))=>jL (L,true) (kU f) n b x.1 x.2.1 x.2.2) ((i:Int),acc,m)=some (acc++(L.drop i).flatMap (fu n.aA b),h)/\XOk n.aA b h:=by
 intro d
 induction d with
 | zero=>
  intro i acc m K O T D;refine⟨m,?_,D⟩;refine zL ?_;rw[dC (show L.length<=i by omega)];simp only[jL,kJ (show L.length<=i by omega),cM,gZ,eA]
 | succ d G=>
  intro i acc m K O T D;have hi:i<L.length:=by omega
  obtain⟨H,hr,r1⟩:=ih L[i] m D (Z _ (eJ hi));have ac:=hw L[i];have Y:app acc (fu n.aA b L[i])=some (acc++fu n.aA b L[i]):=jX (by omega);rw[zN (x':=(((i+1:Nat):Int),acc++fu n.aA b L[i],H)) (by
   simp only[jL,yU hi,cN,zV hi,zA,hr,Y,zK (k:=i) (by omega)])]
  obtain⟨m2,hq,q1⟩:=G (i+1) (acc++fu n.aA b L[i]) H (by omega) (by omega) (by rw[cU];omega) r1
  refine⟨m2,?_,q1⟩;rw[hq,cY hi,d9,c8]
include hd hl hD hw in
theorem ySD:∀(f:Nat) (c:Int) (m:List (Int×List Int)),XOk n.aA b m->yAI n.aA f c->∃O,kU f c m n b=some (fu n.aA b c,O)/\XOk n.aA b O:=by
 intro f
 induction f with
 | zero=>intro c m _ hn;exfalso;rcases hn with ⟨k,_,h⟩ | ⟨_,_,h⟩<;>omega
 | succ f ih=>
  intro c m hm hn;show ∃O,vH (kU f) c m n b=some _/\_;unfold vH;cases hh:zDM m c with
  | true=>
   obtain⟨v,hv⟩:=gO.1 hh;have hg:mgetD m c []=v:=by unfold mgetD;rw[hv];rfl
   rw[cN,hg,hm c v hv];exact⟨m,rfl,hm⟩
  | false=>
   rw[cM,yH1 hd hl,zA];have T:∀(L:List Int),L.length<=2000->(∀e∈L,yAI n.aA f e)->L.flatMap (fu n.aA b)=fu n.aA b c->∃O,(cond (!((L,true):List Int×Bool).2) (some ([c],m)) ((zE (λ(x:Int×(List Int)×(List (Int×(List Int))))=>jL (L,true) (kU f) n b x.1 x.2.1 x.2.2) (0,[],m)).bind λ(y1:(List Int)×(List (Int×(List Int))))=>some (y1.1,wX y1.2 c y1.1)))=some (fu n.aA b c,O)/\XOk n.aA b O:=by
    intro L hL aj ai;obtain⟨m1,hq,q1⟩:=yPX hw ih L hL aj L.length 0 [] m (by omega) (by omega) (by simp) hm;rw[d7,dP,ai] at hq;have ak:zE (λ(x:Int×(List Int)×(List (Int×(List Int))))=>jL (L,true) (kU f) n b x.1 x.2.1 x.2.2) (0,[],m)=some (fu n.aA b c,m1):=hq;simp only[dD,cM];rw[ak];refine⟨wX m1 c (fu n.aA b c),rfl,λk v H=>?_⟩;rw[vD] at H;split at H;rename_i hx;cases H;rw[hx];exact q1 k v H
   cases hs:syl c with
   | true=>
    simp only[dG];have K:=z5N hd hs;have Y:∀e∈hdE c,n.aA.find? (isF e)=none/\syl e=false:=by
     intro e G;obtain⟨Z,p2⟩:=zWO hs G;refine⟨?_,Z⟩;cases ah:n.aA.find? (isF e) with
     | none=>rfl
     | some m=>obtain⟨q1,rfl⟩:=zHM ah;exact absurd (hd.hk m q1) p2
    refine T (hdE c) (by have:=zQD c;omega) (λe G=>?_) ?_
    obtain⟨Z,p2⟩:=Y e G;refine .inr ⟨Z,p2,?_⟩;rcases hn with ⟨k,_,h⟩ | ⟨_,h,_⟩;omega;rw[hs] at h;cases h;have D:fu n.aA b c=hdE c:=by rw[zTR hD,zJ6 K]
    rw[D];have:∀L:List Int,(∀e∈L,n.aA.find? (isF e)=none/\syl e=false)->L.flatMap (fu n.aA b)=L:=by
     intro L
     induction L with
     | nil=>intro _;rfl
     | cons x L am=>
      intro h;obtain⟨Z,p2⟩:=h x (by simp);have hx:fu n.aA b x= [x]:=by rw[zTR hD,zJ6 Z];show hdE x= [x];unfold hdE;rw[dK (by simp[p2])]
      rw[d9,hx,am λe G=>h e (by simp[G])];rfl
    exact this _ Y
   | false=>
    simp only[dN,cV];cases hf:fnB n.aA b c with
    | none=>
     simp only[Option.getD_none,Option.isSome_none,dQ,cN];refine⟨m,?_,hm⟩;rw[zTR hD,hf];have:hdE c= [c]:=by unfold hdE;rw[dK (by simp[hs])]
     simp only[this]
    | some to=>
     simp only[gD,Option.isSome_some];obtain⟨mm,D,rfl,_⟩:=zL3 hf;obtain⟨h2,_⟩:=zHM D;refine T mm.To (hd.len mm h2) (λe G=>?_) (by rw[zTR hD c,hf]);rcases hn with ⟨k,H,h⟩ | ⟨h,_,_⟩
     cases k with
     | zero=>have:n.aA.find? (isF c)=none:=H;rw[this] at D;cases D
     | succ k=>exact .inl ⟨k,H mm D e G,by omega⟩
     rw[h] at D;cases D
end
noncomputable def usN (n:Norm):Norm:=open Classical in if VD0 n then n else {aK:=[],aA:=[],aN:={Ranges:=[]}}
structure GN (n:Norm):Prop where
 ds:DS n.aA
 cv:CV n.aK
 H:∀m∈n.aA,WW n.aA m.aV
 w:∀m∈n.aA,wt n.aA true m.aV<=64
 cl:n.aK.length<=40
 de:n.aA.length<=40
 ok:∀x∈n.aK,b9 x
theorem z13 {n:Norm} (H:NSm n) (G:vZ n):GN (usN n):=by
 unfold usN;split;rename_i h;obtain⟨K,O⟩:=(yHU h.ds (by have:=H.de;omega)).1 h.ms
 exact⟨h.ds,h.cv,K,O,H.cl,H.de,G.1.2⟩;exact⟨⟨λk T=>(by cases T),λm D=>(by cases D),λm D=>(by cases D)⟩,yHX,λm D=>(by cases D),λm D=>(by cases D),by simp,by simp,λx Y=>by cases Y⟩
theorem GN.dd {n:Norm} (h:GN n):∀c,DD n.aA n.aA.length c:=zWR h.ds h.H
theorem GN.len {n:Norm} (h:GN n) (b:Bool) (c:Int):(fu n.aA b c).length<=64:=yPR h.ds (yPS h.ds h.H h.w) b c
theorem GN.ex {n:Norm} (h:GN n) {b:Bool} (c:Int) (m:List (Int×List Int)) (D:XOk n.aA b m):∃k,kU 100 c m n b=some (fu n.aA b c,k)/\XOk n.aA b k:=
 ySD h.ds (by have:=h.de;omega) h.dd (h.len b) 100 c m D (.inl ⟨_,h.dd c,by have:=h.de;omega⟩)
theorem yL7 {n:Norm} (K:NSm n) (D:vZ n):zA7 n=some (usN n):=by obtain⟨e,H,G⟩:=yHO K D;unfold zA7 usN;rw[H,zA];by_cases k:e=0;rw[dI (G.1 k)];simp[k];rw[dK (λh=>k (G.2 h))];simp[k]
theorem z5T {f:Int->List Int} {k:Nat} (h:∀e,(f e).length<=k):∀L:List Int,(L.flatMap f).length<=k*L.length
 | []=>by simp
 | x::L=>by have:=z5T h L;have:=h x;rw[d9,cU,dO,Nat.mul_succ];omega
theorem yDP {n:Norm} (h:GN n) {b:Bool} {text:List Int} (ht:text.length<=2000):∀(d i:Nat) (acc:List Int) (m:List (Int×List Int)),text.length-i=d->i<=text.length->acc.length<=64*i->XOk n.aA b m->
  zE (λ(x:Int×(List Int)×(List (Int×(List Int))))=>xW text n b x.1 x.2.1 x.2.2) ((i:Int),acc,m)=some (acc++(text.drop i).flatMap (fu n.aA b)):=by
 intro d
 induction d with
 | zero=>
  intro i acc m H K O D;refine zL ?_;rw[dC (show text.length<=i by omega)];simp only[xW,kJ (show text.length<=i by omega),cM,gZ,eA]
 | succ d ih=>
  intro i acc m H K O D;have hi:i<text.length:=by omega
  obtain⟨G,Y,r1⟩:=h.ex (b:=b) text[i] m D;have Z:=h.len b text[i];have T:app acc (fu n.aA b text[i])=some (acc++fu n.aA b text[i]):=jX (by omega);rw[zN (x':=(((i+1:Nat):Int),acc++fu n.aA b text[i],G)) (by
   simp only[xW,yU hi,cN,zV hi,zA,Y,T,zK (k:=i) (by omega)])]
  rw[ih (i+1) (acc++fu n.aA b text[i]) G (by omega) (by omega) (by rw[cU];omega) r1,cY hi,d9,c8]
noncomputable def zJ7 (n:Norm) (b:Bool) (text:List Int):List Int:=text.flatMap (fu (usN n).aA b)
theorem yL8 {n:Norm} (K:NSm n) (H:vZ n) {text:List Int} (O:text.length<=2000) (b:Bool):vI n text b=zCD (usN n).aK (zJ7 n b text):=by have h:=z13 K H;unfold vI zDG;have T:zA7 {aK:=n.aK,aA:=n.aA,aN:={Ranges:=n.aN.Ranges}}=some (usN n):=yL7 K H;have D:=yDP h (b:=b) O text.length 0 [] [] (by omega) (by omega) (by simp) (λk v h=>by cases h);rw[d7,dP] at D;have G:zE (λ(x:Int×(List Int)×(List (Int×(List Int))))=>xW text (usN n) b x.1 x.2.1 x.2.2) (0,[],[])=some (zJ7 n b text):=D;rw[T,zA,zA,G,zA];cases zCD (usN n).aK (zJ7 n b text)<;>rfl
open Go.AV
section
variable (key:Int->Int)
def ltK (a b:Int):Bool:=decide (key a<key b)
def ltC (a b:Int):Bool:=decide (0<key a)&&decide (key a<key b)
def srt (l:List Int):List Int:=zAZ (ltK key) l []
def csE (l:List Int):List Int:=zAZ (ltC key) l []
def rsE:List Int->List Int->List Int
 | [],run=>srt key run
 | x::t,run=>if key x=0 then srt key run++x::rsE t [] else rsE t (run++ [x])
end
section
variable {key:Int->Int}
theorem yH2 (l:List Int) (x:Int):srt key (l++ [x])=u6 (ltK key) (srt key l).reverse x []:=by unfold srt zAZ;rw[List.foldl_append];rfl
theorem yAK (l:List Int):Flt key l (srt key l):=by have:=zO3 (key:=key) l [];exact this
theorem yAL (l:List Int):(srt key l).length=l.length:=(yAK l).len.symm
theorem yAM {x:Int} (k:0<key x):∀(r q s:List Int),(∀y,q.head? =some y->key y=0)->u6 (ltC key) (r++q) x s=q.reverse++u6 (ltK key) r x s
 | [],q,s,h=>by
  cases q with
  | nil=>rfl
  | cons y q=>
   have:ltC key x y=false:=by unfold ltC;rw[h y rfl];simp;omega
   show u6 (ltC key) (y::q) x s=_;simp only[u6,this,dN,cV]
 | y::r,q,s,h=>by
  have e:ltC key x y=ltK key x y:=by unfold ltC ltK;simp[k]
  show u6 (ltC key) (y::(r++q)) x s=q.reverse++u6 (ltK key) (y::r) x s;simp only[u6,e];cases ltK key x y with
  | true=>simp only[dG];exact yAM k r q (y::s) h
  | false=>simp
theorem yH3 (h:∀x,0<=key x):∀(t run p:List Int),(∀y,p.reverse.head? =some y->key y=0)->zAZ (ltC key) t (p++srt key run)=p++rsE key t run
 | [],run,p,_=>rfl
 | x::t,run,p,D=>by
  show zAZ (ltC key) t (u6 (ltC key) (p++srt key run).reverse x [])=p++rsE key (x::t) run;by_cases k:key x=0
  ·have e:∀r:List Int,u6 (ltC key) r x []=r.reverse++ [x]:=by
    intro r;cases r with
    | nil=>rfl
    | cons y r=>
     have:ltC key x y=false:=by unfold ltC;rw[k];simp
     simp[u6,this]
   have H:=yH3 h t [] (p++srt key run++ [x]) (λy G=>by simp at G;rw[<-G];exact k)
   have K:srt key []= []:=rfl;rw[K,eA] at H;rw[e,fQ,H];simp[rsE,k]
  ·have O:0<key x:=by have:=h x;omega
   rw[List.reverse_append,yAM O _ _ _ D,fQ,<-yH2,yH3 h t (run++ [x]) p D];simp[rsE,k]
theorem yH4 (h:∀x,0<=key x) (t:List Int):csE key t=rsE key t []:=by have:=yH3 h t [] [] (λy k=>by cases k);exact this
theorem yH5 (t:List Int):(csE key t).Perm t:=by have:=zMO (ltC key) t [];rw[dP] at this;exact this
theorem yMA (t:List Int):(csE key t).length=t.length:=(yH5 t).length_eq
theorem z5U {f:List Int->Option (List Int)} {P run T r:List Int} (h:0<run.length) (H:f run=some r):zMZ f (P++run++T) (P.length:Int) ((P.length+run.length:Nat):Int)=some (P++r++T):=by
 unfold zMZ;have a1:((P.length:Int)).toNat=P.length:=by simp
 have a2:(((P.length+run.length:Nat):Int)).toNat=P.length+run.length:=by omega
 rw[a1,a2,dI ⟨by omega,by omega,by rw[cU,cU];omega⟩]
 have G:((P++run++T).drop P.length).take (P.length+run.length-P.length)=run:=by
  rw[c8,List.drop_left,show P.length+run.length-P.length=run.length by omega,gW]
 have k:(P++run++T).take P.length=P:=by rw[c8,gW]
 have D:(P++run++T).drop (P.length+run.length)=T:=by rw[<-cU,List.drop_left]
 rw[G,k,D,H];rfl
theorem yAN {f:List Int->Option (List Int)} {st:Int->Bool} (k:∀x,st x=decide (key x=0)) (K:∀l,l.length<=2000->f l=some (srt key l)):∀(t run P:List Int) (s:Int),P.length+run.length+t.length<=2000->(run= []/\s= -1\/run≠[]/\s=(P.length:Int))->
  zBE f Range.Lo Range.Hi (P++run++t) (xZ st t ((P.length+run.length:Nat):Int) s)=some (P++rsE key t run)
 | [],run,P,s,hl,T=>by
  rcases T with ⟨rfl,rfl⟩ | ⟨G,rfl⟩
  ·simp only[xZ,show ¬(0:Int)<= -1 by decide,cV]
   show some (P++ []++ [])=some (P++ []);simp
  ·have H:(0:Int)<=(P.length:Int):=by omega
   simp only[xZ,H,dG];have h:0<run.length:=e9.2 G;show (some (P++run++ [])).bind (λl=>zMZ f l (P.length:Int) ((P.length+run.length:Nat):Int))=_;rw[zA,z5U h (K run (by simp at hl;omega))]
   simp[rsE]
 | x::t,run,P,s,hl,T=>by
  have ab:P.length+run.length+t.length+1<=2000:=by simp only[dO] at hl;omega
  by_cases H:key x=0
  ·have D:st x=true:=by rw[k];simp[H]
   rcases T with ⟨rfl,rfl⟩ | ⟨G,rfl⟩
   ·have e:xZ st (x::t) ((P.length+([]:List Int).length:Nat):Int) (-1)=xZ st t (((P++ [x]).length+([]:List Int).length:Nat):Int) (-1):=by
     simp only[xZ,D];simp
    have O:=yAN k K t [] (P++ [x]) (-1) (by simp only[cU,hJ,d6];simp at ab;omega) (.inl ⟨rfl,rfl⟩)
    rw[e,show P++ []++x::t=P++ [x]++ []++t by simp,O];have e2:srt key []= []:=rfl;simp[rsE,H,e2]
   ·have Z:(0:Int)<=(P.length:Int):=by omega
    have h:0<run.length:=e9.2 G;have e:xZ st (x::t) ((P.length+run.length:Nat):Int) (P.length:Int)= {Lo:=(P.length:Int),Hi:=((P.length+run.length:Nat):Int)}::xZ st t (((P++srt key run++ [x]).length+([]:List Int).length:Nat):Int) (-1):=by
     have Y:(((P++srt key run++ [x]).length+([]:List Int).length:Nat):Int)=((P.length+run.length:Nat):Int)+1:=by simp[yAL];omega
     rw[Y];simp only[xZ,D,dD,dR,dN,cV,dM,Z,dB,dG]
    have O:=yAN k K t [] (P++srt key run++ [x]) (-1) (by simp[yAL];omega) (.inl ⟨rfl,rfl⟩)
    have e4:zMZ f (P++run++x::t) (P.length:Int) ((P.length+run.length:Nat):Int)=some (P++srt key run++ [x]++ []++t):=by
     rw[z5U h (K run (by omega))];simp
    have e5:zBE f Range.Lo Range.Hi (P++run++x::t) ({Lo:=(P.length:Int),Hi:=((P.length+run.length:Nat):Int)}::xZ st t (((P++srt key run++ [x]).length+([]:List Int).length:Nat):Int) (-1))=zBE f Range.Lo Range.Hi (P++srt key run++ [x]++ []++t) (xZ st t (((P++srt key run++ [x]).length+([]:List Int).length:Nat):Int) (-1)):=by
     unfold zBE;rw[iv,zA,e4]
    rw[e,e5,O];simp[rsE,H]
  ·have D:st x=false:=by rw[k];simp[H]
   have e:xZ st (x::t) ((P.length+run.length:Nat):Int) s=xZ st t ((P.length+(run++ [x]).length:Nat):Int) (P.length:Int):=by
    have Y:((P.length+(run++ [x]).length:Nat):Int)=((P.length+run.length:Nat):Int)+1:=by simp;omega
    rw[Y];rcases T with ⟨rfl,rfl⟩ | ⟨G,rfl⟩
    ·simp[xZ,D]
    ·have:¬((P.length:Int)<0):=by omega
     simp only[xZ,D,dQ,dM,this,dH,dN,cV,dR]
   have O:=yAN k K t (run++ [x]) P (P.length:Int) (by simp;omega) (.inr ⟨by simp,rfl⟩)
   rw[e,show P++run++x::t=P++(run++ [x])++t by simp,O];simp[rsE,H]
end
theorem yH6 {l:List bL} (h:CV l) (k:l.length<=2000) (x y:Int):vT x y l=some (sg (clE l x) (clE l y)):=by unfold vT;simp only[zJ5 h k,zA,yDI];unfold sg;rfl
theorem yPZ {l:List bL} (h:CV l) (D:l.length<=2000) (H:∀x∈l,b9 x) {text:List Int} (K:text.length<=2000):zCD l text=some (csE (clE l) text):=by
 have G:∀x,0<=clE l x:=ySC h;unfold zCD zB3;have k:∀x,(jE l x==some 0)=decide (clE l x=0):=λx=>by rw[zJ5 h D];by_cases T:clE l x=0<;>simp[T]
 rw[zZT D H h,zA,yPG K,zA,z5K h D K k rfl,zA];have:=yAN (key:=clE l) (f:=λp=>jA p (λx0 x1=>vT x0 x1 l)) (st:=λc=>jE l c==some 0) k (λp O=>by
  obtain⟨r,Y,Z,r3⟩:=yDO (key:=clE l) (f:=λx0 x1=>vT x0 x1 l) (λx y=>yH6 h D x y) p O;rw[Y];have:=z5P (key:=clE l) Z (zSY (key:=clE l) p) (r3.symm.trans (yAK p));rw[this];rfl) text [] [] (-1) (by simpa using K) (.inl ⟨rfl,rfl⟩)
 rw[yH4 G];exact this
noncomputable def zGL (n:Norm) (b:Bool) (text:List Int):List Int:=csE (clE (usN n).aK) (zJ7 n b text)
theorem zOH (n:Norm) (b:Bool) (text:List Int):(zGL n b text).length=(zJ7 n b text).length:=yMA _
theorem yDQ {n:Norm} (k:NSm n) (h:vZ n) (b:Bool) (text:List Int):(zJ7 n b text).length<=64*text.length:=z5T ((z13 k h).len b) text
theorem z5V {n:Norm} (D:NSm n) (k:vZ n) {text:List Int} {b:Bool} (H:text.length<=2000) (G:(zJ7 n b text).length<=2000):vI n text b=some (zGL n b text):=by
 have h:=z13 D k;rw[yL8 D k H,yPZ h.cv (by have:=h.cl;omega) h.ok G]
 rfl
open Go.AV
noncomputable def wkE (c:Collation) (l:List bL):Nat->List Int->List aP×Bool
 | 0,_=>([],true)
 | k+1,text=>if text= [] then ([],true) else ((stE c l text).2.2++(wkE c l k (stE c l text).2.1).1,decide (zAL (kB c).aB text≠0)&&(wkE c l k (stE c l text).2.1).2)
theorem yH7 {c:Collation} {l:List bL} {text:List Int} (G:text≠[]):1<=(stE c l text).1/\(stE c l text).1+((stE c l text).2.1.length:Int)=(text.length:Int):=by have D:0<text.length:=e9.2 G;unfold stE;split;refine⟨by simp,?_⟩;show (1:Int)+((text.drop 1).length:Int)=_;rw[eH];omega;rename_i H;have k:zAL (kB c).aB text<=text.length:=zRS _ _;have h:=zRT (fd:=λq=>(zEA (kB c).aB q).2) (cl:=clE l) (text.drop (zAL (kB c).aB text)) (text.take (zAL (kB c).aB text)) [] 0;generalize zEX (λq=>(zEA (kB c).aB q).2) (clE l) (text.drop (zAL (kB c).aB text)) (text.take (zAL (kB c).aB text)) [] 0=q at*;obtain⟨i1,i2,_⟩:=h;rw[dZ,hF k] at i1 i2;rw[eH] at i2;simp only[d6] at i2;constructor;show (1:Int)<=(q.1.length:Int);omega;show (q.1.length:Int)+(q.2.length:Int)=_;omega
theorem zZZ {c:Collation} {l:List bL} {text:List Int} (h:text≠[]):(stE c l text).2.1.length<text.length:=by have:=yH7 (c:=c) (l:=l) h;omega
theorem yH8 {c:Collation} (h:Sm c) {l:List bL} (text:List Int):(stE c l text).2.2.length<=2000:=by unfold stE;split;exact yLP _ _;exact yLO (z1T h) _
theorem yAO {c:Collation} {l:List bL}:∀(k j:Nat) (text:List Int),text.length<=k->text.length<=j->wkE c l k text=wkE c l j text
 | 0,j,text,h,_=>by
  have:text= []:=cP (by omega);subst this;cases j with
  | zero=>rfl
  | succ j=>simp[wkE]
 | k+1,j,text,h,K=>by
  by_cases D:text= [];subst D;cases j<;>simp[wkE];have G:0<text.length:=e9.2 D;cases j with
  | zero=>omega
  | succ j=>
   have H:=zZZ (c:=c) (l:=l) D;simp only[wkE,D,cV];rw[yAO k j _ (by omega) (by omega)]
noncomputable def wk (c:Collation) (l:List bL) (text:List Int):List aP×Bool:=wkE c l text.length text
theorem zOI (c:Collation) (l:List bL):wk c l []=([],true):=rfl
theorem zUZ {c:Collation} {l:List bL} {text:List Int} (h:text≠[]):wk c l text=((stE c l text).2.2++(wk c l (stE c l text).2.1).1,decide (zAL (kB c).aB text≠0)&&(wk c l (stE c l text).2.1).2):=by
 have G:=zZZ (c:=c) (l:=l) h;unfold wk;obtain⟨k,D⟩:∃k,text.length=k+1:=⟨text.length-1,by have:=e9.2 h;omega⟩
 rw[D];simp only[wkE,h,cV];rw[yAO k (stE c l text).2.1.length _ (by omega) (by omega)]
theorem yP0 {c:Collation} (H:Sm c) {l:List bL}:∀(k:Nat) (text:List Int),text.length<=k->(wk c l text).1.length<=2000*text.length:=by
 intro k
 induction k with
 | zero=>
  intro text h;have:text= []:=cP (by omega);subst this;rw[zOI];simp
 | succ k K=>
  intro text h;by_cases D:text= [];subst D;rw[zOI];simp;have G:=zZZ (c:=c) (l:=l) D;have O:=K _ (show (stE c l text).2.1.length<=k by omega);have T:=yH8 H (l:=l) text;rw[zUZ D];show ((stE c l text).2.2++(wk c l (stE c l text).2.1).1).length<=_;rw[cU];omega
section
variable {c:Collation} (hs:Sm c) {l:List bL} (hcv:CV l) (hl:l.length<=2000)
include hs hcv hl
theorem yMC:∀(k:Nat) (text:List Int) (acc:List aP),text.length<=k->text.length<=2000->acc.length+2000*text.length<=100000000->zE (λ(x:(List aP)×(List Int))=>xU (zOF c l) x.1 x.2) (acc,text)=some (acc++(wk c l text).1):=by
 intro k
 induction k with
 | zero=>
  intro text acc h _ _;have:text= []:=cP (by omega);subst this;refine zL ?_;simp[xU,zOI]
 | succ k Y=>
  intro text acc h T ha;by_cases D:text= [];subst D;refine zL ?_;simp[xU,zOI];have G:0<text.length:=e9.2 D;have O:=zZZ (c:=c) (l:=l) D;have h2:=yH8 hs (l:=l) text;obtain⟨ab,Z,m2⟩:=yH0 hs hcv hl T D;have H:decide ((0:Int)<(text.length:Int))=true:=by simp;omega
  have K:app acc (stE c l text).2.2=some (acc++(stE c l text).2.2):=jX (by omega);rw[zN (x':=(acc++(stE c l text).2.2,(stE c l text).2.1)) (by simp only[xU,H,cN,Z,zA,K,m2])];rw[Y _ _ (by omega) (by omega) (by rw[cU];omega),zUZ D,c8]
end
theorem zWU (n:Norm):wF n=(usN n).aK:=by unfold wF usN;split<;>rfl
section
variable {n:Norm} {c:Collation} (hn:NSm n) (hok:vZ n) (hs:Sm c) (hg:∀g∈c.aF,g.bS.length<=MX) {text:List Int} (ht:text.length<=2000) (hf:(zJ7 n false text).length<=2000)
include hn hok hs hg ht hf
theorem zTS:kD n c text=some (wk c (wF n) (zGL n false text)).1:=by
 unfold kD;have k:(wF n).length<=2000:=by have:=zSZ hn;omega
 have h:(zGL n false text).length<=2000:=by rw[zOH];exact hf
 rw[yLL hs hg,zA,yL6 hn hok,zA,z5V hn hok ht hf,zA,yMC hs (z5S n) k _ _ [] (dA _) h (by simp;omega)]
 rfl
end
theorem yH9 {n:Norm} {c:Collation} (h:Sm c) {text:List Int} (k:(zGL n false text).length<=2000):(wk c (wF n) (zGL n false text)).1.length<=1000000000:=by have:=yP0 h (l:=wF n) _ (zGL n false text) (dA _);omega
open Go.AV
theorem yAP {f:Int->List Int}:∀{L:List Int},(∀e∈L,f e= [e])->L.flatMap f=L
 | [],_=>rfl
 | x::L,h=>by rw[d9,h x (by simp),yAP λe k=>h e (by simp[k])];rfl
open Go.AV
open Go.AV
theorem ySE (D:List bL) (G:Nat) (hv:G<D.length) (H:List Range) (Y:H= [{Lo:=4352,Hi:=4370},{Lo:=4449,Hi:=4469},{Lo:=4520,Hi:=4546},{Lo:=44032,Hi:=55203}]):
  (zE (λ(x:Int)=>uZ H D (G:Int) x) 0=some (.inl ())/\hgOk (nth D G))\/(zE (λ(x:Int)=>uZ H D (G:Int) x) 0=some (.inr 11)/\¬hgOk (nth D G)):=by
 have h:=kG (body:=λ(x:Int)=>uZ H D (G:Int) x) H.length (λk=> ¬((nth D G).Lo<=(nth H k).Hi/\(nth H k).Lo<=(nth D G).Hi)) (λy=>y=11) (λk O=>by
  have hl:H.length=4:=by rw[Y];rfl
  simp only[uZ,yU O,cN,zU hv,zU O,zA,zO,zK (k:=k) (by omega)];by_cases K:(nth D G).Lo<=(nth H k).Hi
  ·simp only[K,dB,xS,zA,dM,true_and]
   exact wV (by simp) rfl
  ·simp only[K,dH,vF,zA,dR,cM,false_and]
   exact .inl ⟨by simp,trivial⟩) (λk O=>by simp only[uZ,kJ O,cM])
 have e:(∀j,j<H.length->¬((nth D G).Lo<=(nth H j).Hi/\(nth H j).Lo<=(nth D G).Hi))↔hgOk (nth D G):=by
  subst Y;unfold hgOk;constructor
  ·intro h;exact⟨h 0 (by decide),h 1 (by decide),h 2 (by decide),h 3 (by decide)⟩
  ·rintro⟨Z,K,h2,h3⟩ j hj
   have T:j<4:=hj
   match j,T with
   | 0,_=>exact Z
   | 1,_=>exact K
   | 2,_=>exact h2
   | 3,_=>exact h3
 rw[e] at h;rcases h with h | ⟨y,rfl,h⟩
 ·exact .inl h
 ·exact .inr h
theorem yIA {l:List bL} (hl:l.length<=2000):Ver (zFR l) (CV l):=by
 have T:=kG (body:=λ(x:Int)=>zCZ l x) l.length (λk=>spOk (nth l k)) (λy=>y≠0) (λk D=>by
  simp only[zCZ,yU D,cN,zU D,zA,zO,zFW,zK (k:=k) (by omega),spOk,vld];generalize nth l k=q;by_cases H:0<=q.Lo<;>by_cases K:q.Lo<=1114111<;>by_cases h3:0<=q.Hi<;>by_cases h4:q.Hi<=1114111<;>by_cases h5:q.Hi<q.Lo<;>by_cases h6:q.Value<1<;>by_cases h7:254<q.Value<;>simp[H,K,h3,h4,h5,h6,h7,xS,vF,zA]<;>omega) (λk D=>by simp only[zCZ,kJ D,cM])
 unfold zFR Ver;rcases T with ⟨T,O⟩ | ⟨y,Y,T,O⟩
 rw[T];simp only[zA,eW];have H:=zO0 (body:=λ(x:Int)=>zC0 l x) l.length (λk=>adOk (nth l k) (nth l (k+1))) (λy=>y≠0) (λk D=>by
  have G:k<l.length:=by omega
  have w:=(O k G).2.1;have w0:=(O k G).1;have w1:=(O k G).2.2.1;simp only[zC0,yU D,cN,zU D,zA,zO,zK (k:=k+1) (by omega),zD6 (k:=k) (by omega),zU G];by_cases a1:(nth l (k+1)).Lo<=(nth l k).Hi;simp only[a1,dB,dD,vF,zA,dR,im,cN];exact .inr ⟨by unfold adOk;omega,4,by decide,rfl⟩
  simp only[a1,dH,dQ,xS,zA,dM,eY];rw[xY (n:=(nth l k).Hi+1) (by omega) (by omega)];by_cases a2:(nth l (k+1)).Lo=(nth l k).Hi+1;simp only[a2,dB,xS,zA,dM];exact wV (by unfold adOk;simp only[cZ];omega) (by decide)
  simp only[a2,dH,vF,zA,dR,cM];exact .inl ⟨by unfold adOk;omega,trivial⟩) (λk D=>by simp only[zC0,kJ D,cM])
 rcases H with ⟨H,Z⟩ | ⟨y,Y,H,Z⟩;rw[H];simp only[zA,eW,zI0];have K:=kG (body:=λ(x:Int)=>zC1 l [{Lo:=4352,Hi:=4370},{Lo:=4449,Hi:=4469},{Lo:=4520,Hi:=4546},{Lo:=44032,Hi:=55203}] x) l.length (λk=>hgOk (nth l k)) (λy=>y≠0) (λk D=>by
  simp only[zC1,yU D,cN,zK (k:=k) (by omega)];rcases ySE l k D _ rfl with ⟨h,p⟩ | ⟨h,p⟩
  rw[h];exact .inl ⟨p,rfl⟩;rw[h];exact .inr ⟨p,11,by decide,rfl⟩) (λk D=>by simp only[zC1,kJ D,cM])
 rcases K with ⟨K,p2⟩ | ⟨y,Y,K,p2⟩;rw[K];exact⟨0,rfl,by simp only[true_iff];exact⟨O,Z,p2⟩⟩
 rw[K];exact⟨y,rfl,by simp only[Y,eV];exact λh=>p2 h.hg⟩
 rw[H];exact⟨y,rfl,by simp only[Y,eV];exact λh=>Z h.ad⟩
 rw[T];exact⟨y,rfl,by simp only[Y,eV];exact λh=>O h.sp⟩
theorem zJ8 {l:List bL} (Y:l.length<=2000) (h:CV l) (c:Int):zB4 l c=some (clE l c):=by
 obtain⟨e,O,Z⟩:=yIA Y;unfold zB4;rw[O,zA,Z.2 h];simp only[dB,dD,cM];have hb:∀k,k<l.length->vL l c (k:Int)=if zUH c (nth l k) then some (.done (.inr (nth l k).Value)) else some (.next ((k+1:Nat):Int)):=λk D=>by
  simp only[vL,yU D,cN,zU D,zA,zO,zK (k:=k) (by omega),zUH];by_cases G:(nth l k).Lo<=c
  · by_cases K:c<=(nth l k).Hi<;>simp[G,K,xS]
  · simp[G,vF]
 have key:∀(d k:Nat),l.length-k=d->k<=l.length->(∀j,j<k->zUH c (nth l j)=false)->(zE (λ(x:Int)=>vL l c x) (k:Int)).bind (λy=>y.elim (λ_=>some 0) λy=>some y)=some (clE l c):=by
  intro d
  induction d with
  | zero=>
   intro k G K H;have:k=l.length:=by omega
   subst this;rw[zL (y:= .inl ()) (by simp only[vL,kJ (dA _),cM])];unfold clE;rw[z1Y H];rfl
  | succ d ih=>
   intro k G K H;have D:k<l.length:=by omega
   cases hi:zUH c (nth l k) with
   | true=>
    rw[zL (y:= .inr (nth l k).Value) (by show vL l c (k:Int)=_;rw[hb k D,hi];rfl)]
    unfold clE;rw[zRQ D H hi];rfl
   | false=>
    rw[zN (x':=((k+1:Nat):Int)) (by show vL l c (k:Int)=_;rw[hb k D,hi];rfl)]
    refine ih (k+1) (by omega) (by omega) λj T=>?_;by_cases e:j=k
    · subst e;exact hi
    · exact H j (by omega)
 exact key l.length 0 (by omega) (by omega) (λj T=>by omega)
theorem zQG {l:List bL} (k:l.length<=2000) (h:CV l) (c:Int):zFA l c=some (decide (clE l c=0)):=by unfold zFA;rw[zJ8 k h];rfl
open Go.AV
theorem yP1 {a b c:aI} (k:mlt a b) (h:mlt b c):mlt a c:=by
 unfold mlt at*;rcases k with k | ⟨k,G⟩
 rcases h with h | ⟨h,D⟩;exact .inl (by omega);exact .inl (by omega);rcases h with h | ⟨h,D⟩;exact .inl (by omega);exact .inr ⟨by omega,List.lt_trans G D⟩
theorem yMD {a b:aI} (h:mlt a b):¬(a.aV=b.aV/\a.bN=b.bN):=by
 rintro⟨D,k⟩
 unfold mlt at h;rcases h with h | ⟨_,h⟩
 omega;rw[k] at h;exact List.lt_irrefl _ h
theorem yAQ {l:List aI} (h:∀k,k+1<l.length->mlt (nth l k) (nth l (k+1))):∀(d i:Nat),i+d+1<l.length->mlt (nth l i) (nth l (i+d+1))
 | 0,i,hi=>h i hi
 | d+1,i,hi=>by
  have D:=yAQ h d i (by omega);have G:=h (i+d+1) (by omega);have:i+(d+1)+1=i+d+1+1:=by omega
  rw[this];exact yP1 D G
theorem ySF (x y:Str):(x==y)=decide (x=y):=by rw[gL];simp
section
variable {l:List aI} (hl:l.length<=2000) (hto:∀m∈l,m.To.length<=2000) (htg:∀m∈l,m.bN.length<=MX)
include hl hto htg
omit hl hto htg in
theorem yIB {m:aI} (G:m.To.length<=2000):∃b,zHW m=some b/\(b=true↔codesOk m):=by
 unfold zHW;have h:=kG (body:=λ(x:Int)=>zC2 m x) m.To.length (λj=>vld (nth m.To j)=true) (λy=>y=false) (λj D=>by
  simp only[zC2,yU D,cN,zU D,zA,zFW,zK (k:=j) (by omega)];exact wV (by simp) rfl) (λj D=>by simp only[zC2,kJ D,cM])
 rw[zAT (p:=λc=>vld c=true)] at h;rcases h with ⟨h,p⟩ | ⟨y,rfl,h,p⟩
 rw[h];simp only[zA,eW,zFW];exact⟨_,rfl,⟨λa=>⟨a,p⟩,λa=>a.1⟩⟩;rw[h];exact⟨false,rfl,by simp only[dN,eV];exact λa=>p a.2⟩
omit hto htg in
theorem yIC:∃b,zHX l=some b/\(b=true->¬∀k,k+1<l.length->mlt (nth l k) (nth l (k+1)))/\(b=false->True):=by
 unfold zHX;have inner:∀i,i<l.length->(zE (λ(x:Int)=>u0 (i:Int) l x) 0=some (.inl ())/\∀j,j<i->¬((nth l i).aV=(nth l j).aV/\(nth l i).bN=(nth l j).bN))\/(∃y,y=true/\zE (λ(x:Int)=>u0 (i:Int) l x) 0=some (.inr y)/\¬∀j,j<i->¬((nth l i).aV=(nth l j).aV/\(nth l i).bN=(nth l j).bN)):=by
  intro i hi;refine kG (body:=λ(x:Int)=>u0 (i:Int) l x) i _ (λy=>y=true) (λj D=>?_) (λj D=>by simp only[u0,kJ D,cM]);have G:j<l.length:=by omega
  simp only[u0,yU D,cN,zU hi,zU G,zA,zO,zK (k:=j) (by omega),ySF];by_cases a:(nth l i).aV=(nth l j).aV;simp only[a,dB,xS,zA,dM,true_and];exact wV (by simp) rfl;simp only[a,dH,vF,zA,dR,cM,false_and];exact .inl ⟨by simp,trivial⟩
 have h:=kG (body:=λ(x:Int)=>zC3 l x) l.length (λi=> ∀j,j<i->¬((nth l i).aV=(nth l j).aV/\(nth l i).bN=(nth l j).bN)) (λy=>y=true) (λk H=>by
  simp only[zC3,yU H,cN,zK (k:=k) (by omega)];rcases inner k H with ⟨h,p⟩ | ⟨y,O,h,p⟩
  rw[h];exact .inl ⟨p,rfl⟩;rw[h];exact .inr ⟨p,y,O,rfl⟩) (λj D=>by simp only[zC3,kJ D,cM])
 rcases h with ⟨h,p⟩ | ⟨y,rfl,h,p⟩;rw[h];exact⟨false,rfl,λh=>(by cases h),λ_=>trivial⟩;rw[h];refine⟨true,rfl,λ_ K=>p λi hi j D=>?_,λ_=>trivial⟩;have:=yAQ K (i-j-1) j (by omega);rw[show j+(i-j-1)+1=i by omega] at this;have:=yMD this;exact λ⟨a,b⟩=>this ⟨a.symm,b.symm⟩
theorem yP2:∃e,zEI l=some e/\(e=0->(∀m∈l,codesOk m)/\(∀m∈l,m.To.length<=64)/\∀m∈l,tagOk m)/\(e≠0->¬MV l):=by
 unfold zEI;have G:=kG (body:=λ(x:Int)=>zAE l x) l.length (λk=>codesOk (nth l k)) (λy=>y≠0) (λk D=>by
  obtain⟨b,hb,T⟩:=yIB (hto _ (vN D));simp only[zAE,yU D,cN,zU D,zA,hb,zK (k:=k) (by omega)];exact wV (by rw[<-T];simp) (by decide)) (λk D=>by simp only[zAE,kJ D,cM])
 rw[zAT (p:=codesOk)] at G;rcases G with ⟨G,Y⟩ | ⟨y,O,G,Y⟩
 case inr=>rw[G];exact⟨y,rfl,λh=>absurd h O,λ_ h=>Y h.co⟩
 rw[G];simp only[zA,eW];have H:=kG (body:=λ(x:Int)=>zAF l x) l.length (λk=>(nth l k).To.length<=64) (λy=>y≠0) (λk D=>by
  simp only[zAF,yU D,cN,zU D,zA,zK (k:=k) (by omega)];exact wV (by simp only[cZ];omega) (by decide)) (λk D=>by simp only[zAF,kJ D,cM])
 rw[zAT (p:=λ(m:aI)=>m.To.length<=64)] at H;rcases H with ⟨H,Z⟩ | ⟨y,O,H,Z⟩
 case inr=>rw[H];exact⟨y,rfl,λh=>absurd h O,λ_ h=>Z h.sz⟩
 rw[H];simp only[zA,eW];have K:=kG (body:=λ(x:Int)=>zAG l x) l.length (λk=>tagOk (nth l k)) (λy=>y≠0) (λk D=>by
  simp only[zAG,yU D,cN,zU D,zA,zO,zK (k:=k) (by omega),tagOk,ySF];by_cases ht:(nth l k).bN= []
  ·
   simp only[ht,dB,dD,vF,zA,dR,cM];exact .inl ⟨.inl trivial,trivial⟩
  ·
   simp only[ht,dH,dQ,xS,zA,z91 (htg _ (vN D)),dM,false_or];exact wV (by simp) (by decide)) (λk D=>by simp only[zAG,kJ D,cM])
 rw[zAT (p:=tagOk)] at K;rcases K with ⟨K,p2⟩ | ⟨y,O,K,p2⟩
 case inr=>rw[K];exact⟨y,rfl,λh=>absurd h O,λ_ h=>p2 h.tg⟩
 rw[K];simp only[zA,eW];obtain⟨b,hb,T,_⟩:=yIC hl;rw[hb,zA];cases b with
 | true=>exact⟨5,rfl,λh=>absurd h (by decide),λ_ h=>T rfl h.lt⟩
 | false=>exact⟨0,rfl,λ_=>⟨Y,Z,p2⟩,λh=>absurd rfl h⟩
theorem yP3:Ver (zHY l) (MV l):=by
 obtain⟨e,Z,T,Y⟩:=yP2 hl hto htg;unfold zHY;rw[Z,zA];by_cases G:e=0
 case neg=>
  have:(!decide (e=0))=true:=by simp[G]
  rw[this,cN];exact⟨e,rfl,by simp only[G,eV];exact Y G⟩
 obtain⟨p0,p1,p2⟩:=T G;rw[G];simp only[dB,dD,cM];have D:=zO0 (body:=λ(x:Int)=>zC4 l x) l.length (λk=>mlt (nth l k) (nth l (k+1))) (λy=>y≠0) (λk H=>by
  have K:k<l.length:=by omega
  simp only[zC4,yU H,cN,zU H,zA,zK (k:=k+1) (by omega),zD6 (k:=k) (by omega),zU K,zI1,zO,yHD];exact wV (by unfold mlt;simp only[fS,fC,eD,c9,not_or,Classical.not_and_iff_not_or_not]) (by decide)) (λk H=>by simp only[zC4,kJ H,cM])
 rcases D with ⟨D,O⟩ | ⟨y,hy,D,O⟩
 · rw[D];exact⟨0,rfl,by simp only[true_iff];exact⟨p0,p1,p2,O⟩⟩
 · rw[D];exact⟨y,rfl,by simp only[hy,eV];exact λh=>O h.lt⟩
end
open Go.AV
section
variable {β:Type} [Inhabited β] (upd:List β->Nat->β)
def zRU:Nat->Nat->List β->List β
 | 0,_,h=>h
 | d+1,i,h=>zRU d (i+1) (h.set i (upd h i))
def zJ9 (n:Nat):Nat->List β->List β
 | 0,h=>h
 | k+1,h=>zJ9 n k (zRU upd n 0 h)
end
section
variable {β:Type} [Inhabited β] {upd:List β->Nat->β} {n:Nat} {Inv:List β->Prop}
theorem zU0 {k:List β} {i j:Nat} {x: β} (hi:i<k.length):nth (k.set i x) j=if j=i then x else nth k j:=by unfold nth;rw[eF,eF,iB];by_cases h:i=j;subst h;simp[hi];rw[dK h,dK (λe=>h e.symm)]
theorem yME {h:List β} {i:Nat} (hi:i<h.length):h.set i (nth h i)=h:=by rw[zBP hi];simp
omit [Inhabited β] in
theorem zU1:∀(d i:Nat) (h:List β),(zRU upd d i h).length=h.length
 | 0,_,_=>rfl
 | d+1,i,h=>by rw[zRU,zU1 d];simp
omit [Inhabited β] in
theorem zU2 (hi:∀i k,i<n->k.length=n->Inv k->Inv (k.set i (upd k i))):∀(d i:Nat) (k:List β),i+d=n->k.length=n->Inv k->Inv (zRU upd d i k)
 | 0,_,_,_,_,h=>h
 | d+1,i,k,G,D,h=>by
  rw[zRU];exact zU2 hi d (i+1) _ (by omega) (by simp[D]) (hi i k (by omega) D h)
omit [Inhabited β] in
theorem z14 (hi:∀i D,i<n->D.length=n->Inv D->Inv (D.set i (upd D i))):∀(k:Nat) (D:List β),D.length=n->Inv D->Inv (zJ9 upd n k D)/\(zJ9 upd n k D).length=n
 | 0,_,G,h=>⟨h,G⟩
 | k+1,D,G,h=>by
  rw[zJ9];exact z14 hi k _ (by rw[zU1,G]) (zU2 hi n 0 D (by omega) G h)
theorem yID {R R':Nat->Prop} {t:Nat->β} (Y:∀j,R j->R' j) (hi:∀i k,i<n->k.length=n->Inv k->Inv (k.set i (upd k i)))
  (Z:∀k i,i<n->k.length=n->Inv k->(∀j,j<n->R j->nth k j=t j)->R' i->upd k i=t i):
  ∀(d i:Nat) (k:List β),i+d=n->k.length=n->Inv k->(∀j,j<n->R j->nth k j=t j)->(∀j,j<i->R' j->nth k j=t j)->∀j,j<n->R' j->nth (zRU upd d i k) j=t j
 | 0,i,k,hd,K,h,O,T,j,H,D=>T j (by omega) D
 | d+1,i,k,hd,K,h,O,T,j,H,D=>by
  have G:i<n:=by omega
  have hu:R' i->upd k i=t i:=Z k i G K h O;rw[zRU];refine yID Y hi Z d (i+1) _ (by omega) (by simp[K]) (hi i k G K h) (λj H D=>?_) (λj H D=>?_) j H D
  ·rw[zU0 (by omega)]
   split
   ·rename_i e;subst e;exact hu (Y _ D)
   ·exact O j H D
  ·rw[zU0 (by omega)]
   split
   ·rename_i e;subst e;exact hu D
   ·exact T j (by omega) D
theorem z15 {R:Nat->Nat->Prop} {t:Nat->β} (O:∀r j,R r j->R (r+1) j) (hi:∀i D,i<n->D.length=n->Inv D->Inv (D.set i (upd D i)))
  (T:∀r D i,i<n->D.length=n->Inv D->(∀j,j<n->R r j->nth D j=t j)->R (r+1) i->upd D i=t i):
  ∀(k r:Nat) (D:List β),D.length=n->Inv D->(∀j,j<n->R r j->nth D j=t j)->∀j,j<n->R (r+k) j->nth (zJ9 upd n k D) j=t j
 | 0,_,_,_,_,h,j,G,K=>h j G K
 | k+1,r,D,H,h,Y,j,G,K=>by
  rw[zJ9];have:=yID (R:=R r) (R':=R (r+1)) (O r) hi (T r) n 0 D (by omega) H h Y (λj G=>by omega);refine z15 O hi T k (r+1) _ (by rw[zU1,H]) (zU2 hi n 0 D (by omega) H h) this j G ?_;rw[show r+1+k=r+(k+1) by omega];exact K
omit [Inhabited β] in
theorem zRV {X Y:Type} (mk:Nat->List β->X) {body:X->Option (Stp X Y)} (D:List β->Y)
  (hb:∀i k,i<n->k.length=n->Inv k->body (mk i k)=some (.next (mk (i+1) (k.set i (upd k i)))))
  (hi:∀i k,i<n->k.length=n->Inv k->Inv (k.set i (upd k i)))
  (H:∀k,body (mk n k)=some (.done (D k))):∀(d i:Nat) (k:List β),i+d=n->k.length=n->Inv k->zE body (mk i k)=some (D (zRU upd d i k))
 | 0,i,k,K,G,h=>by
  have:i=n:=by omega
  subst this;exact zL (H k)
 | d+1,i,k,K,G,h=>by
  rw[zN (hb i k (by omega) G h),zRU];exact zRV mk D hb hi H d (i+1) _ (by omega) (by simp[G]) (hi i k (by omega) G h)
omit [Inhabited β] in
theorem zRW {X Y:Type} (mk:Nat->List β->X) {body:X->Option (Stp X Y)} (G:List β->Y) {N:Nat}
  (hb:∀r D,r<N->D.length=n->Inv D->body (mk r D)=some (.next (mk (r+1) (zRU upd n 0 D))))
  (hi:∀i D,i<n->D.length=n->Inv D->Inv (D.set i (upd D i)))
  (K:∀D,body (mk N D)=some (.done (G D))):∀(k r:Nat) (D:List β),r+k=N->D.length=n->Inv D->zE body (mk r D)=some (G (zJ9 upd n k D))
 | 0,r,D,O,H,h=>by
  have:r=N:=by omega
  subst this;exact zL (K D)
 | k+1,r,D,O,H,h=>by
  rw[zN (hb r D (by omega) H h),zJ9];exact zRW mk G hb hi K k (r+1) _ (by omega) (by rw[zU1,H]) (zU2 hi n 0 D (by omega) H h)
end
theorem z5W {A Y:Type} {p:Nat->A->Option Y}:∀{l:List A} {k:Nat} {y:Y},chk p l k=some y->∃j,∃h:j<l.length,p (k+j) l[j]=some y
 | [],_,_,h=>by cases h
 | x::l,k,y,h=>by
  unfold chk at h;cases D:p k x with
  | some z=>
   rw[D] at h;exact⟨0,by simp,by simpa[D] using h⟩
  | none=>
   rw[D] at h;obtain⟨j,G,e⟩:=z5W h;exact⟨j+1,by simpa using G,by rw[show k+(j+1)=k+1+j by omega];simpa using e⟩
theorem zZ0 {A Y:Type} {p:Nat->A->Option Y}:∀{l:List A} {k j:Nat} (h:j<l.length),p (k+j) l[j]≠none->∃i,∃hi:i<l.length,i<=j/\chk p l k=p (k+i) l[i]
 | [],_,_,h,_=>by cases h
 | x::l,k,j,h,D=>by
  unfold chk;cases G:p k x with
  | some z=>exact⟨0,by simp,gH _,by simp[G]⟩
  | none=>
   cases j with
   | zero=>exact absurd (by simpa using G) D
   | succ j=>
    obtain⟨i,hi,H,e⟩:=zZ0 (p:=p) (l:=l) (k:=k+1) (j:=j) (by simpa using h) (by rw[show k+1+j=k+(j+1) by omega];simpa using D)
    exact⟨i+1,by simpa using hi,by omega,by rw[show k+(i+1)=k+1+i by omega];simpa using e⟩
def pM (c:Int) (b:Bool) (k:Nat) (m:aI):Option Nat:=if m.aV=c/\(b ||(m.bN== []))=true then some k else none
def fi (l:List aI) (c:Int) (b:Bool):Option Nat:=chk (pM c b) l 0
theorem zK3 {l:List aI} {c:Int} {b:Bool} {i:Nat} (h:fi l c b=some i):i<l.length/\(nth l i).aV=c/\(b ||((nth l i).bN== []))=true:=by
 obtain⟨j,k,e⟩:=z5W h;unfold pM at e;split at e;rename_i D;injection e with e;have:i=j:=by omega
 subst this;rw[zBP k];exact⟨k,D⟩;cases e
theorem yAR {l:List aI} {c:Int} {b:Bool} (h:fi l c b=none):∀m∈l,¬(m.aV=c/\(b ||(m.bN== []))=true):=by intro m D G;obtain⟨j,k,rfl⟩:=fA D;have:=zOD h j k;unfold pM at this;rw[dI G] at this;cases this
theorem zZ1 {l:List aI} (O:DS l) (c:Int) (b:Bool):(∃i,fi l c b=some i/\i<l.length/\(nth l i).aV=c/\fnB l b c=some (nth l i).To)\/(fi l c b=none/\fnB l b c=none):=by
 cases G:fi l c b with
 | some i=>
  obtain⟨h,D,k⟩:=zK3 G;refine .inl ⟨i,rfl,h,D,?_⟩;have:=zEU O (vN h);rw[D] at this;unfold fnB;rw[this];simp only[k,dG]
 | none=>
  refine .inr ⟨rfl,?_⟩;cases T:fnB l b c with
  | none=>rfl
  | some Y=>
   obtain⟨m,h,_,k⟩:=zL3 T;obtain⟨H,K⟩:=zHM h;exact absurd ⟨K,k⟩ (yAR G m H)
def fiI (l:List aI) (c:Int) (b:Bool):Int:=match fi l c b with
 | some i=>(i:Int)
 | none=> -1
open Go.AV
section
variable {l:List aI} (hd:DS l)
def zQH (l:List aI) (h:List Bool) (i:Nat):Bool:=(nth l i).To.all λe=>match fi l e true with
 | some m=>nth h m
 | none=>true
def yDR (l:List aI) (h:List Bool):Prop:= ∀j,j<l.length->nth h j=true->WW l (nth l j).aV
include hd
theorem yMG {D:List Bool} (h:yDR l D) {i:Nat} (hi:i<l.length) (Y:zQH l D i=true):WW l (nth l i).aV:=by
 refine z5M λe H=>?_;rw[z5L hd (vN hi)] at H;have:=dS.1 Y e H;rcases zZ1 hd e true with ⟨m,G,k,O,_⟩ | ⟨G,k⟩
 rw[G] at this;have:=h m k this;rw[O] at this;exact this;cases K:syl e with
 | true=>exact yPM hd K
 | false=>
  refine z10 ?_;unfold dep;rw[dK (by simp[K])];rw[zWS] at k;cases T:l.find? (isF e) with
  | none=>rfl
  | some m=>rw[T] at k;cases k
theorem zZ2 (i:Nat) (k:List Bool) (hi:i<l.length) (H:k.length=l.length) (h:yDR l k):yDR l (k.set i (zQH l k i)):=by intro j G D;rw[zU0 (by omega)] at D;split at D;rename_i e;subst e;exact yMG hd h hi D;exact h j G D
theorem yMH (r:Nat) (h:List Bool) (i:Nat) (hi:i<l.length) (_hl:h.length=l.length) (H:∀j,j<l.length->DD l r (nth l j).aV->nth h j=true) (O:DD l (r+1) (nth l i).aV):zQH l h i=true:=by
 refine dS.2 λe K=>?_;have:=O (nth l i) (zEU hd (vN hi)) e K;rcases zZ1 hd e true with ⟨m,k,D,G,_⟩ | ⟨k,_⟩
 rw[k];exact H m D (by rw[G];exact this)
 rw[k]
theorem yIE:(∀j,j<l.length->nth (zJ9 (zQH l) l.length l.length (List.replicate l.length false)) j=true)↔∀m∈l,WW l m.aV:=by
 have O:yDR l (List.replicate l.length false):=by
  intro j D Y;rw[zBP (by simpa using D)] at Y;simp at Y
 constructor;intro h;have hv:=(z14 (upd:=zQH l) (n:=l.length) (Inv:=yDR l) (zZ2 hd) l.length _ (by simp) O).1;rw[<-zAT (p:=λm:aI=>WW l m.aV)];exact λk T=>hv k T (h k T);intro H j D;have hp:=yHP hd H;refine z15 (upd:=zQH l) (n:=l.length) (Inv:=yDR l) (R:=λr j=>j<l.length/\DD l r (nth l j).aV) (t:=λ_=>true) (λr j h=>⟨h.1,zMS h.2⟩) (zZ2 hd) (λr K i hi hl _ Z G=>yMH hd r K i hi hl (λj D G=>Z j D ⟨D,G⟩) G.2) l.length 0 _ (by simp) O (λj D G=>?_) j D ⟨D,by rw[eE];exact hp _ (vN D)⟩
 have:l.find? (isF (nth l j).aV)=none:=G.2;rw[zEU hd (vN D)] at this;cases this
end
section
variable {l:List aI} (hd:DS l) (hD:∀c,DD l l.length c) {b:Bool}
def lenOf (l:List aI) (b:Bool) (h:List Int) (e:Int):Int:=match fi l e b with
 | some m=>nth h m
 | none=>((hdE e).length:Int)
def updL (l:List aI) (b:Bool) (h:List Int) (i:Nat):Int:=if (b ||((nth l i).bN== []))=true then min (max (((nth l i).To.map (lenOf l b h)).sum) 1) 65 else 1
def z16 (h:List Int):Prop:= ∀x∈h,0<=x/\x<=65
theorem yMI (h:List Int) (i:Nat):0<=updL l b h i/\updL l b h i<=65:=by unfold updL;split<;>omega
theorem zS0 (i:Nat) (k:List Int) (_hi:i<l.length) (_hl:k.length=l.length) (h:z16 k):z16 (k.set i (updL l b k i)):=by
 intro x D;rcases gx D with D | rfl
 exact h x D;exact yMI k i
include hd hD
theorem yMJ {i:Nat} (hi:i<l.length):wt l b (nth l i).aV=if (b ||((nth l i).bN== []))=true then min (max (((nth l i).To.map (wt l b)).sum) 1) 65 else 1:=by
 rw[zZV hD];unfold fnB;rw[zEU hd (vN hi)];by_cases h:(b ||((nth l i).bN== []))=true;simp only[h,dG];have D:=zWQ hd (vN hi);have k:hdE (nth l i).aV= [(nth l i).aV]:=by unfold hdE;rw[dK (by simp[D])]
 rw[dK h];simp only[k];rw[dK h];rfl
omit hD in
theorem yIF {k:List Int} {e:Int} (H:fnB l b e=none->wt l b e=((hdE e).length:Int)) (h:∀m,m<l.length->(nth l m).aV=e->nth k m=wt l b e):lenOf l b k e=wt l b e:=by
 unfold lenOf;rcases zZ1 hd e b with ⟨m,D,G,K,_⟩ | ⟨D,G⟩
 rw[D];exact h m G K;rw[D,H G]
theorem yMK (r:Nat) (h:List Int) (i:Nat) (hi:i<l.length) (G:∀j,j<l.length->DD l r (nth l j).aV->nth h j=wt l b (nth l j).aV) (T:DD l (r+1) (nth l i).aV):updL l b h i=wt l b (nth l i).aV:=by
 rw[yMJ hd hD hi];unfold updL;split
 ·have:(nth l i).To.map (lenOf l b h)=(nth l i).To.map (wt l b):=gw λe H=>by
   have k:=T (nth l i) (zEU hd (vN hi)) e H;exact yIF hd (λO=>by rw[zZV hD,O]) λm K D=>by rw[<-D];exact G m K (by rw[D];exact k)
  rw[this]
 ·rfl
theorem yAS (j:Nat) (k:j<l.length):nth (zJ9 (updL l b) l.length l.length (List.replicate l.length 0)) j=wt l b (nth l j).aV:=by
 have H:z16 (List.replicate l.length 0):=λx O=>by rw[(List.mem_replicate.1 O).2];omega
 refine z15 (upd:=updL l b) (n:=l.length) (Inv:=z16) (R:=λr j=>j<l.length/\DD l r (nth l j).aV) (t:=λj=>wt l b (nth l j).aV) (λr j h=>⟨h.1,zMS h.2⟩) zS0 (λr G i hi T _ K D=>yMK hd hD r G i hi (λj k D=>K j k ⟨k,D⟩) D.2) l.length 0 _ (by simp) H (λj k D=>?_) j k ⟨k,by rw[eE];exact hD _⟩
 have:l.find? (isF (nth l j).aV)=none:=D.2;rw[zEU hd (vN k)] at this;cases this
end
section
variable {l:List aI} (hd:DS l) (hD:∀c,DD l l.length c) {b:Bool}
def zIG (l:List aI) (b:Bool) (h:List (List Int)) (e:Int):List Int:=match fi l e b with
 | some m=>nth h m
 | none=>hdE e
def zWV (l:List aI) (b:Bool) (h:List (List Int)) (i:Nat):List Int:=if (b ||((nth l i).bN== []))=true then (nth l i).To.flatMap (zIG l b h) else nth h i
def zYL (l:List aI) (b:Bool) (h:List (List Int)):Prop:= ∀j,j<l.length->(nth h j).length<=(fu l b (nth l j).aV).length
include hd hD
theorem yAT {i:Nat} (hi:i<l.length) (h:(b ||((nth l i).bN== []))=true):fu l b (nth l i).aV=(nth l i).To.flatMap (fu l b):=by rw[zTR hD];unfold fnB;rw[zEU hd (vN hi)];simp only[h,dG]
theorem yAU {k:List (List Int)} (h:zYL l b k) (e:Int):(zIG l b k e).length<=(fu l b e).length:=by
 unfold zIG;rcases zZ1 hd e b with ⟨m,D,G,H,_⟩ | ⟨D,G⟩
 rw[D];have:=h m G;rw[H] at this;exact this;rw[D,zTR hD,G];exact dA _
omit hd hD in
theorem z5X {f g:Int->List Int} (h:∀e,(f e).length<=(g e).length):∀L:List Int,(L.flatMap f).length<=(L.flatMap g).length
 | []=>dA _
 | x::L=>by have:=z5X h L;have:=h x;simp only[d9,cU];omega
theorem yIG {k:List (List Int)} (h:zYL l b k) {i:Nat} (hi:i<l.length):(zWV l b k i).length<=(fu l b (nth l i).aV).length:=by unfold zWV;split;rename_i D;rw[yAT hd hD hi D];exact z5X (yAU hd hD h) _;exact h i hi
theorem zS1 (i:Nat) (k:List (List Int)) (hi:i<l.length) (G:k.length=l.length) (h:zYL l b k):zYL l b (k.set i (zWV l b k i)):=by intro j D;rw[zU0 (by omega)];split;rename_i e;subst e;exact yIG hd hD h hi;exact h j D
omit hD in
theorem yML (hD:∀c,DD l l.length c) (r:Nat) (h:List (List Int)) (i:Nat) (hi:i<l.length) (T:∀j,j<l.length->(b ||((nth l j).bN== []))=true->DD l r (nth l j).aV->nth h j=fu l b (nth l j).aV) (K:(b ||((nth l i).bN== []))=true) (Z:DD l (r+1) (nth l i).aV):zWV l b h i=fu l b (nth l i).aV:=by
 rw[yAT hd hD hi K];unfold zWV;rw[dI K];refine zQF λe Y=>?_;have G:=Z (nth l i) (zEU hd (vN hi)) e Y;unfold zIG;cases H:fi l e b with
 | some m=>
  obtain⟨k,D,O⟩:=zK3 H;show nth h m=_;rw[T m k O (by rw[D];exact G),D]
 | none=>
  rcases zZ1 hd e b with ⟨m,k,_⟩ | ⟨_,D⟩;rw[H] at k;cases k;show hdE e=_;rw[zTR hD,D]
def z5Y (l:List aI) (b:Bool):List (List Int):=zJ9 (zWV l b) l.length l.length (List.replicate l.length [])
omit hd hD in
theorem yN1:zYL l b (List.replicate l.length []):=by intro j h;rw[zBP (by simpa using h)];simp
theorem yP4 (j:Nat) (k:j<l.length) (G:(b ||((nth l j).bN== []))=true):nth (z5Y l b) j=fu l b (nth l j).aV:=by
 refine z15 (upd:=zWV l b) (n:=l.length) (Inv:=zYL l b) (R:=λr j=>j<l.length/\(b ||((nth l j).bN== []))=true/\DD l r (nth l j).aV) (t:=λj=>fu l b (nth l j).aV) (λr j h=>⟨h.1,h.2.1,zMS h.2.2⟩) (zS1 hd hD) (λr H i hi O _ K D=>yML hd hD r H i hi (λj k G D=>K j k ⟨k,G,D⟩) D.2.1 D.2.2) l.length 0 _ (by simp) yN1 (λj k D=>?_) j k ⟨k,G,by rw[eE];exact hD _⟩
 have:l.find? (isF (nth l j).aV)=none:=D.2.2;rw[zEU hd (vN k)] at this;cases this
theorem yMM (e:Int):zIG l b (z5Y l b) e=fu l b e:=by
 unfold zIG;cases D:fi l e b with
 | some m=>
  obtain⟨h,k,G⟩:=zK3 D;show nth (z5Y l b) m=_;rw[yP4 hd hD m h G,k]
 | none=>
  rcases zZ1 hd e b with ⟨m,h,_⟩ | ⟨_,k⟩;rw[D] at h;cases h;show hdE e=_;rw[zTR hD,k]
end
open Go.AV
def plF (n:Int):Bool->List Int->Bool×List Int
 | true,l=>(true,l)
 | false,[]=>(false,[])
 | false,x::l=>if n<=x then (true,if n<x then n::x::l else x::l) else ((plF n false l).1,x::(plF n false l).2)
def plE (n:Int):List Int->List Int
 | []=>[n]
 | x::l=>if n<=x then (if n<x then n::x::l else x::l) else x::plE n l
theorem yN2 (n:Int):∀l:List Int,(if (plF n false l).1=true then (plF n false l).2 else (plF n false l).2++ [n])=plE n l
 | []=>rfl
 | x::l=>by
  have:=yN2 n l;unfold plF plE;by_cases h:n<=x;simp[h];simp only[h,cV];rw[<-this];split<;>simp
theorem z8U {l:List Int} {n:Int} (hl:l.length<=2000):∀(d k:Nat) (b:Bool) (h:List Int),l.length-k=d->k<=l.length->h.length<=2*k->
  zE (λ(x:Bool×Int×(List Int))=>j9 l n x.1 x.2.1 x.2.2) (b,(k:Int),h)=some ((plF n b (l.drop k)).1,h++(plF n b (l.drop k)).2):=by
 intro d
 induction d with
 | zero=>
  intro k b h h1 h2 h3;rw[dC (show l.length<=k by omega)];refine zL ?_;simp only[j9,kJ (show l.length<=k by omega),cM];cases b<;>simp[plF]
 | succ d ih=>
  intro k b h h1 h2 h3;have G:k<l.length:=by omega
  have K:∀{o:List Int} (x:Int),o.length<=2*k+1->app o [x]=some (o++ [x]):=λ{o} x Z=>jX (by simp;omega)
  rw[cY G];have Y:∀(H:Bool) (O:List Int),O.length<=2*(k+1)->j9 l n b (k:Int) h=some (.next (H,((k+1:Nat):Int),O))->(plF n H (l.drop (k+1))).1=(plF n b (l[k]::l.drop (k+1))).1->O++(plF n H (l.drop (k+1))).2=h++(plF n b (l[k]::l.drop (k+1))).2->
    zE (λ(x:Bool×Int×(List Int))=>j9 l n x.1 x.2.1 x.2.2) (b,(k:Int),h)=some ((plF n b (l[k]::l.drop (k+1))).1,h++(plF n b (l[k]::l.drop (k+1))).2):=by
   intro H O Z hb e1 e2;rw[zN (body:=λ(x:Bool×Int×(List Int))=>j9 l n x.1 x.2.1 x.2.2) (x:=(b,(k:Int),h)) hb,ih (k+1) H O (by omega) (by omega) Z,e1,e2]
  cases b with
  | true=>
   refine Y true (h++ [l[k]]) (by simp;omega) ?_ ?_ ?_
   ·simp only[j9,yU G,cN,zO,dD,vF,zA,dR,cM,zV G,K _ (show h.length<=2*k+1 by omega),zK (k:=k) (by omega)]
   ·simp[plF]
   ·simp[plF]
  | false=>
   by_cases D:n<=l[k]
   ·by_cases T:n<l[k]
    ·refine Y true (h++ [n]++ [l[k]]) (by simp;omega) ?_ ?_ ?_
     ·simp only[j9,yU G,cN,zO,dQ,xS,zA,dM,zV G,D,T,dB,K _ (show h.length<=2*k+1 by omega),K _ (show (h++ [n]).length<=2*k+1 by simp;omega),zK (k:=k) (by omega)]
     ·simp[plF,D]
     ·simp[plF,D,T]
    ·refine Y true (h++ [l[k]]) (by simp;omega) ?_ ?_ ?_
     ·simp only[j9,yU G,cN,zO,dQ,xS,zA,dM,zV G,D,T,dB,dH,cM,K _ (show h.length<=2*k+1 by omega),zK (k:=k) (by omega)]
     ·simp[plF,D]
     ·simp[plF,D,T]
   ·refine Y false (h++ [l[k]]) (by simp;omega) ?_ ?_ ?_
    ·simp only[j9,yU G,cN,zO,dQ,xS,zA,dM,zV G,D,dH,cM,K _ (show h.length<=2*k+1 by omega),zK (k:=k) (by omega)]
    ·simp[plF,D]
    ·simp[plF,D]
theorem yAV (n:Int):∀l:List Int,(plF n false l).2.length<=l.length+1
 | []=>by simp[plF]
 | x::l=>by
  have:=yAV n l;unfold plF;by_cases h:n<=x;by_cases k:n<x<;>simp[h,k];simp only[h,cV,dO];omega
theorem zRX {l:List Int} (G:l.length<=2000) (n:Int):zEJ l n=some (plE n l):=by
 unfold zEJ;have h:=z8U (n:=n) G l.length 0 false [] (by omega) (by omega) (by simp);have k:=yAV n l;rw[d7,dP] at h;have D:zE (λ(x:Bool×Int×(List Int))=>j9 l n x.1 x.2.1 x.2.2) (false,0,[])=some ((plF n false l).1,(plF n false l).2):=h;rw[D,zA,<-yN2];cases (plF n false l).1 with
 | true=>rfl
 | false=>simp only[dQ,cN,jX (show (plF n false l).2.length+ [n].length<=4294967296 by simp;omega),zA];rfl
def Gd (l:List Int):Prop:=l.Pairwise (· < ·)/\∀x∈l,0<=x/\x<=1114111
theorem z17 (n:Int):∀{l:List Int} {x:Int},x∈plE n l->x=n\/x∈l
 | [],x,h=>by simp[plE] at h;exact .inl h
 | y::l,x,h=>by
  unfold plE at h;split at h;split at h;rcases dL.1 h with h | h
  exact .inl h;exact .inr h;exact .inr h;rcases dL.1 h with h | h
  exact .inr (by simp[h]);rcases z17 n h with h | h
  exact .inl h;exact .inr (by simp[h])
theorem yAW (n:Int):∀{l:List Int},l.Pairwise (· < ·)->(plE n l).Pairwise (· < ·)
 | [],_=>by simp[plE]
 | y::l,h=>by
  obtain⟨D,H⟩:=fE.1 h;unfold plE;split;split;rename_i G;refine fE.2 ⟨λz k=>?_,h⟩;rcases dL.1 k with rfl | k;exact G;have:=D z k;omega;exact h;rename_i G;refine fE.2 ⟨λz k=>?_,yAW n H⟩;rcases z17 n k with rfl | k;omega;exact D z k
theorem zS2 {n:Int} (k:0<=n/\n<=1114111) {l:List Int} (h:Gd l):Gd (plE n l):=by
 refine⟨yAW n h.1,λx hx=>?_⟩;rcases z17 n hx with rfl | hx
 exact k;exact h.2 x hx
theorem zO5 (n:Int):∀l:List Int,(plE n l).length<=l.length+1
 | []=>by simp[plE]
 | x::l=>by
  have:=zO5 n l;unfold plE;split;split<;>simp;simp only[dO];omega
theorem z18 {n:Int}:∀{l:List Int},(∀x∈l,x<n)->plE n l=l++ [n]
 | [],_=>rfl
 | y::l,h=>by
  have D:=h y (by simp);unfold plE;rw[dK (by omega),z18 λx k=>h x (by simp[k])];rfl
def cuS (c:List Int) (r:Range):List Int:=if 0<=r.Hi/\r.Hi<1114111 then plE (r.Hi+1) (if vld r.Lo=true then plE r.Lo c else c) else (if vld r.Lo=true then plE r.Lo c else c)
theorem yAX (c:List Int) (r:Range):(cuS c r).length<=c.length+2:=by
 have k:=zO5 r.Lo c;unfold cuS;split
 ·
  have h:=zO5 (r.Hi+1) (if vld r.Lo=true then plE r.Lo c else c);split at h<;>split<;>simp_all<;>omega
 · split<;>omega
theorem yP5 {c:List Int} {r:Range} (h:Gd c):Gd (cuS c r):=by
 have D:Gd (if vld r.Lo=true then plE r.Lo c else c):=by
  split;rename_i k;unfold vld at k;simp only[dE,cZ] at k;exact zS2 k h;exact h
 unfold cuS;split;exact zS2 (by omega) D;exact D
def cuE (l:List Range) (c:List Int):List Int:=l.foldl cuS c
theorem z19:∀(l:List Range) {c:List Int},Gd c->Gd (cuE l c)
 | [],_,h=>h
 | r::l,_,h=>z19 l (yP5 h)
theorem z2A:∀(l:List Range) (c:List Int),(cuE l c).length<=c.length+2*l.length
 | [],c=>by simp[cuE]
 | r::l,c=>by
  have h:=z2A l (cuS c r);have k:=yAX c r;show (cuE l (cuS c r)).length<=_;simp only[dO];omega
theorem yDT {s:Set} (Z:s.Ranges.length<=12):∀(d k:Nat) (c:List Int),s.Ranges.length-k=d->k<=s.Ranges.length->c.length<=100+2*k->
  zE (λ(x:(List Int)×Int)=>uP s x.1 x.2) (c,(k:Int))=some (cuE (s.Ranges.drop k) c):=by
 intro d
 induction d with
 | zero=>
  intro k c K O T;rw[dC (show s.Ranges.length<=k by omega)];refine zL ?_;simp only[uP,kJ (show s.Ranges.length<=k by omega),cM];rfl
 | succ d Y=>
  intro k c K O T;have G:k<s.Ranges.length:=by omega
  have hs:=yAX c s.Ranges[k];have hb:uP s c (k:Int)=some (.next (cuS c s.Ranges[k],((k+1:Nat):Int))):=by
   have hp:=zO5 s.Ranges[k].Lo c;simp only[uP,yU G,cN,zV G,zA,zFW,zO,zK (k:=k) (by omega),zRX (show c.length<=2000 by omega)];unfold cuS;by_cases H:vld s.Ranges[k].Lo=true
   ·simp only[H,cN,zA,dG]
    by_cases h:0<=s.Ranges[k].Hi
    ·by_cases D:s.Ranges[k].Hi<1114111
     ·simp only[h,D,dB,fF,cN,iz,dG]
      rw[xY (n:=s.Ranges[k].Hi+1) (by omega) (by omega),zRX (by omega)];rfl
     ·simp[h,D]
    ·simp[h]
   ·simp only[H,dN,cV,cM,zA]
    by_cases h:0<=s.Ranges[k].Hi
    ·by_cases D:s.Ranges[k].Hi<1114111
     ·simp only[h,D,dB,fF,cN,iz,dG]
      rw[xY (n:=s.Ranges[k].Hi+1) (by omega) (by omega),zRX (by omega)];rfl
     ·simp[h,D]
    ·simp[h]
  rw[zN (body:=λ(x:(List Int)×Int)=>uP s x.1 x.2) (x:=(c,(k:Int))) hb,Y (k+1) _ (by omega) (by omega) (by omega),cY G];rfl
theorem yAY {s:Set} (D:s.Ranges.length<=12) {c:List Int} (G:c.length<=100):zG1 c s=some (plE 0 (cuE s.Ranges c)):=by unfold zG1;have h:=yDT D s.Ranges.length 0 c (by omega) (by omega) (by omega);rw[d7] at h;have k:zE (λ(x:(List Int)×Int)=>uP s x.1 x.2) (c,0)=some (cuE s.Ranges c):=h;have:=z2A s.Ranges c;rw[k,zA,zRX (by omega)];rfl
def zHF (l:List Range) (c:Int):Bool:=l.any λr=>vld c&&decide (r.Lo<=c)&&decide (c<=r.Hi)
theorem yIH {s:Set} (K:s.Ranges.length<=2000) (c:Int):zG2 s c=some (zHF s.Ranges c):=by
 unfold zG2;have h:=kG (body:=λ(x:Int)=>zEP s c x) s.Ranges.length (λk=> ¬(vld c&&decide ((nth s.Ranges k).Lo<=c)&&decide (c<=(nth s.Ranges k).Hi))=true) (λy=>y=true) (λk D=>by
  simp only[zEP,yU D,cN,zFW,zA,zO,zU D,zK (k:=k) (by omega)];cases O:vld c with
  | false=>simp only[vF,zA,dR,cM];exact .inl ⟨by simp,trivial⟩
  | true=>
   simp only[xS,zA,dM];by_cases H:(nth s.Ranges k).Lo<=c;simp only[H,dB,xS,zA,dM];exact wV (by simp) rfl;simp only[H,dH,vF,zA,dR,cM];exact .inl ⟨by simp,trivial⟩) (λk D=>by simp only[zEP,kJ D,cM])
 rw[zAT (p:=λr:Range=> ¬(vld c&&decide (r.Lo<=c)&&decide (c<=r.Hi))=true)] at h;rcases h with ⟨h,p⟩ | ⟨y,rfl,h,p⟩
 rw[h];have:zHF s.Ranges c=false:=by unfold zHF;rw[gP];exact p
 rw[this];rfl;rw[h];have:zHF s.Ranges c=true:=by
  cases G:zHF s.Ranges c with
  | true=>rfl
  | false=>exfalso;apply p;unfold zHF at G;rw[gP] at G;exact G
 rw[this];rfl
def nxt:List Int->Int
 | []=>1114111
 | d::_=>d-1
def coF (has:Int->Bool):List Int->Bool->List Range->List Range
 | [],_,o=>o
 | c::cs,k,o=>if has c=true then (if k=true then coF has cs true (match o with
   | q::h=>{q with Hi:=nxt cs}::h
   | []=>[]) else coF has cs true ({Lo:=c,Hi:=nxt cs}::o)) else coF has cs false o
theorem yMN {C:List Int} {s:Set} (hl:s.Ranges.length<=12) (hC:C.length<=200) (hg:Gd C):∀(d k:Nat) (D:Bool) (o:List Range),C.length-k=d->k<=C.length->o.length<=k->(D=true->o≠[])->
  zE (λ(x:Bool×Int×(List Range))=>jP C s {Ranges:=[]} 1 x.1 x.2.1 x.2.2) (D,(k:Int),o.reverse)=some (coF (zHF s.Ranges) (C.drop k) D o).reverse:=by
 intro d
 induction d with
 | zero=>
  intro k D o h1 h2 Z h4;rw[dC (show C.length<=k by omega)];refine zL ?_;simp only[jP,kJ (show C.length<=k by omega),cM];rfl
 | succ d ih=>
  intro k D o h1 h2 Z h4;have hk:k<C.length:=by omega
  have he:zG2 {Ranges:=[]} C[k]=some false:=by rw[yIH (by simp)];rfl
  have ac:(cond (decide (((k+1:Nat):Int)<(C.length:Int))) ((yD C ((k+1:Nat):Int)).bind λag=>some (wi (ag-1))) (some 1114111):Option Int)=some (nxt (C.drop (k+1))):=by
   by_cases K:k+1<C.length
   ·have:=hg.2 _ (eJ K)
    rw[yU K,cN,zV K,zA,xY (by omega) (by omega),cY K];rfl
   ·rw[kJ (by omega),cM,dC (by omega)]
    rfl
  rw[cY hk];have nx:∀(G:Bool) (Y:List Range),Y.length<=k+1->(G=true->Y≠[])->jP C s {Ranges:=[]} 1 D (k:Int) o.reverse=some (.next (G,((k+1:Nat):Int),Y.reverse))->coF (zHF s.Ranges) (C.drop (k+1)) G Y=coF (zHF s.Ranges) (C[k]::C.drop (k+1)) D o->
    zE (λ(x:Bool×Int×(List Range))=>jP C s {Ranges:=[]} 1 x.1 x.2.1 x.2.2) (D,(k:Int),o.reverse)=some (coF (zHF s.Ranges) (C[k]::C.drop (k+1)) D o).reverse:=by
   intro G Y ho ab hb e;rw[zN (body:=λ(x:Bool×Int×(List Range))=>jP C s {Ranges:=[]} 1 x.1 x.2.1 x.2.2) (x:=(D,(k:Int),o.reverse)) hb,ih (k+1) G Y (by omega) (by omega) ho ab,e]
  have O:jP C s {Ranges:=[]} 1 D (k:Int) o.reverse=((cond (zHF s.Ranges C[k]&&D) ((yD o.reverse (wi ((o.reverse.length:Int)-1))).bind λah=>(zBD o.reverse (wi ((o.reverse.length:Int)-1)) ({ah with Hi:=nxt (C.drop (k+1))})).bind λH=>some H) (some o.reverse)).bind λ(y3:List Range)=>
    (cond (zHF s.Ranges C[k]&& !D) ((app y3 [({Lo:=C[k],Hi:=nxt (C.drop (k+1))}:Range)]).bind λr=>some r) (some y3)).bind λ(y5:List Range)=>some (Stp.next (zHF s.Ranges C[k],((k+1:Nat):Int),y5))):=by
   unfold jP;simp only[zK (k:=k) (show k+1<=9223372036854775807 by omega),yU hk,cN,ac,zA,zV hk,yIH (show s.Ranges.length<=2000 by omega),he,zKU,dB,zO,Bool.or_false]
  cases T:zHF s.Ranges C[k] with
  | false=>
   refine nx false o (by omega) (λh=>by cases h) ?_ ?_
   ·rw[O,T];rfl
   ·simp[coF,T]
  | true=>
   cases D with
   | false=>
    refine nx true ({Lo:=C[k],Hi:=nxt (C.drop (k+1))}::o) (by simp;omega) (λ_=>by simp) ?_ ?_
    ·rw[O,T]
     simp only[fR,cM,zA,dQ,fF,cN,jX (show o.reverse.length+ [({Lo:=C[k],Hi:=nxt (C.drop (k+1))}:Range)].length<=4294967296 by simp;omega)]
     simp
    ·simp[coF,T]
   | true=>
    cases o with
    | nil=>exact absurd rfl (h4 rfl)
    | cons q o=>
     refine nx true ({q with Hi:=nxt (C.drop (k+1))}::o) (by simp only[dO] at Z ⊢;omega) (λ_=>by simp) ?_ ?_
     ·rw[O,T]
      have e1:wi (((q::o).reverse.length:Int)-1)=((o.length:Nat):Int):=by
       simp only[dO] at Z;have hL:((q::o).reverse.length:Int)=(o.length:Int)+1:=by simp
       rw[hL,xY (by omega) (by omega)];omega
      have e2:(q::o).reverse=o.reverse++q:: []:=by simp
      rw[e1,e2,vO (by simp),zA,zAR (by simp)];simp
     ·simp[coF,T]
theorem yII {l:List Range} (k:l.length<=12):zJO l=some {Ranges:=(coF (zHF l) (plE 0 (plE 0 (cuE l []))) false []).reverse}:=by unfold zJO zHJ;have G:=z2A l [];have Z:=zO5 0 (cuE l []);have h3:=zO5 0 (plE 0 (cuE l []));simp only[d6] at G;have Y:cuE ([]:List Range) (plE 0 (cuE l []))=plE 0 (cuE l []):=rfl;have H:Gd (plE 0 (plE 0 (cuE l []))):=zS2 (by omega) (zS2 (by omega) (z19 l ⟨.nil,λx K=>by cases K⟩));rw[yAY (s:={Ranges:=l}) k (by simp),zA,yAY (s:={Ranges:=[]}) (by simp) (show (plE 0 (cuE l [])).length<=100 by omega)];rw[zA];have h:=yMN (s:={Ranges:=l}) k (by omega) H _ 0 false [] rfl (by omega) (by simp) (λh=>by cases h);rw[d7] at h;have D:zE (λ(x:Bool×Int×(List Range))=>jP (plE 0 (plE 0 (cuE l []))) {Ranges:=l} {Ranges:=[]} 1 x.1 x.2.1 x.2.2) (false,0,[])=some (coF (zHF l) (plE 0 (plE 0 (cuE l []))) false []).reverse:=h;change ((zE (λ(x:Bool×Int×(List Range))=>jP (plE 0 (plE 0 (cuE l []))) {Ranges:=l} {Ranges:=[]} 1 x.1 x.2.1 x.2.2) (false,0,[])).bind λT=>some ({Ranges:=T}:Set)).bind (λO=>some O)=_;rw[D];rfl
open Go.AV
theorem zU4 {has:Int->Bool}:∀(C:List Int) (O:Bool) (o:List Range),Gd C->CanR o->(O=true->∀c,C.head? =some c->∃q K,o=q::K/\q.Hi=c-1/\q.Lo<=c)->(O=false->∀c q,C.head? =some c->o.head? =some q->q.Hi+1<c)->(O=true->o≠[])->CanR (coF has C O o)
 | [],_,_,_,h,_,_,_=>h
 | c::cs,O,o,Z,T,h1,h2,h3=>by
  obtain⟨ha,hb⟩:=fE.1 Z.1;have H:Gd cs:=⟨hb,λx hx=>Z.2 x (by simp[hx])⟩;have hc:=Z.2 c (by simp);have k:c<=nxt cs/\nxt cs<=1114111/\∀d,cs.head? =some d->nxt cs=d-1/\c<d:=by
   cases cs with
   | nil=>exact⟨hc.2,fY _,λd D=>by cases D⟩
   | cons d cs=>
    have h5:=ha d (by simp);have h6:=Z.2 d (by simp);refine⟨show c<=d-1 by omega,show d-1<=1114111 by omega,λe he=>?_⟩;simp only[hY,fD] at he;subst he;exact⟨rfl,h5⟩
  unfold coF;split;split;rename_i G;obtain⟨q,K,rfl,e1,e2⟩:=h1 G c rfl;refine zU4 cs true _ H ?_ (λ_ d D=>⟨_,_,rfl,(k.2.2 d D).1,?_⟩) (λh=>by cases h) (λ_=>by simp);have Y:=T.head;unfold zDL at Y;cases K with
  | nil=>show zDL _;unfold zDL;simp only;omega
  | cons z K=>exact⟨by unfold zDL;simp only;omega,T.2.1,T.2.2⟩
  have:=(k.2.2 d D).2;show q.Lo<=d;omega;rename_i G;simp only[gY] at G;refine zU4 cs true _ H ?_ (λ_ d D=>⟨_,_,rfl,(k.2.2 d D).1,?_⟩) (λh=>by cases h) (λ_=>by simp);cases o with
  | nil=>show zDL _;unfold zDL;simp only;omega
  | cons z K=>exact⟨by unfold zDL;simp only;omega,h2 G c z rfl rfl,T⟩
  have:=(k.2.2 d D).2;show c<=d;omega;refine zU4 cs false o H T (λh=>by cases h) (λ_ d q D Y=>?_) (λh=>by cases h);have h7:=(k.2.2 d D).2;cases O with
  | true=>
   obtain⟨q',K,rfl,e1,_⟩:=h1 rfl c rfl;simp only[hY,fD] at Y;subst Y;omega
  | false=>
   have:=h2 rfl c q rfl Y;omega
def zNG (l:List Range):List Int:=l.flatMap λr=>r.Lo::if r.Hi<1114111 then [r.Hi+1] else []
theorem yIJ:∀(l:List Range) (c:List Int),Can l->(∀x∈c,∀r,l.head? =some r->x<r.Lo)->cuE l c=c++zNG l
 | [],c,_,_=>by simp[cuE,zNG]
 | r::l,c,h,D=>by
  have O:=h.head;unfold zDL at O;have T:vld r.Lo=true:=by unfold vld;simp;omega
  have K:plE r.Lo c=c++ [r.Lo]:=z18 λx hx=>D x hx r rfl;have H:cuS c r=c++(r.Lo::if r.Hi<1114111 then [r.Hi+1] else []):=by
   unfold cuS;rw[dI T,K];by_cases k:r.Hi<1114111;rw[dI ⟨by omega,k⟩,dI k,z18];simp;intro x hx;rcases eQ.1 hx with hx | hx
   have:=D x hx r rfl;omega;simp only[g8] at hx;omega;rw[dK (λh=>k h.2),dK k]
  show cuE l (cuS c r)=_;rw[yIJ l (cuS c r) h.tail,H];simp[zNG];intro x hx q G;have Y:r.Hi+1<q.Lo:=h.gap q (by cases l with | nil=>cases G | cons a l=>simp only[hY,fD] at G;simp[G])
  rw[H] at hx;rcases eQ.1 hx with hx | hx
  have:=D x hx r rfl;omega;rcases dL.1 hx with rfl | hx
  omega;split at hx;simp only[g8] at hx;omega;cases hx
theorem yP6 {l:List Range} (h:Can l) {r:Range} (k:r∈l):zHF l r.Lo=true:=by have:=h.ok r k;unfold zDL at this;unfold zHF;refine fT.2 ⟨r,k,?_⟩;unfold vld;simp;omega
theorem yIK:∀{l:List Range},Can l->∀{r:Range},r∈l->zHF l (r.Hi+1)=false
 | [],_,r,G=>by cases G
 | a::l,h,r,G=>by
  unfold zHF;rw[gP];intro q D;have H:∀(c:Int) (q:Range),(c<q.Lo\/q.Hi<c)->¬(vld c&&decide (q.Lo<=c)&&decide (c<=q.Hi))=true:=by
   intro c q T;simp only[dE,cZ];omega
  rcases dL.1 G with rfl | k;refine H _ _ ?_;rcases dL.1 D with rfl | D;omega;have:=h.gap q D;omega;rcases dL.1 D with rfl | D;refine H _ _ ?_;have O:=h.gap r k;have K:=h.tail.ok r k;unfold zDL at K;omega;have:=yIK h.tail k;unfold zHF at this;rw[gP] at this;exact this q D
theorem yAZ {has:Int->Bool}:∀(l:List Range) (o:List Range),Can l->(∀r∈l,has r.Lo=true/\(r.Hi<1114111->has (r.Hi+1)=false))->coF has (zNG l) false o=l.reverse++o
 | [],o,_,_=>by simp[zNG,coF]
 | r::l,o,h,G=>by
  obtain⟨D,H⟩:=G r (by simp);have Z:=yAZ (has:=has) l (r::o) h.tail λq T=>G q (by simp[T]);have Y:=h.head;unfold zDL at Y;by_cases k:r.Hi<1114111
  ·have e:zNG (r::l)=r.Lo::(r.Hi+1)::zNG l:=by simp[zNG,k]
   have en:nxt ((r.Hi+1)::zNG l)=r.Hi:=by show r.Hi+1-1=r.Hi;omega
   rw[e];unfold coF;rw[dI D,dK (by simp),en];unfold coF;rw[dK (by rw[H k];simp),Z]
   simp
  ·have O:l= []:=by
    cases l with
    | nil=>rfl
    | cons q l=>
     have:=h.2.1;have K:=h.tail.head;unfold zDL at K;omega
   subst O;have e:zNG [r]= [r.Lo]:=by simp[zNG,k]
   rw[e];unfold coF;rw[dI D,dK (by simp)];unfold coF;have:nxt []=r.Hi:=by show (1114111:Int)=r.Hi;omega
   rw[this];rfl
theorem yIL {l:List Int} (h:Gd l):plE 0 (plE 0 l)=plE 0 l:=by
 cases l with
 | nil=>rfl
 | cons x l=>
  have:=h.2 x (by simp);by_cases k:0<x;have e:plE 0 (x::l)=0::x::l:=by unfold plE;rw[dI (by omega),dI k]
  rw[e];unfold plE;rw[dI (by omega),dK (by omega)];have e:plE 0 (x::l)=x::l:=by unfold plE;rw[dI (by omega),dK k]
  rw[e,e]
theorem yIM {l:List Range} (h:Can l):(coF (zHF l) (plE 0 (plE 0 (cuE l []))) false []).reverse=l:=by
 rw[yIL (z19 l ⟨.nil,λx k=>by cases k⟩),yIJ l [] h (λx k=>by cases k),dP];have H:=yAZ (has:=zHF l) l [] h λr G=>⟨yP6 h G,λ_=>yIK h G⟩;rw[eA] at H;have D:plE 0 (zNG l)=zNG l\/(plE 0 (zNG l)=0::zNG l/\zHF l 0=false):=by
  cases l with
  | nil=>exact .inr ⟨rfl,rfl⟩
  | cons r l=>
   have G:=h.head;unfold zDL at G;have e:zNG (r::l)=r.Lo::((if r.Hi<1114111 then [r.Hi+1] else [])++zNG l):=by simp[zNG]
   rw[e];by_cases k:0<r.Lo;refine .inr ⟨by unfold plE;rw[dI (by omega),dI k],?_⟩
   unfold zHF;rw[gP];intro q hq;simp only[dE,cZ];rcases dL.1 hq with rfl | hq
   omega;have:=h.gap q hq;omega;exact .inl (by unfold plE;rw[dI (by omega),dK k])
 rcases D with D | ⟨D,K⟩;rw[D,H,fQ];rw[D];unfold coF;rw[dK (by rw[K];simp),H,fQ]
theorem yDV (l:List Range):Can (coF (zHF l) (plE 0 (plE 0 (cuE l []))) false []).reverse:=by have D:Gd (plE 0 (plE 0 (cuE l []))):=zS2 (by omega) (zS2 (by omega) (z19 l ⟨.nil,λx H=>by cases H⟩));have:=zU4 (has:=zHF l) _ false [] D trivial (λh=>by cases h) (λ_ c q _ G=>by cases G) (λh=>by cases h);have k:=z1W _ [] this trivial (λ_ _ _ h=>by cases h);simpa using k
theorem yMO {a b:Set} (T:a.Ranges.length<=2000):zJP a b=some (decide (a.Ranges=b.Ranges)):=by
 unfold zJP;by_cases G:a.Ranges.length=b.Ranges.length;have e:(!decide ((a.Ranges.length:Int)=(b.Ranges.length:Int)))=false:=by simp[G]
 rw[e,cM];have h:=kG (body:=λ(x:Int)=>zDU a b x) a.Ranges.length (λk=>nth a.Ranges k=nth b.Ranges k) (λy=>y=false) (λk D=>by
  simp only[zDU,yU D,cN,zU D,zU (show k<b.Ranges.length by omega),zA,zK (k:=k) (by omega)];exact wV (by simp) rfl) (λk D=>by simp only[zDU,kJ D,cM])
 have O:(∀j,j<a.Ranges.length->nth a.Ranges j=nth b.Ranges j)↔a.Ranges=b.Ranges:=by
  constructor;intro h;refine fU G λi H K=>?_;have:=h i H
  rwa [zBP H,zBP K] at this
  intro h j _;rw[h]
 rw[O] at h;rcases h with ⟨h,p⟩ | ⟨y,rfl,h,p⟩
 rw[h];simp[p];rw[h];simp[p];have e:(!decide ((a.Ranges.length:Int)=(b.Ranges.length:Int)))=true:=by simp;omega
 rw[e,cN];have:a.Ranges≠b.Ranges:=λh=>G (by rw[h]);simp[this]
theorem yP7 {s:Set} (k:s.Ranges.length<=12):∃b,zHZ s=some b/\(b=true↔Can s.Ranges):=by unfold zHZ;rw[yII k,zA,yMO (by omega),zA];refine⟨_,rfl,?_⟩;simp only[cZ];constructor;intro h;rw[h];exact yDV _;intro h;rw[yIM h]
open Go.AV
theorem z2B {l:List aI} (O:l.length<=2000) (c:Int) (b:Bool):zEK l c b=some (fiI l c b):=by
 unfold zEK;have h:zE (λ(x:Int)=>zDV l c b x) 0=some (toS (chk (λk m=>(pM c b k m).map λ(i:Nat)=>(i:Int)) l 0)):=by
  refine xT l _ (λk G=>?_) (λk G=>?_);simp only[zDV,yU G,cN,zV G,zA,zO,zK (k:=k) (by omega),pM];by_cases D:l[k].aV=c;cases b with
  | true=>simp[D,vF,stp]
  | false=>
   cases H:(l[k].bN== []) with
   | true=>simp only[D,dB,dQ,fF,xS,zA,eY,H,dM,cN,iz,dG,eZ,stp]
   | false=>simp only[D,dB,dQ,fF,xS,zA,eY,H,dM,cM,dN,and_false,cV,gy,stp]
  simp[D,vF,stp];simp only[zDV,kJ G,cM]
 rw[h,zA,xD];have e:∀(L:List aI) (k:Nat),chk (λk m=>(pM c b k m).map λ(i:Nat)=>(i:Int)) L k=(chk (pM c b) L k).map λ(i:Nat)=>(i:Int):=by
  intro L
  induction L with
  | nil=>intro k;rfl
  | cons x L K=>
   intro k;unfold chk;cases pM c b k x with
   | none=>exact K (k+1)
   | some y=>rfl
 rw[e];unfold fiI fi;cases chk (pM c b) l 0<;>rfl
theorem yIN (c:Int):zG3 c=some (hkE c):=by
 unfold zG3 hkE;simp only[zO];by_cases h:4352<=c/\c<4371;rw[dI h];have:(decide (4352<=c)&&decide (c<=4370))=true:=by simp;omega
 rw[this];rfl;rw[dK h];have H:(decide (4352<=c)&&decide (c<=4370))=false:=by simp only[eD,c9];omega
 rw[H,cM];by_cases k:4449<=c/\c<4470;rw[dI k];have:(decide (4449<=c)&&decide (c<=4469))=true:=by simp;omega
 rw[this];rfl;rw[dK k];have K:(decide (4449<=c)&&decide (c<=4469))=false:=by simp only[eD,c9];omega
 rw[K,cM];by_cases D:4520<=c/\c<4547;rw[dI D];have:(decide (4520<=c)&&decide (c<=4546))=true:=by simp;omega
 rw[this];rfl;rw[dK D];have O:(decide (4520<=c)&&decide (c<=4546))=false:=by simp only[eD,c9];omega
 rw[O,cM];by_cases G:c<44032\/55204<=c;rw[dI G];have:(decide (44032<=c)&&decide (c<=55203))=false:=by simp only[eD,c9];omega
 rw[this];rfl;rw[dK G];have T:(decide (44032<=c)&&decide (c<=55203))=true:=by simp;omega
 rw[T,cN,xY (n:=c-44032) (by omega) (by omega)];have er:zKF (c-44032) 28=some ((c-44032)%28):=by
  unfold zKF;rw[dK (by decide),gv (by omega)]
 rw[er,zA];by_cases Y:(c-44032)%28=0<;>simp[Y]
theorem yN3 (c:Int):zBU c=some (hdE c):=by
 unfold zBU;rw[yIN,zA];cases k:syl c with
 | false=>
  have:decide (hkE c<4)=true:=by
   simp only[cZ];have:¬4<=hkE c:=λh=>by have:=(zI3 c).2 h;rw[k] at this;cases this
   omega
  rw[this,cN];unfold hdE;rw[dK (by simp[k])]
 | true=>
  have T:=(zI3 c).1 k;have:decide (hkE c<4)=false:=by simp only[c9];omega
  rw[this,cM];have Y:44032<=c/\c<=55203:=by unfold syl at k;simpa using k
  rw[xY (n:=c-44032) (by omega) (by omega)];have G:zNS wi (c-44032) 28=some ((c-44032)/28):=by
   unfold zNS;rw[dK (by decide),hZ (by omega),xY (by omega) (by omega)]
  have H:zNS wi ((c-44032)/28) 21=some ((c-44032)/28/21):=by
   unfold zNS;rw[dK (by decide),hZ (by omega),xY (by omega) (by omega)]
  have K:zKF ((c-44032)/28) 21=some ((c-44032)/28%21):=by
   unfold zKF;rw[dK (by decide),gv (by omega)]
  have O:zKF (c-44032) 28=some ((c-44032)%28):=by
   unfold zKF;rw[dK (by decide),gv (by omega)]
  simp only[G,H,K,O,zA];unfold hdE;rw[dI k,xY (n:=4352+(c-44032)/28/21) (by omega) (by omega),xY (n:=4449+(c-44032)/28%21) (by omega) (by omega)];by_cases D:0<(c-44032)%28;rw[dI D,xY (n:=4520+(c-44032)%28) (by omega) (by omega),xY (n:=4520+(c-44032)%28-1) (by omega) (by omega)];simp only[D,dB,cN];rw[jX (by simp)];rfl;rw[dK D];simp only[D,dH,cM];rfl
section
variable {l:List aI} (hl:l.length<=2000) (hto:∀m∈l,m.To.length<=2000)
include hl hto
theorem yMP {h:List Bool} (Z:h.length=l.length) {i:Nat} (hi:i<l.length):∀(d k:Nat) (b:Bool),(nth l i).To.length-k=d->k<=(nth l i).To.length->
  zE (λ(x:Bool×Int)=>uQ l (i:Int) h x.1 x.2) (b,(k:Int))=some (b&&((nth l i).To.drop k).all λe=>match fi l e true with | some m=>nth h m | none=>true):=by
 have G:=hto _ (vN hi);intro d
 induction d with
 | zero=>
  intro k b H K;rw[dC (show (nth l i).To.length<=k by omega)];refine zL ?_;simp only[uQ,zU hi,zA,kJ (show (nth l i).To.length<=k by omega),cM,List.all_nil,Bool.and_true]
 | succ d T=>
  intro k b H K;have D:k<(nth l i).To.length:=by omega
  have hb:uQ l (i:Int) h b (k:Int)=some (.next (b&&(match fi l (nth l i).To[k] true with | some m=>nth h m | none=>true),((k+1:Nat):Int))):=by
   simp only[uQ,zU hi,zA,yU D,cN,zV D,z2B hl,zO,zK (k:=k) (by omega)];unfold fiI;cases O:fi l (nth l i).To[k] true with
   | none=>simp[vF]
   | some m=>
    obtain⟨Y,_,_⟩:=zK3 O;have e:decide (((m:Nat):Int)<0)=false:=by simp
    simp only[e,dQ,Bool.and_true,eY];cases b with
    | false=>simp[vF]
    | true=>simp only[xS,zU (show m<h.length by omega),zA,dM]
  rw[zN (body:=λ(x:Bool×Int)=>uQ l (i:Int) h x.1 x.2) (x:=(b,(k:Int))) hb,T (k+1) _ (by omega) (by omega),cY D,iq,Bool.and_assoc]
theorem yMQ:zJQ l=some (zJ9 (zQH l) l.length l.length (List.replicate l.length false)):=by
 unfold zJQ;rw[z1O (by omega),zA];have H:∀(h:List Bool),h.length=l.length->zE (λ(x:Int×(List Bool))=>zCF l x.1 x.2) (0,h)=some (zRU (zQH l) l.length 0 h):=λh D=>
  zRV (upd:=zQH l) (n:=l.length) (Inv:=λ_=>True) (body:=λ(x:Int×(List Bool))=>zCF l x.1 x.2) (λi h=>((i:Int),h)) id (λi h hi D _=>by
   have:=yMP hl hto D hi _ 0 true rfl (by omega);rw[d7,dM] at this;have G:zE (λ(x:Bool×Int)=>uQ l (i:Int) h x.1 x.2) (true,0)=some (zQH l h i):=this;simp only[zCF,yU hi,cN,G,zA,zU (show i<h.length by omega),zID (show i<h.length by omega),zK (k:=i) (by omega)]) (λ_ _ _ _ _=>trivial) (λh=>by simp only[zCF,kJ (dA _),cM];rfl) l.length 0 h (by omega) D trivial
 have K:=zRW (upd:=zQH l) (n:=l.length) (Inv:=λ_=>True) (body:=λ(x:Int×(List Bool))=>zCG l x.1 x.2) (λi h=>((i:Int),h)) id (N:=l.length) (λr h T D _=>by
  simp only[zCG,yU T,cN,H h D,zA,zK (k:=r) (by omega)]) (λ_ _ _ _ _=>trivial) (λh=>by simp only[zCG,kJ (dA _),cM];rfl) l.length 0 (List.replicate l.length false) (by omega) (by simp) trivial
 have O:zE (λ(x:Int×(List Bool))=>zCG l x.1 x.2) (0,List.replicate l.length false)=some (zJ9 (zQH l) l.length l.length (List.replicate l.length false)):=K;rw[O];rfl
theorem yMR {b:Bool} {h:List Int} (ho:h.length=l.length) (hv:z16 h) {i:Nat} (hi:i<l.length):∀(d k:Nat) (n:Int),(nth l i).To.length-k=d->k<=(nth l i).To.length->0<=n->n<=100*(k:Int)->
  zE (λ(x:Int×Int)=>wJ l (i:Int) b h x.1 x.2) (n,(k:Int))=some (n+(((nth l i).To.drop k).map (lenOf l b h)).sum):=by
 have K:=hto _ (vN hi);intro d
 induction d with
 | zero=>
  intro k n O T D Y;rw[dC (show (nth l i).To.length<=k by omega)];refine zL ?_;simp only[wJ,zU hi,zA,kJ (show (nth l i).To.length<=k by omega),cM,fI,List.sum_nil,Int.add_zero]
 | succ d ih=>
  intro k n O T D Y;have H:k<(nth l i).To.length:=by omega
  have Z:0<=lenOf l b h (nth l i).To[k]/\lenOf l b h (nth l i).To[k]<=65:=by
   unfold lenOf;cases G:fi l (nth l i).To[k] b with
   | none=>have:=zQD (nth l i).To[k];simp only[];omega
   | some m=>obtain⟨D,_,_⟩:=zK3 G;exact hv _ (vN (by omega))
  have hb:wJ l (i:Int) b h n (k:Int)=some (.next (n+lenOf l b h (nth l i).To[k],((k+1:Nat):Int))):=by
   have hw:wi (n+lenOf l b h (nth l i).To[k])=n+lenOf l b h (nth l i).To[k]:=xY (by omega) (by omega);simp only[wJ,zU hi,zA,yU H,cN,zV H,z2B hl,zK (k:=k) (by omega),yN3];rw[<-hw];unfold lenOf fiI;cases G:fi l (nth l i).To[k] b with
   | none=>rfl
   | some m=>
    obtain⟨D,_,_⟩:=zK3 G;have e:decide (0<=((m:Nat):Int))=true:=by simp
    simp only[e,cN,zU (show m<h.length by omega),zA]
  rw[zN (body:=λ(x:Int×Int)=>wJ l (i:Int) b h x.1 x.2) (x:=(n,(k:Int))) hb,ih (k+1) _ (by omega) (by omega) (by omega) (by omega),cY H,ez,iJ,Int.add_assoc]
theorem yA0 (b:Bool):zDW l b=some (zJ9 (updL l b) l.length l.length (List.replicate l.length 0)):=by
 unfold zDW;rw[z1O (by omega),zA];have K:z16 (List.replicate l.length 0):=λx hx=>by rw[(List.mem_replicate.1 hx).2];omega
 have O:∀(h:List Int),h.length=l.length->z16 h->zE (λ(x:Int×(List Int))=>uH l b x.1 x.2) (0,h)=some (zRU (updL l b) l.length 0 h):=λh D G=>
  zRV (upd:=updL l b) (n:=l.length) (Inv:=z16) (body:=λ(x:Int×(List Int))=>uH l b x.1 x.2) (λi h=>((i:Int),h)) id (λi h hi D G=>by
   have:=yMR hl hto (b:=b) D G hi _ 0 0 rfl (by omega) (by omega) (by omega);rw[d7,Int.zero_add] at this;have H:zE (λ(x:Int×Int)=>wJ l (i:Int) b h x.1 x.2) (0,0)=some (((nth l i).To.map (lenOf l b h)).sum):=this;simp only[uH,yU hi,cN,H,zA,zU (show i<h.length by omega),zID (show i<h.length by omega),zU hi,zO,zK (k:=i) (by omega)];unfold updL;cases b with
   | true=>simp
   | false=>
    cases ht:((nth l i).bN== []) with
    | true=>simp
    | false=>simp[zU (show i<(h.set i (min (max (List.map (lenOf l false h) (nth l i).To).sum 1) 65)).length by simp;omega),zID (show i<(h.set i (min (max (List.map (lenOf l false h) (nth l i).To).sum 1) 65)).length by simp;omega)]) zS0 (λh=>by simp only[uH,kJ (dA _),cM];rfl) l.length 0 h (by omega) D G
 have T:=zRW (upd:=updL l b) (n:=l.length) (Inv:=z16) (body:=λ(x:Int×(List Int))=>uI l b x.1 x.2) (λi h=>((i:Int),h)) id (N:=l.length) (λr h Z D G=>by
  simp only[uI,yU Z,cN,O h D G,zA,zK (k:=r) (by omega)]) zS0 (λh=>by simp only[uI,kJ (dA _),cM];rfl) l.length 0 (List.replicate l.length 0) (by omega) (by simp) K
 have Y:zE (λ(x:Int×(List Int))=>uI l b x.1 x.2) (0,List.replicate l.length 0)=some (zJ9 (updL l b) l.length l.length (List.replicate l.length 0)):=T;rw[Y];rfl
end
open Go.AV
theorem zU5 {G:Type} [Inhabited G] {upd:List G->Nat->G} {n k:Nat} {D:List G} (h:D.length=n):(zJ9 upd n k D).length=n:=
 (z14 (upd:=upd) (n:=n) (Inv:=λ_=>True) (λ_ _ _ _ _=>trivial) k D h trivial).2
theorem z5Z {l:List aI} (h:∀k,k+1<l.length->(nth l k).aV<(nth l (k+1)).aV):∀(d i:Nat),i+d+1<l.length->(nth l i).aV<(nth l (i+d+1)).aV
 | 0,i,hi=>h i hi
 | d+1,i,hi=>by
  have D:=z5Z h d i (by omega);have G:=h (i+d+1) (by omega);have:i+(d+1)+1=i+d+1+1:=by omega
  rw[this];omega
theorem yDW {l:List aI} (T:∀k,k+1<l.length->mlt (nth l k) (nth l (k+1))):(∀k,k<l.length->¬fiI l (nth l k).aV true<(k:Int))↔∀k,k+1<l.length->(nth l (k+1)).aV≠(nth l k).aV:=by
 constructor;intro h k H e;have G:k<l.length:=by omega
 have Z:pM (nth l (k+1)).aV true (0+k) l[k]≠none:=by
  unfold pM;rw[dI ⟨by rw[e,zBP G],rfl⟩];simp
 obtain⟨i,hi,aa,Y⟩:=zZ0 (p:=pM (nth l (k+1)).aV true) (l:=l) (k:=0) G Z;have O:fi l (nth l (k+1)).aV true=some i:=by
  unfold fi;rw[Y];unfold pM;split;simp;rename_i hn;exfalso;have:chk (pM (nth l (k+1)).aV true) l 0=none:=by rw[Y];unfold pM;rw[dK hn]
  exact Z (zOD this k G)
 refine h (k+1) H ?_;unfold fiI;rw[O];simp only[];omega;intro h k H D;have hs:∀k,k+1<l.length->(nth l k).aV<(nth l (k+1)).aV:=λk H=>by
  have a:=T k H;have b:=h k H;unfold mlt at a;omega
 unfold fiI at D;cases K:fi l (nth l k).aV true with
 | none=>exact absurd ⟨rfl,rfl⟩ (yAR K _ (vN H))
 | some i=>
  rw[K] at D;simp only[] at D;obtain⟨h1,h2,_⟩:=zK3 K;have:=z5Z hs (k-i-1) i (by omega);rw[show i+(k-i-1)+1=k by omega] at this;omega
theorem yP8 {n:Norm} (T:NSm n) (bj:vZ n):Ver (zH0 n) (VD0 n):=by
 obtain⟨e1,au,p1⟩:=yIA (l:=n.aK) (by have:=T.cl;omega)
 obtain⟨e2,aw,p2⟩:=yP3 (l:=n.aA) (by have:=T.de;omega) (λm G=>by have:=T.to m G;omega) (λm G=>by have:=T.tg m G;unfold MX;omega)
 obtain⟨e3,ax,p3⟩:=yP7 (s:=n.aN) T.ex;have bh:=T.de;have hl:n.aA.length<=2000:=by omega
 have Z:∀m∈n.aA,m.To.length<=2000:=λm G=>by have:=T.to m G;omega
 unfold zH0;rw[au,zA];by_cases h1:e1=0
 case neg=>
  have:(!decide (e1=0))=true:=by simp[h1]
  rw[this,cN];exact⟨e1,rfl,by simp only[h1,eV];exact λh=>h1 (p1.2 h.cv)⟩
 rw[h1];simp only[dB,dD,cM];have cv:=p1.1 h1;rw[aw,zA];by_cases h2:e2=0
 case neg=>
  have:(!decide (e2=0))=true:=by simp[h2]
  rw[this,cN];exact⟨e2,rfl,by simp only[h2,eV];exact λh=>h2 (p2.2 h.mv)⟩
 rw[h2];simp only[dB,dD,cM];have mv:=p2.1 h2;rw[ax,zA];cases e3 with
 | false=>exact⟨11,rfl,by simp only[show ((11:Int)=0)=False by simp,eV];exact λh=>by have:=p3.2 h.ca;cases this⟩
 | true=>
 have ca:=p3.1 rfl;simp only[dD,cM];have l0:=kG (body:=λ(x:Int)=>zC5 n x) n.aA.length (λk=> ¬fiI n.aA (nth n.aA k).aV true<(k:Int)) (λy=>y≠0) (λk D=>by
  simp only[zC5,yU D,cN,zU D,zA,z2B hl,zK (k:=k) (by omega)];exact wV (by simp) (by decide)) (λk D=>by simp only[zC5,kJ D,cM])
 rw[yDW mv.lt] at l0;rcases l0 with ⟨l0,ne⟩ | ⟨y,O,l0,ne⟩
 case inr=>rw[l0];exact⟨y,rfl,by simp only[O,eV];exact λh=>ne h.ne⟩
 rw[l0];simp only[zA,eW];have al:∀m:aI,(m.bN== [])=decide (m.bN= []):=λm=>by cases m.bN<;>rfl
 have l1:=kG (body:=λ(x:Int)=>zC6 n x) n.aA.length (λk=>(nth n.aA k).bN= []->(nth n.aA k).To.length=1\/(nth n.aA k).To.length=2) (λy=>y≠0) (λk D=>by
  simp only[zC6,yU D,cN,zU D,zA,zO,zK (k:=k) (by omega),al];by_cases ht:(nth n.aA k).bN= []
  ·
   simp only[ht,dB,xS,zA,dM,true_implies];by_cases h5:((nth n.aA k).To.length:Int)=1
   ·
    simp only[h5,dB,dD,vF,zA,dR,cM];exact .inl ⟨.inl (by omega),trivial⟩
   ·
    simp only[h5,dH,dQ,xS,zA,dM];exact wV (by simp only[fS,c9];omega) (by decide)
  ·
   simp only[ht,dH,vF,zA,dR,cM,false_implies];exact .inl ⟨trivial,trivial⟩) (λk D=>by simp only[zC6,kJ D,cM])
 rw[zAT (p:=λm:aI=>m.bN= []->m.To.length=1\/m.To.length=2)] at l1;rcases l1 with ⟨l1,kd⟩ | ⟨y,O,l1,kd⟩
 case inr=>rw[l1];exact⟨y,rfl,by simp only[O,eV];exact λh=>kd h.kd⟩
 rw[l1];simp only[zA,eW];have l2:=kG (body:=λ(x:Int)=>zC7 n x) n.aA.length (λk=>hkE (nth n.aA k).aV=0/\((nth n.aA k).bN≠[]->clE n.aK (nth n.aA k).aV=0)) (λy=>y≠0) (λk D=>by
  simp only[zC7,yU D,cN,zU D,zA,zO,yIN,zK (k:=k) (by omega),al];by_cases h5:hkE (nth n.aA k).aV=0
  ·
   simp only[h5,dB,dD,dQ,xS,zA,dM,eY,true_and];by_cases ht:(nth n.aA k).bN= []
   ·
    simp only[ht,dB,dD,vF,zA,dR,cM];exact .inl ⟨λh=>absurd rfl h,trivial⟩
   ·
    simp only[ht,dH,dQ,xS,zA,dM,zJ8 (show n.aK.length<=2000 by have:=T.cl;omega) cv]
    exact wV (by simp[ht]) (by decide)
  ·
   have:(!decide (hkE (nth n.aA k).aV=0))=true:=by simp[h5]
   simp only[this,dD,vF,zA,dR,im,cN];exact .inr ⟨λh=>h5 h.1,11,by decide,rfl⟩) (λk D=>by simp only[zC7,kJ D,cM])
 rw[zAT (p:=λm:aI=>hkE m.aV=0/\(m.bN≠[]->clE n.aK m.aV=0))] at l2;rcases l2 with ⟨l2,D⟩ | ⟨y,O,l2,D⟩
 case inr=>rw[l2];exact⟨y,rfl,by simp only[O,eV];exact λh=>D λm G=>⟨h.hk m G,h.tc m G⟩⟩
 rw[l2];simp only[zA,eW];have K:DS n.aA:=⟨λk am=>by
  have a:=mv.lt k am;have b:=ne k am;unfold mlt at a;omega,λm G=>(D m G).1,λm G=>by have:=mv.sz m G;omega⟩
 have Y:=yHU K (by omega);rw[yMQ hl Z,zA];have l3:=kG (body:=λ(x:Int)=>zC8 n (zJ9 (zQH n.aA) n.aA.length n.aA.length (List.replicate n.aA.length false)) x) n.aA.length (λk=>nth (zJ9 (zQH n.aA) n.aA.length n.aA.length (List.replicate n.aA.length false)) k=true) (λy=>y≠0) (λk D=>by
  simp only[zC8,yU D,cN,zU (show k<(zJ9 (zQH n.aA) n.aA.length n.aA.length (List.replicate n.aA.length false)).length by rw[zU5 (by simp)];exact D),zA,zK (k:=k) (by omega)]
  exact wV (by simp) (by decide)) (λk D=>by simp only[zC8,kJ D,cM])
 rw[yIE K] at l3;rcases l3 with ⟨l3,H⟩ | ⟨y,O,l3,H⟩
 case inr=>rw[l3];exact⟨y,rfl,by simp only[O,eV];exact λh=>H (Y.1 h.ms).1⟩
 rw[l3];simp only[zA,eW];have hD:=zWR K H;rw[yA0 hl Z false,zA,yA0 hl Z true,zA];have l4:=kG (body:=λ(x:Int)=>zC9 n (zJ9 (updL n.aA false) n.aA.length n.aA.length (List.replicate n.aA.length 0)) (zJ9 (updL n.aA true) n.aA.length n.aA.length (List.replicate n.aA.length 0)) x) n.aA.length (λk=>wt n.aA true (nth n.aA k).aV<=64) (λy=>y≠0) (λk D=>by
  have bi:wt n.aA false (nth n.aA k).aV<=wt n.aA true (nth n.aA k).aV:=yAE K _ _;simp only[zC9,yU D,cN,zU (show k<(zJ9 (updL n.aA false) n.aA.length n.aA.length (List.replicate n.aA.length 0)).length by rw[zU5 (by simp)];exact D),zU (show k<(zJ9 (updL n.aA true) n.aA.length n.aA.length (List.replicate n.aA.length 0)).length by rw[zU5 (by simp)];exact D),zA,zO,yAS K hD (b:=false) k D,yAS K hD (b:=true) k D,zK (k:=k) (by omega)]
  by_cases h6:64<wt n.aA false (nth n.aA k).aV
  ·
   simp only[h6,dB,dD,vF,zA,im,cN];exact .inr ⟨by omega,13,by decide,rfl⟩
  ·
   simp only[h6,dH,dQ,xS,zA,eY];exact wV (by simp) (by decide)) (λk D=>by simp only[zC9,kJ D,cM])
 rw[zAT (p:=λm:aI=>wt n.aA true m.aV<=64)] at l4;rcases l4 with ⟨l4,W⟩ | ⟨y,O,l4,W⟩
 ·
  rw[l4];exact⟨0,rfl,by simp only[true_iff];exact⟨cv,mv,ca,ne,kd,λm G=>(D m G).1,λm G=>(D m G).2,Y.2 ⟨H,W⟩⟩⟩
 · rw[l4];exact⟨y,rfl,by simp only[O,eV];exact λh=>W (Y.1 h.ms).2⟩
theorem yIO {n:Norm} (K:NSm n) (D:vZ n):zG4 n=some (usN n):=by obtain⟨e,H,G⟩:=yP8 K D;unfold zG4 usN;rw[H,zA];by_cases k:e=0;rw[dI (G.1 k)];simp[k];rw[dK (λh=>k (G.2 h))];simp[k]
section
variable {c:Collation} (hs:Sm c) {l:List bL} (hcv:CV l) (hl:l.length<=2000)
include hs
theorem yA1 (codes:List Int):zEL (kB c) codes=some (zEA (kB c).aB codes):=z8O (z1T hs) (yLN hs) rfl codes
theorem rM0 {text:List Int} (K:text.length<=2000):∀(d k:Nat),text.length-k=d->k<=text.length->zE (λ(x:Int×Int)=>wK text (kB c) x.1 x.2) (((zK2 (pfx (kB c).aB text) k:Nat):Int),((k+1:Nat):Int))=some ((zAL (kB c).aB text:Nat):Int):=by
 intro d
 induction d with
 | zero=>
  intro k D G;have:k=text.length:=by omega
  subst this;refine zL ?_;have e:decide (((text.length+1:Nat):Int)<=(text.length:Int))=false:=by simp;omega
  simp only[wK,e,cM];rfl
 | succ d H=>
  intro k D G;have e:decide (((k+1:Nat):Int)<=(text.length:Int))=true:=by simp;omega
  have hb:wK text (kB c) ((zK2 (pfx (kB c).aB text) k:Nat):Int) ((k+1:Nat):Int)=some (.next (((zK2 (pfx (kB c).aB text) (k+1):Nat):Int),((k+1+1:Nat):Int))):=by
   simp only[wK,e,cN,zFE (show k+1<=text.length by omega),zA,yA1 hs,zK (k:=k+1) (by omega)];have h:zK2 (pfx (kB c).aB text) (k+1)=if pfx (kB c).aB text (k+1)=true then k+1 else zK2 (pfx (kB c).aB text) k:=rfl
   have:(zEA (kB c).aB (text.take (k+1))).2=pfx (kB c).aB text (k+1):=rfl;rw[this,h];cases pfx (kB c).aB text (k+1)<;>rfl
  rw[zN (body:=λ(x:Int×Int)=>wK text (kB c) x.1 x.2) hb];exact H (k+1) (by omega) (by omega)
include hcv hl
theorem rM1 {text:List Int}:∀(r p s:List Int) (h:Int) (k:Nat),text.drop k=r->k<=text.length->p.length+s.length+r.length<=2000->text.length<=2000->
  ∃(m:Nat) (q:List Int),zE (λ(x:(List Int)×Int×Int×(List Int))=>w9 text l (kB c) x.1 x.2.1 x.2.2.1 x.2.2.2) (p,h,(k:Int),s)=some ((zEX (λq=>(zEA (kB c).aB q).2) (clE l) r p s h).1,(m:Int),q)/\m<=text.length/\q++text.drop m=(zEX (λq=>(zEA (kB c).aB q).2) (clE l) r p s h).2
 | [],p,s,h,k,H,hk,_,_=>by
  have Z:text.length<=k:=by have:=congrArg List.length H;simp at this;omega
  refine⟨k,s,zL ?_,hk,?_⟩
  ·simp only[w9,kJ Z,zO,vF,zA,dR,cM]
   rfl
  ·rw[H];simp[zEX]
 | x::r,p,s,h,k,H,hk,hn,ht=>by
  have D:k<text.length:=by have:=congrArg List.length H;simp at this;omega
  obtain⟨hx,K⟩:=List.cons_eq_cons.1 ((cY D).symm.trans H);simp only[dO] at hn;have hj:zG8 p x=some (p++ [x]):=by
   unfold zG8;rw[jX (by simp;omega),zA,dP,jX (by simp;omega)]
   rfl
  by_cases G:clE l x=0
  ·refine⟨k,s,zL ?_,hk,?_⟩
   ·simp only[w9,yU D,zO,xS,zV D,zA,hx,zQG hl hcv,G,dB,dD,fR,cM]
    unfold zEX;rw[dI G]
   ·unfold zEX;rw[dI G,H]
  ·unfold zEX
   rw[dK G];cases hb:((zEA (kB c).aB (p++ [x])).2&&decide (h<clE l x)) with
   | true=>
    rw[dI rfl];obtain⟨m,q,O,T,Y⟩:=rM1 r (p++ [x]) s h (k+1) K (by omega) (by simp;omega) ht
    refine⟨m,q,?_,T,Y⟩;rw[<-O];refine zN ?_;simp only[w9,yU D,zO,xS,zV D,zA,hx,zQG hl hcv,G,dH,dQ,Bool.and_true,cN,zJ8 hl hcv,hj,yA1 hs,hb,zK (k:=k) (by omega)]
   | false=>
    rw[dK (by simp)];obtain⟨m,q,O,T,Y⟩:=rM1 r p (s++ [x]) (max h (clE l x)) (k+1) K (by omega) (by simp;omega) ht
    refine⟨m,q,?_,T,Y⟩;rw[<-O];refine zN ?_;simp only[w9,yU D,zO,xS,zV D,zA,hx,zQG hl hcv,G,dH,dQ,Bool.and_true,cN,cM,zJ8 hl hcv,hj,yA1 hs,hb,jX (show s.length+ [x].length<=4294967296 by simp;omega),zK (k:=k) (by omega)]
noncomputable def mtE (c:Collation) (l:List bL) (text:List Int):List Int×List Int:=zEX (λq=>(zEA (kB c).aB q).2) (clE l) (text.drop (zAL (kB c).aB text)) (text.take (zAL (kB c).aB text)) [] 0
theorem z8V {text:List Int} (O:text.length<=2000) (Y:text≠[]):zFB l (kB c) text=some (if zAL (kB c).aB text=0 then (text.take 1,text.drop 1,false) else ((mtE c l text).1,(mtE c l text).2,true)):=by
 have h:0<text.length:=e9.2 Y;unfold zFB;have Z:=rM0 hs O text.length 0 (by omega) (by omega);have H:zE (λ(x:Int×Int)=>wK text (kB c) x.1 x.2) (0,1)=some ((zAL (kB c).aB text:Nat):Int):=Z;rw[H,zA];by_cases K:zAL (kB c).aB text=0;have G:decide (((zAL (kB c).aB text:Nat):Int)=0)=true:=by simp[K]
 have s1:slc text 0 1=some (text.take 1):=zFE (b:=1) h;have s2:slc text 1 (text.length)=some (text.drop 1):=zIE (a:=1) h;rw[G,cN,s1,zA,s2,zA,dI K];have G:decide (((zAL (kB c).aB text:Nat):Int)=0)=false:=by simp;omega
 have D:zAL (kB c).aB text<=text.length:=zRS _ _;rw[G,cM,zFE D,zA,yPG (by simp;omega),zA,dK K]
 obtain⟨m,q,r1,r2,T⟩:=rM1 hs hcv hl (text:=text) (text.drop (zAL (kB c).aB text)) (text.take (zAL (kB c).aB text)) [] 0 (zAL (kB c).aB text) rfl D (by simp;omega) O
 have k:=zRT (fd:=λq=>(zEA (kB c).aB q).2) (cl:=clE l) (text.drop (zAL (kB c).aB text)) (text.take (zAL (kB c).aB text)) [] 0;have hq:q.length+(text.drop m).length<=4294967296:=by
  have:=congrArg List.length T;rw[cU] at this;have h2:=k.2.1;simp only[dZ,eH,d6] at h2;omega
 rw[r1,zA];simp only[zIE r2,zA,jX hq,T];rfl
end
open Go.AV
theorem yA2 {l:List aI} (hl:l.length<=2000) {b:Bool} {lists:List (List Int)} (hn:lists.length=l.length) (hb:∀e,(zIG l b lists e).length<=64) {text:List Int} (ht:text.length<=2000):u2 l lists text b=some (text.flatMap (zIG l b lists)):=by
 have key:∀(d k:Nat) (D:List Int),text.length-k=d->k<=text.length->D.length<=64*k->zE (λ(x:Int×(List Int))=>jT text l b lists x.1 x.2) ((k:Int),D)=some (D++(text.drop k).flatMap (zIG l b lists)):=by
  intro d
  induction d with
  | zero=>
   intro k D Y Z h3;rw[dC (show text.length<=k by omega)];refine zL ?_;simp only[jT,kJ (show text.length<=k by omega),cM,gZ,eA]
  | succ d ih=>
   intro k D Y Z h3;have O:k<text.length:=by omega
   have ab:=hb text[k];have H:jT text l b lists (k:Int) D=some (.next (((k+1:Nat):Int),D++zIG l b lists text[k])):=by
    have G:app D (zIG l b lists text[k])=some (D++zIG l b lists text[k]):=jX (by omega);simp only[jT,yU O,cN,zV O,zA,z2B hl,zK (k:=k) (by omega),yN3];unfold zIG at G ⊢;unfold fiI;cases K:fi l text[k] b with
    | none=>
     rw[K] at G;simp only[] at G;simp only[show decide ((0:Int)<= -1)=false by decide,cM,G,zA]
    | some m=>
     rw[K] at G;simp only[] at G;obtain⟨h4,_,_⟩:=zK3 K;have e:decide (0<=((m:Nat):Int))=true:=by simp
     simp only[e,cN,zU (show m<lists.length by omega),zA,G]
   rw[zN (body:=λ(x:Int×(List Int))=>jT text l b lists x.1 x.2) (x:=((k:Int),D)) H,ih (k+1) _ (by omega) (by omega) (by rw[cU];omega),cY O,d9,c8]
 unfold u2;have h:=key text.length 0 [] (by omega) (by omega) (by simp);rw[d7,dP] at h;have T:zE (λ(x:Int×(List Int))=>jT text l b lists x.1 x.2) (0,[])=some (text.flatMap (zIG l b lists)):=h;rw[T];rfl
theorem yP9 {n:Norm} (h:GN n) (b:Bool):zH4 n.aA b=some (z5Y n.aA b):=by
 have hl:n.aA.length<=2000:=by have:=h.de;omega
 have K:∀{D:List (List Int)},zYL n.aA b D->∀e,(zIG n.aA b D e).length<=64:=λG e=>d8 (yAU h.ds h.dd G e) (h.len b e);unfold zH4;rw[z1O (by omega),zA];have T:∀(D:List (List Int)),D.length=n.aA.length->zYL n.aA b D->zE (λ(x:Int×(List (List Int)))=>zBJ n.aA b x.1 x.2) (0,D)=some (zRU (zWV n.aA b) n.aA.length 0 D):=λD H G=>
  zRV (upd:=zWV n.aA b) (n:=n.aA.length) (Inv:=zYL n.aA b) (body:=λ(x:Int×(List (List Int)))=>zBJ n.aA b x.1 x.2) (λi D=>((i:Int),D)) id (λi D hi H G=>by
   have O:=yA2 hl (b:=b) H (K G) (text:=(nth n.aA i).To) (h.ds.len _ (vN hi));simp only[zBJ,yU hi,cN,zO,zU hi,zU (show i<D.length by omega),zA,O,zID (show i<D.length by omega),zK (k:=i) (by omega)];unfold zWV;cases b with
   | true=>simp[vF]
   | false=>
    simp only[dQ,xS,zA,eY];cases ht:((nth n.aA i).bN== []) with
    | true=>simp
    | false=>simp[yME (show i<D.length by omega)]) (zS1 h.ds h.dd) (λD=>by simp only[zBJ,kJ (dA _),cM];rfl) n.aA.length 0 D (by omega) H G
 have Y:=zRW (upd:=zWV n.aA b) (n:=n.aA.length) (Inv:=zYL n.aA b) (body:=λ(x:Int×(List (List Int)))=>zBK n.aA b x.1 x.2) (λi D=>((i:Int),D)) id (N:=n.aA.length) (λr D O H G=>by
  simp only[zBK,yU O,cN,T D H G,zA,zK (k:=r) (by omega)]) (zS1 h.ds h.dd) (λD=>by simp only[zBK,kJ (dA _),cM];rfl) n.aA.length 0 (List.replicate n.aA.length []) (by omega) (by simp) yN1
 have Z:zE (λ(x:Int×(List (List Int)))=>zBK n.aA b x.1 x.2) (0,List.replicate n.aA.length [])=some (z5Y n.aA b):=Y;rw[Z];rfl
theorem yMS {n:Norm} (h:GN n) (b:Bool) {text:List Int} (D:text.length<=2000):zJR n text b=some (text.flatMap (fu n.aA b)):=by
 have k:n.aA.length<=2000:=by have:=h.de;omega
 unfold zJR;have e:∀c,zIG n.aA b (z5Y n.aA b) c=fu n.aA b c:=yMM h.ds h.dd;rw[yP9 h,zA,yA2 (lists:=z5Y n.aA b) k (zU5 (by simp)) (λc=>by rw[e];exact h.len b c) D,zA,show zIG n.aA b (z5Y n.aA b)=fu n.aA b from funext e]
section
variable {l:List bL} (hcv:CV l) (hl:l.length<=2000)
include hcv hl
theorem sIn {text:List Int} {v:Nat} (K:v<text.length):∀(r s:List Int),r.length<=2000->zE (λ(q:Int×(List Int))=>zAV (clE l text[v]) l text (v:Int) q.1 q.2) ((r.length:Int),r.reverse++text[v]::s)=some (u6 (ltC (clE l)) r text[v] s)
 | [],s,_=>by
  refine zL ?_;simp[zAV,zO,vF,zA,u6]
 | y::r,s,O=>by
  simp only[dO] at O;have G:decide ((0:Int)<((r.length+1:Nat):Int))=true:=by simp only[cZ];omega
  have H:(y::r).reverse++text[v]::s=r.reverse++y::text[v]::s:=by simp
  have i1:yD (r.reverse++y::text[v]::s) (r.length:Int)=some y:=vO (by simp);have i2:yD (r.reverse++y::text[v]::s) ((r.length+1:Nat):Int)=some text[v]:=by
   have:=vO (p:=r.reverse++ [y]) (s:=s) (x:=text[v]) (k:=r.length+1) (by simp);simpa using this
  have T:zBD (r.reverse++y::text[v]::s) ((r.length+1:Nat):Int) y=some (r.reverse++y::y::s):=by
   have:=zAR (p:=r.reverse++ [y]) (s:=s) (x:=text[v]) (y:=y) (k:=r.length+1) (by simp);simpa using this
  have i3:yD (r.reverse++y::y::s) (r.length:Int)=some y:=vO (by simp);have Y:zBD (r.reverse++y::y::s) (r.length:Int) text[v]=some (r.reverse++text[v]::y::s):=zAR (by simp);rw[H];show zE _ (((r.length+1:Nat):Int),_)=_;by_cases D:0<clE l text[v]
  ·by_cases h:clE l text[v]<clE l y
   ·rw[zN (x':=((r.length:Int),r.reverse++text[v]::(y::s))) (by
     simp only[zAV,zO,G,D,dB,fF,zD6 (k:=r.length) (by omega),xS,i1,zA,zJ8 hl hcv,h,cN,i2,T,zV K,i3,Y])]
    rw[sIn K r (y::s) (by omega)];have:ltC (clE l) text[v] y=true:=by unfold ltC;simp[D,h]
    simp[u6,this]
   ·refine zL ?_
    have:ltC (clE l) text[v] y=false:=by unfold ltC;simp[h]
    simp only[zAV,zO,G,D,dB,fF,zD6 (k:=r.length) (by omega),xS,i1,zA,zJ8 hl hcv,h,dH,fR,cM,u6,this,dN,cV,H]
  ·refine zL ?_
   have:ltC (clE l) text[v] y=false:=by unfold ltC;simp[D]
   simp only[zAV,zO,G,D,dH,fR,vF,zA,dR,cM,u6,this,dN,cV,H]
theorem yMT {text:List Int} (ht:text.length<=900):zG6 l text=some (csE (clE l) text):=by
 have key:∀(d k:Nat) (D:List Int),text.length-k=d->k<=text.length->D.length=k->zE (λ(x:Int×(List Int))=>uR text l x.1 x.2) ((k:Int),D)=some (zAZ (ltC (clE l)) (text.drop k) D):=by
  intro d
  induction d with
  | zero=>
   intro k D O T Y;rw[dC (show text.length<=k by omega)];refine zL ?_;simp only[uR,kJ (show text.length<=k by omega),cM];rfl
  | succ d ih=>
   intro k D O T Y;have G:k<text.length:=by omega
   have hi:=sIn hcv hl G D.reverse [] (by simp;omega)
   rw[fQ,gU] at hi;have hb:uR text l (k:Int) D=some (.next (((k+1:Nat):Int),u6 (ltC (clE l)) D.reverse text[k] [])):=by
    have H:wi (((D++ [text[k]]).length:Int)-1)=(D.length:Int):=by
     have Z:((D++ [text[k]]).length:Int)=(D.length:Int)+1:=by simp
     rw[Z,xY (by omega) (by omega)];omega
    simp only[uR,yU G,cN,zV G,zA,jX (show D.length+ [text[k]].length<=4294967296 by simp;omega),zJ8 hl hcv,H,hi,zK (k:=k) (by omega)]
   rw[zN (body:=λ(x:Int×(List Int))=>uR text l x.1 x.2) (x:=((k:Int),D)) hb,ih (k+1) _ (by omega) (by omega) (by rw[zWM];simp;omega),cY G]
   rfl
 unfold zG6;have h:=key text.length 0 [] (by omega) (by omega) rfl;rw[d7] at h;have K:zE (λ(x:Int×(List Int))=>uR text l x.1 x.2) (0,[])=some (csE (clE l) text):=h;rw[K];rfl
end
theorem yIP {n:Norm} (D:NSm n) (k:vZ n) {text:List Int} {b:Bool} (K:text.length<=2000) (H:(zJ7 n b text).length<=900):zG7 n text b=some (zGL n b text):=by
 have h:=z13 D k;unfold zG7;rw[yIO D k,zA,yMS h b K,zA];have e:=yMT h.cv (by have:=h.cl;omega) H
 have G:zG6 (usN n).aK (text.flatMap (fu (usN n).aA b))=some (zGL n b text):=e;rw[G];rfl
section
variable {c:Collation} (hs:Sm c) (hg:∀g∈c.aF,g.bS.length<=MX) {n:Norm} (hl:(wF n).length<=2000)
include hs hg hl
theorem ySG:∀(k:Nat) (text:List Int) (b:Bool) (acc:List aP),text.length<=k->text.length<=2000->acc.length+2000*text.length<=100000000->
  zE (λ(x:(List Int)×Bool×(List aP))=>uS (usN n) (kB c) c x.1 x.2.1 x.2.2) (text,b,acc)=some (b&&(wk c (wF n) text).2,acc++(wk c (wF n) text).1):=by
 intro k
 induction k with
 | zero=>
  intro text b acc h _ _;have:text= []:=cP (by omega);subst this;refine zL ?_;simp[uS,zOI]
 | succ k ih=>
  intro text b acc h ht ha;by_cases D:text= []
  ·subst D
   refine zL ?_;simp[uS,zOI]
  ·have Z:0<text.length:=e9.2 D
   have ab:=zZZ (c:=c) (l:=wF n) D;have h2:=yH8 hs (l:=wF n) text;have e0:decide ((0:Int)<(text.length:Int))=true:=by simp;omega
   have Y:=z8V hs (z5S n) hl ht D;rw[zWU] at Y;have H:app acc (stE c (wF n) text).2.2=some (acc++(stE c (wF n) text).2.2):=jX (by omega);have hb:uS (usN n) (kB c) c text b acc=some (.next ((stE c (wF n) text).2.1,(b&&decide (zAL (kB c).aB text≠0)),acc++(stE c (wF n) text).2.2)):=by
    unfold uS;rw[e0,cN,Y,zA,<-zWU];by_cases O:zAL (kB c).aB text=0
    ·have G:stE c (wF n) text=(1,text.drop 1,zUF (kB c) (nth text 0)):=by unfold stE;rw[dI O]
     rw[G] at H ⊢;obtain⟨y,ys,rfl⟩:=List.exists_cons_of_ne_nil D;have i0:yD ((y::ys).take 1) (0:Int)=some (nth (y::ys) 0):=rfl;simp only[] at H;simp only[O,dG,i0,zA,zOE hs hg,cM,H,zO];simp
    ·have G:stE c (wF n) text=(((mtE c (wF n) text).1.length:Int),(mtE c (wF n) text).2,(zEA (kB c).aB (mtE c (wF n) text).1).1):=by unfold stE;rw[dK O];rfl
     have K:=(yH7 (c:=c) (l:=wF n) D).1;rw[G] at H K ⊢;have T:0<(mtE c (wF n) text).1.length:=by simp only[] at K;omega
     have i0:yD (mtE c (wF n) text).1 (0:Int)=some (nth (mtE c (wF n) text).1 0):=zU (k:=0) T;simp only[] at H;simp only[O,cV,i0,zA,zOE hs hg,cN,yA1 hs,H,zO];simp[O]
   rw[zN (body:=λ(x:(List Int)×Bool×(List aP))=>uS (usN n) (kB c) c x.1 x.2.1 x.2.2) (x:=(text,b,acc)) hb,ih _ _ _ (by omega) (by omega) (by rw[cU];omega),zUZ D,c8,Bool.and_assoc]
end
theorem zWX {n:Norm} {c:Collation} (k:NSm n) (h:vZ n) (G:Sm c) (D:∀g∈c.aF,g.bS.length<=MX) {text:List Int} (T:text.length<=2000) (K:(zJ7 n false text).length<=900):zJS n c text=some (wk c (wF n) (zGL n false text)):=by
 have O:(wF n).length<=2000:=by have:=zSZ k;omega
 have H:(zGL n false text).length<=2000:=by rw[zOH];omega
 unfold zJS;rw[yIO k h,zA,zWL G D,zA,yIP k h T K,zA,ySG G D O _ _ true [] (dA _) H (by simp;omega)]
 simp
open Go.AV
open Go.AV
open Go.AV
def ckO (o:Options):Int:=if o.aJ<1\/4<o.aJ then 1 else if o.aD<1\/3<o.aD then 8 else 0
def wD (o:Options):Options:=if ckO o=0 then o else {aJ:=3,aD:=1,aQ:=false,aT:=false}
theorem yQA (o:Options):zE9 o=some (ckO o):=by
 unfold zE9 ckO;rw[zO];by_cases h:o.aJ<1\/4<o.aJ;have:(decide (o.aJ<1) ||decide (4<o.aJ))=true:=by simpa using h
 rw[this,dI h];rfl;have:(decide (o.aJ<1) ||decide (4<o.aJ))=false:=by simpa using h
 rw[this,dK h,cM];by_cases k:o.aD=1;simp[k];by_cases D:o.aD=2;simp[D];by_cases G:o.aD=3;simp[G];rw[dI (by omega)];simp[k,D,G]
theorem yIQ (o:Options):zH5 o=some (ckO o):=by
 unfold zH5 ckO;rw[zO,zO];by_cases h:o.aJ<1\/4<o.aJ;have:(decide (o.aJ<1) ||decide (4<o.aJ))=true:=by simpa using h
 rw[this,dI h];rfl;have:(decide (o.aJ<1) ||decide (4<o.aJ))=false:=by simpa using h
 rw[this,dK h,cM];by_cases k:o.aD<1\/3<o.aD;have:(decide (o.aD<1) ||decide (3<o.aD))=true:=by simpa using k
 rw[this,dI k];rfl;have:(decide (o.aD<1) ||decide (3<o.aD))=false:=by simpa using k
 rw[this,dK k];rfl
theorem yA3 (o:Options):zAD o=some (wD o):=by unfold zAD wD;rw[yQA,zA];by_cases h:ckO o=0<;>simp[h]
theorem zZ3 (o:Options):zDY o=some (wD o):=by unfold zDY wD;rw[yIQ,zA];by_cases h:ckO o=0<;>simp[h]
theorem zQI (o:Options):ckO (wD o)=0:=by unfold wD;split;assumption;rfl
theorem yN5 {o:Options} (h:ckO o=0):wD o=o:=by unfold wD;rw[dI h]
theorem yIR {o:Options} (h:ckO o=0):1<=o.aJ/\o.aJ<=4/\1<=o.aD/\o.aD<=3:=by unfold ckO at h;split at h;cases h;split at h;cases h;omega
def nz (x:Int):List Int:=if x=0 then [] else [x]
def col:Nat->bC->Int
 | 0,w=>w.x0
 | 1,w=>w.x1
 | 2,w=>w.x2
 | _,w=>w.x3
def row (k:Nat) (L:List bC):List Int:=L.flatMap λw=>nz (col k w)
def zMT (f:Bool) (e:aP):Bool:=if e.aD=true\/e.aS≠0 then e.aD else f
def zZ4 (e:aP):Prop:=e.aS=0/\e.aL=0/\e.aO=0
instance (e:aP):Decidable (zZ4 e):=by unfold zZ4;infer_instance
def tr1 (v:Int) (f:Bool) (e:aP):bC:=
 if v=1 then {x0:=e.aS,x1:=e.aL,x2:=e.aO,x3:=if zZ4 e then 0 else 65535}
 else if zMT f e=true then {x0:=0,x1:=0,x2:=0,x3:=if v=3/\e.aD=true then e.aS else 0}
 else {x0:=e.aS,x1:=e.aL,x2:=e.aO,x3:=if v=3/\¬zZ4 e then 65535 else 0}
def trL (v:Int):Bool->List aP->List bC
 | _,[]=>[]
 | f,e::l=>tr1 v f e::trL v (zMT f e) l
theorem zRY (v:Int):∀(l:List aP) (f:Bool),(trL v f l).length=l.length
 | [],_=>rfl
 | e::l,f=>by simp[trL,zRY v l]
theorem yIS {v:Int} (H:1<=v/\v<=3) (e:aP) (f:Bool):zAO e v f=some (tr1 v f e,if v=1 then f else zMT f e):=by obtain⟨p,s,t,G⟩:=e;unfold zAO tr1 zMT zZ4;rcases (by omega:v=1\/v=2\/v=3) with rfl | rfl | rfl<;>cases G<;>cases f<;>by_cases h:p=0<;>by_cases k:s=0<;>by_cases D:t=0<;>simp[h,k,D]
theorem ySH (f g:Bool) (e:aP):tr1 1 f e=tr1 1 g e:=rfl
theorem yN6:∀(l:List aP) (f g:Bool),trL 1 f l=trL 1 g l
 | [],_,_=>rfl
 | e::l,f,g=>by
  show tr1 1 f e::trL 1 _ l=tr1 1 g e::trL 1 _ l;rw[ySH f g,yN6 l (zMT f e) (zMT g e)]
theorem z8X (x:Int):(nz x).length<=1:=by unfold nz;split<;>simp
theorem zWY {r:List Int} {x:Int} (h:r.length+1<=4294967296):(cond (!decide (x=0)) ((app r [x]).bind λq=>some q) (some r))=some (r++nz x):=by unfold nz;by_cases k:x=0;simp[k];simp only[k,dH,dQ,cN,cV];rw[jX (by simpa using h)];rfl
theorem wl1 (t:bC×Bool) {r0 h k D:List Int} {n:Nat} (T:n+1<=4294967296) (G:r0.length<=n) (H:h.length<=n) (K:k.length<=n) (O:D.length<=n):
  zE (λ(x:Int×(List Int)×(List Int)×(List Int)×(List Int))=>xF t x.1 x.2.1 x.2.2.1 x.2.2.2.1 x.2.2.2.2) (0,r0,h,k,D)=some (r0++nz t.1.x0,h++nz t.1.x1,k++nz t.1.x2,D++nz t.1.x3):=by
 have i0:yD [t.1.x0,t.1.x1,t.1.x2,t.1.x3] (0:Int)=some t.1.x0:=rfl;have i1:yD [t.1.x0,t.1.x1,t.1.x2,t.1.x3] (1:Int)=some t.1.x1:=rfl;have i2:yD [t.1.x0,t.1.x1,t.1.x2,t.1.x3] (2:Int)=some t.1.x2:=rfl;have i3:yD [t.1.x0,t.1.x1,t.1.x2,t.1.x3] (3:Int)=some t.1.x3:=rfl;rw[zN (x':=(1,r0++nz t.1.x0,h,k,D)) (by
  simp only[xF,i0,zA,zWY (x:=t.1.x0) (show r0.length+1<=4294967296 by omega)];rfl)]
 rw[zN (x':=(2,r0++nz t.1.x0,h++nz t.1.x1,k,D)) (by
  simp only[xF,i1,zA,zWY (x:=t.1.x1) (show h.length+1<=4294967296 by omega)];rfl)]
 rw[zN (x':=(3,r0++nz t.1.x0,h++nz t.1.x1,k++nz t.1.x2,D)) (by
  simp only[xF,i2,zA,zWY (x:=t.1.x2) (show k.length+1<=4294967296 by omega)];rfl)]
 rw[zN (x':=(4,r0++nz t.1.x0,h++nz t.1.x1,k++nz t.1.x2,D++nz t.1.x3)) (by
  simp only[xF,i3,zA,zWY (x:=t.1.x3) (show D.length+1<=4294967296 by omega)];rfl)]
 exact zL (by simp only[xF];rfl)
theorem wl0 {l:List aP} {o:Options} (hv:1<=o.aD/\o.aD<=3) (hl:l.length<=4000000000):∀(m k:Nat) (f:Bool) (r0 D G H:List Int),k+m=l.length->r0.length<=k->D.length<=k->G.length<=k->H.length<=k->
  zE (λ(x:Int×Bool×(List Int)×(List Int)×(List Int)×(List Int))=>uG l o x.1 x.2.1 x.2.2.1 x.2.2.2.1 x.2.2.2.2.1 x.2.2.2.2.2) ((k:Int),f,r0,D,G,H)=
   some (r0++row 0 (trL o.aD f (l.drop k)),D++row 1 (trL o.aD f (l.drop k)),G++row 2 (trL o.aD f (l.drop k)),H++row 3 (trL o.aD f (l.drop k)))
 | 0,k,f,r0,D,G,H,h,_,_,_,_=>by
  rw[dC (by omega)];refine zL ?_;simp only[uG,kJ (show l.length<=k by omega),cM,trL,row,gZ,eA]
 | m+1,k,f,r0,D,G,H,h,T,K,Y,Z=>by
  have O:k<l.length:=by omega
  have q:∀{r:List Int} (x:Int),r.length<=k->(r++nz x).length<=k+1:=λx hr=>by rw[cU];have:=z8X x;omega
  rw[zN (x':=(((k+1:Nat):Int),(if o.aD=1 then f else zMT f l[k]),r0++nz (tr1 o.aD f l[k]).x0,D++nz (tr1 o.aD f l[k]).x1,G++nz (tr1 o.aD f l[k]).x2,H++nz (tr1 o.aD f l[k]).x3)) (by
   simp only[uG,yU O,cN,zV O,zA,yIS hv,wl1 _ (n:=k) (by omega) T K Y Z,zK (k:=k) (by omega)])]
  rw[wl0 hv hl m (k+1) _ _ _ _ _ (by omega) (q _ T) (q _ K) (q _ Y) (q _ Z),cY O];have e:trL o.aD (if o.aD=1 then f else zMT f l[k]) (l.drop (k+1))=trL o.aD (zMT f l[k]) (l.drop (k+1)):=by
   by_cases K:o.aD=1
   ·rw[K];exact yN6 _ _ _
   ·rw[dK K]
  rw[e];simp[trL,row,col]
theorem yIT:∀(n:Nat) (a m b:List Int),m.length=n->a.length=b.length->a.length+m.length+b.length<=9000000000000000000->
  zE (λ(x:Int×Int×(List Int))=>xE x.1 x.2.1 x.2.2) ((a.length:Int),((a.length+m.length:Nat):Int)-1,a++m++b)=some (a++m.reverse++b):=by
 intro n
 induction n using Nat.strongRecOn with
 | ind n ih=>
  intro a m b hn aa hb;by_cases D:m.length<=1
  ·have e:decide ((a.length:Int)<((a.length+m.length:Nat):Int)-1)=false:=by simp;omega
   refine zL ?_;have hr:m.reverse=m:=by
    match m,D with
    | [],_=>rfl
    | [x],_=>rfl
   simp only[xE,e,cM,hr]
  ·obtain⟨x,H,rfl⟩:=List.exists_cons_of_ne_nil (l:=m) (λe=>by rw[e] at D;simp at D)
   have G:H≠[]:=λe=>by rw[e] at D;simp at D
   obtain⟨h,y,rfl⟩:∃h y,H=h++ [y]:=⟨H.dropLast,H.getLast G,(List.dropLast_concat_getLast G).symm⟩;simp only[dO,cU,d6] at hn hb D;have e:decide ((a.length:Int)<((a.length+(x::(h++ [y])).length:Nat):Int)-1)=true:=by simp;omega
   have O:((a.length+(x::(h++ [y])).length:Nat):Int)-1=((a.length+1+h.length:Nat):Int):=by simp;omega
   have T:yD (a++(x::(h++ [y]))++b) (((a.length+1+h.length:Nat):Int))=some y:=by
    rw[zV (by simp;omega)];congr 1;rw[List.getElem_append_left (by simp;omega),gG (by omega)]
    simp only[show a.length+1+h.length-a.length=h.length+1 by omega,List.getElem_cons_succ];rw[gG (by omega)];simp
   have Y:yD (a++(x::(h++ [y]))++b) ((a.length:Nat):Int)=some x:=by
    rw[zV (by simp)];congr 1;rw[List.getElem_append_left (by simp),gG (by omega)];simp
   have s1:zBD (a++(x::(h++ [y]))++b) ((a.length:Nat):Int) y=some (a++(y::(h++ [y]))++b):=by
    rw[zID (by simp)];congr 1;simp
   have Z:yD (a++(y::(h++ [y]))++b) (((a.length+1+h.length:Nat):Int))=some y:=by
    rw[zV (by simp;omega)];congr 1;rw[List.getElem_append_left (by simp;omega),gG (by omega)]
    simp only[show a.length+1+h.length-a.length=h.length+1 by omega,List.getElem_cons_succ];rw[gG (by omega)];simp
   have s2:zBD (a++(y::(h++ [y]))++b) (((a.length+1+h.length:Nat):Int)) x=some ((a++ [y])++h++(x::b)):=by
    rw[zID (by simp;omega)];congr 1;have K:a++(y::(h++ [y]))++b=(a++y::h)++y::b:=by simp
    rw[K,show a.length+1+h.length=(a++y::h).length by simp;omega,List.set_append_right _ _ (dA _)]
    simp
   rw[zN (x':=(((a++ [y]).length:Int),(((a++ [y]).length+h.length:Nat):Int)-1,(a++ [y])++h++(x::b))) (by
    simp only[xE,e,cN];rw[O];simp only[T,Y,s1,Z,s2,zA];rw[zK (k:=a.length) (by omega),xY (by omega) (by omega)];simp only[cU,dO,d6])]
   rw[ih h.length (by omega) (a++ [y]) h (x::b) rfl (by simp;omega) (by simp;omega)]
   simp
theorem yQB {l:List Int} (h:l.length<=4294967296):wI l=some l.reverse:=by
 unfold wI;have:=yIT l.length [] l [] rfl rfl (by simp;omega)
 simp only[dP,eA,d6,eE] at this;rw[xY (by omega) (by omega)];rw[show ((0:Nat):Int)=0 from rfl] at this;rw[this];rfl
def yDX (b:Bool) (l:List Int):List Int:=if b=true then l.reverse else l
def rows (b:Bool) (L:List bC):List (List Int):=[row 0 L,yDX b (row 1 L),row 2 L,row 3 L]
def wts (l:List aP) (o:Options):List (List Int):=(rows o.aQ (trL o.aD false l)).take o.aJ.toNat
theorem zU6 (k:Nat):∀(L:List bC),(row k L).length<=L.length
 | []=>by simp[row]
 | w::L=>by
  have:=zU6 k L;have h:=z8X (col k w);simp only[row,d9,cU,dO] at this ⊢;omega
theorem zMU {l:List aP} (H:l.length<=4000000000) (o:Options):vU l o=some (wts l (wD o)):=by
 have hb:=yIR (zQI o);unfold vU wts;have G:({aJ:=o.aJ,aD:=o.aD,aQ:=o.aQ,aT:=o.aT}:Options)=o:=rfl;rw[G,yA3,zA];generalize wD o=q at*;have k:=wl0 (l:=l) (o:=q) hb.2.2 H l.length 0 false [] [] [] [] (by omega) (by simp) (by simp) (by simp) (by simp);simp only[d7,dP] at k;rw[show ((0:Nat):Int)=0 from rfl] at k;unfold zD2;rw[zA,k,zA];have K:(cond q.aQ ((wI (row 1 (trL q.aD false l))).bind λD=>some D) (some (row 1 (trL q.aD false l))))=some (yDX q.aQ (row 1 (trL q.aD false l))):=by
  cases q.aQ with
  | false=>rfl
  | true=>
   have:=zU6 1 (trL q.aD false l);rw[zRY] at this;rw[cN,yQB (by omega)];rfl
 simp only[K,zA];have O:q.aJ=((q.aJ.toNat:Nat):Int):=by omega
 have h:slc [row 0 (trL q.aD false l),yDX q.aQ (row 1 (trL q.aD false l)),row 2 (trL q.aD false l),row 3 (trL q.aD false l)] 0 q.aJ=some ((rows q.aQ (trL q.aD false l)).take q.aJ.toNat):=by
  rw[O,zFE (by simp;omega)];rfl
 rw[h,zA,jX (by simp[rows];omega)]
 rfl
open Go.AV
theorem yIU {l:List aP} {v:Int} (Y:1<=v/\v<=3) (H:l.length<=4000000000):∀(m k:Nat) (f:Bool) (acc:List bC),k+m=l.length->acc.length<=k->
  zE (λ(x:Bool×Int×(List bC))=>zA9 l v x.1 x.2.1 x.2.2) (f,(k:Int),acc)=some (acc++trL v f (l.drop k))
 | 0,k,f,acc,h,_=>by
  rw[dC (by omega)];refine zL ?_;simp only[zA9,kJ (show l.length<=k by omega),cM,trL,eA]
 | m+1,k,f,acc,h,ha=>by
  have D:k<l.length:=by omega
  rw[zN (x':=(zMT f l[k],((k+1:Nat):Int),acc++ [tr1 v f l[k]])) (by
   simp only[zA9,yU D,cN,zV D,zA,zO,zK (k:=k) (by omega)];generalize l[k]=e;have G:∀w:bC,app acc [w]=some (acc++ [w]):=λw=>jX (by simp;omega)
   obtain⟨p,s,t,Z⟩:=e;unfold tr1 zMT zZ4;rcases (by omega:v=1\/v=2\/v=3) with rfl | rfl | rfl<;>cases Z<;>cases f<;>by_cases K:p=0<;>by_cases O:s=0<;>by_cases T:t=0<;>simp[K,O,T,G])]
  rw[yIU Y H m (k+1) _ _ (by omega) (by simp;omega),cY D]
  simp[trL]
theorem z8Y {l:List aP} {v:Int} (k:1<=v/\v<=3) (h:l.length<=4000000000):zFC l v=some (trL v false l):=by unfold zFC;have:=yIU k h l.length 0 false [] (by omega) (by simp);rw[show ((0:Nat):Int)=0 from rfl] at this;rw[this];simp
theorem yUV (w:bC) {k:Nat} (h:k<4):yD [w.x0,w.x1,w.x2,w.x3] (k:Int)=some (col k w):=by
 match k,h with
 | 0,_=>rfl
 | 1,_=>rfl
 | 2,_=>rfl
 | 3,_=>rfl
def zMV (b:Bool) (k:Nat) (L:List bC):List bC:=if k=1/\b=true then L.reverse else L
theorem z50 (b:Bool) (k:Nat) (L:List bC):(zMV b k L).length=L.length:=by unfold zMV;split;exact gU;rfl
theorem rw1 {L:List bC} {o:Options} {q:Nat} (T:q<4) (hl:L.length<=4000000000):∀(m k:Nat) (acc:List Int),k+m=L.length->acc.length<=k->
  zE (λ(x:Int×(List Int))=>vA L (q:Int) o x.1 x.2) ((k:Int),acc)=some (acc++row q ((zMV o.aQ q L).drop k))
 | 0,k,acc,h,_=>by
  rw[dC (by rw[z50];omega)]
  refine zL ?_;simp only[vA,kJ (show L.length<=k by omega),cM,row,gZ,eA]
 | m+1,k,acc,h,ha=>by
  have G:k<L.length:=by omega
  have H:k<(zMV o.aQ q L).length:=by rw[z50];exact G
  have hi:∃j:Nat,j<L.length/\cond (decide ((q:Int)=1)&&o.aQ) (some (wi ((wi ((L.length:Int)-1))-(k:Int)))) (some (k:Int))=some (j:Int)/\L[j]? =some (zMV o.aQ q L)[k]:=by
   unfold zMV;by_cases D:q=1/\o.aQ=true
   ·have e:(decide ((q:Int)=1)&&o.aQ)=true:=by simp[D.1,D.2]
    refine⟨L.length-1-k,by omega,?_,?_⟩
    ·rw[e,cN,xY (n:=(L.length:Int)-1) (by omega) (by omega),xY (by omega) (by omega)]
     congr 1;omega
    ·simp only[D,iz,dG]
     rw[List.getElem_reverse,cO (by omega)]
   ·have e:(decide ((q:Int)=1)&&o.aQ)=false:=by
     cases hb:o.aQ with
     | false=>simp
     | true=>
      have:q≠1:=λe=>D ⟨e,hb⟩;simp;omega
    refine⟨k,G,by rw[e,cM],?_⟩;simp only[D,cV];rw[cO G]
  obtain⟨j,O,Y,K⟩:=hi;rw[cO O] at K;have Z:yD L (j:Int)=some (zMV o.aQ q L)[k]:=by rw[zV O];exact K
  rw[zN (x':=(((k+1:Nat):Int),acc++nz (col q (zMV o.aQ q L)[k]))) (by
   simp only[vA,yU G,cN,zO,Y,zA,Z,yUV _ T,zWY (x:=col q (zMV o.aQ q L)[k]) (show acc.length+1<=4294967296 by omega),zK (k:=k) (by omega)])]
  rw[rw1 T hl m (k+1) _ (by omega) (by rw[cU];have:=z8X (col q (zMV o.aQ q L)[k]);omega),cY H]
  simp only[row,d9,c8]
theorem yQC (x:Int):(nz x).reverse=nz x:=by unfold nz;split<;>rfl
theorem yA5 (k:Nat):∀(L:List bC),row k L.reverse=(row k L).reverse
 | []=>rfl
 | w::L=>by
  have:=yA5 k L;simp only[row] at this ⊢;simp[this,yQC]
theorem yIV (b:Bool) (L:List bC) {q:Nat} (h:q<4):(rows b L)[q]? =some (row q (zMV b q L)):=by
 match q,h with
 | 0,_=>simp[rows,zMV]
 | 1,_=>cases b<;>simp[rows,zMV,yDX,yA5]
 | 2,_=>simp[rows,zMV]
 | 3,_=>simp[rows,zMV]
theorem rw0 {L:List bC} {o:Options} (Y:1<=o.aJ/\o.aJ<=4) (K:L.length<=4000000000):∀(m k:Nat) (acc:List (List Int)),k+m=o.aJ.toNat->acc.length=k->
  zE (λ(x:Int×(List (List Int)))=>vB o L x.1 x.2) ((k:Int),acc)=some (acc++((rows o.aQ L).take o.aJ.toNat).drop k)
 | 0,k,acc,h,_=>by
  rw[dC (by simp[rows];omega)]
  have e:decide ((k:Int)<o.aJ)=false:=by simp;omega
  refine zL ?_;simp only[vB,e,cM,eA]
 | m+1,k,acc,h,Z=>by
  have e:decide ((k:Int)<o.aJ)=true:=by simp;omega
  have D:k<4:=by omega
  have O:=rw1 (o:=o) D K L.length 0 [] (by omega) (by simp);rw[show ((0:Nat):Int)=0 from rfl,d7,dP] at O;rw[zN (x':=(((k+1:Nat):Int),acc++ [row k (zMV o.aQ k L)])) (by
   simp only[vB,e,cN,O,zA,jX (show acc.length+ [row k (zMV o.aQ k L)].length<=4294967296 by simp;omega),zK (k:=k) (by omega)])]
  rw[rw0 Y K m (k+1) _ (by omega) (by simp;omega)]
  have G:k<((rows o.aQ L).take o.aJ.toNat).length:=by simp[rows];omega
  rw[cY G,c8];have T:=yIV o.aQ L D;have:((rows o.aQ L).take o.aJ.toNat)[k]=row k (zMV o.aQ k L):=by
   have H:((rows o.aQ L).take o.aJ.toNat)[k]? =some (row k (zMV o.aQ k L)):=by rw[d5,dI (by omega)];exact T
   rw[cO G] at H;exact hP H
  rw[this];rfl
theorem zPS {l:List aP} (h:l.length<=4000000000) (o:Options):zAW l o=some (wts l (wD o)):=by
 have hb:=yIR (zQI o);unfold zAW wts;have k:({aJ:=o.aJ,aD:=o.aD,aQ:=o.aQ,aT:=o.aT}:Options)=o:=rfl;rw[k,zZ3,zA];generalize wD o=q at*;rw[z8Y hb.2.2 h,zA];have:=rw0 (o:=q) ⟨hb.1,hb.2.1⟩ (L:=trL q.aD false l) (by rw[zRY];exact h) q.aJ.toNat 0 [] (by omega) rfl
 rw[show ((0:Nat):Int)=0 from rfl] at this;rw[this];simp
theorem zWZ {l:List aP} {o:Options} {x:List Int} (h:x∈wts l o):x.length<=l.length:=by
 unfold wts at h;have h:=eC h;have key:∀k,(row k (trL o.aD false l)).length<=l.length:=λk=>by have:=zU6 k (trL o.aD false l);rwa [zRY] at this
 simp only[rows,dL,List.not_mem_nil,or_false] at h;rcases h with rfl | rfl | rfl | rfl
 exact key 0;unfold yDX;split;rw[gU];exact key 1;exact key 1;exact key 2;exact key 3
theorem z2C {l:List aP} {o:Options} (h:ckO o=0):(wts l o).length=o.aJ.toNat:=by have:=yIR h;unfold wts;simp[rows];omega
open Go.AV
def jn:Nat->List Int->List (List Int)->List Int
 | _,acc,[]=>acc
 | k,acc,x::xs=>jn (k+1) ((if 0<k then acc++ [0] else acc)++x) xs
theorem z2D {N:Nat}:∀(l:List (List Int)) (k:Nat) (acc:List Int),(∀x∈l,x.length<=N)->(jn k acc l).length<=acc.length+l.length*(N+1)
 | [],_,acc,_=>by simp[jn]
 | x::xs,k,acc,h=>by
  have G:=h x (by simp);have H:=z2D xs (k+1) ((if 0<k then acc++ [0] else acc)++x) (λy D=>h y (by simp[D]));have K:((if 0<k then acc++ [0] else acc)++x).length<=acc.length+1+N:=by
   split<;>simp<;>omega
  simp only[jn,dO,eG];omega
theorem ySI {acc:List Int} {k:Nat} (h:acc.length+1<=4294967296):(cond (decide ((0:Int)<(k:Int))) ((app acc [0]).bind λq=>some q) (some acc))=some (if 0<k then acc++ [0] else acc):=by
 by_cases D:0<k;have e:decide ((0:Int)<(k:Int))=true:=by simp;omega
 rw[e,cN,jX (by simpa using h),dI D];rfl;have e:decide ((0:Int)<(k:Int))=false:=by simp;omega
 rw[e,cM,dK D]
section
variable {l:List (List Int)} {N:Nat} (hN:∀x∈l,x.length<=N) (hl:l.length<=1000000)
include hN hl
theorem ySJ:∀(m k:Nat) (acc:List Int),k+m=l.length->acc.length+m*(N+1)<=4294967296->zE (λ(x:Int×(List Int))=>zCX l x.1 x.2) ((k:Int),acc)=some (jn k acc (l.drop k))
 | 0,k,acc,h,_=>by
  rw[dC (by omega)];refine zL ?_;simp only[zCX,kJ (show l.length<=k by omega),cM,jn]
 | m+1,k,acc,h,G=>by
  have D:k<l.length:=by omega
  have K:=hN _ (eJ D);rw[eG] at G;have H:(if 0<k then acc++ [0] else acc).length<=acc.length+1:=by split<;>simp
  rw[zN (x':=(((k+1:Nat):Int),(if 0<k then acc++ [0] else acc)++l[k])) (by
   simp only[zCX,yU D,cN,zV D,zA,ySI (k:=k) (show acc.length+1<=4294967296 by omega),jX (show (if 0<k then acc++ [0] else acc).length+l[k].length<=4294967296 by omega),zK (k:=k) (by omega)])]
  rw[ySJ m (k+1) _ (by omega) (by rw[cU];omega),cY D]
  rfl
theorem yN7:∀(m k:Nat) (acc:List Int),k+m=l.length->acc.length+m*(N+1)<=4294967296->zE (λ(x:Int×(List Int))=>zDZ l x.1 x.2) ((k:Int),acc)=some (jn k acc (l.drop k))
 | 0,k,acc,h,_=>by
  rw[dC (by omega)];refine zL ?_;simp only[zDZ,kJ (show l.length<=k by omega),cM,jn]
 | m+1,k,acc,h,G=>by
  have D:k<l.length:=by omega
  have K:=hN _ (eJ D);rw[eG] at G;have H:(if 0<k then acc++ [0] else acc).length<=acc.length+1:=by split<;>simp
  rw[zN (x':=(((k+1:Nat):Int),(if 0<k then acc++ [0] else acc)++l[k])) (by
   simp only[zDZ,yU D,cN,zV D,zA,ySI (k:=k) (show acc.length+1<=4294967296 by omega),jX (show (if 0<k then acc++ [0] else acc).length+l[k].length<=4294967296 by omega),zK (k:=k) (by omega)])]
  rw[yN7 m (k+1) _ (by omega) (by rw[cU];omega),cY D]
  rfl
end
def idn (t:List Int):List Int:=t.flatMap λc=>if 0<=c/\c<=1114111 then [c+1] else []
theorem yIX (c:Int) {acc:List Int} (h:acc.length+1<=4294967296):(cond (decide (0<=c)&&decide (c<=1114111)) ((app acc [wi (c+1)]).bind λq=>some q) (some acc))=some (acc++if 0<=c/\c<=1114111 then [c+1] else []):=by
 by_cases k:0<=c/\c<=1114111
 ·have e:(decide (0<=c)&&decide (c<=1114111))=true:=by simpa using k
  rw[e,cN,jX (by simpa using h),dI k,xY (by omega) (by omega)];rfl
 ·have e:(decide (0<=c)&&decide (c<=1114111))=false:=by
   cases h:(decide (0<=c)&&decide (c<=1114111)) with
   | false=>rfl
   | true=>exact absurd (by simpa using h) k
  rw[e,cM,dK k,eA]
theorem yA6 (c:Int):(if 0<=c/\c<=1114111 then [c+1] else ([]:List Int)).length<=1:=by split<;>simp
theorem ySK {t:List Int} (G:t.length<=1000000):∀(m k:Nat) (acc:List Int),k+m=t.length->acc.length+m<=4294967296->zE (λ(x:Int×(List Int))=>zCY t x.1 x.2) ((k:Int),acc)=some (acc++idn (t.drop k))
 | 0,k,acc,h,_=>by
  rw[dC (by omega)];refine zL ?_;simp only[zCY,kJ (show t.length<=k by omega),cM,idn,gZ,eA]
 | m+1,k,acc,h,K=>by
  have D:k<t.length:=by omega
  have H:=yA6 t[k];rw[zN (x':=(((k+1:Nat):Int),acc++if 0<=t[k]/\t[k]<=1114111 then [t[k]+1] else [])) (by
   simp only[zCY,yU D,cN,zV D,zA,zO,yIX t[k] (show acc.length+1<=4294967296 by omega),zK (k:=k) (by omega)])]
  rw[ySK G m (k+1) _ (by omega) (by rw[cU];omega),cY D]
  simp only[idn,d9,c8]
def zYM (o:Options) (h:List aP) (t:List Int):List Int:=jn 0 [] (wts h o)++if o.aT=true then [0]++idn t else []
theorem zU7 (l:List aP) (o:Options):(wts l o).length<=4:=by unfold wts;simp[rows];omega
theorem yA7 (o:Options):wD (wD o)=wD o:=yN5 (zQI o)
section
variable {n:Norm} {c:Collation} (hn:NSm n) (hok:vZ n) (hs:Sm c) (hg:∀g∈c.aF,g.bS.length<=MX) {text:List Int} (ht:text.length<=2000) (hf:(zJ7 n false text).length<=2000)
include hn hok hs hg ht hf
theorem yQD (o:Options):zHV n c o text=some (zYM (wD o) (wk c (wF n) (zGL n false text)).1 (zGL n false text)):=by
 unfold zHV zYM;have O:(zGL n false text).length<=2000:=by rw[zOH];exact hf
 have G:=yH9 (n:=n) hs (text:=text) O;rw[show ({aJ:=o.aJ,aD:=o.aD,aQ:=o.aQ,aT:=o.aT}:Options)=o from rfl,yA3,zA,zTS hn hok hs hg ht hf,zA,show ({aJ:=(wD o).aJ,aD:=(wD o).aD,aQ:=(wD o).aQ,aT:=(wD o).aT}:Options)=wD o from rfl,zMU (by omega),yA7,zA];generalize (wk c (wF n) (zGL n false text)).1=h at*;have Y:=zU7 h (wD o);have K:∀x∈wts h (wD o),x.length<=1000000000:=λx T=>d8 (zWZ T) G;have k:=ySJ K (by omega) (wts h (wD o)).length 0 [] (by omega) (by simp;omega)
 rw[show ((0:Nat):Int)=0 from rfl,d7] at k;have H:=z2D (wts h (wD o)) 0 [] K;simp only[d6] at H;rw[k,zA];cases hi:(wD o).aT with
 | false=>simp
 | true=>
  have Z:(jn 0 [] (wts h (wD o))).length<=4000000004:=by omega
  rw[dD,cM,jX (by simp;omega),zA,z5V hn hok ht hf,zA]
  have D:=ySK (t:=zGL n false text) (by omega) (zGL n false text).length 0 (jn 0 [] (wts h (wD o))++ [0]) (by omega) (by simp;omega)
  rw[show ((0:Nat):Int)=0 from rfl,d7] at D;rw[D,zA,dI rfl,c8]
theorem yDY (o:Options) (s:Int):zBI n c o text s=some (zYM (wD {aJ:=s,aD:=o.aD,aQ:=o.aQ,aT:=false}) (wk c (wF n) (zGL n false text)).1 (zGL n false text)):=by unfold zBI;rw[yQD hn hok hs hg ht hf,zA]
end
def nZ:Norm:={aK:=[],aA:=[],aN:={Ranges:=[]}}
theorem z52:NSm nZ:=⟨by decide,by decide,λm h=>(by cases h),λm h=>(by cases h),by decide⟩
theorem zTT:vZ nZ:=by unfold vZ b9 z4E nZ;simp
theorem yIY:usN nZ=nZ:=by unfold usN;split<;>rfl
theorem ySL:wF nZ= []:=by rw[zWU,yIY];rfl
open Go.AV
theorem ySM {x y:Int} (h:y∈nz x):y≠0:=by unfold nz at h;split at h;cases h;rw[g8] at h;subst h;assumption
theorem zW0 {k:Nat} {L:List bC} {y:Int} (h:y∈row k L):y≠0:=by obtain⟨w,_,D⟩:=List.mem_flatMap.1 h;exact ySM D
theorem z8Z {l:List aP} {o:Options} {x:List Int} (k:x∈wts l o) {y:Int} (h:y∈x):y≠0:=by
 unfold wts at k;have k:=eC k;simp only[rows,dL,List.not_mem_nil,or_false] at k;rcases k with rfl | rfl | rfl | rfl
 exact zW0 h;unfold yDX at h;split at h;exact zW0 (List.mem_reverse.1 h);exact zW0 h;exact zW0 h;exact zW0 h
open Go.AV
open Go.AV
theorem rk1 {t:List Int} (G:t.length<=1000000):∀(m k:Nat) (acc:List Int),k+m=t.length->acc.length+m<=4294967296->zE (λ(x:Int×(List Int))=>zER t x.1 x.2) ((k:Int),acc)=some (acc++idn (t.drop k))
 | 0,k,acc,h,_=>by
  rw[dC (by omega)];refine zL ?_;simp only[zER,kJ (show t.length<=k by omega),cM,idn,gZ,eA]
 | m+1,k,acc,h,K=>by
  have D:k<t.length:=by omega
  have H:=yA6 t[k];rw[zN (x':=(((k+1:Nat):Int),acc++if 0<=t[k]/\t[k]<=1114111 then [t[k]+1] else [])) (by
   simp only[zER,w8,yU D,cN,zV D,zA,zO,yIX t[k] (show acc.length+1<=4294967296 by omega),zK (k:=k) (by omega)])]
  rw[rk1 G m (k+1) _ (by omega) (by rw[cU];omega),cY D]
  simp only[idn,d9,c8]
section
variable {n:Norm} {c:Collation} (hn:NSm n) (hok:vZ n) (hs:Sm c) (hg:∀g∈c.aF,g.bS.length<=MX) {text:List Int} (ht:text.length<=2000) (hf:(zJ7 n false text).length<=900)
include hn hok hs hg ht hf
theorem yDZ (o:Options):zLM n c o text=some (zYM (wD o) (wk c (wF n) (zGL n false text)).1 (zGL n false text)):=by
 unfold zLM zYM;have T:(zGL n false text).length<=2000:=by rw[zOH];omega
 have G:=yH9 (n:=n) hs (text:=text) T;have O:xL n c text=some (wk c (wF n) (zGL n false text)).1:=by
  unfold xL;rw[zWX hn hok hs hg ht hf,zA]
 rw[show ({aJ:=o.aJ,aD:=o.aD,aQ:=o.aQ,aT:=o.aT}:Options)=o from rfl,zZ3,zA,O,zA,show ({aJ:=(wD o).aJ,aD:=(wD o).aD,aQ:=(wD o).aQ,aT:=(wD o).aT}:Options)=wD o from rfl,zPS (by omega),yA7,zA];generalize (wk c (wF n) (zGL n false text)).1=h at*;have Z:=zU7 h (wD o);have K:∀x∈wts h (wD o),x.length<=1000000000:=λx Y=>d8 (zWZ Y) G;have k:=yN7 K (by omega) (wts h (wD o)).length 0 [] (by omega) (by simp;omega)
 rw[show ((0:Nat):Int)=0 from rfl,d7] at k;have H:=z2D (wts h (wD o)) 0 [] K;simp only[d6] at H;unfold zMJ;rw[k,zA,zA];cases hi:(wD o).aT with
 | false=>simp
 | true=>
  have h5:(jn 0 [] (wts h (wD o))).length<=4000000004:=by omega
  rw[dD,cM,jX (by simp;omega),zA,yIP hn hok ht hf,zA]
  have D:=rk1 (t:=zGL n false text) (by omega) (zGL n false text).length 0 (jn 0 [] (wts h (wD o))++ [0]) (by omega) (by simp;omega)
  rw[show ((0:Nat):Int)=0 from rfl,d7] at D;rw[D,zA,dI rfl,c8]
end
open Go.AV
def tj (xs:List (List Int)):List Int:=xs.flatMap λy=>0::y
theorem ySN:∀(xs:List (List Int)) (k:Nat) (acc:List Int),0<k->jn k acc xs=acc++tj xs
 | [],_,acc,_=>by simp[jn,tj]
 | x::xs,k,acc,h=>by
  simp only[jn,h,dG];rw[ySN xs (k+1) _ (by omega)];simp[tj]
theorem yQE (x:List Int) (xs:List (List Int)):jn 0 [] (x::xs)=x++tj xs:=by simp only[jn,Nat.lt_irrefl,cV,dP];exact ySN xs 1 x (by omega)
def zz0 (s:List Int):Prop:=s= []\/∃t,s=0::t
theorem z80:∀{x y u v:List Int},(∀a∈x,a≠0)->(∀a∈y,a≠0)->zz0 u->zz0 v->x++u=y++v->x=y/\u=v
 | [],[],u,v,_,_,_,_,h=>⟨rfl,h⟩
 | [],b::y,u,v,_,K,D,_,h=>by
  rcases D with rfl | ⟨t,rfl⟩;simp at h;simp only[dP,fN,iK] at h;exact absurd h.1.symm (K b (by simp))
 | a::x,[],u,v,H,_,_,G,h=>by
  rcases G with rfl | ⟨t,rfl⟩;simp at h;simp only[dP,fN,iK] at h;exact absurd h.1 (H a (by simp))
 | a::x,b::y,u,v,H,K,D,G,h=>by
  simp only[fN,iK] at h;obtain⟨O,T⟩:=z80 (λq k=>H q (by simp[k])) (λq k=>K q (by simp[k])) D G h.2;exact⟨by rw[h.1,O],T⟩
theorem z2E {xs:List (List Int)} {s:List Int} (h:zz0 s):zz0 (tj xs++s):=by
 cases xs with
 | nil=>exact h
 | cons x xs=>exact .inr ⟨x++tj xs++s,by simp[tj]⟩
theorem yIZ:∀{A B:List (List Int)} {s t:List Int},A.length=B.length->(∀x∈A,∀a∈x,a≠0)->(∀x∈B,∀a∈x,a≠0)->zz0 s->zz0 t->tj A++s=tj B++t->A=B/\s=t
 | [],[],s,t,_,_,_,_,_,h=>⟨rfl,h⟩
 | [],b::B,_,_,k,_,_,_,_,_=>by simp at k
 | a::A,[],_,_,k,_,_,_,_,_=>by simp at k
 | a::A,b::B,s,t,k,G,H,K,O,h=>by
  have e:∀(c:List Int) (C:List (List Int)) (u:List Int),tj (c::C)++u=0::(c++(tj C++u)):=λc C u=>by simp[tj]
  rw[e,e,iK] at h;obtain⟨T,Y⟩:=z80 (G a (by simp)) (H b (by simp)) (z2E K) (z2E O) h.2;obtain⟨Z,h4⟩:=yIZ (by simpa using k) (λx D=>G x (by simp[D])) (λx D=>H x (by simp[D])) K O Y;exact⟨by rw[T,Z],h4⟩
theorem yQF {A B:List (List Int)} {s t:List Int} (k:A.length=B.length) (G:∀x∈A,∀a∈x,a≠0) (H:∀x∈B,∀a∈x,a≠0) (K:zz0 s) (O:zz0 t) (h:jn 0 [] A++s=jn 0 [] B++t):A=B/\s=t:=by
 cases A with
 | nil=>cases B with
  | nil=>exact⟨rfl,h⟩
  | cons b B=>simp at k
 | cons a A=>cases B with
  | nil=>simp at k
  | cons b B=>
   rw[yQE,yQE,c8,c8] at h;obtain⟨T,Y⟩:=z80 (G a (by simp)) (H b (by simp)) (z2E K) (z2E O) h;obtain⟨Z,h4⟩:=yIZ (by simpa using k) (λx D=>G x (by simp[D])) (λx D=>H x (by simp[D])) K O Y;exact⟨by rw[T,Z],h4⟩
theorem yI0 {o:Options} (H:ckO o=0) {A B:List aP} {s t:List Int} (h:zYM o A s=zYM o B t):wts A o=wts B o/\(o.aT=true->idn s=idn t):=by
 unfold zYM at h;have T:(wts A o).length=(wts B o).length:=by rw[z2C H,z2C H]
 have K:∀u:List Int,zz0 (if o.aT=true then [0]++idn u else []):=λu=>by
  split;exact .inr ⟨idn u,rfl⟩;exact .inl rfl
 obtain⟨O,G⟩:=yQF T (λx D a k=>z8Z D k) (λx D a k=>z8Z D k) (K s) (K t) h;refine⟨O,λhi=>?_⟩;rw[dI hi,dI hi] at G;exact(List.cons.inj G).2
open Go.AV
noncomputable def eLm (n:Norm) (c:Collation) (t:List Int):List aP:=(wk c (wF n) (zGL n false t)).1
def TOk (n:Norm) (t:List Int):Prop:=t.length<=2000/\(zJ7 n false t).length<=900
section
variable {n:Norm} {c:Collation} (hn:NSm n) (hok:vZ n) (hs:Sm c) (hg:∀g∈c.aF,g.bS.length<=MX)
include hn hok hs hg
theorem z2F {t:List Int} (h:TOk n t):kD n c t=some (eLm n c t):=zTS hn hok hs hg h.1 (by have:=h.2;omega)
theorem yI1 {t:List Int} (h:TOk n t):xL n c t=some (eLm n c t):=by unfold xL;rw[zWX hn hok hs hg h.1 h.2,zA];rfl
end
noncomputable def stE0 (n:Norm) (c:Collation) (o:Options) (a b:List Int):Bool:=decide ((row0 b).length<=(row0 a).length/\(row0 a).take (row0 b).length=row0 b) where
 row0 (t:List Int):List Int:=(wts (eLm n c t) (wD o)).headD []
section
variable {n:Norm} {c:Collation} (hn:NSm n) (hok:vZ n) (hs:Sm c) (hg:∀g∈c.aF,g.bS.length<=MX)
include hn hok hs hg
omit hn hok hs hg in
theorem w0 (o:Options) (t:List Int):yD (wts (eLm n c t) (wD o)) (0:Int)=some (stE0.row0 n c o t)/\(stE0.row0 n c o t).length<=(eLm n c t).length:=by
 unfold stE0.row0;have h:=z2C (l:=eLm n c t) (zQI o);have hb:=yIR (zQI o);cases k:wts (eLm n c t) (wD o) with
 | nil=>rw[k] at h;simp at h;omega
 | cons x xs=>
  refine⟨rfl,?_⟩;have:x∈wts (eLm n c t) (wD o):=by rw[k];simp
  exact zWZ this
end
open Go.AV
theorem zZ6:∀{a b:List Int},a.Pairwise (· < ·)->b.Pairwise (· < ·)->(∀x,x∈a↔x∈b)->a=b
 | [],[],_,_,_=>rfl
 | [],y::b,_,_,h=>absurd ((h y).2 (by simp)) (by simp)
 | x::a,[],_,_,h=>absurd ((h x).1 (by simp)) (by simp)
 | x::a,y::b,D,hb,h=>by
  rw[fE] at D hb;have G:x=y:=by
   have h1:=(h x).1 (by simp);have h2:=(h y).2 (by simp);rcases dL.1 h1 with e | h1
   exact e;rcases dL.1 h2 with e | h2
   exact e.symm;have:=hb.1 x h1;have:=D.1 y h2;omega
  subst G;congr 1;refine zZ6 D.2 hb.2 λz=>?_;constructor;intro k;have:=(h z).1 (by simp[k]);rcases dL.1 this with e | h1
  have:=D.1 z k;omega;exact h1;intro k;have:=(h z).2 (by simp[k]);rcases dL.1 this with e | h1
  have:=hb.1 z k;omega;exact h1
section
open Go.Lib
theorem z2G (l:List Int) {j:Nat} (D:j<l.length):keeps l.toArray j=(decide (j=0) ||decide (l[j]≠l[j-1]'(by omega))):=by
 unfold keeps;have h:l.toArray[j]! =l[j]:=by simp[getElem!_pos,D]
 have k:l.toArray[j-1]! =l[j-1]'(by omega):=by
  have:j-1<l.length:=by omega
  simp[getElem!_pos,this]
 rw[h,k];rw[Bool.decide_or]
theorem z54 {l:List Int} {x:Int}:x∈compact l↔x∈l:=by
 unfold compact compactUpTo;simp only[eK,e6,fH];constructor
 rintro⟨j,⟨H,_⟩,rfl⟩
 have:l.toArray[j]! =l[j]:=by simp[getElem!_pos,H]
 rw[this];exact eJ H;intro K;have key:∀(n:Nat) (h:n<l.length),∃j,j<=n/\∃H:j<l.length,l[j]=l[n]/\keeps l.toArray j=true:=by
  intro n
  induction n with
  | zero=>intro h;exact⟨0,dA _,h,rfl,by rw[z2G l h];simp⟩
  | succ n O=>
   intro h;by_cases e:l[n+1]=l[n];obtain⟨j,T,k,D,G⟩:=O (by omega);exact⟨j,by omega,k,D.trans e.symm,G⟩;refine⟨n+1,dA _,h,rfl,?_⟩;rw[z2G l h];simp[e]
 obtain⟨n,h,rfl⟩:=List.mem_iff_getElem.1 K;obtain⟨j,_,k,D,G⟩:=key n h;refine⟨j,⟨k,G⟩,?_⟩;have:l.toArray[j]! =l[j]:=by simp[getElem!_pos,k]
 rw[this,D]
theorem z81 {l:List Int} (h:l.Pairwise (·<=·)):(compact l).Pairwise (· < ·):=by
 unfold compact compactUpTo;rw[List.pairwise_map];refine List.Pairwise.imp_of_mem (R:=λa b=>a<b) ?_ (List.Pairwise.filter _ List.pairwise_lt_range);intro i j hi k O;simp only[e6,fH] at hi k;have H:l.toArray[i]! =l[i]'hi.1:=by simp[getElem!_pos,hi.1]
 have K:l.toArray[j]! =l[j]'k.1:=by simp[getElem!_pos,k.1]
 rw[H,K];have D:=k.2;rw[z2G l k.1] at D;simp only[fB,cZ] at D;have G:=ig.1 h;have T:l[j-1]'(by omega)<=l[j]'k.1:=G (j-1) j (by omega) k.1 (by omega);have Y:l[i]'hi.1<=l[j-1]'(by omega):=by
  by_cases e:i=j-1;subst e;exact fY _;exact G i (j-1) hi.1 (by omega) (by omega)
 rcases D with D | D;omega;omega
end
def zOJ (cuts:List Int) (n:Nat):List Int:=((List.range (n+1)).map λ(k:Nat)=>(k:Int)).filter λx=>decide (x∈cuts)
theorem yQG {cuts:List Int} {n:Nat}:Go.Lib.compact ((cuts.filter λc=>decide (0<=c)&&decide (c<=(n:Int))).mergeSort λx y=>decide (x<=y))=zOJ cuts n:=by
 refine zZ6 (z81 ?_) ?_ λx=>?_;have:=List.pairwise_mergeSort (le:=λx y:Int=>decide (x<=y)) (λa b c D G=>by simp at D G ⊢;omega) (λa b=>by simp;omega) (cuts.filter λc=>decide (0<=c)&&decide (c<=(n:Int)))
 exact this.imp λh=>by simpa using h
 unfold zOJ;refine List.Pairwise.filter _ ?_;rw[List.pairwise_map];exact List.pairwise_lt_range.imp λh=>by omega
 rw[z54,List.mem_mergeSort,e6];unfold zOJ;simp only[e6,eK,fH,dE,cZ];constructor
 rintro⟨D,G,H⟩
 exact⟨⟨x.toNat,by omega,by omega⟩,D⟩
 rintro⟨⟨k,K,rfl⟩,D⟩
 exact⟨D,by omega,by omega⟩
section
variable {α:Type} (mk:Int->Int->α) (m:Int->Int->Bool)
def z82:List Int->List α
 | []=>[]
 | lo::rest=>(match rest.find? (m lo) with
  | some hi=>[mk lo hi]
  | none=>[])++z82 rest
def zL4 (cuts:List Int) (size:Nat) (k n:Nat):List α:=
 (List.range' k n).flatMap λ(f:Nat)=>if decide ((f:Int)∈cuts)=true then
  match ((List.range' (f+1) (size-f)).find? λ(t:Nat)=>decide ((t:Int)∈cuts)&&m (f:Int) (t:Int)) with
  | some t=>[mk (f:Int) (t:Int)]
  | none=>[]
 else []
theorem zS4 (cuts:List Int) (f:Nat):∀(L:List Nat),((L.map λ(k:Nat)=>(k:Int)).filter λx=>decide (x∈cuts)).find? (m (f:Int))=((L.find? λ(t:Nat)=>decide ((t:Int)∈cuts)&&m (f:Int) (t:Int)).map λ(k:Nat)=>(k:Int))
 | []=>rfl
 | a::L=>by
  rw[ez,ij,iw];by_cases h:(a:Int)∈cuts;simp only[h,dB,dG,dM];rw[iw];cases m (f:Int) (a:Int) with
  | true=>rfl
  | false=>exact zS4 cuts f L
  simp only[h,dH,dN,cV,dR];exact zS4 cuts f L
theorem zZ7 (cuts:List Int) (size:Nat):∀(n k:Nat),k+n=size+1->z82 mk m (((List.range' k n).map λ(k:Nat)=>(k:Int)).filter λx=>decide (x∈cuts))=zL4 mk m cuts size k n
 | 0,k,_=>rfl
 | n+1,k,h=>by
  have G:=zZ7 cuts size n (k+1) (by omega);unfold zL4 at G ⊢;rw[iH,ez,ij,d9,<-G];have H:size-k=n:=by omega
  by_cases D:(k:Int)∈cuts;simp only[D,dB,dG];rw[z82,zS4,H];congr 1;cases (List.range' (k+1) n).find? (λ(t:Nat)=>decide ((t:Int)∈cuts)&&m (k:Int) (t:Int))<;>rfl;simp only[D,dH,dN,cV,dP]
theorem yI2 (cuts:List Int) (size:Nat):z82 mk m (zOJ cuts size)=zL4 mk m cuts size 0 size:=by unfold zOJ;have h:=zZ7 mk m cuts size (size+1) 0 (by omega);rw[<-gN] at h;rw[h];unfold zL4;rw[<-gN,List.range_succ,List.flatMap_append,<-gN];simp
end
open Go.AV
theorem zRZ {D:Type} [Inhabited D] {a b:List D} (H:a.length=b.length):(∀j,j<a.length->nth a j=nth b j)↔a=b:=by
 constructor;intro h;apply fU H;intro i k G;have:=h i k
 rwa [zBP k,zBP G] at this
 intro h j _;rw[h]
theorem yA8 {a b:List Int} (O:a.length<=1000000000):xC a b=some (decide (a=b)):=by
 unfold xC;by_cases K:a.length=b.length;have G:(!decide ((a.length:Int)=(b.length:Int)))=false:=by simp[K]
 rw[G,cM];have h:=kG (body:=λ(x:Int)=>wA a b x) a.length (λj=>nth a j=nth b j) (λy=>y=false) (λj D=>by
  have H:j<b.length:=by omega
  simp only[wA,yU D,cN,zU D,zU H,zA,zK (k:=j) (by omega)];exact wV (by simp) rfl) (λj D=>by simp only[wA,kJ D,cM])
 rw[zRZ K] at h;rcases h with ⟨h,p⟩ | ⟨y,rfl,h,p⟩
 rw[h];simp[p];rw[h];simp[p];have G:(!decide ((a.length:Int)=(b.length:Int)))=true:=by simp;omega
 rw[G,cN];have:a≠b:=λe=>K (by rw[e]);simp[this]
theorem zS5 {a b:List aP} (O:a.length<=1000000000):yI a b=some (decide (a=b)):=by
 unfold yI;by_cases K:a.length=b.length;have G:(!decide ((a.length:Int)=(b.length:Int)))=false:=by simp[K]
 rw[G,cM];have h:=kG (body:=λ(x:Int)=>kA a b x) a.length (λj=>nth a j=nth b j) (λy=>y=false) (λj D=>by
  have H:j<b.length:=by omega
  simp only[kA,yU D,cN,zU D,zU H,zA,zK (k:=j) (by omega)];exact wV (by simp) rfl) (λj D=>by simp only[kA,kJ D,cM])
 rw[zRZ K] at h;rcases h with ⟨h,p⟩ | ⟨y,rfl,h,p⟩
 rw[h];simp[p];rw[h];simp[p];have G:(!decide ((a.length:Int)=(b.length:Int)))=true:=by simp;omega
 rw[G,cN];have:a≠b:=λe=>K (by rw[e]);simp[this]
theorem yQH {a b:List (List Int)} (T:a.length<=1000000000) (O:∀x∈a,x.length<=1000000000):jS a b (λx0 x1=>xC x0 x1)=some (decide (a=b)):=by
 unfold jS;by_cases K:a.length=b.length;have G:(!decide ((a.length:Int)=(b.length:Int)))=false:=by simp[K]
 rw[G,cM];have h:=kG (body:=λ(x:Int)=>kX a b (λx0 x1=>xC x0 x1) x) a.length (λj=>nth a j=nth b j) (λy=>y=false) (λj D=>by
  have H:j<b.length:=by omega
  simp only[kX,yU D,cN,zU D,zU H,zA,yA8 (O _ (vN D)),zK (k:=j) (by omega)];exact wV (by simp) rfl) (λj D=>by simp only[kX,kJ D,cM])
 rw[zRZ K] at h;rcases h with ⟨h,p⟩ | ⟨y,rfl,h,p⟩
 rw[h];simp[p];rw[h];simp[p];have G:(!decide ((a.length:Int)=(b.length:Int)))=true:=by simp;omega
 rw[G,cN];have:a≠b:=λe=>K (by rw[e]);simp[this]
theorem z2H {a b:List Range} (O:a.length<=1000000000):zAJ a b=some (decide (a=b)):=by
 unfold zAJ;by_cases K:a.length=b.length;have G:(!decide ((a.length:Int)=(b.length:Int)))=false:=by simp[K]
 rw[G,cM];have h:=kG (body:=λ(x:Int)=>zDS a b x) a.length (λj=>nth a j=nth b j) (λy=>y=false) (λj D=>by
  have H:j<b.length:=by omega
  simp only[zDS,yU D,cN,zU D,zU H,zA,zK (k:=j) (by omega)];exact wV (by simp) rfl) (λj D=>by simp only[zDS,kJ D,cM])
 rw[zRZ K] at h;rcases h with ⟨h,p⟩ | ⟨y,rfl,h,p⟩
 rw[h];simp[p];rw[h];simp[p];have G:(!decide ((a.length:Int)=(b.length:Int)))=true:=by simp;omega
 rw[G,cN];have:a≠b:=λe=>K (by rw[e]);simp[this]
theorem cfi {l:List Int} (K:l.length<=1000000000) {f:Int->Option Bool} (q:Int->Bool) (G:∀x,f x=some (q x)):xX l f=some (l.any q):=by
 unfold xX uM;have h:=kG (body:=λ(x:Int)=>jY l f x) l.length (λj=>q (nth l j)=false) (λy=>0<=y) (λj D=>by
  simp only[jY,yU D,cN,zU D,zA,G,zK (k:=j) (by omega)];exact wV (by simp) (by omega)) (λj D=>by simp only[jY,kJ D,cM])
 rw[zAT (p:=λx=>q x=false)] at h;have e:(¬∀x∈l,q x=false)↔l.any q=true:=by simp
 rcases h with ⟨h,p⟩ | ⟨y,H,h,p⟩;rw[h];have:l.any q=false:=by simpa using p
 rw[this];rfl;rw[h,e.1 p];simp[H]
theorem cfr {l:List (List Int)} (K:l.length<=1000000000) {f:List Int->Option Bool} (q:List Int->Bool) (G:∀x,f x=some (q x)):jN l f=some (l.any q):=by
 unfold jN vJ;have h:=kG (body:=λ(x:Int)=>jM l f x) l.length (λj=>q (nth l j)=false) (λy=>0<=y) (λj D=>by
  simp only[jM,yU D,cN,zU D,zA,G,zK (k:=j) (by omega)];exact wV (by simp) (by omega)) (λj D=>by simp only[jM,kJ D,cM])
 rw[zAT (p:=λx=>q x=false)] at h;have e:(¬∀x∈l,q x=false)↔l.any q=true:=by simp
 rcases h with ⟨h,p⟩ | ⟨y,H,h,p⟩;rw[h];have:l.any q=false:=by simpa using p
 rw[this];rfl;rw[h,e.1 p];simp[H]
theorem yA9 {l:List Int} (K:l.length<=1000000000) (v:Int):zLN l v=some (decide (v∈l)):=by
 unfold zLN;have h:=kG (body:=λ(x:Int)=>zFS l v x) l.length (λj=>nth l j≠v) (λy=>y=true) (λj D=>by
  simp only[zFS,yU D,cN,zU D,zA,zK (k:=j) (by omega)];exact wV (by simp) rfl) (λj D=>by simp only[zFS,kJ D,cM])
 rw[zAT (p:=λx=>x≠v)] at h;rcases h with ⟨h,p⟩ | ⟨y,rfl,h,p⟩
 rw[h];have:¬v∈l:=λG=>p v G rfl;simp[this];rw[h];have:v∈l:=Classical.byContradiction λG=>p λx H e=>G (e▸H);simp[this]
theorem yMV {a b c:List aP} (h:a.length+b.length+c.length<=1000000):jD [a,b,c]=some (a++b++c):=by
 unfold jD;have w1:wi (0+(a.length:Int))=((a.length:Nat):Int):=by rw[xY (by omega) (by omega)];omega
 have w2:wi ((a.length:Int)+(b.length:Int))=((a.length+b.length:Nat):Int):=by rw[xY (by omega) (by omega)];omega
 have w3:wi (((a.length+b.length:Nat):Int)+(c.length:Int))=((a.length+b.length+c.length:Nat):Int):=by rw[xY (by omega) (by omega)];omega
 have n0:∀k:Nat,decide ((k:Int)<0)=false:=λk=>by simp
 have Z:∀v:Int,yK [a,b,c] v 3=some (.done v):=λv=>rfl;have i0:yD [a,b,c] (0:Int)=some a:=rfl;have i1:yD [a,b,c] (1:Int)=some b:=rfl;have i2:yD [a,b,c] (2:Int)=some c:=rfl;have D:decide ((0:Int)<(([a,b,c]:List (List aP)).length:Int))=true:=rfl;have G:decide ((1:Int)<(([a,b,c]:List (List aP)).length:Int))=true:=rfl;have H:decide ((2:Int)<(([a,b,c]:List (List aP)).length:Int))=true:=rfl;have K:wi (0+1)=1:=by decide
 have O:wi (1+1)=2:=by decide
 have T:wi (2+1)=3:=by decide
 rw[zN (x':=(((a.length:Nat):Int),(1:Int))) (by simp only[yK,D,cN,i0,zA,w1,n0,cM,K])];rw[zN (x':=(((a.length+b.length:Nat):Int),(2:Int))) (by simp only[yK,G,cN,i1,zA,w2,n0,cM,O])];rw[zN (x':=(((a.length+b.length+c.length:Nat):Int),(3:Int))) (by simp only[yK,H,cN,i2,zA,w3,n0,cM,T])];rw[zL (Z _),zA];have Y:z4B ((a.length+b.length+c.length:Nat):Int)=some ():=by unfold z4B;rw[dI (by omega)]
 rw[Y,zA];rw[zN (x':=((1:Int),a)) (by simp only[yZ,D,cN,i0,zA,jX (l:=[]) (m:=a) (by simp;omega),K,dP])]
 rw[zN (x':=((2:Int),a++b)) (by simp only[yZ,G,cN,i1,zA,jX (l:=a) (m:=b) (by omega),O])];rw[zN (x':=((3:Int),a++b++c)) (by simp only[yZ,H,cN,i2,zA,jX (l:=a++b) (m:=c) (by simp;omega),T])]
 rw[zL (y:=a++b++c) rfl];rfl
theorem yQI {cuts:List Int} {n:Nat} (H:cuts.length<=1000):∀(m k:Nat) (acc:List Int),k+m=cuts.length->acc.length<=k->
  zE (λ(x:Int×(List Int))=>wL cuts (n:Int) x.1 x.2) ((k:Int),acc)=some (acc++(cuts.drop k).filter λc=>decide (0<=c)&&decide (c<=(n:Int)))
 | 0,k,acc,h,K=>by
  have:k=cuts.length:=by omega
  subst this;rw[gX,List.filter_nil,eA];exact zL (by simp only[wL,kJ (dA _),cM])
 | m+1,k,acc,h,K=>by
  have D:k<cuts.length:=by omega
  rw[cY D,ij];by_cases G:(decide (0<=cuts[k])&&decide (cuts[k]<=(n:Int)))=true
  ·rw[zN (x':=(((k+1:Nat):Int),acc++ [cuts[k]])) (by simp only[wL,yU D,cN,zV D,zA,zO,G,jX (l:=acc) (m:=[cuts[k]]) (by simp;omega),zK (k:=k) (by omega)])]
   rw[yQI H m (k+1) _ (by omega) (by simp;omega),dI G,c8]
   rfl
  ·rw[gY] at G
   rw[zN (x':=(((k+1:Nat):Int),acc)) (by simp only[wL,yU D,cN,zV D,zA,zO,G,cM,zK (k:=k) (by omega)])];rw[yQI H m (k+1) _ (by omega) (by omega),dK (by rw[G];exact Bool.false_ne_true)]
theorem z2I {cuts:List Int} {n:Nat} (k:cuts.length<=1000):zCP cuts (n:Int)=some (zOJ cuts n):=by
 unfold zCP;have h:=yQI (n:=n) k cuts.length 0 [] (by omega) (by simp);rw[show ((0:Nat):Int)=0 from rfl,d7,dP] at h;have D:=hU (λc=>decide (0<=c)&&decide (c<=(n:Int))) cuts;rw[h,zA];unfold z9O;rw[dI (by unfold LIM;omega),zA]
 unfold z9P;rw[dI (by rw[List.length_mergeSort];unfold LIM;omega),zA,yQG]
theorem ySO {es:List bO} (k:Vd es) (codes:List Int):(zEA es codes).1.length<=20:=by
 unfold zEA;cases h:es.find? (λx=>decide (x.aW=codes)) with
 | none=>simp
 | some x=>exact k.el x (fP h)
theorem ySP (d:Collation) (h:Int):(zUF d h).length<=20:=by unfold zUF;cases vld h<;>simp
theorem yMW {c:Collation} (h:Sm c) {l:List bL} (text:List Int):(stE c l text).2.2.length<=20:=by unfold stE;split;exact ySP _ _;exact ySO (z1T h) _
theorem ySQ {c:Collation} (G:Sm c) {l:List bL}:∀(k:Nat) (text:List Int),text.length<=k->(wk c l text).1.length<=20*text.length
 | 0,text,h=>by
  have:text= []:=cP (by omega);subst this;rw[zOI];simp
 | k+1,text,h=>by
  by_cases D:text= [];subst D;rw[zOI];simp;have H:=zZZ (c:=c) (l:=l) D;have K:=ySQ G (l:=l) k _ (show (stE c l text).2.1.length<=k by omega);have O:=yMW G (l:=l) text;rw[zUZ D];show ((stE c l text).2.2++(wk c l (stE c l text).2.1).1).length<=_;rw[cU];omega
theorem zNH {n:Norm} {c:Collation} (k:Sm c) {t:List Int} (h:TOk n t):(eLm n c t).length<=18000:=by have:=ySQ k (l:=wF n) _ (zGL n false t) (dA _);rw[zOH] at this;have:=h.2;unfold eLm;omega
open Go.AV
noncomputable def wT (n:Norm) (c:Collation) (o:Options) (t:List Int):List (List Int):=wts (eLm n c t) (wD o)
def zMW (A:List (List Int)):Bool:=A.any λr=>decide (0<(r.length:Int))
noncomputable def kS (n:Norm) (c:Collation) (o:Options) (t:List Int):List Int:=jn 0 [] (wT n c o t)
def oP (o:Options):Options:={aJ:=o.aJ,aD:=o.aD,aQ:=o.aQ,aT:=false}
theorem z83 (l:List aP) (o:Options):wts l (wD (oP o))=wts l (wD o):=by unfold wD;have:ckO (oP o)=ckO o:=rfl;rw[this];split<;>rfl
theorem ySR (o:Options):(wD (oP o)).aT=false:=by unfold wD;split<;>rfl
theorem zU8 (n:Norm) (c:Collation) (o:Options) (t u:List Int):zYM (wD (oP o)) (eLm n c t) u=kS n c o t:=by unfold zYM kS wT;rw[z83,dK (by rw[ySR];exact Bool.false_ne_true),eA]
theorem yI3 {n:Norm} {c:Collation} {o:Options} {a b:List Int}:kS n c o a=kS n c o b↔wT n c o a=wT n c o b:=by
 constructor;intro h;rw[<-zU8 n c o a [],<-zU8 n c o b []] at h;have:=(yI0 (zQI (oP o)) h).1
 rwa [z83,z83] at this
 intro h;unfold kS;rw[h]
theorem ySS {n:Norm} {c:Collation} {o:Options} {t:List Int} {x:List Int} (h:x∈wT n c o t):x.length<=(eLm n c t).length:=zWZ h
theorem zU9 (n:Norm) (c:Collation) (o:Options) (t:List Int):(wT n c o t).length<=4:=zU7 _ _
theorem yI4:∀(A:List (List Int)),(∀x∈A,∀a∈x,a≠0)->(tj A).any (λw=>!decide (w=0))=zMW A
 | [],_=>rfl
 | x::A,h=>by
  have k:=yI4 A λy D=>h y (by simp[D]);unfold zMW at k ⊢;rw[ir,<-k];show ((0::x)++tj A).any _=_;rw[List.any_append,ir];congr 1;cases x with
  | nil=>rfl
  | cons a x=>
   have:=h (a::x) (by simp) a (by simp);simp[this]
theorem yQJ (n:Norm) (c:Collation) (o:Options) (t:List Int):(kS n c o t).any (λw=>!decide (w=0))=zMW (wT n c o t):=by
 have k:∀x∈wT n c o t,∀a∈x,a≠0:=λx H a D=>z8Z H D;unfold kS;cases G:wT n c o t with
 | nil=>rfl
 | cons x A=>
  rw[G] at k;have h:=yI4 (x::A) k;rw[<-h,yQE];show _=((0::x)++tj A).any _;rw[fN,ir];rfl
section
variable {n:Norm} {c:Collation} (hn:NSm n) (hok:vZ n) (hs:Sm c) (hg:∀g∈c.aF,g.bS.length<=MX)
include hn hok hs hg
omit hn hok hg in
theorem yI5 (o:Options) {t:List Int} (h:TOk n t):(kS n c o t).length<=100000:=by
 have H:=zNH hs h;have k:=z2D (N:=18000) (wT n c o t) 0 [] (λx G=>by have:=ySS G;omega)
 have D:=zU9 n c o t;have K:(wT n c o t).length*(18000+1)<=4*(18000+1):=dT _ D;unfold kS;simp only[d6] at k;omega
theorem yI6 (o:Options) {t:List Int} (h:TOk n t):zBI n c o t o.aJ=some (kS n c o t):=by
 rw[yDY hn hok hs hg h.1 (by have:=h.2;omega)]
 exact congrArg some (zU8 n c o t _)
theorem yMX (o:Options) {t:List Int} (h:TOk n t):zGE n c o t o.aJ=some (kS n c o t):=by unfold zGE;rw[yDZ hn hok hs hg h.1 h.2,zA];exact congrArg some (zU8 n c o t _)
theorem yBA (o:Options) {t:List Int} (h:TOk n t):zI8 n c o t=some (kS n c o t):=by unfold zI8;rw[yMX hn hok hs hg o h,zA]
omit hn hok hg in
theorem yST (o:Options) {a b:List Int} (h:TOk n a):uY (kS n c o a) (kS n c o b)=some (decide (wT n c o a=wT n c o b)):=by
 rw[zRP (by have:=yI5 (c:=c) hs o h;omega)]
 simp only[yI3]
theorem yMY (o:Options) {t:List Int} (h:TOk n t):zJT n c o t=some (zMW (wT n c o t)):=by
 unfold zJT;have K:=zNH (c:=c) hs h;rw[yI1 hn hok hs hg h,zA,zPS (by omega),zA];show (zE (λ(x:Int)=>zCH (wT n c o t) x) 0).bind _=_;have H:=zU9 n c o t;have h:=kG (body:=λ(x:Int)=>zCH (wT n c o t) x) (wT n c o t).length (λj=>decide (0<((nth (wT n c o t) j).length:Int))=false) (λy=>y=true) (λj D=>by
  simp only[zCH,yU D,cN,zU D,zA,zK (k:=j) (by omega)];exact wV (by simp only[Bool.not_eq_false]) rfl) (λj D=>by simp only[zCH,kJ D,cM])
 rw[zAT (p:=λx:List Int=>decide (0<(x.length:Int))=false)] at h;have e:(¬∀x∈wT n c o t,decide (0<(x.length:Int))=false)↔zMW (wT n c o t)=true:=by unfold zMW;simp only[fT,Classical.not_forall,Bool.not_eq_false,exists_prop]
 rcases h with ⟨h,p⟩ | ⟨y,rfl,h,p⟩;rw[h];have:zMW (wT n c o t)=false:=by
  cases G:zMW (wT n c o t) with
  | false=>rfl
  | true=>exact absurd p (e.2 G)
 rw[this];rfl;rw[h,e.1 p];rfl
theorem zZ8 (o:Options) {a b:List Int} (h:TOk n a) (hb:TOk n b):uN n c o a b=some (zMW (wT n c o a)&&decide (wT n c o a=wT n c o b)):=by unfold uN;have k:=yI5 (c:=c) hs o h;rw[yI6 hn hok hs hg o h,zA,yI6 hn hok hs hg o hb,zA,cfi (f:=λx0=>zF9 x0) (by omega) (λw=>!decide (w=0)) (λx=>rfl),zA,zO,yQJ,yA8 (by omega)];simp only[yI3];cases zMW (wT n c o a)<;>simp[gM]
end
open Go.AV
def sl (t:List Int) (lo hi:Int):List Int:=(t.take hi.toNat).drop lo.toNat
noncomputable def whB (n:Norm) (c:Collation) (t:List Int) (lo hi:Int):Bool:=decide (eLm n c (t.take lo.toNat)++eLm n c (sl t lo hi)++eLm n c (t.drop hi.toNat)=eLm n c t)
noncomputable def mB (n:Norm) (c:Collation) (o:Options) (p t:List Int) (lo hi:Int):Bool:=decide (wT n c o (sl t lo hi)=wT n c o p)&&whB n c t lo hi
def mkR (lo hi:Int):Range:={Lo:=lo,Hi:=hi}
section
variable {n:Norm} {c:Collation} (hn:NSm n) (hok:vZ n) (hs:Sm c) (hg:∀g∈c.aF,g.bS.length<=MX)
include hn hok hs hg
omit hs hg in
theorem tk0 {t:List Int} (h:t.length<=12):TOk n t:=⟨by omega,by have:=yDQ hn hok false t;omega⟩
omit hs hg in
theorem tk1 {t:List Int} (h:t.length<=12) (k:Nat):TOk n (t.take k):=tk0 hn hok (by rw[dZ];omega)
omit hs hg in
theorem tk2 {t:List Int} (h:t.length<=12) (k:Nat):TOk n (t.drop k):=tk0 hn hok (by rw[eH];omega)
omit hs hg in
theorem tk3 {t:List Int} (h:t.length<=12) (lo hi:Int):TOk n (sl t lo hi):=tk0 hn hok (by unfold sl;rw[eH,dZ];omega)
theorem z55 {t:List Int} (k:t.length<=12) (r:Range):uO n c t r=some (decide (0<=r.Lo/\r.Lo<=r.Hi/\r.Hi<=(t.length:Int))&&whB n c t r.Lo r.Hi):=by
 unfold uO;rw[zO,zO];by_cases h:0<=r.Lo/\r.Lo<=r.Hi/\r.Hi<=(t.length:Int)
 ·obtain⟨D,G,H⟩:=h
  have e:((decide (r.Lo<0) ||decide (r.Hi<r.Lo)) ||decide ((t.length:Int)<r.Hi))=false:=by simp;omega
  have K:slc t 0 r.Lo=some (t.take r.Lo.toNat):=by unfold slc;rw[dI (by omega)];simp
  have O:slc t r.Lo r.Hi=some (sl t r.Lo r.Hi):=by unfold slc;rw[dI (by omega)];rfl
  have T:slc t r.Hi (t.length:Int)=some (t.drop r.Hi.toNat):=by unfold slc;rw[dI (by omega)];simp
  have Y:=zNH (c:=c) hs (tk1 hn hok k r.Lo.toNat);have Z:=zNH (c:=c) hs (tk3 hn hok k r.Lo r.Hi);have l3:=zNH (c:=c) hs (tk2 hn hok k r.Hi.toNat);rw[e,cM,K,zA,z2F hn hok hs hg (tk1 hn hok k _),zA,O,zA,z2F hn hok hs hg (tk3 hn hok k _ _),zA,T,zA,z2F hn hok hs hg (tk2 hn hok k _),zA,yMV (by omega),zA,z2F hn hok hs hg (tk0 hn hok k),zA,zS5 (by simp only[cU];omega),zA]
  simp only[D,G,H,iz,dB,dM];rfl
 ·have e:((decide (r.Lo<0) ||decide (r.Hi<r.Lo)) ||decide ((t.length:Int)<r.Hi))=true:=by
   simp only[fB,cZ];omega
  rw[e,cN];simp only[h,dH,dR]
theorem yD0 {t:List Int} (D:t.length<=12) (r:Range):zH6 n c t r=some (decide (0<=r.Lo/\r.Lo<=r.Hi/\r.Hi<=(t.length:Int))&&whB n c t r.Lo r.Hi):=by
 unfold zH6;rw[zO,zO];by_cases h:0<=r.Lo/\r.Lo<=r.Hi/\r.Hi<=(t.length:Int)
 ·obtain⟨T,Y,Z⟩:=h
  have e:((decide (r.Lo<0) ||decide (r.Hi<r.Lo)) ||decide ((t.length:Int)<r.Hi))=false:=by simp;omega
  have s1:slc t 0 r.Lo=some (t.take r.Lo.toNat):=by unfold slc;rw[dI (by omega)];simp
  have s2:slc t r.Lo r.Hi=some (sl t r.Lo r.Hi):=by unfold slc;rw[dI (by omega)];rfl
  have s3:slc t r.Hi (t.length:Int)=some (t.drop r.Hi.toNat):=by unfold slc;rw[dI (by omega)];simp
  have l1:=zNH (c:=c) hs (tk1 hn hok D r.Lo.toNat);have l2:=zNH (c:=c) hs (tk3 hn hok D r.Lo r.Hi);have l3:=zNH (c:=c) hs (tk2 hn hok D r.Hi.toNat);have l0:=zNH (c:=c) hs (tk0 hn hok D);rw[e,cM,yI1 hn hok hs hg (tk0 hn hok D),zA,s1,zA,yI1 hn hok hs hg (tk1 hn hok D _),zA,jX (by simp;omega),zA,dP,s2,zA,yI1 hn hok hs hg (tk3 hn hok D _ _),zA,jX (by omega),zA,s3,zA,yI1 hn hok hs hg (tk2 hn hok D _),zA,jX (by simp only[cU];omega),zA]
  simp only[T,Y,Z,iz,dB,dM];unfold whB;generalize eLm n c (t.take r.Lo.toNat)++eLm n c (sl t r.Lo r.Hi)++eLm n c (t.drop r.Hi.toNat)=b;generalize eLm n c t=a at l0 ⊢;by_cases O:a.length=b.length
  ·have H:(!decide ((a.length:Int)=(b.length:Int)))=false:=by simp[O]
   rw[H,cM];have h:=kG (body:=λ(x:Int)=>zDC a b x) a.length (λj=>nth a j=nth b j) (λy=>y=false) (λj G=>by
    have K:j<b.length:=by omega
    simp only[zDC,yU G,cN,zU G,zU K,zA,zK (k:=j) (by omega)];exact wV (by simp) rfl) (λj G=>by simp only[zDC,kJ G,cM])
   rw[zRZ O] at h;rcases h with ⟨h,p⟩ | ⟨y,rfl,h,p⟩
   ·rw[h];simp[p]
   ·have p':¬b=a:=λe=>p e.symm
    rw[h];simp[p']
  ·have H:(!decide ((a.length:Int)=(b.length:Int)))=true:=by simp;omega
   rw[H,cN];have:b≠a:=λe=>O (by rw[e]);simp[this]
 ·have e:((decide (r.Lo<0) ||decide (r.Hi<r.Lo)) ||decide ((t.length:Int)<r.Hi))=true:=by
   simp only[fB,cZ];omega
  rw[e,cN];simp only[h,dH,dR]
def yUW (f:Int):Option Nat->Unit⊕(Bool×Int×Int)
 | some t=> .inr (true,f,(t:Int))
 | none=> .inl ()
theorem yI7 (o:Options) {p t cuts:List Int} (Y:TOk n p) (K:t.length<=12) (hc:cuts.length<=1000) {f:Nat} (hf:f<=t.length):∀(m k:Nat),k+m=t.length+1->f<k->
  zE (λ(x:Int)=>zBL t cuts (f:Int) n c o p x) (k:Int)=some (yUW (f:Int) ((List.range' k m).find? λ(q:Nat)=>decide ((q:Int)∈cuts)&&mB n c o p t (f:Int) (q:Int)))
 | 0,k,h,_=>by
  have e:decide ((k:Int)<=(t.length:Int))=false:=by simp;omega
  exact zL (by simp only[zBL,e,cM];rfl)
 | m+1,k,h,hk=>by
  have e:decide ((k:Int)<=(t.length:Int))=true:=by simp;omega
  have ih:=yI7 o Y K hc hf m (k+1) (by omega) (by omega);have s2:slc t (f:Int) (k:Int)=some (sl t (f:Int) (k:Int)):=by unfold slc;rw[dI (by omega)];rfl
  have hw:=yD0 hn hok hs hg K ({Lo:=(f:Int),Hi:=(k:Int)}:Range);have G:decide (0<=({Lo:=(f:Int),Hi:=(k:Int)}:Range).Lo/\({Lo:=(f:Int),Hi:=(k:Int)}:Range).Lo<=({Lo:=(f:Int),Hi:=(k:Int)}:Range).Hi/\({Lo:=(f:Int),Hi:=(k:Int)}:Range).Hi<=(t.length:Int))=true:=by simp;omega
  rw[G,dM] at hw;have D:zBL t cuts (f:Int) n c o p (k:Int)=cond (decide ((k:Int)∈cuts)&&mB n c o p t (f:Int) (k:Int)) (some (.done (.inr (true,(f:Int),(k:Int))))) (some (.next ((k+1:Nat):Int))):=by
   have H:wi ((k:Int)+1)=((k+1:Nat):Int):=zK (by omega);unfold zBL;rw[e,cN,yA9 (by omega),zA,zO];by_cases O:(k:Int)∈cuts
   ·simp only[O,dB,xS,s2,zA,yBA hn hok hs hg o (tk3 hn hok K _ _),yBA hn hok hs hg o Y,yST hs o (tk3 hn hok K _ _),dM,zO]
    unfold mB;by_cases T:wT n c o (sl t (f:Int) (k:Int))=wT n c o p
    ·simp only[T,dB,xS,hw,zA,dM]
     rw[H]
    ·simp only[T,dH,vF,zA,dR,cM]
     rw[H]
   ·simp only[O,dH,vF,zA,dR,zO,cM]
    rw[H]
  rw[iH,iw];cases Z:(decide ((k:Int)∈cuts)&&mB n c o p t (f:Int) (k:Int)) with
  | true=>
   rw[Z] at D;exact zL D
  | false=>
   rw[Z] at D;rw[zN (x':=((k+1:Nat):Int)) D];exact ih
theorem yI8 (o:Options) {p t cuts:List Int} (D:TOk n p) (G:t.length<=12) (h:cuts.length<=1000) {f:Nat} (H:f<t.length):zH7 n c o p t cuts (f:Int)=some (match ((List.range' (f+1) (t.length-f)).find? λ(q:Nat)=>decide ((q:Int)∈cuts)&&mB n c o p t (f:Int) (q:Int)) with
  | some q=>(mkR (f:Int) (q:Int),true)
  | none=>(mkR 0 0,false)):=by
 unfold zH7;rw[zK (k:=f) (by omega),yI7 hn hok hs hg o D G h (by omega) (t.length-f) (f+1) (by omega) (by omega),zA];cases (List.range' (f+1) (t.length-f)).find? (λ(q:Nat)=>decide ((q:Int)∈cuts)&&mB n c o p t (f:Int) (q:Int))<;>rfl
theorem yMZ (o:Options) {p t cuts:List Int} (T:TOk n p) (Y:t.length<=12) (H:cuts.length<=1000):∀(m k:Nat) (acc:List Range),k+m=t.length->acc.length<=k->
  zE (λ(x:Int×(List Range))=>zB5 t cuts n c o p x.1 x.2) ((k:Int),acc)=some (acc++zL4 mkR (mB n c o p t) cuts t.length k m)
 | 0,k,acc,h,_=>by
  have:k=t.length:=by omega
  subst this;rw[zL (y:=acc) (by simp only[zB5,kJ (dA _),cM])];simp[zL4]
 | m+1,k,acc,h,ha=>by
  have O:k<t.length:=by omega
  have e:zL4 mkR (mB n c o p t) cuts t.length k (m+1)=(if decide ((k:Int)∈cuts)=true then
   match ((List.range' (k+1) (t.length-k)).find? λ(q:Nat)=>decide ((q:Int)∈cuts)&&mB n c o p t (k:Int) (q:Int)) with
   | some q=>[mkR (k:Int) (q:Int)]
   | none=>[]
   else [])++zL4 mkR (mB n c o p t) cuts t.length (k+1) m:=by
   unfold zL4;rw[iH,d9]<;>rfl
  rw[e];have K:=yI8 hn hok hs hg o T Y H O;have D:wi ((k:Int)+1)=((k+1:Nat):Int):=zK (by omega);by_cases G:(k:Int)∈cuts
  ·cases Z:(List.range' (k+1) (t.length-k)).find? (λ(q:Nat)=>decide ((q:Int)∈cuts)&&mB n c o p t (k:Int) (q:Int)) with
   | some q=>
    rw[Z] at K;rw[zN (x':=(((k+1:Nat):Int),acc++ [mkR (k:Int) (q:Int)])) (by
     simp only[zB5,yU O,cN,yA9 (show cuts.length<=1000000000 by omega),zA,G,dB,dD,cM,K,jX (l:=acc) (m:=[mkR (k:Int) (q:Int)]) (by simp;omega)]
     rw[D])]
    rw[yMZ o T Y H m (k+1) _ (by omega) (by simp;omega)]
    simp[G]
   | none=>
    rw[Z] at K;rw[zN (x':=(((k+1:Nat):Int),acc)) (by
     simp only[zB5,yU O,cN,yA9 (show cuts.length<=1000000000 by omega),zA,G,dB,dD,cM,K];rw[D])]
    rw[yMZ o T Y H m (k+1) _ (by omega) (by omega)];simp[G]
  ·rw[zN (x':=(((k+1:Nat):Int),acc)) (by
     simp only[zB5,yU O,cN,yA9 (show cuts.length<=1000000000 by omega),zA,G,dH,dQ];rw[D])]
   rw[yMZ o T Y H m (k+1) _ (by omega) (by omega)];simp[G]
noncomputable def aM (n:Norm) (c:Collation) (o:Options) (p t cuts:List Int):List Range:=if zMW (wT n c o p)=true then zL4 mkR (mB n c o p t) cuts t.length 0 t.length else []
theorem z2J (o:Options) {p t cuts:List Int} (k:TOk n p) (G:t.length<=12) (D:cuts.length<=1000):zI9 n c o p t cuts=some (aM n c o p t cuts):=by
 unfold zI9 aM;rw[yMY hn hok hs hg o k,zA];cases zMW (wT n c o p) with
 | false=>rfl
 | true=>
  have h:=yMZ hn hok hs hg o k G D t.length 0 [] (by omega) (by simp);rw[show ((0:Nat):Int)=0 from rfl,dP] at h;rw[dD,cM,h,zA,dI rfl]
end
end Go.M


/- What the plain counterparts answer. Conditions: none. -/
import Derived.Test.YtjnpmmedmedokaaGreatDoorPu1
import Derived.Test.YtjnpmmedmedokaaGreatDoorLa3
set_option linter.unusedSimpArgs false
set_option linter.unusedVariables false
set_option linter.unnecessarySimpa false
namespace Go.M
open Go.AV
open Classical in
noncomputable def xM (n:Norm):List bJ:=if VD0 n then n.aI else []
theorem yAG:CV []:=⟨λk h=>(by cases h),λk h=>(by cases h),λk h=>(by cases h)⟩
theorem z0E (n:Norm):CV (xM n):=by unfold xM;split;rename_i h;exact h.cv;exact yAG
theorem zP2 {n:Norm} (h:NSm n):(xM n).length<=40:=by unfold xM;split;exact h.cl;simp
def zUH (l:List bJ) (t:Int):Int:=l.foldl (λt s=>max t s.Value) t
def zLL (c:Collation) (l:List bJ):bB:={zPX c with bP:=l,top:=zUH l 0}
theorem yAH {l:List bJ} (H:l.length<=2000):∀(d k:Nat) (t:Int),l.length-k=d->k<=l.length->zB (λ(x:Int×Int)=>jG l x.1 x.2) ((k:Int),t)=some (zUH (l.drop k) t):=by
 intro d
 induction d with
 | zero=>
  intro k t z D;rw[dE (by omega)];refine zD ?_;simp only[jG,yY (show l.length<=k by omega),cP];rfl
 | succ d G=>
  intro k t z D;have h:k<l.length:=by omega
  rw[dA h];rw[zG (x':=(((k+1:Nat):Int),max t l[k].Value)) (by simp only[jG,yF h,cQ,zM h,zA,zC (k:=k) (by omega)])];exact G (k+1) _ (by omega) (by omega)
theorem yE5 {c:Collation} {n:Norm} (H:NSm n) (z:wV n):vP (zPX c) n=some (zLL c (xM n)):=by
 obtain⟨e,O,G⟩:=z99 H z;unfold vP;rw[O,zA];have K:(cond (decide (e=0)) (some n.aI) (some (zPX c).bP):Option (List bJ))=some (xM n):=by
  unfold xM;by_cases h:e=0;rw[dK (G.1 h)];simp[h];rw[dQ (λT=>h (G.2 T))];simp[h,zPX]
 rw[K,zA];have D:=yAH (l:=xM n) (by have:=zP2 H;omega) (xM n).length 0 0 (by omega) (by omega)
 rw[et] at D;have k:zB (λ(x:Int×Int)=>jG (xM n) x.1 x.2) (0,(zPX c).top)=some (zUH (xM n) 0):=D;rw[k];rfl
theorem zLM {c:Collation} (h:Sm c) {l:List bJ} {codes:List Int}:jI (zLL c l) codes=some (zCD (yL c).aB codes):=yEL h (codes:=codes)
theorem zL7 {c:Collation} {l:List bJ} (h:CV l) (hl:l.length<=2000) (x:Int):w6 (zLL c l) x=some (clE l x):=by
 obtain⟨j,T,hr,D,z⟩:=zW7 (n:=l.length) hl (body:=λ(q:Int×Int)=>zA7 (λx0=>x9 x0 (zLL c l) x) q.1 q.2) (λk=>decide (x<=(nth l k).Hi))
  (λk _=>by simp only[zA7,yY (dF _),cP])
  (λlo hi Z h2=>by
   have hm:(lo+hi)/2<l.length:=by omega
   have K:zV (zLL c l).bP (((lo+hi)/2:Nat):Int)=some (nth l ((lo+hi)/2)):=zO hm;simp only[zA7,yF Z,cQ,zNQ (show lo+hi<=4611686018427387903 by omega),x9,K,zA,zC (k:=(lo+hi)/2) (by omega)];by_cases hc:x<=(nth l ((lo+hi)/2)).Hi<;>simp[hc])
  (λi j O T hi=>by
   have:=h.hi O T;simp only[c8] at hi ⊢;omega)
 simp only[dC,c8] at D z;unfold w6 zHQ;have Y:(zLL c l).bP=l:=rfl;rw[Y,hr,yGW h T (λk hk=>by have:=D k hk;omega) z]
 simp only[zA,zF];by_cases G:j<l.length;simp only[yF G,j7,zO G,zA,dT,G,true_and];by_cases H:(nth l j).Lo<=x<;>simp[H];simp only[yY (show l.length<=j by omega),wJ,zA,dV,cP,G,false_and,cY]
theorem z12:∀(l:List bJ) (t:Int),t<=zUH l t/\∀s∈l,s.Value<=zUH l t
 | [],t=>⟨gw _,λs h=>by cases h⟩
 | x::l,t=>by
  have k:=z12 l (max t x.Value);refine⟨by show t<=zUH l (max t x.Value);omega,λs hs=>?_⟩
  show s.Value<=zUH l (max t x.Value);rcases dN.1 hs with rfl | hs
  omega;exact k.2 s hs
theorem yL1 {l:List bJ} (x:Int):clE l x<=zUH l 0:=by
 unfold clE;cases h:l.find? (zQ9 x) with
 | none=>exact(z12 l 0).1
 | some s=>exact(z12 l 0).2 s (fK h)
theorem yL2 {l:List bJ} (h:CV l) (x:Int):0<=clE l x:=by
 unfold clE;cases D:l.find? (zQ9 x) with
 | none=>exact gw _
 | some s=>
  have:=fK D;obtain⟨k,z,rfl⟩:=fB this;have:=h.sp k z;rw[u9 z] at this;unfold spOk at this;show 0<=(l[k]).Value;omega
def zH0 (p:Nat->Bool):Nat->Nat
 | 0=>0
 | k+1=>if p (k+1) then k+1 else zH0 p k
theorem zO1 (p:Nat->Bool):∀k,zH0 p k<=k
 | 0=>dF _
 | k+1=>by unfold zH0;split;omega;have:=zO1 p k;omega
theorem zVP {p : Nat -> Bool} {m : Nat} : ∀ {k : Nat}, m <= k -> (∀ j, m<j -> j <= k -> p j = false) -> zH0 p k = zH0 p m
  | 0, h, _ => by have : m = 0 := by omega
                  rw[this]
  | k+1, h, hp => by
    by_cases e : m = k+1
    · rw[e]
    · unfold zH0
      rw[hp (k+1) (by omega) (dF _)];simp only[dR, cY];rw[zVP (m := m) (by omega) λj h1 h2 => hp j h1 (by omega)];cases m<;>rfl
def pfx (es:List bQ) (text:List Int) (k:Nat):Bool:=(zCD es (text.take k)).2
def uD (es:List bQ) (text:List Int):Nat:=zH0 (pfx es text) text.length
def zC0 (fd:List Int->Bool) (cl:Int->Int):List Int->List Int->List Int->Int->List Int×List Int
 | [],p,s,_=>(p,s)
 | x::r,p,s,h=>if cl x=0 then (p,s++x::r) else if fd (p++ [x])&&decide (h<cl x) then zC0 fd cl r (p++ [x]) s h else zC0 fd cl r p (s++ [x]) (max h (cl x))
theorem zVQ {fd:List Int->Bool} {cl:Int->Int}:∀(r p s:List Int) (h:Int),(∀x,cl x<=h)->zC0 fd cl r p s h=(p,s++r)
 | [],p,s,h,_=>by simp[zC0]
 | x::r,p,s,h,k=>by
  have z:=k x;unfold zC0;split;rfl;have e:decide (h<cl x)=false:=by simp;omega
  rw[e,fP,dQ (by simp),zVQ r p (s++ [x]) (max h (cl x)) (λy=>by have:=k y;omega)]
  simp
theorem zO2 {fd:List Int->Bool} {cl:Int->Int}:∀(r p s:List Int) (h:Int),p.length<=(zC0 fd cl r p s h).1.length/\(zC0 fd cl r p s h).1.length+(zC0 fd cl r p s h).2.length=p.length+s.length+r.length/\((zC0 fd cl r p s h).1.length=p.length->zC0 fd cl r p s h=(p,s++r))
 | [],p,s,h=>by simp[zC0]
 | x::r,p,s,h=>by
  unfold zC0;split;refine⟨dF _,by simp;omega,λ_=>rfl⟩
  split;have k:=zO2 (fd:=fd) (cl:=cl) r (p++ [x]) s h;simp only[cZ,dP,d6] at k ⊢;exact⟨by omega,by omega,λe=>by omega⟩;have k:=zO2 (fd:=fd) (cl:=cl) r p (s++ [x]) (max h (cl x));simp only[cZ,dP,d6] at k ⊢;refine⟨k.1,by omega,λe=>?_⟩;rw[k.2.2 e];simp
section
variable {c:Collation} (hs:Sm c) {l:List bJ} (hcv:CV l) (hl:l.length<=2000)
include hs
theorem mL0 {text:List Int} (G:text.length<=2000):∀k,k<=text.length->zB (λ(x:Int)=>kX text (zLL c l) x) (k:Int)=some ((zH0 (pfx (yL c).aB text) k:Nat):Int)
 | 0,_=>by
  refine zD ?_;have:decide ((0:Int)<((0:Nat):Int))=false:=rfl;simp only[kX,this,cP];rfl
 | k+1,D=>by
  have z:decide ((0:Int)<((k+1:Nat):Int))=true:=by simp<;>omega
  have H:=mL0 G k (by omega);unfold zH0;cases h:pfx (yL c).aB text (k+1) with
  | true=>
   rw[dK rfl];refine zD ?_;unfold pfx at h;simp only[kX,z,cQ,zDF D,zA,zLM hs,h]
  | false=>
   rw[dQ (by simp),<-H];refine zG ?_;unfold pfx at h;simp only[kX,z,cQ,zDF D,zA,zLM hs,h,cP,zCA (k:=k) (by omega)]
omit hs in
theorem yAI {text:List Int} {k:Nat} (H:k<=text.length) (h:zOY (yL c).aB 0<(k:Int)):pfx (yL c).aB text k=false:=by
 have z:=zW4 (yL c).aB 0;unfold pfx zCD;have:(yL c).aB.find? (λx=>decide (x.aV=text.take k))=none:=by
  rw[List.find?_eq_none];intro x G;simp only[c8];intro e;have D:=z.2 x G;rw[e] at D;have:(text.take k).length=k:=by simp;omega
  omega
 rw[this]
theorem yJC {text:List Int} (D:text.length<=2000):zB (λ(x:Int)=>kX text (zLL c l) x) (min (zLL c l).bS (text.length:Int))=some ((uD (yL c).aB text:Nat):Int):=by have G:=zW4 (yL c).aB 0;have e:(zLL c l).bS=zOY (yL c).aB 0:=rfl;rw[e];obtain⟨m,z⟩:∃m:Nat,min (zOY (yL c).aB 0) (text.length:Int)=(m:Int):=⟨(min (zOY (yL c).aB 0) (text.length:Int)).toNat,by omega⟩;rw[z,mL0 hs D m (by omega)];unfold uD;rw[zVP (p:=pfx (yL c).aB text) (m:=m) (k:=text.length) (by omega) λj H h=>yAI h (by omega)]
omit hs in
theorem yJD {p s r:List Int} {x:Int}:uV (cpM (p++s++x::r) ((p.length+1:Nat):Int) ((p.length+s.length+1:Nat):Int) (p.length:Int) ((p.length+s.length:Nat):Int)) (p.length:Int) x=some ((p++ [x])++s++r):=by
 have D:((p++s++x::r).drop p.length).take (p.length+s.length-p.length)=s:=by
  rw[dB,List.drop_left];have:p.length+s.length-p.length=s.length:=by omega
  rw[this,gN]
 have G:min (p.length+s.length-p.length) (p.length+s.length+1-(p.length+1))=s.length:=by omega
 unfold cpM;simp only[Int.toNat_natCast];rw[D,G,gA (dF _)];cases s with
 | nil=>
  have z:(p++ []++x::r)=p++x::r:=by simp
  rw[z];have h:(p++x::r).take (p.length+1)=p++ [x]:=by
   rw[List.take_append,gA (by omega)];simp
  have k:(p++x::r).drop (p.length+1+([]:List Int).length)=r:=by
   rw[List.drop_append,dE (by simp)];simp
  rw[h,k];have:p++ [x]++ []++r=p++x::r:=by simp
  rw[this,uI rfl]
 | cons y s=>
  have z:(p++(y::s)++x::r)=p++y::(s++x::r):=by simp
  rw[z];have h:(p++y::(s++x::r)).take (p.length+1)=p++ [y]:=by
   rw[List.take_append,gA (by omega)];simp
  have k:(p++y::(s++x::r)).drop (p.length+1+(y::s).length)=r:=by
   have:p++y::(s++x::r)=(p++y::(s++ [x]))++r:=by simp
   rw[this,List.drop_left' (by simp;omega)]
  rw[h,k];have:p++ [y]++(y::s)++r=p++y::((y::s)++r):=by simp
  rw[this,uI rfl];simp
include hcv hl
theorem mL1:∀(r p s:List Int) (h:Int),p.length+s.length+r.length<=2000->
  zB (λ(x:Int×Int×Int×(List Int))=>yX (zLL c l) x.1 x.2.1 x.2.2.1 x.2.2.2) ((p.length:Int),h,((p.length+s.length:Nat):Int),p++s++r)=
   some ((((zC0 (λq=>(zCD (yL c).aB q).2) (clE l) r p s h).1.length:Nat):Int),(zC0 (λq=>(zCD (yL c).aB q).2) (clE l) r p s h).1++(zC0 (λq=>(zCD (yL c).aB q).2) (clE l) r p s h).2)
 | [],p,s,h,_=>by
  refine zD ?_;have:decide (((p.length+s.length:Nat):Int)<((p++s++ []).length:Int))=false:=by simp
  simp only[yX,zF,this,dV,cP];simp[zC0]
 | x::r,p,s,h,hn=>by
  simp only[dP] at hn;have T:decide (((p.length+s.length:Nat):Int)<((p++s++x::r).length:Int))=true:=by simp<;>omega
  have hi:zV (p++s++x::r) ((p.length+s.length:Nat):Int)=some x:=wL (by simp);have D:(zLL c l).top=zUH l 0:=rfl;by_cases G:h<zUH l 0
  ·have z:decide (h<(zLL c l).top)=true:=by rw[D];simpa using G
   by_cases H:clE l x=0
   ·refine zD ?_
    simp only[yX,zF,T,z,fQ,cQ,hi,zA,zL7 hcv hl,H,dD,eQ];unfold zC0;rw[dK H];simp
   ·unfold zC0
    rw[dQ H];by_cases hk:clE l x<=h
    ·have e:decide (h<clE l x)=false:=by simp;omega
     rw[e,fP,dQ (by simp)];rw[zG (x':=((p.length:Int),h,((p.length+(s++ [x]).length:Nat):Int),p++(s++ [x])++r)) (by
      have Y:p++(s++ [x])++r=p++s++x::r:=by simp
      have K:p.length+(s++ [x]).length=p.length+s.length+1:=by simp;omega
      rw[Y,K];simp only[yX,zF,T,z,fQ,cQ,hi,zA,zL7 hcv hl,H,hk,dD,dI,cP,Sum.elim_inr,zC (k:=p.length+s.length) (by omega)])]
     have:=mL1 r p (s++ [x]) h (by simp;omega)
     rw[show max h (clE l x)=h by omega];exact this
    ·have e:decide (h<clE l x)=true:=by simp;omega
     rw[e,Bool.and_true];have s1:slc (p++s++x::r) 0 (p.length:Int)=some p:=by
      rw[zDF (by simp)];simp
     have a1:app p [x]=some (p++ [x]):=jP (by simp;omega)
     cases hf:(zCD (yL c).aB (p++ [x])).2 with
     | false=>
      rw[dQ (by simp)];rw[zG (x':=((p.length:Int),clE l x,((p.length+(s++ [x]).length:Nat):Int),p++(s++ [x])++r)) (by
       have Y:p++(s++ [x])++r=p++s++x::r:=by simp
       have K:p.length+(s++ [x]).length=p.length+s.length+1:=by simp;omega
       rw[Y,K];simp only[yX,zF,T,z,fQ,cQ,hi,zA,zL7 hcv hl,H,hk,dI,cP,s1,a1,zLM hs,hf,dO,Sum.elim_inr,zC (k:=p.length+s.length) (by omega)])]
      have:=mL1 r p (s++ [x]) (clE l x) (by simp;omega)
      rw[show max h (clE l x)=clE l x by omega];exact this
     | true=>
      rw[dK rfl];have ah:∃q,slc (p++s++x::r) ((p.length+1:Nat):Int) ((p.length+s.length+1:Nat):Int)=some q:=⟨_,zPV (by omega) (by simp;omega)⟩
      have ai:∃q,slc (p++s++x::r) (p.length:Int) ((p.length+s.length:Nat):Int)=some q:=⟨_,zPV (by omega) (by simp)⟩;obtain⟨q1,ac⟩:=ah;obtain⟨q2,ad⟩:=ai;have O:=yJD (p:=p) (s:=s) (r:=r) (x:=x);obtain⟨_,_,ab⟩:=zLT O;have Z:∃q,zV (cpM (p++s++x::r) ((p.length+1:Nat):Int) ((p.length+s.length+1:Nat):Int) (p.length:Int) ((p.length+s.length:Nat):Int)) (p.length:Int)=some q:=⟨_,zM (by simpa using ab)⟩;obtain⟨q3,ag⟩:=Z;rw[zG (x':=(((p++ [x]).length:Int),h,(((p++ [x]).length+s.length:Nat):Int),(p++ [x])++s++r)) (by
       have K:(p++ [x]).length+s.length=p.length+s.length+1:=by simp;omega
       have e4:(p++ [x]).length=p.length+1:=by simp
       rw[K,e4];simp only[yX,zF,T,z,fQ,cQ,hi,zA,zL7 hcv hl,H,hk,dI,cP,s1,a1,zLM hs,hf,dG,zC (k:=p.length+s.length) (by omega),zC (k:=p.length) (by omega),ac,ad,ag,O,Sum.elim_inr])]
      exact mL1 r (p++ [x]) s h (by simp;omega)
  ·have z:decide (h<(zLL c l).top)=false:=by rw[D];simpa using G
   have hm:=zVQ (fd:=λq=>(zCD (yL c).aB q).2) (cl:=clE l) (x::r) p s h (λy=>by have:=yL1 (l:=l) y;omega)
   rw[hm];refine zD ?_;simp only[yX,zF,T,z,fP,cP,dB]
noncomputable def stE (c:Collation) (l:List bJ) (text:List Int):Int×List Int×List aK:=if uD (yL c).aB text=0 then (1,text.drop 1,zQ7 (yL c) (nth text 0)) else
 ((((zC0 (λq=>(zCD (yL c).aB q).2) (clE l) (text.drop (uD (yL c).aB text)) (text.take (uD (yL c).aB text)) [] 0).1.length:Nat):Int),(zC0 (λq=>(zCD (yL c).aB q).2) (clE l) (text.drop (uD (yL c).aB text)) (text.take (uD (yL c).aB text)) [] 0).2,(zCD (yL c).aB (zC0 (λq=>(zCD (yL c).aB q).2) (clE l) (text.drop (uD (yL c).aB text)) (text.take (uD (yL c).aB text)) [] 0).1).1)
theorem yAJ {text:List Int} (ht:text.length<=2000) (Z:text≠[]):∃z,w7 (zLL c l) text=some ((stE c l text).1,(stE c l text).2.2,decide (uD (yL c).aB text≠0),z)/\slc z (stE c l text).1 (z.length:Int)=some (stE c l text).2.1:=by
 unfold w7;rw[yJC hs ht,zA];have D:0<text.length:=e6.2 Z;by_cases G:uD (yL c).aB text=0;have H:decide (((uD (yL c).aB text:Nat):Int)=0)=true:=by simp[G]
 have i0:zV text (0:Int)=some (nth text 0):=zO (k:=0) D;have h:stE c l text=(1,text.drop 1,zQ7 (yL c) (nth text 0)):=by unfold stE;rw[dK G]
 have O:jV (zLL c l) (nth text 0)=some (zQ7 (yL c) (nth text 0)):=zZY c (nth text 0);rw[H,cQ,i0,zA,O,zA,h];refine⟨text,?_,?_⟩;simp[G];exact zFS (l:=text) (a:=1) (by omega);have H:decide (((uD (yL c).aB text:Nat):Int)=0)=false:=by simp;omega
 rw[H,cP];have aa:uD (yL c).aB text<=text.length:=zO1 _ _;have K:=mL1 hs hcv hl (text.drop (uD (yL c).aB text)) (text.take (uD (yL c).aB text)) [] 0 (by simp;omega)
 have T:(text.take (uD (yL c).aB text)).length=uD (yL c).aB text:=by simp;omega
 have Y:text.take (uD (yL c).aB text)++ []++text.drop (uD (yL c).aB text)=text:=by simp
 rw[Y,T] at K;simp only[d6,fH] at K;rw[K,zA];have h:stE c l text=((((zC0 (λq=>(zCD (yL c).aB q).2) (clE l) (text.drop (uD (yL c).aB text)) (text.take (uD (yL c).aB text)) [] 0).1.length:Nat):Int),(zC0 (λq=>(zCD (yL c).aB q).2) (clE l) (text.drop (uD (yL c).aB text)) (text.take (uD (yL c).aB text)) [] 0).2,(zCD (yL c).aB (zC0 (λq=>(zCD (yL c).aB q).2) (clE l) (text.drop (uD (yL c).aB text)) (text.take (uD (yL c).aB text)) [] 0).1).1):=by unfold stE;rw[dQ G]
 rw[h];generalize zC0 (λq=>(zCD (yL c).aB q).2) (clE l) (text.drop (uD (yL c).aB text)) (text.take (uD (yL c).aB text)) [] 0=q;have s1:slc (q.1++q.2) 0 ((q.1.length:Nat):Int)=some q.1:=by rw[zDF (by simp)];simp
 simp only[s1,zA,zLM hs];refine⟨q.1++q.2,?_,?_⟩;simp[G];rw[zFS (by simp)];simp
end
open Go.AV
def n0:Norm:={aI:=[{Lo:=769,Hi:=769,Value:=230},{Lo:=803,Hi:=803,Value:=220}],aA:=[],aJ:={Ranges:=[]}}
def c0:Collation:={aB:=[{aV:=[97],aS:=[{aP:=7,aH:=1,aL:=1,aD:=false}]},{aV:=[97,769],aS:=[{aP:=8,aH:=1,aL:=1,aD:=false}]}],aE:=[],bG:=100,aX:=1,bD:=1}
open Go.AV
theorem yAK {n:Norm} (h:DS n.aA) (K:n.aA.length<=2000) (c:Int) (b:Bool):vO n c b=some (if syl c=true then (hdE c,true) else ((fnB n.aA b c).getD [],(fnB n.aA b c).isSome)):=by
 unfold vO;rw[zL3,zA];by_cases k:syl c=true;have e:decide (4<=hkE c)=true:=by simpa using (zGE c).1 k
 simp only[e,cQ,z3H k,zA,k,dH];have e:decide (4<=hkE c)=false:=by simp only[dC];exact λH=>k ((zGE c).2 H)
 simp only[gP] at k;simp only[e,cP,k,dR,cY];obtain⟨i,hb,T⟩:=z3J h K c;rw[hb];simp only[zA,zF];unfold fnB;cases G:n.aA.find? (isF c) with
 | none=>simp[wJ]
 | some m=>
  obtain⟨z,D⟩:=T m G;simp only[Option.isSome_some,dG,dO,j7,zO z,D,zA,fa];cases b<;>cases O:(m.bO== [])<;>simp[O]
section
variable {n:Norm} {b:Bool} (hd:DS n.aA) (hl:n.aA.length<=2000) (hD:∀c,DD n.aA n.aA.length c) (hw:∀c,(fu n.aA b c).length<=64)
def XOk (l:List aC) (b:Bool) (m:List (Int×List Int)):Prop:= ∀k v,mget m k=some v->v=fu l b k
def z3U (l:List aC) (f:Nat) (c:Int):Prop:=(∃k,DD l k c/\k+2<=f)\/(l.find? (isF c)=none/\syl c=false/\1<=f)
include hw in
theorem yJE {f:Nat} (ih:∀c m,XOk n.aA b m->z3U n.aA f c->∃h,kF f c m n b=some (fu n.aA b c,h)/\XOk n.aA b h) (L:List Int) (hL:L.length<=2000) (Y:∀e∈L,z3U n.aA f e):
  ∀(d i:Nat) (acc:List Int) (m:List (Int×List Int)),L.length-i=d->i<=L.length->acc.length<=64*i->XOk n.aA b m->
   ∃h,zB (λ(x:Int×(List Int)×(List (Int×(List Int))))=>k6 (L,true) (kF f) n b x.1 x.2.1 x.2.2) ((i:Int),acc,m)=some (acc++(L.drop i).flatMap (fu n.aA b),h)/\XOk n.aA b h:=by
 intro d
 induction d with
 | zero=>
  intro i acc m H K O z;refine⟨m,?_,z⟩;refine zD ?_;rw[dE (show L.length<=i by omega)];simp only[k6,yY (show L.length<=i by omega),cP,gQ,ez]
 | succ d D=>
  intro i acc m H K O z;have hi:i<L.length:=by omega
  obtain⟨G,hr,r1⟩:=ih L[i] m z (Y _ (eE hi));have ab:=hw L[i];have T:app acc (fu n.aA b L[i])=some (acc++fu n.aA b L[i]):=jP (by omega);rw[zG (x':=(((i+1:Nat):Int),acc++fu n.aA b L[i],G)) (by
   simp only[k6,yF hi,cQ,zM hi,zA,hr,T,zC (k:=i) (by omega)])]
  obtain⟨m2,Z,q1⟩:=D (i+1) (acc++fu n.aA b L[i]) G (by omega) (by omega) (by rw[cZ];omega) r1
  refine⟨m2,?_,q1⟩;rw[Z,dA hi,ek,dB]
include hd hl hD hw in
theorem yL3:∀(f:Nat) (c:Int) (m:List (Int×List Int)),XOk n.aA b m->z3U n.aA f c->∃K,kF f c m n b=some (fu n.aA b c,K)/\XOk n.aA b K:=by
 intro f
 induction f with
 | zero=>intro c m _ hn;exfalso;rcases hn with ⟨k,_,h⟩ | ⟨_,_,h⟩<;>omega
 | succ f ih=>
  intro c m hm hn;show ∃K,wE (kF f) c m n b=some _/\_;unfold wE;cases hh:zBQ m c with
  | true=>
   obtain⟨v,hv⟩:=gG.1 hh;have hg:mgetD m c []=v:=by unfold mgetD;rw[hv];rfl
   rw[cQ,hg,hm c v hv];exact⟨m,rfl,hm⟩
  | false=>
   rw[cP,yAK hd hl,zA];have O:∀(L:List Int),L.length<=2000->(∀e∈L,z3U n.aA f e)->L.flatMap (fu n.aA b)=fu n.aA b c->∃K,(cond (!((L,true):List Int×Bool).2) (some ([c],m)) ((zB (λ(x:Int×(List Int)×(List (Int×(List Int))))=>k6 (L,true) (kF f) n b x.1 x.2.1 x.2.2) (0,[],m)).bind λ(y1:(List Int)×(List (Int×(List Int))))=>some (y1.1,xY y1.2 c y1.1)))=some (fu n.aA b c,K)/\XOk n.aA b K:=by
    intro L hL ai ah;obtain⟨m1,hq,q1⟩:=yJE hw ih L hL ai L.length 0 [] m (by omega) (by omega) (by simp) hm;rw[et,dS,ah] at hq;have aj:zB (λ(x:Int×(List Int)×(List (Int×(List Int))))=>k6 (L,true) (kF f) n b x.1 x.2.1 x.2.2) (0,[],m)=some (fu n.aA b c,m1):=hq;simp only[dG,cP];rw[aj];refine⟨xY m1 c (fu n.aA b c),rfl,λk v G=>?_⟩;rw[wB] at G;split at G;rename_i hx;cases G;rw[hx];exact q1 k v G
   cases hs:syl c with
   | true=>
    simp only[dH];have H:=zZ9 hd hs;have T:∀e∈hdE c,n.aA.find? (isF e)=none/\syl e=false:=by
     intro e D;obtain⟨Y,Z⟩:=zS8 hs D;refine⟨?_,Y⟩;cases ag:n.aA.find? (isF e) with
     | none=>rfl
     | some m=>obtain⟨q1,rfl⟩:=zFF ag;exact absurd (hd.hk m q1) Z
    refine O (hdE c) (by have:=zNP c;omega) (λe D=>?_) ?_
    obtain⟨Y,Z⟩:=T e D;refine .inr ⟨Y,Z,?_⟩;rcases hn with ⟨k,_,h⟩ | ⟨_,h,_⟩;omega;rw[hs] at h;cases h;have z:fu n.aA b c=hdE c:=by rw[zQR hD,zG8 H]
    rw[z];have:∀L:List Int,(∀e∈L,n.aA.find? (isF e)=none/\syl e=false)->L.flatMap (fu n.aA b)=L:=by
     intro L
     induction L with
     | nil=>intro _;rfl
     | cons x L al=>
      intro h;obtain⟨Y,Z⟩:=h x (by simp);have hx:fu n.aA b x= [x]:=by rw[zQR hD,zG8 Y];show hdE x= [x];unfold hdE;rw[dQ (by simp[Z])]
      rw[ek,hx,al λe D=>h e (by simp[D])];rfl
    exact this _ T
   | false=>
    simp only[dR,cY];cases hf:fnB n.aA b c with
    | none=>
     simp only[Option.getD_none,Option.isSome_none,dO,cQ];refine⟨m,?_,hm⟩;rw[zQR hD,hf];have:hdE c= [c]:=by unfold hdE;rw[dQ (by simp[hs])]
     simp only[this]
    | some to=>
     simp only[gO,Option.isSome_some];obtain⟨mm,z,rfl,_⟩:=zI0 hf;obtain⟨h2,_⟩:=zFF z;refine O mm.To (hd.len mm h2) (λe D=>?_) (by rw[zQR hD c,hf]);rcases hn with ⟨k,G,h⟩ | ⟨h,_,_⟩
     cases k with
     | zero=>have:n.aA.find? (isF c)=none:=G;rw[this] at z;cases z
     | succ k=>exact .inl ⟨k,G mm z e D,by omega⟩
     rw[h] at z;cases z
end
noncomputable def usN (n:Norm):Norm:=open Classical in if VD0 n then n else {aI:=[],aA:=[],aJ:={Ranges:=[]}}
structure GN (n:Norm):Prop where
 ds:DS n.aA
 cv:CV n.aI
 H:∀m∈n.aA,WW n.aA m.aT
 w:∀m∈n.aA,wt n.aA true m.aT<=64
 cl:n.aI.length<=40
 de:n.aA.length<=40
 ok:∀x∈n.aI,b9 x
theorem zXD {n:Norm} (G:NSm n) (D:wV n):GN (usN n):=by
 unfold usN;split;rename_i h;obtain⟨H,K⟩:=(z10 h.ds (by have:=G.de;omega)).1 h.ms
 exact⟨h.ds,h.cv,H,K,G.cl,G.de,D.1.2⟩;exact⟨⟨λk O=>(by cases O),λm z=>(by cases z),λm z=>(by cases z)⟩,yAG,λm z=>(by cases z),λm z=>(by cases z),by simp,by simp,λx T=>by cases T⟩
theorem GN.dd {n:Norm} (h:GN n):∀c,DD n.aA n.aA.length c:=zTB h.ds h.H
theorem GN.len {n:Norm} (h:GN n) (b:Bool) (c:Int):(fu n.aA b c).length<=64:=yI8 h.ds (yI9 h.ds h.H h.w) b c
theorem GN.ex {n:Norm} (h:GN n) {b:Bool} (c:Int) (m:List (Int×List Int)) (z:XOk n.aA b m):∃k,kF 100 c m n b=some (fu n.aA b c,k)/\XOk n.aA b k:=
 yL3 h.ds (by have:=h.de;omega) h.dd (h.len b) 100 c m z (.inl ⟨_,h.dd c,by have:=h.de;omega⟩)
theorem yE6 {n:Norm} (H:NSm n) (z:wV n):uR n=some (usN n):=by obtain⟨e,G,D⟩:=z99 H z;unfold uR usN;rw[G,zA];by_cases k:e=0;rw[dK (D.1 k)];simp[k];rw[dQ (λh=>k (D.2 h))];simp[k]
theorem z0F {f:Int->List Int} {k:Nat} (h:∀e,(f e).length<=k):∀L:List Int,(L.flatMap f).length<=k*L.length
 | []=>by simp
 | x::L=>by have:=z0F h L;have:=h x;rw[ek,cZ,dP,Nat.mul_succ];omega
theorem z6G {n:Norm} (h:GN n) {b:Bool} {text:List Int} (ht:text.length<=2000):∀(d i:Nat) (acc:List Int) (m:List (Int×List Int)),text.length-i=d->i<=text.length->acc.length<=64*i->XOk n.aA b m->
  zB (λ(x:Int×(List Int)×(List (Int×(List Int))))=>j8 text n b x.1 x.2.1 x.2.2) ((i:Int),acc,m)=some (acc++(text.drop i).flatMap (fu n.aA b)):=by
 intro d
 induction d with
 | zero=>
  intro i acc m G H K z;refine zD ?_;rw[dE (show text.length<=i by omega)];simp only[j8,yY (show text.length<=i by omega),cP,gQ,ez]
 | succ d Z=>
  intro i acc m G H K z;have hi:i<text.length:=by omega
  obtain⟨D,T,r1⟩:=h.ex (b:=b) text[i] m z;have Y:=h.len b text[i];have O:app acc (fu n.aA b text[i])=some (acc++fu n.aA b text[i]):=jP (by omega);rw[zG (x':=(((i+1:Nat):Int),acc++fu n.aA b text[i],D)) (by
   simp only[j8,yF hi,cQ,zM hi,zA,T,O,zC (k:=i) (by omega)])]
  rw[Z (i+1) (acc++fu n.aA b text[i]) D (by omega) (by omega) (by rw[cZ];omega) r1,dA hi,ek,dB]
noncomputable def zH1 (n:Norm) (b:Bool) (text:List Int):List Int:=text.flatMap (fu (usN n).aA b)
theorem yE7 {n:Norm} (H:NSm n) (G:wV n) {text:List Int} (K:text.length<=2000) (b:Bool):xI n text b=zAO (usN n).aI (zH1 n b text):=by have h:=zXD H G;unfold xI zBK;have O:uR {aI:=n.aI,aA:=n.aA,aJ:={Ranges:=n.aJ.Ranges}}=some (usN n):=yE6 H G;have z:=z6G h (b:=b) K text.length 0 [] [] (by omega) (by omega) (by simp) (λk v h=>by cases h);rw[et,dS] at z;have D:zB (λ(x:Int×(List Int)×(List (Int×(List Int))))=>j8 text (usN n) b x.1 x.2.1 x.2.2) (0,[],[])=some (zH1 n b text):=z;rw[O,zA,zA,D,zA];cases zAO (usN n).aI (zH1 n b text)<;>rfl
open Go.AV
section
variable (key:Int->Int)
def ltK (a b:Int):Bool:=decide (key a<key b)
def ltC (a b:Int):Bool:=decide (0<key a)&&decide (key a<key b)
def srt (l:List Int):List Int:=uK (ltK key) l []
def csE (l:List Int):List Int:=uK (ltC key) l []
def rsE:List Int->List Int->List Int
 | [],run=>srt key run
 | x::t,run=>if key x=0 then srt key run++x::rsE t [] else rsE t (run++ [x])
end
section
variable {key:Int->Int}
theorem yAL (l:List Int) (x:Int):srt key (l++ [x])=vT (ltK key) (srt key l).reverse x []:=by unfold srt uK;rw[List.foldl_append];rfl
theorem z3V (l:List Int):Flt key l (srt key l):=by have:=zL6 (key:=key) l [];exact this
theorem z3W (l:List Int):(srt key l).length=l.length:=(z3V l).len.symm
theorem z3X {x:Int} (k:0<key x):∀(r q s:List Int),(∀y,q.head? =some y->key y=0)->vT (ltC key) (r++q) x s=q.reverse++vT (ltK key) r x s
 | [],q,s,h=>by
  cases q with
  | nil=>rfl
  | cons y q=>
   have:ltC key x y=false:=by unfold ltC;rw[h y rfl];simp;omega
   show vT (ltC key) (y::q) x s=_;simp only[vT,this,dR,cY]
 | y::r,q,s,h=>by
  have e:ltC key x y=ltK key x y:=by unfold ltC ltK;simp[k]
  show vT (ltC key) (y::(r++q)) x s=q.reverse++vT (ltK key) (y::r) x s;simp only[vT,e];cases ltK key x y with
  | true=>simp only[dH];exact z3X k r q (y::s) h
  | false=>simp
theorem yAM (h:∀x,0<=key x):∀(t run p:List Int),(∀y,p.reverse.head? =some y->key y=0)->uK (ltC key) t (p++srt key run)=p++rsE key t run
 | [],run,p,_=>rfl
 | x::t,run,p,z=>by
  show uK (ltC key) t (vT (ltC key) (p++srt key run).reverse x [])=p++rsE key (x::t) run;by_cases k:key x=0
  ·have e:∀r:List Int,vT (ltC key) r x []=r.reverse++ [x]:=by
    intro r;cases r with
    | nil=>rfl
    | cons y r=>
     have:ltC key x y=false:=by unfold ltC;rw[k];simp
     simp[vT,this]
   have G:=yAM h t [] (p++srt key run++ [x]) (λy D=>by simp at D;rw[<-D];exact k)
   have H:srt key []= []:=rfl;rw[H,ez] at G;rw[e,fN,G];simp[rsE,k]
  ·have K:0<key x:=by have:=h x;omega
   rw[List.reverse_append,z3X K _ _ _ z,fN,<-yAL,yAM h t (run++ [x]) p z];simp[rsE,k]
theorem yJH (h:∀x,0<=key x) (t:List Int):csE key t=rsE key t []:=by have:=yAM h t [] [] (λy k=>by cases k);exact this
theorem yAN (t:List Int):(csE key t).Perm t:=by have:=zJX (ltC key) t [];rw[dS] at this;exact this
theorem yE8 (t:List Int):(csE key t).length=t.length:=(yAN t).length_eq
theorem z0G {f:List Int->Option (List Int)} {P run T r:List Int} (h:0<run.length) (G:f run=some r):zJ7 f (P++run++T) (P.length:Int) ((P.length+run.length:Nat):Int)=some (P++r++T):=by
 unfold zJ7;have a1:((P.length:Int)).toNat=P.length:=by simp
 have a2:(((P.length+run.length:Nat):Int)).toNat=P.length+run.length:=by omega
 rw[a1,a2,dK ⟨by omega,by omega,by rw[cZ,cZ];omega⟩]
 have D:((P++run++T).drop P.length).take (P.length+run.length-P.length)=run:=by
  rw[dB,List.drop_left,show P.length+run.length-P.length=run.length by omega,gN]
 have k:(P++run++T).take P.length=P:=by rw[dB,gN]
 have z:(P++run++T).drop (P.length+run.length)=T:=by rw[<-cZ,List.drop_left]
 rw[D,k,z,G];rfl
theorem z3Y {f:List Int->Option (List Int)} {st:Int->Bool} (k:∀x,st x=decide (key x=0)) (H:∀l,l.length<=2000->f l=some (srt key l)):∀(t run P:List Int) (s:Int),P.length+run.length+t.length<=2000->(run= []/\s= -1\/run≠[]/\s=(P.length:Int))->
  uX f Range.Lo Range.Hi (P++run++t) (j9 st t ((P.length+run.length:Nat):Int) s)=some (P++rsE key t run)
 | [],run,P,s,Z,O=>by
  rcases O with ⟨rfl,rfl⟩ | ⟨D,rfl⟩
  ·simp only[j9,show ¬(0:Int)<= -1 by decide,cY]
   show some (P++ []++ [])=some (P++ []);simp
  ·have G:(0:Int)<=(P.length:Int):=by omega
   simp only[j9,G,dH];have h:0<run.length:=e6.2 D;show (some (P++run++ [])).bind (λl=>zJ7 f l (P.length:Int) ((P.length+run.length:Nat):Int))=_;rw[zA,z0G h (H run (by simp at Z;omega))]
   simp[rsE]
 | x::t,run,P,s,Z,O=>by
  have aa:P.length+run.length+t.length+1<=2000:=by simp only[dP] at Z;omega
  by_cases G:key x=0
  ·have z:st x=true:=by rw[k];simp[G]
   rcases O with ⟨rfl,rfl⟩ | ⟨D,rfl⟩
   ·have e:j9 st (x::t) ((P.length+([]:List Int).length:Nat):Int) (-1)=j9 st t (((P++ [x]).length+([]:List Int).length:Nat):Int) (-1):=by
     simp only[j9,z];simp
    have K:=z3Y k H t [] (P++ [x]) (-1) (by simp only[cZ,gW,d6];simp at aa;omega) (.inl ⟨rfl,rfl⟩)
    rw[e,show P++ []++x::t=P++ [x]++ []++t by simp,K];have e2:srt key []= []:=rfl;simp[rsE,G,e2]
   ·have Y:(0:Int)<=(P.length:Int):=by omega
    have h:0<run.length:=e6.2 D;have e:j9 st (x::t) ((P.length+run.length:Nat):Int) (P.length:Int)= {Lo:=(P.length:Int),Hi:=((P.length+run.length:Nat):Int)}::j9 st t (((P++srt key run++ [x]).length+([]:List Int).length:Nat):Int) (-1):=by
     have T:(((P++srt key run++ [x]).length+([]:List Int).length:Nat):Int)=((P.length+run.length:Nat):Int)+1:=by simp[z3W];omega
     rw[T];simp only[j9,z,dG,dV,dR,cY,dT,Y,dD,dH]
    have K:=z3Y k H t [] (P++srt key run++ [x]) (-1) (by simp[z3W];omega) (.inl ⟨rfl,rfl⟩)
    have e4:zJ7 f (P++run++x::t) (P.length:Int) ((P.length+run.length:Nat):Int)=some (P++srt key run++ [x]++ []++t):=by
     rw[z0G h (H run (by omega))];simp
    have e5:uX f Range.Lo Range.Hi (P++run++x::t) ({Lo:=(P.length:Int),Hi:=((P.length+run.length:Nat):Int)}::j9 st t (((P++srt key run++ [x]).length+([]:List Int).length:Nat):Int) (-1))=uX f Range.Lo Range.Hi (P++srt key run++ [x]++ []++t) (j9 st t (((P++srt key run++ [x]).length+([]:List Int).length:Nat):Int) (-1)):=by
     unfold uX;rw[ia,zA,e4]
    rw[e,e5,K];simp[rsE,G]
  ·have z:st x=false:=by rw[k];simp[G]
   have e:j9 st (x::t) ((P.length+run.length:Nat):Int) s=j9 st t ((P.length+(run++ [x]).length:Nat):Int) (P.length:Int):=by
    have T:((P.length+(run++ [x]).length:Nat):Int)=((P.length+run.length:Nat):Int)+1:=by simp;omega
    rw[T];rcases O with ⟨rfl,rfl⟩ | ⟨D,rfl⟩
    ·simp[j9,z]
    ·have:¬((P.length:Int)<0):=by omega
     simp only[j9,z,dO,dT,this,dI,dR,cY,dV]
   have K:=z3Y k H t (run++ [x]) P (P.length:Int) (by simp;omega) (.inr ⟨by simp,rfl⟩)
   rw[e,show P++run++x::t=P++(run++ [x])++t by simp,K];simp[rsE,G]
end
theorem yAO {l:List bJ} (h:CV l) (k:l.length<=2000) (x y:Int):wP x y l=some (sg (clE l x) (clE l y)):=by unfold wP;simp only[zG7 h k,zA,z59];unfold sg;rfl
theorem yJI {l:List bJ} (h:CV l) (z:l.length<=2000) (G:∀x∈l,b9 x) {text:List Int} (H:text.length<=2000):zAO l text=some (csE (clE l) text):=by
 have D:∀x,0<=clE l x:=yL2 h;unfold zAO zAI;have k:∀x,(kV l x==some 0)=decide (clE l x=0):=λx=>by rw[zG7 h z];by_cases O:clE l x=0<;>simp[O]
 rw[zVM z G h,zA,yIX H,zA,zZ6 h z H k rfl,zA];have:=z3Y (key:=clE l) (f:=λp=>kR p (λx0 x1=>wP x0 x1 l)) (st:=λc=>kV l c==some 0) k (λp K=>by
  obtain⟨r,T,Y,Z⟩:=z6F (key:=clE l) (f:=λx0 x1=>wP x0 x1 l) (λx y=>yAO h z x y) p K;rw[T];have:=z0B (key:=clE l) Y (zP1 (key:=clE l) p) (Z.symm.trans (z3V p));rw[this];rfl) text [] [] (-1) (by simpa using H) (.inl ⟨rfl,rfl⟩)
 rw[yJH D];exact this
noncomputable def zBG (n:Norm) (b:Bool) (text:List Int):List Int:=csE (clE (usN n).aI) (zH1 n b text)
theorem zG9 (n:Norm) (b:Bool) (text:List Int):(zBG n b text).length=(zH1 n b text).length:=yE8 _
theorem z6H {n:Norm} (k:NSm n) (h:wV n) (b:Bool) (text:List Int):(zH1 n b text).length<=64*text.length:=z0F ((zXD k h).len b) text
theorem zTE {n:Norm} (z:NSm n) (k:wV n) {text:List Int} {b:Bool} (G:text.length<=2000) (D:(zH1 n b text).length<=2000):xI n text b=some (zBG n b text):=by
 have h:=zXD z k;rw[yE7 z k G,yJI h.cv (by have:=h.cl;omega) h.ok D]
 rfl
open Go.AV
noncomputable def wkE (c:Collation) (l:List bJ):Nat->List Int->List aK×Bool
 | 0,_=>([],true)
 | k+1,text=>if text= [] then ([],true) else ((stE c l text).2.2++(wkE c l k (stE c l text).2.1).1,decide (uD (yL c).aB text≠0)&&(wkE c l k (stE c l text).2.1).2)
theorem yAP {c:Collation} {l:List bJ} {text:List Int} (D:text≠[]):1<=(stE c l text).1/\(stE c l text).1+((stE c l text).2.1.length:Int)=(text.length:Int):=by have z:0<text.length:=e6.2 D;unfold stE;split;refine⟨by simp,?_⟩;show (1:Int)+((text.drop 1).length:Int)=_;rw[eM];omega;rename_i G;have k:uD (yL c).aB text<=text.length:=zO1 _ _;have h:=zO2 (fd:=λq=>(zCD (yL c).aB q).2) (cl:=clE l) (text.drop (uD (yL c).aB text)) (text.take (uD (yL c).aB text)) [] 0;generalize zC0 (λq=>(zCD (yL c).aB q).2) (clE l) (text.drop (uD (yL c).aB text)) (text.take (uD (yL c).aB text)) [] 0=q at*;obtain⟨i1,i2,_⟩:=h;rw[d9,gV k] at i1 i2;rw[eM] at i2;simp only[d6] at i2;constructor;show (1:Int)<=(q.1.length:Int);omega;show (q.1.length:Int)+(q.2.length:Int)=_;omega
theorem zVS {c:Collation} {l:List bJ} {text:List Int} (h:text≠[]):(stE c l text).2.1.length<text.length:=by have:=yAP (c:=c) (l:=l) h;omega
theorem yAQ {c:Collation} (h:Sm c) {l:List bJ} (text:List Int):(stE c l text).2.2.length<=2000:=by unfold stE;split;exact yEO _ _;exact yEN (zW3 h) _
theorem z3Z {c:Collation} {l:List bJ}:∀(k j:Nat) (text:List Int),text.length<=k->text.length<=j->wkE c l k text=wkE c l j text
 | 0,j,text,h,_=>by
  have:text= []:=cS (by omega);subst this;cases j with
  | zero=>rfl
  | succ j=>simp[wkE]
 | k+1,j,text,h,H=>by
  by_cases z:text= [];subst z;cases j<;>simp[wkE];have D:0<text.length:=e6.2 z;cases j with
  | zero=>omega
  | succ j=>
   have G:=zVS (c:=c) (l:=l) z;simp only[wkE,z,cY];rw[z3Z k j _ (by omega) (by omega)]
noncomputable def wk (c:Collation) (l:List bJ) (text:List Int):List aK×Bool:=wkE c l text.length text
theorem zLN (c:Collation) (l:List bJ):wk c l []=([],true):=rfl
theorem zRN {c:Collation} {l:List bJ} {text:List Int} (h:text≠[]):wk c l text=((stE c l text).2.2++(wk c l (stE c l text).2.1).1,decide (uD (yL c).aB text≠0)&&(wk c l (stE c l text).2.1).2):=by
 have D:=zVS (c:=c) (l:=l) h;unfold wk;obtain⟨k,z⟩:∃k,text.length=k+1:=⟨text.length-1,by have:=e6.2 h;omega⟩
 rw[z];simp only[wkE,h,cY];rw[z3Z k (stE c l text).2.1.length _ (by omega) (by omega)]
theorem yJJ {c:Collation} (G:Sm c) {l:List bJ}:∀(k:Nat) (text:List Int),text.length<=k->(wk c l text).1.length<=2000*text.length:=by
 intro k
 induction k with
 | zero=>
  intro text h;have:text= []:=cS (by omega);subst this;rw[zLN];simp
 | succ k H=>
  intro text h;by_cases z:text= [];subst z;rw[zLN];simp;have D:=zVS (c:=c) (l:=l) z;have K:=H _ (show (stE c l text).2.1.length<=k by omega);have O:=yAQ G (l:=l) text;rw[zRN z];show ((stE c l text).2.2++(wk c l (stE c l text).2.1).1).length<=_;rw[cZ];omega
section
variable {c:Collation} (hs:Sm c) {l:List bJ} (hcv:CV l) (hl:l.length<=2000)
include hs hcv hl
theorem yFA:∀(k:Nat) (text:List Int) (acc:List aK),text.length<=k->text.length<=2000->acc.length+2000*text.length<=100000000->zB (λ(x:(List aK)×(List Int))=>jZ (zLL c l) x.1 x.2) (acc,text)=some (acc++(wk c l text).1):=by
 intro k
 induction k with
 | zero=>
  intro text acc h _ _;have:text= []:=cS (by omega);subst this;refine zD ?_;simp[jZ,zLN]
 | succ k T=>
  intro text acc h O ha;by_cases z:text= [];subst z;refine zD ?_;simp[jZ,zLN];have D:0<text.length:=e6.2 z;have K:=zVS (c:=c) (l:=l) z;have h2:=yAQ hs (l:=l) text;obtain⟨aa,Y,Z⟩:=yAJ hs hcv hl O z;have G:decide ((0:Int)<(text.length:Int))=true:=by simp;omega
  have H:app acc (stE c l text).2.2=some (acc++(stE c l text).2.2):=jP (by omega);rw[zG (x':=(acc++(stE c l text).2.2,(stE c l text).2.1)) (by simp only[jZ,G,cQ,Y,zA,H,Z])];rw[T _ _ (by omega) (by omega) (by rw[cZ];omega),zRN z,dB]
end
theorem zTF (n:Norm):xM n=(usN n).aI:=by unfold xM usN;split<;>rfl
section
variable {n:Norm} {c:Collation} (hn:NSm n) (hok:wV n) (hs:Sm c) (hg:∀g∈c.aE,g.bT.length<=MX) {text:List Int} (ht:text.length<=2000) (hf:(zH1 n false text).length<=2000)
include hn hok hs hg ht hf
theorem zQS:kY n c text=some (wk c (xM n) (zBG n false text)).1:=by
 unfold kY;have k:(xM n).length<=2000:=by have:=zP2 hn;omega
 have h:(zBG n false text).length<=2000:=by rw[zG9];exact hf
 rw[yEK hs hg,zA,yE5 hn hok,zA,zTE hn hok ht hf,zA,yFA hs (z0E n) k _ _ [] (dF _) h (by simp;omega)]
 rfl
end
theorem z13 {n:Norm} {c:Collation} (h:Sm c) {text:List Int} (k:(zBG n false text).length<=2000):(wk c (xM n) (zBG n false text)).1.length<=1000000000:=by have:=yJJ h (l:=xM n) _ (zBG n false text) (dF _);omega
open Go.AV
open Go.AV
open Go.AV
theorem yL4 (z:List bJ) (D:Nat) (hv:D<z.length) (H:List Range) (T:H= [{Lo:=4352,Hi:=4370},{Lo:=4449,Hi:=4469},{Lo:=4520,Hi:=4546},{Lo:=44032,Hi:=55203}]):
  (zB (λ(x:Int)=>zBB H z (D:Int) x) 0=some (.inl ())/\hgOk (nth z D))\/(zB (λ(x:Int)=>zBB H z (D:Int) x) 0=some (.inr 11)/\¬hgOk (nth z D)):=by
 have h:=kD (body:=λ(x:Int)=>zBB H z (D:Int) x) H.length (λk=> ¬((nth z D).Lo<=(nth H k).Hi/\(nth H k).Lo<=(nth z D).Hi)) (λy=>y=11) (λk K=>by
  have hl:H.length=4:=by rw[T];rfl
  simp only[zBB,yF K,cQ,zO hv,zO K,zA,zF,zC (k:=k) (by omega)];by_cases G:(nth z D).Lo<=(nth H k).Hi
  ·simp only[G,dD,j7,zA,dT,true_and]
   exact wC (by simp) rfl
  ·simp only[G,dI,wJ,zA,dV,cP,false_and]
   exact .inl ⟨by simp,trivial⟩) (λk K=>by simp only[zBB,yY K,cP])
 have e:(∀j,j<H.length->¬((nth z D).Lo<=(nth H j).Hi/\(nth H j).Lo<=(nth z D).Hi))↔hgOk (nth z D):=by
  subst T;unfold hgOk;constructor
  ·intro h;exact⟨h 0 (by decide),h 1 (by decide),h 2 (by decide),h 3 (by decide)⟩
  ·rintro⟨Y,G,Z,h3⟩ j hj
   have O:j<4:=hj
   match j,O with
   | 0,_=>exact Y
   | 1,_=>exact G
   | 2,_=>exact Z
   | 3,_=>exact h3
 rw[e] at h;rcases h with h | ⟨y,rfl,h⟩
 ·exact .inl h
 ·exact .inr h
theorem yAR {l:List bJ} (hl:l.length<=2000):Ver (zHR l) (CV l):=by
 have O:=kD (body:=λ(x:Int)=>zD2 l x) l.length (λk=>spOk (nth l k)) (λy=>y≠0) (λk z=>by
  simp only[zD2,yF z,cQ,zO z,zA,zF,zDW,zC (k:=k) (by omega),spOk,vld];generalize nth l k=q;by_cases G:0<=q.Lo<;>by_cases H:q.Lo<=1114111<;>by_cases h3:0<=q.Hi<;>by_cases h4:q.Hi<=1114111<;>by_cases h5:q.Hi<q.Lo<;>by_cases h6:q.Value<1<;>by_cases h7:254<q.Value<;>simp[G,H,h3,h4,h5,h6,h7,j7,wJ,zA]<;>omega) (λk z=>by simp only[zD2,yY z,cP])
 unfold zHR Ver;rcases O with ⟨O,K⟩ | ⟨y,T,O,K⟩
 rw[O];simp only[zA,eQ];have G:=zL2 (body:=λ(x:Int)=>zD3 l x) l.length (λk=>adOk (nth l k) (nth l (k+1))) (λy=>y≠0) (λk z=>by
  have D:k<l.length:=by omega
  have w:=(K k D).2.1;have w0:=(K k D).1;have w1:=(K k D).2.2.1;simp only[zD3,yF z,cQ,zO z,zA,zF,zC (k:=k+1) (by omega),zCA (k:=k) (by omega),zO D];by_cases a1:(nth l (k+1)).Lo<=(nth l k).Hi;simp only[a1,dD,dG,wJ,zA,dV,gS,cQ];exact .inr ⟨by unfold adOk;omega,4,by decide,rfl⟩
  simp only[a1,dI,dO,j7,zA,dT,fa];rw[xN (n:=(nth l k).Hi+1) (by omega) (by omega)];by_cases a2:(nth l (k+1)).Lo=(nth l k).Hi+1;simp only[a2,dD,j7,zA,dT];exact wC (by unfold adOk;simp only[c8];omega) (by decide)
  simp only[a2,dI,wJ,zA,dV,cP];exact .inl ⟨by unfold adOk;omega,trivial⟩) (λk z=>by simp only[zD3,yY z,cP])
 rcases G with ⟨G,Y⟩ | ⟨y,T,G,Y⟩;rw[G];simp only[zA,eQ,zOK];have H:=kD (body:=λ(x:Int)=>zD4 l [{Lo:=4352,Hi:=4370},{Lo:=4449,Hi:=4469},{Lo:=4520,Hi:=4546},{Lo:=44032,Hi:=55203}] x) l.length (λk=>hgOk (nth l k)) (λy=>y≠0) (λk z=>by
  simp only[zD4,yF z,cQ,zC (k:=k) (by omega)];rcases yL4 l k z _ rfl with ⟨h,p⟩ | ⟨h,p⟩
  rw[h];exact .inl ⟨p,rfl⟩;rw[h];exact .inr ⟨p,11,by decide,rfl⟩) (λk z=>by simp only[zD4,yY z,cP])
 rcases H with ⟨H,Z⟩ | ⟨y,T,H,Z⟩;rw[H];exact⟨0,rfl,by simp only[true_iff];exact⟨K,Y,Z⟩⟩
 rw[H];exact⟨y,rfl,by simp only[T,eV];exact λh=>Z h.hg⟩
 rw[G];exact⟨y,rfl,by simp only[T,eV];exact λh=>Y h.ad⟩
 rw[O];exact⟨y,rfl,by simp only[T,eV];exact λh=>K h.sp⟩
theorem zHA {l:List bJ} (T:l.length<=2000) (h:CV l) (c:Int):zCJ l c=some (clE l c):=by
 obtain⟨e,K,Y⟩:=yAR T;unfold zCJ;rw[K,zA,Y.2 h];simp only[dD,dG,cP];have hb:∀k,k<l.length->u3 l c (k:Int)=if zQ9 c (nth l k) then some (.done (.inr (nth l k).Value)) else some (.next ((k+1:Nat):Int)):=λk z=>by
  simp only[u3,yF z,cQ,zO z,zA,zF,zC (k:=k) (by omega),zQ9];by_cases D:(nth l k).Lo<=c
  · by_cases H:c<=(nth l k).Hi<;>simp[D,H,j7]
  · simp[D,wJ]
 have key:∀(d k:Nat),l.length-k=d->k<=l.length->(∀j,j<k->zQ9 c (nth l j)=false)->(zB (λ(x:Int)=>u3 l c x) (k:Int)).bind (λy=>y.elim (λ_=>some 0) λy=>some y)=some (clE l c):=by
  intro d
  induction d with
  | zero=>
   intro k D H G;have:k=l.length:=by omega
   subst this;rw[zD (y:= .inl ()) (by simp only[u3,yY (dF _),cP])];unfold clE;rw[zW8 G];rfl
  | succ d Z=>
   intro k D H G;have z:k<l.length:=by omega
   cases hi:zQ9 c (nth l k) with
   | true=>
    rw[zD (y:= .inr (nth l k).Value) (by show u3 l c (k:Int)=_;rw[hb k z,hi];rfl)]
    unfold clE;rw[zOZ z G hi];rfl
   | false=>
    rw[zG (x':=((k+1:Nat):Int)) (by show u3 l c (k:Int)=_;rw[hb k z,hi];rfl)]
    refine Z (k+1) (by omega) (by omega) λj O=>?_;by_cases e:j=k
    · subst e;exact hi
    · exact G j (by omega)
 exact key l.length 0 (by omega) (by omega) (λj O=>by omega)
theorem zNS {l:List bJ} (k:l.length<=2000) (h:CV l) (c:Int):zH9 l c=some (decide (clE l c=0)):=by unfold zH9;rw[zHA k h];rfl
open Go.AV
theorem yJK {a b c:aC} (k:mlt a b) (h:mlt b c):mlt a c:=by
 unfold mlt at*;rcases k with k | ⟨k,D⟩
 rcases h with h | ⟨h,z⟩;exact .inl (by omega);exact .inl (by omega);rcases h with h | ⟨h,z⟩;exact .inl (by omega);exact .inr ⟨by omega,List.lt_trans D z⟩
theorem yFB {a b:aC} (h:mlt a b):¬(a.aT=b.aT/\a.bO=b.bO):=by
 rintro⟨z,k⟩
 unfold mlt at h;rcases h with h | ⟨_,h⟩
 omega;rw[k] at h;exact List.lt_irrefl _ h
theorem z30 {l:List aC} (h:∀k,k+1<l.length->mlt (nth l k) (nth l (k+1))):∀(d i:Nat),i+d+1<l.length->mlt (nth l i) (nth l (i+d+1))
 | 0,i,hi=>h i hi
 | d+1,i,hi=>by
  have z:=z30 h d i (by omega);have D:=h (i+d+1) (by omega);have:i+(d+1)+1=i+d+1+1:=by omega
  rw[this];exact yJK z D
theorem yL5 (x y:Str):(x==y)=decide (x=y):=by rw[gD];simp
section
variable {l:List aC} (hl:l.length<=2000) (hto:∀m∈l,m.To.length<=2000) (htg:∀m∈l,m.bO.length<=MX)
include hl hto htg
omit hl hto htg in
theorem yAS {m:aC} (D:m.To.length<=2000):∃b,zK2 m=some b/\(b=true↔codesOk m):=by
 unfold zK2;have h:=kD (body:=λ(x:Int)=>zD5 m x) m.To.length (λj=>vld (nth m.To j)=true) (λy=>y=false) (λj z=>by
  simp only[zD5,yF z,cQ,zO z,zA,zDW,zC (k:=j) (by omega)];exact wC (by simp) rfl) (λj z=>by simp only[zD5,yY z,cP])
 rw[u6 (p:=λc=>vld c=true)] at h;rcases h with ⟨h,p⟩ | ⟨y,rfl,h,p⟩
 rw[h];simp only[zA,eQ,zDW];exact⟨_,rfl,⟨λa=>⟨a,p⟩,λa=>a.1⟩⟩;rw[h];exact⟨false,rfl,by simp only[dR,eV];exact λa=>p a.2⟩
omit hto htg in
theorem yAT:∃b,zK3 l=some b/\(b=true->¬∀k,k+1<l.length->mlt (nth l k) (nth l (k+1)))/\(b=false->True):=by
 unfold zK3;have inner:∀i,i<l.length->(zB (λ(x:Int)=>zBC (i:Int) l x) 0=some (.inl ())/\∀j,j<i->¬((nth l i).aT=(nth l j).aT/\(nth l i).bO=(nth l j).bO))\/(∃y,y=true/\zB (λ(x:Int)=>zBC (i:Int) l x) 0=some (.inr y)/\¬∀j,j<i->¬((nth l i).aT=(nth l j).aT/\(nth l i).bO=(nth l j).bO)):=by
  intro i hi;refine kD (body:=λ(x:Int)=>zBC (i:Int) l x) i _ (λy=>y=true) (λj z=>?_) (λj z=>by simp only[zBC,yY z,cP]);have D:j<l.length:=by omega
  simp only[zBC,yF z,cQ,zO hi,zO D,zA,zF,zC (k:=j) (by omega),yL5];by_cases a:(nth l i).aT=(nth l j).aT;simp only[a,dD,j7,zA,dT,true_and];exact wC (by simp) rfl;simp only[a,dI,wJ,zA,dV,cP,false_and];exact .inl ⟨by simp,trivial⟩
 have h:=kD (body:=λ(x:Int)=>zD6 l x) l.length (λi=> ∀j,j<i->¬((nth l i).aT=(nth l j).aT/\(nth l i).bO=(nth l j).bO)) (λy=>y=true) (λk G=>by
  simp only[zD6,yF G,cQ,zC (k:=k) (by omega)];rcases inner k G with ⟨h,p⟩ | ⟨y,K,h,p⟩
  rw[h];exact .inl ⟨p,rfl⟩;rw[h];exact .inr ⟨p,y,K,rfl⟩) (λj z=>by simp only[zD6,yY z,cP])
 rcases h with ⟨h,p⟩ | ⟨y,rfl,h,p⟩;rw[h];exact⟨false,rfl,λh=>(by cases h),λ_=>trivial⟩;rw[h];refine⟨true,rfl,λ_ H=>p λi hi j z=>?_,λ_=>trivial⟩;have:=z30 H (i-j-1) j (by omega);rw[show j+(i-j-1)+1=i by omega] at this;have:=yFB this;exact λ⟨a,b⟩=>this ⟨a.symm,b.symm⟩
theorem yJL:∃e,zGX l=some e/\(e=0->(∀m∈l,codesOk m)/\(∀m∈l,m.To.length<=64)/\∀m∈l,tagOk m)/\(e≠0->¬MV l):=by
 unfold zGX;have D:=kD (body:=λ(x:Int)=>zB5 l x) l.length (λk=>codesOk (nth l k)) (λy=>y≠0) (λk z=>by
  obtain⟨b,hb,O⟩:=yAS (hto _ (wK z));simp only[zB5,yF z,cQ,zO z,zA,hb,zC (k:=k) (by omega)];exact wC (by rw[<-O];simp) (by decide)) (λk z=>by simp only[zB5,yY z,cP])
 rw[u6 (p:=codesOk)] at D;rcases D with ⟨D,T⟩ | ⟨y,K,D,T⟩
 case inr=>rw[D];exact⟨y,rfl,λh=>absurd h K,λ_ h=>T h.co⟩
 rw[D];simp only[zA,eQ];have G:=kD (body:=λ(x:Int)=>zB6 l x) l.length (λk=>(nth l k).To.length<=64) (λy=>y≠0) (λk z=>by
  simp only[zB6,yF z,cQ,zO z,zA,zC (k:=k) (by omega)];exact wC (by simp only[c8];omega) (by decide)) (λk z=>by simp only[zB6,yY z,cP])
 rw[u6 (p:=λ(m:aC)=>m.To.length<=64)] at G;rcases G with ⟨G,Y⟩ | ⟨y,K,G,Y⟩
 case inr=>rw[G];exact⟨y,rfl,λh=>absurd h K,λ_ h=>Y h.sz⟩
 rw[G];simp only[zA,eQ];have H:=kD (body:=λ(x:Int)=>zB7 l x) l.length (λk=>tagOk (nth l k)) (λy=>y≠0) (λk z=>by
  simp only[zB7,yF z,cQ,zO z,zA,zF,zC (k:=k) (by omega),tagOk,yL5];by_cases ht:(nth l k).bO= []
  ·
   simp only[ht,dD,dG,wJ,zA,dV,cP];exact .inl ⟨.inl trivial,trivial⟩
  ·
   simp only[ht,dI,dO,j7,zA,z3D (htg _ (wK z)),dT,false_or];exact wC (by simp) (by decide)) (λk z=>by simp only[zB7,yY z,cP])
 rw[u6 (p:=tagOk)] at H;rcases H with ⟨H,Z⟩ | ⟨y,K,H,Z⟩
 case inr=>rw[H];exact⟨y,rfl,λh=>absurd h K,λ_ h=>Z h.tg⟩
 rw[H];simp only[zA,eQ];obtain⟨b,hb,O,_⟩:=yAT hl;rw[hb,zA];cases b with
 | true=>exact⟨5,rfl,λh=>absurd h (by decide),λ_ h=>O rfl h.lt⟩
 | false=>exact⟨0,rfl,λ_=>⟨T,Y,Z⟩,λh=>absurd rfl h⟩
theorem yJM:Ver (zK4 l) (MV l):=by
 obtain⟨e,Y,O,T⟩:=yJL hl hto htg;unfold zK4;rw[Y,zA];by_cases D:e=0
 case neg=>
  have:(!decide (e=0))=true:=by simp[D]
  rw[this,cQ];exact⟨e,rfl,by simp only[D,eV];exact T D⟩
 obtain⟨p0,p1,p2⟩:=O D;rw[D];simp only[dD,dG,cP];have z:=zL2 (body:=λ(x:Int)=>zD7 l x) l.length (λk=>mlt (nth l k) (nth l (k+1))) (λy=>y≠0) (λk G=>by
  have H:k<l.length:=by omega
  simp only[zD7,yF G,cQ,zO G,zA,zC (k:=k+1) (by omega),zCA (k:=k) (by omega),zO H,zOL,zF,z9Y];exact wC (by unfold mlt;simp only[fW,fC,eA,dC,not_or,Classical.not_and_iff_not_or_not]) (by decide)) (λk G=>by simp only[zD7,yY G,cP])
 rcases z with ⟨z,K⟩ | ⟨y,Z,z,K⟩
 · rw[z];exact⟨0,rfl,by simp only[true_iff];exact⟨p0,p1,p2,K⟩⟩
 · rw[z];exact⟨y,rfl,by simp only[Z,eV];exact λh=>K h.lt⟩
end
open Go.AV
section
variable {β:Type} [Inhabited β] (upd:List β->Nat->β)
def zO3:Nat->Nat->List β->List β
 | 0,_,h=>h
 | d+1,i,h=>zO3 d (i+1) (h.set i (upd h i))
def zHB (n:Nat):Nat->List β->List β
 | 0,h=>h
 | k+1,h=>zHB n k (zO3 upd n 0 h)
end
section
variable {β:Type} [Inhabited β] {upd:List β->Nat->β} {n:Nat} {Inv:List β->Prop}
theorem zRO {k:List β} {i j:Nat} {x: β} (hi:i<k.length):nth (k.set i x) j=if j=i then x else nth k j:=by unfold nth;rw[fG,fG,ii];by_cases h:i=j;subst h;simp[hi];rw[dQ h,dQ (λe=>h e.symm)]
theorem yFC {h:List β} {i:Nat} (hi:i<h.length):h.set i (nth h i)=h:=by rw[u9 hi];simp
omit [Inhabited β] in
theorem zRP:∀(d i:Nat) (h:List β),(zO3 upd d i h).length=h.length
 | 0,_,_=>rfl
 | d+1,i,h=>by rw[zO3,zRP d];simp
omit [Inhabited β] in
theorem zRQ (hi:∀i k,i<n->k.length=n->Inv k->Inv (k.set i (upd k i))):∀(d i:Nat) (k:List β),i+d=n->k.length=n->Inv k->Inv (zO3 upd d i k)
 | 0,_,_,_,_,h=>h
 | d+1,i,k,D,z,h=>by
  rw[zO3];exact zRQ hi d (i+1) _ (by omega) (by simp[z]) (hi i k (by omega) z h)
omit [Inhabited β] in
theorem zXE (hi:∀i z,i<n->z.length=n->Inv z->Inv (z.set i (upd z i))):∀(k:Nat) (z:List β),z.length=n->Inv z->Inv (zHB upd n k z)/\(zHB upd n k z).length=n
 | 0,_,D,h=>⟨h,D⟩
 | k+1,z,D,h=>by
  rw[zHB];exact zXE hi k _ (by rw[zRP,D]) (zRQ hi n 0 z (by omega) D h)
theorem yAU {R R':Nat->Prop} {t:Nat->β} (T:∀j,R j->R' j) (hi:∀i k,i<n->k.length=n->Inv k->Inv (k.set i (upd k i)))
  (Y:∀k i,i<n->k.length=n->Inv k->(∀j,j<n->R j->nth k j=t j)->R' i->upd k i=t i):
  ∀(d i:Nat) (k:List β),i+d=n->k.length=n->Inv k->(∀j,j<n->R j->nth k j=t j)->(∀j,j<i->R' j->nth k j=t j)->∀j,j<n->R' j->nth (zO3 upd d i k) j=t j
 | 0,i,k,hd,H,h,K,O,j,G,z=>O j (by omega) z
 | d+1,i,k,hd,H,h,K,O,j,G,z=>by
  have D:i<n:=by omega
  have Z:R' i->upd k i=t i:=Y k i D H h K;rw[zO3];refine yAU T hi Y d (i+1) _ (by omega) (by simp[H]) (hi i k D H h) (λj G z=>?_) (λj G z=>?_) j G z
  ·rw[zRO (by omega)]
   split
   ·rename_i e;subst e;exact Z (T _ z)
   ·exact K j G z
  ·rw[zRO (by omega)]
   split
   ·rename_i e;subst e;exact Z z
   ·exact O j (by omega) z
theorem zXF {R:Nat->Nat->Prop} {t:Nat->β} (K:∀r j,R r j->R (r+1) j) (hi:∀i z,i<n->z.length=n->Inv z->Inv (z.set i (upd z i)))
  (O:∀r z i,i<n->z.length=n->Inv z->(∀j,j<n->R r j->nth z j=t j)->R (r+1) i->upd z i=t i):
  ∀(k r:Nat) (z:List β),z.length=n->Inv z->(∀j,j<n->R r j->nth z j=t j)->∀j,j<n->R (r+k) j->nth (zHB upd n k z) j=t j
 | 0,_,_,_,_,h,j,D,H=>h j D H
 | k+1,r,z,G,h,T,j,D,H=>by
  rw[zHB];have:=yAU (R:=R r) (R':=R (r+1)) (K r) hi (O r) n 0 z (by omega) G h T (λj D=>by omega);refine zXF K hi O k (r+1) _ (by rw[zRP,G]) (zRQ hi n 0 z (by omega) G h) this j D ?_;rw[show r+1+k=r+(k+1) by omega];exact H
omit [Inhabited β] in
theorem zO4 {X Y:Type} (mk:Nat->List β->X) {body:X->Option (Stp X Y)} (z:List β->Y)
  (hb:∀i k,i<n->k.length=n->Inv k->body (mk i k)=some (.next (mk (i+1) (k.set i (upd k i)))))
  (hi:∀i k,i<n->k.length=n->Inv k->Inv (k.set i (upd k i)))
  (G:∀k,body (mk n k)=some (.done (z k))):∀(d i:Nat) (k:List β),i+d=n->k.length=n->Inv k->zB body (mk i k)=some (z (zO3 upd d i k))
 | 0,i,k,H,D,h=>by
  have:i=n:=by omega
  subst this;exact zD (G k)
 | d+1,i,k,H,D,h=>by
  rw[zG (hb i k (by omega) D h),zO3];exact zO4 mk z hb hi G d (i+1) _ (by omega) (by simp[D]) (hi i k (by omega) D h)
omit [Inhabited β] in
theorem zO5 {X Y:Type} (mk:Nat->List β->X) {body:X->Option (Stp X Y)} (D:List β->Y) {N:Nat}
  (hb:∀r z,r<N->z.length=n->Inv z->body (mk r z)=some (.next (mk (r+1) (zO3 upd n 0 z))))
  (hi:∀i z,i<n->z.length=n->Inv z->Inv (z.set i (upd z i)))
  (H:∀z,body (mk N z)=some (.done (D z))):∀(k r:Nat) (z:List β),r+k=N->z.length=n->Inv z->zB body (mk r z)=some (D (zHB upd n k z))
 | 0,r,z,K,G,h=>by
  have:r=N:=by omega
  subst this;exact zD (H z)
 | k+1,r,z,K,G,h=>by
  rw[zG (hb r z (by omega) G h),zHB];exact zO5 mk D hb hi H k (r+1) _ (by omega) (by rw[zRP,G]) (zRQ hi n 0 z (by omega) G h)
end
theorem z0H {A Y:Type} {p:Nat->A->Option Y}:∀{l:List A} {k:Nat} {y:Y},uU p l k=some y->∃j,∃h:j<l.length,p (k+j) l[j]=some y
 | [],_,_,h=>by cases h
 | x::l,k,y,h=>by
  unfold uU at h;cases D:p k x with
  | some z=>
   rw[D] at h;exact⟨0,by simp,by simpa[D] using h⟩
  | none=>
   rw[D] at h;obtain⟨j,G,e⟩:=z0H h;exact⟨j+1,by simpa using G,by rw[show k+(j+1)=k+1+j by omega];simpa using e⟩
theorem zVT {A Y:Type} {p:Nat->A->Option Y}:∀{l:List A} {k j:Nat} (h:j<l.length),p (k+j) l[j]≠none->∃i,∃hi:i<l.length,i<=j/\uU p l k=p (k+i) l[i]
 | [],_,_,h,_=>by cases h
 | x::l,k,j,h,D=>by
  unfold uU;cases G:p k x with
  | some z=>exact⟨0,by simp,g7 _,by simp[G]⟩
  | none=>
   cases j with
   | zero=>exact absurd (by simpa using G) D
   | succ j=>
    obtain⟨i,hi,H,e⟩:=zVT (p:=p) (l:=l) (k:=k+1) (j:=j) (by simpa using h) (by rw[show k+1+j=k+(j+1) by omega];simpa using D)
    exact⟨i+1,by simpa using hi,by omega,by rw[show k+(i+1)=k+1+i by omega];simpa using e⟩
def pM (c:Int) (b:Bool) (k:Nat) (m:aC):Option Nat:=if m.aT=c/\(b ||(m.bO== []))=true then some k else none
def fi (l:List aC) (c:Int) (b:Bool):Option Nat:=uU (pM c b) l 0
theorem zH2 {l:List aC} {c:Int} {b:Bool} {i:Nat} (h:fi l c b=some i):i<l.length/\(nth l i).aT=c/\(b ||((nth l i).bO== []))=true:=by
 obtain⟨j,k,e⟩:=z0H h;unfold pM at e;split at e;rename_i z;injection e with e;have:i=j:=by omega
 subst this;rw[u9 k];exact⟨k,z⟩;cases e
theorem z31 {l:List aC} {c:Int} {b:Bool} (h:fi l c b=none):∀m∈l,¬(m.aT=c/\(b ||(m.bO== []))=true):=by intro m z D;obtain⟨j,k,rfl⟩:=fB z;have:=zLJ h j k;unfold pM at this;rw[dK D] at this;cases this
theorem zVU {l:List aC} (K:DS l) (c:Int) (b:Bool):(∃i,fi l c b=some i/\i<l.length/\(nth l i).aT=c/\fnB l b c=some (nth l i).To)\/(fi l c b=none/\fnB l b c=none):=by
 cases D:fi l c b with
 | some i=>
  obtain⟨h,z,k⟩:=zH2 D;refine .inl ⟨i,rfl,h,z,?_⟩;have:=zCX K (wK h);rw[z] at this;unfold fnB;rw[this];simp only[k,dH]
 | none=>
  refine .inr ⟨rfl,?_⟩;cases O:fnB l b c with
  | none=>rfl
  | some T=>
   obtain⟨m,h,_,k⟩:=zI0 O;obtain⟨G,H⟩:=zFF h;exact absurd ⟨H,k⟩ (z31 D m G)
def fiI (l:List aC) (c:Int) (b:Bool):Int:=match fi l c b with
 | some i=>(i:Int)
 | none=> -1
open Go.AV
section
variable {l:List aC} (hd:DS l)
def zNT (l:List aC) (h:List Bool) (i:Nat):Bool:=(nth l i).To.all λe=>match fi l e true with
 | some m=>nth h m
 | none=>true
def z6I (l:List aC) (h:List Bool):Prop:= ∀j,j<l.length->nth h j=true->WW l (nth l j).aT
include hd
theorem yFE {z:List Bool} (h:z6I l z) {i:Nat} (hi:i<l.length) (T:zNT l z i=true):WW l (nth l i).aT:=by
 refine zZ8 λe G=>?_;rw[zZ7 hd (wK hi)] at G;have:=eC.1 T e G;rcases zVU hd e true with ⟨m,D,k,K,_⟩ | ⟨D,k⟩
 rw[D] at this;have:=h m k this;rw[K] at this;exact this;cases H:syl e with
 | true=>exact yI3 hd H
 | false=>
  refine zXA ?_;unfold dep;rw[dQ (by simp[H])];rw[zTC] at k;cases O:l.find? (isF e) with
  | none=>rfl
  | some m=>rw[O] at k;cases k
theorem zVV (i:Nat) (k:List Bool) (hi:i<l.length) (G:k.length=l.length) (h:z6I l k):z6I l (k.set i (zNT l k i)):=by intro j D z;rw[zRO (by omega)] at z;split at z;rename_i e;subst e;exact yFE hd h hi z;exact h j D z
theorem yFF (r:Nat) (h:List Bool) (i:Nat) (hi:i<l.length) (_hl:h.length=l.length) (G:∀j,j<l.length->DD l r (nth l j).aT->nth h j=true) (K:DD l (r+1) (nth l i).aT):zNT l h i=true:=by
 refine eC.2 λe H=>?_;have:=K (nth l i) (zCX hd (wK hi)) e H;rcases zVU hd e true with ⟨m,k,z,D,_⟩ | ⟨k,_⟩
 rw[k];exact G m z (by rw[D];exact this)
 rw[k]
theorem yAV:(∀j,j<l.length->nth (zHB (zNT l) l.length l.length (List.replicate l.length false)) j=true)↔∀m∈l,WW l m.aT:=by
 have K:z6I l (List.replicate l.length false):=by
  intro j z T;rw[u9 (by simpa using z)] at T;simp at T
 constructor;intro h;have hv:=(zXE (upd:=zNT l) (n:=l.length) (Inv:=z6I l) (zVV hd) l.length _ (by simp) K).1;rw[<-u6 (p:=λm:aC=>WW l m.aT)];exact λk O=>hv k O (h k O);intro H j z;have hp:=yAA hd H;refine zXF (upd:=zNT l) (n:=l.length) (Inv:=z6I l) (R:=λr j=>j<l.length/\DD l r (nth l j).aT) (t:=λ_=>true) (λr j h=>⟨h.1,zJ1 h.2⟩) (zVV hd) (λr G i hi Z _ Y D=>yFF hd r G i hi Z (λj z D=>Y j z ⟨z,D⟩) D.2) l.length 0 _ (by simp) K (λj z D=>?_) j z ⟨z,by rw[eD];exact hp _ (wK z)⟩
 have:l.find? (isF (nth l j).aT)=none:=D.2;rw[zCX hd (wK z)] at this;cases this
end
section
variable {l:List aC} (hd:DS l) (hD:∀c,DD l l.length c) {b:Bool}
def lenOf (l:List aC) (b:Bool) (h:List Int) (e:Int):Int:=match fi l e b with
 | some m=>nth h m
 | none=>((hdE e).length:Int)
def updL (l:List aC) (b:Bool) (h:List Int) (i:Nat):Int:=if (b ||((nth l i).bO== []))=true then min (max (((nth l i).To.map (lenOf l b h)).sum) 1) 65 else 1
def zXG (h:List Int):Prop:= ∀x∈h,0<=x/\x<=65
theorem yFG (h:List Int) (i:Nat):0<=updL l b h i/\updL l b h i<=65:=by unfold updL;split<;>omega
theorem zP3 (i:Nat) (k:List Int) (_hi:i<l.length) (_hl:k.length=l.length) (h:zXG k):zXG (k.set i (updL l b k i)):=by
 intro x z;rcases gt z with z | rfl
 exact h x z;exact yFG k i
include hd hD
theorem yFH {i:Nat} (hi:i<l.length):wt l b (nth l i).aT=if (b ||((nth l i).bO== []))=true then min (max (((nth l i).To.map (wt l b)).sum) 1) 65 else 1:=by
 rw[zVO hD];unfold fnB;rw[zCX hd (wK hi)];by_cases h:(b ||((nth l i).bO== []))=true;simp only[h,dH];have z:=zTA hd (wK hi);have k:hdE (nth l i).aT= [(nth l i).aT]:=by unfold hdE;rw[dQ (by simp[z])]
 rw[dQ h];simp only[k];rw[dQ h];rfl
omit hD in
theorem yAW {k:List Int} {e:Int} (G:fnB l b e=none->wt l b e=((hdE e).length:Int)) (h:∀m,m<l.length->(nth l m).aT=e->nth k m=wt l b e):lenOf l b k e=wt l b e:=by
 unfold lenOf;rcases zVU hd e b with ⟨m,z,D,H,_⟩ | ⟨z,D⟩
 rw[z];exact h m D H;rw[z,G D]
theorem yFI (r:Nat) (h:List Int) (i:Nat) (hi:i<l.length) (D:∀j,j<l.length->DD l r (nth l j).aT->nth h j=wt l b (nth l j).aT) (O:DD l (r+1) (nth l i).aT):updL l b h i=wt l b (nth l i).aT:=by
 rw[yFH hd hD hi];unfold updL;split
 ·have:(nth l i).To.map (lenOf l b h)=(nth l i).To.map (wt l b):=fS λe G=>by
   have k:=O (nth l i) (zCX hd (wK hi)) e G;exact yAW hd (λK=>by rw[zVO hD,K]) λm H z=>by rw[<-z];exact D m H (by rw[z];exact k)
  rw[this]
 ·rfl
theorem z32 (j:Nat) (k:j<l.length):nth (zHB (updL l b) l.length l.length (List.replicate l.length 0)) j=wt l b (nth l j).aT:=by
 have G:zXG (List.replicate l.length 0):=λx K=>by rw[(List.mem_replicate.1 K).2];omega
 refine zXF (upd:=updL l b) (n:=l.length) (Inv:=zXG) (R:=λr j=>j<l.length/\DD l r (nth l j).aT) (t:=λj=>wt l b (nth l j).aT) (λr j h=>⟨h.1,zJ1 h.2⟩) zP3 (λr D i hi O _ H z=>yFI hd hD r D i hi (λj k z=>H j k ⟨k,z⟩) z.2) l.length 0 _ (by simp) G (λj k z=>?_) j k ⟨k,by rw[eD];exact hD _⟩
 have:l.find? (isF (nth l j).aT)=none:=z.2;rw[zCX hd (wK k)] at this;cases this
end
section
variable {l:List aC} (hd:DS l) (hD:∀c,DD l l.length c) {b:Bool}
def zFU (l:List aC) (b:Bool) (h:List (List Int)) (e:Int):List Int:=match fi l e b with
 | some m=>nth h m
 | none=>hdE e
def zTG (l:List aC) (b:Bool) (h:List (List Int)) (i:Nat):List Int:=if (b ||((nth l i).bO== []))=true then (nth l i).To.flatMap (zFU l b h) else nth h i
def zUJ (l:List aC) (b:Bool) (h:List (List Int)):Prop:= ∀j,j<l.length->(nth h j).length<=(fu l b (nth l j).aT).length
include hd hD
theorem z33 {i:Nat} (hi:i<l.length) (h:(b ||((nth l i).bO== []))=true):fu l b (nth l i).aT=(nth l i).To.flatMap (fu l b):=by rw[zQR hD];unfold fnB;rw[zCX hd (wK hi)];simp only[h,dH]
theorem z34 {k:List (List Int)} (h:zUJ l b k) (e:Int):(zFU l b k e).length<=(fu l b e).length:=by
 unfold zFU;rcases zVU hd e b with ⟨m,z,D,G,_⟩ | ⟨z,D⟩
 rw[z];have:=h m D;rw[G] at this;exact this;rw[z,zQR hD,D];exact dF _
omit hd hD in
theorem z0I {f g:Int->List Int} (h:∀e,(f e).length<=(g e).length):∀L:List Int,(L.flatMap f).length<=(L.flatMap g).length
 | []=>dF _
 | x::L=>by have:=z0I h L;have:=h x;simp only[ek,cZ];omega
theorem yAX {k:List (List Int)} (h:zUJ l b k) {i:Nat} (hi:i<l.length):(zTG l b k i).length<=(fu l b (nth l i).aT).length:=by unfold zTG;split;rename_i z;rw[z33 hd hD hi z];exact z0I (z34 hd hD h) _;exact h i hi
theorem zP4 (i:Nat) (k:List (List Int)) (hi:i<l.length) (D:k.length=l.length) (h:zUJ l b k):zUJ l b (k.set i (zTG l b k i)):=by intro j z;rw[zRO (by omega)];split;rename_i e;subst e;exact yAX hd hD h hi;exact h j z
omit hD in
theorem yFJ (hD:∀c,DD l l.length c) (r:Nat) (h:List (List Int)) (i:Nat) (hi:i<l.length) (O:∀j,j<l.length->(b ||((nth l j).bO== []))=true->DD l r (nth l j).aT->nth h j=fu l b (nth l j).aT) (H:(b ||((nth l i).bO== []))=true) (Y:DD l (r+1) (nth l i).aT):zTG l b h i=fu l b (nth l i).aT:=by
 rw[z33 hd hD hi H];unfold zTG;rw[dK H];refine zNR λe T=>?_;have D:=Y (nth l i) (zCX hd (wK hi)) e T;unfold zFU;cases G:fi l e b with
 | some m=>
  obtain⟨k,z,K⟩:=zH2 G;show nth h m=_;rw[O m k K (by rw[z];exact D),z]
 | none=>
  rcases zVU hd e b with ⟨m,k,_⟩ | ⟨_,z⟩;rw[G] at k;cases k;show hdE e=_;rw[zQR hD,z]
def z0J (l:List aC) (b:Bool):List (List Int):=zHB (zTG l b) l.length l.length (List.replicate l.length [])
omit hd hD in
theorem yG4:zUJ l b (List.replicate l.length []):=by intro j h;rw[u9 (by simpa using h)];simp
theorem yJN (j:Nat) (k:j<l.length) (D:(b ||((nth l j).bO== []))=true):nth (z0J l b) j=fu l b (nth l j).aT:=by
 refine zXF (upd:=zTG l b) (n:=l.length) (Inv:=zUJ l b) (R:=λr j=>j<l.length/\(b ||((nth l j).bO== []))=true/\DD l r (nth l j).aT) (t:=λj=>fu l b (nth l j).aT) (λr j h=>⟨h.1,h.2.1,zJ1 h.2.2⟩) (zP4 hd hD) (λr G i hi K _ H z=>yFJ hd hD r G i hi (λj k D z=>H j k ⟨k,D,z⟩) z.2.1 z.2.2) l.length 0 _ (by simp) yG4 (λj k z=>?_) j k ⟨k,D,by rw[eD];exact hD _⟩
 have:l.find? (isF (nth l j).aT)=none:=z.2.2;rw[zCX hd (wK k)] at this;cases this
theorem yFK (e:Int):zFU l b (z0J l b) e=fu l b e:=by
 unfold zFU;cases z:fi l e b with
 | some m=>
  obtain⟨h,k,D⟩:=zH2 z;show nth (z0J l b) m=_;rw[yJN hd hD m h D,k]
 | none=>
  rcases zVU hd e b with ⟨m,h,_⟩ | ⟨_,k⟩;rw[z] at h;cases h;show hdE e=_;rw[zQR hD,k]
end
open Go.AV
def plF (n:Int):Bool->List Int->Bool×List Int
 | true,l=>(true,l)
 | false,[]=>(false,[])
 | false,x::l=>if n<=x then (true,if n<x then n::x::l else x::l) else ((plF n false l).1,x::(plF n false l).2)
def plE (n:Int):List Int->List Int
 | []=>[n]
 | x::l=>if n<=x then (if n<x then n::x::l else x::l) else x::plE n l
theorem yG5 (n:Int):∀l:List Int,(if (plF n false l).1=true then (plF n false l).2 else (plF n false l).2++ [n])=plE n l
 | []=>rfl
 | x::l=>by
  have:=yG5 n l;unfold plF plE;by_cases h:n<=x;simp[h];simp only[h,cY];rw[<-this];split<;>simp
theorem z14 {l:List Int} {n:Int} (hl:l.length<=2000):∀(d k:Nat) (b:Bool) (h:List Int),l.length-k=d->k<=l.length->h.length<=2*k->
  zB (λ(x:Bool×Int×(List Int))=>xK l n x.1 x.2.1 x.2.2) (b,(k:Int),h)=some ((plF n b (l.drop k)).1,h++(plF n b (l.drop k)).2):=by
 intro d
 induction d with
 | zero=>
  intro k b h h1 h2 h3;rw[dE (show l.length<=k by omega)];refine zD ?_;simp only[xK,yY (show l.length<=k by omega),cP];cases b<;>simp[plF]
 | succ d ih=>
  intro k b h h1 h2 h3;have D:k<l.length:=by omega
  have H:∀{o:List Int} (x:Int),o.length<=2*k+1->app o [x]=some (o++ [x]):=λ{o} x Y=>jP (by simp;omega)
  rw[dA D];have T:∀(G:Bool) (K:List Int),K.length<=2*(k+1)->xK l n b (k:Int) h=some (.next (G,((k+1:Nat):Int),K))->(plF n G (l.drop (k+1))).1=(plF n b (l[k]::l.drop (k+1))).1->K++(plF n G (l.drop (k+1))).2=h++(plF n b (l[k]::l.drop (k+1))).2->
    zB (λ(x:Bool×Int×(List Int))=>xK l n x.1 x.2.1 x.2.2) (b,(k:Int),h)=some ((plF n b (l[k]::l.drop (k+1))).1,h++(plF n b (l[k]::l.drop (k+1))).2):=by
   intro G K Y hb Z e2;rw[zG (body:=λ(x:Bool×Int×(List Int))=>xK l n x.1 x.2.1 x.2.2) (x:=(b,(k:Int),h)) hb,ih (k+1) G K (by omega) (by omega) Y,Z,e2]
  cases b with
  | true=>
   refine T true (h++ [l[k]]) (by simp;omega) ?_ ?_ ?_
   ·simp only[xK,yF D,cQ,zF,dG,wJ,zA,dV,cP,zM D,H _ (show h.length<=2*k+1 by omega),zC (k:=k) (by omega)]
   ·simp[plF]
   ·simp[plF]
  | false=>
   by_cases z:n<=l[k]
   ·by_cases O:n<l[k]
    ·refine T true (h++ [n]++ [l[k]]) (by simp;omega) ?_ ?_ ?_
     ·simp only[xK,yF D,cQ,zF,dO,j7,zA,dT,zM D,z,O,dD,H _ (show h.length<=2*k+1 by omega),H _ (show (h++ [n]).length<=2*k+1 by simp;omega),zC (k:=k) (by omega)]
     ·simp[plF,z]
     ·simp[plF,z,O]
    ·refine T true (h++ [l[k]]) (by simp;omega) ?_ ?_ ?_
     ·simp only[xK,yF D,cQ,zF,dO,j7,zA,dT,zM D,z,O,dD,dI,cP,H _ (show h.length<=2*k+1 by omega),zC (k:=k) (by omega)]
     ·simp[plF,z]
     ·simp[plF,z,O]
   ·refine T false (h++ [l[k]]) (by simp;omega) ?_ ?_ ?_
    ·simp only[xK,yF D,cQ,zF,dO,j7,zA,dT,zM D,z,dI,cP,H _ (show h.length<=2*k+1 by omega),zC (k:=k) (by omega)]
    ·simp[plF,z]
    ·simp[plF,z]
theorem z35 (n:Int):∀l:List Int,(plF n false l).2.length<=l.length+1
 | []=>by simp[plF]
 | x::l=>by
  have:=z35 n l;unfold plF;by_cases h:n<=x;by_cases k:n<x<;>simp[h,k];simp only[h,cY,dP];omega
theorem zO6 {l:List Int} (D:l.length<=2000) (n:Int):zFN l n=some (plE n l):=by
 unfold zFN;have h:=z14 (n:=n) D l.length 0 false [] (by omega) (by omega) (by simp);have k:=z35 n l;rw[et,dS] at h;have z:zB (λ(x:Bool×Int×(List Int))=>xK l n x.1 x.2.1 x.2.2) (false,0,[])=some ((plF n false l).1,(plF n false l).2):=h;rw[z,zA,<-yG5];cases (plF n false l).1 with
 | true=>rfl
 | false=>simp only[dO,cQ,jP (show (plF n false l).2.length+ [n].length<=4294967296 by simp;omega),zA];rfl
def Gd (l:List Int):Prop:=l.Pairwise (· < ·)/\∀x∈l,0<=x/\x<=1114111
theorem zXH (n:Int):∀{l:List Int} {x:Int},x∈plE n l->x=n\/x∈l
 | [],x,h=>by simp[plE] at h;exact .inl h
 | y::l,x,h=>by
  unfold plE at h;split at h;split at h;rcases dN.1 h with h | h
  exact .inl h;exact .inr h;exact .inr h;rcases dN.1 h with h | h
  exact .inr (by simp[h]);rcases zXH n h with h | h
  exact .inl h;exact .inr (by simp[h])
theorem z36 (n:Int):∀{l:List Int},l.Pairwise (· < ·)->(plE n l).Pairwise (· < ·)
 | [],_=>by simp[plE]
 | y::l,h=>by
  obtain⟨D,H⟩:=fE.1 h;unfold plE;split;split;rename_i G;refine fE.2 ⟨λz k=>?_,h⟩;rcases dN.1 k with rfl | k;exact G;have:=D z k;omega;exact h;rename_i G;refine fE.2 ⟨λz k=>?_,z36 n H⟩;rcases zXH n k with rfl | k;omega;exact D z k
theorem zP5 {n:Int} (k:0<=n/\n<=1114111) {l:List Int} (h:Gd l):Gd (plE n l):=by
 refine⟨z36 n h.1,λx hx=>?_⟩;rcases zXH n hx with rfl | hx
 exact k;exact h.2 x hx
theorem zL8 (n:Int):∀l:List Int,(plE n l).length<=l.length+1
 | []=>by simp[plE]
 | x::l=>by
  have:=zL8 n l;unfold plE;split;split<;>simp;simp only[dP];omega
theorem zXI {n:Int}:∀{l:List Int},(∀x∈l,x<n)->plE n l=l++ [n]
 | [],_=>rfl
 | y::l,h=>by
  have z:=h y (by simp);unfold plE;rw[dQ (by omega),zXI λx k=>h x (by simp[k])];rfl
def cuS (c:List Int) (r:Range):List Int:=if 0<=r.Hi/\r.Hi<1114111 then plE (r.Hi+1) (if vld r.Lo=true then plE r.Lo c else c) else (if vld r.Lo=true then plE r.Lo c else c)
theorem z37 (c:List Int) (r:Range):(cuS c r).length<=c.length+2:=by
 have k:=zL8 r.Lo c;unfold cuS;split
 ·
  have h:=zL8 (r.Hi+1) (if vld r.Lo=true then plE r.Lo c else c);split at h<;>split<;>simp_all<;>omega
 · split<;>omega
theorem yJO {c:List Int} {r:Range} (h:Gd c):Gd (cuS c r):=by
 have z:Gd (if vld r.Lo=true then plE r.Lo c else c):=by
  split;rename_i k;unfold vld at k;simp only[dM,c8] at k;exact zP5 k h;exact h
 unfold cuS;split;exact zP5 (by omega) z;exact z
def cuE (l:List Range) (c:List Int):List Int:=l.foldl cuS c
theorem zXJ:∀(l:List Range) {c:List Int},Gd c->Gd (cuE l c)
 | [],_,h=>h
 | r::l,_,h=>zXJ l (yJO h)
theorem zXK:∀(l:List Range) (c:List Int),(cuE l c).length<=c.length+2*l.length
 | [],c=>by simp[cuE]
 | r::l,c=>by
  have h:=zXK l (cuS c r);have k:=z37 c r;show (cuE l (cuS c r)).length<=_;simp only[dP];omega
theorem z6K {s:Set} (Y:s.Ranges.length<=12):∀(d k:Nat) (c:List Int),s.Ranges.length-k=d->k<=s.Ranges.length->c.length<=100+2*k->
  zB (λ(x:(List Int)×Int)=>zAQ s x.1 x.2) (c,(k:Int))=some (cuE (s.Ranges.drop k) c):=by
 intro d
 induction d with
 | zero=>
  intro k c H K O;rw[dE (show s.Ranges.length<=k by omega)];refine zD ?_;simp only[zAQ,yY (show s.Ranges.length<=k by omega),cP];rfl
 | succ d T=>
  intro k c H K O;have D:k<s.Ranges.length:=by omega
  have hs:=z37 c s.Ranges[k];have hb:zAQ s c (k:Int)=some (.next (cuS c s.Ranges[k],((k+1:Nat):Int))):=by
   have Z:=zL8 s.Ranges[k].Lo c;simp only[zAQ,yF D,cQ,zM D,zA,zDW,zF,zC (k:=k) (by omega),zO6 (show c.length<=2000 by omega)];unfold cuS;by_cases G:vld s.Ranges[k].Lo=true
   ·simp only[G,cQ,zA,dH]
    by_cases h:0<=s.Ranges[k].Hi
    ·by_cases z:s.Ranges[k].Hi<1114111
     ·simp only[h,z,dD,fQ,cQ,iv,dH]
      rw[xN (n:=s.Ranges[k].Hi+1) (by omega) (by omega),zO6 (by omega)];rfl
     ·simp[h,z]
    ·simp[h]
   ·simp only[G,dR,cY,cP,zA]
    by_cases h:0<=s.Ranges[k].Hi
    ·by_cases z:s.Ranges[k].Hi<1114111
     ·simp only[h,z,dD,fQ,cQ,iv,dH]
      rw[xN (n:=s.Ranges[k].Hi+1) (by omega) (by omega),zO6 (by omega)];rfl
     ·simp[h,z]
    ·simp[h]
  rw[zG (body:=λ(x:(List Int)×Int)=>zAQ s x.1 x.2) (x:=(c,(k:Int))) hb,T (k+1) _ (by omega) (by omega) (by omega),dA D];rfl
theorem z38 {s:Set} (z:s.Ranges.length<=12) {c:List Int} (D:c.length<=100):zJH c s=some (plE 0 (cuE s.Ranges c)):=by unfold zJH;have h:=z6K z s.Ranges.length 0 c (by omega) (by omega) (by omega);rw[et] at h;have k:zB (λ(x:(List Int)×Int)=>zAQ s x.1 x.2) (c,0)=some (cuE s.Ranges c):=h;have:=zXK s.Ranges c;rw[k,zA,zO6 (by omega)];rfl
def zE6 (l:List Range) (c:Int):Bool:=l.any λr=>vld c&&decide (r.Lo<=c)&&decide (c<=r.Hi)
theorem yAY {s:Set} (H:s.Ranges.length<=2000) (c:Int):zIO s c=some (zE6 s.Ranges c):=by
 unfold zIO;have h:=kD (body:=λ(x:Int)=>zGA s c x) s.Ranges.length (λk=> ¬(vld c&&decide ((nth s.Ranges k).Lo<=c)&&decide (c<=(nth s.Ranges k).Hi))=true) (λy=>y=true) (λk z=>by
  simp only[zGA,yF z,cQ,zDW,zA,zF,zO z,zC (k:=k) (by omega)];cases K:vld c with
  | false=>simp only[wJ,zA,dV,cP];exact .inl ⟨by simp,trivial⟩
  | true=>
   simp only[j7,zA,dT];by_cases G:(nth s.Ranges k).Lo<=c;simp only[G,dD,j7,zA,dT];exact wC (by simp) rfl;simp only[G,dI,wJ,zA,dV,cP];exact .inl ⟨by simp,trivial⟩) (λk z=>by simp only[zGA,yY z,cP])
 rw[u6 (p:=λr:Range=> ¬(vld c&&decide (r.Lo<=c)&&decide (c<=r.Hi))=true)] at h;rcases h with ⟨h,p⟩ | ⟨y,rfl,h,p⟩
 rw[h];have:zE6 s.Ranges c=false:=by unfold zE6;rw[gI];exact p
 rw[this];rfl;rw[h];have:zE6 s.Ranges c=true:=by
  cases D:zE6 s.Ranges c with
  | true=>rfl
  | false=>exfalso;apply p;unfold zE6 at D;rw[gI] at D;exact D
 rw[this];rfl
def nxt:List Int->Int
 | []=>1114111
 | d::_=>d-1
def coF (has:Int->Bool):List Int->Bool->List Range->List Range
 | [],_,o=>o
 | c::cs,k,o=>if has c=true then (if k=true then coF has cs true (match o with
   | q::h=>{q with Hi:=nxt cs}::h
   | []=>[]) else coF has cs true ({Lo:=c,Hi:=nxt cs}::o)) else coF has cs false o
theorem yFL {C:List Int} {s:Set} (hl:s.Ranges.length<=12) (hC:C.length<=200) (hg:Gd C):∀(d k:Nat) (z:Bool) (o:List Range),C.length-k=d->k<=C.length->o.length<=k->(z=true->o≠[])->
  zB (λ(x:Bool×Int×(List Range))=>jW C s {Ranges:=[]} 1 x.1 x.2.1 x.2.2) (z,(k:Int),o.reverse)=some (coF (zE6 s.Ranges) (C.drop k) z o).reverse:=by
 intro d
 induction d with
 | zero=>
  intro k z o h1 h2 Y h4;rw[dE (show C.length<=k by omega)];refine zD ?_;simp only[jW,yY (show C.length<=k by omega),cP];rfl
 | succ d ih=>
  intro k z o h1 h2 Y h4;have Z:k<C.length:=by omega
  have he:zIO {Ranges:=[]} C[k]=some false:=by rw[yAY (by simp)];rfl
  have ab:(cond (decide (((k+1:Nat):Int)<(C.length:Int))) ((zV C ((k+1:Nat):Int)).bind λad=>some (wi (ad-1))) (some 1114111):Option Int)=some (nxt (C.drop (k+1))):=by
   by_cases H:k+1<C.length
   ·have:=hg.2 _ (eE H)
    rw[yF H,cQ,zM H,zA,xN (by omega) (by omega),dA H];rfl
   ·rw[yY (by omega),cP,dE (by omega)]
    rfl
  rw[dA Z];have nx:∀(D:Bool) (T:List Range),T.length<=k+1->(D=true->T≠[])->jW C s {Ranges:=[]} 1 z (k:Int) o.reverse=some (.next (D,((k+1:Nat):Int),T.reverse))->coF (zE6 s.Ranges) (C.drop (k+1)) D T=coF (zE6 s.Ranges) (C[k]::C.drop (k+1)) z o->
    zB (λ(x:Bool×Int×(List Range))=>jW C s {Ranges:=[]} 1 x.1 x.2.1 x.2.2) (z,(k:Int),o.reverse)=some (coF (zE6 s.Ranges) (C[k]::C.drop (k+1)) z o).reverse:=by
   intro D T ho aa hb e;rw[zG (body:=λ(x:Bool×Int×(List Range))=>jW C s {Ranges:=[]} 1 x.1 x.2.1 x.2.2) (x:=(z,(k:Int),o.reverse)) hb,ih (k+1) D T (by omega) (by omega) ho aa,e]
  have K:jW C s {Ranges:=[]} 1 z (k:Int) o.reverse=((cond (zE6 s.Ranges C[k]&&z) ((zV o.reverse (wi ((o.reverse.length:Int)-1))).bind λag=>(uV o.reverse (wi ((o.reverse.length:Int)-1)) ({ag with Hi:=nxt (C.drop (k+1))})).bind λG=>some G) (some o.reverse)).bind λ(y3:List Range)=>
    (cond (zE6 s.Ranges C[k]&& !z) ((app y3 [({Lo:=C[k],Hi:=nxt (C.drop (k+1))}:Range)]).bind λr=>some r) (some y3)).bind λ(y5:List Range)=>some (Stp.next (zE6 s.Ranges C[k],((k+1:Nat):Int),y5))):=by
   unfold jW;simp only[zC (k:=k) (show k+1<=9223372036854775807 by omega),yF Z,cQ,ab,zA,zM Z,yAY (show s.Ranges.length<=2000 by omega),he,zQK,dD,zF,Bool.or_false]
  cases O:zE6 s.Ranges C[k] with
  | false=>
   refine nx false o (by omega) (λh=>by cases h) ?_ ?_
   ·rw[K,O];rfl
   ·simp[coF,O]
  | true=>
   cases z with
   | false=>
    refine nx true ({Lo:=C[k],Hi:=nxt (C.drop (k+1))}::o) (by simp;omega) (λ_=>by simp) ?_ ?_
    ·rw[K,O]
     simp only[fP,cP,zA,dO,fQ,cQ,jP (show o.reverse.length+ [({Lo:=C[k],Hi:=nxt (C.drop (k+1))}:Range)].length<=4294967296 by simp;omega)]
     simp
    ·simp[coF,O]
   | true=>
    cases o with
    | nil=>exact absurd rfl (h4 rfl)
    | cons q o=>
     refine nx true ({q with Hi:=nxt (C.drop (k+1))}::o) (by simp only[dP] at Y ⊢;omega) (λ_=>by simp) ?_ ?_
     ·rw[K,O]
      have e1:wi (((q::o).reverse.length:Int)-1)=((o.length:Nat):Int):=by
       simp only[dP] at Y;have hL:((q::o).reverse.length:Int)=(o.length:Int)+1:=by simp
       rw[hL,xN (by omega) (by omega)];omega
      have e2:(q::o).reverse=o.reverse++q:: []:=by simp
      rw[e1,e2,wL (by simp),zA,uI (by simp)];simp
     ·simp[coF,O]
theorem yAZ {l:List Range} (k:l.length<=12):zM3 l=some {Ranges:=(coF (zE6 l) (plE 0 (plE 0 (cuE l []))) false []).reverse}:=by unfold zM3 zMO;have D:=zXK l [];have Y:=zL8 0 (cuE l []);have Z:=zL8 0 (plE 0 (cuE l []));simp only[d6] at D;have T:cuE ([]:List Range) (plE 0 (cuE l []))=plE 0 (cuE l []):=rfl;have G:Gd (plE 0 (plE 0 (cuE l []))):=zP5 (by omega) (zP5 (by omega) (zXJ l ⟨.nil,λx H=>by cases H⟩));rw[z38 (s:={Ranges:=l}) k (by simp),zA,z38 (s:={Ranges:=[]}) (by simp) (show (plE 0 (cuE l [])).length<=100 by omega)];rw[zA];have h:=yFL (s:={Ranges:=l}) k (by omega) G _ 0 false [] rfl (by omega) (by simp) (λh=>by cases h);rw[et] at h;have z:zB (λ(x:Bool×Int×(List Range))=>jW (plE 0 (plE 0 (cuE l []))) {Ranges:=l} {Ranges:=[]} 1 x.1 x.2.1 x.2.2) (false,0,[])=some (coF (zE6 l) (plE 0 (plE 0 (cuE l []))) false []).reverse:=h;change ((zB (λ(x:Bool×Int×(List Range))=>jW (plE 0 (plE 0 (cuE l []))) {Ranges:=l} {Ranges:=[]} 1 x.1 x.2.1 x.2.2) (false,0,[])).bind λO=>some ({Ranges:=O}:Set)).bind (λK=>some K)=_;rw[z];rfl
open Go.AV
theorem zRS {has:Int->Bool}:∀(C:List Int) (O:Bool) (o:List Range),Gd C->CanR o->(O=true->∀c,C.head? =some c->∃q K,o=q::K/\q.Hi=c-1/\q.Lo<=c)->(O=false->∀c q,C.head? =some c->o.head? =some q->q.Hi+1<c)->(O=true->o≠[])->CanR (coF has C O o)
 | [],_,_,_,h,_,_,_=>h
 | c::cs,O,o,Z,T,h1,h2,h3=>by
  obtain⟨ha,hb⟩:=fE.1 Z.1;have H:Gd cs:=⟨hb,λx hx=>Z.2 x (by simp[hx])⟩;have hc:=Z.2 c (by simp);have k:c<=nxt cs/\nxt cs<=1114111/\∀d,cs.head? =some d->nxt cs=d-1/\c<d:=by
   cases cs with
   | nil=>exact⟨hc.2,gw _,λd D=>by cases D⟩
   | cons d cs=>
    have h5:=ha d (by simp);have h6:=Z.2 d (by simp);refine⟨show c<=d-1 by omega,show d-1<=1114111 by omega,λe he=>?_⟩;simp only[g0,fD] at he;subst he;exact⟨rfl,h5⟩
  unfold coF;split;split;rename_i G;obtain⟨q,K,rfl,e1,e2⟩:=h1 G c rfl;refine zRS cs true _ H ?_ (λ_ d D=>⟨_,_,rfl,(k.2.2 d D).1,?_⟩) (λh=>by cases h) (λ_=>by simp);have Y:=T.head;unfold zBN at Y;cases K with
  | nil=>show zBN _;unfold zBN;simp only;omega
  | cons z K=>exact⟨by unfold zBN;simp only;omega,T.2.1,T.2.2⟩
  have:=(k.2.2 d D).2;show q.Lo<=d;omega;rename_i G;simp only[gP] at G;refine zRS cs true _ H ?_ (λ_ d D=>⟨_,_,rfl,(k.2.2 d D).1,?_⟩) (λh=>by cases h) (λ_=>by simp);cases o with
  | nil=>show zBN _;unfold zBN;simp only;omega
  | cons z K=>exact⟨by unfold zBN;simp only;omega,h2 G c z rfl rfl,T⟩
  have:=(k.2.2 d D).2;show c<=d;omega;refine zRS cs false o H T (λh=>by cases h) (λ_ d q D Y=>?_) (λh=>by cases h);have h7:=(k.2.2 d D).2;cases O with
  | true=>
   obtain⟨q',K,rfl,e1,_⟩:=h1 rfl c rfl;simp only[g0,fD] at Y;subst Y;omega
  | false=>
   have:=h2 rfl c q rfl Y;omega
def zKF (l:List Range):List Int:=l.flatMap λr=>r.Lo::if r.Hi<1114111 then [r.Hi+1] else []
theorem yA0:∀(l:List Range) (c:List Int),Can l->(∀x∈c,∀r,l.head? =some r->x<r.Lo)->cuE l c=c++zKF l
 | [],c,_,_=>by simp[cuE,zKF]
 | r::l,c,h,z=>by
  have K:=h.head;unfold zBN at K;have O:vld r.Lo=true:=by unfold vld;simp;omega
  have H:plE r.Lo c=c++ [r.Lo]:=zXI λx hx=>z x hx r rfl;have G:cuS c r=c++(r.Lo::if r.Hi<1114111 then [r.Hi+1] else []):=by
   unfold cuS;rw[dK O,H];by_cases k:r.Hi<1114111;rw[dK ⟨by omega,k⟩,dK k,zXI];simp;intro x hx;rcases eN.1 hx with hx | hx
   have:=z x hx r rfl;omega;simp only[eZ] at hx;omega;rw[dQ (λh=>k h.2),dQ k]
  show cuE l (cuS c r)=_;rw[yA0 l (cuS c r) h.tail,G];simp[zKF];intro x hx q D;have T:r.Hi+1<q.Lo:=h.gap q (by cases l with | nil=>cases D | cons a l=>simp only[g0,fD] at D;simp[D])
  rw[G] at hx;rcases eN.1 hx with hx | hx
  have:=z x hx r rfl;omega;rcases dN.1 hx with rfl | hx
  omega;split at hx;simp only[eZ] at hx;omega;cases hx
theorem yJP {l:List Range} (h:Can l) {r:Range} (k:r∈l):zE6 l r.Lo=true:=by have:=h.ok r k;unfold zBN at this;unfold zE6;refine fX.2 ⟨r,k,?_⟩;unfold vld;simp;omega
theorem yA1:∀{l:List Range},Can l->∀{r:Range},r∈l->zE6 l (r.Hi+1)=false
 | [],_,r,D=>by cases D
 | a::l,h,r,D=>by
  unfold zE6;rw[gI];intro q z;have G:∀(c:Int) (q:Range),(c<q.Lo\/q.Hi<c)->¬(vld c&&decide (q.Lo<=c)&&decide (c<=q.Hi))=true:=by
   intro c q O;simp only[dM,c8];omega
  rcases dN.1 D with rfl | k;refine G _ _ ?_;rcases dN.1 z with rfl | z;omega;have:=h.gap q z;omega;rcases dN.1 z with rfl | z;refine G _ _ ?_;have K:=h.gap r k;have H:=h.tail.ok r k;unfold zBN at H;omega;have:=yA1 h.tail k;unfold zE6 at this;rw[gI] at this;exact this q z
theorem z39 {has:Int->Bool}:∀(l:List Range) (o:List Range),Can l->(∀r∈l,has r.Lo=true/\(r.Hi<1114111->has (r.Hi+1)=false))->coF has (zKF l) false o=l.reverse++o
 | [],o,_,_=>by simp[zKF,coF]
 | r::l,o,h,D=>by
  obtain⟨z,G⟩:=D r (by simp);have Y:=z39 (has:=has) l (r::o) h.tail λq O=>D q (by simp[O]);have T:=h.head;unfold zBN at T;by_cases k:r.Hi<1114111
  ·have e:zKF (r::l)=r.Lo::(r.Hi+1)::zKF l:=by simp[zKF,k]
   have en:nxt ((r.Hi+1)::zKF l)=r.Hi:=by show r.Hi+1-1=r.Hi;omega
   rw[e];unfold coF;rw[dK z,dQ (by simp),en];unfold coF;rw[dQ (by rw[G k];simp),Y]
   simp
  ·have K:l= []:=by
    cases l with
    | nil=>rfl
    | cons q l=>
     have:=h.2.1;have H:=h.tail.head;unfold zBN at H;omega
   subst K;have e:zKF [r]= [r.Lo]:=by simp[zKF,k]
   rw[e];unfold coF;rw[dK z,dQ (by simp)];unfold coF;have:nxt []=r.Hi:=by show (1114111:Int)=r.Hi;omega
   rw[this];rfl
theorem yA2 {l:List Int} (h:Gd l):plE 0 (plE 0 l)=plE 0 l:=by
 cases l with
 | nil=>rfl
 | cons x l=>
  have:=h.2 x (by simp);by_cases k:0<x;have e:plE 0 (x::l)=0::x::l:=by unfold plE;rw[dK (by omega),dK k]
  rw[e];unfold plE;rw[dK (by omega),dQ (by omega)];have e:plE 0 (x::l)=x::l:=by unfold plE;rw[dK (by omega),dQ k]
  rw[e,e]
theorem yA3 {l:List Range} (h:Can l):(coF (zE6 l) (plE 0 (plE 0 (cuE l []))) false []).reverse=l:=by
 rw[yA2 (zXJ l ⟨.nil,λx k=>by cases k⟩),yA0 l [] h (λx k=>by cases k),dS];have G:=z39 (has:=zE6 l) l [] h λr D=>⟨yJP h D,λ_=>yA1 h D⟩;rw[ez] at G;have z:plE 0 (zKF l)=zKF l\/(plE 0 (zKF l)=0::zKF l/\zE6 l 0=false):=by
  cases l with
  | nil=>exact .inr ⟨rfl,rfl⟩
  | cons r l=>
   have D:=h.head;unfold zBN at D;have e:zKF (r::l)=r.Lo::((if r.Hi<1114111 then [r.Hi+1] else [])++zKF l):=by simp[zKF]
   rw[e];by_cases k:0<r.Lo;refine .inr ⟨by unfold plE;rw[dK (by omega),dK k],?_⟩
   unfold zE6;rw[gI];intro q hq;simp only[dM,c8];rcases dN.1 hq with rfl | hq
   omega;have:=h.gap q hq;omega;exact .inl (by unfold plE;rw[dK (by omega),dQ k])
 rcases z with z | ⟨z,H⟩;rw[z,G,fN];rw[z];unfold coF;rw[dQ (by rw[H];simp),G,fN]
theorem z6M (l:List Range):Can (coF (zE6 l) (plE 0 (plE 0 (cuE l []))) false []).reverse:=by have z:Gd (plE 0 (plE 0 (cuE l []))):=zP5 (by omega) (zP5 (by omega) (zXJ l ⟨.nil,λx G=>by cases G⟩));have:=zRS (has:=zE6 l) _ false [] z trivial (λh=>by cases h) (λ_ c q _ D=>by cases D) (λh=>by cases h);have k:=zW6 _ [] this trivial (λ_ _ _ h=>by cases h);simpa using k
theorem yFM {a b:Set} (O:a.Ranges.length<=2000):zM4 a b=some (decide (a.Ranges=b.Ranges)):=by
 unfold zM4;by_cases D:a.Ranges.length=b.Ranges.length;have e:(!decide ((a.Ranges.length:Int)=(b.Ranges.length:Int)))=false:=by simp[D]
 rw[e,cP];have h:=kD (body:=λ(x:Int)=>zE8 a b x) a.Ranges.length (λk=>nth a.Ranges k=nth b.Ranges k) (λy=>y=false) (λk z=>by
  simp only[zE8,yF z,cQ,zO z,zO (show k<b.Ranges.length by omega),zA,zC (k:=k) (by omega)];exact wC (by simp) rfl) (λk z=>by simp only[zE8,yY z,cP])
 have K:(∀j,j<a.Ranges.length->nth a.Ranges j=nth b.Ranges j)↔a.Ranges=b.Ranges:=by
  constructor;intro h;refine hO D λi G H=>?_;have:=h i G
  rwa [u9 G,u9 H] at this
  intro h j _;rw[h]
 rw[K] at h;rcases h with ⟨h,p⟩ | ⟨y,rfl,h,p⟩
 rw[h];simp[p];rw[h];simp[p];have e:(!decide ((a.Ranges.length:Int)=(b.Ranges.length:Int)))=true:=by simp;omega
 rw[e,cQ];have:a.Ranges≠b.Ranges:=λh=>D (by rw[h]);simp[this]
theorem yJQ {s:Set} (k:s.Ranges.length<=12):∃b,zK5 s=some b/\(b=true↔Can s.Ranges):=by unfold zK5;rw[yAZ k,zA,yFM (by omega),zA];refine⟨_,rfl,?_⟩;simp only[c8];constructor;intro h;rw[h];exact z6M _;intro h;rw[yA3 h]
open Go.AV
theorem zXL {l:List aC} (K:l.length<=2000) (c:Int) (b:Bool):zEY l c b=some (fiI l c b):=by
 unfold zEY;have h:zB (λ(x:Int)=>zE9 l c b x) 0=some (toS (uU (λk m=>(pM c b k m).map λ(i:Nat)=>(i:Int)) l 0)):=by
  refine jX l _ (λk D=>?_) (λk D=>?_);simp only[zE9,yF D,cQ,zM D,zA,zF,zC (k:=k) (by omega),pM];by_cases z:l[k].aT=c;cases b with
  | true=>simp[z,wJ,stp]
  | false=>
   cases G:(l[k].bO== []) with
   | true=>simp only[z,dD,dO,fQ,j7,zA,fa,G,dT,cQ,iv,dH,eX,stp]
   | false=>simp only[z,dD,dO,fQ,j7,zA,fa,G,dT,cP,dR,and_false,cY,gu,stp]
  simp[z,wJ,stp];simp only[zE9,yY D,cP]
 rw[h,zA,jJ];have e:∀(L:List aC) (k:Nat),uU (λk m=>(pM c b k m).map λ(i:Nat)=>(i:Int)) L k=(uU (pM c b) L k).map λ(i:Nat)=>(i:Int):=by
  intro L
  induction L with
  | nil=>intro k;rfl
  | cons x L H=>
   intro k;unfold uU;cases pM c b k x with
   | none=>exact H (k+1)
   | some y=>rfl
 rw[e];unfold fiI fi;cases uU (pM c b) l 0<;>rfl
theorem yA4 (c:Int):zJI c=some (hkE c):=by
 unfold zJI hkE;simp only[zF];by_cases h:4352<=c/\c<4371;rw[dK h];have:(decide (4352<=c)&&decide (c<=4370))=true:=by simp;omega
 rw[this];rfl;rw[dQ h];have G:(decide (4352<=c)&&decide (c<=4370))=false:=by simp only[eA,dC];omega
 rw[G,cP];by_cases k:4449<=c/\c<4470;rw[dK k];have:(decide (4449<=c)&&decide (c<=4469))=true:=by simp;omega
 rw[this];rfl;rw[dQ k];have H:(decide (4449<=c)&&decide (c<=4469))=false:=by simp only[eA,dC];omega
 rw[H,cP];by_cases z:4520<=c/\c<4547;rw[dK z];have:(decide (4520<=c)&&decide (c<=4546))=true:=by simp;omega
 rw[this];rfl;rw[dQ z];have K:(decide (4520<=c)&&decide (c<=4546))=false:=by simp only[eA,dC];omega
 rw[K,cP];by_cases D:c<44032\/55204<=c;rw[dK D];have:(decide (44032<=c)&&decide (c<=55203))=false:=by simp only[eA,dC];omega
 rw[this];rfl;rw[dQ D];have O:(decide (44032<=c)&&decide (c<=55203))=true:=by simp;omega
 rw[O,cQ,xN (n:=c-44032) (by omega) (by omega)];have er:zHC (c-44032) 28=some ((c-44032)%28):=by
  unfold zHC;rw[dQ (by decide),fY (by omega)]
 rw[er,zA];by_cases T:(c-44032)%28=0<;>simp[T]
theorem yG6 (c:Int):zDG c=some (hdE c):=by
 unfold zDG;rw[yA4,zA];cases k:syl c with
 | false=>
  have:decide (hkE c<4)=true:=by
   simp only[c8];have:¬4<=hkE c:=λh=>by have:=(zGE c).2 h;rw[k] at this;cases this
   omega
  rw[this,cQ];unfold hdE;rw[dQ (by simp[k])]
 | true=>
  have O:=(zGE c).1 k;have:decide (hkE c<4)=false:=by simp only[dC];omega
  rw[this,cP];have T:44032<=c/\c<=55203:=by unfold syl at k;simpa using k
  rw[xN (n:=c-44032) (by omega) (by omega)];have D:zKP wi (c-44032) 28=some ((c-44032)/28):=by
   unfold zKP;rw[dQ (by decide),g3 (by omega),xN (by omega) (by omega)]
  have G:zKP wi ((c-44032)/28) 21=some ((c-44032)/28/21):=by
   unfold zKP;rw[dQ (by decide),g3 (by omega),xN (by omega) (by omega)]
  have H:zHC ((c-44032)/28) 21=some ((c-44032)/28%21):=by
   unfold zHC;rw[dQ (by decide),fY (by omega)]
  have K:zHC (c-44032) 28=some ((c-44032)%28):=by
   unfold zHC;rw[dQ (by decide),fY (by omega)]
  simp only[D,G,H,K,zA];unfold hdE;rw[dK k,xN (n:=4352+(c-44032)/28/21) (by omega) (by omega),xN (n:=4449+(c-44032)/28%21) (by omega) (by omega)];by_cases z:0<(c-44032)%28;rw[dK z,xN (n:=4520+(c-44032)%28) (by omega) (by omega),xN (n:=4520+(c-44032)%28-1) (by omega) (by omega)];simp only[z,dD,cQ];rw[jP (by simp)];rfl;rw[dQ z];simp only[z,dI,cP];rfl
section
variable {l:List aC} (hl:l.length<=2000) (hto:∀m∈l,m.To.length<=2000)
include hl hto
theorem yFN {h:List Bool} (Y:h.length=l.length) {i:Nat} (hi:i<l.length):∀(d k:Nat) (b:Bool),(nth l i).To.length-k=d->k<=(nth l i).To.length->
  zB (λ(x:Bool×Int)=>zAR l (i:Int) h x.1 x.2) (b,(k:Int))=some (b&&((nth l i).To.drop k).all λe=>match fi l e true with | some m=>nth h m | none=>true):=by
 have D:=hto _ (wK hi);intro d
 induction d with
 | zero=>
  intro k b G H;rw[dE (show (nth l i).To.length<=k by omega)];refine zD ?_;simp only[zAR,zO hi,zA,yY (show (nth l i).To.length<=k by omega),cP,List.all_nil,Bool.and_true]
 | succ d O=>
  intro k b G H;have z:k<(nth l i).To.length:=by omega
  have hb:zAR l (i:Int) h b (k:Int)=some (.next (b&&(match fi l (nth l i).To[k] true with | some m=>nth h m | none=>true),((k+1:Nat):Int))):=by
   simp only[zAR,zO hi,zA,yF z,cQ,zM z,zXL hl,zF,zC (k:=k) (by omega)];unfold fiI;cases K:fi l (nth l i).To[k] true with
   | none=>simp[wJ]
   | some m=>
    obtain⟨T,_,_⟩:=zH2 K;have e:decide (((m:Nat):Int)<0)=false:=by simp
    simp only[e,dO,Bool.and_true,fa];cases b with
    | false=>simp[wJ]
    | true=>simp only[j7,zO (show m<h.length by omega),zA,dT]
  rw[zG (body:=λ(x:Bool×Int)=>zAR l (i:Int) h x.1 x.2) (x:=(b,(k:Int))) hb,O (k+1) _ (by omega) (by omega),dA z,hY,Bool.and_assoc]
theorem yFO:zM5 l=some (zHB (zNT l) l.length l.length (List.replicate l.length false)):=by
 unfold zM5;rw[zW0 (by omega),zA];have G:∀(h:List Bool),h.length=l.length->zB (λ(x:Int×(List Bool))=>zDB l x.1 x.2) (0,h)=some (zO3 (zNT l) l.length 0 h):=λh z=>
  zO4 (upd:=zNT l) (n:=l.length) (Inv:=λ_=>True) (body:=λ(x:Int×(List Bool))=>zDB l x.1 x.2) (λi h=>((i:Int),h)) id (λi h hi z _=>by
   have:=yFN hl hto z hi _ 0 true rfl (by omega);rw[et,dT] at this;have D:zB (λ(x:Bool×Int)=>zAR l (i:Int) h x.1 x.2) (true,0)=some (zNT l h i):=this;simp only[zDB,yF hi,cQ,D,zA,zO (show i<h.length by omega),zFR (show i<h.length by omega),zC (k:=i) (by omega)]) (λ_ _ _ _ _=>trivial) (λh=>by simp only[zDB,yY (dF _),cP];rfl) l.length 0 h (by omega) z trivial
 have H:=zO5 (upd:=zNT l) (n:=l.length) (Inv:=λ_=>True) (body:=λ(x:Int×(List Bool))=>zDC l x.1 x.2) (λi h=>((i:Int),h)) id (N:=l.length) (λr h O z _=>by
  simp only[zDC,yF O,cQ,G h z,zA,zC (k:=r) (by omega)]) (λ_ _ _ _ _=>trivial) (λh=>by simp only[zDC,yY (dF _),cP];rfl) l.length 0 (List.replicate l.length false) (by omega) (by simp) trivial
 have K:zB (λ(x:Int×(List Bool))=>zDC l x.1 x.2) (0,List.replicate l.length false)=some (zHB (zNT l) l.length l.length (List.replicate l.length false)):=H;rw[K];rfl
theorem yFP {b:Bool} {h:List Int} (ho:h.length=l.length) (Z:zXG h) {i:Nat} (hi:i<l.length):∀(d k:Nat) (n:Int),(nth l i).To.length-k=d->k<=(nth l i).To.length->0<=n->n<=100*(k:Int)->
  zB (λ(x:Int×Int)=>vH l (i:Int) b h x.1 x.2) (n,(k:Int))=some (n+(((nth l i).To.drop k).map (lenOf l b h)).sum):=by
 have H:=hto _ (wK hi);intro d
 induction d with
 | zero=>
  intro k n K O z T;rw[dE (show (nth l i).To.length<=k by omega)];refine zD ?_;simp only[vH,zO hi,zA,yY (show (nth l i).To.length<=k by omega),cP,fF,List.sum_nil,Int.add_zero]
 | succ d ih=>
  intro k n K O z T;have G:k<(nth l i).To.length:=by omega
  have Y:0<=lenOf l b h (nth l i).To[k]/\lenOf l b h (nth l i).To[k]<=65:=by
   unfold lenOf;cases D:fi l (nth l i).To[k] b with
   | none=>have:=zNP (nth l i).To[k];simp only[];omega
   | some m=>obtain⟨z,_,_⟩:=zH2 D;exact Z _ (wK (by omega))
  have hb:vH l (i:Int) b h n (k:Int)=some (.next (n+lenOf l b h (nth l i).To[k],((k+1:Nat):Int))):=by
   have hw:wi (n+lenOf l b h (nth l i).To[k])=n+lenOf l b h (nth l i).To[k]:=xN (by omega) (by omega);simp only[vH,zO hi,zA,yF G,cQ,zM G,zXL hl,zC (k:=k) (by omega),yG6];rw[<-hw];unfold lenOf fiI;cases D:fi l (nth l i).To[k] b with
   | none=>rfl
   | some m=>
    obtain⟨z,_,_⟩:=zH2 D;have e:decide (0<=((m:Nat):Int))=true:=by simp
    simp only[e,cQ,zO (show m<h.length by omega),zA]
  rw[zG (body:=λ(x:Int×Int)=>vH l (i:Int) b h x.1 x.2) (x:=(n,(k:Int))) hb,ih (k+1) _ (by omega) (by omega) (by omega) (by omega),dA G,ey,iA,Int.add_assoc]
theorem z4A (b:Bool):zFA l b=some (zHB (updL l b) l.length l.length (List.replicate l.length 0)):=by
 unfold zFA;rw[zW0 (by omega),zA];have H:zXG (List.replicate l.length 0):=λx Z=>by rw[(List.mem_replicate.1 Z).2];omega
 have K:∀(h:List Int),h.length=l.length->zXG h->zB (λ(x:Int×(List Int))=>zBD l b x.1 x.2) (0,h)=some (zO3 (updL l b) l.length 0 h):=λh z D=>
  zO4 (upd:=updL l b) (n:=l.length) (Inv:=zXG) (body:=λ(x:Int×(List Int))=>zBD l b x.1 x.2) (λi h=>((i:Int),h)) id (λi h hi z D=>by
   have:=yFP hl hto (b:=b) z D hi _ 0 0 rfl (by omega) (by omega) (by omega);rw[et,Int.zero_add] at this;have G:zB (λ(x:Int×Int)=>vH l (i:Int) b h x.1 x.2) (0,0)=some (((nth l i).To.map (lenOf l b h)).sum):=this;simp only[zBD,yF hi,cQ,G,zA,zO (show i<h.length by omega),zFR (show i<h.length by omega),zO hi,zF,zC (k:=i) (by omega)];unfold updL;cases b with
   | true=>simp
   | false=>
    cases ht:((nth l i).bO== []) with
    | true=>simp
    | false=>simp[zO (show i<(h.set i (min (max (List.map (lenOf l false h) (nth l i).To).sum 1) 65)).length by simp;omega),zFR (show i<(h.set i (min (max (List.map (lenOf l false h) (nth l i).To).sum 1) 65)).length by simp;omega)]) zP3 (λh=>by simp only[zBD,yY (dF _),cP];rfl) l.length 0 h (by omega) z D
 have O:=zO5 (upd:=updL l b) (n:=l.length) (Inv:=zXG) (body:=λ(x:Int×(List Int))=>zBE l b x.1 x.2) (λi h=>((i:Int),h)) id (N:=l.length) (λr h Y z D=>by
  simp only[zBE,yF Y,cQ,K h z D,zA,zC (k:=r) (by omega)]) zP3 (λh=>by simp only[zBE,yY (dF _),cP];rfl) l.length 0 (List.replicate l.length 0) (by omega) (by simp) H
 have T:zB (λ(x:Int×(List Int))=>zBE l b x.1 x.2) (0,List.replicate l.length 0)=some (zHB (updL l b) l.length l.length (List.replicate l.length 0)):=O;rw[T];rfl
end
open Go.AV
theorem zRT {D:Type} [Inhabited D] {upd:List D->Nat->D} {n k:Nat} {z:List D} (h:z.length=n):(zHB upd n k z).length=n:=
 (zXE (upd:=upd) (n:=n) (Inv:=λ_=>True) (λ_ _ _ _ _=>trivial) k z h trivial).2
theorem z0K {l:List aC} (h:∀k,k+1<l.length->(nth l k).aT<(nth l (k+1)).aT):∀(d i:Nat),i+d+1<l.length->(nth l i).aT<(nth l (i+d+1)).aT
 | 0,i,hi=>h i hi
 | d+1,i,hi=>by
  have z:=z0K h d i (by omega);have D:=h (i+d+1) (by omega);have:i+(d+1)+1=i+d+1+1:=by omega
  rw[this];omega
theorem z6N {l:List aC} (O:∀k,k+1<l.length->mlt (nth l k) (nth l (k+1))):(∀k,k<l.length->¬fiI l (nth l k).aT true<(k:Int))↔∀k,k+1<l.length->(nth l (k+1)).aT≠(nth l k).aT:=by
 constructor;intro h k G e;have D:k<l.length:=by omega
 have Y:pM (nth l (k+1)).aT true (0+k) l[k]≠none:=by
  unfold pM;rw[dK ⟨by rw[e,u9 D],rfl⟩];simp
 obtain⟨i,hi,Z,T⟩:=zVT (p:=pM (nth l (k+1)).aT true) (l:=l) (k:=0) D Y;have K:fi l (nth l (k+1)).aT true=some i:=by
  unfold fi;rw[T];unfold pM;split;simp;rename_i hn;exfalso;have:uU (pM (nth l (k+1)).aT true) l 0=none:=by rw[T];unfold pM;rw[dQ hn]
  exact Y (zLJ this k D)
 refine h (k+1) G ?_;unfold fiI;rw[K];simp only[];omega;intro h k G z;have hs:∀k,k+1<l.length->(nth l k).aT<(nth l (k+1)).aT:=λk G=>by
  have a:=O k G;have b:=h k G;unfold mlt at a;omega
 unfold fiI at z;cases H:fi l (nth l k).aT true with
 | none=>exact absurd ⟨rfl,rfl⟩ (z31 H _ (wK G))
 | some i=>
  rw[H] at z;simp only[] at z;obtain⟨h1,h2,_⟩:=zH2 H;have:=z0K hs (k-i-1) i (by omega);rw[show i+(k-i-1)+1=k by omega] at this;omega
theorem yJR {n:Norm} (O:NSm n) (bi:wV n):Ver (zK6 n) (VD0 n):=by
 obtain⟨e1,ar,p1⟩:=yAR (l:=n.aI) (by have:=O.cl;omega)
 obtain⟨e2,au,p2⟩:=yJM (l:=n.aA) (by have:=O.de;omega) (λm D=>by have:=O.to m D;omega) (λm D=>by have:=O.tg m D;unfold MX;omega)
 obtain⟨e3,aw,p3⟩:=yJQ (s:=n.aJ) O.ex;have bg:=O.de;have hl:n.aA.length<=2000:=by omega
 have Y:∀m∈n.aA,m.To.length<=2000:=λm D=>by have:=O.to m D;omega
 unfold zK6;rw[ar,zA];by_cases h1:e1=0
 case neg=>
  have:(!decide (e1=0))=true:=by simp[h1]
  rw[this,cQ];exact⟨e1,rfl,by simp only[h1,eV];exact λh=>h1 (p1.2 h.cv)⟩
 rw[h1];simp only[dD,dG,cP];have cv:=p1.1 h1;rw[au,zA];by_cases h2:e2=0
 case neg=>
  have:(!decide (e2=0))=true:=by simp[h2]
  rw[this,cQ];exact⟨e2,rfl,by simp only[h2,eV];exact λh=>h2 (p2.2 h.mv)⟩
 rw[h2];simp only[dD,dG,cP];have mv:=p2.1 h2;rw[aw,zA];cases e3 with
 | false=>exact⟨11,rfl,by simp only[show ((11:Int)=0)=False by simp,eV];exact λh=>by have:=p3.2 h.ca;cases this⟩
 | true=>
 have ca:=p3.1 rfl;simp only[dG,cP];have l0:=kD (body:=λ(x:Int)=>zD8 n x) n.aA.length (λk=> ¬fiI n.aA (nth n.aA k).aT true<(k:Int)) (λy=>y≠0) (λk z=>by
  simp only[zD8,yF z,cQ,zO z,zA,zXL hl,zC (k:=k) (by omega)];exact wC (by simp) (by decide)) (λk z=>by simp only[zD8,yY z,cP])
 rw[z6N mv.lt] at l0;rcases l0 with ⟨l0,ne⟩ | ⟨y,K,l0,ne⟩
 case inr=>rw[l0];exact⟨y,rfl,by simp only[K,eV];exact λh=>ne h.ne⟩
 rw[l0];simp only[zA,eQ];have ak:∀m:aC,(m.bO== [])=decide (m.bO= []):=λm=>by cases m.bO<;>rfl
 have l1:=kD (body:=λ(x:Int)=>zD9 n x) n.aA.length (λk=>(nth n.aA k).bO= []->(nth n.aA k).To.length=1\/(nth n.aA k).To.length=2) (λy=>y≠0) (λk z=>by
  simp only[zD9,yF z,cQ,zO z,zA,zF,zC (k:=k) (by omega),ak];by_cases ht:(nth n.aA k).bO= []
  ·
   simp only[ht,dD,j7,zA,dT,true_implies];by_cases Z:((nth n.aA k).To.length:Int)=1
   ·
    simp only[Z,dD,dG,wJ,zA,dV,cP];exact .inl ⟨.inl (by omega),trivial⟩
   ·
    simp only[Z,dI,dO,j7,zA,dT];exact wC (by simp only[fW,dC];omega) (by decide)
  ·
   simp only[ht,dI,wJ,zA,dV,cP,false_implies];exact .inl ⟨trivial,trivial⟩) (λk z=>by simp only[zD9,yY z,cP])
 rw[u6 (p:=λm:aC=>m.bO= []->m.To.length=1\/m.To.length=2)] at l1;rcases l1 with ⟨l1,kd⟩ | ⟨y,K,l1,kd⟩
 case inr=>rw[l1];exact⟨y,rfl,by simp only[K,eV];exact λh=>kd h.kd⟩
 rw[l1];simp only[zA,eQ];have l2:=kD (body:=λ(x:Int)=>zEA n x) n.aA.length (λk=>hkE (nth n.aA k).aT=0/\((nth n.aA k).bO≠[]->clE n.aI (nth n.aA k).aT=0)) (λy=>y≠0) (λk z=>by
  simp only[zEA,yF z,cQ,zO z,zA,zF,yA4,zC (k:=k) (by omega),ak];by_cases Z:hkE (nth n.aA k).aT=0
  ·
   simp only[Z,dD,dG,dO,j7,zA,dT,fa,true_and];by_cases ht:(nth n.aA k).bO= []
   ·
    simp only[ht,dD,dG,wJ,zA,dV,cP];exact .inl ⟨λh=>absurd rfl h,trivial⟩
   ·
    simp only[ht,dI,dO,j7,zA,dT,zHA (show n.aI.length<=2000 by have:=O.cl;omega) cv]
    exact wC (by simp[ht]) (by decide)
  ·
   have:(!decide (hkE (nth n.aA k).aT=0))=true:=by simp[Z]
   simp only[this,dG,wJ,zA,dV,gS,cQ];exact .inr ⟨λh=>Z h.1,11,by decide,rfl⟩) (λk z=>by simp only[zEA,yY z,cP])
 rw[u6 (p:=λm:aC=>hkE m.aT=0/\(m.bO≠[]->clE n.aI m.aT=0))] at l2;rcases l2 with ⟨l2,z⟩ | ⟨y,K,l2,z⟩
 case inr=>rw[l2];exact⟨y,rfl,by simp only[K,eV];exact λh=>z λm D=>⟨h.hk m D,h.tc m D⟩⟩
 rw[l2];simp only[zA,eQ];have G:DS n.aA:=⟨λk al=>by
  have a:=mv.lt k al;have b:=ne k al;unfold mlt at a;omega,λm D=>(z m D).1,λm D=>by have:=mv.sz m D;omega⟩
 have T:=z10 G (by omega);rw[yFO hl Y,zA];have l3:=kD (body:=λ(x:Int)=>zEB n (zHB (zNT n.aA) n.aA.length n.aA.length (List.replicate n.aA.length false)) x) n.aA.length (λk=>nth (zHB (zNT n.aA) n.aA.length n.aA.length (List.replicate n.aA.length false)) k=true) (λy=>y≠0) (λk z=>by
  simp only[zEB,yF z,cQ,zO (show k<(zHB (zNT n.aA) n.aA.length n.aA.length (List.replicate n.aA.length false)).length by rw[zRT (by simp)];exact z),zA,zC (k:=k) (by omega)]
  exact wC (by simp) (by decide)) (λk z=>by simp only[zEB,yY z,cP])
 rw[yAV G] at l3;rcases l3 with ⟨l3,H⟩ | ⟨y,K,l3,H⟩
 case inr=>rw[l3];exact⟨y,rfl,by simp only[K,eV];exact λh=>H (T.1 h.ms).1⟩
 rw[l3];simp only[zA,eQ];have hD:=zTB G H;rw[z4A hl Y false,zA,z4A hl Y true,zA];have l4:=kD (body:=λ(x:Int)=>zEC n (zHB (updL n.aA false) n.aA.length n.aA.length (List.replicate n.aA.length 0)) (zHB (updL n.aA true) n.aA.length n.aA.length (List.replicate n.aA.length 0)) x) n.aA.length (λk=>wt n.aA true (nth n.aA k).aT<=64) (λy=>y≠0) (λk z=>by
  have bh:wt n.aA false (nth n.aA k).aT<=wt n.aA true (nth n.aA k).aT:=z3Q G _ _;simp only[zEC,yF z,cQ,zO (show k<(zHB (updL n.aA false) n.aA.length n.aA.length (List.replicate n.aA.length 0)).length by rw[zRT (by simp)];exact z),zO (show k<(zHB (updL n.aA true) n.aA.length n.aA.length (List.replicate n.aA.length 0)).length by rw[zRT (by simp)];exact z),zA,zF,z32 G hD (b:=false) k z,z32 G hD (b:=true) k z,zC (k:=k) (by omega)]
  by_cases h6:64<wt n.aA false (nth n.aA k).aT
  ·
   simp only[h6,dD,dG,wJ,zA,gS,cQ];exact .inr ⟨by omega,13,by decide,rfl⟩
  ·
   simp only[h6,dI,dO,j7,zA,fa];exact wC (by simp) (by decide)) (λk z=>by simp only[zEC,yY z,cP])
 rw[u6 (p:=λm:aC=>wt n.aA true m.aT<=64)] at l4;rcases l4 with ⟨l4,W⟩ | ⟨y,K,l4,W⟩
 ·
  rw[l4];exact⟨0,rfl,by simp only[true_iff];exact⟨cv,mv,ca,ne,kd,λm D=>(z m D).1,λm D=>(z m D).2,T.2 ⟨H,W⟩⟩⟩
 · rw[l4];exact⟨y,rfl,by simp only[K,eV];exact λh=>W (T.1 h.ms).2⟩
theorem yA5 {n:Norm} (H:NSm n) (z:wV n):zJJ n=some (usN n):=by obtain⟨e,G,D⟩:=yJR H z;unfold zJJ usN;rw[G,zA];by_cases k:e=0;rw[dK (D.1 k)];simp[k];rw[dQ (λh=>k (D.2 h))];simp[k]
section
variable {c:Collation} (hs:Sm c) {l:List bJ} (hcv:CV l) (hl:l.length<=2000)
include hs
theorem z4B (codes:List Int):zEZ (yL c) codes=some (zCD (yL c).aB codes):=z1W (zW3 hs) (yEM hs) rfl codes
theorem rM0 {text:List Int} (H:text.length<=2000):∀(d k:Nat),text.length-k=d->k<=text.length->zB (λ(x:Int×Int)=>vI text (yL c) x.1 x.2) (((zH0 (pfx (yL c).aB text) k:Nat):Int),((k+1:Nat):Int))=some ((uD (yL c).aB text:Nat):Int):=by
 intro d
 induction d with
 | zero=>
  intro k z D;have:k=text.length:=by omega
  subst this;refine zD ?_;have e:decide (((text.length+1:Nat):Int)<=(text.length:Int))=false:=by simp;omega
  simp only[vI,e,cP];rfl
 | succ d G=>
  intro k z D;have e:decide (((k+1:Nat):Int)<=(text.length:Int))=true:=by simp;omega
  have hb:vI text (yL c) ((zH0 (pfx (yL c).aB text) k:Nat):Int) ((k+1:Nat):Int)=some (.next (((zH0 (pfx (yL c).aB text) (k+1):Nat):Int),((k+1+1:Nat):Int))):=by
   simp only[vI,e,cQ,zDF (show k+1<=text.length by omega),zA,z4B hs,zC (k:=k+1) (by omega)];have h:zH0 (pfx (yL c).aB text) (k+1)=if pfx (yL c).aB text (k+1)=true then k+1 else zH0 (pfx (yL c).aB text) k:=rfl
   have:(zCD (yL c).aB (text.take (k+1))).2=pfx (yL c).aB text (k+1):=rfl;rw[this,h];cases pfx (yL c).aB text (k+1)<;>rfl
  rw[zG (body:=λ(x:Int×Int)=>vI text (yL c) x.1 x.2) hb];exact G (k+1) (by omega) (by omega)
include hcv hl
theorem rM1 {text:List Int}:∀(r p s:List Int) (h:Int) (k:Nat),text.drop k=r->k<=text.length->p.length+s.length+r.length<=2000->text.length<=2000->
  ∃(m:Nat) (q:List Int),zB (λ(x:(List Int)×Int×Int×(List Int))=>uT text l (yL c) x.1 x.2.1 x.2.2.1 x.2.2.2) (p,h,(k:Int),s)=some ((zC0 (λq=>(zCD (yL c).aB q).2) (clE l) r p s h).1,(m:Int),q)/\m<=text.length/\q++text.drop m=(zC0 (λq=>(zCD (yL c).aB q).2) (clE l) r p s h).2
 | [],p,s,h,k,G,Z,_,_=>by
  have Y:text.length<=k:=by have:=congrArg List.length G;simp at this;omega
  refine⟨k,s,zD ?_,Z,?_⟩
  ·simp only[uT,yY Y,zF,wJ,zA,dV,cP]
   rfl
  ·rw[G];simp[zC0]
 | x::r,p,s,h,k,G,Z,hn,ht=>by
  have z:k<text.length:=by have:=congrArg List.length G;simp at this;omega
  obtain⟨hx,H⟩:=List.cons_eq_cons.1 ((dA z).symm.trans G);simp only[dP] at hn;have hj:zJP p x=some (p++ [x]):=by
   unfold zJP;rw[jP (by simp;omega),zA,dS,jP (by simp;omega)]
   rfl
  by_cases D:clE l x=0
  ·refine⟨k,s,zD ?_,Z,?_⟩
   ·simp only[uT,yF z,zF,j7,zM z,zA,hx,zNS hl hcv,D,dD,dG,fP,cP]
    unfold zC0;rw[dK D]
   ·unfold zC0;rw[dK D,G]
  ·unfold zC0
   rw[dQ D];cases hb:((zCD (yL c).aB (p++ [x])).2&&decide (h<clE l x)) with
   | true=>
    rw[dK rfl];obtain⟨m,q,K,O,T⟩:=rM1 r (p++ [x]) s h (k+1) H (by omega) (by simp;omega) ht
    refine⟨m,q,?_,O,T⟩;rw[<-K];refine zG ?_;simp only[uT,yF z,zF,j7,zM z,zA,hx,zNS hl hcv,D,dI,dO,Bool.and_true,cQ,zHA hl hcv,hj,z4B hs,hb,zC (k:=k) (by omega)]
   | false=>
    rw[dQ (by simp)];obtain⟨m,q,K,O,T⟩:=rM1 r p (s++ [x]) (max h (clE l x)) (k+1) H (by omega) (by simp;omega) ht
    refine⟨m,q,?_,O,T⟩;rw[<-K];refine zG ?_;simp only[uT,yF z,zF,j7,zM z,zA,hx,zNS hl hcv,D,dI,dO,Bool.and_true,cQ,cP,zHA hl hcv,hj,z4B hs,hb,jP (show s.length+ [x].length<=4294967296 by simp;omega),zC (k:=k) (by omega)]
noncomputable def mtE (c:Collation) (l:List bJ) (text:List Int):List Int×List Int:=zC0 (λq=>(zCD (yL c).aB q).2) (clE l) (text.drop (uD (yL c).aB text)) (text.take (uD (yL c).aB text)) [] 0
theorem z15 {text:List Int} (K:text.length<=2000) (T:text≠[]):zIA l (yL c) text=some (if uD (yL c).aB text=0 then (text.take 1,text.drop 1,false) else ((mtE c l text).1,(mtE c l text).2,true)):=by
 have h:0<text.length:=e6.2 T;unfold zIA;have Y:=rM0 hs K text.length 0 (by omega) (by omega);have G:zB (λ(x:Int×Int)=>vI text (yL c) x.1 x.2) (0,1)=some ((uD (yL c).aB text:Nat):Int):=Y;rw[G,zA];by_cases H:uD (yL c).aB text=0;have D:decide (((uD (yL c).aB text:Nat):Int)=0)=true:=by simp[H]
 have s1:slc text 0 1=some (text.take 1):=zDF (b:=1) h;have s2:slc text 1 (text.length)=some (text.drop 1):=zFS (a:=1) h;rw[D,cQ,s1,zA,s2,zA,dK H];have D:decide (((uD (yL c).aB text:Nat):Int)=0)=false:=by simp;omega
 have z:uD (yL c).aB text<=text.length:=zO1 _ _;rw[D,cP,zDF z,zA,yIX (by simp;omega),zA,dQ H]
 obtain⟨m,q,r1,r2,O⟩:=rM1 hs hcv hl (text:=text) (text.drop (uD (yL c).aB text)) (text.take (uD (yL c).aB text)) [] 0 (uD (yL c).aB text) rfl z (by simp;omega) K
 have k:=zO2 (fd:=λq=>(zCD (yL c).aB q).2) (cl:=clE l) (text.drop (uD (yL c).aB text)) (text.take (uD (yL c).aB text)) [] 0;have hq:q.length+(text.drop m).length<=4294967296:=by
  have:=congrArg List.length O;rw[cZ] at this;have Z:=k.2.1;simp only[d9,eM,d6] at Z;omega
 rw[r1,zA];simp only[zFS r2,zA,jP hq,O];rfl
end
open Go.AV
theorem z4C {l:List aC} (hl:l.length<=2000) {b:Bool} {lists:List (List Int)} (hn:lists.length=l.length) (hb:∀e,(zFU l b lists e).length<=64) {text:List Int} (ht:text.length<=2000):zEF l lists text b=some (text.flatMap (zFU l b lists)):=by
 have key:∀(d k:Nat) (z:List Int),text.length-k=d->k<=text.length->z.length<=64*k->zB (λ(x:Int×(List Int))=>wG text l b lists x.1 x.2) ((k:Int),z)=some (z++(text.drop k).flatMap (zFU l b lists)):=by
  intro d
  induction d with
  | zero=>
   intro k z T Y Z;rw[dE (show text.length<=k by omega)];refine zD ?_;simp only[wG,yY (show text.length<=k by omega),cP,gQ,ez]
  | succ d ih=>
   intro k z T Y Z;have K:k<text.length:=by omega
   have aa:=hb text[k];have G:wG text l b lists (k:Int) z=some (.next (((k+1:Nat):Int),z++zFU l b lists text[k])):=by
    have D:app z (zFU l b lists text[k])=some (z++zFU l b lists text[k]):=jP (by omega);simp only[wG,yF K,cQ,zM K,zA,zXL hl,zC (k:=k) (by omega),yG6];unfold zFU at D ⊢;unfold fiI;cases H:fi l text[k] b with
    | none=>
     rw[H] at D;simp only[] at D;simp only[show decide ((0:Int)<= -1)=false by decide,cP,D,zA]
    | some m=>
     rw[H] at D;simp only[] at D;obtain⟨h4,_,_⟩:=zH2 H;have e:decide (0<=((m:Nat):Int))=true:=by simp
     simp only[e,cQ,zO (show m<lists.length by omega),zA,D]
   rw[zG (body:=λ(x:Int×(List Int))=>wG text l b lists x.1 x.2) (x:=((k:Int),z)) G,ih (k+1) _ (by omega) (by omega) (by rw[cZ];omega),dA K,ek,dB]
 unfold zEF;have h:=key text.length 0 [] (by omega) (by omega) (by simp);rw[et,dS] at h;have O:zB (λ(x:Int×(List Int))=>wG text l b lists x.1 x.2) (0,[])=some (text.flatMap (zFU l b lists)):=h;rw[O];rfl
theorem yJS {n:Norm} (h:GN n) (b:Bool):zLC n.aA b=some (z0J n.aA b):=by
 have Z:n.aA.length<=2000:=by have:=h.de;omega
 have H:∀{z:List (List Int)},zUJ n.aA b z->∀e,(zFU n.aA b z e).length<=64:=λD e=>d7 (z34 h.ds h.dd D e) (h.len b e);unfold zLC;rw[zW0 (by omega),zA];have O:∀(z:List (List Int)),z.length=n.aA.length->zUJ n.aA b z->zB (λ(x:Int×(List (List Int)))=>zCK n.aA b x.1 x.2) (0,z)=some (zO3 (zTG n.aA b) n.aA.length 0 z):=λz G D=>
  zO4 (upd:=zTG n.aA b) (n:=n.aA.length) (Inv:=zUJ n.aA b) (body:=λ(x:Int×(List (List Int)))=>zCK n.aA b x.1 x.2) (λi z=>((i:Int),z)) id (λi z hi G D=>by
   have K:=z4C Z (b:=b) G (H D) (text:=(nth n.aA i).To) (h.ds.len _ (wK hi));simp only[zCK,yF hi,cQ,zF,zO hi,zO (show i<z.length by omega),zA,K,zFR (show i<z.length by omega),zC (k:=i) (by omega)];unfold zTG;cases b with
   | true=>simp[wJ]
   | false=>
    simp only[dO,j7,zA,fa];cases ht:((nth n.aA i).bO== []) with
    | true=>simp
    | false=>simp[yFC (show i<z.length by omega)]) (zP4 h.ds h.dd) (λz=>by simp only[zCK,yY (dF _),cP];rfl) n.aA.length 0 z (by omega) G D
 have T:=zO5 (upd:=zTG n.aA b) (n:=n.aA.length) (Inv:=zUJ n.aA b) (body:=λ(x:Int×(List (List Int)))=>zCL n.aA b x.1 x.2) (λi z=>((i:Int),z)) id (N:=n.aA.length) (λr z K G D=>by
  simp only[zCL,yF K,cQ,O z G D,zA,zC (k:=r) (by omega)]) (zP4 h.ds h.dd) (λz=>by simp only[zCL,yY (dF _),cP];rfl) n.aA.length 0 (List.replicate n.aA.length []) (by omega) (by simp) yG4
 have Y:zB (λ(x:Int×(List (List Int)))=>zCL n.aA b x.1 x.2) (0,List.replicate n.aA.length [])=some (z0J n.aA b):=T;rw[Y];rfl
theorem yFQ {n:Norm} (h:GN n) (b:Bool) {text:List Int} (z:text.length<=2000):zM6 n text b=some (text.flatMap (fu n.aA b)):=by
 have k:n.aA.length<=2000:=by have:=h.de;omega
 unfold zM6;have e:∀c,zFU n.aA b (z0J n.aA b) c=fu n.aA b c:=yFK h.ds h.dd;rw[yJS h,zA,z4C (lists:=z0J n.aA b) k (zRT (by simp)) (λc=>by rw[e];exact h.len b c) z,zA,show zFU n.aA b (z0J n.aA b)=fu n.aA b from funext e]
section
variable {l:List bJ} (hcv:CV l) (hl:l.length<=2000)
include hcv hl
theorem sIn {text:List Int} {v:Nat} (H:v<text.length):∀(r s:List Int),r.length<=2000->zB (λ(q:Int×(List Int))=>zB1 (clE l text[v]) l text (v:Int) q.1 q.2) ((r.length:Int),r.reverse++text[v]::s)=some (vT (ltC (clE l)) r text[v] s)
 | [],s,_=>by
  refine zD ?_;simp[zB1,zF,wJ,zA,vT]
 | y::r,s,K=>by
  simp only[dP] at K;have D:decide ((0:Int)<((r.length+1:Nat):Int))=true:=by simp only[c8];omega
  have G:(y::r).reverse++text[v]::s=r.reverse++y::text[v]::s:=by simp
  have i1:zV (r.reverse++y::text[v]::s) (r.length:Int)=some y:=wL (by simp);have i2:zV (r.reverse++y::text[v]::s) ((r.length+1:Nat):Int)=some text[v]:=by
   have:=wL (p:=r.reverse++ [y]) (s:=s) (x:=text[v]) (k:=r.length+1) (by simp);simpa using this
  have O:uV (r.reverse++y::text[v]::s) ((r.length+1:Nat):Int) y=some (r.reverse++y::y::s):=by
   have:=uI (p:=r.reverse++ [y]) (s:=s) (x:=text[v]) (y:=y) (k:=r.length+1) (by simp);simpa using this
  have i3:zV (r.reverse++y::y::s) (r.length:Int)=some y:=wL (by simp);have T:uV (r.reverse++y::y::s) (r.length:Int) text[v]=some (r.reverse++text[v]::y::s):=uI (by simp);rw[G];show zB _ (((r.length+1:Nat):Int),_)=_;by_cases z:0<clE l text[v]
  ·by_cases h:clE l text[v]<clE l y
   ·rw[zG (x':=((r.length:Int),r.reverse++text[v]::(y::s))) (by
     simp only[zB1,zF,D,z,dD,fQ,zCA (k:=r.length) (by omega),j7,i1,zA,zHA hl hcv,h,cQ,i2,O,zM H,i3,T])]
    rw[sIn H r (y::s) (by omega)];have:ltC (clE l) text[v] y=true:=by unfold ltC;simp[z,h]
    simp[vT,this]
   ·refine zD ?_
    have:ltC (clE l) text[v] y=false:=by unfold ltC;simp[h]
    simp only[zB1,zF,D,z,dD,fQ,zCA (k:=r.length) (by omega),j7,i1,zA,zHA hl hcv,h,dI,fP,cP,vT,this,dR,cY,G]
  ·refine zD ?_
   have:ltC (clE l) text[v] y=false:=by unfold ltC;simp[z]
   simp only[zB1,zF,D,z,dI,fP,wJ,zA,dV,cP,vT,this,dR,cY,G]
theorem yFR {text:List Int} (ht:text.length<=900):zJN l text=some (csE (clE l) text):=by
 have key:∀(d k:Nat) (z:List Int),text.length-k=d->k<=text.length->z.length=k->zB (λ(x:Int×(List Int))=>zAS text l x.1 x.2) ((k:Int),z)=some (uK (ltC (clE l)) (text.drop k) z):=by
  intro d
  induction d with
  | zero=>
   intro k z K O T;rw[dE (show text.length<=k by omega)];refine zD ?_;simp only[zAS,yY (show text.length<=k by omega),cP];rfl
  | succ d Z=>
   intro k z K O T;have D:k<text.length:=by omega
   have hi:=sIn hcv hl D z.reverse [] (by simp;omega)
   rw[fN,gL] at hi;have hb:zAS text l (k:Int) z=some (.next (((k+1:Nat):Int),vT (ltC (clE l)) z.reverse text[k] [])):=by
    have G:wi (((z++ [text[k]]).length:Int)-1)=(z.length:Int):=by
     have Y:((z++ [text[k]]).length:Int)=(z.length:Int)+1:=by simp
     rw[Y,xN (by omega) (by omega)];omega
    simp only[zAS,yF D,cQ,zM D,zA,jP (show z.length+ [text[k]].length<=4294967296 by simp;omega),zHA hl hcv,G,hi,zC (k:=k) (by omega)]
   rw[zG (body:=λ(x:Int×(List Int))=>zAS text l x.1 x.2) (x:=((k:Int),z)) hb,Z (k+1) _ (by omega) (by omega) (by rw[zS6];simp;omega),dA D]
   rfl
 unfold zJN;have h:=key text.length 0 [] (by omega) (by omega) rfl;rw[et] at h;have H:zB (λ(x:Int×(List Int))=>zAS text l x.1 x.2) (0,[])=some (csE (clE l) text):=h;rw[H];rfl
end
theorem yA6 {n:Norm} (z:NSm n) (k:wV n) {text:List Int} {b:Bool} (H:text.length<=2000) (G:(zH1 n b text).length<=900):zJO n text b=some (zBG n b text):=by
 have h:=zXD z k;unfold zJO;rw[yA5 z k,zA,yFQ h b H,zA];have e:=yFR h.cv (by have:=h.cl;omega) G
 have D:zJN (usN n).aI (text.flatMap (fu (usN n).aA b))=some (zBG n b text):=e;rw[D];rfl
section
variable {c:Collation} (hs:Sm c) (hg:∀g∈c.aE,g.bT.length<=MX) {n:Norm} (hl:(xM n).length<=2000)
include hs hg hl
theorem yL6:∀(k:Nat) (text:List Int) (b:Bool) (acc:List aK),text.length<=k->text.length<=2000->acc.length+2000*text.length<=100000000->
  zB (λ(x:(List Int)×Bool×(List aK))=>zAT (usN n) (yL c) c x.1 x.2.1 x.2.2) (text,b,acc)=some (b&&(wk c (xM n) text).2,acc++(wk c (xM n) text).1):=by
 intro k
 induction k with
 | zero=>
  intro text b acc h _ _;have:text= []:=cS (by omega);subst this;refine zD ?_;simp[zAT,zLN]
 | succ k ih=>
  intro text b acc h ht ha;by_cases z:text= []
  ·subst z
   refine zD ?_;simp[zAT,zLN]
  ·have Z:0<text.length:=e6.2 z
   have ab:=zVS (c:=c) (l:=xM n) z;have h2:=yAQ hs (l:=xM n) text;have e0:decide ((0:Int)<(text.length:Int))=true:=by simp;omega
   have Y:=z15 hs (z0E n) hl ht z;rw[zTF] at Y;have G:app acc (stE c (xM n) text).2.2=some (acc++(stE c (xM n) text).2.2):=jP (by omega);have hb:zAT (usN n) (yL c) c text b acc=some (.next ((stE c (xM n) text).2.1,(b&&decide (uD (yL c).aB text≠0)),acc++(stE c (xM n) text).2.2)):=by
    unfold zAT;rw[e0,cQ,Y,zA,<-zTF];by_cases K:uD (yL c).aB text=0
    ·have D:stE c (xM n) text=(1,text.drop 1,zQ7 (yL c) (nth text 0)):=by unfold stE;rw[dK K]
     rw[D] at G ⊢;obtain⟨y,ys,rfl⟩:=List.exists_cons_of_ne_nil z;have T:zV ((y::ys).take 1) (0:Int)=some (nth (y::ys) 0):=rfl;simp only[] at G;simp only[K,dH,T,zA,zLK hs hg,cP,G,zF];simp
    ·have D:stE c (xM n) text=(((mtE c (xM n) text).1.length:Int),(mtE c (xM n) text).2,(zCD (yL c).aB (mtE c (xM n) text).1).1):=by unfold stE;rw[dQ K];rfl
     have H:=(yAP (c:=c) (l:=xM n) z).1;rw[D] at G H ⊢;have O:0<(mtE c (xM n) text).1.length:=by simp only[] at H;omega
     have T:zV (mtE c (xM n) text).1 (0:Int)=some (nth (mtE c (xM n) text).1 0):=zO (k:=0) O;simp only[] at G;simp only[K,cY,T,zA,zLK hs hg,cQ,z4B hs,G,zF];simp[K]
   rw[zG (body:=λ(x:(List Int)×Bool×(List aK))=>zAT (usN n) (yL c) c x.1 x.2.1 x.2.2) (x:=(text,b,acc)) hb,ih _ _ _ (by omega) (by omega) (by rw[cZ];omega),zRN z,dB,Bool.and_assoc]
end
theorem zTI {n:Norm} {c:Collation} (k:NSm n) (h:wV n) (D:Sm c) (z:∀g∈c.aE,g.bT.length<=MX) {text:List Int} (O:text.length<=2000) (H:(zH1 n false text).length<=900):zM7 n c text=some (wk c (xM n) (zBG n false text)):=by
 have K:(xM n).length<=2000:=by have:=zP2 k;omega
 have G:(zBG n false text).length<=2000:=by rw[zG9];omega
 unfold zM7;rw[yA5 k h,zA,zS4 D z,zA,yA6 k h O H,zA,yL6 D z K _ _ true [] (dF _) G (by simp;omega)]
 simp
open Go.AV
open Go.AV
open Go.AV
def ckO (o:Options):Int:=if o.aG<1\/4<o.aG then 1 else if o.aD<1\/3<o.aD then 8 else 0
def xA (o:Options):Options:=if ckO o=0 then o else {aG:=3,aD:=1,aN:=false,aQ:=false}
theorem yJT (o:Options):zDA o=some (ckO o):=by
 unfold zDA ckO;rw[zF];by_cases h:o.aG<1\/4<o.aG;have:(decide (o.aG<1) ||decide (4<o.aG))=true:=by simpa using h
 rw[this,dK h];rfl;have:(decide (o.aG<1) ||decide (4<o.aG))=false:=by simpa using h
 rw[this,dQ h,cP];by_cases k:o.aD=1;simp[k];by_cases z:o.aD=2;simp[z];by_cases D:o.aD=3;simp[D];rw[dK (by omega)];simp[k,z,D]
theorem yA7 (o:Options):zLD o=some (ckO o):=by
 unfold zLD ckO;rw[zF,zF];by_cases h:o.aG<1\/4<o.aG;have:(decide (o.aG<1) ||decide (4<o.aG))=true:=by simpa using h
 rw[this,dK h];rfl;have:(decide (o.aG<1) ||decide (4<o.aG))=false:=by simpa using h
 rw[this,dQ h,cP];by_cases k:o.aD<1\/3<o.aD;have:(decide (o.aD<1) ||decide (3<o.aD))=true:=by simpa using k
 rw[this,dK k];rfl;have:(decide (o.aD<1) ||decide (3<o.aD))=false:=by simpa using k
 rw[this,dQ k];rfl
theorem z4D (o:Options):vZ o=some (xA o):=by unfold vZ xA;rw[yJT,zA];by_cases h:ckO o=0<;>simp[h]
theorem zVW (o:Options):zFC o=some (xA o):=by unfold zFC xA;rw[yA7,zA];by_cases h:ckO o=0<;>simp[h]
theorem zNU (o:Options):ckO (xA o)=0:=by unfold xA;split;assumption;rfl
theorem yG8 {o:Options} (h:ckO o=0):xA o=o:=by unfold xA;rw[dK h]
theorem yA8 {o:Options} (h:ckO o=0):1<=o.aG/\o.aG<=4/\1<=o.aD/\o.aD<=3:=by unfold ckO at h;split at h;cases h;split at h;cases h;omega
def nz (x:Int):List Int:=if x=0 then [] else [x]
def col:Nat->a8->Int
 | 0,w=>w.x0
 | 1,w=>w.x1
 | 2,w=>w.x2
 | _,w=>w.x3
def row (k:Nat) (L:List a8):List Int:=L.flatMap λw=>nz (col k w)
def zJ2 (f:Bool) (e:aK):Bool:=if e.aD=true\/e.aP≠0 then e.aD else f
def zVX (e:aK):Prop:=e.aP=0/\e.aH=0/\e.aL=0
instance (e:aK):Decidable (zVX e):=by unfold zVX;infer_instance
def tr1 (v:Int) (f:Bool) (e:aK):a8:=
 if v=1 then {x0:=e.aP,x1:=e.aH,x2:=e.aL,x3:=if zVX e then 0 else 65535}
 else if zJ2 f e=true then {x0:=0,x1:=0,x2:=0,x3:=if v=3/\e.aD=true then e.aP else 0}
 else {x0:=e.aP,x1:=e.aH,x2:=e.aL,x3:=if v=3/\¬zVX e then 65535 else 0}
def trL (v:Int):Bool->List aK->List a8
 | _,[]=>[]
 | f,e::l=>tr1 v f e::trL v (zJ2 f e) l
theorem zO7 (v:Int):∀(l:List aK) (f:Bool),(trL v f l).length=l.length
 | [],_=>rfl
 | e::l,f=>by simp[trL,zO7 v l]
theorem yA9 {v:Int} (G:1<=v/\v<=3) (e:aK) (f:Bool):uF e v f=some (tr1 v f e,if v=1 then f else zJ2 f e):=by obtain⟨p,s,t,D⟩:=e;unfold uF tr1 zJ2 zVX;rcases (by omega:v=1\/v=2\/v=3) with rfl | rfl | rfl<;>cases D<;>cases f<;>by_cases h:p=0<;>by_cases k:s=0<;>by_cases z:t=0<;>simp[h,k,z]
theorem yL7 (f g:Bool) (e:aK):tr1 1 f e=tr1 1 g e:=rfl
theorem yG9:∀(l:List aK) (f g:Bool),trL 1 f l=trL 1 g l
 | [],_,_=>rfl
 | e::l,f,g=>by
  show tr1 1 f e::trL 1 _ l=tr1 1 g e::trL 1 _ l;rw[yL7 f g,yG9 l (zJ2 f e) (zJ2 g e)]
theorem z17 (x:Int):(nz x).length<=1:=by unfold nz;split<;>simp
theorem zTJ {r:List Int} {x:Int} (h:r.length+1<=4294967296):(cond (!decide (x=0)) ((app r [x]).bind λq=>some q) (some r))=some (r++nz x):=by unfold nz;by_cases k:x=0;simp[k];simp only[k,dI,dO,cQ,cY];rw[jP (by simpa using h)];rfl
theorem wl1 (t:a8×Bool) {r0 h k z:List Int} {n:Nat} (T:n+1<=4294967296) (G:r0.length<=n) (H:h.length<=n) (K:k.length<=n) (O:z.length<=n):
  zB (λ(x:Int×(List Int)×(List Int)×(List Int)×(List Int))=>jL t x.1 x.2.1 x.2.2.1 x.2.2.2.1 x.2.2.2.2) (0,r0,h,k,z)=some (r0++nz t.1.x0,h++nz t.1.x1,k++nz t.1.x2,z++nz t.1.x3):=by
 have D:zV [t.1.x0,t.1.x1,t.1.x2,t.1.x3] (0:Int)=some t.1.x0:=rfl;have i1:zV [t.1.x0,t.1.x1,t.1.x2,t.1.x3] (1:Int)=some t.1.x1:=rfl;have i2:zV [t.1.x0,t.1.x1,t.1.x2,t.1.x3] (2:Int)=some t.1.x2:=rfl;have i3:zV [t.1.x0,t.1.x1,t.1.x2,t.1.x3] (3:Int)=some t.1.x3:=rfl;rw[zG (x':=(1,r0++nz t.1.x0,h,k,z)) (by
  simp only[jL,D,zA,zTJ (x:=t.1.x0) (show r0.length+1<=4294967296 by omega)];rfl)]
 rw[zG (x':=(2,r0++nz t.1.x0,h++nz t.1.x1,k,z)) (by
  simp only[jL,i1,zA,zTJ (x:=t.1.x1) (show h.length+1<=4294967296 by omega)];rfl)]
 rw[zG (x':=(3,r0++nz t.1.x0,h++nz t.1.x1,k++nz t.1.x2,z)) (by
  simp only[jL,i2,zA,zTJ (x:=t.1.x2) (show k.length+1<=4294967296 by omega)];rfl)]
 rw[zG (x':=(4,r0++nz t.1.x0,h++nz t.1.x1,k++nz t.1.x2,z++nz t.1.x3)) (by
  simp only[jL,i3,zA,zTJ (x:=t.1.x3) (show z.length+1<=4294967296 by omega)];rfl)]
 exact zD (by simp only[jL];rfl)
theorem wl0 {l:List aK} {o:Options} (Z:1<=o.aD/\o.aD<=3) (hl:l.length<=4000000000):∀(m k:Nat) (f:Bool) (r0 z D G:List Int),k+m=l.length->r0.length<=k->z.length<=k->D.length<=k->G.length<=k->
  zB (λ(x:Int×Bool×(List Int)×(List Int)×(List Int)×(List Int))=>vG l o x.1 x.2.1 x.2.2.1 x.2.2.2.1 x.2.2.2.2.1 x.2.2.2.2.2) ((k:Int),f,r0,z,D,G)=
   some (r0++row 0 (trL o.aD f (l.drop k)),z++row 1 (trL o.aD f (l.drop k)),D++row 2 (trL o.aD f (l.drop k)),G++row 3 (trL o.aD f (l.drop k)))
 | 0,k,f,r0,z,D,G,h,_,_,_,_=>by
  rw[dE (by omega)];refine zD ?_;simp only[vG,yY (show l.length<=k by omega),cP,trL,row,gQ,ez]
 | m+1,k,f,r0,z,D,G,h,O,H,T,Y=>by
  have K:k<l.length:=by omega
  have q:∀{r:List Int} (x:Int),r.length<=k->(r++nz x).length<=k+1:=λx hr=>by rw[cZ];have:=z17 x;omega
  rw[zG (x':=(((k+1:Nat):Int),(if o.aD=1 then f else zJ2 f l[k]),r0++nz (tr1 o.aD f l[k]).x0,z++nz (tr1 o.aD f l[k]).x1,D++nz (tr1 o.aD f l[k]).x2,G++nz (tr1 o.aD f l[k]).x3)) (by
   simp only[vG,yF K,cQ,zM K,zA,yA9 Z,wl1 _ (n:=k) (by omega) O H T Y,zC (k:=k) (by omega)])]
  rw[wl0 Z hl m (k+1) _ _ _ _ _ (by omega) (q _ O) (q _ H) (q _ T) (q _ Y),dA K];have e:trL o.aD (if o.aD=1 then f else zJ2 f l[k]) (l.drop (k+1))=trL o.aD (zJ2 f l[k]) (l.drop (k+1)):=by
   by_cases H:o.aD=1
   ·rw[H];exact yG9 _ _ _
   ·rw[dQ H]
  rw[e];simp[trL,row,col]
theorem yBA:∀(n:Nat) (a m b:List Int),m.length=n->a.length=b.length->a.length+m.length+b.length<=9000000000000000000->
  zB (λ(x:Int×Int×(List Int))=>jK x.1 x.2.1 x.2.2) ((a.length:Int),((a.length+m.length:Nat):Int)-1,a++m++b)=some (a++m.reverse++b):=by
 intro n
 induction n using Nat.strongRecOn with
 | ind n ih=>
  intro a m b hn Z hb;by_cases z:m.length<=1
  ·have e:decide ((a.length:Int)<((a.length+m.length:Nat):Int)-1)=false:=by simp;omega
   refine zD ?_;have hr:m.reverse=m:=by
    match m,z with
    | [],_=>rfl
    | [x],_=>rfl
   simp only[jK,e,cP,hr]
  ·obtain⟨x,G,rfl⟩:=List.exists_cons_of_ne_nil (l:=m) (λe=>by rw[e] at z;simp at z)
   have D:G≠[]:=λe=>by rw[e] at z;simp at z
   obtain⟨h,y,rfl⟩:∃h y,G=h++ [y]:=⟨G.dropLast,G.getLast D,(List.dropLast_concat_getLast D).symm⟩;simp only[dP,cZ,d6] at hn hb z;have e:decide ((a.length:Int)<((a.length+(x::(h++ [y])).length:Nat):Int)-1)=true:=by simp;omega
   have K:((a.length+(x::(h++ [y])).length:Nat):Int)-1=((a.length+1+h.length:Nat):Int):=by simp;omega
   have O:zV (a++(x::(h++ [y]))++b) (((a.length+1+h.length:Nat):Int))=some y:=by
    rw[zM (by simp;omega)];congr 1;rw[List.getElem_append_left (by simp;omega),gB (by omega)]
    simp only[show a.length+1+h.length-a.length=h.length+1 by omega,List.getElem_cons_succ];rw[gB (by omega)];simp
   have T:zV (a++(x::(h++ [y]))++b) ((a.length:Nat):Int)=some x:=by
    rw[zM (by simp)];congr 1;rw[List.getElem_append_left (by simp),gB (by omega)];simp
   have s1:uV (a++(x::(h++ [y]))++b) ((a.length:Nat):Int) y=some (a++(y::(h++ [y]))++b):=by
    rw[zFR (by simp)];congr 1;simp
   have Y:zV (a++(y::(h++ [y]))++b) (((a.length+1+h.length:Nat):Int))=some y:=by
    rw[zM (by simp;omega)];congr 1;rw[List.getElem_append_left (by simp;omega),gB (by omega)]
    simp only[show a.length+1+h.length-a.length=h.length+1 by omega,List.getElem_cons_succ];rw[gB (by omega)];simp
   have s2:uV (a++(y::(h++ [y]))++b) (((a.length+1+h.length:Nat):Int)) x=some ((a++ [y])++h++(x::b)):=by
    rw[zFR (by simp;omega)];congr 1;have H:a++(y::(h++ [y]))++b=(a++y::h)++y::b:=by simp
    rw[H,show a.length+1+h.length=(a++y::h).length by simp;omega,List.set_append_right _ _ (dF _)]
    simp
   rw[zG (x':=(((a++ [y]).length:Int),(((a++ [y]).length+h.length:Nat):Int)-1,(a++ [y])++h++(x::b))) (by
    simp only[jK,e,cQ];rw[K];simp only[O,T,s1,Y,s2,zA];rw[zC (k:=a.length) (by omega),xN (by omega) (by omega)];simp only[cZ,dP,d6])]
   rw[ih h.length (by omega) (a++ [y]) h (x::b) rfl (by simp;omega) (by simp;omega)]
   simp
theorem yJU {l:List Int} (h:l.length<=4294967296):xP l=some l.reverse:=by
 unfold xP;have:=yBA l.length [] l [] rfl rfl (by simp;omega)
 simp only[dS,ez,d6,eD] at this;rw[xN (by omega) (by omega)];rw[show ((0:Nat):Int)=0 from rfl] at this;rw[this];rfl
def z6O (b:Bool) (l:List Int):List Int:=if b=true then l.reverse else l
def rows (b:Bool) (L:List a8):List (List Int):=[row 0 L,z6O b (row 1 L),row 2 L,row 3 L]
def wts (l:List aK) (o:Options):List (List Int):=(rows o.aN (trL o.aD false l)).take o.aG.toNat
theorem zRU (k:Nat):∀(L:List a8),(row k L).length<=L.length
 | []=>by simp[row]
 | w::L=>by
  have:=zRU k L;have h:=z17 (col k w);simp only[row,ek,cZ,dP] at this ⊢;omega
theorem zJ3 {l:List aK} (G:l.length<=4000000000) (o:Options):wQ l o=some (wts l (xA o)):=by
 have hb:=yA8 (zNU o);unfold wQ wts;have D:({aG:=o.aG,aD:=o.aD,aN:=o.aN,aQ:=o.aQ}:Options)=o:=rfl;rw[D,z4D,zA];generalize xA o=q at*;have k:=wl0 (l:=l) (o:=q) hb.2.2 G l.length 0 false [] [] [] [] (by omega) (by simp) (by simp) (by simp) (by simp);simp only[et,dS] at k;rw[show ((0:Nat):Int)=0 from rfl] at k;unfold zB4;rw[zA,k,zA];have H:(cond q.aN ((xP (row 1 (trL q.aD false l))).bind λz=>some z) (some (row 1 (trL q.aD false l))))=some (z6O q.aN (row 1 (trL q.aD false l))):=by
  cases q.aN with
  | false=>rfl
  | true=>
   have:=zRU 1 (trL q.aD false l);rw[zO7] at this;rw[cQ,yJU (by omega)];rfl
 simp only[H,zA];have K:q.aG=((q.aG.toNat:Nat):Int):=by omega
 have h:slc [row 0 (trL q.aD false l),z6O q.aN (row 1 (trL q.aD false l)),row 2 (trL q.aD false l),row 3 (trL q.aD false l)] 0 q.aG=some ((rows q.aN (trL q.aD false l)).take q.aG.toNat):=by
  rw[K,zDF (by simp;omega)];rfl
 rw[h,zA,jP (by simp[rows];omega)]
 rfl
open Go.AV
theorem yBB {l:List aK} {v:Int} (T:1<=v/\v<=3) (G:l.length<=4000000000):∀(m k:Nat) (f:Bool) (acc:List a8),k+m=l.length->acc.length<=k->
  zB (λ(x:Bool×Int×(List a8))=>zCS l v x.1 x.2.1 x.2.2) (f,(k:Int),acc)=some (acc++trL v f (l.drop k))
 | 0,k,f,acc,h,_=>by
  rw[dE (by omega)];refine zD ?_;simp only[zCS,yY (show l.length<=k by omega),cP,trL,ez]
 | m+1,k,f,acc,h,Z=>by
  have z:k<l.length:=by omega
  rw[zG (x':=(zJ2 f l[k],((k+1:Nat):Int),acc++ [tr1 v f l[k]])) (by
   simp only[zCS,yF z,cQ,zM z,zA,zF,zC (k:=k) (by omega)];generalize l[k]=e;have D:∀w:a8,app acc [w]=some (acc++ [w]):=λw=>jP (by simp;omega)
   obtain⟨p,s,t,Y⟩:=e;unfold tr1 zJ2 zVX;rcases (by omega:v=1\/v=2\/v=3) with rfl | rfl | rfl<;>cases Y<;>cases f<;>by_cases H:p=0<;>by_cases K:s=0<;>by_cases O:t=0<;>simp[H,K,O,D])]
  rw[yBB T G m (k+1) _ _ (by omega) (by simp;omega),dA z]
  simp[trL]
theorem z18 {l:List aK} {v:Int} (k:1<=v/\v<=3) (h:l.length<=4000000000):zIB l v=some (trL v false l):=by unfold zIB;have:=yBB k h l.length 0 false [] (by omega) (by simp);rw[show ((0:Nat):Int)=0 from rfl] at this;rw[this];simp
theorem yN8 (w:a8) {k:Nat} (h:k<4):zV [w.x0,w.x1,w.x2,w.x3] (k:Int)=some (col k w):=by
 match k,h with
 | 0,_=>rfl
 | 1,_=>rfl
 | 2,_=>rfl
 | 3,_=>rfl
def zJ4 (b:Bool) (k:Nat) (L:List a8):List a8:=if k=1/\b=true then L.reverse else L
theorem z0L (b:Bool) (k:Nat) (L:List a8):(zJ4 b k L).length=L.length:=by unfold zJ4;split;exact gL;rfl
theorem rw1 {L:List a8} {o:Options} {q:Nat} (O:q<4) (Z:L.length<=4000000000):∀(m k:Nat) (acc:List Int),k+m=L.length->acc.length<=k->
  zB (λ(x:Int×(List Int))=>zCT L (q:Int) o x.1 x.2) ((k:Int),acc)=some (acc++row q ((zJ4 o.aN q L).drop k))
 | 0,k,acc,h,_=>by
  rw[dE (by rw[z0L];omega)]
  refine zD ?_;simp only[zCT,yY (show L.length<=k by omega),cP,row,gQ,ez]
 | m+1,k,acc,h,ha=>by
  have D:k<L.length:=by omega
  have G:k<(zJ4 o.aN q L).length:=by rw[z0L];exact D
  have hi:∃j:Nat,j<L.length/\cond (decide ((q:Int)=1)&&o.aN) (some (wi ((wi ((L.length:Int)-1))-(k:Int)))) (some (k:Int))=some (j:Int)/\L[j]? =some (zJ4 o.aN q L)[k]:=by
   unfold zJ4;by_cases z:q=1/\o.aN=true
   ·have e:(decide ((q:Int)=1)&&o.aN)=true:=by simp[z.1,z.2]
    refine⟨L.length-1-k,by omega,?_,?_⟩
    ·rw[e,cQ,xN (n:=(L.length:Int)-1) (by omega) (by omega),xN (by omega) (by omega)]
     congr 1;omega
    ·simp only[z,iv,dH]
     rw[List.getElem_reverse,cV (by omega)]
   ·have e:(decide ((q:Int)=1)&&o.aN)=false:=by
     cases hb:o.aN with
     | false=>simp
     | true=>
      have:q≠1:=λe=>z ⟨e,hb⟩;simp;omega
    refine⟨k,D,by rw[e,cP],?_⟩;simp only[z,cY];rw[cV D]
  obtain⟨j,K,T,H⟩:=hi;rw[cV K] at H;have Y:zV L (j:Int)=some (zJ4 o.aN q L)[k]:=by rw[zM K];exact H
  rw[zG (x':=(((k+1:Nat):Int),acc++nz (col q (zJ4 o.aN q L)[k]))) (by
   simp only[zCT,yF D,cQ,zF,T,zA,Y,yN8 _ O,zTJ (x:=col q (zJ4 o.aN q L)[k]) (show acc.length+1<=4294967296 by omega),zC (k:=k) (by omega)])]
  rw[rw1 O Z m (k+1) _ (by omega) (by rw[cZ];have:=z17 (col q (zJ4 o.aN q L)[k]);omega),dA G]
  simp only[row,ek,dB]
theorem yJV (x:Int):(nz x).reverse=nz x:=by unfold nz;split<;>rfl
theorem z4F (k:Nat):∀(L:List a8),row k L.reverse=(row k L).reverse
 | []=>rfl
 | w::L=>by
  have:=z4F k L;simp only[row] at this ⊢;simp[this,yJV]
theorem yBC (b:Bool) (L:List a8) {q:Nat} (h:q<4):(rows b L)[q]? =some (row q (zJ4 b q L)):=by
 match q,h with
 | 0,_=>simp[rows,zJ4]
 | 1,_=>cases b<;>simp[rows,zJ4,z6O,z4F]
 | 2,_=>simp[rows,zJ4]
 | 3,_=>simp[rows,zJ4]
theorem rw0 {L:List a8} {o:Options} (T:1<=o.aG/\o.aG<=4) (H:L.length<=4000000000):∀(m k:Nat) (acc:List (List Int)),k+m=o.aG.toNat->acc.length=k->
  zB (λ(x:Int×(List (List Int)))=>zCU o L x.1 x.2) ((k:Int),acc)=some (acc++((rows o.aN L).take o.aG.toNat).drop k)
 | 0,k,acc,h,_=>by
  rw[dE (by simp[rows];omega)]
  have e:decide ((k:Int)<o.aG)=false:=by simp;omega
  refine zD ?_;simp only[zCU,e,cP,ez]
 | m+1,k,acc,h,Y=>by
  have e:decide ((k:Int)<o.aG)=true:=by simp;omega
  have z:k<4:=by omega
  have K:=rw1 (o:=o) z H L.length 0 [] (by omega) (by simp);rw[show ((0:Nat):Int)=0 from rfl,et,dS] at K;rw[zG (x':=(((k+1:Nat):Int),acc++ [row k (zJ4 o.aN k L)])) (by
   simp only[zCU,e,cQ,K,zA,jP (show acc.length+ [row k (zJ4 o.aN k L)].length<=4294967296 by simp;omega),zC (k:=k) (by omega)])]
  rw[rw0 T H m (k+1) _ (by omega) (by simp;omega)]
  have D:k<((rows o.aN L).take o.aG.toNat).length:=by simp[rows];omega
  rw[dA D,dB];have O:=yBC o.aN L z;have:((rows o.aN L).take o.aG.toNat)[k]=row k (zJ4 o.aN k L):=by
   have G:((rows o.aN L).take o.aG.toNat)[k]? =some (row k (zJ4 o.aN k L)):=by rw[d8,dK (by omega)];exact O
   rw[cV D] at G;exact gY G
  rw[this];rfl
theorem zMT {l:List aK} (h:l.length<=4000000000) (o:Options):zFD l o=some (wts l (xA o)):=by
 have hb:=yA8 (zNU o);unfold zFD wts;have k:({aG:=o.aG,aD:=o.aD,aN:=o.aN,aQ:=o.aQ}:Options)=o:=rfl;rw[k,zVW,zA];generalize xA o=q at*;rw[z18 hb.2.2 h,zA];have:=rw0 (o:=q) ⟨hb.1,hb.2.1⟩ (L:=trL q.aD false l) (by rw[zO7];exact h) q.aG.toNat 0 [] (by omega) rfl
 rw[show ((0:Nat):Int)=0 from rfl] at this;rw[this];simp
theorem zP6 {l:List aK} {o:Options} {x:List Int} (h:x∈wts l o):x.length<=l.length:=by
 unfold wts at h;have h:=eF h;have key:∀k,(row k (trL o.aD false l)).length<=l.length:=λk=>by have:=zRU k (trL o.aD false l);rwa [zO7] at this
 simp only[rows,dN,List.not_mem_nil,or_false] at h;rcases h with rfl | rfl | rfl | rfl
 exact key 0;unfold z6O;split;rw[gL];exact key 1;exact key 1;exact key 2;exact key 3
theorem zXM {l:List aK} {o:Options} (h:ckO o=0):(wts l o).length=o.aG.toNat:=by have:=yA8 h;unfold wts;simp[rows];omega
open Go.AV
def jn:Nat->List Int->List (List Int)->List Int
 | _,acc,[]=>acc
 | k,acc,x::xs=>jn (k+1) ((if 0<k then acc++ [0] else acc)++x) xs
theorem zTK {N:Nat}:∀(l:List (List Int)) (k:Nat) (acc:List Int),(∀x∈l,x.length<=N)->(jn k acc l).length<=acc.length+l.length*(N+1)
 | [],_,acc,_=>by simp[jn]
 | x::xs,k,acc,h=>by
  have D:=h x (by simp);have G:=zTK xs (k+1) ((if 0<k then acc++ [0] else acc)++x) (λy z=>h y (by simp[z]));have H:((if 0<k then acc++ [0] else acc)++x).length<=acc.length+1+N:=by
   split<;>simp<;>omega
  simp only[jn,dP,eG];omega
theorem yL8 {acc:List Int} {k:Nat} (h:acc.length+1<=4294967296):(cond (decide ((0:Int)<(k:Int))) ((app acc [0]).bind λq=>some q) (some acc))=some (if 0<k then acc++ [0] else acc):=by
 by_cases z:0<k;have e:decide ((0:Int)<(k:Int))=true:=by simp;omega
 rw[e,cQ,jP (by simpa using h),dK z];rfl;have e:decide ((0:Int)<(k:Int))=false:=by simp;omega
 rw[e,cP,dQ z]
section
variable {l:List (List Int)} {N:Nat} (hN:∀x∈l,x.length<=N) (hl:l.length<=1000000)
include hN hl
theorem yL9:∀(m k:Nat) (acc:List Int),k+m=l.length->acc.length+m*(N+1)<=4294967296->zB (λ(x:Int×(List Int))=>zA9 l x.1 x.2) ((k:Int),acc)=some (jn k acc (l.drop k))
 | 0,k,acc,h,_=>by
  rw[dE (by omega)];refine zD ?_;simp only[zA9,yY (show l.length<=k by omega),cP,jn]
 | m+1,k,acc,h,D=>by
  have z:k<l.length:=by omega
  have H:=hN _ (eE z);rw[eG] at D;have G:(if 0<k then acc++ [0] else acc).length<=acc.length+1:=by split<;>simp
  rw[zG (x':=(((k+1:Nat):Int),(if 0<k then acc++ [0] else acc)++l[k])) (by
   simp only[zA9,yF z,cQ,zM z,zA,yL8 (k:=k) (show acc.length+1<=4294967296 by omega),jP (show (if 0<k then acc++ [0] else acc).length+l[k].length<=4294967296 by omega),zC (k:=k) (by omega)])]
  rw[yL9 m (k+1) _ (by omega) (by rw[cZ];omega),dA z]
  rfl
theorem yHA:∀(m k:Nat) (acc:List Int),k+m=l.length->acc.length+m*(N+1)<=4294967296->zB (λ(x:Int×(List Int))=>zFE l x.1 x.2) ((k:Int),acc)=some (jn k acc (l.drop k))
 | 0,k,acc,h,_=>by
  rw[dE (by omega)];refine zD ?_;simp only[zFE,yY (show l.length<=k by omega),cP,jn]
 | m+1,k,acc,h,D=>by
  have z:k<l.length:=by omega
  have H:=hN _ (eE z);rw[eG] at D;have G:(if 0<k then acc++ [0] else acc).length<=acc.length+1:=by split<;>simp
  rw[zG (x':=(((k+1:Nat):Int),(if 0<k then acc++ [0] else acc)++l[k])) (by
   simp only[zFE,yF z,cQ,zM z,zA,yL8 (k:=k) (show acc.length+1<=4294967296 by omega),jP (show (if 0<k then acc++ [0] else acc).length+l[k].length<=4294967296 by omega),zC (k:=k) (by omega)])]
  rw[yHA m (k+1) _ (by omega) (by rw[cZ];omega),dA z]
  rfl
end
def idn (t:List Int):List Int:=t.flatMap λc=>if 0<=c/\c<=1114111 then [c+1] else []
theorem yBD (c:Int) {acc:List Int} (h:acc.length+1<=4294967296):(cond (decide (0<=c)&&decide (c<=1114111)) ((app acc [wi (c+1)]).bind λq=>some q) (some acc))=some (acc++if 0<=c/\c<=1114111 then [c+1] else []):=by
 by_cases k:0<=c/\c<=1114111
 ·have e:(decide (0<=c)&&decide (c<=1114111))=true:=by simpa using k
  rw[e,cQ,jP (by simpa using h),dK k,xN (by omega) (by omega)];rfl
 ·have e:(decide (0<=c)&&decide (c<=1114111))=false:=by
   cases h:(decide (0<=c)&&decide (c<=1114111)) with
   | false=>rfl
   | true=>exact absurd (by simpa using h) k
  rw[e,cP,dQ k,ez]
theorem zXN (c:Int):(if 0<=c/\c<=1114111 then [c+1] else ([]:List Int)).length<=1:=by split<;>simp
theorem yMA {t:List Int} (D:t.length<=1000000):∀(m k:Nat) (acc:List Int),k+m=t.length->acc.length+m<=4294967296->zB (λ(x:Int×(List Int))=>zBA t x.1 x.2) ((k:Int),acc)=some (acc++idn (t.drop k))
 | 0,k,acc,h,_=>by
  rw[dE (by omega)];refine zD ?_;simp only[zBA,yY (show t.length<=k by omega),cP,idn,gQ,ez]
 | m+1,k,acc,h,H=>by
  have z:k<t.length:=by omega
  have G:=zXN t[k];rw[zG (x':=(((k+1:Nat):Int),acc++if 0<=t[k]/\t[k]<=1114111 then [t[k]+1] else [])) (by
   simp only[zBA,yF z,cQ,zM z,zA,zF,yBD t[k] (show acc.length+1<=4294967296 by omega),zC (k:=k) (by omega)])]
  rw[yMA D m (k+1) _ (by omega) (by rw[cZ];omega),dA z]
  simp only[idn,ek,dB]
def zKG (o:Options) (h:List aK) (t:List Int):List Int:=jn 0 [] (wts h o)++if o.aQ=true then [0]++idn t else []
theorem zO8 (l:List aK) (o:Options):(wts l o).length<=4:=by unfold wts;simp[rows];omega
theorem z4H (o:Options):xA (xA o)=xA o:=yG8 (zNU o)
section
variable {n:Norm} {c:Collation} (hn:NSm n) (hok:wV n) (hs:Sm c) (hg:∀g∈c.aE,g.bT.length<=MX) {text:List Int} (ht:text.length<=2000) (hf:(zH1 n false text).length<=2000)
include hn hok hs hg ht hf
theorem yJW (o:Options):zAJ n c o text=some (zKG (xA o) (wk c (xM n) (zBG n false text)).1 (zBG n false text)):=by
 unfold zAJ zKG;have K:(zBG n false text).length<=2000:=by rw[zG9];exact hf
 have D:=z13 (n:=n) hs (text:=text) K;rw[show ({aG:=o.aG,aD:=o.aD,aN:=o.aN,aQ:=o.aQ}:Options)=o from rfl,z4D,zA,zQS hn hok hs hg ht hf,zA,show ({aG:=(xA o).aG,aD:=(xA o).aD,aN:=(xA o).aN,aQ:=(xA o).aQ}:Options)=xA o from rfl,zJ3 (by omega),z4H,zA];generalize (wk c (xM n) (zBG n false text)).1=h at*;have T:=zO8 h (xA o);have H:∀x∈wts h (xA o),x.length<=1000000000:=λx O=>d7 (zP6 O) D;have k:=yL9 H (by omega) (wts h (xA o)).length 0 [] (by omega) (by simp;omega)
 rw[show ((0:Nat):Int)=0 from rfl,et] at k;have G:=zTK (wts h (xA o)) 0 [] H;simp only[d6] at G;rw[k,zA];cases hi:(xA o).aQ with
 | false=>simp
 | true=>
  have Y:(jn 0 [] (wts h (xA o))).length<=4000000004:=by omega
  rw[dG,cP,jP (by simp;omega),zA,zTE hn hok ht hf,zA]
  have z:=yMA (t:=zBG n false text) (by omega) (zBG n false text).length 0 (jn 0 [] (wts h (xA o))++ [0]) (by omega) (by simp;omega)
  rw[show ((0:Nat):Int)=0 from rfl,et] at z;rw[z,zA,dK rfl,dB]
omit hn hok hg ht in
theorem yBE (o:Options):(zKG (xA o) (wk c (xM n) (zBG n false text)).1 (zBG n false text)).length<=4611686018427387904:=by
 have G:(zBG n false text).length<=2000:=by rw[zG9];exact hf
 have h:=z13 (n:=n) hs (text:=text) G;unfold zKG;generalize (wk c (xM n) (zBG n false text)).1=D at*;have O:=zO8 D (xA o);have z:=zTK (wts D (xA o)) 0 [] (N:=1000000000) (λx H=>d7 (zP6 H) h);have k:∀t:List Int,(idn t).length<=t.length:=by
  intro t
  induction t with
  | nil=>simp[idn]
  | cons x t K=>
   have:=zXN x;simp only[idn,ek,cZ,dP] at K ⊢;omega
 have:=k (zBG n false text);simp only[d6] at z;rw[cZ];split<;>simp<;>omega
end
open Go.AV
theorem yMB {x y:Int} (h:y∈nz x):y≠0:=by unfold nz at h;split at h;cases h;rw[eZ] at h;subst h;assumption
theorem zTL {k:Nat} {L:List a8} {y:Int} (h:y∈row k L):y≠0:=by obtain⟨w,_,z⟩:=List.mem_flatMap.1 h;exact yMB z
theorem yBF {l:List aK} {o:Options} {x:List Int} (k:x∈wts l o) {y:Int} (h:y∈x):y≠0:=by
 unfold wts at k;have k:=eF k;simp only[rows,dN,List.not_mem_nil,or_false] at k;rcases k with rfl | rfl | rfl | rfl
 exact zTL h;unfold z6O at h;split at h;exact zTL (List.mem_reverse.1 h);exact zTL h;exact zTL h;exact zTL h
open Go.AV
open Go.AV
theorem rk1 {t:List Int} (D:t.length<=1000000):∀(m k:Nat) (acc:List Int),k+m=t.length->acc.length+m<=4294967296->zB (λ(x:Int×(List Int))=>zGC t x.1 x.2) ((k:Int),acc)=some (acc++idn (t.drop k))
 | 0,k,acc,h,_=>by
  rw[dE (by omega)];refine zD ?_;simp only[zGC,yY (show t.length<=k by omega),cP,idn,gQ,ez]
 | m+1,k,acc,h,H=>by
  have z:k<t.length:=by omega
  have G:=zXN t[k];rw[zG (x':=(((k+1:Nat):Int),acc++if 0<=t[k]/\t[k]<=1114111 then [t[k]+1] else [])) (by
   simp only[zGC,vQ,yF z,cQ,zM z,zA,zF,yBD t[k] (show acc.length+1<=4294967296 by omega),zC (k:=k) (by omega)])]
  rw[rk1 D m (k+1) _ (by omega) (by rw[cZ];omega),dA z]
  simp only[idn,ek,dB]
section
variable {n:Norm} {c:Collation} (hn:NSm n) (hok:wV n) (hs:Sm c) (hg:∀g∈c.aE,g.bT.length<=MX) {text:List Int} (ht:text.length<=2000) (hf:(zH1 n false text).length<=900)
include hn hok hs hg ht hf
theorem z6P (o:Options):zPP n c o text=some (zKG (xA o) (wk c (xM n) (zBG n false text)).1 (zBG n false text)):=by
 unfold zPP zKG;have O:(zBG n false text).length<=2000:=by rw[zG9];omega
 have D:=z13 (n:=n) hs (text:=text) O;have K:xW n c text=some (wk c (xM n) (zBG n false text)).1:=by
  unfold xW;rw[zTI hn hok hs hg ht hf,zA]
 rw[show ({aG:=o.aG,aD:=o.aD,aN:=o.aN,aQ:=o.aQ}:Options)=o from rfl,zVW,zA,K,zA,show ({aG:=(xA o).aG,aD:=(xA o).aD,aN:=(xA o).aN,aQ:=(xA o).aQ}:Options)=xA o from rfl,zMT (by omega),z4H,zA];generalize (wk c (xM n) (zBG n false text)).1=h at*;have Y:=zO8 h (xA o);have H:∀x∈wts h (xA o),x.length<=1000000000:=λx T=>d7 (zP6 T) D;have k:=yHA H (by omega) (wts h (xA o)).length 0 [] (by omega) (by simp;omega)
 rw[show ((0:Nat):Int)=0 from rfl,et] at k;have G:=zTK (wts h (xA o)) 0 [] H;simp only[d6] at G;unfold zSW;rw[k,zA,zA];cases hi:(xA o).aQ with
 | false=>simp
 | true=>
  have Z:(jn 0 [] (wts h (xA o))).length<=4000000004:=by omega
  rw[dG,cP,jP (by simp;omega),zA,yA6 hn hok ht hf,zA]
  have z:=rk1 (t:=zBG n false text) (by omega) (zBG n false text).length 0 (jn 0 [] (wts h (xA o))++ [0]) (by omega) (by simp;omega)
  rw[show ((0:Nat):Int)=0 from rfl,et] at z;rw[z,zA,dK rfl,dB]
end
open Go.AV
def tj (xs:List (List Int)):List Int:=xs.flatMap λy=>0::y
theorem yMC:∀(xs:List (List Int)) (k:Nat) (acc:List Int),0<k->jn k acc xs=acc++tj xs
 | [],_,acc,_=>by simp[jn,tj]
 | x::xs,k,acc,h=>by
  simp only[jn,h,dH];rw[yMC xs (k+1) _ (by omega)];simp[tj]
theorem yMD (x:List Int) (xs:List (List Int)):jn 0 [] (x::xs)=x++tj xs:=by simp only[jn,Nat.lt_irrefl,cY,dS];exact yMC xs 1 x (by omega)
def zz0 (s:List Int):Prop:=s= []\/∃t,s=0::t
theorem z19:∀{x y u v:List Int},(∀a∈x,a≠0)->(∀a∈y,a≠0)->zz0 u->zz0 v->x++u=y++v->x=y/\u=v
 | [],[],u,v,_,_,_,_,h=>⟨rfl,h⟩
 | [],b::y,u,v,_,H,z,_,h=>by
  rcases z with rfl | ⟨t,rfl⟩;simp at h;simp only[dS,fR,iB] at h;exact absurd h.1.symm (H b (by simp))
 | a::x,[],u,v,G,_,_,D,h=>by
  rcases D with rfl | ⟨t,rfl⟩;simp at h;simp only[dS,fR,iB] at h;exact absurd h.1 (G a (by simp))
 | a::x,b::y,u,v,G,H,z,D,h=>by
  simp only[fR,iB] at h;obtain⟨K,O⟩:=z19 (λq k=>G q (by simp[k])) (λq k=>H q (by simp[k])) z D h.2;exact⟨by rw[h.1,K],O⟩
theorem zXO {xs:List (List Int)} {s:List Int} (h:zz0 s):zz0 (tj xs++s):=by
 cases xs with
 | nil=>exact h
 | cons x xs=>exact .inr ⟨x++tj xs++s,by simp[tj]⟩
theorem yBG:∀{A B:List (List Int)} {s t:List Int},A.length=B.length->(∀x∈A,∀a∈x,a≠0)->(∀x∈B,∀a∈x,a≠0)->zz0 s->zz0 t->tj A++s=tj B++t->A=B/\s=t
 | [],[],s,t,_,_,_,_,_,h=>⟨rfl,h⟩
 | [],b::B,_,_,k,_,_,_,_,_=>by simp at k
 | a::A,[],_,_,k,_,_,_,_,_=>by simp at k
 | a::A,b::B,s,t,k,D,G,H,K,h=>by
  have e:∀(c:List Int) (C:List (List Int)) (u:List Int),tj (c::C)++u=0::(c++(tj C++u)):=λc C u=>by simp[tj]
  rw[e,e,iB] at h;obtain⟨O,T⟩:=z19 (D a (by simp)) (G b (by simp)) (zXO H) (zXO K) h.2;obtain⟨Y,Z⟩:=yBG (by simpa using k) (λx z=>D x (by simp[z])) (λx z=>G x (by simp[z])) H K T;exact⟨by rw[O,Y],Z⟩
theorem yJX {A B:List (List Int)} {s t:List Int} (k:A.length=B.length) (D:∀x∈A,∀a∈x,a≠0) (G:∀x∈B,∀a∈x,a≠0) (H:zz0 s) (K:zz0 t) (h:jn 0 [] A++s=jn 0 [] B++t):A=B/\s=t:=by
 cases A with
 | nil=>cases B with
  | nil=>exact⟨rfl,h⟩
  | cons b B=>simp at k
 | cons a A=>cases B with
  | nil=>simp at k
  | cons b B=>
   rw[yMD,yMD,dB,dB] at h;obtain⟨O,T⟩:=z19 (D a (by simp)) (G b (by simp)) (zXO H) (zXO K) h;obtain⟨Y,Z⟩:=yBG (by simpa using k) (λx z=>D x (by simp[z])) (λx z=>G x (by simp[z])) H K T;exact⟨by rw[O,Y],Z⟩
theorem yBH {o:Options} (G:ckO o=0) {A B:List aK} {s t:List Int} (h:zKG o A s=zKG o B t):wts A o=wts B o/\(o.aQ=true->idn s=idn t):=by
 unfold zKG at h;have O:(wts A o).length=(wts B o).length:=by rw[zXM G,zXM G]
 have H:∀u:List Int,zz0 (if o.aQ=true then [0]++idn u else []):=λu=>by
  split;exact .inr ⟨idn u,rfl⟩;exact .inl rfl
 obtain⟨K,D⟩:=yJX O (λx z a k=>yBF z k) (λx z a k=>yBF z k) (H s) (H t) h;refine⟨K,λhi=>?_⟩;rw[dK hi,dK hi] at D;exact(List.cons.inj D).2
theorem yBI {a b:List Int}:zQ6 a b=0↔a=b:=by rw[z1V];exact(zL1 a b 0).2
open Go.AV
noncomputable def eLm (n:Norm) (c:Collation) (t:List Int):List aK:=(wk c (xM n) (zBG n false t)).1
noncomputable def sK (n:Norm) (c:Collation) (o:Options) (t:List Int):List Int:=zKG (xA o) (eLm n c t) (zBG n false t)
noncomputable def cK (n:Norm) (c:Collation) (o:Options) (a b:List Int):Int:=zQ6 (sK n c o a) (sK n c o b)
def TOk (n:Norm) (t:List Int):Prop:=t.length<=2000/\(zH1 n false t).length<=900
theorem yJY {a b:List Int} (h:a.length<=4611686018427387904):zBV a b=some (decide (a=b)):=by unfold zBV;rw[zNO h,zA];congr 1;rw[gD,c8,c8];exact yBI
section
variable {n:Norm} {c:Collation} (hn:NSm n) (hok:wV n) (hs:Sm c) (hg:∀g∈c.aE,g.bT.length<=MX)
include hn hok hs hg
theorem kE (o:Options) {t:List Int} (h:TOk n t):zAJ n c o t=some (sK n c o t):=yJW hn hok hs hg h.1 (by have:=h.2;omega) o
theorem yBJ {t:List Int} (h:TOk n t):kY n c t=some (eLm n c t):=zQS hn hok hs hg h.1 (by have:=h.2;omega)
theorem yBK {t:List Int} (h:TOk n t):xW n c t=some (eLm n c t):=by unfold xW;rw[zTI hn hok hs hg h.1 h.2,zA];rfl
omit hn hok hg in
theorem kL (o:Options) {t:List Int} (h:TOk n t):(sK n c o t).length<=4611686018427387904:=yBE hs (by have:=h.2;omega) o
theorem cE (o:Options) {a b:List Int} (h:TOk n a) (hb:TOk n b):wR n c o a b=some (cK n c o a b):=by unfold wR;rw[kE hn hok hs hg o h,zA,kE hn hok hs hg o hb,zA,zNO (kL hs o h),zA];rfl
end
noncomputable def stE0 (n:Norm) (c:Collation) (o:Options) (a b:List Int):Bool:=decide ((row0 b).length<=(row0 a).length/\(row0 a).take (row0 b).length=row0 b) where
 row0 (t:List Int):List Int:=(wts (eLm n c t) (xA o)).headD []
section
variable {n:Norm} {c:Collation} (hn:NSm n) (hok:wV n) (hs:Sm c) (hg:∀g∈c.aE,g.bT.length<=MX)
include hn hok hs hg
omit hn hok hs hg in
theorem w0 (o:Options) (t:List Int):zV (wts (eLm n c t) (xA o)) (0:Int)=some (stE0.row0 n c o t)/\(stE0.row0 n c o t).length<=(eLm n c t).length:=by
 unfold stE0.row0;have h:=zXM (l:=eLm n c t) (zNU o);have hb:=yA8 (zNU o);cases k:wts (eLm n c t) (xA o) with
 | nil=>rw[k] at h;simp at h;omega
 | cons x xs=>
  refine⟨rfl,?_⟩;have:x∈wts (eLm n c t) (xA o):=by rw[k];simp
  exact zP6 this
end
open Go.AV
theorem zVZ:∀{a b:List Int},a.Pairwise (· < ·)->b.Pairwise (· < ·)->(∀x,x∈a↔x∈b)->a=b
 | [],[],_,_,_=>rfl
 | [],y::b,_,_,h=>absurd ((h y).2 (by simp)) (by simp)
 | x::a,[],_,_,h=>absurd ((h x).1 (by simp)) (by simp)
 | x::a,y::b,D,hb,h=>by
  rw[fE] at D hb;have G:x=y:=by
   have h1:=(h x).1 (by simp);have h2:=(h y).2 (by simp);rcases dN.1 h1 with e | h1
   exact e;rcases dN.1 h2 with e | h2
   exact e.symm;have:=hb.1 x h1;have:=D.1 y h2;omega
  subst G;congr 1;refine zVZ D.2 hb.2 λz=>?_;constructor;intro k;have:=(h z).1 (by simp[k]);rcases dN.1 this with e | h1
  have:=D.1 z k;omega;exact h1;intro k;have:=(h z).2 (by simp[k]);rcases dN.1 this with e | h1
  have:=hb.1 z k;omega;exact h1
section
open Go.Lib
theorem zXP (l:List Int) {j:Nat} (z:j<l.length):keeps l.toArray j=(decide (j=0) ||decide (l[j]≠l[j-1]'(by omega))):=by
 unfold keeps;have h:l.toArray[j]! =l[j]:=by simp[getElem!_pos,z]
 have k:l.toArray[j-1]! =l[j-1]'(by omega):=by
  have:j-1<l.length:=by omega
  simp[getElem!_pos,this]
 rw[h,k];rw[Bool.decide_or]
theorem z0M {l:List Int} {x:Int}:x∈compact l↔x∈l:=by
 unfold compact compactUpTo;simp only[eJ,fA,fO];constructor
 rintro⟨j,⟨G,_⟩,rfl⟩
 have:l.toArray[j]! =l[j]:=by simp[getElem!_pos,G]
 rw[this];exact eE G;intro H;have key:∀(n:Nat) (h:n<l.length),∃j,j<=n/\∃G:j<l.length,l[j]=l[n]/\keeps l.toArray j=true:=by
  intro n
  induction n with
  | zero=>intro h;exact⟨0,dF _,h,rfl,by rw[zXP l h];simp⟩
  | succ n K=>
   intro h;by_cases e:l[n+1]=l[n];obtain⟨j,O,k,z,D⟩:=K (by omega);exact⟨j,by omega,k,z.trans e.symm,D⟩;refine⟨n+1,dF _,h,rfl,?_⟩;rw[zXP l h];simp[e]
 obtain⟨n,h,rfl⟩:=List.mem_iff_getElem.1 H;obtain⟨j,_,k,z,D⟩:=key n h;refine⟨j,⟨k,D⟩,?_⟩;have:l.toArray[j]! =l[j]:=by simp[getElem!_pos,k]
 rw[this,z]
theorem z2A {l:List Int} (h:l.Pairwise (·<=·)):(compact l).Pairwise (· < ·):=by
 unfold compact compactUpTo;rw[List.pairwise_map];refine List.Pairwise.imp_of_mem (R:=λa b=>a<b) ?_ (List.Pairwise.filter _ List.pairwise_lt_range);intro i j hi k K;simp only[fA,fO] at hi k;have G:l.toArray[i]! =l[i]'hi.1:=by simp[getElem!_pos,hi.1]
 have H:l.toArray[j]! =l[j]'k.1:=by simp[getElem!_pos,k.1]
 rw[G,H];have z:=k.2;rw[zXP l k.1] at z;simp only[fU,c8] at z;have D:=g6.1 h;have O:l[j-1]'(by omega)<=l[j]'k.1:=D (j-1) j (by omega) k.1 (by omega);have T:l[i]'hi.1<=l[j-1]'(by omega):=by
  by_cases e:i=j-1;subst e;exact gw _;exact D i (j-1) hi.1 (by omega) (by omega)
 rcases z with z | z;omega;omega
end
def zLO (cuts:List Int) (n:Nat):List Int:=((List.range (n+1)).map λ(k:Nat)=>(k:Int)).filter λx=>decide (x∈cuts)
theorem yJZ {cuts:List Int} {n:Nat}:Go.Lib.compact ((cuts.filter λc=>decide (0<=c)&&decide (c<=(n:Int))).mergeSort λx y=>decide (x<=y))=zLO cuts n:=by
 refine zVZ (z2A ?_) ?_ λx=>?_;have:=List.pairwise_mergeSort (le:=λx y:Int=>decide (x<=y)) (λa b c z D=>by simp at z D ⊢;omega) (λa b=>by simp;omega) (cuts.filter λc=>decide (0<=c)&&decide (c<=(n:Int)))
 exact this.imp λh=>by simpa using h
 unfold zLO;refine List.Pairwise.filter _ ?_;rw[List.pairwise_map];exact List.pairwise_lt_range.imp λh=>by omega
 rw[z0M,List.mem_mergeSort,fA];unfold zLO;simp only[fA,eJ,fO,dM,c8];constructor
 rintro⟨z,D,G⟩
 exact⟨⟨x.toNat,by omega,by omega⟩,z⟩
 rintro⟨⟨k,H,rfl⟩,z⟩
 exact⟨z,by omega,by omega⟩
section
variable {α:Type} (mk:Int->Int->α) (m:Int->Int->Bool)
def z2B:List Int->List α
 | []=>[]
 | lo::rest=>(match rest.find? (m lo) with
  | some hi=>[mk lo hi]
  | none=>[])++z2B rest
def zI1 (cuts:List Int) (size:Nat) (k n:Nat):List α:=
 (List.range' k n).flatMap λ(f:Nat)=>if decide ((f:Int)∈cuts)=true then
  match ((List.range' (f+1) (size-f)).find? λ(t:Nat)=>decide ((t:Int)∈cuts)&&m (f:Int) (t:Int)) with
  | some t=>[mk (f:Int) (t:Int)]
  | none=>[]
 else []
theorem zP7 (cuts:List Int) (f:Nat):∀(L:List Nat),((L.map λ(k:Nat)=>(k:Int)).filter λx=>decide (x∈cuts)).find? (m (f:Int))=((L.find? λ(t:Nat)=>decide ((t:Int)∈cuts)&&m (f:Int) (t:Int)).map λ(k:Nat)=>(k:Int))
 | []=>rfl
 | a::L=>by
  rw[ey,hP,ib];by_cases h:(a:Int)∈cuts;simp only[h,dD,dH,dT];rw[ib];cases m (f:Int) (a:Int) with
  | true=>rfl
  | false=>exact zP7 cuts f L
  simp only[h,dI,dR,cY,dV];exact zP7 cuts f L
theorem zV0 (cuts:List Int) (size:Nat):∀(n k:Nat),k+n=size+1->z2B mk m (((List.range' k n).map λ(k:Nat)=>(k:Int)).filter λx=>decide (x∈cuts))=zI1 mk m cuts size k n
 | 0,k,_=>rfl
 | n+1,k,h=>by
  have D:=zV0 cuts size n (k+1) (by omega);unfold zI1 at D ⊢;rw[iy,ey,hP,ek,<-D];have G:size-k=n:=by omega
  by_cases z:(k:Int)∈cuts;simp only[z,dD,dH];rw[z2B,zP7,G];congr 1;cases (List.range' (k+1) n).find? (λ(t:Nat)=>decide ((t:Int)∈cuts)&&m (k:Int) (t:Int))<;>rfl;simp only[z,dI,dR,cY,dS]
theorem yBL (cuts:List Int) (size:Nat):z2B mk m (zLO cuts size)=zI1 mk m cuts size 0 size:=by unfold zLO;have h:=zV0 mk m cuts size (size+1) 0 (by omega);rw[<-gE] at h;rw[h];unfold zI1;rw[<-gE,List.range_succ,List.flatMap_append,<-gE];simp
end
open Go.AV
theorem zRV {z:Type} [Inhabited z] {a b:List z} (G:a.length=b.length):(∀j,j<a.length->nth a j=nth b j)↔a=b:=by
 constructor;intro h;apply hO G;intro i k D;have:=h i k
 rwa [u9 k,u9 D] at this
 intro h j _;rw[h]
theorem yFT {a b:List Int} (K:a.length<=1000000000):xJ a b=some (decide (a=b)):=by
 unfold xJ;by_cases H:a.length=b.length;have D:(!decide ((a.length:Int)=(b.length:Int)))=false:=by simp[H]
 rw[D,cP];have h:=kD (body:=λ(x:Int)=>xD a b x) a.length (λj=>nth a j=nth b j) (λy=>y=false) (λj z=>by
  have G:j<b.length:=by omega
  simp only[xD,yF z,cQ,zO z,zO G,zA,zC (k:=j) (by omega)];exact wC (by simp) rfl) (λj z=>by simp only[xD,yY z,cP])
 rw[zRV H] at h;rcases h with ⟨h,p⟩ | ⟨y,rfl,h,p⟩
 rw[h];simp[p];rw[h];simp[p];have D:(!decide ((a.length:Int)=(b.length:Int)))=true:=by simp;omega
 rw[D,cQ];have:a≠b:=λe=>H (by rw[e]);simp[this]
theorem zTM {a b:List aK} (K:a.length<=1000000000):yH a b=some (decide (a=b)):=by
 unfold yH;by_cases H:a.length=b.length;have D:(!decide ((a.length:Int)=(b.length:Int)))=false:=by simp[H]
 rw[D,cP];have h:=kD (body:=λ(x:Int)=>yK a b x) a.length (λj=>nth a j=nth b j) (λy=>y=false) (λj z=>by
  have G:j<b.length:=by omega
  simp only[yK,yF z,cQ,zO z,zO G,zA,zC (k:=j) (by omega)];exact wC (by simp) rfl) (λj z=>by simp only[yK,yY z,cP])
 rw[zRV H] at h;rcases h with ⟨h,p⟩ | ⟨y,rfl,h,p⟩
 rw[h];simp[p];rw[h];simp[p];have D:(!decide ((a.length:Int)=(b.length:Int)))=true:=by simp;omega
 rw[D,cQ];have:a≠b:=λe=>H (by rw[e]);simp[this]
theorem yJ0 {a b:List (List Int)} (O:a.length<=1000000000) (K:∀x∈a,x.length<=1000000000):jC a b (λx0 x1=>xJ x0 x1)=some (decide (a=b)):=by
 unfold jC;by_cases H:a.length=b.length;have D:(!decide ((a.length:Int)=(b.length:Int)))=false:=by simp[H]
 rw[D,cP];have h:=kD (body:=λ(x:Int)=>kJ a b (λx0 x1=>xJ x0 x1) x) a.length (λj=>nth a j=nth b j) (λy=>y=false) (λj z=>by
  have G:j<b.length:=by omega
  simp only[kJ,yF z,cQ,zO z,zO G,zA,yFT (K _ (wK z)),zC (k:=j) (by omega)];exact wC (by simp) rfl) (λj z=>by simp only[kJ,yY z,cP])
 rw[zRV H] at h;rcases h with ⟨h,p⟩ | ⟨y,rfl,h,p⟩
 rw[h];simp[p];rw[h];simp[p];have D:(!decide ((a.length:Int)=(b.length:Int)))=true:=by simp;omega
 rw[D,cQ];have:a≠b:=λe=>H (by rw[e]);simp[this]
theorem cfr {l:List (List Int)} (H:l.length<=1000000000) {f:List Int->Option Bool} (q:List Int->Bool) (D:∀x,f x=some (q x)):k8 l f=some (l.any q):=by
 unfold k8 wF;have h:=kD (body:=λ(x:Int)=>k7 l f x) l.length (λj=>q (nth l j)=false) (λy=>0<=y) (λj z=>by
  simp only[k7,yF z,cQ,zO z,zA,D,zC (k:=j) (by omega)];exact wC (by simp) (by omega)) (λj z=>by simp only[k7,yY z,cP])
 rw[u6 (p:=λx=>q x=false)] at h;have e:(¬∀x∈l,q x=false)↔l.any q=true:=by simp
 rcases h with ⟨h,p⟩ | ⟨y,G,h,p⟩;rw[h];have:l.any q=false:=by simpa using p
 rw[this];rfl;rw[h,e.1 p];simp[G]
theorem z4I {l:List Int} (H:l.length<=1000000000) (v:Int):zOM l v=some (decide (v∈l)):=by
 unfold zOM;have h:=kD (body:=λ(x:Int)=>zHS l v x) l.length (λj=>nth l j≠v) (λy=>y=true) (λj z=>by
  simp only[zHS,yF z,cQ,zO z,zA,zC (k:=j) (by omega)];exact wC (by simp) rfl) (λj z=>by simp only[zHS,yY z,cP])
 rw[u6 (p:=λx=>x≠v)] at h;rcases h with ⟨h,p⟩ | ⟨y,rfl,h,p⟩
 rw[h];have:¬v∈l:=λD=>p v D rfl;simp[this];rw[h];have:v∈l:=Classical.byContradiction λD=>p λx G e=>D (e▸G);simp[this]
theorem yJ1 {cuts:List Int} {n:Nat} (G:cuts.length<=1000):∀(m k:Nat) (acc:List Int),k+m=cuts.length->acc.length<=k->
  zB (λ(x:Int×(List Int))=>xQ cuts (n:Int) x.1 x.2) ((k:Int),acc)=some (acc++(cuts.drop k).filter λc=>decide (0<=c)&&decide (c<=(n:Int)))
 | 0,k,acc,h,H=>by
  have:k=cuts.length:=by omega
  subst this;rw[hF,List.filter_nil,ez];exact zD (by simp only[xQ,yY (dF _),cP])
 | m+1,k,acc,h,H=>by
  have z:k<cuts.length:=by omega
  rw[dA z,hP];by_cases D:(decide (0<=cuts[k])&&decide (cuts[k]<=(n:Int)))=true
  ·rw[zG (x':=(((k+1:Nat):Int),acc++ [cuts[k]])) (by simp only[xQ,yF z,cQ,zM z,zA,zF,D,jP (l:=acc) (m:=[cuts[k]]) (by simp;omega),zC (k:=k) (by omega)])]
   rw[yJ1 G m (k+1) _ (by omega) (by simp;omega),dK D,dB]
   rfl
  ·rw[gP] at D
   rw[zG (x':=(((k+1:Nat):Int),acc)) (by simp only[xQ,yF z,cQ,zM z,zA,zF,D,cP,zC (k:=k) (by omega)])];rw[yJ1 G m (k+1) _ (by omega) (by omega),dQ (by rw[D];exact Bool.false_ne_true)]
theorem zXQ {cuts:List Int} {n:Nat} (k:cuts.length<=1000):zA1 cuts (n:Int)=some (zLO cuts n):=by
 unfold zA1;have h:=yJ1 (n:=n) k cuts.length 0 [] (by omega) (by simp);rw[show ((0:Nat):Int)=0 from rfl,et,dS] at h;have z:=gZ (λc=>decide (0<=c)&&decide (c<=(n:Int))) cuts;rw[h,zA];unfold z2R;rw[dK (by unfold LIM;omega),zA]
 unfold z2S;rw[dK (by rw[List.length_mergeSort];unfold LIM;omega),zA,yJZ]
theorem yME {es:List bQ} (k:Vd es) (codes:List Int):(zCD es codes).1.length<=20:=by
 unfold zCD;cases h:es.find? (λx=>decide (x.aV=codes)) with
 | none=>simp
 | some x=>exact k.el x (fK h)
theorem yMF (d:Collation) (h:Int):(zQ7 d h).length<=20:=by unfold zQ7;cases vld h<;>simp
theorem yFU {c:Collation} (h:Sm c) {l:List bJ} (text:List Int):(stE c l text).2.2.length<=20:=by unfold stE;split;exact yMF _ _;exact yME (zW3 h) _
theorem yMG {c:Collation} (D:Sm c) {l:List bJ}:∀(k:Nat) (text:List Int),text.length<=k->(wk c l text).1.length<=20*text.length
 | 0,text,h=>by
  have:text= []:=cS (by omega);subst this;rw[zLN];simp
 | k+1,text,h=>by
  by_cases z:text= [];subst z;rw[zLN];simp;have G:=zVS (c:=c) (l:=l) z;have H:=yMG D (l:=l) k _ (show (stE c l text).2.1.length<=k by omega);have K:=yFU D (l:=l) text;rw[zRN z];show ((stE c l text).2.2++(wk c l (stE c l text).2.1).1).length<=_;rw[cZ];omega
theorem zNV {n:Norm} {c:Collation} (k:Sm c) {t:List Int} (h:TOk n t):(eLm n c t).length<=18000:=by have:=yMG k (l:=xM n) _ (zBG n false t) (dF _);rw[zG9] at this;have:=h.2;unfold eLm;omega
open Go.AV
noncomputable def wT (n:Norm) (c:Collation) (o:Options) (t:List Int):List (List Int):=wts (eLm n c t) (xA o)
def zO9 (A:List (List Int)):Bool:=A.any λr=>decide (0<(r.length:Int))
noncomputable def kS (n:Norm) (c:Collation) (o:Options) (t:List Int):List Int:=jn 0 [] (wT n c o t)
def oP (o:Options):Options:={aG:=o.aG,aD:=o.aD,aN:=o.aN,aQ:=false}
theorem z2C (l:List aK) (o:Options):wts l (xA (oP o))=wts l (xA o):=by unfold xA;have:ckO (oP o)=ckO o:=rfl;rw[this];split<;>rfl
theorem yMH (o:Options):(xA (oP o)).aQ=false:=by unfold xA;split<;>rfl
theorem zRW (n:Norm) (c:Collation) (o:Options) (t u:List Int):zKG (xA (oP o)) (eLm n c t) u=kS n c o t:=by unfold zKG kS wT;rw[z2C,dQ (by rw[yMH];exact Bool.false_ne_true),ez]
theorem yBM {n:Norm} {c:Collation} {o:Options} {a b:List Int}:kS n c o a=kS n c o b↔wT n c o a=wT n c o b:=by
 constructor;intro h;rw[<-zRW n c o a [],<-zRW n c o b []] at h;have:=(yBH (zNU (oP o)) h).1
 rwa [z2C,z2C] at this
 intro h;unfold kS;rw[h]
theorem yMI {n:Norm} {c:Collation} {o:Options} {t:List Int} {x:List Int} (h:x∈wT n c o t):x.length<=(eLm n c t).length:=zP6 h
theorem zRX (n:Norm) (c:Collation) (o:Options) (t:List Int):(wT n c o t).length<=4:=zO8 _ _
section
variable {n:Norm} {c:Collation} (hn:NSm n) (hok:wV n) (hs:Sm c) (hg:∀g∈c.aE,g.bT.length<=MX)
include hn hok hs hg
omit hn hok hg in
theorem yJ2 (o:Options) {t:List Int} (h:TOk n t):(kS n c o t).length<=100000:=by
 have G:=zNV hs h;have k:=zTK (N:=18000) (wT n c o t) 0 [] (λx D=>by have:=yMI D;omega)
 have z:=zRX n c o t;have H:(wT n c o t).length*(18000+1)<=4*(18000+1):=dY _ z;unfold kS;simp only[d6] at k;omega
theorem yFV (o:Options) {t:List Int} (h:TOk n t):zJQ n c o t o.aG=some (kS n c o t):=by unfold zJQ;rw[z6P hn hok hs hg h.1 h.2,zA];exact congrArg some (zRW n c o t _)
theorem z4J (o:Options) {t:List Int} (h:TOk n t):zLZ n c o t=some (kS n c o t):=by unfold zLZ;rw[yFV hn hok hs hg o h,zA]
omit hn hok hg in
theorem yMJ (o:Options) {a b:List Int} (h:TOk n a):zBH (kS n c o a) (kS n c o b)=some (decide (wT n c o a=wT n c o b)):=by
 rw[zS5 (by have:=yJ2 (c:=c) hs o h;omega)]
 simp only[yBM]
theorem yFW (o:Options) {t:List Int} (h:TOk n t):zM8 n c o t=some (zO9 (wT n c o t)):=by
 unfold zM8;have H:=zNV (c:=c) hs h;rw[yBK hn hok hs hg h,zA,zMT (by omega),zA];show (zB (λ(x:Int)=>zDD (wT n c o t) x) 0).bind _=_;have G:=zRX n c o t;have h:=kD (body:=λ(x:Int)=>zDD (wT n c o t) x) (wT n c o t).length (λj=>decide (0<((nth (wT n c o t) j).length:Int))=false) (λy=>y=true) (λj z=>by
  simp only[zDD,yF z,cQ,zO z,zA,zC (k:=j) (by omega)];exact wC (by simp only[Bool.not_eq_false]) rfl) (λj z=>by simp only[zDD,yY z,cP])
 rw[u6 (p:=λx:List Int=>decide (0<(x.length:Int))=false)] at h;have e:(¬∀x∈wT n c o t,decide (0<(x.length:Int))=false)↔zO9 (wT n c o t)=true:=by unfold zO9;simp only[fX,Classical.not_forall,Bool.not_eq_false,exists_prop]
 rcases h with ⟨h,p⟩ | ⟨y,rfl,h,p⟩;rw[h];have:zO9 (wT n c o t)=false:=by
  cases D:zO9 (wT n c o t) with
  | false=>rfl
  | true=>exact absurd p (e.2 D)
 rw[this];rfl;rw[h,e.1 p];rfl
end
open Go.AV
def sl (t:List Int) (lo hi:Int):List Int:=(t.take hi.toNat).drop lo.toNat
noncomputable def whB (n:Norm) (c:Collation) (t:List Int) (lo hi:Int):Bool:=decide (eLm n c (t.take lo.toNat)++eLm n c (sl t lo hi)++eLm n c (t.drop hi.toNat)=eLm n c t)
noncomputable def mB (n:Norm) (c:Collation) (o:Options) (p t:List Int) (lo hi:Int):Bool:=decide (wT n c o (sl t lo hi)=wT n c o p)&&whB n c t lo hi
def mkR (lo hi:Int):Range:={Lo:=lo,Hi:=hi}
section
variable {n:Norm} {c:Collation} (hn:NSm n) (hok:wV n) (hs:Sm c) (hg:∀g∈c.aE,g.bT.length<=MX)
include hn hok hs hg
omit hs hg in
theorem tk0 {t:List Int} (h:t.length<=12):TOk n t:=⟨by omega,by have:=z6H hn hok false t;omega⟩
omit hs hg in
theorem tk1 {t:List Int} (h:t.length<=12) (k:Nat):TOk n (t.take k):=tk0 hn hok (by rw[d9];omega)
omit hs hg in
theorem tk2 {t:List Int} (h:t.length<=12) (k:Nat):TOk n (t.drop k):=tk0 hn hok (by rw[eM];omega)
omit hs hg in
theorem tk3 {t:List Int} (h:t.length<=12) (lo hi:Int):TOk n (sl t lo hi):=tk0 hn hok (by unfold sl;rw[eM,d9];omega)
theorem z6Q {t:List Int} (z:t.length<=12) (r:Range):zLE n c t r=some (decide (0<=r.Lo/\r.Lo<=r.Hi/\r.Hi<=(t.length:Int))&&whB n c t r.Lo r.Hi):=by
 unfold zLE;rw[zF,zF];by_cases h:0<=r.Lo/\r.Lo<=r.Hi/\r.Hi<=(t.length:Int)
 ·obtain⟨O,T,Y⟩:=h
  have e:((decide (r.Lo<0) ||decide (r.Hi<r.Lo)) ||decide ((t.length:Int)<r.Hi))=false:=by simp;omega
  have s1:slc t 0 r.Lo=some (t.take r.Lo.toNat):=by unfold slc;rw[dK (by omega)];simp
  have s2:slc t r.Lo r.Hi=some (sl t r.Lo r.Hi):=by unfold slc;rw[dK (by omega)];rfl
  have s3:slc t r.Hi (t.length:Int)=some (t.drop r.Hi.toNat):=by unfold slc;rw[dK (by omega)];simp
  have l1:=zNV (c:=c) hs (tk1 hn hok z r.Lo.toNat);have l2:=zNV (c:=c) hs (tk3 hn hok z r.Lo r.Hi);have l3:=zNV (c:=c) hs (tk2 hn hok z r.Hi.toNat);have Z:=zNV (c:=c) hs (tk0 hn hok z);rw[e,cP,yBK hn hok hs hg (tk0 hn hok z),zA,s1,zA,yBK hn hok hs hg (tk1 hn hok z _),zA,jP (by simp;omega),zA,dS,s2,zA,yBK hn hok hs hg (tk3 hn hok z _ _),zA,jP (by omega),zA,s3,zA,yBK hn hok hs hg (tk2 hn hok z _),zA,jP (by simp only[cZ];omega),zA]
  simp only[O,T,Y,iv,dD,dT];unfold whB;generalize eLm n c (t.take r.Lo.toNat)++eLm n c (sl t r.Lo r.Hi)++eLm n c (t.drop r.Hi.toNat)=b;generalize eLm n c t=a at Z ⊢;by_cases K:a.length=b.length
  ·have G:(!decide ((a.length:Int)=(b.length:Int)))=false:=by simp[K]
   rw[G,cP];have h:=kD (body:=λ(x:Int)=>zEG a b x) a.length (λj=>nth a j=nth b j) (λy=>y=false) (λj D=>by
    have H:j<b.length:=by omega
    simp only[zEG,yF D,cQ,zO D,zO H,zA,zC (k:=j) (by omega)];exact wC (by simp) rfl) (λj D=>by simp only[zEG,yY D,cP])
   rw[zRV K] at h;rcases h with ⟨h,p⟩ | ⟨y,rfl,h,p⟩
   ·rw[h];simp[p]
   ·have p':¬b=a:=λe=>p e.symm
    rw[h];simp[p']
  ·have G:(!decide ((a.length:Int)=(b.length:Int)))=true:=by simp;omega
   rw[G,cQ];have:b≠a:=λe=>K (by rw[e]);simp[this]
 ·have e:((decide (r.Lo<0) ||decide (r.Hi<r.Lo)) ||decide ((t.length:Int)<r.Hi))=true:=by
   simp only[fU,c8];omega
  rw[e,cQ];simp only[h,dI,dV]
def yN9 (f:Int):Option Nat->Unit⊕(Bool×Int×Int)
 | some t=> .inr (true,f,(t:Int))
 | none=> .inl ()
theorem yBO (o:Options) {p t cuts:List Int} (T:TOk n p) (H:t.length<=12) (hc:cuts.length<=1000) {f:Nat} (hf:f<=t.length):∀(m k:Nat),k+m=t.length+1->f<k->
  zB (λ(x:Int)=>zCM t cuts (f:Int) n c o p x) (k:Int)=some (yN9 (f:Int) ((List.range' k m).find? λ(q:Nat)=>decide ((q:Int)∈cuts)&&mB n c o p t (f:Int) (q:Int)))
 | 0,k,h,_=>by
  have e:decide ((k:Int)<=(t.length:Int))=false:=by simp;omega
  exact zD (by simp only[zCM,e,cP];rfl)
 | m+1,k,h,hk=>by
  have e:decide ((k:Int)<=(t.length:Int))=true:=by simp;omega
  have ih:=yBO o T H hc hf m (k+1) (by omega) (by omega);have s2:slc t (f:Int) (k:Int)=some (sl t (f:Int) (k:Int)):=by unfold slc;rw[dK (by omega)];rfl
  have Z:=z6Q hn hok hs hg H ({Lo:=(f:Int),Hi:=(k:Int)}:Range);have D:decide (0<=({Lo:=(f:Int),Hi:=(k:Int)}:Range).Lo/\({Lo:=(f:Int),Hi:=(k:Int)}:Range).Lo<=({Lo:=(f:Int),Hi:=(k:Int)}:Range).Hi/\({Lo:=(f:Int),Hi:=(k:Int)}:Range).Hi<=(t.length:Int))=true:=by simp;omega
  rw[D,dT] at Z;have z:zCM t cuts (f:Int) n c o p (k:Int)=cond (decide ((k:Int)∈cuts)&&mB n c o p t (f:Int) (k:Int)) (some (.done (.inr (true,(f:Int),(k:Int))))) (some (.next ((k+1:Nat):Int))):=by
   have G:wi ((k:Int)+1)=((k+1:Nat):Int):=zC (by omega);unfold zCM;rw[e,cQ,z4I (by omega),zA,zF];by_cases K:(k:Int)∈cuts
   ·simp only[K,dD,j7,s2,zA,z4J hn hok hs hg o (tk3 hn hok H _ _),z4J hn hok hs hg o T,yMJ hs o (tk3 hn hok H _ _),dT,zF]
    unfold mB;by_cases O:wT n c o (sl t (f:Int) (k:Int))=wT n c o p
    ·simp only[O,dD,j7,Z,zA,dT]
     rw[G]
    ·simp only[O,dI,wJ,zA,dV,cP]
     rw[G]
   ·simp only[K,dI,wJ,zA,dV,zF,cP]
    rw[G]
  rw[iy,ib];cases Y:(decide ((k:Int)∈cuts)&&mB n c o p t (f:Int) (k:Int)) with
  | true=>
   rw[Y] at z;exact zD z
  | false=>
   rw[Y] at z;rw[zG (x':=((k+1:Nat):Int)) z];exact ih
theorem yBP (o:Options) {p t cuts:List Int} (z:TOk n p) (D:t.length<=12) (h:cuts.length<=1000) {f:Nat} (G:f<t.length):zLF n c o p t cuts (f:Int)=some (match ((List.range' (f+1) (t.length-f)).find? λ(q:Nat)=>decide ((q:Int)∈cuts)&&mB n c o p t (f:Int) (q:Int)) with
  | some q=>(mkR (f:Int) (q:Int),true)
  | none=>(mkR 0 0,false)):=by
 unfold zLF;rw[zC (k:=f) (by omega),yBO hn hok hs hg o z D h (by omega) (t.length-f) (f+1) (by omega) (by omega),zA];cases (List.range' (f+1) (t.length-f)).find? (λ(q:Nat)=>decide ((q:Int)∈cuts)&&mB n c o p t (f:Int) (q:Int))<;>rfl
theorem yFX (o:Options) {p t cuts:List Int} (O:TOk n p) (T:t.length<=12) (G:cuts.length<=1000):∀(m k:Nat) (acc:List Range),k+m=t.length->acc.length<=k->
  zB (λ(x:Int×(List Range))=>zCV t cuts n c o p x.1 x.2) ((k:Int),acc)=some (acc++zI1 mkR (mB n c o p t) cuts t.length k m)
 | 0,k,acc,h,_=>by
  have:k=t.length:=by omega
  subst this;rw[zD (y:=acc) (by simp only[zCV,yY (dF _),cP])];simp[zI1]
 | m+1,k,acc,h,Z=>by
  have K:k<t.length:=by omega
  have e:zI1 mkR (mB n c o p t) cuts t.length k (m+1)=(if decide ((k:Int)∈cuts)=true then
   match ((List.range' (k+1) (t.length-k)).find? λ(q:Nat)=>decide ((q:Int)∈cuts)&&mB n c o p t (k:Int) (q:Int)) with
   | some q=>[mkR (k:Int) (q:Int)]
   | none=>[]
   else [])++zI1 mkR (mB n c o p t) cuts t.length (k+1) m:=by
   unfold zI1;rw[iy,ek]<;>rfl
  rw[e];have H:=yBP hn hok hs hg o O T G K;have z:wi ((k:Int)+1)=((k+1:Nat):Int):=zC (by omega);by_cases D:(k:Int)∈cuts
  ·cases Y:(List.range' (k+1) (t.length-k)).find? (λ(q:Nat)=>decide ((q:Int)∈cuts)&&mB n c o p t (k:Int) (q:Int)) with
   | some q=>
    rw[Y] at H;rw[zG (x':=(((k+1:Nat):Int),acc++ [mkR (k:Int) (q:Int)])) (by
     simp only[zCV,yF K,cQ,z4I (show cuts.length<=1000000000 by omega),zA,D,dD,dG,cP,H,jP (l:=acc) (m:=[mkR (k:Int) (q:Int)]) (by simp;omega)]
     rw[z])]
    rw[yFX o O T G m (k+1) _ (by omega) (by simp;omega)]
    simp[D]
   | none=>
    rw[Y] at H;rw[zG (x':=(((k+1:Nat):Int),acc)) (by
     simp only[zCV,yF K,cQ,z4I (show cuts.length<=1000000000 by omega),zA,D,dD,dG,cP,H];rw[z])]
    rw[yFX o O T G m (k+1) _ (by omega) (by omega)];simp[D]
  ·rw[zG (x':=(((k+1:Nat):Int),acc)) (by
     simp only[zCV,yF K,cQ,z4I (show cuts.length<=1000000000 by omega),zA,D,dI,dO];rw[z])]
   rw[yFX o O T G m (k+1) _ (by omega) (by omega)];simp[D]
noncomputable def aM (n:Norm) (c:Collation) (o:Options) (p t cuts:List Int):List Range:=if zO9 (wT n c o p)=true then zI1 mkR (mB n c o p t) cuts t.length 0 t.length else []
theorem z4K (o:Options) {p t cuts:List Int} (k:TOk n p) (D:t.length<=12) (z:cuts.length<=1000):zPQ n c o p t cuts=some (aM n c o p t cuts):=by
 unfold zPQ aM;rw[yFW hn hok hs hg o k,zA];cases zO9 (wT n c o p) with
 | false=>rfl
 | true=>
  have h:=yFX hn hok hs hg o k D z t.length 0 [] (by omega) (by simp);rw[show ((0:Nat):Int)=0 from rfl,dS] at h;rw[dG,cP,h,zA,dK rfl]
end
end Go.M


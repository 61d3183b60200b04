/- What the plain counterparts answer. Conditions: none. -/
import Derived.Test.YtjnpmmedmedokaaGreatDoorPu1
import Derived.Test.YtjnpmmedmedokaaGreatDoorLa3
set_option linter.unusedSimpArgs false
set_option linter.unusedVariables false
set_option linter.unnecessarySimpa false
namespace Go.M
open Go.AV
open Classical in
noncomputable def wG (n:Norm):List bM:=if VD0 n then n.aK else []
theorem yHK:CV []:=⟨λk h=>(by cases h),λk h=>(by cases h),λk h=>(by cases h)⟩
theorem z5D (n:Norm):CV (wG n):=by unfold wG;split;rename_i h;exact h.cv;exact yHK
theorem zSY {n:Norm} (h:NSm n):(wG n).length<=40:=by unfold wG;split;exact h.cl;simp
def zX9 (l:List bM) (t:Int):Int:=l.foldl (λt s=>max t s.Value) t
def zOE (c:Collation) (l:List bM):bG:={zSU c with bR:=l,top:=zX9 l 0}
theorem yHL {l:List bM} (K:l.length<=2000):∀(d k:Nat) (t:Int),l.length-k=d->k<=l.length->zD (λ(x:Int×Int)=>jZ l x.1 x.2) ((k:Int),t)=some (zX9 (l.drop k) t):=by
 intro d
 induction d with
 | zero=>
  intro k t D G;rw[dD (by omega)];refine zJ ?_;simp only[jZ,kJ (show l.length<=k by omega),cN];rfl
 | succ d H=>
  intro k t D G;have h:k<l.length:=by omega
  rw[cY h];rw[zM (x':=(((k+1:Nat):Int),max t l[k].Value)) (by simp only[jZ,yT h,cO,zU h,zA,zI (k:=k) (by omega)])];exact H (k+1) _ (by omega) (by omega)
theorem yLZ {c:Collation} {n:Norm} (K:NSm n) (D:wY n):uW (zSU c) n=some (zOE c (wG n)):=by
 obtain⟨e,T,H⟩:=yHC K D;unfold uW;rw[T,zA];have O:(cond (decide (e=0)) (some n.aK) (some (zSU c).bR):Option (List bM))=some (wG n):=by
  unfold wG;by_cases h:e=0;rw[dH (H.1 h)];simp[h];rw[dN (λY=>h (H.2 Y))];simp[h,zSU]
 rw[O,zA];have G:=yHL (l:=wG n) (by have:=zSY K;omega) (wG n).length 0 0 (by omega) (by omega)
 rw[d7] at G;have k:zD (λ(x:Int×Int)=>jZ (wG n) x.1 x.2) (0,(zSU c).top)=some (zX9 (wG n) 0):=G;rw[k];rfl
theorem zOF {c:Collation} (h:Sm c) {l:List bM} {codes:List Int}:j9 (zOE c l) codes=some (zD6 (kB c).aB codes):=yLF h (codes:=codes)
theorem zO1 {c:Collation} {l:List bM} (h:CV l) (hl:l.length<=2000) (x:Int):vY (zOE c l) x=some (clE l x):=by
 obtain⟨j,Y,hr,G,D⟩:=z1M (n:=l.length) hl (body:=λ(q:Int×Int)=>zCR (λx0=>vA x0 (zOE c l) x) q.1 q.2) (λk=>decide (x<=(nth l k).Hi))
  (λk _=>by simp only[zCR,kJ (dB _),cN])
  (λlo hi h1 h2=>by
   have hm:(lo+hi)/2<l.length:=by omega
   have O:yA (zOE c l).bR (((lo+hi)/2:Nat):Int)=some (nth l ((lo+hi)/2)):=zV hm;simp only[zCR,yT h1,cO,zQB (show lo+hi<=4611686018427387903 by omega),vA,O,zA,zI (k:=(lo+hi)/2) (by omega)];by_cases hc:x<=(nth l ((lo+hi)/2)).Hi<;>simp[hc])
  (λi j T Y hi=>by
   have:=h.hi T Y;simp only[cZ] at hi ⊢;omega)
 simp only[dA,cZ] at G D;unfold vY zKM;have Z:(zOE c l).bR=l:=rfl;rw[Z,hr,yND h Y (λk hk=>by have:=G k hk;omega) D]
 simp only[zA,zL];by_cases H:j<l.length;simp only[yT H,xF,zV H,zA,dK,H,true_and];by_cases K:(nth l j).Lo<=x<;>simp[K];simp only[kJ (show l.length<=j by omega),vF,zA,dQ,cN,H,false_and,cX]
theorem z8A:∀(l:List bM) (t:Int),t<=zX9 l t/\∀s∈l,s.Value<=zX9 l t
 | [],t=>⟨fV _,λs h=>by cases h⟩
 | x::l,t=>by
  have k:=z8A l (max t x.Value);refine⟨by show t<=zX9 l (max t x.Value);omega,λs hs=>?_⟩
  show s.Value<=zX9 l (max t x.Value);rcases dM.1 hs with rfl | hs
  omega;exact k.2 s hs
theorem yRW {l:List bM} (x:Int):clE l x<=zX9 l 0:=by
 unfold clE;cases h:l.find? (zUE x) with
 | none=>exact(z8A l 0).1
 | some s=>exact(z8A l 0).2 s (fN h)
theorem yNL {l:List bM} (h:CV l) (x:Int):0<=clE l x:=by
 unfold clE;cases G:l.find? (zUE x) with
 | none=>exact fV _
 | some s=>
  have:=fN G;obtain⟨k,D,rfl⟩:=fB this;have:=h.sp k D;rw[zBL D] at this;unfold spOk at this;show 0<=(l[k]).Value;omega
def zKY (p:Nat->Bool):Nat->Nat
 | 0=>0
 | k+1=>if p (k+1) then k+1 else zKY p k
theorem zRN (p:Nat->Bool):∀k,zKY p k<=k
 | 0=>dB _
 | k+1=>by unfold zKY;split;omega;have:=zRN p k;omega
theorem zZO {p : Nat -> Bool} {m : Nat} : ∀ {k : Nat}, m <= k -> (∀ j, m<j -> j <= k -> p j = false) -> zKY p k = zKY p m
  | 0, h, _ => by have : m = 0 := by omega
                  rw[this]
  | k+1, h, hp => by
    by_cases e : m = k+1
    · rw[e]
    · unfold zKY
      rw[hp (k+1) (by omega) (dB _)];simp only[dP, cX];rw[zZO (m := m) (by omega) λj h1 h2 => hp j h1 (by omega)];cases m<;>rfl
def pfx (es:List bP) (text:List Int) (k:Nat):Bool:=(zD6 es (text.take k)).2
def zAJ (es:List bP) (text:List Int):Nat:=zKY (pfx es text) text.length
def zER (fd:List Int->Bool) (cl:Int->Int):List Int->List Int->List Int->Int->List Int×List Int
 | [],p,s,_=>(p,s)
 | x::r,p,s,h=>if cl x=0 then (p,s++x::r) else if fd (p++ [x])&&decide (h<cl x) then zER fd cl r (p++ [x]) s h else zER fd cl r p (s++ [x]) (max h (cl x))
theorem zZP {fd:List Int->Bool} {cl:Int->Int}:∀(r p s:List Int) (h:Int),(∀x,cl x<=h)->zER fd cl r p s h=(p,s++r)
 | [],p,s,h,_=>by simp[zER]
 | x::r,p,s,h,k=>by
  have D:=k x;unfold zER;split;rfl;have e:decide (h<cl x)=false:=by simp;omega
  rw[e,fQ,dN (by simp),zZP r p (s++ [x]) (max h (cl x)) (λy=>by have:=k y;omega)]
  simp
theorem zRO {fd:List Int->Bool} {cl:Int->Int}:∀(r p s:List Int) (h:Int),p.length<=(zER fd cl r p s h).1.length/\(zER fd cl r p s h).1.length+(zER fd cl r p s h).2.length=p.length+s.length+r.length/\((zER fd cl r p s h).1.length=p.length->zER fd cl r p s h=(p,s++r))
 | [],p,s,h=>by simp[zER]
 | x::r,p,s,h=>by
  unfold zER;split;refine⟨dB _,by simp;omega,λ_=>rfl⟩
  split;have k:=zRO (fd:=fd) (cl:=cl) r (p++ [x]) s h;simp only[cW,dR,d6] at k ⊢;exact⟨by omega,by omega,λe=>by omega⟩;have k:=zRO (fd:=fd) (cl:=cl) r p (s++ [x]) (max h (cl x));simp only[cW,dR,d6] at k ⊢;refine⟨k.1,by omega,λe=>?_⟩;rw[k.2.2 e];simp
section
variable {c:Collation} (hs:Sm c) {l:List bM} (hcv:CV l) (hl:l.length<=2000)
include hs
theorem mL0 {text:List Int} (H:text.length<=2000):∀k,k<=text.length->zD (λ(x:Int)=>jE text (zOE c l) x) (k:Int)=some ((zKY (pfx (kB c).aB text) k:Nat):Int)
 | 0,_=>by
  refine zJ ?_;have:decide ((0:Int)<((0:Nat):Int))=false:=rfl;simp only[jE,this,cN];rfl
 | k+1,G=>by
  have D:decide ((0:Int)<((k+1:Nat):Int))=true:=by simp<;>omega
  have K:=mL0 H k (by omega);unfold zKY;cases h:pfx (kB c).aB text (k+1) with
  | true=>
   rw[dH rfl];refine zJ ?_;unfold pfx at h;simp only[jE,D,cO,zFB G,zA,zOF hs,h]
  | false=>
   rw[dN (by simp),<-K];refine zM ?_;unfold pfx at h;simp only[jE,D,cO,zFB G,zA,zOF hs,h,cN,zD3 (k:=k) (by omega)]
omit hs in
theorem yHM {text:List Int} {k:Nat} (K:k<=text.length) (h:zRI (kB c).aB 0<(k:Int)):pfx (kB c).aB text k=false:=by
 have D:=z1J (kB c).aB 0;unfold pfx zD6;have:(kB c).aB.find? (λx=>decide (x.aX=text.take k))=none:=by
  rw[List.find?_eq_none];intro x H;simp only[cZ];intro e;have G:=D.2 x H;rw[e] at G;have:(text.take k).length=k:=by simp;omega
  omega
 rw[this]
theorem yPJ {text:List Int} (G:text.length<=2000):zD (λ(x:Int)=>jE text (zOE c l) x) (min (zOE c l).bU (text.length:Int))=some ((zAJ (kB c).aB text:Nat):Int):=by have H:=z1J (kB c).aB 0;have e:(zOE c l).bU=zRI (kB c).aB 0:=rfl;rw[e];obtain⟨m,D⟩:∃m:Nat,min (zRI (kB c).aB 0) (text.length:Int)=(m:Int):=⟨(min (zRI (kB c).aB 0) (text.length:Int)).toNat,by omega⟩;rw[D,mL0 hs G m (by omega)];unfold zAJ;rw[zZO (p:=pfx (kB c).aB text) (m:=m) (k:=text.length) (by omega) λj K h=>yHM h (by omega)]
omit hs in
theorem yPK {p s r:List Int} {x:Int}:zA9 (cpM (p++s++x::r) ((p.length+1:Nat):Int) ((p.length+s.length+1:Nat):Int) (p.length:Int) ((p.length+s.length:Nat):Int)) (p.length:Int) x=some ((p++ [x])++s++r):=by
 have G:((p++s++x::r).drop p.length).take (p.length+s.length-p.length)=s:=by
  rw[c9,List.drop_left];have:p.length+s.length-p.length=s.length:=by omega
  rw[this,gR]
 have H:min (p.length+s.length-p.length) (p.length+s.length+1-(p.length+1))=s.length:=by omega
 unfold cpM;simp only[Int.toNat_natCast];rw[G,H,gC (dB _)];cases s with
 | nil=>
  have D:(p++ []++x::r)=p++x::r:=by simp
  rw[D];have h:(p++x::r).take (p.length+1)=p++ [x]:=by
   rw[List.take_append,gC (by omega)];simp
  have k:(p++x::r).drop (p.length+1+([]:List Int).length)=r:=by
   rw[List.drop_append,dD (by simp)];simp
  rw[h,k];have:p++ [x]++ []++r=p++x::r:=by simp
  rw[this,zAP rfl]
 | cons y s=>
  have D:(p++(y::s)++x::r)=p++y::(s++x::r):=by simp
  rw[D];have h:(p++y::(s++x::r)).take (p.length+1)=p++ [y]:=by
   rw[List.take_append,gC (by omega)];simp
  have k:(p++y::(s++x::r)).drop (p.length+1+(y::s).length)=r:=by
   have:p++y::(s++x::r)=(p++y::(s++ [x]))++r:=by simp
   rw[this,List.drop_left' (by simp;omega)]
  rw[h,k];have:p++ [y]++(y::s)++r=p++y::((y::s)++r):=by simp
  rw[this,zAP rfl];simp
include hcv hl
theorem mL1:∀(r p s:List Int) (h:Int),p.length+s.length+r.length<=2000->
  zD (λ(x:Int×Int×Int×(List Int))=>kQ (zOE c l) x.1 x.2.1 x.2.2.1 x.2.2.2) ((p.length:Int),h,((p.length+s.length:Nat):Int),p++s++r)=
   some ((((zER (λq=>(zD6 (kB c).aB q).2) (clE l) r p s h).1.length:Nat):Int),(zER (λq=>(zD6 (kB c).aB q).2) (clE l) r p s h).1++(zER (λq=>(zD6 (kB c).aB q).2) (clE l) r p s h).2)
 | [],p,s,h,_=>by
  refine zJ ?_;have:decide (((p.length+s.length:Nat):Int)<((p++s++ []).length:Int))=false:=by simp
  simp only[kQ,zL,this,dQ,cN];simp[zER]
 | x::r,p,s,h,hn=>by
  simp only[dR] at hn;have Y:decide (((p.length+s.length:Nat):Int)<((p++s++x::r).length:Int))=true:=by simp<;>omega
  have hi:yA (p++s++x::r) ((p.length+s.length:Nat):Int)=some x:=vQ (by simp);have G:(zOE c l).top=zX9 l 0:=rfl;by_cases H:h<zX9 l 0
  ·have D:decide (h<(zOE c l).top)=true:=by rw[G];simpa using H
   by_cases K:clE l x=0
   ·refine zJ ?_
    simp only[kQ,zL,Y,D,fE,cO,hi,zA,zO1 hcv hl,K,dC,eU];unfold zER;rw[dH K];simp
   ·unfold zER
    rw[dN K];by_cases hk:clE l x<=h
    ·have e:decide (h<clE l x)=false:=by simp;omega
     rw[e,fQ,dN (by simp)];rw[zM (x':=((p.length:Int),h,((p.length+(s++ [x]).length:Nat):Int),p++(s++ [x])++r)) (by
      have Z:p++(s++ [x])++r=p++s++x::r:=by simp
      have O:p.length+(s++ [x]).length=p.length+s.length+1:=by simp;omega
      rw[Z,O];simp only[kQ,zL,Y,D,fE,cO,hi,zA,zO1 hcv hl,K,hk,dC,dF,cN,Sum.elim_inr,zI (k:=p.length+s.length) (by omega)])]
     have:=mL1 r p (s++ [x]) h (by simp;omega)
     rw[show max h (clE l x)=h by omega];exact this
    ·have e:decide (h<clE l x)=true:=by simp;omega
     rw[e,Bool.and_true];have s1:slc (p++s++x::r) 0 (p.length:Int)=some p:=by
      rw[zFB (by simp)];simp
     have a1:app p [x]=some (p++ [x]):=jV (by simp;omega)
     cases hf:(zD6 (kB c).aB (p++ [x])).2 with
     | false=>
      rw[dN (by simp)];rw[zM (x':=((p.length:Int),clE l x,((p.length+(s++ [x]).length:Nat):Int),p++(s++ [x])++r)) (by
       have Z:p++(s++ [x])++r=p++s++x::r:=by simp
       have O:p.length+(s++ [x]).length=p.length+s.length+1:=by simp;omega
       rw[Z,O];simp only[kQ,zL,Y,D,fE,cO,hi,zA,zO1 hcv hl,K,hk,dF,cN,s1,a1,zOF hs,hf,dS,Sum.elim_inr,zI (k:=p.length+s.length) (by omega)])]
      have:=mL1 r p (s++ [x]) (clE l x) (by simp;omega)
      rw[show max h (clE l x)=clE l x by omega];exact this
     | true=>
      rw[dH rfl];have ai:∃q,slc (p++s++x::r) ((p.length+1:Nat):Int) ((p.length+s.length+1:Nat):Int)=some q:=⟨_,zSR (by omega) (by simp;omega)⟩
      have aj:∃q,slc (p++s++x::r) (p.length:Int) ((p.length+s.length:Nat):Int)=some q:=⟨_,zSR (by omega) (by simp)⟩;obtain⟨q1,ad⟩:=ai;obtain⟨q2,ag⟩:=aj;have T:=yPK (p:=p) (s:=s) (r:=r) (x:=x);obtain⟨_,_,ac⟩:=zOL T;have aa:∃q,yA (cpM (p++s++x::r) ((p.length+1:Nat):Int) ((p.length+s.length+1:Nat):Int) (p.length:Int) ((p.length+s.length:Nat):Int)) (p.length:Int)=some q:=⟨_,zU (by simpa using ac)⟩;obtain⟨q3,ah⟩:=aa;rw[zM (x':=(((p++ [x]).length:Int),h,(((p++ [x]).length+s.length:Nat):Int),(p++ [x])++s++r)) (by
       have O:(p++ [x]).length+s.length=p.length+s.length+1:=by simp;omega
       have e4:(p++ [x]).length=p.length+1:=by simp
       rw[O,e4];simp only[kQ,zL,Y,D,fE,cO,hi,zA,zO1 hcv hl,K,hk,dF,cN,s1,a1,zOF hs,hf,dE,zI (k:=p.length+s.length) (by omega),zI (k:=p.length) (by omega),ad,ag,ah,T,Sum.elim_inr])]
      exact mL1 r (p++ [x]) s h (by simp;omega)
  ·have D:decide (h<(zOE c l).top)=false:=by rw[G];simpa using H
   have hm:=zZP (fd:=λq=>(zD6 (kB c).aB q).2) (cl:=clE l) (x::r) p s h (λy=>by have:=yRW (l:=l) y;omega)
   rw[hm];refine zJ ?_;simp only[kQ,zL,Y,D,fQ,cN,c9]
noncomputable def stE (c:Collation) (l:List bM) (text:List Int):Int×List Int×List aP:=if zAJ (kB c).aB text=0 then (1,text.drop 1,zUC (kB c) (nth text 0)) else
 ((((zER (λq=>(zD6 (kB c).aB q).2) (clE l) (text.drop (zAJ (kB c).aB text)) (text.take (zAJ (kB c).aB text)) [] 0).1.length:Nat):Int),(zER (λq=>(zD6 (kB c).aB q).2) (clE l) (text.drop (zAJ (kB c).aB text)) (text.take (zAJ (kB c).aB text)) [] 0).2,(zD6 (kB c).aB (zER (λq=>(zD6 (kB c).aB q).2) (clE l) (text.drop (zAJ (kB c).aB text)) (text.take (zAJ (kB c).aB text)) [] 0).1).1)
theorem yHN {text:List Int} (ht:text.length<=2000) (h0:text≠[]):∃D,vZ (zOE c l) text=some ((stE c l text).1,(stE c l text).2.2,decide (zAJ (kB c).aB text≠0),D)/\slc D (stE c l text).1 (D.length:Int)=some (stE c l text).2.1:=by
 unfold vZ;rw[yPJ hs ht,zA];have G:0<text.length:=e6.2 h0;by_cases H:zAJ (kB c).aB text=0;have K:decide (((zAJ (kB c).aB text:Nat):Int)=0)=true:=by simp[H]
 have i0:yA text (0:Int)=some (nth text 0):=zV (k:=0) G;have h:stE c l text=(1,text.drop 1,zUC (kB c) (nth text 0)):=by unfold stE;rw[dH H]
 have T:xQ (zOE c l) (nth text 0)=some (zUC (kB c) (nth text 0)):=z4X c (nth text 0);rw[K,cO,i0,zA,T,zA,h];refine⟨text,?_,?_⟩;simp[H];exact zIB (l:=text) (a:=1) (by omega);have K:decide (((zAJ (kB c).aB text:Nat):Int)=0)=false:=by simp;omega
 rw[K,cN];have ab:zAJ (kB c).aB text<=text.length:=zRN _ _;have O:=mL1 hs hcv hl (text.drop (zAJ (kB c).aB text)) (text.take (zAJ (kB c).aB text)) [] 0 (by simp;omega)
 have Y:(text.take (zAJ (kB c).aB text)).length=zAJ (kB c).aB text:=by simp;omega
 have Z:text.take (zAJ (kB c).aB text)++ []++text.drop (zAJ (kB c).aB text)=text:=by simp
 rw[Z,Y] at O;simp only[d6,fG] at O;rw[O,zA];have h:stE c l text=((((zER (λq=>(zD6 (kB c).aB q).2) (clE l) (text.drop (zAJ (kB c).aB text)) (text.take (zAJ (kB c).aB text)) [] 0).1.length:Nat):Int),(zER (λq=>(zD6 (kB c).aB q).2) (clE l) (text.drop (zAJ (kB c).aB text)) (text.take (zAJ (kB c).aB text)) [] 0).2,(zD6 (kB c).aB (zER (λq=>(zD6 (kB c).aB q).2) (clE l) (text.drop (zAJ (kB c).aB text)) (text.take (zAJ (kB c).aB text)) [] 0).1).1):=by unfold stE;rw[dN H]
 rw[h];generalize zER (λq=>(zD6 (kB c).aB q).2) (clE l) (text.drop (zAJ (kB c).aB text)) (text.take (zAJ (kB c).aB text)) [] 0=q;have s1:slc (q.1++q.2) 0 ((q.1.length:Nat):Int)=some q.1:=by rw[zFB (by simp)];simp
 simp only[s1,zA,zOF hs];refine⟨q.1++q.2,?_,?_⟩;simp[H];rw[zIB (by simp)];simp
end
open Go.AV
def n0:Norm:={aK:=[{Lo:=769,Hi:=769,Value:=230},{Lo:=803,Hi:=803,Value:=220}],aA:=[],aN:={Ranges:=[]}}
def c0:Collation:={aB:=[{aX:=[97],aU:=[{aS:=7,aL:=1,aO:=1,aD:=false}]},{aX:=[97,769],aU:=[{aS:=8,aL:=1,aO:=1,aD:=false}]}],aE:=[],bK:=100,bA:=1,bJ:=1}
open Go.AV
theorem yHO {n:Norm} (h:DS n.aA) (O:n.aA.length<=2000) (c:Int) (b:Bool):uV n c b=some (if syl c=true then (hdE c,true) else ((fnB n.aA b c).getD [],(fnB n.aA b c).isSome)):=by
 unfold uV;rw[zOY,zA];by_cases k:syl c=true;have e:decide (4<=hkE c)=true:=by simpa using (zIV c).1 k
 simp only[e,cO,z9W k,zA,k,dG];have e:decide (4<=hkE c)=false:=by simp only[dA];exact λK=>k ((zIV c).2 K)
 simp only[gV] at k;simp only[e,cN,k,dP,cX];obtain⟨i,hb,Y⟩:=z9Y h O c;rw[hb];simp only[zA,zL];unfold fnB;cases H:n.aA.find? (isF c) with
 | none=>simp[vF]
 | some m=>
  obtain⟨D,G⟩:=Y m H;simp only[Option.isSome_some,dE,dS,xF,zV D,G,zA,fa];cases b<;>cases T:(m.bO== [])<;>simp[T]
section
variable {n:Norm} {b:Bool} (hd:DS n.aA) (hl:n.aA.length<=2000) (hD:∀c,DD n.aA n.aA.length c) (hw:∀c,(fu n.aA b c).length<=64)
def XOk (l:List aH) (b:Bool) (m:List (Int×List Int)):Prop:= ∀k v,mget m k=some v->v=fu l b k
def z99 (l:List aH) (f:Nat) (c:Int):Prop:=(∃k,DD l k c/\k+2<=f)\/(l.find? (isF c)=none/\syl c=false/\1<=f)
include hw in
theorem yPL {f:Nat} (ih:∀c m,XOk n.aA b m->z99 n.aA f c->∃h,kU f c m n b=some (fu n.aA b c,h)/\XOk n.aA b h) (L:List Int) (hL:L.length<=2000) (Z:∀e∈L,z99 n.aA f e):
  ∀(d i:Nat) (acc:List Int) (m:List (Int×List Int)),L.length-i=d->i<=L.length->acc.length<=64*i->XOk n.aA b m->
   ∃h,zD (λ(x:Int×(List Int)×(List (Int×(List Int))))=>jJ (L,true) (kU f) n b x.1 x.2.1 x.2.2) ((i:Int),acc,m)=some (acc++(L.drop i).flatMap (fu n.aA b),h)/\XOk n.aA b h:=by
 intro d
 induction d with
 | zero=>
  intro i acc m K O T D;refine⟨m,?_,D⟩;refine zJ ?_;rw[dD (show L.length<=i by omega)];simp only[jJ,kJ (show L.length<=i by omega),cN,gW,et]
 | succ d G=>
  intro i acc m K O T D;have hi:i<L.length:=by omega
  obtain⟨H,hr,r1⟩:=ih L[i] m D (Z _ (eG hi));have ac:=hw L[i];have Y:app acc (fu n.aA b L[i])=some (acc++fu n.aA b L[i]):=jV (by omega);rw[zM (x':=(((i+1:Nat):Int),acc++fu n.aA b L[i],H)) (by
   simp only[jJ,yT hi,cO,zU hi,zA,hr,Y,zI (k:=i) (by omega)])]
  obtain⟨m2,hq,q1⟩:=G (i+1) (acc++fu n.aA b L[i]) H (by omega) (by omega) (by rw[cW];omega) r1
  refine⟨m2,?_,q1⟩;rw[hq,cY hi,d9,c9]
include hd hl hD hw in
theorem yRX:∀(f:Nat) (c:Int) (m:List (Int×List Int)),XOk n.aA b m->z99 n.aA f c->∃O,kU f c m n b=some (fu n.aA b c,O)/\XOk n.aA b O:=by
 intro f
 induction f with
 | zero=>intro c m _ hn;exfalso;rcases hn with ⟨k,_,h⟩ | ⟨_,_,h⟩<;>omega
 | succ f ih=>
  intro c m hm hn;show ∃O,vJ (kU f) c m n b=some _/\_;unfold vJ;cases hh:zDJ m c with
  | true=>
   obtain⟨v,hv⟩:=gJ.1 hh;have hg:mgetD m c []=v:=by unfold mgetD;rw[hv];rfl
   rw[cO,hg,hm c v hv];exact⟨m,rfl,hm⟩
  | false=>
   rw[cN,yHO hd hl,zA];have T:∀(L:List Int),L.length<=2000->(∀e∈L,z99 n.aA f e)->L.flatMap (fu n.aA b)=fu n.aA b c->∃O,(cond (!((L,true):List Int×Bool).2) (some ([c],m)) ((zD (λ(x:Int×(List Int)×(List (Int×(List Int))))=>jJ (L,true) (kU f) n b x.1 x.2.1 x.2.2) (0,[],m)).bind λ(y1:(List Int)×(List (Int×(List Int))))=>some (y1.1,w7 y1.2 c y1.1)))=some (fu n.aA b c,O)/\XOk n.aA b O:=by
    intro L hL aj ai;obtain⟨m1,hq,q1⟩:=yPL hw ih L hL aj L.length 0 [] m (by omega) (by omega) (by simp) hm;rw[d7,dO,ai] at hq;have ak:zD (λ(x:Int×(List Int)×(List (Int×(List Int))))=>jJ (L,true) (kU f) n b x.1 x.2.1 x.2.2) (0,[],m)=some (fu n.aA b c,m1):=hq;simp only[dE,cN];rw[ak];refine⟨w7 m1 c (fu n.aA b c),rfl,λk v H=>?_⟩;rw[vG] at H;split at H;rename_i hx;cases H;rw[hx];exact q1 k v H
   cases hs:syl c with
   | true=>
    simp only[dG];have K:=z49 hd hs;have Y:∀e∈hdE c,n.aA.find? (isF e)=none/\syl e=false:=by
     intro e G;obtain⟨Z,p2⟩:=zRJ hs G;refine⟨?_,Z⟩;cases ah:n.aA.find? (isF e) with
     | none=>rfl
     | some m=>obtain⟨q1,rfl⟩:=zGD ah;exact absurd (hd.hk m q1) p2
    refine T (hdE c) (by have:=zQA c;omega) (λe G=>?_) ?_
    obtain⟨Z,p2⟩:=Y e G;refine .inr ⟨Z,p2,?_⟩;rcases hn with ⟨k,_,h⟩ | ⟨_,h,_⟩;omega;rw[hs] at h;cases h;have D:fu n.aA b c=hdE c:=by rw[zRM hD,zGE K]
    rw[D];have:∀L:List Int,(∀e∈L,n.aA.find? (isF e)=none/\syl e=false)->L.flatMap (fu n.aA b)=L:=by
     intro L
     induction L with
     | nil=>intro _;rfl
     | cons x L am=>
      intro h;obtain⟨Z,p2⟩:=h x (by simp);have hx:fu n.aA b x= [x]:=by rw[zRM hD,zGE Z];show hdE x= [x];unfold hdE;rw[dN (by simp[p2])]
      rw[d9,hx,am λe G=>h e (by simp[G])];rfl
    exact this _ Y
   | false=>
    simp only[dP,cX];cases hf:fnB n.aA b c with
    | none=>
     simp only[Option.getD_none,Option.isSome_none,dS,cO];refine⟨m,?_,hm⟩;rw[zRM hD,hf];have:hdE c= [c]:=by unfold hdE;rw[dN (by simp[hs])]
     simp only[this]
    | some to=>
     simp only[gS,Option.isSome_some];obtain⟨mm,D,rfl,_⟩:=zJ0 hf;obtain⟨h2,_⟩:=zGD D;refine T mm.To (hd.len mm h2) (λe G=>?_) (by rw[zRM hD c,hf]);rcases hn with ⟨k,H,h⟩ | ⟨h,_,_⟩
     cases k with
     | zero=>have:n.aA.find? (isF c)=none:=H;rw[this] at D;cases D
     | succ k=>exact .inl ⟨k,H mm D e G,by omega⟩
     rw[h] at D;cases D
end
noncomputable def usN (n:Norm):Norm:=open Classical in if VD0 n then n else {aK:=[],aA:=[],aN:={Ranges:=[]}}
structure GN (n:Norm):Prop where
 ds:DS n.aA
 cv:CV n.aK
 H:∀m∈n.aA,WW n.aA m.aW
 w:∀m∈n.aA,wt n.aA true m.aW<=64
 cl:n.aK.length<=40
 de:n.aA.length<=40
 ok:∀x∈n.aK,cD x
theorem zSZ {n:Norm} (H:NSm n) (G:wY n):GN (usN n):=by
 unfold usN;split;rename_i h;obtain⟨K,O⟩:=(yHH h.ds (by have:=H.de;omega)).1 h.ms
 exact⟨h.ds,h.cv,K,O,H.cl,H.de,G.1.2⟩;exact⟨⟨λk T=>(by cases T),λm D=>(by cases D),λm D=>(by cases D)⟩,yHK,λm D=>(by cases D),λm D=>(by cases D),by simp,by simp,λx Y=>by cases Y⟩
theorem GN.dd {n:Norm} (h:GN n):∀c,DD n.aA n.aA.length c:=zWK h.ds h.H
theorem GN.len {n:Norm} (h:GN n) (b:Bool) (c:Int):(fu n.aA b c).length<=64:=yPF h.ds (yPG h.ds h.H h.w) b c
theorem GN.ex {n:Norm} (h:GN n) {b:Bool} (c:Int) (m:List (Int×List Int)) (D:XOk n.aA b m):∃k,kU 100 c m n b=some (fu n.aA b c,k)/\XOk n.aA b k:=
 yRX h.ds (by have:=h.de;omega) h.dd (h.len b) 100 c m D (.inl ⟨_,h.dd c,by have:=h.de;omega⟩)
theorem yL0 {n:Norm} (K:NSm n) (D:wY n):zA4 n=some (usN n):=by obtain⟨e,H,G⟩:=yHC K D;unfold zA4 usN;rw[H,zA];by_cases k:e=0;rw[dH (G.1 k)];simp[k];rw[dN (λh=>k (G.2 h))];simp[k]
theorem z5E {f:Int->List Int} {k:Nat} (h:∀e,(f e).length<=k):∀L:List Int,(L.flatMap f).length<=k*L.length
 | []=>by simp
 | x::L=>by have:=z5E h L;have:=h x;rw[d9,cW,dR,Nat.mul_succ];omega
theorem yDB {n:Norm} (h:GN n) {b:Bool} {text:List Int} (ht:text.length<=2000):∀(d i:Nat) (acc:List Int) (m:List (Int×List Int)),text.length-i=d->i<=text.length->acc.length<=64*i->XOk n.aA b m->
  zD (λ(x:Int×(List Int)×(List (Int×(List Int))))=>xU text n b x.1 x.2.1 x.2.2) ((i:Int),acc,m)=some (acc++(text.drop i).flatMap (fu n.aA b)):=by
 intro d
 induction d with
 | zero=>
  intro i acc m H K O D;refine zJ ?_;rw[dD (show text.length<=i by omega)];simp only[xU,kJ (show text.length<=i by omega),cN,gW,et]
 | succ d ih=>
  intro i acc m H K O D;have hi:i<text.length:=by omega
  obtain⟨G,Y,r1⟩:=h.ex (b:=b) text[i] m D;have Z:=h.len b text[i];have T:app acc (fu n.aA b text[i])=some (acc++fu n.aA b text[i]):=jV (by omega);rw[zM (x':=(((i+1:Nat):Int),acc++fu n.aA b text[i],G)) (by
   simp only[xU,yT hi,cO,zU hi,zA,Y,T,zI (k:=i) (by omega)])]
  rw[ih (i+1) (acc++fu n.aA b text[i]) G (by omega) (by omega) (by rw[cW];omega) r1,cY hi,d9,c9]
noncomputable def zGM (n:Norm) (b:Bool) (text:List Int):List Int:=text.flatMap (fu (usN n).aA b)
theorem yL1 {n:Norm} (K:NSm n) (H:wY n) {text:List Int} (O:text.length<=2000) (b:Bool):vK n text b=zB9 (usN n).aK (zGM n b text):=by have h:=zSZ K H;unfold vK zDC;have T:zA4 {aK:=n.aK,aA:=n.aA,aN:={Ranges:=n.aN.Ranges}}=some (usN n):=yL0 K H;have D:=yDB h (b:=b) O text.length 0 [] [] (by omega) (by omega) (by simp) (λk v h=>by cases h);rw[d7,dO] at D;have G:zD (λ(x:Int×(List Int)×(List (Int×(List Int))))=>xU text (usN n) b x.1 x.2.1 x.2.2) (0,[],[])=some (zGM n b text):=D;rw[T,zA,zA,G,zA];cases zB9 (usN n).aK (zGM n b text)<;>rfl
open Go.AV
section
variable (key:Int->Int)
def ltK (a b:Int):Bool:=decide (key a<key b)
def ltC (a b:Int):Bool:=decide (0<key a)&&decide (key a<key b)
def srt (l:List Int):List Int:=zAX (ltK key) l []
def csE (l:List Int):List Int:=zAX (ltC key) l []
def rsE:List Int->List Int->List Int
 | [],run=>srt key run
 | x::t,run=>if key x=0 then srt key run++x::rsE t [] else rsE t (run++ [x])
end
section
variable {key:Int->Int}
theorem yHP (l:List Int) (x:Int):srt key (l++ [x])=u3 (ltK key) (srt key l).reverse x []:=by unfold srt zAX;rw[List.foldl_append];rfl
theorem zRP (l:List Int):Flt key l (srt key l):=by have:=zO0 (key:=key) l [];exact this
theorem yAA (l:List Int):(srt key l).length=l.length:=(zRP l).len.symm
theorem yAB {x:Int} (k:0<key x):∀(r q s:List Int),(∀y,q.head? =some y->key y=0)->u3 (ltC key) (r++q) x s=q.reverse++u3 (ltK key) r x s
 | [],q,s,h=>by
  cases q with
  | nil=>rfl
  | cons y q=>
   have:ltC key x y=false:=by unfold ltC;rw[h y rfl];simp;omega
   show u3 (ltC key) (y::q) x s=_;simp only[u3,this,dP,cX]
 | y::r,q,s,h=>by
  have e:ltC key x y=ltK key x y:=by unfold ltC ltK;simp[k]
  show u3 (ltC key) (y::(r++q)) x s=q.reverse++u3 (ltK key) (y::r) x s;simp only[u3,e];cases ltK key x y with
  | true=>simp only[dG];exact yAB k r q (y::s) h
  | false=>simp
theorem yHQ (h:∀x,0<=key x):∀(t run p:List Int),(∀y,p.reverse.head? =some y->key y=0)->zAX (ltC key) t (p++srt key run)=p++rsE key t run
 | [],run,p,_=>rfl
 | x::t,run,p,D=>by
  show zAX (ltC key) t (u3 (ltC key) (p++srt key run).reverse x [])=p++rsE key (x::t) run;by_cases k:key x=0
  ·have e:∀r:List Int,u3 (ltC key) r x []=r.reverse++ [x]:=by
    intro r;cases r with
    | nil=>rfl
    | cons y r=>
     have:ltC key x y=false:=by unfold ltC;rw[k];simp
     simp[u3,this]
   have H:=yHQ h t [] (p++srt key run++ [x]) (λy G=>by simp at G;rw[<-G];exact k)
   have K:srt key []= []:=rfl;rw[K,et] at H;rw[e,fO,H];simp[rsE,k]
  ·have O:0<key x:=by have:=h x;omega
   rw[List.reverse_append,yAB O _ _ _ D,fO,<-yHP,yHQ h t (run++ [x]) p D];simp[rsE,k]
theorem z1S (h:∀x,0<=key x) (t:List Int):csE key t=rsE key t []:=by have:=yHQ h t [] [] (λy k=>by cases k);exact this
theorem z5F (t:List Int):(csE key t).Perm t:=by have:=zMK (ltC key) t [];rw[dO] at this;exact this
theorem yL2 (t:List Int):(csE key t).length=t.length:=(z5F t).length_eq
theorem z5G {f:List Int->Option (List Int)} {P run T r:List Int} (h:0<run.length) (H:f run=some r):zMU f (P++run++T) (P.length:Int) ((P.length+run.length:Nat):Int)=some (P++r++T):=by
 unfold zMU;have a1:((P.length:Int)).toNat=P.length:=by simp
 have a2:(((P.length+run.length:Nat):Int)).toNat=P.length+run.length:=by omega
 rw[a1,a2,dH ⟨by omega,by omega,by rw[cW,cW];omega⟩]
 have G:((P++run++T).drop P.length).take (P.length+run.length-P.length)=run:=by
  rw[c9,List.drop_left,show P.length+run.length-P.length=run.length by omega,gR]
 have k:(P++run++T).take P.length=P:=by rw[c9,gR]
 have D:(P++run++T).drop (P.length+run.length)=T:=by rw[<-cW,List.drop_left]
 rw[G,k,D,H];rfl
theorem yAC {f:List Int->Option (List Int)} {st:Int->Bool} (k:∀x,st x=decide (key x=0)) (K:∀l,l.length<=2000->f l=some (srt key l)):∀(t run P:List Int) (s:Int),P.length+run.length+t.length<=2000->(run= []/\s= -1\/run≠[]/\s=(P.length:Int))->
  zBA f Range.Lo Range.Hi (P++run++t) (xX st t ((P.length+run.length:Nat):Int) s)=some (P++rsE key t run)
 | [],run,P,s,hl,T=>by
  rcases T with ⟨rfl,rfl⟩ | ⟨G,rfl⟩
  ·simp only[xX,show ¬(0:Int)<= -1 by decide,cX]
   show some (P++ []++ [])=some (P++ []);simp
  ·have H:(0:Int)<=(P.length:Int):=by omega
   simp only[xX,H,dG];have h:0<run.length:=e6.2 G;show (some (P++run++ [])).bind (λl=>zMU f l (P.length:Int) ((P.length+run.length:Nat):Int))=_;rw[zA,z5G h (K run (by simp at hl;omega))]
   simp[rsE]
 | x::t,run,P,s,hl,T=>by
  have ab:P.length+run.length+t.length+1<=2000:=by simp only[dR] at hl;omega
  by_cases H:key x=0
  ·have D:st x=true:=by rw[k];simp[H]
   rcases T with ⟨rfl,rfl⟩ | ⟨G,rfl⟩
   ·have e:xX st (x::t) ((P.length+([]:List Int).length:Nat):Int) (-1)=xX st t (((P++ [x]).length+([]:List Int).length:Nat):Int) (-1):=by
     simp only[xX,D];simp
    have O:=yAC k K t [] (P++ [x]) (-1) (by simp only[cW,g6,d6];simp at ab;omega) (.inl ⟨rfl,rfl⟩)
    rw[e,show P++ []++x::t=P++ [x]++ []++t by simp,O];have e2:srt key []= []:=rfl;simp[rsE,H,e2]
   ·have Z:(0:Int)<=(P.length:Int):=by omega
    have h:0<run.length:=e6.2 G;have e:xX st (x::t) ((P.length+run.length:Nat):Int) (P.length:Int)= {Lo:=(P.length:Int),Hi:=((P.length+run.length:Nat):Int)}::xX st t (((P++srt key run++ [x]).length+([]:List Int).length:Nat):Int) (-1):=by
     have Y:(((P++srt key run++ [x]).length+([]:List Int).length:Nat):Int)=((P.length+run.length:Nat):Int)+1:=by simp[yAA];omega
     rw[Y];simp only[xX,D,dE,dQ,dP,cX,dK,Z,dC,dG]
    have O:=yAC k K t [] (P++srt key run++ [x]) (-1) (by simp[yAA];omega) (.inl ⟨rfl,rfl⟩)
    have e4:zMU f (P++run++x::t) (P.length:Int) ((P.length+run.length:Nat):Int)=some (P++srt key run++ [x]++ []++t):=by
     rw[z5G h (K run (by omega))];simp
    have e5:zBA f Range.Lo Range.Hi (P++run++x::t) ({Lo:=(P.length:Int),Hi:=((P.length+run.length:Nat):Int)}::xX st t (((P++srt key run++ [x]).length+([]:List Int).length:Nat):Int) (-1))=zBA f Range.Lo Range.Hi (P++srt key run++ [x]++ []++t) (xX st t (((P++srt key run++ [x]).length+([]:List Int).length:Nat):Int) (-1)):=by
     unfold zBA;rw[ik,zA,e4]
    rw[e,e5,O];simp[rsE,H]
  ·have D:st x=false:=by rw[k];simp[H]
   have e:xX st (x::t) ((P.length+run.length:Nat):Int) s=xX st t ((P.length+(run++ [x]).length:Nat):Int) (P.length:Int):=by
    have Y:((P.length+(run++ [x]).length:Nat):Int)=((P.length+run.length:Nat):Int)+1:=by simp;omega
    rw[Y];rcases T with ⟨rfl,rfl⟩ | ⟨G,rfl⟩
    ·simp[xX,D]
    ·have:¬((P.length:Int)<0):=by omega
     simp only[xX,D,dS,dK,this,dF,dP,cX,dQ]
   have O:=yAC k K t (run++ [x]) P (P.length:Int) (by simp;omega) (.inr ⟨by simp,rfl⟩)
   rw[e,show P++run++x::t=P++(run++ [x])++t by simp,O];simp[rsE,H]
end
theorem yHR {l:List bM} (h:CV l) (k:l.length<=2000) (x y:Int):vU x y l=some (sg (clE l x) (clE l y)):=by unfold vU;simp only[zJY h k,zA,yC3];unfold sg;rfl
theorem yPN {l:List bM} (h:CV l) (D:l.length<=2000) (H:∀x∈l,cD x) {text:List Int} (K:text.length<=2000):zB9 l text=some (csE (clE l) text):=by
 have G:∀x,0<=clE l x:=yNL h;unfold zB9 zB1;have k:∀x,(jC l x==some 0)=decide (clE l x=0):=λx=>by rw[zJY h D];by_cases T:clE l x=0<;>simp[T]
 rw[zZL D H h,zA,yO4 K,zA,z45 h D K k rfl,zA];have:=yAC (key:=clE l) (f:=λp=>k8 p (λx0 x1=>vU x0 x1 l)) (st:=λc=>jC l c==some 0) k (λp O=>by
  obtain⟨r,Y,Z,r3⟩:=yDA (key:=clE l) (f:=λx0 x1=>vU x0 x1 l) (λx y=>yHR h D x y) p O;rw[Y];have:=zWN (key:=clE l) Z (zLV (key:=clE l) p) (r3.symm.trans (zRP p));rw[this];rfl) text [] [] (-1) (by simpa using K) (.inl ⟨rfl,rfl⟩)
 rw[z1S G];exact this
noncomputable def zC8 (n:Norm) (b:Bool) (text:List Int):List Int:=csE (clE (usN n).aK) (zGM n b text)
theorem zLW (n:Norm) (b:Bool) (text:List Int):(zC8 n b text).length=(zGM n b text).length:=yL2 _
theorem yDD {n:Norm} (k:NSm n) (h:wY n) (b:Bool) (text:List Int):(zGM n b text).length<=64*text.length:=z5E ((zSZ k h).len b) text
theorem z5H {n:Norm} (D:NSm n) (k:wY n) {text:List Int} {b:Bool} (H:text.length<=2000) (G:(zGM n b text).length<=2000):vK n text b=some (zC8 n b text):=by
 have h:=zSZ D k;rw[yL1 D k H,yPN h.cv (by have:=h.cl;omega) h.ok G]
 rfl
open Go.AV
noncomputable def wkE (c:Collation) (l:List bM):Nat->List Int->List aP×Bool
 | 0,_=>([],true)
 | k+1,text=>if text= [] then ([],true) else ((stE c l text).2.2++(wkE c l k (stE c l text).2.1).1,decide (zAJ (kB c).aB text≠0)&&(wkE c l k (stE c l text).2.1).2)
theorem yHS {c:Collation} {l:List bM} {text:List Int} (G:text≠[]):1<=(stE c l text).1/\(stE c l text).1+((stE c l text).2.1.length:Int)=(text.length:Int):=by have D:0<text.length:=e6.2 G;unfold stE;split;refine⟨by simp,?_⟩;show (1:Int)+((text.drop 1).length:Int)=_;rw[eJ];omega;rename_i H;have k:zAJ (kB c).aB text<=text.length:=zRN _ _;have h:=zRO (fd:=λq=>(zD6 (kB c).aB q).2) (cl:=clE l) (text.drop (zAJ (kB c).aB text)) (text.take (zAJ (kB c).aB text)) [] 0;generalize zER (λq=>(zD6 (kB c).aB q).2) (clE l) (text.drop (zAJ (kB c).aB text)) (text.take (zAJ (kB c).aB text)) [] 0=q at*;obtain⟨i1,i2,_⟩:=h;rw[dZ,gZ k] at i1 i2;rw[eJ] at i2;simp only[d6] at i2;constructor;show (1:Int)<=(q.1.length:Int);omega;show (q.1.length:Int)+(q.2.length:Int)=_;omega
theorem zZQ {c:Collation} {l:List bM} {text:List Int} (h:text≠[]):(stE c l text).2.1.length<text.length:=by have:=yHS (c:=c) (l:=l) h;omega
theorem yHT {c:Collation} (h:Sm c) {l:List bM} (text:List Int):(stE c l text).2.2.length<=2000:=by unfold stE;split;exact yLI _ _;exact yLH (z1I h) _
theorem yAD {c:Collation} {l:List bM}:∀(k j:Nat) (text:List Int),text.length<=k->text.length<=j->wkE c l k text=wkE c l j text
 | 0,j,text,h,_=>by
  have:text= []:=cP (by omega);subst this;cases j with
  | zero=>rfl
  | succ j=>simp[wkE]
 | k+1,j,text,h,K=>by
  by_cases D:text= [];subst D;cases j<;>simp[wkE];have G:0<text.length:=e6.2 D;cases j with
  | zero=>omega
  | succ j=>
   have H:=zZQ (c:=c) (l:=l) D;simp only[wkE,D,cX];rw[yAD k j _ (by omega) (by omega)]
noncomputable def wk (c:Collation) (l:List bM) (text:List Int):List aP×Bool:=wkE c l text.length text
theorem zOG (c:Collation) (l:List bM):wk c l []=([],true):=rfl
theorem zUU {c:Collation} {l:List bM} {text:List Int} (h:text≠[]):wk c l text=((stE c l text).2.2++(wk c l (stE c l text).2.1).1,decide (zAJ (kB c).aB text≠0)&&(wk c l (stE c l text).2.1).2):=by
 have G:=zZQ (c:=c) (l:=l) h;unfold wk;obtain⟨k,D⟩:∃k,text.length=k+1:=⟨text.length-1,by have:=e6.2 h;omega⟩
 rw[D];simp only[wkE,h,cX];rw[yAD k (stE c l text).2.1.length _ (by omega) (by omega)]
theorem yPO {c:Collation} (H:Sm c) {l:List bM}:∀(k:Nat) (text:List Int),text.length<=k->(wk c l text).1.length<=2000*text.length:=by
 intro k
 induction k with
 | zero=>
  intro text h;have:text= []:=cP (by omega);subst this;rw[zOG];simp
 | succ k K=>
  intro text h;by_cases D:text= [];subst D;rw[zOG];simp;have G:=zZQ (c:=c) (l:=l) D;have O:=K _ (show (stE c l text).2.1.length<=k by omega);have T:=yHT H (l:=l) text;rw[zUU D];show ((stE c l text).2.2++(wk c l (stE c l text).2.1).1).length<=_;rw[cW];omega
section
variable {c:Collation} (hs:Sm c) {l:List bM} (hcv:CV l) (hl:l.length<=2000)
include hs hcv hl
theorem yL4:∀(k:Nat) (text:List Int) (acc:List aP),text.length<=k->text.length<=2000->acc.length+2000*text.length<=100000000->zD (λ(x:(List aP)×(List Int))=>xS (zOE c l) x.1 x.2) (acc,text)=some (acc++(wk c l text).1):=by
 intro k
 induction k with
 | zero=>
  intro text acc h _ _;have:text= []:=cP (by omega);subst this;refine zJ ?_;simp[xS,zOG]
 | succ k Y=>
  intro text acc h T ha;by_cases D:text= [];subst D;refine zJ ?_;simp[xS,zOG];have G:0<text.length:=e6.2 D;have O:=zZQ (c:=c) (l:=l) D;have h2:=yHT hs (l:=l) text;obtain⟨ab,Z,m2⟩:=yHN hs hcv hl T D;have H:decide ((0:Int)<(text.length:Int))=true:=by simp;omega
  have K:app acc (stE c l text).2.2=some (acc++(stE c l text).2.2):=jV (by omega);rw[zM (x':=(acc++(stE c l text).2.2,(stE c l text).2.1)) (by simp only[xS,H,cO,Z,zA,K,m2])];rw[Y _ _ (by omega) (by omega) (by rw[cW];omega),zUU D,c9]
end
theorem zWO (n:Norm):wG n=(usN n).aK:=by unfold wG usN;split<;>rfl
section
variable {n:Norm} {c:Collation} (hn:NSm n) (hok:wY n) (hs:Sm c) (hg:∀g∈c.aE,g.bT.length<=MX) {text:List Int} (ht:text.length<=2000) (hf:(zGM n false text).length<=2000)
include hn hok hs hg ht hf
theorem zTN:kD n c text=some (wk c (wG n) (zC8 n false text)).1:=by
 unfold kD;have k:(wG n).length<=2000:=by have:=zSY hn;omega
 have h:(zC8 n false text).length<=2000:=by rw[zLW];exact hf
 rw[yLE hs hg,zA,yLZ hn hok,zA,z5H hn hok ht hf,zA,yL4 hs (z5D n) k _ _ [] (dB _) h (by simp;omega)]
 rfl
end
theorem yHU {n:Norm} {c:Collation} (h:Sm c) {text:List Int} (k:(zC8 n false text).length<=2000):(wk c (wG n) (zC8 n false text)).1.length<=1000000000:=by have:=yPO h (l:=wG n) _ (zC8 n false text) (dB _);omega
open Go.AV
section
variable {key:Int->Int}
theorem z5I (l:List Int):srt key (srt key l)=srt key l:=
 zWN (key:=key) (zLV (key:=key) (srt key l)) (zLV (key:=key) l) (zRP (srt key l)).symm
theorem z8B:∀(q run u:List Int),(∀x∈q,key x≠0)->rsE key (q++u) run=rsE key u (run++q)
 | [],run,u,_=>by simp
 | x::q,run,u,h=>by
  have k:=h x (by simp);show (if key x=0 then srt key run++x::rsE key (q++u) [] else rsE key (q++u) (run++ [x]))=_;rw[dN k,z8B q _ u λy D=>h y (by simp[D])];simp
theorem z1T:∀(t run:List Int),(∀x∈run,key x≠0)->rsE key (rsE key t run) []=rsE key t run
 | [],run,h=>by
  show rsE key (srt key run) []=srt key run;have:=z8B (key:=key) (srt key run) [] [] λx D=>h x ((zRP run).mem.2 D);rw[et,dO] at this;rw[this];exact z5I run
 | x::t,run,h=>by
  by_cases k:key x=0;have e:rsE key (x::t) run=srt key run++x::rsE key t []:=by simp[rsE,k]
  rw[e,z8B (key:=key) (srt key run) [] _ λx D=>h x ((zRP run).mem.2 D),dO];show (if key x=0 then srt key (srt key run)++x::rsE key (rsE key t []) [] else _)=_;rw[dH k,z5I,z1T t [] λy hy=>by cases hy];have e:rsE key (x::t) run=rsE key t (run++ [x]):=by simp[rsE,k]
  rw[e];refine z1T t (run++ [x]) λy hy=>?_;rcases eK.1 hy with hy | hy
  exact h y hy;simp only[gy] at hy;rw[hy];exact k
theorem yHV (h:∀x,0<=key x) (t:List Int):csE key (csE key t)=csE key t:=by rw[z1S h t,z1S h,z1T t [] λy k=>by cases k]
end
theorem yAE {l:List aH} (H:DS l) {b:Bool} {c:Int} (K:fnB l b c=none):∀e∈hdE c,fnB l b e=none/\hdE e= [e]:=by
 intro e h;have k:∀{z:Int},syl z=false->hdE z= [z]:=λ{z} O=>by unfold hdE;rw[dN (by simp[O])]
 cases G:syl c with
 | true=>
  obtain⟨T,Y⟩:=zRJ G h;refine⟨zGE ?_,k T⟩;cases D:l.find? (isF e) with
  | none=>rfl
  | some m=>obtain⟨q1,rfl⟩:=zGD D;exact absurd (H.hk m q1) Y
 | false=>
  rw[k G] at h;simp only[gy] at h;subst h;exact⟨K,k G⟩
theorem yAF {l:List aH} (H:DS l) {b:Bool}:∀(k:Nat) (c:Int),DD l k c->∀e∈exF l b k c,fnB l b e=none/\hdE e= [e]
 | 0,c,h,e,D=>yAE H (zGE h) e D
 | k+1,c,h,e,D=>by
  replace D:e∈(match fnB l b c with | some K=>K.flatMap (exF l b k) | none=>hdE c):=D;cases G:fnB l b c with
  | none=>rw[G] at D;exact yAE H G e D
  | some K=>
   rw[G] at D;obtain⟨m,O,rfl,_⟩:=zJ0 G;obtain⟨z,T,D⟩:=iA.1 D;exact yAF H k z (h m O z T) e D
theorem GN.leaf {n:Norm} (h:GN n) {b:Bool} {c e:Int} (G:e∈fu n.aA b c):fu n.aA b e= [e]:=by obtain⟨k,D⟩:=yAF h.ds (b:=b) _ c (h.dd c) e G;rw[zRM h.dd,k,D]
theorem z1U {f:Int->List Int}:∀{L:List Int},(∀e∈L,f e= [e])->L.flatMap f=L
 | [],_=>rfl
 | x::L,h=>by rw[d9,h x (by simp),z1U λe k=>h e (by simp[k])];rfl
theorem zZR {n:Norm} (G:NSm n) (k:wY n) (b:Bool) (text:List Int):zGM n b (zC8 n b text)=zC8 n b text:=by refine z1U λe D=>?_;have h:e∈zGM n b text:=(z5F _).mem_iff.1 D;obtain⟨z,_,H⟩:=iA.1 h;exact(zSZ G k).leaf H
theorem yDE {n:Norm} (D:NSm n) (k:wY n) (b:Bool) (text:List Int):zC8 n b (zC8 n b text)=zC8 n b text:=by have h:=zZR D k b text;show csE _ (zGM n b (zC8 n b text))=_;rw[h];exact yHV (yNL (zSZ D k).cv) _
open Go.AV
open Go.AV
theorem yRY (D:List bM) (G:Nat) (hv:G<D.length) (H:List Range) (Y:H= [{Lo:=4352,Hi:=4370},{Lo:=4449,Hi:=4469},{Lo:=4520,Hi:=4546},{Lo:=44032,Hi:=55203}]):
  (zD (λ(x:Int)=>uY H D (G:Int) x) 0=some (.inl ())/\hgOk (nth D G))\/(zD (λ(x:Int)=>uY H D (G:Int) x) 0=some (.inr 11)/\¬hgOk (nth D G)):=by
 have h:=kG (body:=λ(x:Int)=>uY H D (G:Int) x) H.length (λk=> ¬((nth D G).Lo<=(nth H k).Hi/\(nth H k).Lo<=(nth D G).Hi)) (λy=>y=11) (λk O=>by
  have hl:H.length=4:=by rw[Y];rfl
  simp only[uY,yT O,cO,zV hv,zV O,zA,zL,zI (k:=k) (by omega)];by_cases K:(nth D G).Lo<=(nth H k).Hi
  ·simp only[K,dC,xF,zA,dK,true_and]
   exact wV (by simp) rfl
  ·simp only[K,dF,vF,zA,dQ,cN,false_and]
   exact .inl ⟨by simp,trivial⟩) (λk O=>by simp only[uY,kJ O,cN])
 have e:(∀j,j<H.length->¬((nth D G).Lo<=(nth H j).Hi/\(nth H j).Lo<=(nth D G).Hi))↔hgOk (nth D G):=by
  subst Y;unfold hgOk;constructor
  ·intro h;exact⟨h 0 (by decide),h 1 (by decide),h 2 (by decide),h 3 (by decide)⟩
  ·rintro⟨Z,K,h2,h3⟩ j hj
   have T:j<4:=hj
   match j,T with
   | 0,_=>exact Z
   | 1,_=>exact K
   | 2,_=>exact h2
   | 3,_=>exact h3
 rw[e] at h;rcases h with h | ⟨y,rfl,h⟩
 ·exact .inl h
 ·exact .inr h
theorem yHW {l:List bM} (hl:l.length<=2000):Ver (zFM l) (CV l):=by
 have T:=kG (body:=λ(x:Int)=>zCV l x) l.length (λk=>spOk (nth l k)) (λy=>y≠0) (λk D=>by
  simp only[zCV,yT D,cO,zV D,zA,zL,zFQ,zI (k:=k) (by omega),spOk,vld];generalize nth l k=q;by_cases H:0<=q.Lo<;>by_cases K:q.Lo<=1114111<;>by_cases h3:0<=q.Hi<;>by_cases h4:q.Hi<=1114111<;>by_cases h5:q.Hi<q.Lo<;>by_cases h6:q.Value<1<;>by_cases h7:254<q.Value<;>simp[H,K,h3,h4,h5,h6,h7,xF,vF,zA]<;>omega) (λk D=>by simp only[zCV,kJ D,cN])
 unfold zFM Ver;rcases T with ⟨T,O⟩ | ⟨y,Y,T,O⟩
 rw[T];simp only[zA,eU];have H:=zOX (body:=λ(x:Int)=>zCW l x) l.length (λk=>adOk (nth l k) (nth l (k+1))) (λy=>y≠0) (λk D=>by
  have G:k<l.length:=by omega
  have w:=(O k G).2.1;have w0:=(O k G).1;have w1:=(O k G).2.2.1;simp only[zCW,yT D,cO,zV D,zA,zL,zI (k:=k+1) (by omega),zD3 (k:=k) (by omega),zV G];by_cases a1:(nth l (k+1)).Lo<=(nth l k).Hi;simp only[a1,dC,dE,vF,zA,dQ,ic,cO];exact .inr ⟨by unfold adOk;omega,4,by decide,rfl⟩
  simp only[a1,dF,dS,xF,zA,dK,fa];rw[xK (n:=(nth l k).Hi+1) (by omega) (by omega)];by_cases a2:(nth l (k+1)).Lo=(nth l k).Hi+1;simp only[a2,dC,xF,zA,dK];exact wV (by unfold adOk;simp only[cZ];omega) (by decide)
  simp only[a2,dF,vF,zA,dQ,cN];exact .inl ⟨by unfold adOk;omega,trivial⟩) (λk D=>by simp only[zCW,kJ D,cN])
 rcases H with ⟨H,Z⟩ | ⟨y,Y,H,Z⟩;rw[H];simp only[zA,eU,zIT];have K:=kG (body:=λ(x:Int)=>zCX l [{Lo:=4352,Hi:=4370},{Lo:=4449,Hi:=4469},{Lo:=4520,Hi:=4546},{Lo:=44032,Hi:=55203}] x) l.length (λk=>hgOk (nth l k)) (λy=>y≠0) (λk D=>by
  simp only[zCX,yT D,cO,zI (k:=k) (by omega)];rcases yRY l k D _ rfl with ⟨h,p⟩ | ⟨h,p⟩
  rw[h];exact .inl ⟨p,rfl⟩;rw[h];exact .inr ⟨p,11,by decide,rfl⟩) (λk D=>by simp only[zCX,kJ D,cN])
 rcases K with ⟨K,p2⟩ | ⟨y,Y,K,p2⟩;rw[K];exact⟨0,rfl,by simp only[true_iff];exact⟨O,Z,p2⟩⟩
 rw[K];exact⟨y,rfl,by simp only[Y,eW];exact λh=>p2 h.hg⟩
 rw[H];exact⟨y,rfl,by simp only[Y,eW];exact λh=>Z h.ad⟩
 rw[T];exact⟨y,rfl,by simp only[Y,eW];exact λh=>O h.sp⟩
theorem zJ1 {l:List bM} (Y:l.length<=2000) (h:CV l) (c:Int):zB2 l c=some (clE l c):=by
 obtain⟨e,O,Z⟩:=yHW Y;unfold zB2;rw[O,zA,Z.2 h];simp only[dC,dE,cN];have hb:∀k,k<l.length->vN l c (k:Int)=if zUE c (nth l k) then some (.done (.inr (nth l k).Value)) else some (.next ((k+1:Nat):Int)):=λk D=>by
  simp only[vN,yT D,cO,zV D,zA,zL,zI (k:=k) (by omega),zUE];by_cases G:(nth l k).Lo<=c
  · by_cases K:c<=(nth l k).Hi<;>simp[G,K,xF]
  · simp[G,vF]
 have key:∀(d k:Nat),l.length-k=d->k<=l.length->(∀j,j<k->zUE c (nth l j)=false)->(zD (λ(x:Int)=>vN l c x) (k:Int)).bind (λy=>y.elim (λ_=>some 0) λy=>some y)=some (clE l c):=by
  intro d
  induction d with
  | zero=>
   intro k G K H;have:k=l.length:=by omega
   subst this;rw[zJ (y:= .inl ()) (by simp only[vN,kJ (dB _),cN])];unfold clE;rw[z1N H];rfl
  | succ d ih=>
   intro k G K H;have D:k<l.length:=by omega
   cases hi:zUE c (nth l k) with
   | true=>
    rw[zJ (y:= .inr (nth l k).Value) (by show vN l c (k:Int)=_;rw[hb k D,hi];rfl)]
    unfold clE;rw[zRK D H hi];rfl
   | false=>
    rw[zM (x':=((k+1:Nat):Int)) (by show vN l c (k:Int)=_;rw[hb k D,hi];rfl)]
    refine ih (k+1) (by omega) (by omega) λj T=>?_;by_cases e:j=k
    · subst e;exact hi
    · exact H j (by omega)
 exact key l.length 0 (by omega) (by omega) (λj T=>by omega)
theorem zQD {l:List bM} (k:l.length<=2000) (h:CV l) (c:Int):zE3 l c=some (decide (clE l c=0)):=by unfold zE3;rw[zJ1 k h];rfl
open Go.AV
theorem yPP {a b c:aH} (k:mlt a b) (h:mlt b c):mlt a c:=by
 unfold mlt at*;rcases k with k | ⟨k,G⟩
 rcases h with h | ⟨h,D⟩;exact .inl (by omega);exact .inl (by omega);rcases h with h | ⟨h,D⟩;exact .inl (by omega);exact .inr ⟨by omega,List.lt_trans G D⟩
theorem yL5 {a b:aH} (h:mlt a b):¬(a.aW=b.aW/\a.bO=b.bO):=by
 rintro⟨D,k⟩
 unfold mlt at h;rcases h with h | ⟨_,h⟩
 omega;rw[k] at h;exact List.lt_irrefl _ h
theorem yAG {l:List aH} (h:∀k,k+1<l.length->mlt (nth l k) (nth l (k+1))):∀(d i:Nat),i+d+1<l.length->mlt (nth l i) (nth l (i+d+1))
 | 0,i,hi=>h i hi
 | d+1,i,hi=>by
  have D:=yAG h d i (by omega);have G:=h (i+d+1) (by omega);have:i+(d+1)+1=i+d+1+1:=by omega
  rw[this];exact yPP D G
theorem yRZ (x y:Str):(x==y)=decide (x=y):=by rw[g9];simp
section
variable {l:List aH} (hl:l.length<=2000) (hto:∀m∈l,m.To.length<=2000) (htg:∀m∈l,m.bO.length<=MX)
include hl hto htg
omit hl hto htg in
theorem yHX {m:aH} (G:m.To.length<=2000):∃b,zHS m=some b/\(b=true↔codesOk m):=by
 unfold zHS;have h:=kG (body:=λ(x:Int)=>zCY m x) m.To.length (λj=>vld (nth m.To j)=true) (λy=>y=false) (λj D=>by
  simp only[zCY,yT D,cO,zV D,zA,zFQ,zI (k:=j) (by omega)];exact wV (by simp) rfl) (λj D=>by simp only[zCY,kJ D,cN])
 rw[zAS (p:=λc=>vld c=true)] at h;rcases h with ⟨h,p⟩ | ⟨y,rfl,h,p⟩
 rw[h];simp only[zA,eU,zFQ];exact⟨_,rfl,⟨λa=>⟨a,p⟩,λa=>a.1⟩⟩;rw[h];exact⟨false,rfl,by simp only[dP,eW];exact λa=>p a.2⟩
omit hto htg in
theorem yHY:∃b,zHT l=some b/\(b=true->¬∀k,k+1<l.length->mlt (nth l k) (nth l (k+1)))/\(b=false->True):=by
 unfold zHT;have inner:∀i,i<l.length->(zD (λ(x:Int)=>uZ (i:Int) l x) 0=some (.inl ())/\∀j,j<i->¬((nth l i).aW=(nth l j).aW/\(nth l i).bO=(nth l j).bO))\/(∃y,y=true/\zD (λ(x:Int)=>uZ (i:Int) l x) 0=some (.inr y)/\¬∀j,j<i->¬((nth l i).aW=(nth l j).aW/\(nth l i).bO=(nth l j).bO)):=by
  intro i hi;refine kG (body:=λ(x:Int)=>uZ (i:Int) l x) i _ (λy=>y=true) (λj D=>?_) (λj D=>by simp only[uZ,kJ D,cN]);have G:j<l.length:=by omega
  simp only[uZ,yT D,cO,zV hi,zV G,zA,zL,zI (k:=j) (by omega),yRZ];by_cases a:(nth l i).aW=(nth l j).aW;simp only[a,dC,xF,zA,dK,true_and];exact wV (by simp) rfl;simp only[a,dF,vF,zA,dQ,cN,false_and];exact .inl ⟨by simp,trivial⟩
 have h:=kG (body:=λ(x:Int)=>zCZ l x) l.length (λi=> ∀j,j<i->¬((nth l i).aW=(nth l j).aW/\(nth l i).bO=(nth l j).bO)) (λy=>y=true) (λk H=>by
  simp only[zCZ,yT H,cO,zI (k:=k) (by omega)];rcases inner k H with ⟨h,p⟩ | ⟨y,O,h,p⟩
  rw[h];exact .inl ⟨p,rfl⟩;rw[h];exact .inr ⟨p,y,O,rfl⟩) (λj D=>by simp only[zCZ,kJ D,cN])
 rcases h with ⟨h,p⟩ | ⟨y,rfl,h,p⟩;rw[h];exact⟨false,rfl,λh=>(by cases h),λ_=>trivial⟩;rw[h];refine⟨true,rfl,λ_ K=>p λi hi j D=>?_,λ_=>trivial⟩;have:=yAG K (i-j-1) j (by omega);rw[show j+(i-j-1)+1=i by omega] at this;have:=yL5 this;exact λ⟨a,b⟩=>this ⟨a.symm,b.symm⟩
theorem yPQ:∃e,zEC l=some e/\(e=0->(∀m∈l,codesOk m)/\(∀m∈l,m.To.length<=64)/\∀m∈l,tagOk m)/\(e≠0->¬MV l):=by
 unfold zEC;have G:=kG (body:=λ(x:Int)=>zAC l x) l.length (λk=>codesOk (nth l k)) (λy=>y≠0) (λk D=>by
  obtain⟨b,hb,T⟩:=yHX (hto _ (vP D));simp only[zAC,yT D,cO,zV D,zA,hb,zI (k:=k) (by omega)];exact wV (by rw[<-T];simp) (by decide)) (λk D=>by simp only[zAC,kJ D,cN])
 rw[zAS (p:=codesOk)] at G;rcases G with ⟨G,Y⟩ | ⟨y,O,G,Y⟩
 case inr=>rw[G];exact⟨y,rfl,λh=>absurd h O,λ_ h=>Y h.co⟩
 rw[G];simp only[zA,eU];have H:=kG (body:=λ(x:Int)=>zAD l x) l.length (λk=>(nth l k).To.length<=64) (λy=>y≠0) (λk D=>by
  simp only[zAD,yT D,cO,zV D,zA,zI (k:=k) (by omega)];exact wV (by simp only[cZ];omega) (by decide)) (λk D=>by simp only[zAD,kJ D,cN])
 rw[zAS (p:=λ(m:aH)=>m.To.length<=64)] at H;rcases H with ⟨H,Z⟩ | ⟨y,O,H,Z⟩
 case inr=>rw[H];exact⟨y,rfl,λh=>absurd h O,λ_ h=>Z h.sz⟩
 rw[H];simp only[zA,eU];have K:=kG (body:=λ(x:Int)=>zAE l x) l.length (λk=>tagOk (nth l k)) (λy=>y≠0) (λk D=>by
  simp only[zAE,yT D,cO,zV D,zA,zL,zI (k:=k) (by omega),tagOk,yRZ];by_cases ht:(nth l k).bO= []
  ·
   simp only[ht,dC,dE,vF,zA,dQ,cN];exact .inl ⟨.inl trivial,trivial⟩
  ·
   simp only[ht,dF,dS,xF,zA,z9S (htg _ (vP D)),dK,false_or];exact wV (by simp) (by decide)) (λk D=>by simp only[zAE,kJ D,cN])
 rw[zAS (p:=tagOk)] at K;rcases K with ⟨K,p2⟩ | ⟨y,O,K,p2⟩
 case inr=>rw[K];exact⟨y,rfl,λh=>absurd h O,λ_ h=>p2 h.tg⟩
 rw[K];simp only[zA,eU];obtain⟨b,hb,T,_⟩:=yHY hl;rw[hb,zA];cases b with
 | true=>exact⟨5,rfl,λh=>absurd h (by decide),λ_ h=>T rfl h.lt⟩
 | false=>exact⟨0,rfl,λ_=>⟨Y,Z,p2⟩,λh=>absurd rfl h⟩
theorem yPR:Ver (zHU l) (MV l):=by
 obtain⟨e,Z,T,Y⟩:=yPQ hl hto htg;unfold zHU;rw[Z,zA];by_cases G:e=0
 case neg=>
  have:(!decide (e=0))=true:=by simp[G]
  rw[this,cO];exact⟨e,rfl,by simp only[G,eW];exact Y G⟩
 obtain⟨p0,p1,p2⟩:=T G;rw[G];simp only[dC,dE,cN];have D:=zOX (body:=λ(x:Int)=>zC0 l x) l.length (λk=>mlt (nth l k) (nth l (k+1))) (λy=>y≠0) (λk H=>by
  have K:k<l.length:=by omega
  simp only[zC0,yT H,cO,zV H,zA,zI (k:=k+1) (by omega),zD3 (k:=k) (by omega),zV K,zIU,zL,yG1];exact wV (by unfold mlt;simp only[fU,fC,eF,dA,not_or,Classical.not_and_iff_not_or_not]) (by decide)) (λk H=>by simp only[zC0,kJ H,cN])
 rcases D with ⟨D,O⟩ | ⟨y,hy,D,O⟩
 · rw[D];exact⟨0,rfl,by simp only[true_iff];exact⟨p0,p1,p2,O⟩⟩
 · rw[D];exact⟨y,rfl,by simp only[hy,eW];exact λh=>O h.lt⟩
end
open Go.AV
section
variable {β:Type} [Inhabited β] (upd:List β->Nat->β)
def zRQ:Nat->Nat->List β->List β
 | 0,_,h=>h
 | d+1,i,h=>zRQ d (i+1) (h.set i (upd h i))
def zJ2 (n:Nat):Nat->List β->List β
 | 0,h=>h
 | k+1,h=>zJ2 n k (zRQ upd n 0 h)
end
section
variable {β:Type} [Inhabited β] {upd:List β->Nat->β} {n:Nat} {Inv:List β->Prop}
theorem zUV {k:List β} {i j:Nat} {x: β} (hi:i<k.length):nth (k.set i x) j=if j=i then x else nth k j:=by unfold nth;rw[fI,fI,iu];by_cases h:i=j;subst h;simp[hi];rw[dN h,dN (λe=>h e.symm)]
theorem yL6 {h:List β} {i:Nat} (hi:i<h.length):h.set i (nth h i)=h:=by rw[zBL hi];simp
omit [Inhabited β] in
theorem zUW:∀(d i:Nat) (h:List β),(zRQ upd d i h).length=h.length
 | 0,_,_=>rfl
 | d+1,i,h=>by rw[zRQ,zUW d];simp
omit [Inhabited β] in
theorem zUX (hi:∀i k,i<n->k.length=n->Inv k->Inv (k.set i (upd k i))):∀(d i:Nat) (k:List β),i+d=n->k.length=n->Inv k->Inv (zRQ upd d i k)
 | 0,_,_,_,_,h=>h
 | d+1,i,k,G,D,h=>by
  rw[zRQ];exact zUX hi d (i+1) _ (by omega) (by simp[D]) (hi i k (by omega) D h)
omit [Inhabited β] in
theorem z1V (hi:∀i D,i<n->D.length=n->Inv D->Inv (D.set i (upd D i))):∀(k:Nat) (D:List β),D.length=n->Inv D->Inv (zJ2 upd n k D)/\(zJ2 upd n k D).length=n
 | 0,_,G,h=>⟨h,G⟩
 | k+1,D,G,h=>by
  rw[zJ2];exact z1V hi k _ (by rw[zUW,G]) (zUX hi n 0 D (by omega) G h)
theorem yHZ {R R':Nat->Prop} {t:Nat->β} (Y:∀j,R j->R' j) (hi:∀i k,i<n->k.length=n->Inv k->Inv (k.set i (upd k i)))
  (Z:∀k i,i<n->k.length=n->Inv k->(∀j,j<n->R j->nth k j=t j)->R' i->upd k i=t i):
  ∀(d i:Nat) (k:List β),i+d=n->k.length=n->Inv k->(∀j,j<n->R j->nth k j=t j)->(∀j,j<i->R' j->nth k j=t j)->∀j,j<n->R' j->nth (zRQ upd d i k) j=t j
 | 0,i,k,hd,K,h,O,T,j,H,D=>T j (by omega) D
 | d+1,i,k,hd,K,h,O,T,j,H,D=>by
  have G:i<n:=by omega
  have hu:R' i->upd k i=t i:=Z k i G K h O;rw[zRQ];refine yHZ Y hi Z d (i+1) _ (by omega) (by simp[K]) (hi i k G K h) (λj H D=>?_) (λj H D=>?_) j H D
  ·rw[zUV (by omega)]
   split
   ·rename_i e;subst e;exact hu (Y _ D)
   ·exact O j H D
  ·rw[zUV (by omega)]
   split
   ·rename_i e;subst e;exact hu D
   ·exact T j (by omega) D
theorem z1W {R:Nat->Nat->Prop} {t:Nat->β} (O:∀r j,R r j->R (r+1) j) (hi:∀i D,i<n->D.length=n->Inv D->Inv (D.set i (upd D i)))
  (T:∀r D i,i<n->D.length=n->Inv D->(∀j,j<n->R r j->nth D j=t j)->R (r+1) i->upd D i=t i):
  ∀(k r:Nat) (D:List β),D.length=n->Inv D->(∀j,j<n->R r j->nth D j=t j)->∀j,j<n->R (r+k) j->nth (zJ2 upd n k D) j=t j
 | 0,_,_,_,_,h,j,G,K=>h j G K
 | k+1,r,D,H,h,Y,j,G,K=>by
  rw[zJ2];have:=yHZ (R:=R r) (R':=R (r+1)) (O r) hi (T r) n 0 D (by omega) H h Y (λj G=>by omega);refine z1W O hi T k (r+1) _ (by rw[zUW,H]) (zUX hi n 0 D (by omega) H h) this j G ?_;rw[show r+1+k=r+(k+1) by omega];exact K
omit [Inhabited β] in
theorem zRR {X Y:Type} (mk:Nat->List β->X) {body:X->Option (Stp X Y)} (D:List β->Y)
  (hb:∀i k,i<n->k.length=n->Inv k->body (mk i k)=some (.next (mk (i+1) (k.set i (upd k i)))))
  (hi:∀i k,i<n->k.length=n->Inv k->Inv (k.set i (upd k i)))
  (H:∀k,body (mk n k)=some (.done (D k))):∀(d i:Nat) (k:List β),i+d=n->k.length=n->Inv k->zD body (mk i k)=some (D (zRQ upd d i k))
 | 0,i,k,K,G,h=>by
  have:i=n:=by omega
  subst this;exact zJ (H k)
 | d+1,i,k,K,G,h=>by
  rw[zM (hb i k (by omega) G h),zRQ];exact zRR mk D hb hi H d (i+1) _ (by omega) (by simp[G]) (hi i k (by omega) G h)
omit [Inhabited β] in
theorem zRS {X Y:Type} (mk:Nat->List β->X) {body:X->Option (Stp X Y)} (G:List β->Y) {N:Nat}
  (hb:∀r D,r<N->D.length=n->Inv D->body (mk r D)=some (.next (mk (r+1) (zRQ upd n 0 D))))
  (hi:∀i D,i<n->D.length=n->Inv D->Inv (D.set i (upd D i)))
  (K:∀D,body (mk N D)=some (.done (G D))):∀(k r:Nat) (D:List β),r+k=N->D.length=n->Inv D->zD body (mk r D)=some (G (zJ2 upd n k D))
 | 0,r,D,O,H,h=>by
  have:r=N:=by omega
  subst this;exact zJ (K D)
 | k+1,r,D,O,H,h=>by
  rw[zM (hb r D (by omega) H h),zJ2];exact zRS mk G hb hi K k (r+1) _ (by omega) (by rw[zUW,H]) (zUX hi n 0 D (by omega) H h)
end
theorem z5J {A Y:Type} {p:Nat->A->Option Y}:∀{l:List A} {k:Nat} {y:Y},chk p l k=some y->∃j,∃h:j<l.length,p (k+j) l[j]=some y
 | [],_,_,h=>by cases h
 | x::l,k,y,h=>by
  unfold chk at h;cases D:p k x with
  | some z=>
   rw[D] at h;exact⟨0,by simp,by simpa[D] using h⟩
  | none=>
   rw[D] at h;obtain⟨j,G,e⟩:=z5J h;exact⟨j+1,by simpa using G,by rw[show k+(j+1)=k+1+j by omega];simpa using e⟩
theorem zZS {A Y:Type} {p:Nat->A->Option Y}:∀{l:List A} {k j:Nat} (h:j<l.length),p (k+j) l[j]≠none->∃i,∃hi:i<l.length,i<=j/\chk p l k=p (k+i) l[i]
 | [],_,_,h,_=>by cases h
 | x::l,k,j,h,D=>by
  unfold chk;cases G:p k x with
  | some z=>exact⟨0,by simp,gE _,by simp[G]⟩
  | none=>
   cases j with
   | zero=>exact absurd (by simpa using G) D
   | succ j=>
    obtain⟨i,hi,H,e⟩:=zZS (p:=p) (l:=l) (k:=k+1) (j:=j) (by simpa using h) (by rw[show k+1+j=k+(j+1) by omega];simpa using D)
    exact⟨i+1,by simpa using hi,by omega,by rw[show k+(i+1)=k+1+i by omega];simpa using e⟩
def pM (c:Int) (b:Bool) (k:Nat) (m:aH):Option Nat:=if m.aW=c/\(b ||(m.bO== []))=true then some k else none
def fi (l:List aH) (c:Int) (b:Bool):Option Nat:=chk (pM c b) l 0
theorem zKZ {l:List aH} {c:Int} {b:Bool} {i:Nat} (h:fi l c b=some i):i<l.length/\(nth l i).aW=c/\(b ||((nth l i).bO== []))=true:=by
 obtain⟨j,k,e⟩:=z5J h;unfold pM at e;split at e;rename_i D;injection e with e;have:i=j:=by omega
 subst this;rw[zBL k];exact⟨k,D⟩;cases e
theorem yAH {l:List aH} {c:Int} {b:Bool} (h:fi l c b=none):∀m∈l,¬(m.aW=c/\(b ||(m.bO== []))=true):=by intro m D G;obtain⟨j,k,rfl⟩:=fB D;have:=zOC h j k;unfold pM at this;rw[dH G] at this;cases this
theorem zZT {l:List aH} (O:DS l) (c:Int) (b:Bool):(∃i,fi l c b=some i/\i<l.length/\(nth l i).aW=c/\fnB l b c=some (nth l i).To)\/(fi l c b=none/\fnB l b c=none):=by
 cases G:fi l c b with
 | some i=>
  obtain⟨h,D,k⟩:=zKZ G;refine .inl ⟨i,rfl,h,D,?_⟩;have:=zEQ O (vP h);rw[D] at this;unfold fnB;rw[this];simp only[k,dG]
 | none=>
  refine .inr ⟨rfl,?_⟩;cases T:fnB l b c with
  | none=>rfl
  | some Y=>
   obtain⟨m,h,_,k⟩:=zJ0 T;obtain⟨H,K⟩:=zGD h;exact absurd ⟨K,k⟩ (yAH G m H)
def fiI (l:List aH) (c:Int) (b:Bool):Int:=match fi l c b with
 | some i=>(i:Int)
 | none=> -1
open Go.AV
section
variable {l:List aH} (hd:DS l)
def zQE (l:List aH) (h:List Bool) (i:Nat):Bool:=(nth l i).To.all λe=>match fi l e true with
 | some m=>nth h m
 | none=>true
def yDF (l:List aH) (h:List Bool):Prop:= ∀j,j<l.length->nth h j=true->WW l (nth l j).aW
include hd
theorem yL8 {D:List Bool} (h:yDF l D) {i:Nat} (hi:i<l.length) (Y:zQE l D i=true):WW l (nth l i).aW:=by
 refine z48 λe H=>?_;rw[z47 hd (vP hi)] at H;have:=eD.1 Y e H;rcases zZT hd e true with ⟨m,G,k,O,_⟩ | ⟨G,k⟩
 rw[G] at this;have:=h m k this;rw[O] at this;exact this;cases K:syl e with
 | true=>exact yPA hd K
 | false=>
  refine z1P ?_;unfold dep;rw[dN (by simp[K])];rw[zWL] at k;cases T:l.find? (isF e) with
  | none=>rfl
  | some m=>rw[T] at k;cases k
theorem zZU (i:Nat) (k:List Bool) (hi:i<l.length) (H:k.length=l.length) (h:yDF l k):yDF l (k.set i (zQE l k i)):=by intro j G D;rw[zUV (by omega)] at D;split at D;rename_i e;subst e;exact yL8 hd h hi D;exact h j G D
theorem yL9 (r:Nat) (h:List Bool) (i:Nat) (hi:i<l.length) (_hl:h.length=l.length) (H:∀j,j<l.length->DD l r (nth l j).aW->nth h j=true) (O:DD l (r+1) (nth l i).aW):zQE l h i=true:=by
 refine eD.2 λe K=>?_;have:=O (nth l i) (zEQ hd (vP hi)) e K;rcases zZT hd e true with ⟨m,k,D,G,_⟩ | ⟨k,_⟩
 rw[k];exact H m D (by rw[G];exact this)
 rw[k]
theorem yH0:(∀j,j<l.length->nth (zJ2 (zQE l) l.length l.length (List.replicate l.length false)) j=true)↔∀m∈l,WW l m.aW:=by
 have O:yDF l (List.replicate l.length false):=by
  intro j D Y;rw[zBL (by simpa using D)] at Y;simp at Y
 constructor;intro h;have hv:=(z1V (upd:=zQE l) (n:=l.length) (Inv:=yDF l) (zZU hd) l.length _ (by simp) O).1;rw[<-zAS (p:=λm:aH=>WW l m.aW)];exact λk T=>hv k T (h k T);intro H j D;have hp:=yHD hd H;refine z1W (upd:=zQE l) (n:=l.length) (Inv:=yDF l) (R:=λr j=>j<l.length/\DD l r (nth l j).aW) (t:=λ_=>true) (λr j h=>⟨h.1,zMO h.2⟩) (zZU hd) (λr K i hi hl _ Z G=>yL9 hd r K i hi hl (λj D G=>Z j D ⟨D,G⟩) G.2) l.length 0 _ (by simp) O (λj D G=>?_) j D ⟨D,by rw[eC];exact hp _ (vP D)⟩
 have:l.find? (isF (nth l j).aW)=none:=G.2;rw[zEQ hd (vP D)] at this;cases this
end
section
variable {l:List aH} (hd:DS l) (hD:∀c,DD l l.length c) {b:Bool}
def lenOf (l:List aH) (b:Bool) (h:List Int) (e:Int):Int:=match fi l e b with
 | some m=>nth h m
 | none=>((hdE e).length:Int)
def updL (l:List aH) (b:Bool) (h:List Int) (i:Nat):Int:=if (b ||((nth l i).bO== []))=true then min (max (((nth l i).To.map (lenOf l b h)).sum) 1) 65 else 1
def z1X (h:List Int):Prop:= ∀x∈h,0<=x/\x<=65
theorem yMA (h:List Int) (i:Nat):0<=updL l b h i/\updL l b h i<=65:=by unfold updL;split<;>omega
theorem zS0 (i:Nat) (k:List Int) (_hi:i<l.length) (_hl:k.length=l.length) (h:z1X k):z1X (k.set i (updL l b k i)):=by
 intro x D;rcases gv D with D | rfl
 exact h x D;exact yMA k i
include hd hD
theorem yMB {i:Nat} (hi:i<l.length):wt l b (nth l i).aW=if (b ||((nth l i).bO== []))=true then min (max (((nth l i).To.map (wt l b)).sum) 1) 65 else 1:=by
 rw[zZN hD];unfold fnB;rw[zEQ hd (vP hi)];by_cases h:(b ||((nth l i).bO== []))=true;simp only[h,dG];have D:=zWJ hd (vP hi);have k:hdE (nth l i).aW= [(nth l i).aW]:=by unfold hdE;rw[dN (by simp[D])]
 rw[dN h];simp only[k];rw[dN h];rfl
omit hD in
theorem yH1 {k:List Int} {e:Int} (H:fnB l b e=none->wt l b e=((hdE e).length:Int)) (h:∀m,m<l.length->(nth l m).aW=e->nth k m=wt l b e):lenOf l b k e=wt l b e:=by
 unfold lenOf;rcases zZT hd e b with ⟨m,D,G,K,_⟩ | ⟨D,G⟩
 rw[D];exact h m G K;rw[D,H G]
theorem yMC (r:Nat) (h:List Int) (i:Nat) (hi:i<l.length) (G:∀j,j<l.length->DD l r (nth l j).aW->nth h j=wt l b (nth l j).aW) (T:DD l (r+1) (nth l i).aW):updL l b h i=wt l b (nth l i).aW:=by
 rw[yMB hd hD hi];unfold updL;split
 ·have:(nth l i).To.map (lenOf l b h)=(nth l i).To.map (wt l b):=gu λe H=>by
   have k:=T (nth l i) (zEQ hd (vP hi)) e H;exact yH1 hd (λO=>by rw[zZN hD,O]) λm K D=>by rw[<-D];exact G m K (by rw[D];exact k)
  rw[this]
 ·rfl
theorem yAI (j:Nat) (k:j<l.length):nth (zJ2 (updL l b) l.length l.length (List.replicate l.length 0)) j=wt l b (nth l j).aW:=by
 have H:z1X (List.replicate l.length 0):=λx O=>by rw[(List.mem_replicate.1 O).2];omega
 refine z1W (upd:=updL l b) (n:=l.length) (Inv:=z1X) (R:=λr j=>j<l.length/\DD l r (nth l j).aW) (t:=λj=>wt l b (nth l j).aW) (λr j h=>⟨h.1,zMO h.2⟩) zS0 (λr G i hi T _ K D=>yMC hd hD r G i hi (λj k D=>K j k ⟨k,D⟩) D.2) l.length 0 _ (by simp) H (λj k D=>?_) j k ⟨k,by rw[eC];exact hD _⟩
 have:l.find? (isF (nth l j).aW)=none:=D.2;rw[zEQ hd (vP k)] at this;cases this
end
section
variable {l:List aH} (hd:DS l) (hD:∀c,DD l l.length c) {b:Bool}
def zIC (l:List aH) (b:Bool) (h:List (List Int)) (e:Int):List Int:=match fi l e b with
 | some m=>nth h m
 | none=>hdE e
def zWP (l:List aH) (b:Bool) (h:List (List Int)) (i:Nat):List Int:=if (b ||((nth l i).bO== []))=true then (nth l i).To.flatMap (zIC l b h) else nth h i
def zYB (l:List aH) (b:Bool) (h:List (List Int)):Prop:= ∀j,j<l.length->(nth h j).length<=(fu l b (nth l j).aW).length
include hd hD
theorem yAJ {i:Nat} (hi:i<l.length) (h:(b ||((nth l i).bO== []))=true):fu l b (nth l i).aW=(nth l i).To.flatMap (fu l b):=by rw[zRM hD];unfold fnB;rw[zEQ hd (vP hi)];simp only[h,dG]
theorem yAK {k:List (List Int)} (h:zYB l b k) (e:Int):(zIC l b k e).length<=(fu l b e).length:=by
 unfold zIC;rcases zZT hd e b with ⟨m,D,G,H,_⟩ | ⟨D,G⟩
 rw[D];have:=h m G;rw[H] at this;exact this;rw[D,zRM hD,G];exact dB _
omit hd hD in
theorem z5K {f g:Int->List Int} (h:∀e,(f e).length<=(g e).length):∀L:List Int,(L.flatMap f).length<=(L.flatMap g).length
 | []=>dB _
 | x::L=>by have:=z5K h L;have:=h x;simp only[d9,cW];omega
theorem yH2 {k:List (List Int)} (h:zYB l b k) {i:Nat} (hi:i<l.length):(zWP l b k i).length<=(fu l b (nth l i).aW).length:=by unfold zWP;split;rename_i D;rw[yAJ hd hD hi D];exact z5K (yAK hd hD h) _;exact h i hi
theorem zS1 (i:Nat) (k:List (List Int)) (hi:i<l.length) (G:k.length=l.length) (h:zYB l b k):zYB l b (k.set i (zWP l b k i)):=by intro j D;rw[zUV (by omega)];split;rename_i e;subst e;exact yH2 hd hD h hi;exact h j D
omit hD in
theorem yMD (hD:∀c,DD l l.length c) (r:Nat) (h:List (List Int)) (i:Nat) (hi:i<l.length) (T:∀j,j<l.length->(b ||((nth l j).bO== []))=true->DD l r (nth l j).aW->nth h j=fu l b (nth l j).aW) (K:(b ||((nth l i).bO== []))=true) (Z:DD l (r+1) (nth l i).aW):zWP l b h i=fu l b (nth l i).aW:=by
 rw[yAJ hd hD hi K];unfold zWP;rw[dH K];refine zQC λe Y=>?_;have G:=Z (nth l i) (zEQ hd (vP hi)) e Y;unfold zIC;cases H:fi l e b with
 | some m=>
  obtain⟨k,D,O⟩:=zKZ H;show nth h m=_;rw[T m k O (by rw[D];exact G),D]
 | none=>
  rcases zZT hd e b with ⟨m,k,_⟩ | ⟨_,D⟩;rw[H] at k;cases k;show hdE e=_;rw[zRM hD,D]
def z5L (l:List aH) (b:Bool):List (List Int):=zJ2 (zWP l b) l.length l.length (List.replicate l.length [])
omit hd hD in
theorem yNM:zYB l b (List.replicate l.length []):=by intro j h;rw[zBL (by simpa using h)];simp
theorem yPS (j:Nat) (k:j<l.length) (G:(b ||((nth l j).bO== []))=true):nth (z5L l b) j=fu l b (nth l j).aW:=by
 refine z1W (upd:=zWP l b) (n:=l.length) (Inv:=zYB l b) (R:=λr j=>j<l.length/\(b ||((nth l j).bO== []))=true/\DD l r (nth l j).aW) (t:=λj=>fu l b (nth l j).aW) (λr j h=>⟨h.1,h.2.1,zMO h.2.2⟩) (zS1 hd hD) (λr H i hi O _ K D=>yMD hd hD r H i hi (λj k G D=>K j k ⟨k,G,D⟩) D.2.1 D.2.2) l.length 0 _ (by simp) yNM (λj k D=>?_) j k ⟨k,G,by rw[eC];exact hD _⟩
 have:l.find? (isF (nth l j).aW)=none:=D.2.2;rw[zEQ hd (vP k)] at this;cases this
theorem yME (e:Int):zIC l b (z5L l b) e=fu l b e:=by
 unfold zIC;cases D:fi l e b with
 | some m=>
  obtain⟨h,k,G⟩:=zKZ D;show nth (z5L l b) m=_;rw[yPS hd hD m h G,k]
 | none=>
  rcases zZT hd e b with ⟨m,h,_⟩ | ⟨_,k⟩;rw[D] at h;cases h;show hdE e=_;rw[zRM hD,k]
end
open Go.AV
def plF (n:Int):Bool->List Int->Bool×List Int
 | true,l=>(true,l)
 | false,[]=>(false,[])
 | false,x::l=>if n<=x then (true,if n<x then n::x::l else x::l) else ((plF n false l).1,x::(plF n false l).2)
def plE (n:Int):List Int->List Int
 | []=>[n]
 | x::l=>if n<=x then (if n<x then n::x::l else x::l) else x::plE n l
theorem yNN (n:Int):∀l:List Int,(if (plF n false l).1=true then (plF n false l).2 else (plF n false l).2++ [n])=plE n l
 | []=>rfl
 | x::l=>by
  have:=yNN n l;unfold plF plE;by_cases h:n<=x;simp[h];simp only[h,cX];rw[<-this];split<;>simp
theorem z8C {l:List Int} {n:Int} (hl:l.length<=2000):∀(d k:Nat) (b:Bool) (h:List Int),l.length-k=d->k<=l.length->h.length<=2*k->
  zD (λ(x:Bool×Int×(List Int))=>j6 l n x.1 x.2.1 x.2.2) (b,(k:Int),h)=some ((plF n b (l.drop k)).1,h++(plF n b (l.drop k)).2):=by
 intro d
 induction d with
 | zero=>
  intro k b h h1 h2 h3;rw[dD (show l.length<=k by omega)];refine zJ ?_;simp only[j6,kJ (show l.length<=k by omega),cN];cases b<;>simp[plF]
 | succ d ih=>
  intro k b h h1 h2 h3;have G:k<l.length:=by omega
  have K:∀{o:List Int} (x:Int),o.length<=2*k+1->app o [x]=some (o++ [x]):=λ{o} x Z=>jV (by simp;omega)
  rw[cY G];have Y:∀(H:Bool) (O:List Int),O.length<=2*(k+1)->j6 l n b (k:Int) h=some (.next (H,((k+1:Nat):Int),O))->(plF n H (l.drop (k+1))).1=(plF n b (l[k]::l.drop (k+1))).1->O++(plF n H (l.drop (k+1))).2=h++(plF n b (l[k]::l.drop (k+1))).2->
    zD (λ(x:Bool×Int×(List Int))=>j6 l n x.1 x.2.1 x.2.2) (b,(k:Int),h)=some ((plF n b (l[k]::l.drop (k+1))).1,h++(plF n b (l[k]::l.drop (k+1))).2):=by
   intro H O Z hb e1 e2;rw[zM (body:=λ(x:Bool×Int×(List Int))=>j6 l n x.1 x.2.1 x.2.2) (x:=(b,(k:Int),h)) hb,ih (k+1) H O (by omega) (by omega) Z,e1,e2]
  cases b with
  | true=>
   refine Y true (h++ [l[k]]) (by simp;omega) ?_ ?_ ?_
   ·simp only[j6,yT G,cO,zL,dE,vF,zA,dQ,cN,zU G,K _ (show h.length<=2*k+1 by omega),zI (k:=k) (by omega)]
   ·simp[plF]
   ·simp[plF]
  | false=>
   by_cases D:n<=l[k]
   ·by_cases T:n<l[k]
    ·refine Y true (h++ [n]++ [l[k]]) (by simp;omega) ?_ ?_ ?_
     ·simp only[j6,yT G,cO,zL,dS,xF,zA,dK,zU G,D,T,dC,K _ (show h.length<=2*k+1 by omega),K _ (show (h++ [n]).length<=2*k+1 by simp;omega),zI (k:=k) (by omega)]
     ·simp[plF,D]
     ·simp[plF,D,T]
    ·refine Y true (h++ [l[k]]) (by simp;omega) ?_ ?_ ?_
     ·simp only[j6,yT G,cO,zL,dS,xF,zA,dK,zU G,D,T,dC,dF,cN,K _ (show h.length<=2*k+1 by omega),zI (k:=k) (by omega)]
     ·simp[plF,D]
     ·simp[plF,D,T]
   ·refine Y false (h++ [l[k]]) (by simp;omega) ?_ ?_ ?_
    ·simp only[j6,yT G,cO,zL,dS,xF,zA,dK,zU G,D,dF,cN,K _ (show h.length<=2*k+1 by omega),zI (k:=k) (by omega)]
    ·simp[plF,D]
    ·simp[plF,D]
theorem yAL (n:Int):∀l:List Int,(plF n false l).2.length<=l.length+1
 | []=>by simp[plF]
 | x::l=>by
  have:=yAL n l;unfold plF;by_cases h:n<=x;by_cases k:n<x<;>simp[h,k];simp only[h,cX,dR];omega
theorem zRT {l:List Int} (G:l.length<=2000) (n:Int):zED l n=some (plE n l):=by
 unfold zED;have h:=z8C (n:=n) G l.length 0 false [] (by omega) (by omega) (by simp);have k:=yAL n l;rw[d7,dO] at h;have D:zD (λ(x:Bool×Int×(List Int))=>j6 l n x.1 x.2.1 x.2.2) (false,0,[])=some ((plF n false l).1,(plF n false l).2):=h;rw[D,zA,<-yNN];cases (plF n false l).1 with
 | true=>rfl
 | false=>simp only[dS,cO,jV (show (plF n false l).2.length+ [n].length<=4294967296 by simp;omega),zA];rfl
def Gd (l:List Int):Prop:=l.Pairwise (· < ·)/\∀x∈l,0<=x/\x<=1114111
theorem z1Y (n:Int):∀{l:List Int} {x:Int},x∈plE n l->x=n\/x∈l
 | [],x,h=>by simp[plE] at h;exact .inl h
 | y::l,x,h=>by
  unfold plE at h;split at h;split at h;rcases dM.1 h with h | h
  exact .inl h;exact .inr h;exact .inr h;rcases dM.1 h with h | h
  exact .inr (by simp[h]);rcases z1Y n h with h | h
  exact .inl h;exact .inr (by simp[h])
theorem yAM (n:Int):∀{l:List Int},l.Pairwise (· < ·)->(plE n l).Pairwise (· < ·)
 | [],_=>by simp[plE]
 | y::l,h=>by
  obtain⟨D,H⟩:=fA.1 h;unfold plE;split;split;rename_i G;refine fA.2 ⟨λz k=>?_,h⟩;rcases dM.1 k with rfl | k;exact G;have:=D z k;omega;exact h;rename_i G;refine fA.2 ⟨λz k=>?_,yAM n H⟩;rcases z1Y n k with rfl | k;omega;exact D z k
theorem zS2 {n:Int} (k:0<=n/\n<=1114111) {l:List Int} (h:Gd l):Gd (plE n l):=by
 refine⟨yAM n h.1,λx hx=>?_⟩;rcases z1Y n hx with rfl | hx
 exact k;exact h.2 x hx
theorem zO2 (n:Int):∀l:List Int,(plE n l).length<=l.length+1
 | []=>by simp[plE]
 | x::l=>by
  have:=zO2 n l;unfold plE;split;split<;>simp;simp only[dR];omega
theorem z1Z {n:Int}:∀{l:List Int},(∀x∈l,x<n)->plE n l=l++ [n]
 | [],_=>rfl
 | y::l,h=>by
  have D:=h y (by simp);unfold plE;rw[dN (by omega),z1Z λx k=>h x (by simp[k])];rfl
def cuS (c:List Int) (r:Range):List Int:=if 0<=r.Hi/\r.Hi<1114111 then plE (r.Hi+1) (if vld r.Lo=true then plE r.Lo c else c) else (if vld r.Lo=true then plE r.Lo c else c)
theorem yAN (c:List Int) (r:Range):(cuS c r).length<=c.length+2:=by
 have k:=zO2 r.Lo c;unfold cuS;split
 ·
  have h:=zO2 (r.Hi+1) (if vld r.Lo=true then plE r.Lo c else c);split at h<;>split<;>simp_all<;>omega
 · split<;>omega
theorem yPT {c:List Int} {r:Range} (h:Gd c):Gd (cuS c r):=by
 have D:Gd (if vld r.Lo=true then plE r.Lo c else c):=by
  split;rename_i k;unfold vld at k;simp only[dL,cZ] at k;exact zS2 k h;exact h
 unfold cuS;split;exact zS2 (by omega) D;exact D
def cuE (l:List Range) (c:List Int):List Int:=l.foldl cuS c
theorem z10:∀(l:List Range) {c:List Int},Gd c->Gd (cuE l c)
 | [],_,h=>h
 | r::l,_,h=>z10 l (yPT h)
theorem z11:∀(l:List Range) (c:List Int),(cuE l c).length<=c.length+2*l.length
 | [],c=>by simp[cuE]
 | r::l,c=>by
  have h:=z11 l (cuS c r);have k:=yAN c r;show (cuE l (cuS c r)).length<=_;simp only[dR];omega
theorem yDH {s:Set} (Z:s.Ranges.length<=12):∀(d k:Nat) (c:List Int),s.Ranges.length-k=d->k<=s.Ranges.length->c.length<=100+2*k->
  zD (λ(x:(List Int)×Int)=>uO s x.1 x.2) (c,(k:Int))=some (cuE (s.Ranges.drop k) c):=by
 intro d
 induction d with
 | zero=>
  intro k c K O T;rw[dD (show s.Ranges.length<=k by omega)];refine zJ ?_;simp only[uO,kJ (show s.Ranges.length<=k by omega),cN];rfl
 | succ d Y=>
  intro k c K O T;have G:k<s.Ranges.length:=by omega
  have hs:=yAN c s.Ranges[k];have hb:uO s c (k:Int)=some (.next (cuS c s.Ranges[k],((k+1:Nat):Int))):=by
   have hp:=zO2 s.Ranges[k].Lo c;simp only[uO,yT G,cO,zU G,zA,zFQ,zL,zI (k:=k) (by omega),zRT (show c.length<=2000 by omega)];unfold cuS;by_cases H:vld s.Ranges[k].Lo=true
   ·simp only[H,cO,zA,dG]
    by_cases h:0<=s.Ranges[k].Hi
    ·by_cases D:s.Ranges[k].Hi<1114111
     ·simp only[h,D,dC,fE,cO,iq,dG]
      rw[xK (n:=s.Ranges[k].Hi+1) (by omega) (by omega),zRT (by omega)];rfl
     ·simp[h,D]
    ·simp[h]
   ·simp only[H,dP,cX,cN,zA]
    by_cases h:0<=s.Ranges[k].Hi
    ·by_cases D:s.Ranges[k].Hi<1114111
     ·simp only[h,D,dC,fE,cO,iq,dG]
      rw[xK (n:=s.Ranges[k].Hi+1) (by omega) (by omega),zRT (by omega)];rfl
     ·simp[h,D]
    ·simp[h]
  rw[zM (body:=λ(x:(List Int)×Int)=>uO s x.1 x.2) (x:=(c,(k:Int))) hb,Y (k+1) _ (by omega) (by omega) (by omega),cY G];rfl
theorem yAO {s:Set} (D:s.Ranges.length<=12) {c:List Int} (G:c.length<=100):zGX c s=some (plE 0 (cuE s.Ranges c)):=by unfold zGX;have h:=yDH D s.Ranges.length 0 c (by omega) (by omega) (by omega);rw[d7] at h;have k:zD (λ(x:(List Int)×Int)=>uO s x.1 x.2) (c,0)=some (cuE s.Ranges c):=h;have:=z11 s.Ranges c;rw[k,zA,zRT (by omega)];rfl
def zHC (l:List Range) (c:Int):Bool:=l.any λr=>vld c&&decide (r.Lo<=c)&&decide (c<=r.Hi)
theorem yH3 {s:Set} (K:s.Ranges.length<=2000) (c:Int):zGY s c=some (zHC s.Ranges c):=by
 unfold zGY;have h:=kG (body:=λ(x:Int)=>zEK s c x) s.Ranges.length (λk=> ¬(vld c&&decide ((nth s.Ranges k).Lo<=c)&&decide (c<=(nth s.Ranges k).Hi))=true) (λy=>y=true) (λk D=>by
  simp only[zEK,yT D,cO,zFQ,zA,zL,zV D,zI (k:=k) (by omega)];cases O:vld c with
  | false=>simp only[vF,zA,dQ,cN];exact .inl ⟨by simp,trivial⟩
  | true=>
   simp only[xF,zA,dK];by_cases H:(nth s.Ranges k).Lo<=c;simp only[H,dC,xF,zA,dK];exact wV (by simp) rfl;simp only[H,dF,vF,zA,dQ,cN];exact .inl ⟨by simp,trivial⟩) (λk D=>by simp only[zEK,kJ D,cN])
 rw[zAS (p:=λr:Range=> ¬(vld c&&decide (r.Lo<=c)&&decide (c<=r.Hi))=true)] at h;rcases h with ⟨h,p⟩ | ⟨y,rfl,h,p⟩
 rw[h];have:zHC s.Ranges c=false:=by unfold zHC;rw[gK];exact p
 rw[this];rfl;rw[h];have:zHC s.Ranges c=true:=by
  cases G:zHC s.Ranges c with
  | true=>rfl
  | false=>exfalso;apply p;unfold zHC at G;rw[gK] at G;exact G
 rw[this];rfl
def nxt:List Int->Int
 | []=>1114111
 | d::_=>d-1
def coF (has:Int->Bool):List Int->Bool->List Range->List Range
 | [],_,o=>o
 | c::cs,k,o=>if has c=true then (if k=true then coF has cs true (match o with
   | q::h=>{q with Hi:=nxt cs}::h
   | []=>[]) else coF has cs true ({Lo:=c,Hi:=nxt cs}::o)) else coF has cs false o
theorem yMF {C:List Int} {s:Set} (hl:s.Ranges.length<=12) (hC:C.length<=200) (hg:Gd C):∀(d k:Nat) (D:Bool) (o:List Range),C.length-k=d->k<=C.length->o.length<=k->(D=true->o≠[])->
  zD (λ(x:Bool×Int×(List Range))=>jN C s {Ranges:=[]} 1 x.1 x.2.1 x.2.2) (D,(k:Int),o.reverse)=some (coF (zHC s.Ranges) (C.drop k) D o).reverse:=by
 intro d
 induction d with
 | zero=>
  intro k D o h1 h2 Z h4;rw[dD (show C.length<=k by omega)];refine zJ ?_;simp only[jN,kJ (show C.length<=k by omega),cN];rfl
 | succ d ih=>
  intro k D o h1 h2 Z h4;have hk:k<C.length:=by omega
  have he:zGY {Ranges:=[]} C[k]=some false:=by rw[yH3 (by simp)];rfl
  have ac:(cond (decide (((k+1:Nat):Int)<(C.length:Int))) ((yA C ((k+1:Nat):Int)).bind λag=>some (wi (ag-1))) (some 1114111):Option Int)=some (nxt (C.drop (k+1))):=by
   by_cases K:k+1<C.length
   ·have:=hg.2 _ (eG K)
    rw[yT K,cO,zU K,zA,xK (by omega) (by omega),cY K];rfl
   ·rw[kJ (by omega),cN,dD (by omega)]
    rfl
  rw[cY hk];have nx:∀(G:Bool) (Y:List Range),Y.length<=k+1->(G=true->Y≠[])->jN C s {Ranges:=[]} 1 D (k:Int) o.reverse=some (.next (G,((k+1:Nat):Int),Y.reverse))->coF (zHC s.Ranges) (C.drop (k+1)) G Y=coF (zHC s.Ranges) (C[k]::C.drop (k+1)) D o->
    zD (λ(x:Bool×Int×(List Range))=>jN C s {Ranges:=[]} 1 x.1 x.2.1 x.2.2) (D,(k:Int),o.reverse)=some (coF (zHC s.Ranges) (C[k]::C.drop (k+1)) D o).reverse:=by
   intro G Y ho ab hb e;rw[zM (body:=λ(x:Bool×Int×(List Range))=>jN C s {Ranges:=[]} 1 x.1 x.2.1 x.2.2) (x:=(D,(k:Int),o.reverse)) hb,ih (k+1) G Y (by omega) (by omega) ho ab,e]
  have O:jN C s {Ranges:=[]} 1 D (k:Int) o.reverse=((cond (zHC s.Ranges C[k]&&D) ((yA o.reverse (wi ((o.reverse.length:Int)-1))).bind λah=>(zA9 o.reverse (wi ((o.reverse.length:Int)-1)) ({ah with Hi:=nxt (C.drop (k+1))})).bind λH=>some H) (some o.reverse)).bind λ(y3:List Range)=>
    (cond (zHC s.Ranges C[k]&& !D) ((app y3 [({Lo:=C[k],Hi:=nxt (C.drop (k+1))}:Range)]).bind λr=>some r) (some y3)).bind λ(y5:List Range)=>some (Stp.next (zHC s.Ranges C[k],((k+1:Nat):Int),y5))):=by
   unfold jN;simp only[zI (k:=k) (show k+1<=9223372036854775807 by omega),yT hk,cO,ac,zA,zU hk,yH3 (show s.Ranges.length<=2000 by omega),he,zKN,dC,zL,Bool.or_false]
  cases T:zHC s.Ranges C[k] with
  | false=>
   refine nx false o (by omega) (λh=>by cases h) ?_ ?_
   ·rw[O,T];rfl
   ·simp[coF,T]
  | true=>
   cases D with
   | false=>
    refine nx true ({Lo:=C[k],Hi:=nxt (C.drop (k+1))}::o) (by simp;omega) (λ_=>by simp) ?_ ?_
    ·rw[O,T]
     simp only[fQ,cN,zA,dS,fE,cO,jV (show o.reverse.length+ [({Lo:=C[k],Hi:=nxt (C.drop (k+1))}:Range)].length<=4294967296 by simp;omega)]
     simp
    ·simp[coF,T]
   | true=>
    cases o with
    | nil=>exact absurd rfl (h4 rfl)
    | cons q o=>
     refine nx true ({q with Hi:=nxt (C.drop (k+1))}::o) (by simp only[dR] at Z ⊢;omega) (λ_=>by simp) ?_ ?_
     ·rw[O,T]
      have e1:wi (((q::o).reverse.length:Int)-1)=((o.length:Nat):Int):=by
       simp only[dR] at Z;have hL:((q::o).reverse.length:Int)=(o.length:Int)+1:=by simp
       rw[hL,xK (by omega) (by omega)];omega
      have e2:(q::o).reverse=o.reverse++q:: []:=by simp
      rw[e1,e2,vQ (by simp),zA,zAP (by simp)];simp
     ·simp[coF,T]
theorem yH4 {l:List Range} (k:l.length<=12):zJG l=some {Ranges:=(coF (zHC l) (plE 0 (plE 0 (cuE l []))) false []).reverse}:=by unfold zJG zHG;have G:=z11 l [];have Z:=zO2 0 (cuE l []);have h3:=zO2 0 (plE 0 (cuE l []));simp only[d6] at G;have Y:cuE ([]:List Range) (plE 0 (cuE l []))=plE 0 (cuE l []):=rfl;have H:Gd (plE 0 (plE 0 (cuE l []))):=zS2 (by omega) (zS2 (by omega) (z10 l ⟨.nil,λx K=>by cases K⟩));rw[yAO (s:={Ranges:=l}) k (by simp),zA,yAO (s:={Ranges:=[]}) (by simp) (show (plE 0 (cuE l [])).length<=100 by omega)];rw[zA];have h:=yMF (s:={Ranges:=l}) k (by omega) H _ 0 false [] rfl (by omega) (by simp) (λh=>by cases h);rw[d7] at h;have D:zD (λ(x:Bool×Int×(List Range))=>jN (plE 0 (plE 0 (cuE l []))) {Ranges:=l} {Ranges:=[]} 1 x.1 x.2.1 x.2.2) (false,0,[])=some (coF (zHC l) (plE 0 (plE 0 (cuE l []))) false []).reverse:=h;change ((zD (λ(x:Bool×Int×(List Range))=>jN (plE 0 (plE 0 (cuE l []))) {Ranges:=l} {Ranges:=[]} 1 x.1 x.2.1 x.2.2) (false,0,[])).bind λT=>some ({Ranges:=T}:Set)).bind (λO=>some O)=_;rw[D];rfl
open Go.AV
theorem zUZ {has:Int->Bool}:∀(C:List Int) (O:Bool) (o:List Range),Gd C->CanR o->(O=true->∀c,C.head? =some c->∃q K,o=q::K/\q.Hi=c-1/\q.Lo<=c)->(O=false->∀c q,C.head? =some c->o.head? =some q->q.Hi+1<c)->(O=true->o≠[])->CanR (coF has C O o)
 | [],_,_,_,h,_,_,_=>h
 | c::cs,O,o,Z,T,h1,h2,h3=>by
  obtain⟨ha,hb⟩:=fA.1 Z.1;have H:Gd cs:=⟨hb,λx hx=>Z.2 x (by simp[hx])⟩;have hc:=Z.2 c (by simp);have k:c<=nxt cs/\nxt cs<=1114111/\∀d,cs.head? =some d->nxt cs=d-1/\c<d:=by
   cases cs with
   | nil=>exact⟨hc.2,fV _,λd D=>by cases D⟩
   | cons d cs=>
    have h5:=ha d (by simp);have h6:=Z.2 d (by simp);refine⟨show c<=d-1 by omega,show d-1<=1114111 by omega,λe he=>?_⟩;simp only[hJ,fD] at he;subst he;exact⟨rfl,h5⟩
  unfold coF;split;split;rename_i G;obtain⟨q,K,rfl,e1,e2⟩:=h1 G c rfl;refine zUZ cs true _ H ?_ (λ_ d D=>⟨_,_,rfl,(k.2.2 d D).1,?_⟩) (λh=>by cases h) (λ_=>by simp);have Y:=T.head;unfold zDH at Y;cases K with
  | nil=>show zDH _;unfold zDH;simp only;omega
  | cons z K=>exact⟨by unfold zDH;simp only;omega,T.2.1,T.2.2⟩
  have:=(k.2.2 d D).2;show q.Lo<=d;omega;rename_i G;simp only[gV] at G;refine zUZ cs true _ H ?_ (λ_ d D=>⟨_,_,rfl,(k.2.2 d D).1,?_⟩) (λh=>by cases h) (λ_=>by simp);cases o with
  | nil=>show zDH _;unfold zDH;simp only;omega
  | cons z K=>exact⟨by unfold zDH;simp only;omega,h2 G c z rfl rfl,T⟩
  have:=(k.2.2 d D).2;show c<=d;omega;refine zUZ cs false o H T (λh=>by cases h) (λ_ d q D Y=>?_) (λh=>by cases h);have h7:=(k.2.2 d D).2;cases O with
  | true=>
   obtain⟨q',K,rfl,e1,_⟩:=h1 rfl c rfl;simp only[hJ,fD] at Y;subst Y;omega
  | false=>
   have:=h2 rfl c q rfl Y;omega
def zM9 (l:List Range):List Int:=l.flatMap λr=>r.Lo::if r.Hi<1114111 then [r.Hi+1] else []
theorem yH5:∀(l:List Range) (c:List Int),Can l->(∀x∈c,∀r,l.head? =some r->x<r.Lo)->cuE l c=c++zM9 l
 | [],c,_,_=>by simp[cuE,zM9]
 | r::l,c,h,D=>by
  have O:=h.head;unfold zDH at O;have T:vld r.Lo=true:=by unfold vld;simp;omega
  have K:plE r.Lo c=c++ [r.Lo]:=z1Z λx hx=>D x hx r rfl;have H:cuS c r=c++(r.Lo::if r.Hi<1114111 then [r.Hi+1] else []):=by
   unfold cuS;rw[dH T,K];by_cases k:r.Hi<1114111;rw[dH ⟨by omega,k⟩,dH k,z1Z];simp;intro x hx;rcases eK.1 hx with hx | hx
   have:=D x hx r rfl;omega;simp only[gy] at hx;omega;rw[dN (λh=>k h.2),dN k]
  show cuE l (cuS c r)=_;rw[yH5 l (cuS c r) h.tail,H];simp[zM9];intro x hx q G;have Y:r.Hi+1<q.Lo:=h.gap q (by cases l with | nil=>cases G | cons a l=>simp only[hJ,fD] at G;simp[G])
  rw[H] at hx;rcases eK.1 hx with hx | hx
  have:=D x hx r rfl;omega;rcases dM.1 hx with rfl | hx
  omega;split at hx;simp only[gy] at hx;omega;cases hx
theorem yPU {l:List Range} (h:Can l) {r:Range} (k:r∈l):zHC l r.Lo=true:=by have:=h.ok r k;unfold zDH at this;unfold zHC;refine fW.2 ⟨r,k,?_⟩;unfold vld;simp;omega
theorem yH6:∀{l:List Range},Can l->∀{r:Range},r∈l->zHC l (r.Hi+1)=false
 | [],_,r,G=>by cases G
 | a::l,h,r,G=>by
  unfold zHC;rw[gK];intro q D;have H:∀(c:Int) (q:Range),(c<q.Lo\/q.Hi<c)->¬(vld c&&decide (q.Lo<=c)&&decide (c<=q.Hi))=true:=by
   intro c q T;simp only[dL,cZ];omega
  rcases dM.1 G with rfl | k;refine H _ _ ?_;rcases dM.1 D with rfl | D;omega;have:=h.gap q D;omega;rcases dM.1 D with rfl | D;refine H _ _ ?_;have O:=h.gap r k;have K:=h.tail.ok r k;unfold zDH at K;omega;have:=yH6 h.tail k;unfold zHC at this;rw[gK] at this;exact this q D
theorem yAP {has:Int->Bool}:∀(l:List Range) (o:List Range),Can l->(∀r∈l,has r.Lo=true/\(r.Hi<1114111->has (r.Hi+1)=false))->coF has (zM9 l) false o=l.reverse++o
 | [],o,_,_=>by simp[zM9,coF]
 | r::l,o,h,G=>by
  obtain⟨D,H⟩:=G r (by simp);have Z:=yAP (has:=has) l (r::o) h.tail λq T=>G q (by simp[T]);have Y:=h.head;unfold zDH at Y;by_cases k:r.Hi<1114111
  ·have e:zM9 (r::l)=r.Lo::(r.Hi+1)::zM9 l:=by simp[zM9,k]
   have en:nxt ((r.Hi+1)::zM9 l)=r.Hi:=by show r.Hi+1-1=r.Hi;omega
   rw[e];unfold coF;rw[dH D,dN (by simp),en];unfold coF;rw[dN (by rw[H k];simp),Z]
   simp
  ·have O:l= []:=by
    cases l with
    | nil=>rfl
    | cons q l=>
     have:=h.2.1;have K:=h.tail.head;unfold zDH at K;omega
   subst O;have e:zM9 [r]= [r.Lo]:=by simp[zM9,k]
   rw[e];unfold coF;rw[dH D,dN (by simp)];unfold coF;have:nxt []=r.Hi:=by show (1114111:Int)=r.Hi;omega
   rw[this];rfl
theorem yH7 {l:List Int} (h:Gd l):plE 0 (plE 0 l)=plE 0 l:=by
 cases l with
 | nil=>rfl
 | cons x l=>
  have:=h.2 x (by simp);by_cases k:0<x;have e:plE 0 (x::l)=0::x::l:=by unfold plE;rw[dH (by omega),dH k]
  rw[e];unfold plE;rw[dH (by omega),dN (by omega)];have e:plE 0 (x::l)=x::l:=by unfold plE;rw[dH (by omega),dN k]
  rw[e,e]
theorem yH8 {l:List Range} (h:Can l):(coF (zHC l) (plE 0 (plE 0 (cuE l []))) false []).reverse=l:=by
 rw[yH7 (z10 l ⟨.nil,λx k=>by cases k⟩),yH5 l [] h (λx k=>by cases k),dO];have H:=yAP (has:=zHC l) l [] h λr G=>⟨yPU h G,λ_=>yH6 h G⟩;rw[et] at H;have D:plE 0 (zM9 l)=zM9 l\/(plE 0 (zM9 l)=0::zM9 l/\zHC l 0=false):=by
  cases l with
  | nil=>exact .inr ⟨rfl,rfl⟩
  | cons r l=>
   have G:=h.head;unfold zDH at G;have e:zM9 (r::l)=r.Lo::((if r.Hi<1114111 then [r.Hi+1] else [])++zM9 l):=by simp[zM9]
   rw[e];by_cases k:0<r.Lo;refine .inr ⟨by unfold plE;rw[dH (by omega),dH k],?_⟩
   unfold zHC;rw[gK];intro q hq;simp only[dL,cZ];rcases dM.1 hq with rfl | hq
   omega;have:=h.gap q hq;omega;exact .inl (by unfold plE;rw[dH (by omega),dN k])
 rcases D with D | ⟨D,K⟩;rw[D,H,fO];rw[D];unfold coF;rw[dN (by rw[K];simp),H,fO]
theorem yDJ (l:List Range):Can (coF (zHC l) (plE 0 (plE 0 (cuE l []))) false []).reverse:=by have D:Gd (plE 0 (plE 0 (cuE l []))):=zS2 (by omega) (zS2 (by omega) (z10 l ⟨.nil,λx H=>by cases H⟩));have:=zUZ (has:=zHC l) _ false [] D trivial (λh=>by cases h) (λ_ c q _ G=>by cases G) (λh=>by cases h);have k:=z1L _ [] this trivial (λ_ _ _ h=>by cases h);simpa using k
theorem yMG {a b:Set} (T:a.Ranges.length<=2000):zJH a b=some (decide (a.Ranges=b.Ranges)):=by
 unfold zJH;by_cases G:a.Ranges.length=b.Ranges.length;have e:(!decide ((a.Ranges.length:Int)=(b.Ranges.length:Int)))=false:=by simp[G]
 rw[e,cN];have h:=kG (body:=λ(x:Int)=>zDS a b x) a.Ranges.length (λk=>nth a.Ranges k=nth b.Ranges k) (λy=>y=false) (λk D=>by
  simp only[zDS,yT D,cO,zV D,zV (show k<b.Ranges.length by omega),zA,zI (k:=k) (by omega)];exact wV (by simp) rfl) (λk D=>by simp only[zDS,kJ D,cN])
 have O:(∀j,j<a.Ranges.length->nth a.Ranges j=nth b.Ranges j)↔a.Ranges=b.Ranges:=by
  constructor;intro h;refine ia G λi H K=>?_;have:=h i H
  rwa [zBL H,zBL K] at this
  intro h j _;rw[h]
 rw[O] at h;rcases h with ⟨h,p⟩ | ⟨y,rfl,h,p⟩
 rw[h];simp[p];rw[h];simp[p];have e:(!decide ((a.Ranges.length:Int)=(b.Ranges.length:Int)))=true:=by simp;omega
 rw[e,cO];have:a.Ranges≠b.Ranges:=λh=>G (by rw[h]);simp[this]
theorem yPV {s:Set} (k:s.Ranges.length<=12):∃b,zHV s=some b/\(b=true↔Can s.Ranges):=by unfold zHV;rw[yH4 k,zA,yMG (by omega),zA];refine⟨_,rfl,?_⟩;simp only[cZ];constructor;intro h;rw[h];exact yDJ _;intro h;rw[yH8 h]
open Go.AV
theorem z12 {l:List aH} (O:l.length<=2000) (c:Int) (b:Bool):zEE l c b=some (fiI l c b):=by
 unfold zEE;have h:zD (λ(x:Int)=>zDT l c b x) 0=some (toS (chk (λk m=>(pM c b k m).map λ(i:Nat)=>(i:Int)) l 0)):=by
  refine xR l _ (λk G=>?_) (λk G=>?_);simp only[zDT,yT G,cO,zU G,zA,zL,zI (k:=k) (by omega),pM];by_cases D:l[k].aW=c;cases b with
  | true=>simp[D,vF,stp]
  | false=>
   cases H:(l[k].bO== []) with
   | true=>simp only[D,dC,dS,fE,xF,zA,fa,H,dK,cO,iq,dG,eY,stp]
   | false=>simp only[D,dC,dS,fE,xF,zA,fa,H,dK,cN,dP,and_false,cX,gw,stp]
  simp[D,vF,stp];simp only[zDT,kJ G,cN]
 rw[h,zA,xB];have e:∀(L:List aH) (k:Nat),chk (λk m=>(pM c b k m).map λ(i:Nat)=>(i:Int)) L k=(chk (pM c b) L k).map λ(i:Nat)=>(i:Int):=by
  intro L
  induction L with
  | nil=>intro k;rfl
  | cons x L K=>
   intro k;unfold chk;cases pM c b k x with
   | none=>exact K (k+1)
   | some y=>rfl
 rw[e];unfold fiI fi;cases chk (pM c b) l 0<;>rfl
theorem yH9 (c:Int):zGZ c=some (hkE c):=by
 unfold zGZ hkE;simp only[zL];by_cases h:4352<=c/\c<4371;rw[dH h];have:(decide (4352<=c)&&decide (c<=4370))=true:=by simp;omega
 rw[this];rfl;rw[dN h];have H:(decide (4352<=c)&&decide (c<=4370))=false:=by simp only[eF,dA];omega
 rw[H,cN];by_cases k:4449<=c/\c<4470;rw[dH k];have:(decide (4449<=c)&&decide (c<=4469))=true:=by simp;omega
 rw[this];rfl;rw[dN k];have K:(decide (4449<=c)&&decide (c<=4469))=false:=by simp only[eF,dA];omega
 rw[K,cN];by_cases D:4520<=c/\c<4547;rw[dH D];have:(decide (4520<=c)&&decide (c<=4546))=true:=by simp;omega
 rw[this];rfl;rw[dN D];have O:(decide (4520<=c)&&decide (c<=4546))=false:=by simp only[eF,dA];omega
 rw[O,cN];by_cases G:c<44032\/55204<=c;rw[dH G];have:(decide (44032<=c)&&decide (c<=55203))=false:=by simp only[eF,dA];omega
 rw[this];rfl;rw[dN G];have T:(decide (44032<=c)&&decide (c<=55203))=true:=by simp;omega
 rw[T,cO,xK (n:=c-44032) (by omega) (by omega)];have er:zJ8 (c-44032) 28=some ((c-44032)%28):=by
  unfold zJ8;rw[dN (by decide),fY (by omega)]
 rw[er,zA];by_cases Y:(c-44032)%28=0<;>simp[Y]
theorem yNO (c:Int):zBR c=some (hdE c):=by
 unfold zBR;rw[yH9,zA];cases k:syl c with
 | false=>
  have:decide (hkE c<4)=true:=by
   simp only[cZ];have:¬4<=hkE c:=λh=>by have:=(zIV c).2 h;rw[k] at this;cases this
   omega
  rw[this,cO];unfold hdE;rw[dN (by simp[k])]
 | true=>
  have T:=(zIV c).1 k;have:decide (hkE c<4)=false:=by simp only[dA];omega
  rw[this,cN];have Y:44032<=c/\c<=55203:=by unfold syl at k;simpa using k
  rw[xK (n:=c-44032) (by omega) (by omega)];have G:zNP wi (c-44032) 28=some ((c-44032)/28):=by
   unfold zNP;rw[dN (by decide),hO (by omega),xK (by omega) (by omega)]
  have H:zNP wi ((c-44032)/28) 21=some ((c-44032)/28/21):=by
   unfold zNP;rw[dN (by decide),hO (by omega),xK (by omega) (by omega)]
  have K:zJ8 ((c-44032)/28) 21=some ((c-44032)/28%21):=by
   unfold zJ8;rw[dN (by decide),fY (by omega)]
  have O:zJ8 (c-44032) 28=some ((c-44032)%28):=by
   unfold zJ8;rw[dN (by decide),fY (by omega)]
  simp only[G,H,K,O,zA];unfold hdE;rw[dH k,xK (n:=4352+(c-44032)/28/21) (by omega) (by omega),xK (n:=4449+(c-44032)/28%21) (by omega) (by omega)];by_cases D:0<(c-44032)%28;rw[dH D,xK (n:=4520+(c-44032)%28) (by omega) (by omega),xK (n:=4520+(c-44032)%28-1) (by omega) (by omega)];simp only[D,dC,cO];rw[jV (by simp)];rfl;rw[dN D];simp only[D,dF,cN];rfl
section
variable {l:List aH} (hl:l.length<=2000) (hto:∀m∈l,m.To.length<=2000)
include hl hto
theorem yMH {h:List Bool} (Z:h.length=l.length) {i:Nat} (hi:i<l.length):∀(d k:Nat) (b:Bool),(nth l i).To.length-k=d->k<=(nth l i).To.length->
  zD (λ(x:Bool×Int)=>uP l (i:Int) h x.1 x.2) (b,(k:Int))=some (b&&((nth l i).To.drop k).all λe=>match fi l e true with | some m=>nth h m | none=>true):=by
 have G:=hto _ (vP hi);intro d
 induction d with
 | zero=>
  intro k b H K;rw[dD (show (nth l i).To.length<=k by omega)];refine zJ ?_;simp only[uP,zV hi,zA,kJ (show (nth l i).To.length<=k by omega),cN,List.all_nil,Bool.and_true]
 | succ d T=>
  intro k b H K;have D:k<(nth l i).To.length:=by omega
  have hb:uP l (i:Int) h b (k:Int)=some (.next (b&&(match fi l (nth l i).To[k] true with | some m=>nth h m | none=>true),((k+1:Nat):Int))):=by
   simp only[uP,zV hi,zA,yT D,cO,zU D,z12 hl,zL,zI (k:=k) (by omega)];unfold fiI;cases O:fi l (nth l i).To[k] true with
   | none=>simp[vF]
   | some m=>
    obtain⟨Y,_,_⟩:=zKZ O;have e:decide (((m:Nat):Int)<0)=false:=by simp
    simp only[e,dS,Bool.and_true,fa];cases b with
    | false=>simp[vF]
    | true=>simp only[xF,zV (show m<h.length by omega),zA,dK]
  rw[zM (body:=λ(x:Bool×Int)=>uP l (i:Int) h x.1 x.2) (x:=(b,(k:Int))) hb,T (k+1) _ (by omega) (by omega),cY D,ig,Bool.and_assoc]
theorem yMI:zJI l=some (zJ2 (zQE l) l.length l.length (List.replicate l.length false)):=by
 unfold zJI;rw[z1D (by omega),zA];have H:∀(h:List Bool),h.length=l.length->zD (λ(x:Int×(List Bool))=>zCB l x.1 x.2) (0,h)=some (zRQ (zQE l) l.length 0 h):=λh D=>
  zRR (upd:=zQE l) (n:=l.length) (Inv:=λ_=>True) (body:=λ(x:Int×(List Bool))=>zCB l x.1 x.2) (λi h=>((i:Int),h)) id (λi h hi D _=>by
   have:=yMH hl hto D hi _ 0 true rfl (by omega);rw[d7,dK] at this;have G:zD (λ(x:Bool×Int)=>uP l (i:Int) h x.1 x.2) (true,0)=some (zQE l h i):=this;simp only[zCB,yT hi,cO,G,zA,zV (show i<h.length by omega),zIA (show i<h.length by omega),zI (k:=i) (by omega)]) (λ_ _ _ _ _=>trivial) (λh=>by simp only[zCB,kJ (dB _),cN];rfl) l.length 0 h (by omega) D trivial
 have K:=zRS (upd:=zQE l) (n:=l.length) (Inv:=λ_=>True) (body:=λ(x:Int×(List Bool))=>zCC l x.1 x.2) (λi h=>((i:Int),h)) id (N:=l.length) (λr h T D _=>by
  simp only[zCC,yT T,cO,H h D,zA,zI (k:=r) (by omega)]) (λ_ _ _ _ _=>trivial) (λh=>by simp only[zCC,kJ (dB _),cN];rfl) l.length 0 (List.replicate l.length false) (by omega) (by simp) trivial
 have O:zD (λ(x:Int×(List Bool))=>zCC l x.1 x.2) (0,List.replicate l.length false)=some (zJ2 (zQE l) l.length l.length (List.replicate l.length false)):=K;rw[O];rfl
theorem yMJ {b:Bool} {h:List Int} (ho:h.length=l.length) (hv:z1X h) {i:Nat} (hi:i<l.length):∀(d k:Nat) (n:Int),(nth l i).To.length-k=d->k<=(nth l i).To.length->0<=n->n<=100*(k:Int)->
  zD (λ(x:Int×Int)=>wK l (i:Int) b h x.1 x.2) (n,(k:Int))=some (n+(((nth l i).To.drop k).map (lenOf l b h)).sum):=by
 have K:=hto _ (vP hi);intro d
 induction d with
 | zero=>
  intro k n O T D Y;rw[dD (show (nth l i).To.length<=k by omega)];refine zJ ?_;simp only[wK,zV hi,zA,kJ (show (nth l i).To.length<=k by omega),cN,fF,List.sum_nil,Int.add_zero]
 | succ d ih=>
  intro k n O T D Y;have H:k<(nth l i).To.length:=by omega
  have Z:0<=lenOf l b h (nth l i).To[k]/\lenOf l b h (nth l i).To[k]<=65:=by
   unfold lenOf;cases G:fi l (nth l i).To[k] b with
   | none=>have:=zQA (nth l i).To[k];simp only[];omega
   | some m=>obtain⟨D,_,_⟩:=zKZ G;exact hv _ (vP (by omega))
  have hb:wK l (i:Int) b h n (k:Int)=some (.next (n+lenOf l b h (nth l i).To[k],((k+1:Nat):Int))):=by
   have hw:wi (n+lenOf l b h (nth l i).To[k])=n+lenOf l b h (nth l i).To[k]:=xK (by omega) (by omega);simp only[wK,zV hi,zA,yT H,cO,zU H,z12 hl,zI (k:=k) (by omega),yNO];rw[<-hw];unfold lenOf fiI;cases G:fi l (nth l i).To[k] b with
   | none=>rfl
   | some m=>
    obtain⟨D,_,_⟩:=zKZ G;have e:decide (0<=((m:Nat):Int))=true:=by simp
    simp only[e,cO,zV (show m<h.length by omega),zA]
  rw[zM (body:=λ(x:Int×Int)=>wK l (i:Int) b h x.1 x.2) (x:=(n,(k:Int))) hb,ih (k+1) _ (by omega) (by omega) (by omega) (by omega),cY H,eA,iF,Int.add_assoc]
theorem yAQ (b:Bool):zDU l b=some (zJ2 (updL l b) l.length l.length (List.replicate l.length 0)):=by
 unfold zDU;rw[z1D (by omega),zA];have K:z1X (List.replicate l.length 0):=λx hx=>by rw[(List.mem_replicate.1 hx).2];omega
 have O:∀(h:List Int),h.length=l.length->z1X h->zD (λ(x:Int×(List Int))=>uJ l b x.1 x.2) (0,h)=some (zRQ (updL l b) l.length 0 h):=λh D G=>
  zRR (upd:=updL l b) (n:=l.length) (Inv:=z1X) (body:=λ(x:Int×(List Int))=>uJ l b x.1 x.2) (λi h=>((i:Int),h)) id (λi h hi D G=>by
   have:=yMJ hl hto (b:=b) D G hi _ 0 0 rfl (by omega) (by omega) (by omega);rw[d7,Int.zero_add] at this;have H:zD (λ(x:Int×Int)=>wK l (i:Int) b h x.1 x.2) (0,0)=some (((nth l i).To.map (lenOf l b h)).sum):=this;simp only[uJ,yT hi,cO,H,zA,zV (show i<h.length by omega),zIA (show i<h.length by omega),zV hi,zL,zI (k:=i) (by omega)];unfold updL;cases b with
   | true=>simp
   | false=>
    cases ht:((nth l i).bO== []) with
    | true=>simp
    | false=>simp[zV (show i<(h.set i (min (max (List.map (lenOf l false h) (nth l i).To).sum 1) 65)).length by simp;omega),zIA (show i<(h.set i (min (max (List.map (lenOf l false h) (nth l i).To).sum 1) 65)).length by simp;omega)]) zS0 (λh=>by simp only[uJ,kJ (dB _),cN];rfl) l.length 0 h (by omega) D G
 have T:=zRS (upd:=updL l b) (n:=l.length) (Inv:=z1X) (body:=λ(x:Int×(List Int))=>uK l b x.1 x.2) (λi h=>((i:Int),h)) id (N:=l.length) (λr h Z D G=>by
  simp only[uK,yT Z,cO,O h D G,zA,zI (k:=r) (by omega)]) zS0 (λh=>by simp only[uK,kJ (dB _),cN];rfl) l.length 0 (List.replicate l.length 0) (by omega) (by simp) K
 have Y:zD (λ(x:Int×(List Int))=>uK l b x.1 x.2) (0,List.replicate l.length 0)=some (zJ2 (updL l b) l.length l.length (List.replicate l.length 0)):=T;rw[Y];rfl
end
open Go.AV
theorem zU0 {G:Type} [Inhabited G] {upd:List G->Nat->G} {n k:Nat} {D:List G} (h:D.length=n):(zJ2 upd n k D).length=n:=
 (z1V (upd:=upd) (n:=n) (Inv:=λ_=>True) (λ_ _ _ _ _=>trivial) k D h trivial).2
theorem z5M {l:List aH} (h:∀k,k+1<l.length->(nth l k).aW<(nth l (k+1)).aW):∀(d i:Nat),i+d+1<l.length->(nth l i).aW<(nth l (i+d+1)).aW
 | 0,i,hi=>h i hi
 | d+1,i,hi=>by
  have D:=z5M h d i (by omega);have G:=h (i+d+1) (by omega);have:i+(d+1)+1=i+d+1+1:=by omega
  rw[this];omega
theorem yDK {l:List aH} (T:∀k,k+1<l.length->mlt (nth l k) (nth l (k+1))):(∀k,k<l.length->¬fiI l (nth l k).aW true<(k:Int))↔∀k,k+1<l.length->(nth l (k+1)).aW≠(nth l k).aW:=by
 constructor;intro h k H e;have G:k<l.length:=by omega
 have Z:pM (nth l (k+1)).aW true (0+k) l[k]≠none:=by
  unfold pM;rw[dH ⟨by rw[e,zBL G],rfl⟩];simp
 obtain⟨i,hi,aa,Y⟩:=zZS (p:=pM (nth l (k+1)).aW true) (l:=l) (k:=0) G Z;have O:fi l (nth l (k+1)).aW true=some i:=by
  unfold fi;rw[Y];unfold pM;split;simp;rename_i hn;exfalso;have:chk (pM (nth l (k+1)).aW true) l 0=none:=by rw[Y];unfold pM;rw[dN hn]
  exact Z (zOC this k G)
 refine h (k+1) H ?_;unfold fiI;rw[O];simp only[];omega;intro h k H D;have hs:∀k,k+1<l.length->(nth l k).aW<(nth l (k+1)).aW:=λk H=>by
  have a:=T k H;have b:=h k H;unfold mlt at a;omega
 unfold fiI at D;cases K:fi l (nth l k).aW true with
 | none=>exact absurd ⟨rfl,rfl⟩ (yAH K _ (vP H))
 | some i=>
  rw[K] at D;simp only[] at D;obtain⟨h1,h2,_⟩:=zKZ K;have:=z5M hs (k-i-1) i (by omega);rw[show i+(k-i-1)+1=k by omega] at this;omega
theorem yPW {n:Norm} (T:NSm n) (bj:wY n):Ver (zHW n) (VD0 n):=by
 obtain⟨e1,au,p1⟩:=yHW (l:=n.aK) (by have:=T.cl;omega)
 obtain⟨e2,aw,p2⟩:=yPR (l:=n.aA) (by have:=T.de;omega) (λm G=>by have:=T.to m G;omega) (λm G=>by have:=T.tg m G;unfold MX;omega)
 obtain⟨e3,ax,p3⟩:=yPV (s:=n.aN) T.ex;have bh:=T.de;have hl:n.aA.length<=2000:=by omega
 have Z:∀m∈n.aA,m.To.length<=2000:=λm G=>by have:=T.to m G;omega
 unfold zHW;rw[au,zA];by_cases h1:e1=0
 case neg=>
  have:(!decide (e1=0))=true:=by simp[h1]
  rw[this,cO];exact⟨e1,rfl,by simp only[h1,eW];exact λh=>h1 (p1.2 h.cv)⟩
 rw[h1];simp only[dC,dE,cN];have cv:=p1.1 h1;rw[aw,zA];by_cases h2:e2=0
 case neg=>
  have:(!decide (e2=0))=true:=by simp[h2]
  rw[this,cO];exact⟨e2,rfl,by simp only[h2,eW];exact λh=>h2 (p2.2 h.mv)⟩
 rw[h2];simp only[dC,dE,cN];have mv:=p2.1 h2;rw[ax,zA];cases e3 with
 | false=>exact⟨11,rfl,by simp only[show ((11:Int)=0)=False by simp,eW];exact λh=>by have:=p3.2 h.ca;cases this⟩
 | true=>
 have ca:=p3.1 rfl;simp only[dE,cN];have l0:=kG (body:=λ(x:Int)=>zC1 n x) n.aA.length (λk=> ¬fiI n.aA (nth n.aA k).aW true<(k:Int)) (λy=>y≠0) (λk D=>by
  simp only[zC1,yT D,cO,zV D,zA,z12 hl,zI (k:=k) (by omega)];exact wV (by simp) (by decide)) (λk D=>by simp only[zC1,kJ D,cN])
 rw[yDK mv.lt] at l0;rcases l0 with ⟨l0,ne⟩ | ⟨y,O,l0,ne⟩
 case inr=>rw[l0];exact⟨y,rfl,by simp only[O,eW];exact λh=>ne h.ne⟩
 rw[l0];simp only[zA,eU];have al:∀m:aH,(m.bO== [])=decide (m.bO= []):=λm=>by cases m.bO<;>rfl
 have l1:=kG (body:=λ(x:Int)=>zC2 n x) n.aA.length (λk=>(nth n.aA k).bO= []->(nth n.aA k).To.length=1\/(nth n.aA k).To.length=2) (λy=>y≠0) (λk D=>by
  simp only[zC2,yT D,cO,zV D,zA,zL,zI (k:=k) (by omega),al];by_cases ht:(nth n.aA k).bO= []
  ·
   simp only[ht,dC,xF,zA,dK,true_implies];by_cases h5:((nth n.aA k).To.length:Int)=1
   ·
    simp only[h5,dC,dE,vF,zA,dQ,cN];exact .inl ⟨.inl (by omega),trivial⟩
   ·
    simp only[h5,dF,dS,xF,zA,dK];exact wV (by simp only[fU,dA];omega) (by decide)
  ·
   simp only[ht,dF,vF,zA,dQ,cN,false_implies];exact .inl ⟨trivial,trivial⟩) (λk D=>by simp only[zC2,kJ D,cN])
 rw[zAS (p:=λm:aH=>m.bO= []->m.To.length=1\/m.To.length=2)] at l1;rcases l1 with ⟨l1,kd⟩ | ⟨y,O,l1,kd⟩
 case inr=>rw[l1];exact⟨y,rfl,by simp only[O,eW];exact λh=>kd h.kd⟩
 rw[l1];simp only[zA,eU];have l2:=kG (body:=λ(x:Int)=>zC3 n x) n.aA.length (λk=>hkE (nth n.aA k).aW=0/\((nth n.aA k).bO≠[]->clE n.aK (nth n.aA k).aW=0)) (λy=>y≠0) (λk D=>by
  simp only[zC3,yT D,cO,zV D,zA,zL,yH9,zI (k:=k) (by omega),al];by_cases h5:hkE (nth n.aA k).aW=0
  ·
   simp only[h5,dC,dE,dS,xF,zA,dK,fa,true_and];by_cases ht:(nth n.aA k).bO= []
   ·
    simp only[ht,dC,dE,vF,zA,dQ,cN];exact .inl ⟨λh=>absurd rfl h,trivial⟩
   ·
    simp only[ht,dF,dS,xF,zA,dK,zJ1 (show n.aK.length<=2000 by have:=T.cl;omega) cv]
    exact wV (by simp[ht]) (by decide)
  ·
   have:(!decide (hkE (nth n.aA k).aW=0))=true:=by simp[h5]
   simp only[this,dE,vF,zA,dQ,ic,cO];exact .inr ⟨λh=>h5 h.1,11,by decide,rfl⟩) (λk D=>by simp only[zC3,kJ D,cN])
 rw[zAS (p:=λm:aH=>hkE m.aW=0/\(m.bO≠[]->clE n.aK m.aW=0))] at l2;rcases l2 with ⟨l2,D⟩ | ⟨y,O,l2,D⟩
 case inr=>rw[l2];exact⟨y,rfl,by simp only[O,eW];exact λh=>D λm G=>⟨h.hk m G,h.tc m G⟩⟩
 rw[l2];simp only[zA,eU];have K:DS n.aA:=⟨λk am=>by
  have a:=mv.lt k am;have b:=ne k am;unfold mlt at a;omega,λm G=>(D m G).1,λm G=>by have:=mv.sz m G;omega⟩
 have Y:=yHH K (by omega);rw[yMI hl Z,zA];have l3:=kG (body:=λ(x:Int)=>zC4 n (zJ2 (zQE n.aA) n.aA.length n.aA.length (List.replicate n.aA.length false)) x) n.aA.length (λk=>nth (zJ2 (zQE n.aA) n.aA.length n.aA.length (List.replicate n.aA.length false)) k=true) (λy=>y≠0) (λk D=>by
  simp only[zC4,yT D,cO,zV (show k<(zJ2 (zQE n.aA) n.aA.length n.aA.length (List.replicate n.aA.length false)).length by rw[zU0 (by simp)];exact D),zA,zI (k:=k) (by omega)]
  exact wV (by simp) (by decide)) (λk D=>by simp only[zC4,kJ D,cN])
 rw[yH0 K] at l3;rcases l3 with ⟨l3,H⟩ | ⟨y,O,l3,H⟩
 case inr=>rw[l3];exact⟨y,rfl,by simp only[O,eW];exact λh=>H (Y.1 h.ms).1⟩
 rw[l3];simp only[zA,eU];have hD:=zWK K H;rw[yAQ hl Z false,zA,yAQ hl Z true,zA];have l4:=kG (body:=λ(x:Int)=>zC5 n (zJ2 (updL n.aA false) n.aA.length n.aA.length (List.replicate n.aA.length 0)) (zJ2 (updL n.aA true) n.aA.length n.aA.length (List.replicate n.aA.length 0)) x) n.aA.length (λk=>wt n.aA true (nth n.aA k).aW<=64) (λy=>y≠0) (λk D=>by
  have bi:wt n.aA false (nth n.aA k).aW<=wt n.aA true (nth n.aA k).aW:=z95 K _ _;simp only[zC5,yT D,cO,zV (show k<(zJ2 (updL n.aA false) n.aA.length n.aA.length (List.replicate n.aA.length 0)).length by rw[zU0 (by simp)];exact D),zV (show k<(zJ2 (updL n.aA true) n.aA.length n.aA.length (List.replicate n.aA.length 0)).length by rw[zU0 (by simp)];exact D),zA,zL,yAI K hD (b:=false) k D,yAI K hD (b:=true) k D,zI (k:=k) (by omega)]
  by_cases h6:64<wt n.aA false (nth n.aA k).aW
  ·
   simp only[h6,dC,dE,vF,zA,ic,cO];exact .inr ⟨by omega,13,by decide,rfl⟩
  ·
   simp only[h6,dF,dS,xF,zA,fa];exact wV (by simp) (by decide)) (λk D=>by simp only[zC5,kJ D,cN])
 rw[zAS (p:=λm:aH=>wt n.aA true m.aW<=64)] at l4;rcases l4 with ⟨l4,W⟩ | ⟨y,O,l4,W⟩
 ·
  rw[l4];exact⟨0,rfl,by simp only[true_iff];exact⟨cv,mv,ca,ne,kd,λm G=>(D m G).1,λm G=>(D m G).2,Y.2 ⟨H,W⟩⟩⟩
 · rw[l4];exact⟨y,rfl,by simp only[O,eW];exact λh=>W (Y.1 h.ms).2⟩
theorem yIA {n:Norm} (K:NSm n) (D:wY n):zG0 n=some (usN n):=by obtain⟨e,H,G⟩:=yPW K D;unfold zG0 usN;rw[H,zA];by_cases k:e=0;rw[dH (G.1 k)];simp[k];rw[dN (λh=>k (G.2 h))];simp[k]
section
variable {c:Collation} (hs:Sm c) {l:List bM} (hcv:CV l) (hl:l.length<=2000)
include hs
theorem yAR (codes:List Int):zEF (kB c) codes=some (zD6 (kB c).aB codes):=z75 (z1I hs) (yLG hs) rfl codes
theorem rM0 {text:List Int} (K:text.length<=2000):∀(d k:Nat),text.length-k=d->k<=text.length->zD (λ(x:Int×Int)=>wL text (kB c) x.1 x.2) (((zKY (pfx (kB c).aB text) k:Nat):Int),((k+1:Nat):Int))=some ((zAJ (kB c).aB text:Nat):Int):=by
 intro d
 induction d with
 | zero=>
  intro k D G;have:k=text.length:=by omega
  subst this;refine zJ ?_;have e:decide (((text.length+1:Nat):Int)<=(text.length:Int))=false:=by simp;omega
  simp only[wL,e,cN];rfl
 | succ d H=>
  intro k D G;have e:decide (((k+1:Nat):Int)<=(text.length:Int))=true:=by simp;omega
  have hb:wL text (kB c) ((zKY (pfx (kB c).aB text) k:Nat):Int) ((k+1:Nat):Int)=some (.next (((zKY (pfx (kB c).aB text) (k+1):Nat):Int),((k+1+1:Nat):Int))):=by
   simp only[wL,e,cO,zFB (show k+1<=text.length by omega),zA,yAR hs,zI (k:=k+1) (by omega)];have h:zKY (pfx (kB c).aB text) (k+1)=if pfx (kB c).aB text (k+1)=true then k+1 else zKY (pfx (kB c).aB text) k:=rfl
   have:(zD6 (kB c).aB (text.take (k+1))).2=pfx (kB c).aB text (k+1):=rfl;rw[this,h];cases pfx (kB c).aB text (k+1)<;>rfl
  rw[zM (body:=λ(x:Int×Int)=>wL text (kB c) x.1 x.2) hb];exact H (k+1) (by omega) (by omega)
include hcv hl
theorem rM1 {text:List Int}:∀(r p s:List Int) (h:Int) (k:Nat),text.drop k=r->k<=text.length->p.length+s.length+r.length<=2000->text.length<=2000->
  ∃(m:Nat) (q:List Int),zD (λ(x:(List Int)×Int×Int×(List Int))=>vC text l (kB c) x.1 x.2.1 x.2.2.1 x.2.2.2) (p,h,(k:Int),s)=some ((zER (λq=>(zD6 (kB c).aB q).2) (clE l) r p s h).1,(m:Int),q)/\m<=text.length/\q++text.drop m=(zER (λq=>(zD6 (kB c).aB q).2) (clE l) r p s h).2
 | [],p,s,h,k,H,hk,_,_=>by
  have Z:text.length<=k:=by have:=congrArg List.length H;simp at this;omega
  refine⟨k,s,zJ ?_,hk,?_⟩
  ·simp only[vC,kJ Z,zL,vF,zA,dQ,cN]
   rfl
  ·rw[H];simp[zER]
 | x::r,p,s,h,k,H,hk,hn,ht=>by
  have D:k<text.length:=by have:=congrArg List.length H;simp at this;omega
  obtain⟨hx,K⟩:=List.cons_eq_cons.1 ((cY D).symm.trans H);simp only[dR] at hn;have hj:zG3 p x=some (p++ [x]):=by
   unfold zG3;rw[jV (by simp;omega),zA,dO,jV (by simp;omega)]
   rfl
  by_cases G:clE l x=0
  ·refine⟨k,s,zJ ?_,hk,?_⟩
   ·simp only[vC,yT D,zL,xF,zU D,zA,hx,zQD hl hcv,G,dC,dE,fQ,cN]
    unfold zER;rw[dH G]
   ·unfold zER;rw[dH G,H]
  ·unfold zER
   rw[dN G];cases hb:((zD6 (kB c).aB (p++ [x])).2&&decide (h<clE l x)) with
   | true=>
    rw[dH rfl];obtain⟨m,q,O,T,Y⟩:=rM1 r (p++ [x]) s h (k+1) K (by omega) (by simp;omega) ht
    refine⟨m,q,?_,T,Y⟩;rw[<-O];refine zM ?_;simp only[vC,yT D,zL,xF,zU D,zA,hx,zQD hl hcv,G,dF,dS,Bool.and_true,cO,zJ1 hl hcv,hj,yAR hs,hb,zI (k:=k) (by omega)]
   | false=>
    rw[dN (by simp)];obtain⟨m,q,O,T,Y⟩:=rM1 r p (s++ [x]) (max h (clE l x)) (k+1) K (by omega) (by simp;omega) ht
    refine⟨m,q,?_,T,Y⟩;rw[<-O];refine zM ?_;simp only[vC,yT D,zL,xF,zU D,zA,hx,zQD hl hcv,G,dF,dS,Bool.and_true,cO,cN,zJ1 hl hcv,hj,yAR hs,hb,jV (show s.length+ [x].length<=4294967296 by simp;omega),zI (k:=k) (by omega)]
noncomputable def mtE (c:Collation) (l:List bM) (text:List Int):List Int×List Int:=zER (λq=>(zD6 (kB c).aB q).2) (clE l) (text.drop (zAJ (kB c).aB text)) (text.take (zAJ (kB c).aB text)) [] 0
theorem z8D {text:List Int} (O:text.length<=2000) (Y:text≠[]):zE4 l (kB c) text=some (if zAJ (kB c).aB text=0 then (text.take 1,text.drop 1,false) else ((mtE c l text).1,(mtE c l text).2,true)):=by
 have h:0<text.length:=e6.2 Y;unfold zE4;have Z:=rM0 hs O text.length 0 (by omega) (by omega);have H:zD (λ(x:Int×Int)=>wL text (kB c) x.1 x.2) (0,1)=some ((zAJ (kB c).aB text:Nat):Int):=Z;rw[H,zA];by_cases K:zAJ (kB c).aB text=0;have G:decide (((zAJ (kB c).aB text:Nat):Int)=0)=true:=by simp[K]
 have s1:slc text 0 1=some (text.take 1):=zFB (b:=1) h;have s2:slc text 1 (text.length)=some (text.drop 1):=zIB (a:=1) h;rw[G,cO,s1,zA,s2,zA,dH K];have G:decide (((zAJ (kB c).aB text:Nat):Int)=0)=false:=by simp;omega
 have D:zAJ (kB c).aB text<=text.length:=zRN _ _;rw[G,cN,zFB D,zA,yO4 (by simp;omega),zA,dN K]
 obtain⟨m,q,r1,r2,T⟩:=rM1 hs hcv hl (text:=text) (text.drop (zAJ (kB c).aB text)) (text.take (zAJ (kB c).aB text)) [] 0 (zAJ (kB c).aB text) rfl D (by simp;omega) O
 have k:=zRO (fd:=λq=>(zD6 (kB c).aB q).2) (cl:=clE l) (text.drop (zAJ (kB c).aB text)) (text.take (zAJ (kB c).aB text)) [] 0;have hq:q.length+(text.drop m).length<=4294967296:=by
  have:=congrArg List.length T;rw[cW] at this;have h2:=k.2.1;simp only[dZ,eJ,d6] at h2;omega
 rw[r1,zA];simp only[zIB r2,zA,jV hq,T];rfl
end
open Go.AV
theorem yAS {l:List aH} (hl:l.length<=2000) {b:Bool} {lists:List (List Int)} (hn:lists.length=l.length) (hb:∀e,(zIC l b lists e).length<=64) {text:List Int} (ht:text.length<=2000):u0 l lists text b=some (text.flatMap (zIC l b lists)):=by
 have key:∀(d k:Nat) (D:List Int),text.length-k=d->k<=text.length->D.length<=64*k->zD (λ(x:Int×(List Int))=>jQ text l b lists x.1 x.2) ((k:Int),D)=some (D++(text.drop k).flatMap (zIC l b lists)):=by
  intro d
  induction d with
  | zero=>
   intro k D Y Z h3;rw[dD (show text.length<=k by omega)];refine zJ ?_;simp only[jQ,kJ (show text.length<=k by omega),cN,gW,et]
  | succ d ih=>
   intro k D Y Z h3;have O:k<text.length:=by omega
   have ab:=hb text[k];have H:jQ text l b lists (k:Int) D=some (.next (((k+1:Nat):Int),D++zIC l b lists text[k])):=by
    have G:app D (zIC l b lists text[k])=some (D++zIC l b lists text[k]):=jV (by omega);simp only[jQ,yT O,cO,zU O,zA,z12 hl,zI (k:=k) (by omega),yNO];unfold zIC at G ⊢;unfold fiI;cases K:fi l text[k] b with
    | none=>
     rw[K] at G;simp only[] at G;simp only[show decide ((0:Int)<= -1)=false by decide,cN,G,zA]
    | some m=>
     rw[K] at G;simp only[] at G;obtain⟨h4,_,_⟩:=zKZ K;have e:decide (0<=((m:Nat):Int))=true:=by simp
     simp only[e,cO,zV (show m<lists.length by omega),zA,G]
   rw[zM (body:=λ(x:Int×(List Int))=>jQ text l b lists x.1 x.2) (x:=((k:Int),D)) H,ih (k+1) _ (by omega) (by omega) (by rw[cW];omega),cY O,d9,c9]
 unfold u0;have h:=key text.length 0 [] (by omega) (by omega) (by simp);rw[d7,dO] at h;have T:zD (λ(x:Int×(List Int))=>jQ text l b lists x.1 x.2) (0,[])=some (text.flatMap (zIC l b lists)):=h;rw[T];rfl
theorem yPX {n:Norm} (h:GN n) (b:Bool):zH0 n.aA b=some (z5L n.aA b):=by
 have hl:n.aA.length<=2000:=by have:=h.de;omega
 have K:∀{D:List (List Int)},zYB n.aA b D->∀e,(zIC n.aA b D e).length<=64:=λG e=>d8 (yAK h.ds h.dd G e) (h.len b e);unfold zH0;rw[z1D (by omega),zA];have T:∀(D:List (List Int)),D.length=n.aA.length->zYB n.aA b D->zD (λ(x:Int×(List (List Int)))=>zBG n.aA b x.1 x.2) (0,D)=some (zRQ (zWP n.aA b) n.aA.length 0 D):=λD H G=>
  zRR (upd:=zWP n.aA b) (n:=n.aA.length) (Inv:=zYB n.aA b) (body:=λ(x:Int×(List (List Int)))=>zBG n.aA b x.1 x.2) (λi D=>((i:Int),D)) id (λi D hi H G=>by
   have O:=yAS hl (b:=b) H (K G) (text:=(nth n.aA i).To) (h.ds.len _ (vP hi));simp only[zBG,yT hi,cO,zL,zV hi,zV (show i<D.length by omega),zA,O,zIA (show i<D.length by omega),zI (k:=i) (by omega)];unfold zWP;cases b with
   | true=>simp[vF]
   | false=>
    simp only[dS,xF,zA,fa];cases ht:((nth n.aA i).bO== []) with
    | true=>simp
    | false=>simp[yL6 (show i<D.length by omega)]) (zS1 h.ds h.dd) (λD=>by simp only[zBG,kJ (dB _),cN];rfl) n.aA.length 0 D (by omega) H G
 have Y:=zRS (upd:=zWP n.aA b) (n:=n.aA.length) (Inv:=zYB n.aA b) (body:=λ(x:Int×(List (List Int)))=>zBH n.aA b x.1 x.2) (λi D=>((i:Int),D)) id (N:=n.aA.length) (λr D O H G=>by
  simp only[zBH,yT O,cO,T D H G,zA,zI (k:=r) (by omega)]) (zS1 h.ds h.dd) (λD=>by simp only[zBH,kJ (dB _),cN];rfl) n.aA.length 0 (List.replicate n.aA.length []) (by omega) (by simp) yNM
 have Z:zD (λ(x:Int×(List (List Int)))=>zBH n.aA b x.1 x.2) (0,List.replicate n.aA.length [])=some (z5L n.aA b):=Y;rw[Z];rfl
theorem yMK {n:Norm} (h:GN n) (b:Bool) {text:List Int} (D:text.length<=2000):zJJ n text b=some (text.flatMap (fu n.aA b)):=by
 have k:n.aA.length<=2000:=by have:=h.de;omega
 unfold zJJ;have e:∀c,zIC n.aA b (z5L n.aA b) c=fu n.aA b c:=yME h.ds h.dd;rw[yPX h,zA,yAS (lists:=z5L n.aA b) k (zU0 (by simp)) (λc=>by rw[e];exact h.len b c) D,zA,show zIC n.aA b (z5L n.aA b)=fu n.aA b from funext e]
section
variable {l:List bM} (hcv:CV l) (hl:l.length<=2000)
include hcv hl
theorem sIn {text:List Int} {v:Nat} (K:v<text.length):∀(r s:List Int),r.length<=2000->zD (λ(q:Int×(List Int))=>zAU (clE l text[v]) l text (v:Int) q.1 q.2) ((r.length:Int),r.reverse++text[v]::s)=some (u3 (ltC (clE l)) r text[v] s)
 | [],s,_=>by
  refine zJ ?_;simp[zAU,zL,vF,zA,u3]
 | y::r,s,O=>by
  simp only[dR] at O;have G:decide ((0:Int)<((r.length+1:Nat):Int))=true:=by simp only[cZ];omega
  have H:(y::r).reverse++text[v]::s=r.reverse++y::text[v]::s:=by simp
  have i1:yA (r.reverse++y::text[v]::s) (r.length:Int)=some y:=vQ (by simp);have i2:yA (r.reverse++y::text[v]::s) ((r.length+1:Nat):Int)=some text[v]:=by
   have:=vQ (p:=r.reverse++ [y]) (s:=s) (x:=text[v]) (k:=r.length+1) (by simp);simpa using this
  have T:zA9 (r.reverse++y::text[v]::s) ((r.length+1:Nat):Int) y=some (r.reverse++y::y::s):=by
   have:=zAP (p:=r.reverse++ [y]) (s:=s) (x:=text[v]) (y:=y) (k:=r.length+1) (by simp);simpa using this
  have i3:yA (r.reverse++y::y::s) (r.length:Int)=some y:=vQ (by simp);have Y:zA9 (r.reverse++y::y::s) (r.length:Int) text[v]=some (r.reverse++text[v]::y::s):=zAP (by simp);rw[H];show zD _ (((r.length+1:Nat):Int),_)=_;by_cases D:0<clE l text[v]
  ·by_cases h:clE l text[v]<clE l y
   ·rw[zM (x':=((r.length:Int),r.reverse++text[v]::(y::s))) (by
     simp only[zAU,zL,G,D,dC,fE,zD3 (k:=r.length) (by omega),xF,i1,zA,zJ1 hl hcv,h,cO,i2,T,zU K,i3,Y])]
    rw[sIn K r (y::s) (by omega)];have:ltC (clE l) text[v] y=true:=by unfold ltC;simp[D,h]
    simp[u3,this]
   ·refine zJ ?_
    have:ltC (clE l) text[v] y=false:=by unfold ltC;simp[h]
    simp only[zAU,zL,G,D,dC,fE,zD3 (k:=r.length) (by omega),xF,i1,zA,zJ1 hl hcv,h,dF,fQ,cN,u3,this,dP,cX,H]
  ·refine zJ ?_
   have:ltC (clE l) text[v] y=false:=by unfold ltC;simp[D]
   simp only[zAU,zL,G,D,dF,fQ,vF,zA,dQ,cN,u3,this,dP,cX,H]
theorem yML {text:List Int} (ht:text.length<=900):zG2 l text=some (csE (clE l) text):=by
 have key:∀(d k:Nat) (D:List Int),text.length-k=d->k<=text.length->D.length=k->zD (λ(x:Int×(List Int))=>uQ text l x.1 x.2) ((k:Int),D)=some (zAX (ltC (clE l)) (text.drop k) D):=by
  intro d
  induction d with
  | zero=>
   intro k D O T Y;rw[dD (show text.length<=k by omega)];refine zJ ?_;simp only[uQ,kJ (show text.length<=k by omega),cN];rfl
  | succ d ih=>
   intro k D O T Y;have G:k<text.length:=by omega
   have hi:=sIn hcv hl G D.reverse [] (by simp;omega)
   rw[fO,gP] at hi;have hb:uQ text l (k:Int) D=some (.next (((k+1:Nat):Int),u3 (ltC (clE l)) D.reverse text[k] [])):=by
    have H:wi (((D++ [text[k]]).length:Int)-1)=(D.length:Int):=by
     have Z:((D++ [text[k]]).length:Int)=(D.length:Int)+1:=by simp
     rw[Z,xK (by omega) (by omega)];omega
    simp only[uQ,yT G,cO,zU G,zA,jV (show D.length+ [text[k]].length<=4294967296 by simp;omega),zJ1 hl hcv,H,hi,zI (k:=k) (by omega)]
   rw[zM (body:=λ(x:Int×(List Int))=>uQ text l x.1 x.2) (x:=((k:Int),D)) hb,ih (k+1) _ (by omega) (by omega) (by rw[zWG];simp;omega),cY G]
   rfl
 unfold zG2;have h:=key text.length 0 [] (by omega) (by omega) rfl;rw[d7] at h;have K:zD (λ(x:Int×(List Int))=>uQ text l x.1 x.2) (0,[])=some (csE (clE l) text):=h;rw[K];rfl
end
theorem z8E {n:Norm} (D:NSm n) (k:wY n) {text:List Int} {b:Bool} (K:text.length<=2000) (H:(zGM n b text).length<=900):zFH n text b=some (zC8 n b text):=by
 have h:=zSZ D k;unfold zFH;rw[yIA D k,zA,yMK h b K,zA];have e:=yML h.cv (by have:=h.cl;omega) H
 have G:zG2 (usN n).aK (text.flatMap (fu (usN n).aA b))=some (zC8 n b text):=e;rw[G];rfl
section
variable {c:Collation} (hs:Sm c) (hg:∀g∈c.aE,g.bT.length<=MX) {n:Norm} (hl:(wG n).length<=2000)
include hs hg hl
theorem yR0:∀(k:Nat) (text:List Int) (b:Bool) (acc:List aP),text.length<=k->text.length<=2000->acc.length+2000*text.length<=100000000->
  zD (λ(x:(List Int)×Bool×(List aP))=>uR (usN n) (kB c) c x.1 x.2.1 x.2.2) (text,b,acc)=some (b&&(wk c (wG n) text).2,acc++(wk c (wG n) text).1):=by
 intro k
 induction k with
 | zero=>
  intro text b acc h _ _;have:text= []:=cP (by omega);subst this;refine zJ ?_;simp[uR,zOG]
 | succ k ih=>
  intro text b acc h ht ha;by_cases D:text= []
  ·subst D
   refine zJ ?_;simp[uR,zOG]
  ·have Z:0<text.length:=e6.2 D
   have ab:=zZQ (c:=c) (l:=wG n) D;have h2:=yHT hs (l:=wG n) text;have e0:decide ((0:Int)<(text.length:Int))=true:=by simp;omega
   have Y:=z8D hs (z5D n) hl ht D;rw[zWO] at Y;have H:app acc (stE c (wG n) text).2.2=some (acc++(stE c (wG n) text).2.2):=jV (by omega);have hb:uR (usN n) (kB c) c text b acc=some (.next ((stE c (wG n) text).2.1,(b&&decide (zAJ (kB c).aB text≠0)),acc++(stE c (wG n) text).2.2)):=by
    unfold uR;rw[e0,cO,Y,zA,<-zWO];by_cases O:zAJ (kB c).aB text=0
    ·have G:stE c (wG n) text=(1,text.drop 1,zUC (kB c) (nth text 0)):=by unfold stE;rw[dH O]
     rw[G] at H ⊢;obtain⟨y,ys,rfl⟩:=List.exists_cons_of_ne_nil D;have i0:yA ((y::ys).take 1) (0:Int)=some (nth (y::ys) 0):=rfl;simp only[] at H;simp only[O,dG,i0,zA,zOD hs hg,cN,H,zL];simp
    ·have G:stE c (wG n) text=(((mtE c (wG n) text).1.length:Int),(mtE c (wG n) text).2,(zD6 (kB c).aB (mtE c (wG n) text).1).1):=by unfold stE;rw[dN O];rfl
     have K:=(yHS (c:=c) (l:=wG n) D).1;rw[G] at H K ⊢;have T:0<(mtE c (wG n) text).1.length:=by simp only[] at K;omega
     have i0:yA (mtE c (wG n) text).1 (0:Int)=some (nth (mtE c (wG n) text).1 0):=zV (k:=0) T;simp only[] at H;simp only[O,cX,i0,zA,zOD hs hg,cO,yAR hs,H,zL];simp[O]
   rw[zM (body:=λ(x:(List Int)×Bool×(List aP))=>uR (usN n) (kB c) c x.1 x.2.1 x.2.2) (x:=(text,b,acc)) hb,ih _ _ _ (by omega) (by omega) (by rw[cW];omega),zUU D,c9,Bool.and_assoc]
end
theorem zWR {n:Norm} {c:Collation} (k:NSm n) (h:wY n) (G:Sm c) (D:∀g∈c.aE,g.bT.length<=MX) {text:List Int} (T:text.length<=2000) (K:(zGM n false text).length<=900):zJK n c text=some (wk c (wG n) (zC8 n false text)):=by
 have O:(wG n).length<=2000:=by have:=zSY k;omega
 have H:(zC8 n false text).length<=2000:=by rw[zLW];omega
 unfold zJK;rw[yIA k h,zA,zWE G D,zA,z8E k h T K,zA,yR0 G D O _ _ true [] (dB _) H (by simp;omega)]
 simp
open Go.AV
open Go.AV
open Go.AV
def ckO (o:Options):Int:=if o.aJ<1\/4<o.aJ then 1 else if o.aD<1\/3<o.aD then 8 else 0
def wE (o:Options):Options:=if ckO o=0 then o else {aJ:=3,aD:=1,aQ:=false,aT:=false}
theorem yPY (o:Options):zE2 o=some (ckO o):=by
 unfold zE2 ckO;rw[zL];by_cases h:o.aJ<1\/4<o.aJ;have:(decide (o.aJ<1) ||decide (4<o.aJ))=true:=by simpa using h
 rw[this,dH h];rfl;have:(decide (o.aJ<1) ||decide (4<o.aJ))=false:=by simpa using h
 rw[this,dN h,cN];by_cases k:o.aD=1;simp[k];by_cases D:o.aD=2;simp[D];by_cases G:o.aD=3;simp[G];rw[dH (by omega)];simp[k,D,G]
theorem yIB (o:Options):zH1 o=some (ckO o):=by
 unfold zH1 ckO;rw[zL,zL];by_cases h:o.aJ<1\/4<o.aJ;have:(decide (o.aJ<1) ||decide (4<o.aJ))=true:=by simpa using h
 rw[this,dH h];rfl;have:(decide (o.aJ<1) ||decide (4<o.aJ))=false:=by simpa using h
 rw[this,dN h,cN];by_cases k:o.aD<1\/3<o.aD;have:(decide (o.aD<1) ||decide (3<o.aD))=true:=by simpa using k
 rw[this,dH k];rfl;have:(decide (o.aD<1) ||decide (3<o.aD))=false:=by simpa using k
 rw[this,dN k];rfl
theorem yAT (o:Options):zAB o=some (wE o):=by unfold zAB wE;rw[yPY,zA];by_cases h:ckO o=0<;>simp[h]
theorem zZV (o:Options):zDW o=some (wE o):=by unfold zDW wE;rw[yIB,zA];by_cases h:ckO o=0<;>simp[h]
theorem zQF (o:Options):ckO (wE o)=0:=by unfold wE;split;assumption;rfl
theorem yNQ {o:Options} (h:ckO o=0):wE o=o:=by unfold wE;rw[dH h]
theorem yIC {o:Options} (h:ckO o=0):1<=o.aJ/\o.aJ<=4/\1<=o.aD/\o.aD<=3:=by unfold ckO at h;split at h;cases h;split at h;cases h;omega
def nz (x:Int):List Int:=if x=0 then [] else [x]
def col:Nat->bC->Int
 | 0,w=>w.x0
 | 1,w=>w.x1
 | 2,w=>w.x2
 | _,w=>w.x3
def row (k:Nat) (L:List bC):List Int:=L.flatMap λw=>nz (col k w)
def zMP (f:Bool) (e:aP):Bool:=if e.aD=true\/e.aS≠0 then e.aD else f
def zZW (e:aP):Prop:=e.aS=0/\e.aL=0/\e.aO=0
instance (e:aP):Decidable (zZW e):=by unfold zZW;infer_instance
def tr1 (v:Int) (f:Bool) (e:aP):bC:=
 if v=1 then {x0:=e.aS,x1:=e.aL,x2:=e.aO,x3:=if zZW e then 0 else 65535}
 else if zMP f e=true then {x0:=0,x1:=0,x2:=0,x3:=if v=3/\e.aD=true then e.aS else 0}
 else {x0:=e.aS,x1:=e.aL,x2:=e.aO,x3:=if v=3/\¬zZW e then 65535 else 0}
def trL (v:Int):Bool->List aP->List bC
 | _,[]=>[]
 | f,e::l=>tr1 v f e::trL v (zMP f e) l
theorem zRU (v:Int):∀(l:List aP) (f:Bool),(trL v f l).length=l.length
 | [],_=>rfl
 | e::l,f=>by simp[trL,zRU v l]
theorem yID {v:Int} (H:1<=v/\v<=3) (e:aP) (f:Bool):zAM e v f=some (tr1 v f e,if v=1 then f else zMP f e):=by obtain⟨p,s,t,G⟩:=e;unfold zAM tr1 zMP zZW;rcases (by omega:v=1\/v=2\/v=3) with rfl | rfl | rfl<;>cases G<;>cases f<;>by_cases h:p=0<;>by_cases k:s=0<;>by_cases D:t=0<;>simp[h,k,D]
theorem yR1 (f g:Bool) (e:aP):tr1 1 f e=tr1 1 g e:=rfl
theorem yNR:∀(l:List aP) (f g:Bool),trL 1 f l=trL 1 g l
 | [],_,_=>rfl
 | e::l,f,g=>by
  show tr1 1 f e::trL 1 _ l=tr1 1 g e::trL 1 _ l;rw[yR1 f g,yNR l (zMP f e) (zMP g e)]
theorem z8G (x:Int):(nz x).length<=1:=by unfold nz;split<;>simp
theorem zWS {r:List Int} {x:Int} (h:r.length+1<=4294967296):(cond (!decide (x=0)) ((app r [x]).bind λq=>some q) (some r))=some (r++nz x):=by unfold nz;by_cases k:x=0;simp[k];simp only[k,dF,dS,cO,cX];rw[jV (by simpa using h)];rfl
theorem wl1 (t:bC×Bool) {r0 h k D:List Int} {n:Nat} (T:n+1<=4294967296) (G:r0.length<=n) (H:h.length<=n) (K:k.length<=n) (O:D.length<=n):
  zD (λ(x:Int×(List Int)×(List Int)×(List Int)×(List Int))=>xD t x.1 x.2.1 x.2.2.1 x.2.2.2.1 x.2.2.2.2) (0,r0,h,k,D)=some (r0++nz t.1.x0,h++nz t.1.x1,k++nz t.1.x2,D++nz t.1.x3):=by
 have i0:yA [t.1.x0,t.1.x1,t.1.x2,t.1.x3] (0:Int)=some t.1.x0:=rfl;have i1:yA [t.1.x0,t.1.x1,t.1.x2,t.1.x3] (1:Int)=some t.1.x1:=rfl;have i2:yA [t.1.x0,t.1.x1,t.1.x2,t.1.x3] (2:Int)=some t.1.x2:=rfl;have i3:yA [t.1.x0,t.1.x1,t.1.x2,t.1.x3] (3:Int)=some t.1.x3:=rfl;rw[zM (x':=(1,r0++nz t.1.x0,h,k,D)) (by
  simp only[xD,i0,zA,zWS (x:=t.1.x0) (show r0.length+1<=4294967296 by omega)];rfl)]
 rw[zM (x':=(2,r0++nz t.1.x0,h++nz t.1.x1,k,D)) (by
  simp only[xD,i1,zA,zWS (x:=t.1.x1) (show h.length+1<=4294967296 by omega)];rfl)]
 rw[zM (x':=(3,r0++nz t.1.x0,h++nz t.1.x1,k++nz t.1.x2,D)) (by
  simp only[xD,i2,zA,zWS (x:=t.1.x2) (show k.length+1<=4294967296 by omega)];rfl)]
 rw[zM (x':=(4,r0++nz t.1.x0,h++nz t.1.x1,k++nz t.1.x2,D++nz t.1.x3)) (by
  simp only[xD,i3,zA,zWS (x:=t.1.x3) (show D.length+1<=4294967296 by omega)];rfl)]
 exact zJ (by simp only[xD];rfl)
theorem wl0 {l:List aP} {o:Options} (hv:1<=o.aD/\o.aD<=3) (hl:l.length<=4000000000):∀(m k:Nat) (f:Bool) (r0 D G H:List Int),k+m=l.length->r0.length<=k->D.length<=k->G.length<=k->H.length<=k->
  zD (λ(x:Int×Bool×(List Int)×(List Int)×(List Int)×(List Int))=>uI l o x.1 x.2.1 x.2.2.1 x.2.2.2.1 x.2.2.2.2.1 x.2.2.2.2.2) ((k:Int),f,r0,D,G,H)=
   some (r0++row 0 (trL o.aD f (l.drop k)),D++row 1 (trL o.aD f (l.drop k)),G++row 2 (trL o.aD f (l.drop k)),H++row 3 (trL o.aD f (l.drop k)))
 | 0,k,f,r0,D,G,H,h,_,_,_,_=>by
  rw[dD (by omega)];refine zJ ?_;simp only[uI,kJ (show l.length<=k by omega),cN,trL,row,gW,et]
 | m+1,k,f,r0,D,G,H,h,T,K,Y,Z=>by
  have O:k<l.length:=by omega
  have q:∀{r:List Int} (x:Int),r.length<=k->(r++nz x).length<=k+1:=λx hr=>by rw[cW];have:=z8G x;omega
  rw[zM (x':=(((k+1:Nat):Int),(if o.aD=1 then f else zMP f l[k]),r0++nz (tr1 o.aD f l[k]).x0,D++nz (tr1 o.aD f l[k]).x1,G++nz (tr1 o.aD f l[k]).x2,H++nz (tr1 o.aD f l[k]).x3)) (by
   simp only[uI,yT O,cO,zU O,zA,yID hv,wl1 _ (n:=k) (by omega) T K Y Z,zI (k:=k) (by omega)])]
  rw[wl0 hv hl m (k+1) _ _ _ _ _ (by omega) (q _ T) (q _ K) (q _ Y) (q _ Z),cY O];have e:trL o.aD (if o.aD=1 then f else zMP f l[k]) (l.drop (k+1))=trL o.aD (zMP f l[k]) (l.drop (k+1)):=by
   by_cases K:o.aD=1
   ·rw[K];exact yNR _ _ _
   ·rw[dN K]
  rw[e];simp[trL,row,col]
theorem yIE:∀(n:Nat) (a m b:List Int),m.length=n->a.length=b.length->a.length+m.length+b.length<=9000000000000000000->
  zD (λ(x:Int×Int×(List Int))=>xC x.1 x.2.1 x.2.2) ((a.length:Int),((a.length+m.length:Nat):Int)-1,a++m++b)=some (a++m.reverse++b):=by
 intro n
 induction n using Nat.strongRecOn with
 | ind n ih=>
  intro a m b hn aa hb;by_cases D:m.length<=1
  ·have e:decide ((a.length:Int)<((a.length+m.length:Nat):Int)-1)=false:=by simp;omega
   refine zJ ?_;have hr:m.reverse=m:=by
    match m,D with
    | [],_=>rfl
    | [x],_=>rfl
   simp only[xC,e,cN,hr]
  ·obtain⟨x,H,rfl⟩:=List.exists_cons_of_ne_nil (l:=m) (λe=>by rw[e] at D;simp at D)
   have G:H≠[]:=λe=>by rw[e] at D;simp at D
   obtain⟨h,y,rfl⟩:∃h y,H=h++ [y]:=⟨H.dropLast,H.getLast G,(List.dropLast_concat_getLast G).symm⟩;simp only[dR,cW,d6] at hn hb D;have e:decide ((a.length:Int)<((a.length+(x::(h++ [y])).length:Nat):Int)-1)=true:=by simp;omega
   have O:((a.length+(x::(h++ [y])).length:Nat):Int)-1=((a.length+1+h.length:Nat):Int):=by simp;omega
   have T:yA (a++(x::(h++ [y]))++b) (((a.length+1+h.length:Nat):Int))=some y:=by
    rw[zU (by simp;omega)];congr 1;rw[List.getElem_append_left (by simp;omega),gD (by omega)]
    simp only[show a.length+1+h.length-a.length=h.length+1 by omega,List.getElem_cons_succ];rw[gD (by omega)];simp
   have Y:yA (a++(x::(h++ [y]))++b) ((a.length:Nat):Int)=some x:=by
    rw[zU (by simp)];congr 1;rw[List.getElem_append_left (by simp),gD (by omega)];simp
   have s1:zA9 (a++(x::(h++ [y]))++b) ((a.length:Nat):Int) y=some (a++(y::(h++ [y]))++b):=by
    rw[zIA (by simp)];congr 1;simp
   have Z:yA (a++(y::(h++ [y]))++b) (((a.length+1+h.length:Nat):Int))=some y:=by
    rw[zU (by simp;omega)];congr 1;rw[List.getElem_append_left (by simp;omega),gD (by omega)]
    simp only[show a.length+1+h.length-a.length=h.length+1 by omega,List.getElem_cons_succ];rw[gD (by omega)];simp
   have s2:zA9 (a++(y::(h++ [y]))++b) (((a.length+1+h.length:Nat):Int)) x=some ((a++ [y])++h++(x::b)):=by
    rw[zIA (by simp;omega)];congr 1;have K:a++(y::(h++ [y]))++b=(a++y::h)++y::b:=by simp
    rw[K,show a.length+1+h.length=(a++y::h).length by simp;omega,List.set_append_right _ _ (dB _)]
    simp
   rw[zM (x':=(((a++ [y]).length:Int),(((a++ [y]).length+h.length:Nat):Int)-1,(a++ [y])++h++(x::b))) (by
    simp only[xC,e,cO];rw[O];simp only[T,Y,s1,Z,s2,zA];rw[zI (k:=a.length) (by omega),xK (by omega) (by omega)];simp only[cW,dR,d6])]
   rw[ih h.length (by omega) (a++ [y]) h (x::b) rfl (by simp;omega) (by simp;omega)]
   simp
theorem yPZ {l:List Int} (h:l.length<=4294967296):wJ l=some l.reverse:=by
 unfold wJ;have:=yIE l.length [] l [] rfl rfl (by simp;omega)
 simp only[dO,et,d6,eC] at this;rw[xK (by omega) (by omega)];rw[show ((0:Nat):Int)=0 from rfl] at this;rw[this];rfl
def yDL (b:Bool) (l:List Int):List Int:=if b=true then l.reverse else l
def rows (b:Bool) (L:List bC):List (List Int):=[row 0 L,yDL b (row 1 L),row 2 L,row 3 L]
def wts (l:List aP) (o:Options):List (List Int):=(rows o.aQ (trL o.aD false l)).take o.aJ.toNat
theorem zU1 (k:Nat):∀(L:List bC),(row k L).length<=L.length
 | []=>by simp[row]
 | w::L=>by
  have:=zU1 k L;have h:=z8G (col k w);simp only[row,d9,cW,dR] at this ⊢;omega
theorem zMQ {l:List aP} (H:l.length<=4000000000) (o:Options):vV l o=some (wts l (wE o)):=by
 have hb:=yIC (zQF o);unfold vV wts;have G:({aJ:=o.aJ,aD:=o.aD,aQ:=o.aQ,aT:=o.aT}:Options)=o:=rfl;rw[G,yAT,zA];generalize wE o=q at*;have k:=wl0 (l:=l) (o:=q) hb.2.2 H l.length 0 false [] [] [] [] (by omega) (by simp) (by simp) (by simp) (by simp);simp only[d7,dO] at k;rw[show ((0:Nat):Int)=0 from rfl] at k;unfold zD0;rw[zA,k,zA];have K:(cond q.aQ ((wJ (row 1 (trL q.aD false l))).bind λD=>some D) (some (row 1 (trL q.aD false l))))=some (yDL q.aQ (row 1 (trL q.aD false l))):=by
  cases q.aQ with
  | false=>rfl
  | true=>
   have:=zU1 1 (trL q.aD false l);rw[zRU] at this;rw[cO,yPZ (by omega)];rfl
 simp only[K,zA];have O:q.aJ=((q.aJ.toNat:Nat):Int):=by omega
 have h:slc [row 0 (trL q.aD false l),yDL q.aQ (row 1 (trL q.aD false l)),row 2 (trL q.aD false l),row 3 (trL q.aD false l)] 0 q.aJ=some ((rows q.aQ (trL q.aD false l)).take q.aJ.toNat):=by
  rw[O,zFB (by simp;omega)];rfl
 rw[h,zA,jV (by simp[rows];omega)]
 rfl
open Go.AV
theorem yIF {l:List aP} {v:Int} (Y:1<=v/\v<=3) (H:l.length<=4000000000):∀(m k:Nat) (f:Bool) (acc:List bC),k+m=l.length->acc.length<=k->
  zD (λ(x:Bool×Int×(List bC))=>zA6 l v x.1 x.2.1 x.2.2) (f,(k:Int),acc)=some (acc++trL v f (l.drop k))
 | 0,k,f,acc,h,_=>by
  rw[dD (by omega)];refine zJ ?_;simp only[zA6,kJ (show l.length<=k by omega),cN,trL,et]
 | m+1,k,f,acc,h,ha=>by
  have D:k<l.length:=by omega
  rw[zM (x':=(zMP f l[k],((k+1:Nat):Int),acc++ [tr1 v f l[k]])) (by
   simp only[zA6,yT D,cO,zU D,zA,zL,zI (k:=k) (by omega)];generalize l[k]=e;have G:∀w:bC,app acc [w]=some (acc++ [w]):=λw=>jV (by simp;omega)
   obtain⟨p,s,t,Z⟩:=e;unfold tr1 zMP zZW;rcases (by omega:v=1\/v=2\/v=3) with rfl | rfl | rfl<;>cases Z<;>cases f<;>by_cases K:p=0<;>by_cases O:s=0<;>by_cases T:t=0<;>simp[K,O,T,G])]
  rw[yIF Y H m (k+1) _ _ (by omega) (by simp;omega),cY D]
  simp[trL]
theorem z8H {l:List aP} {v:Int} (k:1<=v/\v<=3) (h:l.length<=4000000000):zE5 l v=some (trL v false l):=by unfold zE5;have:=yIF k h l.length 0 false [] (by omega) (by simp);rw[show ((0:Nat):Int)=0 from rfl] at this;rw[this];simp
theorem yUH (w:bC) {k:Nat} (h:k<4):yA [w.x0,w.x1,w.x2,w.x3] (k:Int)=some (col k w):=by
 match k,h with
 | 0,_=>rfl
 | 1,_=>rfl
 | 2,_=>rfl
 | 3,_=>rfl
def zMR (b:Bool) (k:Nat) (L:List bC):List bC:=if k=1/\b=true then L.reverse else L
theorem z5N (b:Bool) (k:Nat) (L:List bC):(zMR b k L).length=L.length:=by unfold zMR;split;exact gP;rfl
theorem rw1 {L:List bC} {o:Options} {q:Nat} (T:q<4) (hl:L.length<=4000000000):∀(m k:Nat) (acc:List Int),k+m=L.length->acc.length<=k->
  zD (λ(x:Int×(List Int))=>vD L (q:Int) o x.1 x.2) ((k:Int),acc)=some (acc++row q ((zMR o.aQ q L).drop k))
 | 0,k,acc,h,_=>by
  rw[dD (by rw[z5N];omega)]
  refine zJ ?_;simp only[vD,kJ (show L.length<=k by omega),cN,row,gW,et]
 | m+1,k,acc,h,ha=>by
  have G:k<L.length:=by omega
  have H:k<(zMR o.aQ q L).length:=by rw[z5N];exact G
  have hi:∃j:Nat,j<L.length/\cond (decide ((q:Int)=1)&&o.aQ) (some (wi ((wi ((L.length:Int)-1))-(k:Int)))) (some (k:Int))=some (j:Int)/\L[j]? =some (zMR o.aQ q L)[k]:=by
   unfold zMR;by_cases D:q=1/\o.aQ=true
   ·have e:(decide ((q:Int)=1)&&o.aQ)=true:=by simp[D.1,D.2]
    refine⟨L.length-1-k,by omega,?_,?_⟩
    ·rw[e,cO,xK (n:=(L.length:Int)-1) (by omega) (by omega),xK (by omega) (by omega)]
     congr 1;omega
    ·simp only[D,iq,dG]
     rw[List.getElem_reverse,cS (by omega)]
   ·have e:(decide ((q:Int)=1)&&o.aQ)=false:=by
     cases hb:o.aQ with
     | false=>simp
     | true=>
      have:q≠1:=λe=>D ⟨e,hb⟩;simp;omega
    refine⟨k,G,by rw[e,cN],?_⟩;simp only[D,cX];rw[cS G]
  obtain⟨j,O,Y,K⟩:=hi;rw[cS O] at K;have Z:yA L (j:Int)=some (zMR o.aQ q L)[k]:=by rw[zU O];exact K
  rw[zM (x':=(((k+1:Nat):Int),acc++nz (col q (zMR o.aQ q L)[k]))) (by
   simp only[vD,yT G,cO,zL,Y,zA,Z,yUH _ T,zWS (x:=col q (zMR o.aQ q L)[k]) (show acc.length+1<=4294967296 by omega),zI (k:=k) (by omega)])]
  rw[rw1 T hl m (k+1) _ (by omega) (by rw[cW];have:=z8G (col q (zMR o.aQ q L)[k]);omega),cY H]
  simp only[row,d9,c9]
theorem yP0 (x:Int):(nz x).reverse=nz x:=by unfold nz;split<;>rfl
theorem yAV (k:Nat):∀(L:List bC),row k L.reverse=(row k L).reverse
 | []=>rfl
 | w::L=>by
  have:=yAV k L;simp only[row] at this ⊢;simp[this,yP0]
theorem yIG (b:Bool) (L:List bC) {q:Nat} (h:q<4):(rows b L)[q]? =some (row q (zMR b q L)):=by
 match q,h with
 | 0,_=>simp[rows,zMR]
 | 1,_=>cases b<;>simp[rows,zMR,yDL,yAV]
 | 2,_=>simp[rows,zMR]
 | 3,_=>simp[rows,zMR]
theorem rw0 {L:List bC} {o:Options} (Y:1<=o.aJ/\o.aJ<=4) (K:L.length<=4000000000):∀(m k:Nat) (acc:List (List Int)),k+m=o.aJ.toNat->acc.length=k->
  zD (λ(x:Int×(List (List Int)))=>vE o L x.1 x.2) ((k:Int),acc)=some (acc++((rows o.aQ L).take o.aJ.toNat).drop k)
 | 0,k,acc,h,_=>by
  rw[dD (by simp[rows];omega)]
  have e:decide ((k:Int)<o.aJ)=false:=by simp;omega
  refine zJ ?_;simp only[vE,e,cN,et]
 | m+1,k,acc,h,Z=>by
  have e:decide ((k:Int)<o.aJ)=true:=by simp;omega
  have D:k<4:=by omega
  have O:=rw1 (o:=o) D K L.length 0 [] (by omega) (by simp);rw[show ((0:Nat):Int)=0 from rfl,d7,dO] at O;rw[zM (x':=(((k+1:Nat):Int),acc++ [row k (zMR o.aQ k L)])) (by
   simp only[vE,e,cO,O,zA,jV (show acc.length+ [row k (zMR o.aQ k L)].length<=4294967296 by simp;omega),zI (k:=k) (by omega)])]
  rw[rw0 Y K m (k+1) _ (by omega) (by simp;omega)]
  have G:k<((rows o.aQ L).take o.aJ.toNat).length:=by simp[rows];omega
  rw[cY G,c9];have T:=yIG o.aQ L D;have:((rows o.aQ L).take o.aJ.toNat)[k]=row k (zMR o.aQ k L):=by
   have H:((rows o.aQ L).take o.aJ.toNat)[k]? =some (row k (zMR o.aQ k L)):=by rw[d5,dH (by omega)];exact T
   rw[cS G] at H;exact g8 H
  rw[this];rfl
theorem zPQ {l:List aP} (h:l.length<=4000000000) (o:Options):zAV l o=some (wts l (wE o)):=by
 have hb:=yIC (zQF o);unfold zAV wts;have k:({aJ:=o.aJ,aD:=o.aD,aQ:=o.aQ,aT:=o.aT}:Options)=o:=rfl;rw[k,zZV,zA];generalize wE o=q at*;rw[z8H hb.2.2 h,zA];have:=rw0 (o:=q) ⟨hb.1,hb.2.1⟩ (L:=trL q.aD false l) (by rw[zRU];exact h) q.aJ.toNat 0 [] (by omega) rfl
 rw[show ((0:Nat):Int)=0 from rfl] at this;rw[this];simp
theorem zWT {l:List aP} {o:Options} {x:List Int} (h:x∈wts l o):x.length<=l.length:=by
 unfold wts at h;have h:=eE h;have key:∀k,(row k (trL o.aD false l)).length<=l.length:=λk=>by have:=zU1 k (trL o.aD false l);rwa [zRU] at this
 simp only[rows,dM,List.not_mem_nil,or_false] at h;rcases h with rfl | rfl | rfl | rfl
 exact key 0;unfold yDL;split;rw[gP];exact key 1;exact key 1;exact key 2;exact key 3
theorem z13 {l:List aP} {o:Options} (h:ckO o=0):(wts l o).length=o.aJ.toNat:=by have:=yIC h;unfold wts;simp[rows];omega
open Go.AV
def jn:Nat->List Int->List (List Int)->List Int
 | _,acc,[]=>acc
 | k,acc,x::xs=>jn (k+1) ((if 0<k then acc++ [0] else acc)++x) xs
theorem z14 {N:Nat}:∀(l:List (List Int)) (k:Nat) (acc:List Int),(∀x∈l,x.length<=N)->(jn k acc l).length<=acc.length+l.length*(N+1)
 | [],_,acc,_=>by simp[jn]
 | x::xs,k,acc,h=>by
  have G:=h x (by simp);have H:=z14 xs (k+1) ((if 0<k then acc++ [0] else acc)++x) (λy D=>h y (by simp[D]));have K:((if 0<k then acc++ [0] else acc)++x).length<=acc.length+1+N:=by
   split<;>simp<;>omega
  simp only[jn,dR,eH];omega
theorem yR2 {acc:List Int} {k:Nat} (h:acc.length+1<=4294967296):(cond (decide ((0:Int)<(k:Int))) ((app acc [0]).bind λq=>some q) (some acc))=some (if 0<k then acc++ [0] else acc):=by
 by_cases D:0<k;have e:decide ((0:Int)<(k:Int))=true:=by simp;omega
 rw[e,cO,jV (by simpa using h),dH D];rfl;have e:decide ((0:Int)<(k:Int))=false:=by simp;omega
 rw[e,cN,dN D]
section
variable {l:List (List Int)} {N:Nat} (hN:∀x∈l,x.length<=N) (hl:l.length<=1000000)
include hN hl
theorem yR3:∀(m k:Nat) (acc:List Int),k+m=l.length->acc.length+m*(N+1)<=4294967296->zD (λ(x:Int×(List Int))=>zCT l x.1 x.2) ((k:Int),acc)=some (jn k acc (l.drop k))
 | 0,k,acc,h,_=>by
  rw[dD (by omega)];refine zJ ?_;simp only[zCT,kJ (show l.length<=k by omega),cN,jn]
 | m+1,k,acc,h,G=>by
  have D:k<l.length:=by omega
  have K:=hN _ (eG D);rw[eH] at G;have H:(if 0<k then acc++ [0] else acc).length<=acc.length+1:=by split<;>simp
  rw[zM (x':=(((k+1:Nat):Int),(if 0<k then acc++ [0] else acc)++l[k])) (by
   simp only[zCT,yT D,cO,zU D,zA,yR2 (k:=k) (show acc.length+1<=4294967296 by omega),jV (show (if 0<k then acc++ [0] else acc).length+l[k].length<=4294967296 by omega),zI (k:=k) (by omega)])]
  rw[yR3 m (k+1) _ (by omega) (by rw[cW];omega),cY D]
  rfl
theorem yNS:∀(m k:Nat) (acc:List Int),k+m=l.length->acc.length+m*(N+1)<=4294967296->zD (λ(x:Int×(List Int))=>zDX l x.1 x.2) ((k:Int),acc)=some (jn k acc (l.drop k))
 | 0,k,acc,h,_=>by
  rw[dD (by omega)];refine zJ ?_;simp only[zDX,kJ (show l.length<=k by omega),cN,jn]
 | m+1,k,acc,h,G=>by
  have D:k<l.length:=by omega
  have K:=hN _ (eG D);rw[eH] at G;have H:(if 0<k then acc++ [0] else acc).length<=acc.length+1:=by split<;>simp
  rw[zM (x':=(((k+1:Nat):Int),(if 0<k then acc++ [0] else acc)++l[k])) (by
   simp only[zDX,yT D,cO,zU D,zA,yR2 (k:=k) (show acc.length+1<=4294967296 by omega),jV (show (if 0<k then acc++ [0] else acc).length+l[k].length<=4294967296 by omega),zI (k:=k) (by omega)])]
  rw[yNS m (k+1) _ (by omega) (by rw[cW];omega),cY D]
  rfl
end
def idn (t:List Int):List Int:=t.flatMap λc=>if 0<=c/\c<=1114111 then [c+1] else []
theorem yII (c:Int) {acc:List Int} (h:acc.length+1<=4294967296):(cond (decide (0<=c)&&decide (c<=1114111)) ((app acc [wi (c+1)]).bind λq=>some q) (some acc))=some (acc++if 0<=c/\c<=1114111 then [c+1] else []):=by
 by_cases k:0<=c/\c<=1114111
 ·have e:(decide (0<=c)&&decide (c<=1114111))=true:=by simpa using k
  rw[e,cO,jV (by simpa using h),dH k,xK (by omega) (by omega)];rfl
 ·have e:(decide (0<=c)&&decide (c<=1114111))=false:=by
   cases h:(decide (0<=c)&&decide (c<=1114111)) with
   | false=>rfl
   | true=>exact absurd (by simpa using h) k
  rw[e,cN,dN k,et]
theorem yAW (c:Int):(if 0<=c/\c<=1114111 then [c+1] else ([]:List Int)).length<=1:=by split<;>simp
theorem yR4 {t:List Int} (G:t.length<=1000000):∀(m k:Nat) (acc:List Int),k+m=t.length->acc.length+m<=4294967296->zD (λ(x:Int×(List Int))=>zCU t x.1 x.2) ((k:Int),acc)=some (acc++idn (t.drop k))
 | 0,k,acc,h,_=>by
  rw[dD (by omega)];refine zJ ?_;simp only[zCU,kJ (show t.length<=k by omega),cN,idn,gW,et]
 | m+1,k,acc,h,K=>by
  have D:k<t.length:=by omega
  have H:=yAW t[k];rw[zM (x':=(((k+1:Nat):Int),acc++if 0<=t[k]/\t[k]<=1114111 then [t[k]+1] else [])) (by
   simp only[zCU,yT D,cO,zU D,zA,zL,yII t[k] (show acc.length+1<=4294967296 by omega),zI (k:=k) (by omega)])]
  rw[yR4 G m (k+1) _ (by omega) (by rw[cW];omega),cY D]
  simp only[idn,d9,c9]
def zYC (o:Options) (h:List aP) (t:List Int):List Int:=jn 0 [] (wts h o)++if o.aT=true then [0]++idn t else []
theorem zU2 (l:List aP) (o:Options):(wts l o).length<=4:=by unfold wts;simp[rows];omega
theorem yAX (o:Options):wE (wE o)=wE o:=yNQ (zQF o)
section
variable {n:Norm} {c:Collation} (hn:NSm n) (hok:wY n) (hs:Sm c) (hg:∀g∈c.aE,g.bT.length<=MX) {text:List Int} (ht:text.length<=2000) (hf:(zGM n false text).length<=2000)
include hn hok hs hg ht hf
theorem yP1 (o:Options):zHR n c o text=some (zYC (wE o) (wk c (wG n) (zC8 n false text)).1 (zC8 n false text)):=by
 unfold zHR zYC;have O:(zC8 n false text).length<=2000:=by rw[zLW];exact hf
 have G:=yHU (n:=n) hs (text:=text) O;rw[show ({aJ:=o.aJ,aD:=o.aD,aQ:=o.aQ,aT:=o.aT}:Options)=o from rfl,yAT,zA,zTN hn hok hs hg ht hf,zA,show ({aJ:=(wE o).aJ,aD:=(wE o).aD,aQ:=(wE o).aQ,aT:=(wE o).aT}:Options)=wE o from rfl,zMQ (by omega),yAX,zA];generalize (wk c (wG n) (zC8 n false text)).1=h at*;have Y:=zU2 h (wE o);have K:∀x∈wts h (wE o),x.length<=1000000000:=λx T=>d8 (zWT T) G;have k:=yR3 K (by omega) (wts h (wE o)).length 0 [] (by omega) (by simp;omega)
 rw[show ((0:Nat):Int)=0 from rfl,d7] at k;have H:=z14 (wts h (wE o)) 0 [] K;simp only[d6] at H;rw[k,zA];cases hi:(wE o).aT with
 | false=>simp
 | true=>
  have Z:(jn 0 [] (wts h (wE o))).length<=4000000004:=by omega
  rw[dE,cN,jV (by simp;omega),zA,z5H hn hok ht hf,zA]
  have D:=yR4 (t:=zC8 n false text) (by omega) (zC8 n false text).length 0 (jn 0 [] (wts h (wE o))++ [0]) (by omega) (by simp;omega)
  rw[show ((0:Nat):Int)=0 from rfl,d7] at D;rw[D,zA,dH rfl,c9]
theorem yDM (o:Options) (s:Int):zBF n c o text s=some (zYC (wE {aJ:=s,aD:=o.aD,aQ:=o.aQ,aT:=false}) (wk c (wG n) (zC8 n false text)).1 (zC8 n false text)):=by unfold zBF;rw[yP1 hn hok hs hg ht hf,zA]
end
def nZ:Norm:={aK:=[],aA:=[],aN:={Ranges:=[]}}
theorem z5O:NSm nZ:=⟨by decide,by decide,λm h=>(by cases h),λm h=>(by cases h),by decide⟩
theorem zTO:wY nZ:=by unfold wY cD z32 nZ;simp
theorem yIJ:usN nZ=nZ:=by unfold usN;split<;>rfl
theorem yR5:wG nZ= []:=by rw[zWO,yIJ];rfl
open Go.AV
theorem yR6 {x y:Int} (h:y∈nz x):y≠0:=by unfold nz at h;split at h;cases h;rw[gy] at h;subst h;assumption
theorem zWU {k:Nat} {L:List bC} {y:Int} (h:y∈row k L):y≠0:=by obtain⟨w,_,D⟩:=iA.1 h;exact yR6 D
theorem z8I {l:List aP} {o:Options} {x:List Int} (k:x∈wts l o) {y:Int} (h:y∈x):y≠0:=by
 unfold wts at k;have k:=eE k;simp only[rows,dM,List.not_mem_nil,or_false] at k;rcases k with rfl | rfl | rfl | rfl
 exact zWU h;unfold yDL at h;split at h;exact zWU (List.mem_reverse.1 h);exact zWU h;exact zWU h;exact zWU h
open Go.AV
open Go.AV
theorem rk1 {t:List Int} (G:t.length<=1000000):∀(m k:Nat) (acc:List Int),k+m=t.length->acc.length+m<=4294967296->zD (λ(x:Int×(List Int))=>zEM t x.1 x.2) ((k:Int),acc)=some (acc++idn (t.drop k))
 | 0,k,acc,h,_=>by
  rw[dD (by omega)];refine zJ ?_;simp only[zEM,kJ (show t.length<=k by omega),cN,idn,gW,et]
 | m+1,k,acc,h,K=>by
  have D:k<t.length:=by omega
  have H:=yAW t[k];rw[zM (x':=(((k+1:Nat):Int),acc++if 0<=t[k]/\t[k]<=1114111 then [t[k]+1] else [])) (by
   simp only[zEM,vB,yT D,cO,zU D,zA,zL,yII t[k] (show acc.length+1<=4294967296 by omega),zI (k:=k) (by omega)])]
  rw[rk1 G m (k+1) _ (by omega) (by rw[cW];omega),cY D]
  simp only[idn,d9,c9]
section
variable {n:Norm} {c:Collation} (hn:NSm n) (hok:wY n) (hs:Sm c) (hg:∀g∈c.aE,g.bT.length<=MX) {text:List Int} (ht:text.length<=2000) (hf:(zGM n false text).length<=900)
include hn hok hs hg ht hf
theorem yDN (o:Options):zLH n c o text=some (zYC (wE o) (wk c (wG n) (zC8 n false text)).1 (zC8 n false text)):=by
 unfold zLH zYC;have T:(zC8 n false text).length<=2000:=by rw[zLW];omega
 have G:=yHU (n:=n) hs (text:=text) T;have O:xJ n c text=some (wk c (wG n) (zC8 n false text)).1:=by
  unfold xJ;rw[zWR hn hok hs hg ht hf,zA]
 rw[show ({aJ:=o.aJ,aD:=o.aD,aQ:=o.aQ,aT:=o.aT}:Options)=o from rfl,zZV,zA,O,zA,show ({aJ:=(wE o).aJ,aD:=(wE o).aD,aQ:=(wE o).aQ,aT:=(wE o).aT}:Options)=wE o from rfl,zPQ (by omega),yAX,zA];generalize (wk c (wG n) (zC8 n false text)).1=h at*;have Z:=zU2 h (wE o);have K:∀x∈wts h (wE o),x.length<=1000000000:=λx Y=>d8 (zWT Y) G;have k:=yNS K (by omega) (wts h (wE o)).length 0 [] (by omega) (by simp;omega)
 rw[show ((0:Nat):Int)=0 from rfl,d7] at k;have H:=z14 (wts h (wE o)) 0 [] K;simp only[d6] at H;unfold zMD;rw[k,zA,zA];cases hi:(wE o).aT with
 | false=>simp
 | true=>
  have h5:(jn 0 [] (wts h (wE o))).length<=4000000004:=by omega
  rw[dE,cN,jV (by simp;omega),zA,z8E hn hok ht hf,zA]
  have D:=rk1 (t:=zC8 n false text) (by omega) (zC8 n false text).length 0 (jn 0 [] (wts h (wE o))++ [0]) (by omega) (by simp;omega)
  rw[show ((0:Nat):Int)=0 from rfl,d7] at D;rw[D,zA,dH rfl,c9]
end
open Go.AV
def tj (xs:List (List Int)):List Int:=xs.flatMap λy=>0::y
theorem yR7:∀(xs:List (List Int)) (k:Nat) (acc:List Int),0<k->jn k acc xs=acc++tj xs
 | [],_,acc,_=>by simp[jn,tj]
 | x::xs,k,acc,h=>by
  simp only[jn,h,dG];rw[yR7 xs (k+1) _ (by omega)];simp[tj]
theorem yP2 (x:List Int) (xs:List (List Int)):jn 0 [] (x::xs)=x++tj xs:=by simp only[jn,Nat.lt_irrefl,cX,dO];exact yR7 xs 1 x (by omega)
def zz0 (s:List Int):Prop:=s= []\/∃t,s=0::t
theorem z8J:∀{x y u v:List Int},(∀a∈x,a≠0)->(∀a∈y,a≠0)->zz0 u->zz0 v->x++u=y++v->x=y/\u=v
 | [],[],u,v,_,_,_,_,h=>⟨rfl,h⟩
 | [],b::y,u,v,_,K,D,_,h=>by
  rcases D with rfl | ⟨t,rfl⟩;simp at h;simp only[dO,fH,iG] at h;exact absurd h.1.symm (K b (by simp))
 | a::x,[],u,v,H,_,_,G,h=>by
  rcases G with rfl | ⟨t,rfl⟩;simp at h;simp only[dO,fH,iG] at h;exact absurd h.1 (H a (by simp))
 | a::x,b::y,u,v,H,K,D,G,h=>by
  simp only[fH,iG] at h;obtain⟨O,T⟩:=z8J (λq k=>H q (by simp[k])) (λq k=>K q (by simp[k])) D G h.2;exact⟨by rw[h.1,O],T⟩
theorem z15 {xs:List (List Int)} {s:List Int} (h:zz0 s):zz0 (tj xs++s):=by
 cases xs with
 | nil=>exact h
 | cons x xs=>exact .inr ⟨x++tj xs++s,by simp[tj]⟩
theorem yIK:∀{A B:List (List Int)} {s t:List Int},A.length=B.length->(∀x∈A,∀a∈x,a≠0)->(∀x∈B,∀a∈x,a≠0)->zz0 s->zz0 t->tj A++s=tj B++t->A=B/\s=t
 | [],[],s,t,_,_,_,_,_,h=>⟨rfl,h⟩
 | [],b::B,_,_,k,_,_,_,_,_=>by simp at k
 | a::A,[],_,_,k,_,_,_,_,_=>by simp at k
 | a::A,b::B,s,t,k,G,H,K,O,h=>by
  have e:∀(c:List Int) (C:List (List Int)) (u:List Int),tj (c::C)++u=0::(c++(tj C++u)):=λc C u=>by simp[tj]
  rw[e,e,iG] at h;obtain⟨T,Y⟩:=z8J (G a (by simp)) (H b (by simp)) (z15 K) (z15 O) h.2;obtain⟨Z,h4⟩:=yIK (by simpa using k) (λx D=>G x (by simp[D])) (λx D=>H x (by simp[D])) K O Y;exact⟨by rw[T,Z],h4⟩
theorem yP3 {A B:List (List Int)} {s t:List Int} (k:A.length=B.length) (G:∀x∈A,∀a∈x,a≠0) (H:∀x∈B,∀a∈x,a≠0) (K:zz0 s) (O:zz0 t) (h:jn 0 [] A++s=jn 0 [] B++t):A=B/\s=t:=by
 cases A with
 | nil=>cases B with
  | nil=>exact⟨rfl,h⟩
  | cons b B=>simp at k
 | cons a A=>cases B with
  | nil=>simp at k
  | cons b B=>
   rw[yP2,yP2,c9,c9] at h;obtain⟨T,Y⟩:=z8J (G a (by simp)) (H b (by simp)) (z15 K) (z15 O) h;obtain⟨Z,h4⟩:=yIK (by simpa using k) (λx D=>G x (by simp[D])) (λx D=>H x (by simp[D])) K O Y;exact⟨by rw[T,Z],h4⟩
theorem yIL {o:Options} (H:ckO o=0) {A B:List aP} {s t:List Int} (h:zYC o A s=zYC o B t):wts A o=wts B o/\(o.aT=true->idn s=idn t):=by
 unfold zYC at h;have T:(wts A o).length=(wts B o).length:=by rw[z13 H,z13 H]
 have K:∀u:List Int,zz0 (if o.aT=true then [0]++idn u else []):=λu=>by
  split;exact .inr ⟨idn u,rfl⟩;exact .inl rfl
 obtain⟨O,G⟩:=yP3 T (λx D a k=>z8I D k) (λx D a k=>z8I D k) (K s) (K t) h;refine⟨O,λhi=>?_⟩;rw[dH hi,dH hi] at G;exact(List.cons.inj G).2
open Go.AV
noncomputable def eLm (n:Norm) (c:Collation) (t:List Int):List aP:=(wk c (wG n) (zC8 n false t)).1
def TOk (n:Norm) (t:List Int):Prop:=t.length<=2000/\(zGM n false t).length<=900
section
variable {n:Norm} {c:Collation} (hn:NSm n) (hok:wY n) (hs:Sm c) (hg:∀g∈c.aE,g.bT.length<=MX)
include hn hok hs hg
theorem z16 {t:List Int} (h:TOk n t):kD n c t=some (eLm n c t):=zTN hn hok hs hg h.1 (by have:=h.2;omega)
theorem yIM {t:List Int} (h:TOk n t):xJ n c t=some (eLm n c t):=by unfold xJ;rw[zWR hn hok hs hg h.1 h.2,zA];rfl
end
noncomputable def stE0 (n:Norm) (c:Collation) (o:Options) (a b:List Int):Bool:=decide ((row0 b).length<=(row0 a).length/\(row0 a).take (row0 b).length=row0 b) where
 row0 (t:List Int):List Int:=(wts (eLm n c t) (wE o)).headD []
section
variable {n:Norm} {c:Collation} (hn:NSm n) (hok:wY n) (hs:Sm c) (hg:∀g∈c.aE,g.bT.length<=MX)
include hn hok hs hg
omit hn hok hs hg in
theorem w0 (o:Options) (t:List Int):yA (wts (eLm n c t) (wE o)) (0:Int)=some (stE0.row0 n c o t)/\(stE0.row0 n c o t).length<=(eLm n c t).length:=by
 unfold stE0.row0;have h:=z13 (l:=eLm n c t) (zQF o);have hb:=yIC (zQF o);cases k:wts (eLm n c t) (wE o) with
 | nil=>rw[k] at h;simp at h;omega
 | cons x xs=>
  refine⟨rfl,?_⟩;have:x∈wts (eLm n c t) (wE o):=by rw[k];simp
  exact zWT this
end
open Go.AV
theorem zZY:∀{a b:List Int},a.Pairwise (· < ·)->b.Pairwise (· < ·)->(∀x,x∈a↔x∈b)->a=b
 | [],[],_,_,_=>rfl
 | [],y::b,_,_,h=>absurd ((h y).2 (by simp)) (by simp)
 | x::a,[],_,_,h=>absurd ((h x).1 (by simp)) (by simp)
 | x::a,y::b,D,hb,h=>by
  rw[fA] at D hb;have G:x=y:=by
   have h1:=(h x).1 (by simp);have h2:=(h y).2 (by simp);rcases dM.1 h1 with e | h1
   exact e;rcases dM.1 h2 with e | h2
   exact e.symm;have:=hb.1 x h1;have:=D.1 y h2;omega
  subst G;congr 1;refine zZY D.2 hb.2 λz=>?_;constructor;intro k;have:=(h z).1 (by simp[k]);rcases dM.1 this with e | h1
  have:=D.1 z k;omega;exact h1;intro k;have:=(h z).2 (by simp[k]);rcases dM.1 this with e | h1
  have:=hb.1 z k;omega;exact h1
section
open Go.Lib
theorem z17 (l:List Int) {j:Nat} (D:j<l.length):keeps l.toArray j=(decide (j=0) ||decide (l[j]≠l[j-1]'(by omega))):=by
 unfold keeps;have h:l.toArray[j]! =l[j]:=by simp[getElem!_pos,D]
 have k:l.toArray[j-1]! =l[j-1]'(by omega):=by
  have:j-1<l.length:=by omega
  simp[getElem!_pos,this]
 rw[h,k];rw[Bool.decide_or]
theorem z5P {l:List Int} {x:Int}:x∈compact l↔x∈l:=by
 unfold compact compactUpTo;simp only[eM,fb,fP];constructor
 rintro⟨j,⟨H,_⟩,rfl⟩
 have:l.toArray[j]! =l[j]:=by simp[getElem!_pos,H]
 rw[this];exact eG H;intro K;have key:∀(n:Nat) (h:n<l.length),∃j,j<=n/\∃H:j<l.length,l[j]=l[n]/\keeps l.toArray j=true:=by
  intro n
  induction n with
  | zero=>intro h;exact⟨0,dB _,h,rfl,by rw[z17 l h];simp⟩
  | succ n O=>
   intro h;by_cases e:l[n+1]=l[n];obtain⟨j,T,k,D,G⟩:=O (by omega);exact⟨j,by omega,k,D.trans e.symm,G⟩;refine⟨n+1,dB _,h,rfl,?_⟩;rw[z17 l h];simp[e]
 obtain⟨n,h,rfl⟩:=List.mem_iff_getElem.1 K;obtain⟨j,_,k,D,G⟩:=key n h;refine⟨j,⟨k,G⟩,?_⟩;have:l.toArray[j]! =l[j]:=by simp[getElem!_pos,k]
 rw[this,D]
theorem z8K {l:List Int} (h:l.Pairwise (·<=·)):(compact l).Pairwise (· < ·):=by
 unfold compact compactUpTo;rw[List.pairwise_map];refine List.Pairwise.imp_of_mem (R:=λa b=>a<b) ?_ (List.Pairwise.filter _ List.pairwise_lt_range);intro i j hi k O;simp only[fb,fP] at hi k;have H:l.toArray[i]! =l[i]'hi.1:=by simp[getElem!_pos,hi.1]
 have K:l.toArray[j]! =l[j]'k.1:=by simp[getElem!_pos,k.1]
 rw[H,K];have D:=k.2;rw[z17 l k.1] at D;simp only[fR,cZ] at D;have G:=hY.1 h;have T:l[j-1]'(by omega)<=l[j]'k.1:=G (j-1) j (by omega) k.1 (by omega);have Y:l[i]'hi.1<=l[j-1]'(by omega):=by
  by_cases e:i=j-1;subst e;exact fV _;exact G i (j-1) hi.1 (by omega) (by omega)
 rcases D with D | D;omega;omega
end
def zOH (cuts:List Int) (n:Nat):List Int:=((List.range (n+1)).map λ(k:Nat)=>(k:Int)).filter λx=>decide (x∈cuts)
theorem yP4 {cuts:List Int} {n:Nat}:Go.Lib.compact ((cuts.filter λc=>decide (0<=c)&&decide (c<=(n:Int))).mergeSort λx y=>decide (x<=y))=zOH cuts n:=by
 refine zZY (z8K ?_) ?_ λx=>?_;have:=List.pairwise_mergeSort (le:=λx y:Int=>decide (x<=y)) (λa b c D G=>by simp at D G ⊢;omega) (λa b=>by simp;omega) (cuts.filter λc=>decide (0<=c)&&decide (c<=(n:Int)))
 exact this.imp λh=>by simpa using h
 unfold zOH;refine List.Pairwise.filter _ ?_;rw[List.pairwise_map];exact List.pairwise_lt_range.imp λh=>by omega
 rw[z5P,List.mem_mergeSort,fb];unfold zOH;simp only[fb,eM,fP,dL,cZ];constructor
 rintro⟨D,G,H⟩
 exact⟨⟨x.toNat,by omega,by omega⟩,D⟩
 rintro⟨⟨k,K,rfl⟩,D⟩
 exact⟨D,by omega,by omega⟩
section
variable {α:Type} (mk:Int->Int->α) (m:Int->Int->Bool)
def z8L:List Int->List α
 | []=>[]
 | lo::rest=>(match rest.find? (m lo) with
  | some hi=>[mk lo hi]
  | none=>[])++z8L rest
def zLX (cuts:List Int) (size:Nat) (k n:Nat):List α:=
 (List.range' k n).flatMap λ(f:Nat)=>if decide ((f:Int)∈cuts)=true then
  match ((List.range' (f+1) (size-f)).find? λ(t:Nat)=>decide ((t:Int)∈cuts)&&m (f:Int) (t:Int)) with
  | some t=>[mk (f:Int) (t:Int)]
  | none=>[]
 else []
theorem zS3 (cuts:List Int) (f:Nat):∀(L:List Nat),((L.map λ(k:Nat)=>(k:Int)).filter λx=>decide (x∈cuts)).find? (m (f:Int))=((L.find? λ(t:Nat)=>decide ((t:Int)∈cuts)&&m (f:Int) (t:Int)).map λ(k:Nat)=>(k:Int))
 | []=>rfl
 | a::L=>by
  rw[eA,ib,im];by_cases h:(a:Int)∈cuts;simp only[h,dC,dG,dK];rw[im];cases m (f:Int) (a:Int) with
  | true=>rfl
  | false=>exact zS3 cuts f L
  simp only[h,dF,dP,cX,dQ];exact zS3 cuts f L
theorem zZZ (cuts:List Int) (size:Nat):∀(n k:Nat),k+n=size+1->z8L mk m (((List.range' k n).map λ(k:Nat)=>(k:Int)).filter λx=>decide (x∈cuts))=zLX mk m cuts size k n
 | 0,k,_=>rfl
 | n+1,k,h=>by
  have G:=zZZ cuts size n (k+1) (by omega);unfold zLX at G ⊢;rw[iD,eA,ib,d9,<-G];have H:size-k=n:=by omega
  by_cases D:(k:Int)∈cuts;simp only[D,dC,dG];rw[z8L,zS3,H];congr 1;cases (List.range' (k+1) n).find? (λ(t:Nat)=>decide ((t:Int)∈cuts)&&m (k:Int) (t:Int))<;>rfl;simp only[D,dF,dP,cX,dO]
theorem yIN (cuts:List Int) (size:Nat):z8L mk m (zOH cuts size)=zLX mk m cuts size 0 size:=by unfold zOH;have h:=zZZ mk m cuts size (size+1) 0 (by omega);rw[<-gI] at h;rw[h];unfold zLX;rw[<-gI,List.range_succ,List.flatMap_append,<-gI];simp
end
open Go.AV
theorem zRV {D:Type} [Inhabited D] {a b:List D} (H:a.length=b.length):(∀j,j<a.length->nth a j=nth b j)↔a=b:=by
 constructor;intro h;apply ia H;intro i k G;have:=h i k
 rwa [zBL k,zBL G] at this
 intro h j _;rw[h]
theorem yAY {a b:List Int} (O:a.length<=1000000000):xA a b=some (decide (a=b)):=by
 unfold xA;by_cases K:a.length=b.length;have G:(!decide ((a.length:Int)=(b.length:Int)))=false:=by simp[K]
 rw[G,cN];have h:=kG (body:=λ(x:Int)=>xZ a b x) a.length (λj=>nth a j=nth b j) (λy=>y=false) (λj D=>by
  have H:j<b.length:=by omega
  simp only[xZ,yT D,cO,zV D,zV H,zA,zI (k:=j) (by omega)];exact wV (by simp) rfl) (λj D=>by simp only[xZ,kJ D,cN])
 rw[zRV K] at h;rcases h with ⟨h,p⟩ | ⟨y,rfl,h,p⟩
 rw[h];simp[p];rw[h];simp[p];have G:(!decide ((a.length:Int)=(b.length:Int)))=true:=by simp;omega
 rw[G,cO];have:a≠b:=λe=>K (by rw[e]);simp[this]
theorem zS4 {a b:List aP} (O:a.length<=1000000000):yI a b=some (decide (a=b)):=by
 unfold yI;by_cases K:a.length=b.length;have G:(!decide ((a.length:Int)=(b.length:Int)))=false:=by simp[K]
 rw[G,cN];have h:=kG (body:=λ(x:Int)=>kA a b x) a.length (λj=>nth a j=nth b j) (λy=>y=false) (λj D=>by
  have H:j<b.length:=by omega
  simp only[kA,yT D,cO,zV D,zV H,zA,zI (k:=j) (by omega)];exact wV (by simp) rfl) (λj D=>by simp only[kA,kJ D,cN])
 rw[zRV K] at h;rcases h with ⟨h,p⟩ | ⟨y,rfl,h,p⟩
 rw[h];simp[p];rw[h];simp[p];have G:(!decide ((a.length:Int)=(b.length:Int)))=true:=by simp;omega
 rw[G,cO];have:a≠b:=λe=>K (by rw[e]);simp[this]
theorem yP5 {a b:List (List Int)} (T:a.length<=1000000000) (O:∀x∈a,x.length<=1000000000):jP a b (λx0 x1=>xA x0 x1)=some (decide (a=b)):=by
 unfold jP;by_cases K:a.length=b.length;have G:(!decide ((a.length:Int)=(b.length:Int)))=false:=by simp[K]
 rw[G,cN];have h:=kG (body:=λ(x:Int)=>kW a b (λx0 x1=>xA x0 x1) x) a.length (λj=>nth a j=nth b j) (λy=>y=false) (λj D=>by
  have H:j<b.length:=by omega
  simp only[kW,yT D,cO,zV D,zV H,zA,yAY (O _ (vP D)),zI (k:=j) (by omega)];exact wV (by simp) rfl) (λj D=>by simp only[kW,kJ D,cN])
 rw[zRV K] at h;rcases h with ⟨h,p⟩ | ⟨y,rfl,h,p⟩
 rw[h];simp[p];rw[h];simp[p];have G:(!decide ((a.length:Int)=(b.length:Int)))=true:=by simp;omega
 rw[G,cO];have:a≠b:=λe=>K (by rw[e]);simp[this]
theorem z8M {a b:List Range} (O:a.length<=1000000000):zBE a b=some (decide (a=b)):=by
 unfold zBE;by_cases K:a.length=b.length;have G:(!decide ((a.length:Int)=(b.length:Int)))=false:=by simp[K]
 rw[G,cN];have h:=kG (body:=λ(x:Int)=>zDQ a b x) a.length (λj=>nth a j=nth b j) (λy=>y=false) (λj D=>by
  have H:j<b.length:=by omega
  simp only[zDQ,yT D,cO,zV D,zV H,zA,zI (k:=j) (by omega)];exact wV (by simp) rfl) (λj D=>by simp only[zDQ,kJ D,cN])
 rw[zRV K] at h;rcases h with ⟨h,p⟩ | ⟨y,rfl,h,p⟩
 rw[h];simp[p];rw[h];simp[p];have G:(!decide ((a.length:Int)=(b.length:Int)))=true:=by simp;omega
 rw[G,cO];have:a≠b:=λe=>K (by rw[e]);simp[this]
theorem cfi {l:List Int} (K:l.length<=1000000000) {f:Int->Option Bool} (q:Int->Bool) (G:∀x,f x=some (q x)):xV l f=some (l.any q):=by
 unfold xV uN;have h:=kG (body:=λ(x:Int)=>jW l f x) l.length (λj=>q (nth l j)=false) (λy=>0<=y) (λj D=>by
  simp only[jW,yT D,cO,zV D,zA,G,zI (k:=j) (by omega)];exact wV (by simp) (by omega)) (λj D=>by simp only[jW,kJ D,cN])
 rw[zAS (p:=λx=>q x=false)] at h;have e:(¬∀x∈l,q x=false)↔l.any q=true:=by simp
 rcases h with ⟨h,p⟩ | ⟨y,H,h,p⟩;rw[h];have:l.any q=false:=by simpa using p
 rw[this];rfl;rw[h,e.1 p];simp[H]
theorem cfr {l:List (List Int)} (K:l.length<=1000000000) {f:List Int->Option Bool} (q:List Int->Bool) (G:∀x,f x=some (q x)):jL l f=some (l.any q):=by
 unfold jL vL;have h:=kG (body:=λ(x:Int)=>jK l f x) l.length (λj=>q (nth l j)=false) (λy=>0<=y) (λj D=>by
  simp only[jK,yT D,cO,zV D,zA,G,zI (k:=j) (by omega)];exact wV (by simp) (by omega)) (λj D=>by simp only[jK,kJ D,cN])
 rw[zAS (p:=λx=>q x=false)] at h;have e:(¬∀x∈l,q x=false)↔l.any q=true:=by simp
 rcases h with ⟨h,p⟩ | ⟨y,H,h,p⟩;rw[h];have:l.any q=false:=by simpa using p
 rw[this];rfl;rw[h,e.1 p];simp[H]
theorem z5Q {l:List Int} (K:l.length<=1000000000) (v:Int):zQ1 l v=some (decide (v∈l)):=by
 unfold zQ1;have h:=kG (body:=λ(x:Int)=>zKO l v x) l.length (λj=>nth l j≠v) (λy=>y=true) (λj D=>by
  simp only[zKO,yT D,cO,zV D,zA,zI (k:=j) (by omega)];exact wV (by simp) rfl) (λj D=>by simp only[zKO,kJ D,cN])
 rw[zAS (p:=λx=>x≠v)] at h;rcases h with ⟨h,p⟩ | ⟨y,rfl,h,p⟩
 rw[h];have:¬v∈l:=λG=>p v G rfl;simp[this];rw[h];have:v∈l:=Classical.byContradiction λG=>p λx H e=>G (e▸H);simp[this]
theorem yIO {l:List Int} (h:l.length<=1000000000) (v:Int):zN3 l v=some (decide (v∈l)):=z5Q h v
theorem yMN {a b c:List aP} (h:a.length+b.length+c.length<=1000000):jB [a,b,c]=some (a++b++c):=by
 unfold jB;have w1:wi (0+(a.length:Int))=((a.length:Nat):Int):=by rw[xK (by omega) (by omega)];omega
 have w2:wi ((a.length:Int)+(b.length:Int))=((a.length+b.length:Nat):Int):=by rw[xK (by omega) (by omega)];omega
 have w3:wi (((a.length+b.length:Nat):Int)+(c.length:Int))=((a.length+b.length+c.length:Nat):Int):=by rw[xK (by omega) (by omega)];omega
 have n0:∀k:Nat,decide ((k:Int)<0)=false:=λk=>by simp
 have Z:∀v:Int,yK [a,b,c] v 3=some (.done v):=λv=>rfl;have i0:yA [a,b,c] (0:Int)=some a:=rfl;have i1:yA [a,b,c] (1:Int)=some b:=rfl;have i2:yA [a,b,c] (2:Int)=some c:=rfl;have D:decide ((0:Int)<(([a,b,c]:List (List aP)).length:Int))=true:=rfl;have G:decide ((1:Int)<(([a,b,c]:List (List aP)).length:Int))=true:=rfl;have H:decide ((2:Int)<(([a,b,c]:List (List aP)).length:Int))=true:=rfl;have K:wi (0+1)=1:=by decide
 have O:wi (1+1)=2:=by decide
 have T:wi (2+1)=3:=by decide
 rw[zM (x':=(((a.length:Nat):Int),(1:Int))) (by simp only[yK,D,cO,i0,zA,w1,n0,cN,K])];rw[zM (x':=(((a.length+b.length:Nat):Int),(2:Int))) (by simp only[yK,G,cO,i1,zA,w2,n0,cN,O])];rw[zM (x':=(((a.length+b.length+c.length:Nat):Int),(3:Int))) (by simp only[yK,H,cO,i2,zA,w3,n0,cN,T])];rw[zJ (Z _),zA];have Y:z3Z ((a.length+b.length+c.length:Nat):Int)=some ():=by unfold z3Z;rw[dH (by omega)]
 rw[Y,zA];rw[zM (x':=((1:Int),a)) (by simp only[yZ,D,cO,i0,zA,jV (l:=[]) (m:=a) (by simp;omega),K,dO])]
 rw[zM (x':=((2:Int),a++b)) (by simp only[yZ,G,cO,i1,zA,jV (l:=a) (m:=b) (by omega),O])];rw[zM (x':=((3:Int),a++b++c)) (by simp only[yZ,H,cO,i2,zA,jV (l:=a++b) (m:=c) (by simp;omega),T])]
 rw[zJ (y:=a++b++c) rfl];rfl
theorem yP6 {cuts:List Int} {n:Nat} (H:cuts.length<=1000):∀(m k:Nat) (acc:List Int),k+m=cuts.length->acc.length<=k->
  zD (λ(x:Int×(List Int))=>wM cuts (n:Int) x.1 x.2) ((k:Int),acc)=some (acc++(cuts.drop k).filter λc=>decide (0<=c)&&decide (c<=(n:Int)))
 | 0,k,acc,h,K=>by
  have:k=cuts.length:=by omega
  subst this;rw[gU,List.filter_nil,et];exact zJ (by simp only[wM,kJ (dB _),cN])
 | m+1,k,acc,h,K=>by
  have D:k<cuts.length:=by omega
  rw[cY D,ib];by_cases G:(decide (0<=cuts[k])&&decide (cuts[k]<=(n:Int)))=true
  ·rw[zM (x':=(((k+1:Nat):Int),acc++ [cuts[k]])) (by simp only[wM,yT D,cO,zU D,zA,zL,G,jV (l:=acc) (m:=[cuts[k]]) (by simp;omega),zI (k:=k) (by omega)])]
   rw[yP6 H m (k+1) _ (by omega) (by simp;omega),dH G,c9]
   rfl
  ·rw[gV] at G
   rw[zM (x':=(((k+1:Nat):Int),acc)) (by simp only[wM,yT D,cO,zU D,zA,zL,G,cN,zI (k:=k) (by omega)])];rw[yP6 H m (k+1) _ (by omega) (by omega),dN (by rw[G];exact Bool.false_ne_true)]
theorem z18 {cuts:List Int} {n:Nat} (k:cuts.length<=1000):zCL cuts (n:Int)=some (zOH cuts n):=by
 unfold zCL;have h:=yP6 (n:=n) k cuts.length 0 [] (by omega) (by simp);rw[show ((0:Nat):Int)=0 from rfl,d7,dO] at h;have D:=hF (λc=>decide (0<=c)&&decide (c<=(n:Int))) cuts;rw[h,zA];unfold z89;rw[dH (by unfold LIM;omega),zA]
 unfold z9A;rw[dH (by rw[List.length_mergeSort];unfold LIM;omega),zA,yP4]
theorem yR8 {es:List bP} (k:Vd es) (codes:List Int):(zD6 es codes).1.length<=20:=by
 unfold zD6;cases h:es.find? (λx=>decide (x.aX=codes)) with
 | none=>simp
 | some x=>exact k.el x (fN h)
theorem yR9 (d:Collation) (h:Int):(zUC d h).length<=20:=by unfold zUC;cases vld h<;>simp
theorem yMO {c:Collation} (h:Sm c) {l:List bM} (text:List Int):(stE c l text).2.2.length<=20:=by unfold stE;split;exact yR9 _ _;exact yR8 (z1I h) _
theorem ySA {c:Collation} (G:Sm c) {l:List bM}:∀(k:Nat) (text:List Int),text.length<=k->(wk c l text).1.length<=20*text.length
 | 0,text,h=>by
  have:text= []:=cP (by omega);subst this;rw[zOG];simp
 | k+1,text,h=>by
  by_cases D:text= [];subst D;rw[zOG];simp;have H:=zZQ (c:=c) (l:=l) D;have K:=ySA G (l:=l) k _ (show (stE c l text).2.1.length<=k by omega);have O:=yMO G (l:=l) text;rw[zUU D];show ((stE c l text).2.2++(wk c l (stE c l text).2.1).1).length<=_;rw[cW];omega
theorem zNA {n:Norm} {c:Collation} (k:Sm c) {t:List Int} (h:TOk n t):(eLm n c t).length<=18000:=by have:=ySA k (l:=wG n) _ (zC8 n false t) (dB _);rw[zLW] at this;have:=h.2;unfold eLm;omega
open Go.AV
noncomputable def wT (n:Norm) (c:Collation) (o:Options) (t:List Int):List (List Int):=wts (eLm n c t) (wE o)
def zK7 (A:List (List Int)):Bool:=A.any λr=>decide (0<(r.length:Int))
noncomputable def kS (n:Norm) (c:Collation) (o:Options) (t:List Int):List Int:=jn 0 [] (wT n c o t)
def oP (o:Options):Options:={aJ:=o.aJ,aD:=o.aD,aQ:=o.aQ,aT:=false}
theorem z8N (l:List aP) (o:Options):wts l (wE (oP o))=wts l (wE o):=by unfold wE;have:ckO (oP o)=ckO o:=rfl;rw[this];split<;>rfl
theorem ySB (o:Options):(wE (oP o)).aT=false:=by unfold wE;split<;>rfl
theorem zU3 (n:Norm) (c:Collation) (o:Options) (t u:List Int):zYC (wE (oP o)) (eLm n c t) u=kS n c o t:=by unfold zYC kS wT;rw[z8N,dN (by rw[ySB];exact Bool.false_ne_true),et]
theorem yIP {n:Norm} {c:Collation} {o:Options} {a b:List Int}:kS n c o a=kS n c o b↔wT n c o a=wT n c o b:=by
 constructor;intro h;rw[<-zU3 n c o a [],<-zU3 n c o b []] at h;have:=(yIL (zQF (oP o)) h).1
 rwa [z8N,z8N] at this
 intro h;unfold kS;rw[h]
theorem ySC {n:Norm} {c:Collation} {o:Options} {t:List Int} {x:List Int} (h:x∈wT n c o t):x.length<=(eLm n c t).length:=zWT h
theorem zU4 (n:Norm) (c:Collation) (o:Options) (t:List Int):(wT n c o t).length<=4:=zU2 _ _
theorem yIQ:∀(A:List (List Int)),(∀x∈A,∀a∈x,a≠0)->(tj A).any (λw=>!decide (w=0))=zK7 A
 | [],_=>rfl
 | x::A,h=>by
  have k:=yIQ A λy D=>h y (by simp[D]);unfold zK7 at k ⊢;rw[ii,<-k];show ((0::x)++tj A).any _=_;rw[List.any_append,ii];congr 1;cases x with
  | nil=>rfl
  | cons a x=>
   have:=h (a::x) (by simp) a (by simp);simp[this]
theorem yP7 (n:Norm) (c:Collation) (o:Options) (t:List Int):(kS n c o t).any (λw=>!decide (w=0))=zK7 (wT n c o t):=by
 have k:∀x∈wT n c o t,∀a∈x,a≠0:=λx H a D=>z8I H D;unfold kS;cases G:wT n c o t with
 | nil=>rfl
 | cons x A=>
  rw[G] at k;have h:=yIQ (x::A) k;rw[<-h,yP2];show _=((0::x)++tj A).any _;rw[fH,ii];rfl
section
variable {n:Norm} {c:Collation} (hn:NSm n) (hok:wY n) (hs:Sm c) (hg:∀g∈c.aE,g.bT.length<=MX)
include hn hok hs hg
omit hn hok hg in
theorem yIR (o:Options) {t:List Int} (h:TOk n t):(kS n c o t).length<=100000:=by
 have H:=zNA hs h;have k:=z14 (N:=18000) (wT n c o t) 0 [] (λx G=>by have:=ySC G;omega)
 have D:=zU4 n c o t;have K:(wT n c o t).length*(18000+1)<=4*(18000+1):=dU _ D;unfold kS;simp only[d6] at k;omega
theorem yIS (o:Options) {t:List Int} (h:TOk n t):zBF n c o t o.aJ=some (kS n c o t):=by
 rw[yDM hn hok hs hg h.1 (by have:=h.2;omega)]
 exact congrArg some (zU3 n c o t _)
theorem z19 (o:Options) {t:List Int} (h:TOk n t):zDE n c o t o.aJ=some (kS n c o t):=by unfold zDE;rw[yDN hn hok hs hg h.1 h.2,zA];exact congrArg some (zU3 n c o t _)
theorem zU5 (o:Options) {t:List Int} (h:TOk n t):zFN n c o t=some (kS n c o t):=by unfold zFN;rw[z19 hn hok hs hg o h,zA]
omit hn hok hg in
theorem yIT (o:Options) {a b:List Int} (h:TOk n a):vW (kS n c o a) (kS n c o b)=some (decide (wT n c o a=wT n c o b)):=by
 rw[zWF (by have:=yIR (c:=c) hs o h;omega)]
 simp only[yIP]
theorem yAZ (o:Options) {t:List Int} (h:TOk n t):zG4 n c o t=some (zK7 (wT n c o t)):=by
 unfold zG4;have K:=zNA (c:=c) hs h;rw[yIM hn hok hs hg h,zA,zPQ (by omega),zA];show (zD (λ(x:Int)=>zCD (wT n c o t) x) 0).bind _=_;have H:=zU4 n c o t;have h:=kG (body:=λ(x:Int)=>zCD (wT n c o t) x) (wT n c o t).length (λj=>decide (0<((nth (wT n c o t) j).length:Int))=false) (λy=>y=true) (λj D=>by
  simp only[zCD,yT D,cO,zV D,zA,zI (k:=j) (by omega)];exact wV (by simp only[Bool.not_eq_false]) rfl) (λj D=>by simp only[zCD,kJ D,cN])
 rw[zAS (p:=λx:List Int=>decide (0<(x.length:Int))=false)] at h;have e:(¬∀x∈wT n c o t,decide (0<(x.length:Int))=false)↔zK7 (wT n c o t)=true:=by unfold zK7;simp only[fW,Classical.not_forall,Bool.not_eq_false,exists_prop]
 rcases h with ⟨h,p⟩ | ⟨y,rfl,h,p⟩;rw[h];have:zK7 (wT n c o t)=false:=by
  cases G:zK7 (wT n c o t) with
  | false=>rfl
  | true=>exact absurd p (e.2 G)
 rw[this];rfl;rw[h,e.1 p];rfl
theorem zS5 (o:Options) {a b:List Int} (h:TOk n a) (hb:TOk n b):vM n c o a b=some (zK7 (wT n c o a)&&decide (wT n c o a=wT n c o b)):=by unfold vM;have k:=yIR (c:=c) hs o h;rw[yIS hn hok hs hg o h,zA,yIS hn hok hs hg o hb,zA,cfi (f:=λx0=>zF1 x0) (by omega) (λw=>!decide (w=0)) (λx=>rfl),zA,zL,yP7,yAY (by omega)];simp only[yIP];cases zK7 (wT n c o a)<;>simp[gM]
theorem yDO (o:Options) {a b:List Int} (h:TOk n a) (hb:TOk n b):zH2 n c o a b=some (zK7 (wT n c o a)&&decide (wT n c o a=wT n c o b)):=by
 unfold zH2;rw[yAZ hn hok hs hg o h,zA,zL];cases zK7 (wT n c o a) with
 | false=>rfl
 | true=>simp only[xF,zU5 hn hok hs hg o h,zU5 hn hok hs hg o hb,zA,yIT hs o h]
end
open Go.AV
def sl (t:List Int) (lo hi:Int):List Int:=(t.take hi.toNat).drop lo.toNat
noncomputable def whB (n:Norm) (c:Collation) (t:List Int) (lo hi:Int):Bool:=decide (eLm n c (t.take lo.toNat)++eLm n c (sl t lo hi)++eLm n c (t.drop hi.toNat)=eLm n c t)
noncomputable def mB (n:Norm) (c:Collation) (o:Options) (p t:List Int) (lo hi:Int):Bool:=decide (wT n c o (sl t lo hi)=wT n c o p)&&whB n c t lo hi
def mkR (lo hi:Int):Range:={Lo:=lo,Hi:=hi}
section
variable {n:Norm} {c:Collation} (hn:NSm n) (hok:wY n) (hs:Sm c) (hg:∀g∈c.aE,g.bT.length<=MX)
include hn hok hs hg
omit hs hg in
theorem tk0 {t:List Int} (h:t.length<=12):TOk n t:=⟨by omega,by have:=yDD hn hok false t;omega⟩
omit hs hg in
theorem tk1 {t:List Int} (h:t.length<=12) (k:Nat):TOk n (t.take k):=tk0 hn hok (by rw[dZ];omega)
omit hs hg in
theorem tk2 {t:List Int} (h:t.length<=12) (k:Nat):TOk n (t.drop k):=tk0 hn hok (by rw[eJ];omega)
omit hs hg in
theorem tk3 {t:List Int} (h:t.length<=12) (lo hi:Int):TOk n (sl t lo hi):=tk0 hn hok (by unfold sl;rw[eJ,dZ];omega)
theorem zWV {t:List Int} (k:t.length<=12) (r:Range):wW n c t r=some (decide (0<=r.Lo/\r.Lo<=r.Hi/\r.Hi<=(t.length:Int))&&whB n c t r.Lo r.Hi):=by
 unfold wW;rw[zL,zL];by_cases h:0<=r.Lo/\r.Lo<=r.Hi/\r.Hi<=(t.length:Int)
 ·obtain⟨D,G,H⟩:=h
  have e:((decide (r.Lo<0) ||decide (r.Hi<r.Lo)) ||decide ((t.length:Int)<r.Hi))=false:=by simp;omega
  have K:slc t 0 r.Lo=some (t.take r.Lo.toNat):=by unfold slc;rw[dH (by omega)];simp
  have O:slc t r.Lo r.Hi=some (sl t r.Lo r.Hi):=by unfold slc;rw[dH (by omega)];rfl
  have T:slc t r.Hi (t.length:Int)=some (t.drop r.Hi.toNat):=by unfold slc;rw[dH (by omega)];simp
  have Y:=zNA (c:=c) hs (tk1 hn hok k r.Lo.toNat);have Z:=zNA (c:=c) hs (tk3 hn hok k r.Lo r.Hi);have l3:=zNA (c:=c) hs (tk2 hn hok k r.Hi.toNat);rw[e,cN,K,zA,z16 hn hok hs hg (tk1 hn hok k _),zA,O,zA,z16 hn hok hs hg (tk3 hn hok k _ _),zA,T,zA,z16 hn hok hs hg (tk2 hn hok k _),zA,yMN (by omega),zA,z16 hn hok hs hg (tk0 hn hok k),zA,zS4 (by simp only[cW];omega),zA]
  simp only[D,G,H,iq,dC,dK];rfl
 ·have e:((decide (r.Lo<0) ||decide (r.Hi<r.Lo)) ||decide ((t.length:Int)<r.Hi))=true:=by
   simp only[fR,cZ];omega
  rw[e,cO];simp only[h,dF,dQ]
theorem yDP {t:List Int} (D:t.length<=12) (r:Range):zN0 n c t r=some (decide (0<=r.Lo/\r.Lo<=r.Hi/\r.Hi<=(t.length:Int))&&whB n c t r.Lo r.Hi):=by
 unfold zN0;rw[zL,zL];by_cases h:0<=r.Lo/\r.Lo<=r.Hi/\r.Hi<=(t.length:Int)
 ·obtain⟨T,Y,Z⟩:=h
  have e:((decide (r.Lo<0) ||decide (r.Hi<r.Lo)) ||decide ((t.length:Int)<r.Hi))=false:=by simp;omega
  have s1:slc t 0 r.Lo=some (t.take r.Lo.toNat):=by unfold slc;rw[dH (by omega)];simp
  have s2:slc t r.Lo r.Hi=some (sl t r.Lo r.Hi):=by unfold slc;rw[dH (by omega)];rfl
  have s3:slc t r.Hi (t.length:Int)=some (t.drop r.Hi.toNat):=by unfold slc;rw[dH (by omega)];simp
  have l1:=zNA (c:=c) hs (tk1 hn hok D r.Lo.toNat);have l2:=zNA (c:=c) hs (tk3 hn hok D r.Lo r.Hi);have l3:=zNA (c:=c) hs (tk2 hn hok D r.Hi.toNat);have l0:=zNA (c:=c) hs (tk0 hn hok D);rw[e,cN,yIM hn hok hs hg (tk0 hn hok D),zA,s1,zA,yIM hn hok hs hg (tk1 hn hok D _),zA,jV (by simp;omega),zA,dO,s2,zA,yIM hn hok hs hg (tk3 hn hok D _ _),zA,jV (by omega),zA,s3,zA,yIM hn hok hs hg (tk2 hn hok D _),zA,jV (by simp only[cW];omega),zA]
  simp only[T,Y,Z,iq,dC,dK];unfold whB;generalize eLm n c (t.take r.Lo.toNat)++eLm n c (sl t r.Lo r.Hi)++eLm n c (t.drop r.Hi.toNat)=b;generalize eLm n c t=a at l0 ⊢;by_cases O:a.length=b.length
  ·have H:(!decide ((a.length:Int)=(b.length:Int)))=false:=by simp[O]
   rw[H,cN];have h:=kG (body:=λ(x:Int)=>zF6 a b x) a.length (λj=>nth a j=nth b j) (λy=>y=false) (λj G=>by
    have K:j<b.length:=by omega
    simp only[zF6,yT G,cO,zV G,zV K,zA,zI (k:=j) (by omega)];exact wV (by simp) rfl) (λj G=>by simp only[zF6,kJ G,cN])
   rw[zRV O] at h;rcases h with ⟨h,p⟩ | ⟨y,rfl,h,p⟩
   ·rw[h];simp[p]
   ·have p':¬b=a:=λe=>p e.symm
    rw[h];simp[p']
  ·have H:(!decide ((a.length:Int)=(b.length:Int)))=true:=by simp;omega
   rw[H,cO];have:b≠a:=λe=>O (by rw[e]);simp[this]
 ·have e:((decide (r.Lo<0) ||decide (r.Hi<r.Lo)) ||decide ((t.length:Int)<r.Hi))=true:=by
   simp only[fR,cZ];omega
  rw[e,cO];simp only[h,dF,dQ]
def yUI (f:Int):Option Nat->Unit⊕(Bool×Int×Int)
 | some t=> .inr (true,f,(t:Int))
 | none=> .inl ()
theorem yIU (o:Options) {p t cuts:List Int} (Y:TOk n p) (K:t.length<=12) (hc:cuts.length<=1000) {f:Nat} (hf:f<=t.length):∀(m k:Nat),k+m=t.length+1->f<k->
  zD (λ(x:Int)=>zEH t cuts (f:Int) n c o p x) (k:Int)=some (yUI (f:Int) ((List.range' k m).find? λ(q:Nat)=>decide ((q:Int)∈cuts)&&mB n c o p t (f:Int) (q:Int)))
 | 0,k,h,_=>by
  have e:decide ((k:Int)<=(t.length:Int))=false:=by simp;omega
  exact zJ (by simp only[zEH,e,cN];rfl)
 | m+1,k,h,hk=>by
  have e:decide ((k:Int)<=(t.length:Int))=true:=by simp;omega
  have ih:=yIU o Y K hc hf m (k+1) (by omega) (by omega);have s2:slc t (f:Int) (k:Int)=some (sl t (f:Int) (k:Int)):=by unfold slc;rw[dH (by omega)];rfl
  have hw:=yDP hn hok hs hg K ({Lo:=(f:Int),Hi:=(k:Int)}:Range);have G:decide (0<=({Lo:=(f:Int),Hi:=(k:Int)}:Range).Lo/\({Lo:=(f:Int),Hi:=(k:Int)}:Range).Lo<=({Lo:=(f:Int),Hi:=(k:Int)}:Range).Hi/\({Lo:=(f:Int),Hi:=(k:Int)}:Range).Hi<=(t.length:Int))=true:=by simp;omega
  rw[G,dK] at hw;have D:zEH t cuts (f:Int) n c o p (k:Int)=cond (decide ((k:Int)∈cuts)&&mB n c o p t (f:Int) (k:Int)) (some (.done (.inr (true,(f:Int),(k:Int))))) (some (.next ((k+1:Nat):Int))):=by
   have H:wi ((k:Int)+1)=((k+1:Nat):Int):=zI (by omega);unfold zEH;rw[e,cO,z5Q (by omega),zA,zL];by_cases O:(k:Int)∈cuts
   ·simp only[O,dC,xF,s2,zA,zU5 hn hok hs hg o (tk3 hn hok K _ _),zU5 hn hok hs hg o Y,yIT hs o (tk3 hn hok K _ _),dK,zL]
    unfold mB;by_cases T:wT n c o (sl t (f:Int) (k:Int))=wT n c o p
    ·simp only[T,dC,xF,hw,zA,dK]
     rw[H]
    ·simp only[T,dF,vF,zA,dQ,cN]
     rw[H]
   ·simp only[O,dF,vF,zA,dQ,zL,cN]
    rw[H]
  rw[iD,im];cases Z:(decide ((k:Int)∈cuts)&&mB n c o p t (f:Int) (k:Int)) with
  | true=>
   rw[Z] at D;exact zJ D
  | false=>
   rw[Z] at D;rw[zM (x':=((k+1:Nat):Int)) D];exact ih
theorem yIV (o:Options) {p t cuts:List Int} (D:TOk n p) (G:t.length<=12) (h:cuts.length<=1000) {f:Nat} (H:f<t.length):zN1 n c o p t cuts (f:Int)=some (match ((List.range' (f+1) (t.length-f)).find? λ(q:Nat)=>decide ((q:Int)∈cuts)&&mB n c o p t (f:Int) (q:Int)) with
  | some q=>(mkR (f:Int) (q:Int),true)
  | none=>(mkR 0 0,false)):=by
 unfold zN1;rw[zI (k:=f) (by omega),yIU hn hok hs hg o D G h (by omega) (t.length-f) (f+1) (by omega) (by omega),zA];cases (List.range' (f+1) (t.length-f)).find? (λ(q:Nat)=>decide ((q:Int)∈cuts)&&mB n c o p t (f:Int) (q:Int))<;>rfl
theorem yMP (o:Options) {p t cuts:List Int} (T:TOk n p) (Y:t.length<=12) (H:cuts.length<=1000):∀(m k:Nat) (acc:List Range),k+m=t.length->acc.length<=k->
  zD (λ(x:Int×(List Range))=>zEN t cuts n c o p x.1 x.2) ((k:Int),acc)=some (acc++zLX mkR (mB n c o p t) cuts t.length k m)
 | 0,k,acc,h,_=>by
  have:k=t.length:=by omega
  subst this;rw[zJ (y:=acc) (by simp only[zEN,kJ (dB _),cN])];simp[zLX]
 | m+1,k,acc,h,ha=>by
  have O:k<t.length:=by omega
  have e:zLX mkR (mB n c o p t) cuts t.length k (m+1)=(if decide ((k:Int)∈cuts)=true then
   match ((List.range' (k+1) (t.length-k)).find? λ(q:Nat)=>decide ((q:Int)∈cuts)&&mB n c o p t (k:Int) (q:Int)) with
   | some q=>[mkR (k:Int) (q:Int)]
   | none=>[]
   else [])++zLX mkR (mB n c o p t) cuts t.length (k+1) m:=by
   unfold zLX;rw[iD,d9]<;>rfl
  rw[e];have K:=yIV hn hok hs hg o T Y H O;have D:wi ((k:Int)+1)=((k+1:Nat):Int):=zI (by omega);by_cases G:(k:Int)∈cuts
  ·cases Z:(List.range' (k+1) (t.length-k)).find? (λ(q:Nat)=>decide ((q:Int)∈cuts)&&mB n c o p t (k:Int) (q:Int)) with
   | some q=>
    rw[Z] at K;rw[zM (x':=(((k+1:Nat):Int),acc++ [mkR (k:Int) (q:Int)])) (by
     simp only[zEN,yT O,cO,z5Q (show cuts.length<=1000000000 by omega),zA,G,dC,dE,cN,K,jV (l:=acc) (m:=[mkR (k:Int) (q:Int)]) (by simp;omega)]
     rw[D])]
    rw[yMP o T Y H m (k+1) _ (by omega) (by simp;omega)]
    simp[G]
   | none=>
    rw[Z] at K;rw[zM (x':=(((k+1:Nat):Int),acc)) (by
     simp only[zEN,yT O,cO,z5Q (show cuts.length<=1000000000 by omega),zA,G,dC,dE,cN,K];rw[D])]
    rw[yMP o T Y H m (k+1) _ (by omega) (by omega)];simp[G]
  ·rw[zM (x':=(((k+1:Nat):Int),acc)) (by
     simp only[zEN,yT O,cO,z5Q (show cuts.length<=1000000000 by omega),zA,G,dF,dS];rw[D])]
   rw[yMP o T Y H m (k+1) _ (by omega) (by omega)];simp[G]
noncomputable def aM (n:Norm) (c:Collation) (o:Options) (p t cuts:List Int):List Range:=if zK7 (wT n c o p)=true then zLX mkR (mB n c o p t) cuts t.length 0 t.length else []
theorem yA0 (o:Options) {p t cuts:List Int} (k:TOk n p) (G:t.length<=12) (D:cuts.length<=1000):zSB n c o p t cuts=some (aM n c o p t cuts):=by
 unfold zSB aM;rw[yAZ hn hok hs hg o k,zA];cases zK7 (wT n c o p) with
 | false=>rfl
 | true=>
  have h:=yMP hn hok hs hg o k G D t.length 0 [] (by omega) (by simp);rw[show ((0:Nat):Int)=0 from rfl,dO] at h;rw[dE,cN,h,zA,dH rfl]
end
end Go.M


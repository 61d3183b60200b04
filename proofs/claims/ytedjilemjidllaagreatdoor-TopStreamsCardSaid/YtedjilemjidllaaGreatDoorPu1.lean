/- What the plain counterparts answer. Conditions: none. -/
import Derived.Test.YtedjilemjidllaaGreatDoorMir
set_option linter.unusedSimpArgs false
set_option linter.unusedVariables false
set_option linter.unnecessarySimpa false
namespace Go.M
open Go.AV
variable {k i j:Nat} {n:Norm} {X Y A:Type} {s a text p:LI} {b:Bool} {l:List aG} {r:Range} {c x:Int} {m m':List (Int×Int)} {f:Int->Int->Option Int} {key:Int->Int} {rec:LI->Int->Int->Int->(Int->Int->Option Int)->Option LI}
theorem j9 {n:Int} (h: -9223372036854775808<=n) (D:n<=9223372036854775807):wi n=n:=w64 h D
theorem zL (h:k+1<=9223372036854775807):wi ((k:Int)+1)=((k+1:Nat):Int):=by rw[j9 (by omega) (by omega)];omega
theorem zP1 (h:k+1<=9223372036854775807):wi (((k+1:Nat):Int)-1)=(k:Int):=by rw[j9 (by omega) (by omega)];omega
theorem yY {n:Nat} (h:k<n):decide ((k:Int)<(n:Int))=true:=by simp;omega
theorem kU {n:Nat} (h:n<=k):decide ((k:Int)<(n:Int))=false:=by simp;omega
theorem z8 {D:Type} {l:List D} (h:k<l.length):yO l (k:Int)=some l[k]:=by unfold yO;rw[eG (by omega)];simp[h]
theorem z8F {h:Type} {x: h} {l:List h}:yO (x::l) 0=some x:=rfl
theorem zHJ {D:Type} {l:List D} (h:k<l.length) (x: D):zCV l (k:Int) x=some (l.set k x):=by unfold zCV;rw[eG ⟨by omega,by simpa using h⟩];simp
theorem j7 {D:Type} {l m:List D} (h:l.length+m.length<=4294967296):app l m=some (l++m):=by unfold app;rw[eG (by unfold LIM;exact h)]
theorem zRT {D:Type} {z: D} {n:Nat} (h:n<=4294967296):mkM z (n:Int)=some (List.replicate n z):=by unfold mkM;rw[eG ⟨by omega,by unfold LIM;simpa using h⟩];simp
theorem yB0 {D:Type} {l:List D} {a b:Nat} (G:a<=b) (h:b<=l.length):slc l (a:Int) (b:Int)=some ((l.take b).drop a):=by unfold slc;rw[eG ⟨by omega,by omega,by simpa using h⟩];simp
theorem zYA {D:Type} {l:List D} {b:Nat} (h:b<=l.length):slc l 0 (b:Int)=some (l.take b):=by have:=yB0 (l:=l) (a:=0) (b:=b) (by omega) h;simpa using this
theorem zHK {D:Type} {l:List D} {a:Nat} (h:a<=l.length):slc l (a:Int) (l.length:Int)=some (l.drop a):=by have:=yB0 (l:=l) (a:=a) (b:=l.length) h (d9 _);simpa using this
theorem zN {h D:Type} (x: h) (f: h->Option D):(pv x).bind f=f x:=rfl
theorem vN {h:Type} [Inhabited h] (m:Option h):gM true m=m:=rfl
theorem zBR {h:Type} [Inhabited h] (m:Option h):gM false m=some default:=rfl
theorem zA {h D:Type} (x: h) (f: h->Option D):(some x).bind f=f x:=rfl
theorem zI {body:X->Option (Stp X Y)} {x x':X} (h:body x=some (.next x')):zE body x=zE body x':=by rw[yQ,h]
theorem zP {body:X->Option (Stp X Y)} {x:X} {y:Y} (h:body x=some (.done y)):zE body x=some y:=by rw[yQ,h]
def chk (p:Nat->A->Option Y):List A->Nat->Option Y
 | [],_=>none
 | x::xs,k=>match p k x with
  | some y=>some y
  | none=>chk p xs (k+1)
def toS:Option Y->Unit⊕Y
 | some y=> .inr y
 | none=> .inl ()
def stp (k:Nat):Option Y->Stp Int (Unit⊕Y)
 | some y=> .done (.inr y)
 | none=> .next ((k+1:Nat):Int)
theorem yL4 (l:List A) {body:Int->Option (Stp Int (Unit⊕Y))} (p:Nat->A->Option Y)
  (s:Nat) (hb:∀k (h:k<l.length),s<=k->body (k:Int)=some (stp k (p k l[k]))) (H:∀k:Nat,l.length<=k->body (k:Int)=some (.done (.inl ()))):
  ∀(n k:Nat),s<=k->l.length-k=n->zE body (k:Int)=some (toS (chk p (l.drop k) k)):=by
 intro n
 induction n with
 | zero=>
  intro k G K;rw[yQ,H k (by omega),eJ (by omega)];rfl
 | succ n O=>
  intro k G K;have D:k<l.length:=by omega
  rw[yQ,hb k D G,eA D];simp only[chk];cases T:p k l[k] with
  | some y=>rfl
  | none=>exact O (k+1) (by omega) (by omega)
theorem zP2 (l:List A) {body:Int->Option (Stp Int (Unit⊕Y))} (p:Nat->A->Option Y)
  (hb:∀k (h:k<l.length),body (k:Int)=some (stp k (p k l[k]))) (D:∀k:Nat,l.length<=k->body (k:Int)=some (.done (.inl ()))):zE body 0=some (toS (chk p l 0)):=by
 have:=yL4 l p 0 (λk h _=>hb k h) D l.length 0 (by omega) (by omega);simpa using this
theorem zTB {Z:Type} (o:Option Y) (f:Unit->Option Z) (g:Y->Option Z):(toS o).elim f g=match o with | some y=>g y | none=>f ():=by cases o<;>rfl
abbrev MX:Nat:=9223372036854775807
def zJB (t:Int):Bool:=((((decide (65<=t)&&decide (t<=90)) ||(decide (97<=t)&&decide (t<=122))) ||(decide (48<=t)&&decide (t<=57))) ||decide (t=95))
theorem z4J:zCR=zIE:=rfl
theorem z8G {s:Str} (h:k<s.length):zM0 s (k:Int)=some (s[k].toNat:Int):=by unfold zM0;rw[z8 h];rfl
theorem z8H (s:Str) (D:s.length<=MX):zE (λ(x:Int)=>zCR s x) 0=some (toS (chk (λ_ (b:UInt8)=>if zJB (b.toNat:Int) then none else some false) s 0)):=by
 refine zP2 s _ (λk h=>?_) (λk h=>?_);simp only[zCR,yY h,dO,z8G h,zA,zN,zL (k:=k) (by unfold MX at D;omega)]
 by_cases hb:zJB (s[k].toNat:Int)=true;simp only[hb,eK,stp];unfold zJB at hb;rw[hb];rfl;simp only[hb,eE,stp];unfold zJB at hb;simp only[iW] at hb;rw[hb];rfl;simp only[zCR,kU h,dN]
def z1Y (s:Str):Bool:=match chk (λ_ (b:UInt8)=>if zJB (b.toNat:Int) then none else some false) s 0 with
 | some y=>y
 | none=>decide (1<=s.length)&&decide (s.length<=32)
theorem yQB {s:Str} (h:s.length<=MX):zJ8 s=some (z1Y s):=by
 unfold zJ8 z1Y;rw[<-z4J,z8H s h,zA,zTB];cases chk (λ_ (b:UInt8)=>if zJB (b.toNat:Int) then none else some false) s 0 with
 | some y=>rfl
 | none=>
  simp only[zN];congr 1;congr 1;simp;omega;simp;omega
def vld (c:Int):Bool:=decide (0<=c)&&decide (c<=1114111)
theorem zTC (c:Int):wI c=some (vld c):=rfl
theorem zG5 (c:Int):zAY c=some (vld c):=rfl
def yUN (a b:LI):Int:=match chk (λ_ (p:Int×Int)=>if p.1=p.2 then none else some (if p.1<p.2 then (-1:Int) else 1)) (a.zip b) 0 with
 | some y=>y
 | none=>if a.length<b.length then -1 else if b.length<a.length then 1 else 0
section
variable {b:LI} (ha:a.length<=4611686018427387904) (hb:b.length<=30000)
theorem yUO (x y:Int):cmp_Compare_int x y=some (if x<y then -1 else if y<x then 1 else 0):=by unfold cmp_Compare_int zFX;simp only[zA,eH,dY,dN];by_cases h:x<y;simp[h];by_cases D:y<x<;>simp[h,D]
include ha in
theorem yZJ:zE (λ(v:Int)=>zA6 a b v) 0=some (toS (chk (λ_ (p:Int×Int)=>if p.1=p.2 then none else some (if p.1<p.2 then (-1:Int) else 1)) (a.zip b) 0)):=by
 refine zP2 (a.zip b) _ (λk h=>?_) (λk h=>?_);have O:=h;rw[List.length_zip] at O;have D:k<a.length:=by omega
 have G:k<b.length:=by omega
 simp only[zA6,yY D,yY G,zN,g9,dO,z8 D,z8 G,zA,zL (k:=k) (by omega),List.getElem_zip];by_cases H:a[k]<b[k];have:¬a[k]=b[k]:=by omega
 simp[H,this,stp];by_cases T:b[k]<a[k];have:¬a[k]=b[k]:=by omega
 simp[H,T,this,stp];have:a[k]=b[k]:=by omega
 simp[this,stp];rw[List.length_zip] at h;have K:(decide ((k:Int)<(a.length:Int))&&decide ((k:Int)<(b.length:Int)))=false:=by
  rw[eY];simp;omega
 simp only[zA6,zN,K,dN]
include ha in
theorem z0I:zF1 a b=some (yUN a b):=by
 unfold zF1 yUN;rw[yZJ ha,zA,zTB];cases chk (λ_ (p:Int×Int)=>if p.1=p.2 then none else some (if p.1<p.2 then (-1:Int) else 1)) (a.zip b) 0 with
 | some y=>rfl
 | none=>
  simp only[];by_cases D:a.length<b.length;have:(a.length:Int)<b.length:=by omega
  simp[D,this];have h:¬(a.length:Int)<b.length:=by omega
  by_cases H:b.length<a.length;have:(b.length:Int)<a.length:=by omega
  simp[D,h,H,this];have G:¬(b.length:Int)<a.length:=by omega
  simp[D,h,H,G]
end
theorem zYB {p:Nat->A->Option Y}:∀{l:List A} {k:Nat},chk p l k=none->∀j (h:j<l.length),p (k+j) l[j]=none
 | [],_,_,j,h=>by simp at h
 | x::xs,k,D,j,h=>by
  simp only[chk] at D;cases G:p k x with
  | some y=>rw[G] at D;cases D
  | none=>
   rw[G] at D;cases j with
   | zero=>simpa using G
   | succ j=>
    have:=zYB D j (by simp at h;omega)
    rw[show k+1+j=k+(j+1) by omega] at this;simpa using this
theorem z8I {p:Nat->A->Option Y} {P:Y->Prop} (G:∀k x y,p k x=some y->P y):∀{l:List A} {k:Nat} {y:Y},chk p l k=some y->P y
 | [],_,_,h=>by cases h
 | x::xs,k,y,h=>by
  simp only[chk] at h;cases D:p k x with
  | some H=>rw[D] at h;cases h;exact G _ _ _ D
  | none=>rw[D] at h;exact z8I G h
def lx:LI->LI->Prop
 | [],[]=>False
 | [],_::_=>True
 | _::_,[]=>False
 | x::a,y::b=>x<y\/(x=y/\lx a b)
def pC (_:Nat) (p:Int×Int):Option Int:=if p.1=p.2 then none else some (if p.1<p.2 then (-1:Int) else 1)
def zYC (a b:LI) (k:Nat):Int:=match chk pC (a.zip b) k with
 | some y=>y
 | none=>if a.length<b.length then -1 else if b.length<a.length then 1 else 0
theorem z1Z:∀(a b:LI) (k:Nat),(zYC a b k<0↔lx a b)/\(zYC a b k=0↔a=b)
 | [],[],k=>by simp[zYC,chk,lx]
 | [],y::b,k=>by simp[zYC,chk,lx]
 | x::a,[],k=>by simp[zYC,chk,lx]
 | x::a,y::b,k=>by
  have K:=z1Z a b (k+1);by_cases h:x=y
  ·subst h
   have D:zYC (x::a) (x::b) k=zYC a b (k+1):=by
    simp only[zYC,List.zip_cons_cons,chk,pC,eK,eF];cases chk pC (a.zip b) (k+1) with
    | some y=>rfl
    | none=>
     simp only[];by_cases G:a.length<b.length
     ·simp[G]
     ·by_cases O:b.length<a.length<;>simp[G,O]
   rw[D];refine⟨K.1.trans ?_,K.2.trans ?_⟩
   ·simp[lx]
   ·simp
  ·have D:zYC (x::a) (y::b) k=if x<y then -1 else 1:=by
    simp only[zYC,List.zip_cons_cons,chk,pC,h,eE]
   rw[D];by_cases H:x<y
   ·simp[H,lx,h]
   ·simp[H,lx,h]
theorem yUP (a b:LI):yUN a b=zYC a b 0:=rfl
theorem zBX {H K:Type} [DecidableEq H] (m:List (H×K)) (k D: H) (v: K):mget (vS m k v) D=if D=k then some v else mget m D:=by
 induction m with
 | nil=>simp only[vS,mget]
 | cons p m O=>
  obtain⟨q,u⟩:=p;simp only[vS];by_cases G:k=q;subst G;simp only[eK,mget];by_cases h:D=k<;>simp[h];simp only[G,eE,mget];by_cases h:D=q;subst h;have:¬D=k:=λe=>G e.symm;simp[this];simp only[h,eE];exact O
theorem yZK {D:Type} {l:List D} (h:l.length<=30000):app [] l=some l:=by
 rw[j7 (by simp;omega)]
 rfl
theorem z8J {b:LI} (h:a.length<=4611686018427387904):zIW a b=some (decide (a=b)):=by unfold zIW;rw[z0I h,zA,yUP];congr 1;rw[i4];simp only[d7];exact(z1Z a b 0).2
def nth {h:Type} [Inhabited h] (l:List h) (k:Nat): h:=l.getD k default
theorem zW {D:Type} [Inhabited D] {l:List D} (h:k<l.length):yO l (k:Int)=some (nth l k):=by rw[z8 h];simp[nth,h]
theorem wP {D:Type} [Inhabited D] {l:List D} (h:k<l.length):nth l k∈l:=by simp[nth,h]
theorem zCQ {D:Type} [Inhabited D] {l:List D} (h:k<l.length):nth l k=l[k]:=by simp[nth,h]
theorem zAP {G:Type} [Inhabited G] {l:List G} {p: G->Prop}:(∀k,k<l.length->p (nth l k))↔∀x∈l,p x:=by
 constructor;intro h x H;obtain⟨k,D,rfl⟩:=gK H;have:=h k D
 rwa [zCQ D] at this
 intro h k D;exact h _ (wP D)
def Ver (m:Option Int) (p:Prop):Prop:= ∃e,m=some e/\(e=0↔p)
theorem z8K {body:Int->Option (Stp Int (Unit⊕Y))} (N:Nat) (P:Nat->Prop) (Q:Y->Prop) (s:Nat)
  (hb:∀k,s<=k->k<N->(P k/\body (k:Int)=some (.next ((k+1:Nat):Int)))\/(¬P k/\∃y,Q y/\body (k:Int)=some (.done (.inr y))))
  (he:∀k,N<=k->body (k:Int)=some (.done (.inl ()))):
  ∀(n k:Nat),N-k=n->s<=k->(zE body (k:Int)=some (.inl ())/\∀j,k<=j->j<N->P j)\/(∃y,Q y/\zE body (k:Int)=some (.inr y)/\¬∀j,k<=j->j<N->P j):=by
 intro n
 induction n with
 | zero=>
  intro k hk _;refine .inl ⟨zP (he k (by omega)),λj G H=>by omega⟩
 | succ n ih=>
  intro k hk hs;rcases hb k hs (by omega) with ⟨T,h⟩ | ⟨T,y,Z,h⟩
  ·rw[zI h]
   rcases ih (k+1) (by omega) (by omega) with ⟨G,H⟩ | ⟨y,Z,G,H⟩
   ·refine .inl ⟨G,λj O D=>?_⟩
    by_cases e:j=k
    ·subst e;exact T
    ·exact H j (by omega) D
   ·exact .inr ⟨y,Z,G,λK=>H λj O D=>K j (by omega) D⟩
  ·exact .inr ⟨y,Z,zP h,λK=>T (K k (d9 _) (by omega))⟩
theorem zAW {P:Prop} {D:X} {y:Y} {Q:Y->Prop} (hb:b=true↔¬P) (H:Q y):(P/\(cond b (some (Stp.done (Sum.inr y))) (some (.next D)):Option (Stp X (Unit⊕Y)))=some (.next D))\/(¬P/\∃G,Q G/\(cond b (some (Stp.done (Sum.inr y))) (some (.next D)):Option (Stp X (Unit⊕Y)))=some (.done (.inr G))):=by
 cases b with
 | true=>exact .inr ⟨hb.1 rfl,y,H,rfl⟩
 | false=>exact .inl ⟨Classical.byContradiction (λh=>Bool.noConfusion (hb.2 h)),rfl⟩
theorem kA {body:Int->Option (Stp Int (Unit⊕Y))} (N:Nat) (P:Nat->Prop) (Q:Y->Prop)
  (hb:∀k,k<N->(P k/\body (k:Int)=some (.next ((k+1:Nat):Int)))\/(¬P k/\∃y,Q y/\body (k:Int)=some (.done (.inr y))))
  (K:∀k,N<=k->body (k:Int)=some (.done (.inl ()))):
  (zE body 0=some (.inl ())/\∀j,j<N->P j)\/(∃y,Q y/\zE body 0=some (.inr y)/\¬∀j,j<N->P j):=by
 rcases z8K N P Q 0 (λk _ h=>hb k h) K N 0 (by omega) (by omega) with ⟨D,G⟩ | ⟨y,T,D,G⟩
 ·exact .inl ⟨D,λj H=>G j (by omega) H⟩
 ·exact .inr ⟨y,T,D,λO=>G λj _ H=>O j H⟩
theorem zP3 {body:Int->Option (Stp Int (Unit⊕Y))} (N:Nat) (P:Nat->Prop) (Q:Y->Prop)
  (hb:∀k,k+1<N->(P k/\body ((k+1:Nat):Int)=some (.next ((k+2:Nat):Int)))\/(¬P k/\∃y,Q y/\body ((k+1:Nat):Int)=some (.done (.inr y))))
  (H:∀k,N<=k->body (k:Int)=some (.done (.inl ()))):
  (zE body 1=some (.inl ())/\∀j,j+1<N->P j)\/(∃y,Q y/\zE body 1=some (.inr y)/\¬∀j,j+1<N->P j):=by
 have:=z8K N (λk=>P (k-1)) Q 1 (λk D h=>by
  cases k with
  | zero=>omega
  | succ k=>exact hb k h) H (N-1) 1 (by omega) (by omega)
 rcases this with ⟨D,h⟩ | ⟨y,Z,D,h⟩
 ·exact .inl ⟨D,λj O=>h (j+1) (by omega) O⟩
 ·refine .inr ⟨y,Z,D,λK=>h λj T G=>?_⟩
  cases j with
  | zero=>omega
  | succ j=>exact K j G
def spOk (s:bL):Prop:=0<=s.Lo/\s.Hi<=1114111/\s.Lo<=s.Hi/\1<=s.Value/\s.Value<=254
def adOk (a b:bL):Prop:=a.Hi<b.Lo/\¬(b.Lo=a.Hi+1/\b.Value=a.Value)
def hgOk (s:bL):Prop:= ¬(s.Lo<=4370/\4352<=s.Hi)/\¬(s.Lo<=4469/\4449<=s.Hi)/\¬(s.Lo<=4546/\4520<=s.Hi)/\¬(s.Lo<=55203/\44032<=s.Hi)
structure CV (l:List bL):Prop where
 sp:∀k,k<l.length->spOk (nth l k)
 ad:∀k,k+1<l.length->adOk (nth l k) (nth l (k+1))
 hg:∀k,k<l.length->hgOk (nth l k)
theorem yXF (s:bL):(zE (λ(x:Int)=>wS ({x0:=({Lo:=4352,Hi:=4370}:Range),x1:=({Lo:=4449,Hi:=4469}:Range),x2:=({Lo:=4520,Hi:=4546}:Range),x3:=({Lo:=44032,Hi:=55203}:Range)}:dA) s x) 0=some (.inl ())/\hgOk s)\/(zE (λ(x:Int)=>wS ({x0:=({Lo:=4352,Hi:=4370}:Range),x1:=({Lo:=4449,Hi:=4469}:Range),x2:=({Lo:=4520,Hi:=4546}:Range),x3:=({Lo:=44032,Hi:=55203}:Range)}:dA) s x) 0=some (.inr 11)/\¬hgOk s):=by
 have h:=kA (body:=λ(x:Int)=>wS ({x0:=({Lo:=4352,Hi:=4370}:Range),x1:=({Lo:=4449,Hi:=4469}:Range),x2:=({Lo:=4520,Hi:=4546}:Range),x3:=({Lo:=44032,Hi:=55203}:Range)}:dA) s x) 4
  (λk=> ¬(s.Lo<=(nth [({Lo:=4352,Hi:=4370}:Range),{Lo:=4449,Hi:=4469},{Lo:=4520,Hi:=4546},{Lo:=44032,Hi:=55203}] k).Hi/\(nth [({Lo:=4352,Hi:=4370}:Range),{Lo:=4449,Hi:=4469},{Lo:=4520,Hi:=4546},{Lo:=44032,Hi:=55203}] k).Lo<=s.Hi)) (λy=>y=11) (λk K=>?_) (λk K=>?_)
 ·have e:(∀j,j<4->¬(s.Lo<=(nth [({Lo:=4352,Hi:=4370}:Range),{Lo:=4449,Hi:=4469},{Lo:=4520,Hi:=4546},{Lo:=44032,Hi:=55203}] j).Hi/\(nth [({Lo:=4352,Hi:=4370}:Range),{Lo:=4449,Hi:=4469},{Lo:=4520,Hi:=4546},{Lo:=44032,Hi:=55203}] j).Lo<=s.Hi))↔hgOk s:=by
   unfold hgOk;constructor
   ·intro h;exact⟨h 0 (by omega),h 1 (by omega),h 2 (by omega),h 3 (by omega)⟩
   ·rintro⟨O,D,G,T⟩ j Z
    match j,Z with
    | 0,_=>exact O
    | 1,_=>exact D
    | 2,_=>exact G
    | 3,_=>exact T
  rw[e] at h;rcases h with h | ⟨y,rfl,h⟩
  ·exact .inl h
  ·exact .inr h
 ·have hi:yO [({Lo:=4352,Hi:=4370}:Range),{Lo:=4449,Hi:=4469},{Lo:=4520,Hi:=4546},{Lo:=44032,Hi:=55203}] (k:Int)=some (nth [({Lo:=4352,Hi:=4370}:Range),{Lo:=4449,Hi:=4469},{Lo:=4520,Hi:=4546},{Lo:=44032,Hi:=55203}] k):=zW (by simpa using K)
  have H:decide ((k:Int)<4)=true:=by simp;omega
  simp only[wS,H,dO,hi,zA,zN,zL (k:=k) (by omega)];generalize nth [({Lo:=4352,Hi:=4370}:Range),{Lo:=4449,Hi:=4469},{Lo:=4520,Hi:=4546},{Lo:=44032,Hi:=55203}] k=q;by_cases D:s.Lo<=q.Hi<;>by_cases G:q.Lo<=s.Hi<;>simp[D,G]
 ·have H:decide ((k:Int)<4)=false:=by simp;omega
  simp only[wS,H,dN]
theorem z8L {l:List bL} (hl:l.length<=30000) (ah:∀x∈l,cZ x):Ver (zDB l) (CV l):=by
 have T:=kA (body:=λ(x:Int)=>zAG l x) l.length (λk=>spOk (nth l k)) (λy=>y≠0) (λk D=>by
  simp only[zAG,yY D,dO,zW D,zA,zN,zL (k:=k) (by omega),spOk];generalize nth l k=q;by_cases H:q.Lo<0<;>by_cases K:1114111<q.Hi<;>by_cases h3:q.Hi<q.Lo<;>by_cases h4:q.Value<1<;>by_cases h5:254<q.Value<;>simp[H,K,h3,h4,h5]<;>omega) (λk D=>by simp only[zAG,kU D,dN])
 unfold zDB Ver;rcases T with ⟨T,O⟩ | ⟨y,Z,T,O⟩
 rw[T];simp only[zA,fw];have H:=zP3 (body:=λ(x:Int)=>zAH l x) l.length (λk=>adOk (nth l k) (nth l (k+1))) (λy=>y≠0) (λk D=>by
  have G:k<l.length:=by omega
  have w:=(O k G).2.1;have w0:=(O k G).1;have w1:=(O k G).2.2.1;simp only[zAH,yY D,dO,zW D,zA,zN,zL (k:=k+1) (by omega),zP1 (k:=k) (by omega),zW G,adOk];rw[j9 (n:=(nth l k).Hi+1) (by omega) (by omega)];generalize nth l k=q at*;generalize nth l (k+1)=q' at*;exact zAW (by simp only[gQ,eC,d7];omega) (by decide)) (λk D=>by simp only[zAH,kU D,dN])
 rcases H with ⟨H,p1⟩ | ⟨y,Z,H,p1⟩;rw[H];simp only[zA,fw];have K:=kA (body:=λ(x:Int)=>zAI l x) l.length (λk=>hgOk (nth l k)) (λy=>y≠0) (λk D=>by
  simp only[zAI,yY D,dO,zW D,zA,zN,zL (k:=k) (by omega)];rcases yXF (nth l k) with ⟨h,p⟩ | ⟨h,p⟩
  rw[h];exact .inl ⟨p,rfl⟩;rw[h];exact .inr ⟨p,11,by decide,rfl⟩) (λk D=>by simp only[zAI,kU D,dN])
 rcases K with ⟨K,p2⟩ | ⟨y,Z,K,p2⟩;rw[K];exact⟨0,rfl,by simp only[true_iff];exact⟨O,p1,p2⟩⟩
 rw[K];exact⟨y,rfl,by simp only[Z,io];exact λh=>p2 h.hg⟩
 rw[H];exact⟨y,rfl,by simp only[Z,io];exact λh=>p1 h.ad⟩
 rw[T];exact⟨y,rfl,by simp only[Z,io];exact λh=>O h.sp⟩
theorem yL5:∀(x y:Str),Op.bytesLess x y=decide (x<y)
 | [],[]=>by simp[Op.bytesLess]
 | _::_,[]=>by simp[Op.bytesLess]
 | [],_::_=>by simp[Op.bytesLess]
 | a::x,b::y=>by
  rw[Op.bytesLess,yL5 x y];rw[i4];simp[List.cons_lt_cons_iff]
theorem yB1 (s:Str) (D:s.length<=MX):zE (λ(x:Int)=>zAJ s x) 0=some (toS (chk (λ_ (b:UInt8)=>if zJB (b.toNat:Int) then none else some false) s 0)):=by
 refine zP2 s _ (λk h=>?_) (λk h=>?_);simp only[zAJ,yY h,dO,z8G h,zA,zN,zL (k:=k) (by unfold MX at D;omega)]
 have e:(((!(decide ((65:Int)<=(s[k].toNat:Int))&&decide ((s[k].toNat:Int)<=90) ||decide ((97:Int)<=(s[k].toNat:Int))&&decide ((s[k].toNat:Int)<=122)))&& !(decide ((48:Int)<=(s[k].toNat:Int))&&decide ((s[k].toNat:Int)<=57)))&& !decide ((s[k].toNat:Int)=95))= !zJB (s[k].toNat:Int):=by
  unfold zJB;generalize (decide ((65:Int)<=(s[k].toNat:Int))&&decide ((s[k].toNat:Int)<=90) ||decide ((97:Int)<=(s[k].toNat:Int))&&decide ((s[k].toNat:Int)<=122))=A;generalize (decide ((48:Int)<=(s[k].toNat:Int))&&decide ((s[k].toNat:Int)<=57))=B;generalize decide ((s[k].toNat:Int)=95)=C;cases A<;>cases B<;>cases C<;>rfl
 rw[e];cases zJB (s[k].toNat:Int)<;>rfl;simp only[zAJ,kU h,dN]
theorem yL6 {s:Str} (K:s.length<=MX):zE1 s=some (z1Y s):=by
 unfold zE1;rw[zN];cases s with
 | nil=>rfl
 | cons x l=>
  have G:((x::l:Str)== [])=false:=rfl;rw[G,fo];by_cases D:32<(x::l).length
  ·
   have:decide ((32:Int)<((x::l).length:Int))=true:=by simp at D ⊢;omega
   rw[this,dO];unfold z1Y;cases H:chk (λ_ (b:UInt8)=>if zJB (b.toNat:Int) then none else some false) (x::l) 0 with
   | none=>
    have:decide ((x::l).length<=32)=false:=by simp at D ⊢;omega
    simp only[this,i6]
   | some y=>
    have:y=false:=z8I (P:=λy=>y=false) (λk b y h=>by split at h<;>simp_all) H
    simp[this]
  ·
   have:decide ((32:Int)<((x::l).length:Int))=false:=by simp at D ⊢;omega
   rw[this,dN,yB1 _ K,zA,zTB];unfold z1Y;cases chk (λ_ (b:UInt8)=>if zJB (b.toNat:Int) then none else some false) (x::l) 0 with
   | none=>simp at D ⊢;omega
   | some y=>rfl
def codesOk (m:aG):Prop:=vld m.aN=true/\∀c∈m.To,vld c=true
def tagOk (m:aG):Prop:=m.bU= []\/z1Y m.bU=true
def mlt (a b:aG):Prop:=a.aN<b.aN\/(a.aN=b.aN/\a.bU<b.bU)
structure MV (l:List aG):Prop where
 co:∀m∈l,codesOk m
 sz:∀m∈l,m.To.length<=64
 tg:∀m∈l,tagOk m
 lt:∀k,k+1<l.length->mlt (nth l k) (nth l (k+1))
theorem yL7 {body:Int->Option (Stp Int (Unit⊕Int))} {P:Prop} (h:(zE body 0=some (.inl ())/\P)\/(∃y,y≠0/\zE body 0=some (.inr y)/\¬P)) {f:Unit->Option Int} {R:Prop} (G:P->Ver (f ()) R) (D:R->P):
  Ver ((zE body 0).bind λy=>y.elim f λy=>some y) R:=by
 rcases h with ⟨h,p⟩ | ⟨y,H,h,p⟩
 ·rw[h];exact G p
 ·rw[h];exact⟨y,rfl,by simp only[H,io];exact λr=>p (D r)⟩
section
variable (hl:l.length<=30000) (hto:∀m∈l,m.To.length<=30000) (htg:∀m∈l,m.bU.length<=MX)
include hl hto htg
theorem yL8:Ver (zFW l) ((∀m∈l,codesOk m)/\(∀m∈l,m.To.length<=64)/\∀m∈l,tagOk m):=by
 unfold zFW;refine yL7 (P:= ∀m∈l,codesOk m) ?_ (λZ=>?_) (λr=>r.1)
 ·have h:=kA (body:=λ(x:Int)=>zA2 l x) l.length (λk=>codesOk (nth l k)) (λy=>y≠0) (λk D=>?_) (λk D=>by simp only[zA2,kU D,dN])
  ·rw[zAP (p:=codesOk)] at h;exact h
  ·simp only[zA2,yY D,dO,zW D,zA,zTC,zL (k:=k) (by omega)]
   by_cases H:vld (nth l k).aN=true
   ·have G:=kA (body:=λ(x:Int)=>zA1 (nth l k) x) (nth l k).To.length (λj=>vld (nth (nth l k).To j)=true) (λy=>y≠0) (λj K=>by
     simp only[zA1,yY K,dO,zW K,zA,zTC,zL (k:=j) (by have:=hto _ (wP D);omega)]
     exact zAW (by simp) (by decide)) (λj K=>by simp only[zA1,kU K,dN])
    rw[zAP (p:=λc=>vld c=true)] at G;simp only[H,dY,dN];rcases G with ⟨G,p⟩ | ⟨y,T,G,p⟩
    ·rw[G];exact .inl ⟨⟨H,p⟩,rfl⟩
    ·rw[G];exact .inr ⟨λq=>p q.2,y,T,rfl⟩
   ·simp only[iW] at H
    simp only[H,eD,dO];exact .inr ⟨λq=>(by rw[q.1] at H;cases H),1,by decide,rfl⟩
 ·refine yL7 (P:= ∀m∈l,m.To.length<=64) ?_ (λp1=>?_) (λr=>r.2.1)
  ·have h:=kA (body:=λ(x:Int)=>zA3 l x) l.length (λk=>(nth l k).To.length<=64) (λy=>y≠0) (λk D=>by
    simp only[zA3,yY D,dO,zW D,zA,zL (k:=k) (by omega)];exact zAW (by simp only[d7];omega) (by decide)) (λk D=>by simp only[zA3,kU D,dN])
   rw[zAP (p:=λ(m:aG)=>m.To.length<=64)] at h;exact h
  ·refine yL7 (P:= ∀m∈l,tagOk m) ?_ (λp2=>⟨0,rfl,by simp only[true_iff];exact⟨Z,p1,p2⟩⟩) (λr=>r.2.2)
   have h:=kA (body:=λ(x:Int)=>zA4 l x) l.length (λk=>tagOk (nth l k)) (λy=>y≠0) (λk D=>by
    simp only[zA4,yY D,dO,zW D,zA,zN,zL (k:=k) (by omega),tagOk];have hb:((nth l k).bU== [])=decide ((nth l k).bU= []):=by cases (nth l k).bU<;>rfl
    rw[hb];by_cases O:(nth l k).bU= []
    ·simp only[O,eH,dY,zBR,zA,fj,dN]
     exact .inl ⟨.inl trivial,trivial⟩
    ·simp only[O,e6,eD,vN,yL6 (htg _ (wP D)),zA,eV,false_or]
     exact zAW (by simp) (by decide)) (λk D=>by simp only[zA4,kU D,dN])
   rw[zAP (p:=tagOk)] at h;exact h
omit hl hto htg in
theorem yXG (a b:Int):zKC [a,b]=some (if a=0 then b else a):=by have D:decide ((0:Int)<(([a,b]:LI).length:Int))=true:=rfl;have G:decide ((1:Int)<(([a,b]:LI).length:Int))=true:=rfl;have H:decide ((2:Int)<(([a,b]:LI).length:Int))=false:=rfl;unfold zKC;rw[yQ];simp only[zEJ,D,dO,z8F,zA];by_cases h:a=0;subst h;simp only[eH,dY,dN,eK];have K:wi (0+1)=1:=j9 (by omega) (by omega);rw[K,yQ];simp only[zEJ,G,dO];have:yO ([0,b]:LI) 1=some b:=rfl;rw[this];simp only[zA];by_cases hb:b=0;subst hb;simp only[eH,dY,dN];have O:wi (1+1)=2:=j9 (by omega) (by omega);rw[O,yQ];simp only[zEJ,H,dN];rfl;simp[hb];simp[h]
omit hl hto htg in
theorem yZL (x y:Str):zBA x y=some (if x<y then -1 else if y<x then 1 else 0):=by
 unfold zBA zDC;simp only[zA,beq_self_eq_true,dY,dN,yL5];by_cases h:x<y
 ·simp[h]
 ·by_cases G:x=y
  ·subst G;simp[h]
  ·have D:y<x:=by
    by_cases D:y<x
    ·exact D
    ·exact absurd (List.le_antisymm (List.not_lt.1 D) (List.not_lt.1 h)) G
   have hb:(x==y)=false:=by simpa using G
   simp[h,D,hb]
omit hl hto htg in
theorem yZM (a b:aG):∃e,zD3 a b=some e/\(0<=e↔¬mlt a b):=by
 unfold zD3;simp only[yUO,yZL,zA,yXG];refine⟨_,rfl,?_⟩;unfold mlt;by_cases h:a.aN<b.aN;simp[h];by_cases G:b.aN<a.aN;have:¬a.aN=b.aN:=by omega
 simp[h,G,this];have:a.aN=b.aN:=by omega
 by_cases D:a.bU<b.bU;simp[this,D];by_cases H:b.bU<a.bU<;>simp[this,D,H]
omit hto htg in
theorem yQD:∀(n k:Nat) (b:Bool),l.length-k=n->1<=k->∃r,zE (λ(x:Bool×Int)=>uD l x.1 x.2) (b,(k:Int))=some r/\(r=true↔b=true/\∀j,k<=j+1->j+1<l.length->mlt (nth l j) (nth l (j+1))):=by
 intro n
 induction n with
 | zero=>
  intro k b hk Z;refine⟨b,?_,?_⟩;rw[yQ];simp only[uD,kU (show l.length<=k by omega),dN];exact⟨λh=>⟨h,λj K G=>by omega⟩,λh=>h.1⟩
 | succ n ih=>
  intro k b hk Z;obtain⟨k,rfl⟩:∃k',k=k'+1:=⟨k-1,by omega⟩;have D:k+1<l.length:=by omega
  obtain⟨e,he,O⟩:=yZM (nth l k) (nth l (k+1));obtain⟨r,hr,hq⟩:=ih (k+2) (cond (decide (0<=e)) false b) (by omega) (by omega);refine⟨r,?_,?_⟩;rw[yQ];simp only[uD,yY D,dO,zP1 (k:=k) (by omega),zW (show k<l.length by omega),zW D,zA,he,zL (k:=k+1) (by omega)];rw[<-hr];cases decide (0<=e)<;>rfl;rw[hq];by_cases H:mlt (nth l k) (nth l (k+1));have:decide (0<=e)=false:=by simp only[dS];exact λh=>O.1 h H
  rw[this,dN];constructor
  rintro⟨a,c⟩
  refine⟨a,λj K G=>?_⟩;by_cases T:j=k;subst T;exact H;exact c j (by omega) G
  rintro⟨a,c⟩;exact⟨a,λj K G=>c j (by omega) G⟩
  have:decide (0<=e)=true:=by simp only[d7];exact O.2 H
  rw[this,dO];constructor
  rintro⟨a,_⟩;cases a
  rintro⟨_,c⟩;exact absurd (c k (by omega) D) H
omit hto htg in
theorem yUQ:∀(n k:Nat) (m:List (bT×Bool)),l.length-k=n->∃r,zE (λ(x:Int×(List (bT×Bool)))=>uE l x.1 x.2) ((k:Int),m)=some r/\(r= .inl ()\/r= .inr 5):=by
 intro n
 induction n with
 | zero=>
  intro k m D;refine⟨.inl (),?_,.inl rfl⟩;rw[yQ];simp only[uE,kU (show l.length<=k by omega),dN]
 | succ n G=>
  intro k m D;have h:k<l.length:=by omega
  rw[yQ];simp only[uE,yY h,dO,zW h,zA,zFY,zL (k:=k) (by omega)];cases wR m ({aY:=(nth l k).aN,dK:=(nth l k).bU}:bT) false with
  | true=>exact⟨.inr 5,rfl,.inr rfl⟩
  | false=>exact G (k+1) _ (by omega)
theorem yUR:Ver (zFZ l) (MV l):=by
 obtain⟨e,he,T⟩:=yL8 hl hto htg;unfold zFZ;rw[he,zA];by_cases H:e=0;subst H;simp only[eH,dY,dN];obtain⟨p0,p1,p2⟩:=T.1 rfl;obtain⟨r,K,Z⟩:=yQD hl (l.length-1) 1 true rfl (by omega);have D:zE (λ(x:Bool×Int)=>uD l x.1 x.2) (true,1)=some r:=K;rw[D,zA];cases r with
 | true=>exact⟨0,rfl,by simp only[true_iff];exact⟨p0,p1,p2,λk hk=>(Z.1 rfl).2 k (by omega) hk⟩⟩
 | false=>
  have G:¬MV l:=λh=>by have:=Z.2 ⟨rfl,λj _ hj=>h.lt j hj⟩;cases this
  obtain⟨r,K,O⟩:=yUQ hl l.length 0 [] (by omega);have D:zE (λ(x:Int×(List (bT×Bool)))=>uE l x.1 x.2) (0,[])=some r:=K;simp only[dN];rw[D,zA];rcases O with rfl | rfl;exact⟨4,rfl,by simp only[show ((4:Int)=0)=False by simp,io];exact G⟩
  exact⟨5,rfl,by simp only[show ((5:Int)=0)=False by simp,io];exact G⟩
 have:(!decide (e=0))=true:=by simp[H]
 rw[this,dO];exact⟨e,rfl,by simp only[H,io];exact λh=>H (T.2 ⟨h.co,h.sz,h.tg⟩)⟩
end
section
variable {α:Type} (lt: α->α->Bool)
def zES:List α->α->List α->List α
 | [],x,s=>x::s
 | y::r,x,s=>if lt x y then zES r x (y::s) else (y::r).reverse++x::s
def zA0 (l:List α) (p:List α):List α:=l.foldl (λp x=>zES lt p.reverse x []) p
theorem zUL:∀(r:List α) (x: α) (s:List α),(zES lt r x s).Perm (r.reverse++x::s)
 | [],x,s=> .refl _
 | y::r,x,s=>by
  unfold zES;split
  ·
   refine(zUL r x (y::s)).trans ?_;simp only[List.reverse_cons,dW,gV];exact List.Perm.append_left _ (List.Perm.swap y x s)
  · exact .refl _
theorem yL9 (r:List α) (x: α) (s:List α):(zES lt r x s).length=r.length+1+s.length:=by rw[(zUL lt r x s).length_eq];simp;omega
theorem zBJ:∀(l p:List α),(zA0 lt l p).Perm (p++l)
 | [],p=>by simp[zA0]
 | x::l,p=>by
  have h:=zBJ l (zES lt p.reverse x []);refine h.trans ?_;have D:=zUL lt p.reverse x [];rw[gY] at D;have G:=List.Perm.append_right l D;simpa using G
variable (tr:∀a b c,lt b a=false->lt c b=false->lt c a=false) (asy:∀a b,lt a b=true->lt b a=false)
abbrev LeB (a b: α):Prop:=lt b a=false
include tr asy
theorem zVK:∀(r:List α) (x: α) (s:List α),(r.reverse++s).Pairwise (LeB lt)->(∀y∈s,LeB lt x y)->(zES lt r x s).Pairwise (LeB lt)
 | [],x,s,h,K=>by simpa[zES] using ⟨K,h⟩
 | y::r,x,s,h,K=>by
  unfold zES;split;rename_i G;refine zVK r x (y::s) (by simpa using h) ?_;intro z hz;rcases eP.1 hz with rfl | hz
  exact asy _ _ G;exact K z hz;rename_i G;have H:LeB lt y x:=by simpa using G
  rw[i8] at h ⊢;refine⟨h.1,gB.2 ⟨K,h.2.1⟩,?_⟩;intro a ha b hb;have D:LeB lt a y\/a=y:=by
   have O:=h.1;rw[List.reverse_cons,i8] at O;rw[List.reverse_cons,fk] at ha;rcases ha with ha | ha
   exact .inl (O.2.2 a ha y (by simp));exact .inr (by simpa using ha)
  rcases eP.1 hb with rfl | hb;rcases D with D | rfl;exact tr _ _ _ D H;exact H;exact h.2.2 a ha b hb
theorem zDX:∀(l p:List α),p.Pairwise (LeB lt)->(zA0 lt l p).Pairwise (LeB lt)
 | [],p,h=>h
 | x::l,p,h=>zDX l _ (zVK lt tr asy p.reverse x [] (by simpa using h) (by simp))
omit tr asy in
theorem z8M:∀(l p:List α),(p++l).Pairwise (LeB lt)->zA0 lt l p=p++l
 | [],p,_=>by simp[zA0]
 | x::l,p,h=>by
  have e:zES lt p.reverse x []=p++ [x]:=by
   cases G:p.reverse with
   | nil=>
    have:p= []:=by simpa using G
    subst this;rfl
   | cons y r=>
    unfold zES;have D:p=r.reverse++ [y]:=by have:=congrArg List.reverse G;simpa using this
    have:lt x y=false:=by
     rw[D,i8] at h;exact h.2.2 y (by simp) x (by simp)
    rw[this];simp[D]
  show zA0 lt l (zES lt p.reverse x [])=_;rw[e,z8M l (p++ [x]) (by simpa using h)];simp
end
def rlt (a b:Range):Bool:=decide (a.Lo<b.Lo) ||(decide (a.Lo=b.Lo)&&decide (a.Hi<b.Hi))
theorem zCT {D:Type} {p s:List D} {x: D} (h:k=p.length):yO (p++x::s) (k:Int)=some x:=by subst h;rw[z8 (by simp)];simp
theorem zF9 {D:Type} {p s:List D} {x y: D} (h:k=p.length):zCV (p++x::s) (k:Int) y=some (p++y::s):=by subst h;rw[zHJ (by simp)];simp
theorem zUM (a b c:Range) (h:rlt b a=false) (D:rlt c b=false):rlt c a=false:=by unfold rlt at*;simp only[fR,eY,dS] at*;omega
theorem zP4 (a b:Range) (h:rlt a b=true):rlt b a=false:=by unfold rlt at*;simp only[fR,eY,dS,gQ,eC,d7] at*;omega
theorem yQE {l:List Range} (h:l.length<=30000):zXU l=some (zA0 rlt l []):=by
 unfold zXU yKR;rw[eG (by unfold LIM;omega)]
 have e:z3J=rlt:=rfl;rw[e];have H:=zBJ rlt l [];rw[eN] at H;refine congrArg some (List.Perm.eq_of_pairwise (le:=LeB rlt) (λa b _ _ D G=>?_) ?_ (zDX rlt zUM zP4 l [] List.Pairwise.nil) ((List.mergeSort_perm l _).trans H.symm));unfold LeB rlt at D G;obtain⟨O,K⟩:=a;obtain⟨Z,T⟩:=b;simp only[fR,eY,dS] at D G;simp only[Range.mk.injEq];omega;refine(List.pairwise_mergeSort (le:=λa b=>!rlt b a) (λa b c D G=>?_) (λa b=>?_) l).imp (λ{a b} h=>?_);simp only[fG] at D G ⊢;exact zUM _ _ _ D G;cases h:rlt b a with
 | false=>simp
 | true=>simp[zP4 _ _ h]
 unfold LeB;simpa using h
def zDY (r:Range):Prop:=0<=r.Lo/\r.Lo<=r.Hi/\r.Hi<=1114111
def Can:List Range->Prop
 | []=>True
 | [r]=>zDY r
 | r::q::l=>zDY r/\r.Hi+1<q.Lo/\Can (q::l)
theorem Can.head {l:List Range} (h:Can (r::l)):zDY r:=by
 cases l with
 | nil=>exact h
 | cons q l=>exact h.1
theorem Can.tail {l:List Range} (h:Can (r::l)):Can l:=by
 cases l with
 | nil=>trivial
 | cons q l=>exact h.2.2
theorem Can.ok:∀{l:List Range},Can l->∀r∈l,zDY r
 | [],_,r,D=>by cases D
 | q::l,h,r,D=>by
  rcases eP.1 D with rfl | D;exact h.head;exact Can.ok h.tail r D
theorem Can.gap:∀{l:List Range} {r:Range},Can (r::l)->∀q∈l,r.Hi+1<q.Lo
 | [],_,_,q,D=>by cases D
 | a::l,r,h,q,D=>by
  rcases eP.1 D with rfl | D;exact h.2.1;have H:=Can.gap h.2.2 q D;have G:=(h.2.2.head);have K:=h.2.1;unfold zDY at G;omega
theorem Can.sorted:∀{l:List Range},Can l->l.Pairwise (LeB rlt)
 | [],_=> .nil
 | r::l,h=>by
  refine gB.2 ⟨λq G=>?_,Can.sorted h.tail⟩;have H:=Can.gap h q G;have D:=h.head;unfold zDY at D;unfold LeB rlt;simp only[fR,eY,dS];omega
def zQK (r:Range):Range:={Lo:=max r.Lo 0,Hi:=min r.Hi 1114111}
def zBP (l:List Range):List Range:=(l.map zQK).filter λr=>decide (r.Lo<=r.Hi)
theorem zYD (x:Range) (l:List Range):zBP (x::l)=(if (zQK x).Lo<=(zQK x).Hi then [zQK x] else [])++zBP l:=by unfold zBP;rw[fp,List.filter_cons];by_cases h:(zQK x).Lo<=(zQK x).Hi<;>simp[h]
theorem z8N (x:Range) (l:List Range):zBP (x::l)=(if max x.Lo 0<=min x.Hi 1114111 then [({Lo:=max x.Lo 0,Hi:=min x.Hi 1114111}:Range)] else [])++zBP l:=zYD x l
theorem z8O (l:List Range):∀r∈zBP l,zDY r:=by intro r D;unfold zBP at D;rw[fX,fL] at D;obtain⟨⟨q,_,rfl⟩,h⟩:=D;simp only[d7] at h;unfold zQK at h ⊢;unfold zDY;simp only at h ⊢;omega
theorem yMA {l:List Range} (h:∀r∈l,zDY r):zBP l=l:=by
 induction l with
 | nil=>rfl
 | cons x l H=>
  have D:=h x (by simp);have:zQK x=x:=by
   unfold zDY at D;unfold zQK;cases x;simp only[Range.mk.injEq] at D ⊢;omega
  rw[zYD,this,eG D.2.1,H λr G=>h r (by simp[G])];rfl
theorem zUN (l:List Range):(zBP l).length<=l.length:=by unfold zBP;exact fA (i7 _ _) (by simp)
theorem yZN {l:List Range} (T:l.length<=30000):∀(n k:Nat) (o:List Range),l.length-k=n->k<=l.length->o.length<=k->zE (λ(x:Int×(List Range))=>zCH l x.1 x.2) ((k:Int),o)=some (o++zBP (l.drop k)):=by
 intro n
 induction n with
 | zero=>
  intro k o H K O;rw[yQ];simp only[zCH,kU (show l.length<=k by omega),dN];rw[eJ (by omega)];simp[zBP]
 | succ n G=>
  intro k o H K O;have h:k<l.length:=by omega
  rw[yQ];simp only[zCH,yY h,dO,z8 h,zA,zL (k:=k) (by omega)];rw[eA h,z8N];by_cases D:max l[k].Lo 0<=min l[k].Hi 1114111;simp only[D,eH,dO,eK];rw[j7 (by simp;omega)]
  simp only[zA];have:=G (k+1) (o++ [({Lo:=max l[k].Lo 0,Hi:=min l[k].Hi 1114111}:Range)]) (by omega) (by omega) (by simp;omega)
  rw[dW] at this;exact this;simp only[D,e6,dN,eE,zA,eN];exact G (k+1) o (by omega) (by omega) (by omega)
def mrg:List Range->Range->List Range
 | [],r=>[r]
 | q::l,r=>if r.Lo<=q.Hi+1 then {q with Hi:=max q.Hi r.Hi}::l else r::q::l
theorem zI2 (q:Range) (l:List Range) (r:Range):mrg (q::l) r=if r.Lo<=q.Hi+1 then {q with Hi:=max q.Hi r.Hi}::l else r::q::l:=rfl
theorem yDT (o:List Range) (r:Range):(mrg o r).length<=o.length+1:=by
 cases o with
 | nil=>simp[mrg]
 | cons q l=>rw[zI2];split<;>simp
theorem yUS {o:List Range} (h:∀q∈o,zDY q) (D:zDY r):∀q∈mrg o r,zDY q:=by
 cases o with
 | nil=>simpa[mrg] using D
 | cons q l=>
  intro x hx;have G:=h q (by simp);unfold zDY at G D;rw[zI2] at hx;split at hx;rcases eP.1 hx with rfl | hx
  unfold zDY;simp only;omega;exact h x (by simp[hx]);rcases eP.1 hx with rfl | hx
  exact D;exact h x hx
theorem yZO {t:List Range} (ht:t.length<=30000) (K:∀r∈t,zDY r):∀(n k:Nat) (o:List Range),t.length-k=n->k<=t.length->o.length<=k->(∀r∈o,zDY r)->zE (λ(x:Int×(List Range))=>zCI t x.1 x.2) ((k:Int),o.reverse)=some ((t.drop k).foldl mrg o).reverse:=by
 intro n
 induction n with
 | zero=>
  intro k o h1 h2 T H;rw[yQ];simp only[zCI,kU (show t.length<=k by omega),dN];rw[eJ (by omega)];rfl
 | succ n ih=>
  intro k o h1 h2 T H;have h:k<t.length:=by omega
  have hr:=K _ (fI h);rw[eA h,gG];rw[<-ih (k+1) (mrg o t[k]) (by omega) (by omega) (by have:=yDT o t[k];omega) (yUS H hr)]
  rw[yQ];simp only[zCI,yY h,dO,z8 h,zA,zN,zL (k:=k) (by omega)];cases o with
  | nil=>
   have G:decide ((0:Int)<((([]:List Range).reverse).length:Int))=false:=rfl;simp only[G,zBR,zA,fj,dN];rw[j7 (by simp)];rfl
  | cons q l=>
   have hq:=H q (by simp);unfold zDY at hq;have D:((q::l).reverse).length=l.length+1:=by simp
   simp only[eF] at T;have G:decide ((0:Int)<(((q::l).reverse).length:Int))=true:=by rw[D];simp<;>omega
   have e1:wi ((((q::l).reverse).length:Int)-1)=(l.length:Int):=by rw[D];exact zP1 (by omega)
   have O:(q::l).reverse=l.reverse++q:: []:=by simp
   have i1:yO (q::l).reverse (l.length:Int)=some q:=by rw[O];exact zCT (by simp)
   have e3:wi (q.Hi+1)=q.Hi+1:=j9 (by omega) (by omega);simp only[G,e1,i1,vN,zA,eV,e3];rw[zI2];by_cases Z:t[k].Lo<=q.Hi+1;simp only[Z,eH,dO,eK];have s1:zCV (q::l).reverse (l.length:Int) ({q with Hi:=max q.Hi t[k].Hi})=some (({q with Hi:=max q.Hi t[k].Hi}::l).reverse):=by
    rw[O,zF9 (by simp)];simp
   rw[s1];rfl;simp only[Z,e6,dN,eE];rw[j7 (by simp;omega)]
   simp only[zA];congr 2;simp
def mkE (l:List Range):List Range:=((zA0 rlt (zBP l) []).foldl mrg []).reverse
theorem z8P {l:List Range} (O:l.length<=30000):zGN l=some {Ranges:=mkE l}:=by
 unfold zGN;have H:=yZN (l:=l) (by omega) l.length 0 [] (by omega) (by omega) (by simp);simp only[e9,eN] at H;have h:zE (λ(x:Int×(List Range))=>zCH l x.1 x.2) (0,[])=some (zBP l):=H;rw[h,zA,yQE (fA (zUN l) O),zA];have G:=zBJ rlt (zBP l) [];simp only[eN] at G;have K:=yZO (t:=zA0 rlt (zBP l) []) (by rw[G.length_eq];have:=zUN l;omega) (λr T=>z8O l r (G.mem_iff.1 T)) (zA0 rlt (zBP l) []).length 0 [] (by omega) (by omega) (by simp) (by simp)
 simp only[e9] at K;have D:zE (λ(x:Int×(List Range))=>zCI (zA0 rlt (zBP l) []) x.1 x.2) (0,[])=some (mkE l):=K;rw[D];rfl
theorem yQF {l:List Range} (h:l.length<=12):zGN l=some {Ranges:=mkE l}:=z8P (by omega)
def CanR:List Range->Prop
 | []=>True
 | [r]=>zDY r
 | r::q::l=>zDY r/\q.Hi+1<r.Lo/\CanR (q::l)
theorem CanR.tail {l:List Range} (h:CanR (r::l)):CanR l:=by
 cases l with
 | nil=>trivial
 | cons q l=>exact h.2.2
theorem CanR.head {l:List Range} (h:CanR (r::l)):zDY r:=by
 cases l with
 | nil=>exact h
 | cons q l=>exact h.1
theorem z4K:∀(r l:List Range),CanR r->Can l->(∀x y,r.head? =some x->l.head? =some y->x.Hi+1<y.Lo)->Can (r.reverse++l)
 | [],l,_,h,_=>h
 | x::r,l,D,K,H=>by
  have:=z4K r (x::l) D.tail (by
   cases l with
   | nil=>exact D.head
   | cons y l=>exact⟨D.head,H x y rfl rfl,K⟩) (λa b G hb=>by
    cases r with
    | nil=>cases G
    | cons q r=>simp only[iJ,gD] at G hb;subst G;subst hb;exact D.2.1)
  simpa using this
theorem yDU:∀(t o:List Range),t.Pairwise (LeB rlt)->(∀r∈t,zDY r)->CanR o->(∀q r,o.head? =some q->r∈t->q.Lo<=r.Lo)->CanR (t.foldl mrg o)
 | [],o,_,_,h,_=>h
 | r::t,o,hs,K,Z,H=>by
  have T:=gB.1 hs;have hr:=K r (by simp);have O:∀x∈t,r.Lo<=x.Lo:=λx G=>by
   have:=T.1 x G;unfold LeB rlt at this;simp only[fR,dS] at this;omega
  rw[gG];refine yDU t (mrg o r) T.2 (λx G=>K x (by simp[G])) ?_ ?_;cases o with
  | nil=>exact hr
  | cons q l=>
   have hq:=Z.head;have ad:=H q r rfl (by simp);rw[zI2];split;rename_i hc;unfold zDY at hq hr;cases l with
   | nil=>show zDY _;unfold zDY;simp only;omega
   | cons z l=>exact⟨by unfold zDY;simp only;omega,Z.2.1,Z.2.2⟩
   rename_i hc;exact⟨hr,by omega,Z⟩
  intro q' x D G;cases o with
  | nil=>simp only[mrg,iJ,gD] at D;subst D;exact O x G
  | cons q l=>
   rw[zI2] at D;split at D;simp only[iJ,gD] at D;subst D;exact H q x rfl (by simp[G]);simp only[iJ,gD] at D;subst D;exact O x G
theorem yQG (l:List Range):Can (mkE l):=by have D:=zBJ rlt (zBP l) [];simp only[eN] at D;have h:=yDU (zA0 rlt (zBP l) []) [] (zDX rlt zUM zP4 _ _ .nil) (λr G=>z8O l r (D.mem_iff.1 G)) trivial (λ_ _ h=>by cases h);have:=z4K _ [] h trivial (λ_ _ _ h=>by cases h);simpa[mkE] using this
theorem yMB:∀(t o:List Range),Can (o.reverse++t)->t.foldl mrg o=t.reverse++o
 | [],o,_=>by simp
 | r::t,o,h=>by
  rw[gG];have e:mrg o r=r::o:=by
   cases o with
   | nil=>rfl
   | cons q l=>
    rw[zI2];have:Can (q::r::t):=by
     have D:Can (l.reverse++(q::r::t)):=by simpa using h
     clear h;generalize l.reverse=z at D
     induction z with
     | nil=>exact D
     | cons a z G=>exact G D.tail
    have:=this.2.1;rw[dU (by omega)]
  rw[e,yMB t (r::o) (by simpa using h)];simp
theorem yUT {l:List Range} (h:Can l):mkE l=l:=by unfold mkE;rw[yMA h.ok,z8M rlt l [] (by simpa using h.sorted)];simp only[eN];rw[yMB l [] (by simpa using h)];simp
theorem yQH (l:List Range):mkE l=l↔Can l:=⟨λh=>h▸yQG l,yUT⟩
theorem z8Q {s:Set} (Z:s.Ranges.length<=12):∃b,zG1 s=some b/\(b=true↔Can s.Ranges):=by
 unfold zG1;rw[yQF Z,zA,<-yQH];by_cases D:(mkE s.Ranges).length=s.Ranges.length;have H:(!decide (((mkE s.Ranges).length:Int)=(s.Ranges.length:Int)))=false:=by simp[D]
 simp only[H,dN];have h:=kA (body:=λ(x:Int)=>zDD {Ranges:=mkE s.Ranges} s x) (mkE s.Ranges).length (λk=>nth (mkE s.Ranges) k=nth s.Ranges k) (λy=>y=false) (λk G=>by
  have K:k<s.Ranges.length:=by omega
  simp only[zDD,yY G,dO,zW G,zW K,zA,zL (k:=k) (by omega)];exact zAW (by simp) rfl) (λk G=>by simp only[zDD,kU G,dN])
 have e:(∀j,j<(mkE s.Ranges).length->nth (mkE s.Ranges) j=nth s.Ranges j)↔mkE s.Ranges=s.Ranges:=by
  constructor;intro h;refine iE D λj O T=>?_;have:=h j O
  rwa [zCQ O,zCQ T] at this
  intro h j _;rw[h]
 rw[e] at h;rcases h with ⟨h,p⟩ | ⟨y,rfl,h,p⟩
 rw[h];exact⟨true,rfl,by simp[p]⟩;rw[h];exact⟨false,rfl,by simp[p]⟩;have H:(!decide (((mkE s.Ranges).length:Int)=(s.Ranges.length:Int)))=true:=by simp;omega
 simp only[H,dO];exact⟨false,rfl,by simp only[fg,io];exact λh=>D (by rw[h])⟩
def hkE (c:Int):Int:=if 4352<=c/\c<4371 then 1 else if 4449<=c/\c<4470 then 2 else if 4520<=c/\c<4547 then 3 else if c<44032\/55204<=c then 0 else if (c-44032)%28=0 then 4 else 5
theorem zIG (c:Int):zB6 c=some (hkE c):=by
 unfold zB6 hkE;simp only[zN];by_cases G:4352<=c/\c<4371;simp[G];by_cases H:4449<=c/\c<4470;have:¬c<4371:=by omega
 simp[H,this];by_cases K:4520<=c/\c<4547;have O:¬c<4371:=by omega
 have T:¬c<4470:=by omega
 simp[K,O,T];have Z:(decide (4352<=c)&&decide (c<4371))=false:=by simp only[eY,dS];omega
 have e2:(decide (4449<=c)&&decide (c<4470))=false:=by simp only[eY,dS];omega
 have e3:(decide (4520<=c)&&decide (c<4547))=false:=by simp only[eY,dS];omega
 simp only[Z,e2,e3,dN,G,H,K,eE];by_cases D:c<44032\/55204<=c;have h:(decide (c<44032) ||decide (55204<=c))=true:=by simpa using D
 simp only[h,dO,D,eK];have h:(decide (c<44032) ||decide (55204<=c))=false:=by simp only[fR,dS];omega
 simp only[h,dN,D,eE];rw[j9 (by omega) (by omega)];unfold zKY;rw[dU (by omega),zA];have:(c-44032).tmod 28=(c-44032)%28:=g4 (by omega);rw[this];by_cases h5:(c-44032)%28=0<;>simp[h5]
def syl (c:Int):Bool:=decide (44032<=c)&&decide (c<=55203)
theorem zJO (c:Int):syl c=true↔4<=hkE c:=by
 unfold syl hkE;simp only[eC,d7]
 repeat' split
 all_goals omega
def hdE (c:Int):LI:=if syl c=true then [4352+(c-44032)/28/21,4449+(c-44032)/28%21]++(if 0<(c-44032)%28 then [4520+(c-44032)%28-1] else []) else [c]
theorem zTD {e:Int} (D:syl c=true) (he:e∈hdE c):syl e=false/\hkE e≠0:=by
 unfold hdE at he;rw[eG D] at he;unfold syl at D;simp only[eC,d7] at D;have key:(4352<=e/\e<4371)\/(4449<=e/\e<4470)\/(4520<=e/\e<4547):=by
  simp only[fk,eP,List.not_mem_nil,or_false] at he;rcases he with (rfl | rfl) | he
  left;omega;right;left;omega;split at he;simp only[fY] at he;right;right;omega;simp at he
 constructor;unfold syl;simp only[eY,dS];omega;unfold hkE;rcases key with h | h | h
 rw[eG h];decide;rw[dU (by omega),eG h];decide;rw[dU (by omega),dU (by omega),eG h];decide
theorem zRU (c:Int):(hdE c).length<=3/\1<=(hdE c).length:=by unfold hdE;split;split<;>simp;simp
theorem yDV (G:syl c=true):zDE c=some (hdE c):=by
 have hk:=(zJO c).1 G;have h:=G;unfold syl at h;simp only[eC,d7] at h;unfold zDE zJM;rw[zIG,zA];have Z:decide (hkE c<4)=false:=by simp;omega
 simp only[Z,dN];rw[j9 (n:=c-44032) (by omega) (by omega)];generalize hn:c-44032=n;have ab:0<=n/\n<11172:=by omega
 have O:n.tdiv 28=n/28:=iL (by omega);have T:(n/28).tdiv 21=n/28/21:=iL (by omega);have m1:n.tmod 28=n%28:=g4 (by omega);have m2:(n/28).tmod 21=n/28%21:=g4 (by omega);simp only[zR7,zKY,show ((28:Int)=0)=False by simp,show ((21:Int)=0)=False by simp,eE,zA,O,m1];rw[j9 (n:=n/28) (by omega) (by omega)];simp only[T,m2];rw[j9 (n:=n/28/21) (by omega) (by omega),j9 (n:=4352+n/28/21) (by omega) (by omega),j9 (n:=4449+n/28%21) (by omega) (by omega),j9 (n:=4520+n%28) (by omega) (by omega),j9 (n:=4520+n%28-1) (by omega) (by omega)];unfold hdE;rw[eG G,hn];by_cases H:0<n%28;simp only[H,eH,dO,zA,eK];have D:decide (({x0:=4352+n/28/21,x1:=4449+n/28%21,x2:=4520+n%28-1}:dB)= {x0:=0,x1:=0,x2:=0})=false:=by simp;omega
 have K:decide ((4520+n%28-1:Int)=0)=false:=by simp;omega
 simp only[D,K,dN];rfl;simp only[H,e6,dN,zA,eE];have D:decide (({x0:=4352+n/28/21,x1:=4449+n/28%21,x2:=0}:dB)= {x0:=0,x1:=0,x2:=0})=false:=by simp;omega
 simp only[D,dN,eH,dO];rfl
theorem zUO {lo hi:Nat} (h:lo+hi<=4611686018427387903):wi ((wu (wi ((lo:Int)+(hi:Int))))/2 ^ 1)=(((lo+hi)/2:Nat):Int):=by rw[j9 (n:=(lo:Int)+hi) (by omega) (by omega)];have:wu ((lo:Int)+(hi:Int))=(lo:Int)+hi:=IntWalk.u64_in _ (by omega);rw[this,j9 (by omega) (by omega)];omega
theorem yDW {n:Nat} (hn:n<=30000) {body:Int×Int->Option (Stp (Int×Int) Int)} (q:Nat->Bool)
  (h:∀k:Nat,k<=n->body ((k:Int),(k:Int))=some (.done (k:Int)))
  (G:∀lo hi:Nat,lo<hi->hi<=n->body ((lo:Int),(hi:Int))=some (.next (if q ((lo+hi)/2) then ((lo:Int),(((lo+hi)/2:Nat):Int)) else ((((lo+hi)/2+1:Nat):Int),(hi:Int)))))
  (mono:∀i j,i<=j->j<n->q i=true->q j=true):
  ∃j,j<=n/\zE body (0,(n:Int))=some (j:Int)/\(∀k,k<j->q k=false)/\(∀k,j<=k->k<n->q k=true):=by
 have key:∀(d lo hi:Nat),hi-lo<=d->lo<=hi->hi<=n->(∀k,k<lo->q k=false)->(∀k,hi<=k->k<n->q k=true)->
   ∃j,j<=n/\zE body ((lo:Int),(hi:Int))=some (j:Int)/\(∀k,k<j->q k=false)/\(∀k,j<=k->k<n->q k=true):=by
  intro d
  induction d with
  | zero=>
   intro lo hi h1 h2 D O T;have:lo=hi:=by omega
   subst this;exact⟨lo,D,zP (h lo D),O,T⟩
  | succ d ih=>
   intro lo hi h1 h2 D O T;by_cases e:lo=hi
   ·subst e
    exact⟨lo,D,zP (h lo D),O,T⟩
   ·have aa:lo<hi:=by omega
    have K:(lo+hi)/2<n:=by omega
    rw[zI (G lo hi aa D)];cases hq:q ((lo+hi)/2) with
    | true=>
     rw[eG rfl];exact ih lo ((lo+hi)/2) (by omega) (by omega) (by omega) O (λk Z H=>mono _ _ Z H hq)
    | false=>
     rw[dU (by simp)];refine ih ((lo+hi)/2+1) hi (by omega) (by omega) D ?_ T;intro k Z;cases ab:q k with
     | false=>rfl
     | true=>
      have:=mono k ((lo+hi)/2) (by omega) K ab;rw[hq] at this;cases this
 exact key n 0 n (by omega) (by omega) (by omega) (by intro k Z;omega) (by intro k Z H;omega)
theorem zTE {D:Type} [Inhabited D] {l:List D} {p: D->Bool} (hi:i<l.length) (h:∀j,j<i->p (nth l j)=false) (H:p (nth l i)=true):l.find? p=some (nth l i):=by rw[List.find?_eq_some_iff_getElem];refine⟨H,i,hi,(zCQ hi).symm,λj G=>?_⟩;have:=h j G;rw[zCQ (by omega)] at this;simp[this]
theorem z4L {D:Type} [Inhabited D] {l:List D} {p: D->Bool} (h:∀j,j<l.length->p (nth l j)=false):l.find? p=none:=by rw[List.find?_eq_none];intro x H;obtain⟨k,G,rfl⟩:=gK H;have:=h k G;rw[zCQ G] at this;simp[this]
def zUP (c:Int) (s:bL):Bool:=decide (s.Lo<=c)&&decide (c<=s.Hi)
def clE (l:List bL) (c:Int):Int:=match l.find? (zUP c) with
 | some s=>s.Value
 | none=>0
theorem CV.mono {l:List bL} (h:CV l):∀(d i:Nat),i+d+1<l.length->(nth l i).Hi<(nth l (i+d+1)).Lo
 | 0,i,hi=>(h.ad i hi).1
 | d+1,i,hi=>by
  have G:=CV.mono h d i (by omega);have D:=h.sp (i+d+1) (by omega);have H:=(h.ad (i+d+1) (by omega)).1;unfold spOk at D;have:i+(d+1)+1=i+d+1+1:=by omega
  rw[this];omega
theorem CV.lt {l:List bL} (h:CV l) (D:i<j) (G:j<l.length):(nth l i).Hi<(nth l j).Lo:=by
 have:=CV.mono h (j-i-1) i (by omega)
 rwa [show i+(j-i-1)+1=j by omega] at this
theorem CV.hi {l:List bL} (h:CV l) (D:i<=j) (G:j<l.length):(nth l i).Hi<=(nth l j).Hi:=by rcases Nat.lt_or_eq_of_le D with H | rfl;have:=h.lt H G;have K:=h.sp j G;unfold spOk at K;omega;exact iq _
theorem yXH {l:List bL} (h:CV l) (hi:i<=l.length) (O:∀j,j<i->(nth l j).Hi<c) (T:∀j,i<=j->j<l.length->c<=(nth l j).Hi):
  clE l c=if i<l.length/\(nth l i).Lo<=c then (nth l i).Value else 0:=by
 unfold clE;by_cases D:i<l.length/\(nth l i).Lo<=c
 ·have H:=zTE (p:=zUP c) D.1 (λj G=>by
   unfold zUP;have:=O j G;simp only[eY,dS];omega) (by
   unfold zUP;simp only[eC,d7];exact⟨D.2,T i (d9 _) D.1⟩)
  rw[eG D,H]
 ·have H:=z4L (l:=l) (p:=zUP c) (λj G=>by
   unfold zUP;simp only[eY,dS];by_cases K:j<i
   ·have:=O j K;omega
   ·by_cases e:j=i
    ·subst e;left;exact λZ=>D ⟨G,Z⟩
    ·have h1:=h.lt (show i<j by omega) G
     have h2:=T i (d9 _) (by omega);left;omega)
  rw[dU D,H]
theorem zHL {l:List bL} (h:CV l) (hl:l.length<=30000) (c:Int):kX l c=some (clE l c):=by
 obtain⟨j,T,hr,K,G⟩:=yDW (n:=l.length) hl (body:=λ(x:Int×Int)=>yB l (λx0 x1=>zA5 x0 x1) c x.1 x.2) (λk=>decide (c<=(nth l k).Hi))
  (λk _=>by simp only[yB,kU (d9 _),dN])
  (λlo hi h1 h2=>by
   have hm:(lo+hi)/2<l.length:=by omega
   simp only[yB,yY h1,dO,zUO (show lo+hi<=4611686018427387903 by omega),zW hm,zA,zA5,zL (k:=(lo+hi)/2) (by omega)];by_cases Z:(nth l ((lo+hi)/2)).Hi<c;have:¬c<=(nth l ((lo+hi)/2)).Hi:=by omega
   simp[Z,this];have:c<=(nth l ((lo+hi)/2)).Hi:=by omega
   by_cases D:c<(nth l ((lo+hi)/2)).Lo<;>simp[Z,D,this])
  (λi j O T hi=>by
   have:=h.hi O T;simp only[d7] at hi ⊢;omega)
 simp only[dS,d7] at K G;unfold kX kZ;rw[hr,yXH h T (λk hk=>by have:=K k hk;omega) G]
 simp only[zA,zN];by_cases H:j<l.length;have h2:=G j (d9 _) H;simp only[yY H,vN,zW H,zA,zA5,eV,H,true_and];have e1:decide ((nth l j).Hi<c)=false:=by simp;omega
 simp only[e1,dN];by_cases D:c<(nth l j).Lo;have:¬(nth l j).Lo<=c:=by omega
 simp[D,this];have:(nth l j).Lo<=c:=by omega
 simp[D,this,zW H];simp only[kU (show l.length<=j by omega),zBR,zA,fj,eD,dO,H,false_and,eE]
theorem zP6 {l:List bL} (H:l.length<=30000) (D:∀x∈l,cZ x) (h:CV l):zAQ l=some l:=by obtain⟨e,G,K⟩:=z8L H D;unfold zAQ;rw[G,zA,K.2 h];rfl
theorem zTF {H:Type} {l r:List H} {x: H} (h:l.drop k=x::r):l[k]? =some x/\l.drop (k+1)=r/\k+1<=l.length:=by
 have G:k<l.length:=by
  rcases gH k l.length with D | D;exact D;rw[eJ D] at h;cases h
 rw[eA G] at h;injection h with D K;exact⟨by rw[dT G,D],K,G⟩
theorem yMC {D:Type} [DecidableEq D] {items:List D} {x: D} (h:items[k]? =some x):yM items k x=some ():=by unfold yM;rw[eG h]
theorem yDX {D:Type} {items:List D} (h:items.drop k= []) (G:k<=items.length):zZL items k=some ():=by unfold zZL;rw[eG];have:=congrArg List.length h;simp at this;omega
section
variable {l:List bL} (h:CV l) (hl:l.length<=30000) (ht:text.length<=30000) {st:Int->Bool} (hst:∀c,st c=decide (clE l c=0)) {items:List Range}
include h hl ht hst
theorem yHV:∀(n i:Nat) (s:Int) (k:Nat),text.length-i=n->i<=text.length->items.drop k=wB st (text.drop i) (i:Int) s->k<=items.length->
  ∃H G,zE (λ(x:Int×Int×Nat)=>kP text l items x.1 x.2.1 x.2.2) (s,(i:Int),k)=some (.inl (H,G))/\items.drop G=wB st [] (text.length:Int) H/\G<=items.length:=by
 intro n
 induction n with
 | zero=>
  intro i s k h1 h2 D T;have:i=text.length:=by omega
  subst this;refine⟨s,k,?_,by rw[D,gR],T⟩;rw[yQ];simp only[kP,kU (d9 _),dN]
 | succ n ih=>
  intro i s k h1 h2 D T;have hi:i<text.length:=by omega
  rw[eA hi] at D;simp only[wB] at D;have hs:=hst text[i];have ec:((i:Int)+1)=((i+1:Nat):Int):=by omega
  rw[ec] at D;have step:∀H G,kP text l items s (i:Int) k=some (.next (H,((i+1:Nat):Int),G))->items.drop G=wB st (text.drop (i+1)) ((i+1:Nat):Int) H->G<=items.length->
    ∃H G,zE (λ(x:Int×Int×Nat)=>kP text l items x.1 x.2.1 x.2.2) (s,(i:Int),k)=some (.inl (H,G))/\items.drop G=wB st [] (text.length:Int) H/\G<=items.length:=by
   intro H G hb Z g3;rw[zI (body:=λ(x:Int×Int×Nat)=>kP text l items x.1 x.2.1 x.2.2) (x:=(s,(i:Int),k)) hb];exact ih (i+1) H G (by omega) (by omega) Z g3
  by_cases O:clE l text[i]=0
  ·rw[hs] at D
   simp only[O,eH,dY,fj,fg,eE,eV] at D;by_cases K:0<=s
   ·simp only[K,eH,eK] at D
    obtain⟨g1,Z,g3⟩:=zTF D;refine step (-1) (k+1) ?_ Z g3;simp only[kP,yY hi,dO,z8 hi,zA,zHL h hl,zN,zL (k:=i) (by omega),O,eH,dY,fj,dN,eV,K,yMC g1,fw]
   ·simp only[K,e6,fg,eE] at D
    refine step s k ?_ D T;simp only[kP,yY hi,dO,z8 hi,zA,zHL h hl,zN,zL (k:=i) (by omega),O,eH,dY,fj,dN,eV,K,e6,fw]
  ·rw[hs] at D
   simp only[O,e6,eD,eV,fj,fg,eE] at D;by_cases K:s<0
   ·simp only[K,eH,eK] at D
    refine step (i:Int) k ?_ D T;simp only[kP,yY hi,dO,z8 hi,zA,zHL h hl,zN,zL (k:=i) (by omega),O,e6,eD,eV,K,eH,fw]
   ·simp only[K,e6,fg,eE] at D
    refine step s k ?_ D T;simp only[kP,yY hi,dO,z8 hi,zA,zHL h hl,zN,zL (k:=i) (by omega),O,e6,eD,eV,K,dN,fj,fw]
theorem z8R (K:items=wB st text 0 (-1)):zBT items text l=some ():=by
 obtain⟨s,k,h1,D,h3⟩:=yHV h hl ht hst (items:=items) text.length 0 (-1) 0 (by omega) (by omega) (by rw[e9,e9];exact K) (g5 _)
 unfold zBT;have H:zE (λ(x:Int×Int×Nat)=>kP text l items x.1 x.2.1 x.2.2) (-1,0,0)=some (.inl (s,k)):=h1;rw[H];simp only[zA,fw];unfold wB at D;by_cases G:0<=s;rw[eG G] at D;obtain⟨O,T,Z⟩:=zTF D;simp only[G,eH,dO,yMC O,zA];exact yDX T Z;rw[dU G] at D;simp only[G,e6,dN];exact yDX D h3
omit h hl ht hst in
theorem zNG:∀(t:LI) (i s:Int),(wB st t i s).length<=t.length+1
 | [],i,s=>by unfold wB;split<;>simp
 | c::t,i,s=>by
  unfold wB;split;have:=zNG t (i+1) i;simp;omega;split;have:=zNG t (i+1) (-1);simp;omega;have:=zNG t (i+1) s;simp;omega
omit h hl ht hst in
theorem zNH:∀(t:LI) (i s:Int),0<=i->(wB st t i s= []↔s<0/\∀c∈t,st c=true)
 | [],i,s,hi=>by
  unfold wB;split;simp;omega;simp;omega
 | c::t,i,s,hi=>by
  unfold wB;cases G:st c with
  | true=>
   simp only[dY,fj,fg,eE,eV];by_cases D:0<=s;simp[D];omega;simp only[D,e6,fg,eE];rw[zNH t (i+1) s (by omega)];simp[G]
  | false=>
   simp only[eD,eV,fj,fg,eE];by_cases D:s<0;simp only[D,eH,eK];rw[zNH t (i+1) i (by omega)];simp[G];omega;simp only[D,e6,fg,eE];rw[zNH t (i+1) s (by omega)];simp[G,D]
end
theorem yQI {l:List bL} (h:CV l) (G:l.length<=30000) (H:∀x∈l,cZ x) (O:text.length<=30000):
  ∃r,zF0 l text=some r/\(r= []↔∀c∈text,clE l c=0):=by
 have D:∀c,(kX l c==some 0)=decide (clE l c=0):=λc=>by
  rw[zHL h G,i4];simp
 unfold zF0;rw[zP6 G H h,zA,z8R h G O D rfl,zA];have K:=zNG (st:=λc=>kX l c==some 0) text 0 (-1);refine⟨_,by unfold z7H;rw[eG (by unfold LIM;omega)],?_⟩
 rw[zNH _ _ _ (by omega)];simp only[D,d7];constructor
 ·exact λh=>h.2
 ·exact λh=>⟨by omega,h⟩
structure DS (l:List aG):Prop where
 asc:∀k,k+1<l.length->(nth l k).aN<(nth l (k+1)).aN
 hk:∀m∈l,hkE m.aN=0
 len:∀m∈l,m.To.length<=30000
theorem DS.mono (h:DS l):∀(d i:Nat),i+d+1<l.length->(nth l i).aN<(nth l (i+d+1)).aN
 | 0,i,hi=>h.asc i hi
 | d+1,i,hi=>by
  have D:=DS.mono h d i (by omega);have G:=h.asc (i+d+1) (by omega);have:i+(d+1)+1=i+d+1+1:=by omega
  rw[this];omega
theorem DS.lt (h:DS l) (D:i<j) (G:j<l.length):(nth l i).aN<(nth l j).aN:=by
 have:=DS.mono h (j-i-1) i (by omega)
 rwa [show i+(j-i-1)+1=j by omega] at this
def isF (c:Int) (m:aG):Bool:=decide (m.aN=c)
theorem yDY (h:DS l) (hl:l.length<=30000) (c:Int):∃i:Nat,yI l c (λx0 x1=>uF x0 x1)=some ((i:Int),(l.find? (isF c)).isSome)/\∀m,l.find? (isF c)=some m->i<l.length/\nth l i=m:=by
 have H:∀m,uF m c=some (if m.aN<c then -1 else if c<m.aN then 1 else 0):=λm=>by
  unfold uF;rw[yUO];rfl
 obtain⟨j,hj,hr,O,K⟩:=yDW (n:=l.length) hl (body:=λ(x:Int×Int)=>z2 l (λx0 x1=>uF x0 x1) c x.1 x.2) (λk=>decide (c<=(nth l k).aN))
  (λk _=>by simp only[z2,kU (d9 _),dN])
  (λlo hi Z h2=>by
   have T:(lo+hi)/2<l.length:=by omega
   simp only[z2,yY Z,dO,zUO (show lo+hi<=4611686018427387903 by omega),zW T,zA,H,zL (k:=(lo+hi)/2) (by omega)];by_cases hc:(nth l ((lo+hi)/2)).aN<c
   ·have:¬c<=(nth l ((lo+hi)/2)).aN:=by omega
    simp[hc,this]
   ·have:c<=(nth l ((lo+hi)/2)).aN:=by omega
    by_cases ab:c<(nth l ((lo+hi)/2)).aN<;>simp[hc,ab,this])
  (λi j ad hj hi=>by
   simp only[d7] at hi ⊢;rcases Nat.lt_or_eq_of_le ad with Z | rfl
   ·have:=h.lt Z hj;omega
   ·exact hi)
 simp only[dS,d7] at O K;refine⟨j,?_⟩;unfold yI;rw[hr];simp only[zA,zN];by_cases G:j<l.length/\(nth l j).aN=c
 ·have hf:=zTE (p:=isF c) G.1 (λk hk=>by
   have:=O k hk;unfold isF;simp only[dS];omega) (by unfold isF;simpa using G.2)
  rw[hf];simp only[yY G.1,vN,zW G.1,zA,H,eV,G.2];refine⟨by simp,λm T=>?_⟩;injection T with T;exact⟨G.1,T⟩
 ·have hf:=z4L (l:=l) (p:=isF c) (λk hk=>by
   unfold isF;simp only[dS];intro e;by_cases ag:k<j
   ·have:=O k ag;omega
   ·by_cases e2:k=j
    ·subst e2;exact G ⟨hk,e⟩
    ·have Z:=h.lt (show j<k by omega) hk
     have h2:=K j (d9 _) (by omega);omega)
  rw[hf];refine⟨?_,λm T=>by cases T⟩;by_cases D:j<l.length
  ·have h2:=K j (d9 _) D
   have h3:¬(nth l j).aN=c:=λe=>G ⟨D,e⟩;have h4:c<(nth l j).aN:=by omega
   have h5:¬(nth l j).aN<c:=by omega
   simp only[yY D,vN,zW D,zA,H,h4,h5,eK,eE,eV];rfl
  ·simp only[kU (show l.length<=j by omega),zBR,zA,fj]
   rfl
def dep (l:List aG) (c:Int):LI:=if syl c=true then hdE c else match l.find? (isF c) with
 | some m=>m.To
 | none=>[]
def fnd (l:List aG) (c:Int):Bool:=syl c ||(l.find? (isF c)).isSome
theorem yQJ (h:fnd l c=false):dep l c= []:=by
 unfold fnd at h;simp only[fR] at h;unfold dep;rw[dU (by simp[h.1])];cases D:l.find? (isF c) with
 | none=>rfl
 | some m=>rw[D] at h;simp at h
theorem yDZ (h:DS n.aA) (T:n.aA.length<=30000) (c:Int):uY n c true=some (dep n.aA c,fnd n.aA c):=by
 unfold uY dep fnd;rw[zIG,zA];by_cases D:syl c=true;have e:decide (4<=hkE c)=true:=by simpa using (zJO c).1 D
 simp only[e,dO,yDV D,zA,D,eK,fS];have e:decide (4<=hkE c)=false:=by simp only[dS];exact λO=>D ((zJO c).2 O)
 simp only[iW] at D;simp only[e,dN,D,fg,eE,fo];obtain⟨i,hb,Z⟩:=yDY h T c;rw[hb];simp only[zA,zN];cases K:n.aA.find? (isF c) with
 | none=>simp[zBR]
 | some m=>
  obtain⟨G,H⟩:=Z m K;simp[vN,zW G,H]
theorem yD0 (h:DS l) {e:Int} (H:syl c=true) (G:e∈dep l c):dep l e= []:=by
 unfold dep at G;rw[eG H] at G;obtain⟨O,T⟩:=zTD H G;unfold dep;rw[dU (by simp[O])];cases K:l.find? (isF e) with
 | none=>rfl
 | some m=>
  exfalso;have Z:=gU K;have D:=jc K;unfold isF at D;simp only[d7] at D;exact T (D▸h.hk m Z)
theorem yQK (h:DS l) (c:Int):(dep l c).length<=30000:=by
 unfold dep;split;have:=(zRU c).1;omega;cases D:l.find? (isF c) with
 | none=>simp
 | some m=>exact h.len m (gU D)
theorem z8S (h:DS l) {m:aG} (H:m∈l):dep l m.aN=m.To:=by
 have O:=h.hk m H;have G:syl m.aN=false:=by
  cases G:syl m.aN with
  | false=>rfl
  | true=>have:=(zJO _).1 G;omega
 unfold dep;rw[dU (by simp[G])];obtain⟨k,D,rfl⟩:=gK H;rw[<-zCQ D];rw[zTE (p:=isF (nth l k).aN) D (λj K=>by
  have:=h.lt K D;unfold isF;simp only[dS];omega) (by simp[isF])]
theorem yMD (h:dep l c≠[]) (H:syl c=false):∃m∈l,m.aN=c:=by
 unfold dep at h;rw[dU (by simp[H])] at h;cases D:l.find? (isF c) with
 | none=>rw[D] at h;exact absurd rfl h
 | some m=>
  have G:=jc D;unfold isF at G;exact⟨m,gU D,by simpa using G⟩
def EE (l:List aG):Nat->Int->Prop
 | 0,_=>False
 | k+1,c=> ∀e∈dep l c,EE l k e
def WW (l:List aG) (c:Int):Prop:= ∃k,EE l k c
theorem yD1:∀{k:Nat} {c:Int},EE l k c->EE l (k+1) c
 | 0,_,h=>h.elim
 | k+1,_,h=>λe D=>yD1 (h e D)
theorem yME (h:k<=j) (D:EE l k c):EE l j c:=by
 induction h with
 | refl=>exact D
 | step _ G=>exact yD1 G
theorem yMF:∀{L:LI},(∀e∈L,WW l e)->∃k,∀e∈L,EE l k e
 | [],_=>⟨0,λe D=>by cases D⟩
 | x::L,h=>by
  obtain⟨a,G⟩:=h x (by simp);obtain⟨b,hb⟩:=yMF (L:=L) λe D=>h e (by simp[D]);refine⟨max a b,λe D=>?_⟩;rcases eP.1 D with rfl | D;exact yME (by omega) G;exact yME (by omega) (hb e D)
theorem yMG (h:∀e∈dep l c,WW l e):WW l c:=by obtain⟨k,D⟩:=yMF h;exact⟨k+1,D⟩
theorem yD2 (h:dep l c= []):WW l c:=yMG (by rw[h];intro e D;cases D)
theorem yUU (D:DS l) (h:syl c=true):WW l c:=yMG λ_ G=>yD2 (yD0 D h G)
theorem z8T (m:List (Int×Int)) (c v k:Int):zB0 (vS m c v) k=(decide (k=c) ||zB0 m k):=by unfold zB0;rw[zBX];by_cases h:k=c<;>simp[h]
def pot (l:List aG) (m:List (Int×Int)):Nat:=l.countP λx=>!zB0 m x.aN
theorem yUV (h:∀k,zB0 m k=true->zB0 m' k=true):pot l m'<=pot l m:=by
 refine List.countP_mono_left λx _ D=>?_;cases G:zB0 m x.aN with
 | false=>rfl
 | true=>rw[h _ G] at D;exact D
theorem zUQ {K:Type} {p q: K->Bool}:∀{l:List K},(∀x∈l,p x=true->q x=true)->(∃x∈l,q x=true/\p x=false)->l.countP p+1<=l.countP q
 | [],_,⟨x,hx,_⟩=>by cases hx
 | y::l,h,⟨x,hx,G,H⟩=>by
  have O:=List.countP_mono_left (l:=l) λz D=>h z (by simp[D]);rw[List.countP_cons,List.countP_cons];rcases eP.1 hx with rfl | hx
  simp[G,H];omega;have ih:=zUQ (l:=l) (λz D=>h z (by simp[D])) ⟨x,hx,G,H⟩;have Z:=h y (by simp);cases T:p y with
  | false=>simp;omega
  | true=>simp[Z T];omega
theorem yQL {v:Int} (D:∃x∈l,x.aN=c) (G:zB0 m c=false):pot l (vS m c v)+1<=pot l m:=by refine zUQ (λx _ h=>?_) ?_;rw[z8T] at h;simp only[Bool.not_or,eC] at h;exact h.2;obtain⟨x,h,rfl⟩:=D;refine⟨x,h,by rw[G];rfl,by rw[z8T];simp⟩
section
variable (hd:DS n.aA) (hl:n.aA.length<=30000)
include hd hl
noncomputable abbrev yD3 (L:LI×Bool) (rec:Int->Norm->(List (Int×Int))->Bool->Bool->Option (Int×Bool×Bool×(List (Int×Int)))) (n:Norm):Int×Int×Bool×Bool×(List (Int×Int))->Option (Stp (Int×Int×Bool×Bool×(List (Int×Int))) (Int×Bool×Bool×(List (Int×Int)))):=
 λx=>wN L rec n x.1 x.2.1 x.2.2.1 x.2.2.2.1 x.2.2.2.2
theorem yQM {rec:Int->Norm->(List (Int×Int))->Bool->Bool->Option (Int×Bool×Bool×(List (Int×Int)))} {D lo:Bool} (h:dep n.aA c= []):j8 rec c n m D lo=some (1,D,lo,m):=by unfold j8;rw[yDZ hd hl,zA,zN];simp[h]
theorem yXI {rec:Int->Norm->(List (Int×Int))->Bool->Bool->Option (Int×Bool×Bool×(List (Int×Int)))} {G lo:Bool} (h:dep n.aA c≠[]):
  j8 rec c n m G lo=cond (zB0 m c) (some (max (wR m c 0) 1,(G ||decide (wR m c 0= -1)),lo,m)) ((zE (yD3 (dep n.aA c,true) rec n) (0,0,G,lo,vS m c (-1))).bind λy=>some (y.1,y.2.1,(y.2.2.1 ||decide (64<y.1)),vS y.2.2.2 c y.1)):=by
 have H:fnd n.aA c=true:=by
  cases H:fnd n.aA c with
  | true=>rfl
  | false=>exact absurd (yQJ H) h
 unfold j8;rw[yDZ hd hl,zA,zN,H];have D:decide (((dep n.aA c).length:Int)=0)=false:=by
  simp only[dS];have:(dep n.aA c).length≠0:=λe=>h (dQ e);omega
 simp only[dY,fo,D,dN];rfl
def yHW (l:List aG) (f:Nat) (c:Int) (m:List (Int×Int)):Prop:=pot l m+3<=f\/(syl c=true/\2<=f)\/(dep l c= []/\1<=f)
omit hd hl in
theorem yHX {f:Nat} (h:∀k,zB0 m k=true->zB0 m' k=true) (D:yHW l f c m):yHW l f c m':=by
 rcases D with D | D;exact .inl (by have:=yUV (l:=l) h;omega)
 exact .inr D
end
structure NSm (n:Norm):Prop where
 cl:n.aI.length<=40
 de:n.aA.length<=40
 to:∀m∈n.aA,m.To.length<=70
 tg:∀m∈n.aA,m.bU.length<=40
 ex:n.aL.Ranges.length<=12
theorem yQN (l:List aG):∃b,zIN l=some b/\(b=true->l.length<=20/\(∀m∈l,m.To.length<=65)/\∀m∈l,m.bU.length<=40):=by
 unfold zIN;have h:=kA (body:=λ(x:Int)=>zCW l x) (min l.length 30) (λk=>(nth l k).To.length<=65/\(nth l k).bU.length<=40) (λy=>y=false) (λk O=>by
  have D:k<l.length:=by omega
  have G:decide ((k:Int)<30)=true:=by simp;omega
  simp only[zCW,zN,yY D,G,g9,dO,zW D,zA,zL (k:=k) (by omega)];by_cases Z:65<(nth l k).To.length;have:decide ((65:Int)<((nth l k).To.length:Int))=true:=by simp;omega
  simp only[this,dY,zBR,zA,fS,dO];exact .inr ⟨by omega,false,rfl,rfl⟩;have:decide ((65:Int)<((nth l k).To.length:Int))=false:=by simp;omega
  simp only[this,eD,vN,zA,fo];exact zAW (by simp only[d7];omega) rfl) (λk O=>by
  have:(decide ((k:Int)<(l.length:Int))&&decide ((k:Int)<30))=false:=by
   simp only[eY,dS];omega
  simp only[zCW,zN,this,dN])
 rcases h with ⟨h,p⟩ | ⟨y,rfl,h,p⟩;rw[h];refine⟨_,rfl,λhb=>?_⟩;have T:l.length<=20:=by simp only[d7] at hb;omega
 rw[jb (by omega)] at p;have K:=(zAP (l:=l) (p:=λm:aG=>m.To.length<=65/\m.bU.length<=40)).1 p;exact⟨T,λm H=>(K m H).1,λm H=>(K m H).2⟩;rw[h];exact⟨false,rfl,λh=>by cases h⟩
theorem yQO (n:Norm):∃b,zIO n=some b/\(b=true->NSm n):=by
 obtain⟨b,hb,H⟩:=yQN n.aA;unfold zIO zLF zGY;simp only[zA,zN,hb];by_cases K:n.aI.length<=16;have D:decide ((n.aI.length:Int)<=16)=true:=by simp;omega
 simp only[D,vN,zA,eV];cases b with
 | false=>simp only[zBR,zA,fj];exact⟨false,rfl,λh=>by cases h⟩
 | true=>
  simp only[vN,zA,eV];refine⟨_,rfl,λh=>?_⟩;simp only[d7] at h;obtain⟨a,b,c⟩:=H rfl;exact⟨by omega,by omega,λm G=>by have:=b m G;omega,c,by omega⟩
 have D:decide ((n.aI.length:Int)<=16)=false:=by simp;omega
 simp only[D,zBR,zA,fj];exact⟨false,rfl,λh=>by cases h⟩
theorem yXJ (hl:n.aA.length<=30000):∀(d i:Nat) (h:LI),n.aA.length-i=d->i<=n.aA.length->h.length<=i->
    (zE (λ(x:Int×LI)=>kH n x.1 x.2) ((i:Int),h)=some (.inl (h++((n.aA.drop i).filter λm=>!(m.bU== [])).map (·.aN)))/\∀m∈n.aA.drop i,hkE m.aN=0)\/
    (zE (λ(x:Int×LI)=>kH n x.1 x.2) ((i:Int),h)=some (.inr 11)/\¬∀m∈n.aA.drop i,hkE m.aN=0):=by
  intro d
  induction d with
  | zero=>
    intro i h T Z h3;rw[eJ (by omega)];refine .inl ⟨zP ?_,λm hm=>by cases hm⟩;simp only[kH,kU (show n.aA.length<=i by omega),dN];simp
  | succ d ih=>
    intro i h T Z h3;have hi:i<n.aA.length:=by omega
    rw[eA hi];by_cases G:hkE n.aA[i].aN=0
    · have conv:∀D,(∃z:Unit,True)->kH n (i:Int) h=some (.next (((i+1:Nat):Int),D))->D.length<=i+1->D++((n.aA.drop (i+1)).filter λm=>!(m.bU== [])).map (·.aN)=h++((n.aA[i]::n.aA.drop (i+1)).filter λm=>!(m.bU== [])).map (·.aN)->
          (zE (λ(x:Int×LI)=>kH n x.1 x.2) ((i:Int),h)=some (.inl (h++((n.aA[i]::n.aA.drop (i+1)).filter λm=>!(m.bU== [])).map (·.aN)))/\∀m∈n.aA[i]::n.aA.drop (i+1),hkE m.aN=0)\/
          (zE (λ(x:Int×LI)=>kH n x.1 x.2) ((i:Int),h)=some (.inr 11)/\¬∀m∈n.aA[i]::n.aA.drop (i+1),hkE m.aN=0):=by
        intro D _ hb H he;rw[zI (body:=λ(x:Int×LI)=>kH n x.1 x.2) (x:=((i:Int),h)) hb];rcases ih (i+1) D (by omega) (by omega) H with ⟨a,b⟩ | ⟨a,b⟩
        · refine .inl ⟨by rw[a,he],λm hm=>?_⟩
          rcases eP.1 hm with rfl | hm
          · exact G
          · exact b m hm
        · exact .inr ⟨a,λO=>b λm hm=>O m (gI _ hm)⟩
      cases K:(n.aA[i].bU== []) with
      | true=>
        refine conv h ⟨(),trivial⟩ ?_ (by omega) ?_
        · simp only[kH,yY hi,dO,z8 hi,zA,zIG,G,eH,dY,dN,K,zL (k:=i) (by omega),fw]
        · rw[List.filter_cons,K];rfl
      | false=>
        refine conv (h++ [n.aA[i].aN]) ⟨(),trivial⟩ ?_ (by simp;omega) ?_
        · simp only[kH,yY hi,dO,z8 hi,zA,zIG,G,eH,dY,dN,K,eD,j7 (show h.length+ [n.aA[i].aN].length<=4294967296 by simp;omega),zL (k:=i) (by omega),fw]
        · rw[List.filter_cons,K,dW];rfl
    · refine .inr ⟨zP ?_,λO=>G (O _ List.mem_cons_self)⟩
      have:(!decide (hkE n.aA[i].aN=0))=true:=by simp[G]
      simp only[kH,yY hi,dO,z8 hi,zA,zIG,this,iX]
def DD (l:List aG):Nat->Int->Prop
 | 0,c=>l.find? (isF c)=none
 | k+1,c=> ∀m,l.find? (isF c)=some m->∀e∈m.To,DD l k e
theorem zWK (h:l.find? (isF c)=none):∀k,DD l k c
 | 0=>h
 | k+1=>λm D=>by rw[h] at D;cases D
theorem zP7:∀{k:Nat} {c:Int},DD l k c->DD l (k+1) c
 | 0,_,h=>zWK h 1
 | _+1,_,h=>λm G e D=>zP7 (h m G e D)
theorem zIH {m:aG} (h:l.find? (isF c)=some m):m∈l/\m.aN=c:=by refine⟨gU h,?_⟩;have D:=jc h;unfold isF at D;simpa using D
theorem zYE (h:DS l) {m:aG} (D:m∈l):syl m.aN=false:=by
 cases G:syl m.aN with
 | false=>rfl
 | true=>have:=(zJO _).1 G;have:=h.hk m D;omega
theorem zJT (D:DS l) {m:aG} (H:m∈l):l.find? (isF m.aN)=some m:=by
 obtain⟨k,h,rfl⟩:=gK H;rw[<-zCQ h];exact zTE (p:=isF (nth l k).aN) h (λj G=>by
  have:=D.lt G h;unfold isF;simp only[dS];omega) (by simp[isF])
theorem z8U (G:DS l) (h:syl c=true):l.find? (isF c)=none:=by
 cases H:l.find? (isF c) with
 | none=>rfl
 | some m=>
  obtain⟨D,rfl⟩:=zIH H;rw[zYE G D] at h;cases h
theorem z8V (G:DS l) {m:aG} (h:l.find? (isF c)=some m):dep l c=m.To:=by obtain⟨D,rfl⟩:=zIH h;exact z8S G D
theorem ySN (D:DS l):∀{k:Nat} {c:Int},EE l k c->DD l k c
 | 0,_,h=>h.elim
 | _+1,_,h=>λm H e G=>ySN D (h e (by rw[z8V D H];exact G))
theorem yMH (hd:DS l) (H:∀m∈l,WW l m.aN):∀m∈l,DD l l.length m.aN:=by
 classical
 have key:∀k,(∀m∈l,DD l k m.aN)\/k<=l.countP (λm=>decide (DD l k m.aN)):=by
  intro k
  induction k with
  | zero=>exact .inr (g5 _)
  | succ k Z=>
   rcases Z with Z | Z;exact .inl λm D=>zP7 (Z m D);by_cases T:∀m∈l,DD l (k+1) m.aN->DD l k m.aN;left;have O:∀j c,DD l j c->DD l k c:=by
    intro j
    induction j with
    | zero=>intro c h;exact zWK h k
    | succ j ad=>
     intro c h;cases hf:l.find? (isF c) with
     | none=>exact zWK hf k
     | some m=>
      obtain⟨K,G⟩:=zIH hf;have:=T m K (by
       rw[G];intro m' ab e he;exact ad e (h m' ab e he))
      rwa [G] at this
   intro m D;obtain⟨j,hj⟩:=H m D;exact zP7 (O j _ (ySN hd hj));right;have aa:∃m∈l,DD l (k+1) m.aN/\¬DD l k m.aN:=by
    apply Classical.byContradiction;intro ac;exact T λm D K=>Classical.byContradiction λG=>ac ⟨m,D,K,G⟩
   obtain⟨m,D,K,G⟩:=aa;have:=zUQ (p:=λm=>decide (DD l k m.aN)) (q:=λm=>decide (DD l (k+1) m.aN)) (l:=l) (λx _ hx=>by simp only[d7] at hx ⊢;exact zP7 hx) ⟨m,D,by simpa using K,by simpa using G⟩
   omega
 rcases key l.length with h | h;exact h;have al:l.countP (λm=>decide (DD l l.length m.aN))<=l.length:=List.countP_le_length;have:l.countP (λm=>decide (DD l l.length m.aN))=l.length:=by omega
 intro m D;have:=List.countP_eq_length.1 this m D;simpa using this
theorem zYF (K:DS l) (H:∀m∈l,WW l m.aN) (c:Int):DD l l.length c:=by
 cases h:l.find? (isF c) with
 | none=>exact zWK h _
 | some m=>
  obtain⟨D,G⟩:=zIH h;have:=yMH K H m D
  rwa [G] at this
def fnB (l:List aG) (b:Bool) (c:Int):Option LI:=match l.find? (isF c) with
 | some m=>if (b ||(m.bU== []))=true then some m.To else none
 | none=>none
theorem zKS {G:LI} (h:fnB l b c=some G):∃m,l.find? (isF c)=some m/\m.To=G/\(b ||(m.bU== []))=true:=by
 unfold fnB at h;cases D:l.find? (isF c) with
 | none=>rw[D] at h;cases h
 | some m=>
  rw[D] at h;simp only at h;split at h;rename_i hb;injection h with h;exact⟨m,rfl,h,hb⟩;cases h
theorem zYG (l:List aG) (c:Int):fnB l true c=(l.find? (isF c)).map (·.To):=by unfold fnB;cases l.find? (isF c)<;>simp
theorem yUW {D:LI} (h:fnB l false c=some D):fnB l true c=some D:=by obtain⟨m,G,H,_⟩:=zKS h;rw[zYG,G,<-H];rfl
def exF (l:List aG) (b:Bool):Nat->Int->LI
 | 0,c=>hdE c
 | k+1,c=>match fnB l b c with
  | some h=>h.flatMap (exF l b k)
  | none=>hdE c
def wtF (l:List aG) (b:Bool):Nat->Int->Int
 | 0,c=>((hdE c).length:Int)
 | k+1,c=>match fnB l b c with
  | some h=>min (max (h.map (wtF l b k)).sum 1) 65
  | none=>((hdE c).length:Int)
theorem zYH {f g:Int->LI}:∀{L:LI},(∀e∈L,f e=g e)->L.flatMap f=L.flatMap g
 | [],_=>rfl
 | x::L,h=>by rw[fC,fC,h x (by simp),zYH λe D=>h e (by simp[D])]
theorem zKT (h:l.find? (isF c)=none):fnB l b c=none:=by unfold fnB;rw[h]
theorem yMI:∀{k:Nat} {c:Int},DD l k c->∀{j:Nat},k<=j->exF l b j c=exF l b k c
 | 0,c,h,j,_=>by
  cases j with
  | zero=>rfl
  | succ j=>show (match fnB l b c with | some D=>D.flatMap (exF l b j) | none=>hdE c)=hdE c;rw[zKT h]
 | k+1,c,h,j,O=>by
  cases j with
  | zero=>omega
  | succ j=>
   show (match fnB l b c with | some D=>D.flatMap (exF l b j) | none=>hdE c)=(match fnB l b c with | some D=>D.flatMap (exF l b k) | none=>hdE c);cases K:fnB l b c with
   | none=>rfl
   | some D=>
    obtain⟨m,G,rfl,_⟩:=zKS K;exact zYH λe H=>yMI (h m G e H) (by omega)
theorem yMJ:∀{k:Nat} {c:Int},DD l k c->∀{j:Nat},k<=j->wtF l b j c=wtF l b k c
 | 0,c,h,j,_=>by
  cases j with
  | zero=>rfl
  | succ j=>show (match fnB l b c with | some D=>min (max (D.map (wtF l b j)).sum 1) 65 | none=>((hdE c).length:Int))=((hdE c).length:Int);rw[zKT h]
 | k+1,c,h,j,O=>by
  cases j with
  | zero=>omega
  | succ j=>
   show (match fnB l b c with | some D=>min (max (D.map (wtF l b j)).sum 1) 65 | none=>((hdE c).length:Int))=(match fnB l b c with | some D=>min (max (D.map (wtF l b k)).sum 1) 65 | none=>((hdE c).length:Int));cases K:fnB l b c with
   | none=>rfl
   | some D=>
    obtain⟨m,G,rfl,_⟩:=zKS K;have:m.To.map (wtF l b j)=m.To.map (wtF l b k):=fZ λe H=>yMJ (h m G e H) (by omega);simp only[this]
def fu (l:List aG) (b:Bool) (c:Int):LI:=exF l b l.length c
def wt (l:List aG) (b:Bool) (c:Int):Int:=wtF l b l.length c
theorem yD4 (h:∀c,DD l l.length c) (c:Int):fu l b c=match fnB l b c with | some D=>D.flatMap (fu l b) | none=>hdE c:=by unfold fu;rw[<-yMI (h c) (show l.length<=l.length+1 by omega)];rfl
theorem z11 (h:∀c,DD l l.length c) (c:Int):wt l b c=(match fnB l b c with | some D=>(min (max (D.map (wt l b)).sum 1) 65:Int) | none=>((hdE c).length:Int):Int):=by unfold wt;rw[<-yMJ (h c) (show l.length<=l.length+1 by omega)];rfl
theorem zP8 (k:Nat) (c:Int):1<=wtF l b k c/\wtF l b k c<=65:=by
 have:=zRU c;cases k with
 | zero=>show 1<=((hdE c).length:Int)/\((hdE c).length:Int)<=65;omega
 | succ k=>
  show 1<=(match fnB l b c with | some h=>min (max (h.map (wtF l b k)).sum 1) 65 | none=>((hdE c).length:Int))/\(match fnB l b c with | some h=>min (max (h.map (wtF l b k)).sum 1) 65 | none=>((hdE c).length:Int))<=65;cases fnB l b c with
  | none=>simp only[];omega
  | some h=>simp only[];omega
theorem z4M {f:Int->Int} (h:∀e,1<=f e):∀L:LI,(L.length:Int)<=(L.map f).sum
 | []=>by simp
 | x::L=>by have:=z4M h L;have:=h x;simp only[fp,i9,eF];omega
theorem yD5 {f:Int->LI} {w:Int->Int} (D:∀e,1<=w e) (N:Int):∀(L:LI),(∀e∈L,w e<=N->((f e).length:Int)<=w e)->(L.map w).sum<=N->((L.flatMap f).length:Int)<=(L.map w).sum
 | [],_,_=>by simp
 | x::L,h,H=>by
  have K:=z4M D L;have O:=D x;simp only[fp,i9] at H ⊢;have Z:=yD5 D N L (λe G=>h e (by simp[G])) (by omega);have T:=h x (by simp) (by omega);rw[fC,d8];omega
theorem yQP:∀(k:Nat) (c:Int),wtF l b k c<=64->((exF l b k c).length:Int)<=wtF l b k c:=by
 intro k
 induction k with
 | zero=>intro c _;show ((hdE c).length:Int)<=((hdE c).length:Int);omega
 | succ k H=>
  intro c;show (match fnB l b c with | some D=>min (max (D.map (wtF l b k)).sum 1) 65 | none=>((hdE c).length:Int))<=64->(((match fnB l b c with | some D=>D.flatMap (exF l b k) | none=>hdE c):LI).length:Int)<=(match fnB l b c with | some D=>min (max (D.map (wtF l b k)).sum 1) 65 | none=>((hdE c).length:Int));cases fnB l b c with
  | none=>intro _;simp only[];omega
  | some D=>
   simp only[];intro h;have:=yD5 (f:=exF l b k) (w:=wtF l b k) (λe=>(zP8 k e).1) 64 D (λe _ G=>H e G) (by omega);omega
theorem yD6 (H:DS l):∀(k:Nat) (c:Int),wtF l false k c<=wtF l true k c:=by
 intro k
 induction k with
 | zero=>intro c;exact iq _
 | succ k Z=>
  intro c;have O:∀L:LI,(L.map (wtF l false k)).sum<=(L.map (wtF l true k)).sum:=by
   intro L
   induction L with
   | nil=>simp
   | cons x L aa=>have:=Z x;simp only[fp,i9];omega
  show (match fnB l false c with | some h=>min (max (h.map (wtF l false k)).sum 1) 65 | none=>((hdE c).length:Int))<=(match fnB l true c with | some h=>min (max (h.map (wtF l true k)).sum 1) 65 | none=>((hdE c).length:Int));cases K:fnB l false c with
  | some h=>
   rw[yUW K];have:=O h;simp only[];omega
  | none=>
   cases T:fnB l true c with
   | none=>exact iq _
   | some h=>
    obtain⟨m,D,_,_⟩:=zKS T;obtain⟨G,rfl⟩:=zIH D;have:hdE m.aN= [m.aN]:=by unfold hdE;rw[dU (by simp[zYE H G])]
    simp only[this,gL];omega
theorem yUX (D:DS l) (h:∀c,wt l true c<=64) (b:Bool) (c:Int):(fu l b c).length<=64:=by
 have G:wtF l b l.length c<=wtF l true l.length c:=by
  cases b with
  | true=>exact iq _
  | false=>exact yD6 D _ c
 have H:wtF l true l.length c<=64:=h c;have:=yQP (l:=l) (b:=b) l.length c (by omega);unfold fu;omega
theorem yMK (hd:DS l) (Z:∀c,DD l l.length c) (c:Int):(dep l c= []->wt l true c=1)/\(dep l c≠[]->wt l true c=min ((dep l c).map (wt l true)).sum 65):=by
 have hp:∀e,1<=wt l true e:=λe=>(zP8 _ e).1;rw[z11 Z c,zYG];cases hf:l.find? (isF c) with
 | some m=>
  rw[z8V hd hf];simp only[gJ];constructor;intro h;rw[h];rfl;intro h;have:=z4M hp m.To;have:0<m.To.length:=iZ.2 h;omega
 | none=>
  simp only[iu];cases H:syl c with
  | false=>
   have K:dep l c= []:=by unfold dep;rw[dU (by simp[H]),hf]
   have h2:hdE c= [c]:=by unfold hdE;rw[dU (by simp[H])]
   rw[K,h2];exact⟨λ_=>rfl,λh=>absurd rfl h⟩
  | true=>
   have K:dep l c=hdE c:=by unfold dep;rw[eG H]
   have hl:=zRU c;have D:∀e∈hdE c,wt l true e=1:=by
    intro e O;obtain⟨p1,p2⟩:=zTD H O;have hn:l.find? (isF e)=none:=by
     cases T:l.find? (isF e) with
     | none=>rfl
     | some m=>obtain⟨q1,rfl⟩:=zIH T;exact absurd (hd.hk m q1) p2
    rw[z11 Z e,zKT hn];simp only[];unfold hdE;rw[dU (by simp[p1])];rfl
   have G:∀L:LI,(∀e∈L,wt l true e=1)->(L.map (wt l true)).sum=(L.length:Int):=by
    intro L
    induction L with
    | nil=>intro _;rfl
    | cons x L ih=>intro h;have:=ih λe O=>h e (by simp[O]);have:=h x (by simp);simp only[fp,i9,eF];omega
   rw[K];constructor;intro h;rw[h] at hl;simp at hl;intro _;rw[G _ D];omega
section
variable (hd:DS n.aA) (hl:n.aA.length<=30000) (H:∀m∈n.aA,WW n.aA m.aN)
include hd hl H
structure MeX (l:List aG) (m:List (Int×Int)) (lo:Bool):Prop where
 val:∀k v,mget m k=some v->v= -1\/v=wt l true k
 lof:lo=false->∀k v,mget m k=some v->v≠ -1->v<=64
 lot:lo=true->∃x∈l,64<wt l true x.aN
def yB2 (l:List aG) (m m':List (Int×Int)) (h:Bool):Prop:=
 MeX l m' h/\(∀k v,mget m k=some v->mget m' k=some v)/\∀e,mget m' e=some (-1)->mget m e=some (-1)
omit hd hl H in
theorem yHZ (h:∀k v,mget m k=some v->mget m' k=some v):∀k,zB0 m k=true->zB0 m' k=true:=by intro k D;obtain⟨v,G⟩:=iw.1 D;show (mget m' k).isSome=true;rw[h k v G];rfl
omit H hl in
theorem yQQ {f:Nat} (c:Int) (k1:Nat) (ih:∀c m lo,MeX n.aA m lo->yHW n.aA f c m->(∃k,EE n.aA k c/\∀e,mget m e=some (-1)->¬EE n.aA k e)->∃D m',jA f c n m false lo=some (wt n.aA true c,false,D,m')/\yB2 n.aA m m' D/\(dep n.aA c≠[]->mget m' c=some (wt n.aA true c))) (aa:∀e∈dep n.aA c,EE n.aA k1 e):
  ∀(d i:Nat) (s:Int) (lo:Bool) (m:List (Int×Int)),(dep n.aA c).length-i=d->i<=(dep n.aA c).length->0<=s->s<=65->MeX n.aA m lo->(∀e∈dep n.aA c,yHW n.aA f e m)->(∀e,mget m e=some (-1)->¬EE n.aA k1 e)->
   ∃D m',zE (yD3 (dep n.aA c,true) (jA f) n) (s,(i:Int),false,lo,m)=some (min (s+(((dep n.aA c).drop i).map (wt n.aA true)).sum) 65,false,D,m')/\yB2 n.aA m m' D:=by
 have hL:=yQK hd c;generalize dep n.aA c=L at*;intro d
 induction d with
 | zero=>
  intro i s lo m h1 h2 h3 h4 K O T;refine⟨lo,m,?_,K,λ_ _ h=>h,λ_ h=>h⟩;refine zP ?_;rw[eJ (show L.length<=i by omega)];simp only[wN,kU (show L.length<=i by omega),dN,gE,List.sum_nil,Int.add_zero];rw[Int.min_eq_left h4]
 | succ d ab=>
  intro i s lo m h1 h2 h3 h4 K O T;have hi:i<L.length:=by omega
  have hm:=fI hi;obtain⟨G,m1,hr,⟨r1,r2,r3⟩,_⟩:=ih L[i] m lo K (O _ hm) ⟨k1,aa _ hm,T⟩;have hp:=zP8 (l:=n.aA) (b:=true) n.aA.length L[i];have aq:1<=wt n.aA true L[i]/\wt n.aA true L[i]<=65:=hp;have hb:yD3 (L,true) (jA f) n (s,(i:Int),false,lo,m)=some (.next (min (s+wt n.aA true L[i]) 65,((i+1:Nat):Int),false,G,m1)):=by
   simp only[wN,yY hi,dO,z8 hi,zA,hr,zL (k:=i) (by omega)];rw[j9 (n:=s+wt n.aA true L[i]) (by omega) (by omega)]
  rw[zI hb];obtain⟨ad,m2,hq,q1,q2,q3⟩:=ab (i+1) (min (s+wt n.aA true L[i]) 65) G m1 (by omega) (by omega) (by omega) (by omega) r1 (λe Z=>yHX (yHZ r2) (O e Z)) (λe Z=>T e (r3 e Z));refine⟨ad,m2,?_,q1,λk v h=>q2 k v (r2 k v h),λe h=>r3 e (q3 e h)⟩;rw[hq,eA hi,fp,i9];have ao:=z4M (f:=wt n.aA true) (λe=>(zP8 _ e).1) (L.drop (i+1));have:min (min (s+wt n.aA true L[i]) 65+((L.drop (i+1)).map (wt n.aA true)).sum) 65=min (s+(wt n.aA true L[i]+((L.drop (i+1)).map (wt n.aA true)).sum)) 65:=by omega
  rw[this]
theorem yQR : ∀ (f : Nat) (c : Int) (m : List (Int × Int)) (lo : Bool), MeX n.aA m lo -> yHW n.aA f c m -> (∃ k, EE n.aA k c /\ ∀ e, mget m e = some (-1) -> ¬ EE n.aA k e) ->
    ∃ lo' m', jA f c n m false lo = some (wt n.aA true c, false, lo', m') /\ yB2 n.aA m m' lo' /\ (dep n.aA c ≠ [] -> mget m' c = some (wt n.aA true c)) := by
  have hD := zYF hd H;intro f
  induction f with
  | zero =>
    intro c m lo _ hn;exfalso;rcases hn with h | h | h<;>omega
  | succ f ih =>
    intro c m lo hm hn hst;show ∃ lo' m', j8 (jA f) c n m false lo = some _ /\ _;obtain⟨w0, w1⟩ := yMK hd hD c;have hp' : 1 <= wt n.aA true c /\ wt n.aA true c <= 65 := zP8 (l := n.aA) (b := true) n.aA.length c;by_cases h0 : dep n.aA c = []
    · rw[yQM hd hl h0, w0 h0]
      exact⟨lo, m, rfl, ⟨hm, λ_ _ h => h, λ_ h => h⟩, λh => absurd h0 h⟩
    · rw[yXI hd hl h0]
      obtain⟨k, hk, hks⟩ := hst;cases hh : zB0 m c with
      | true =>
        obtain⟨v, hv⟩ := iw.1 hh;have hg : wR m c 0 = v := by unfold wR; rw[hv]; rfl
        have hne : v ≠ -1 := λe => hks c (by rw[hv, e]) hk;have hvw : v = wt n.aA true c := (hm.val c v hv).resolve_left hne;rw[hg, dO];have e1 : decide (v = -1) = false := by simpa using hne
        rw[e1];refine⟨lo, m, ?_, ⟨hm, λ_ _ h => h, λ_ h => h⟩, λ_ => by rw[hv, hvw]⟩;rw[show max v 1 = wt n.aA true c by omega];rfl
      | false =>
        have hmin : ∃ k0, EE n.aA (k0+1) c /\ ¬ EE n.aA k0 c /\ k0+1 <= k := by
          clear hks
          induction k with
          | zero => exact hk.elim
          | succ k ihk =>
            by_cases h : EE n.aA k c
            · obtain⟨k0, a, b, e⟩ := ihk h
              exact⟨k0, a, b, by omega⟩
            · exact⟨k, hk, h, d9 _⟩
        obtain⟨k0, a, b, e⟩ := hmin;have hgn : mget m c = none := by
          cases hx : mget m c with
          | none => rfl
          | some v => have : zB0 m c = true := by unfold zB0; rw[hx]; rfl
                      rw[hh] at this; cases this
        have hok : MeX n.aA (vS m c (-1)) lo := by
          refine⟨λk v hk => ?_, λhc k v hk hne => ?_, hm.lot⟩
          · rw[zBX] at hk
            split at hk
            · cases hk; exact .inl rfl
            · exact hm.val k v hk
          · rw[zBX] at hk
            split at hk
            · cases hk; exact absurd rfl hne
            · exact hm.lof hc k v hk hne
        have hnd : ∀ e ∈ dep n.aA c, yHW n.aA f e (vS m c (-1)) := by
          intro e he;cases hs : syl c with
          | true =>
            refine .inr (.inr ⟨yD0 hd hs he, ?_⟩);rcases hn with h | h | h
            · omega
            · omega
            · exact absurd h.1 h0
          | false =>
            rcases hn with h | h | h
            · refine .inl ?_
              have := yQL (l := n.aA) (v := -1) (yMD h0 hs) hh;omega
            · rw[hs] at h; cases h.1
            · exact absurd h.1 h0
        obtain⟨lo1, m1, hq, q1, q2, q3⟩ := yQQ hd c k0 ih (λe he => a e he) (dep n.aA c).length 0 0 lo (vS m c (-1)) (by omega) (by omega) (by omega) (by omega) hok hnd (λe' he' => by
          rw[zBX] at he';split at he'
          · rename_i hx; rw[hx]; exact b
          · exact λh => hks e' he' (yME (by omega) h))
        rw[e9, Int.zero_add, <- w1 h0] at hq;have hq' : zE (yD3 (dep n.aA c, true) (jA f) n) (0, 0, false, lo, vS m c (-1)) = some (wt n.aA true c, false, lo1, m1) := hq;simp only[dN];rw[hq'];refine⟨(lo1 || decide (64<wt n.aA true c)), vS m1 c (wt n.aA true c), rfl, ⟨⟨λk v hk => ?_, λhc k v hk hne => ?_, λhc => ?_⟩, λk v hk => ?_, λe' he' => ?_⟩, λ_ => by rw[zBX, eG rfl]⟩
        · rw[zBX] at hk
          split at hk
          · rename_i hx; cases hk; rw[hx]; exact .inr rfl
          · exact q1.val k v hk
        · rw[fR] at hc
          rw[zBX] at hk;split at hk
          · cases hk; have := hc.2; simp only[dS] at this; omega
          · exact q1.lof hc.1 k v hk hne
        · rcases Bool.or_eq_true_iff.1 hc with h | h
          · exact q1.lot h
          · simp only[d7] at h
            cases hs : syl c with
            | true =>
              have : wt n.aA true c <= 3 := by
                rw[z11 hD c, zKT (z8U hd hs)];have := zRU c;simp only[]; omega
              omega
            | false => obtain⟨x, hx, rfl⟩ := yMD h0 hs; exact⟨x, hx, h⟩
        · rw[zBX]
          split
          · rename_i hx; rw[hx, hgn] at hk; cases hk
          · rename_i hx
            exact q2 k v (by rw[zBX, dU hx]; exact hk)
        · rw[zBX] at he'
          split at he'
          · injection he' with he'; omega
          · rename_i hx
            have := q3 e' he';rw[zBX, dU hx] at this;exact this
theorem yB3 (hp:n.aA.length<=90):∃lo,zAK n=some (false,lo)/\(lo=false↔∀x∈n.aA,wt n.aA true x.aN<=64):=by
 have hD:=zYF hd H;have key:∀(d i:Nat) (lo:Bool) (m:List (Int×Int)),n.aA.length-i=d->i<=n.aA.length->MeX n.aA m lo->(∀e,mget m e≠some (-1))->(∀x∈n.aA.take i,dep n.aA x.aN≠[]->mget m x.aN=some (wt n.aA true x.aN))->
   ∃G,zE (λ(x:Int×Bool×Bool×(List (Int×Int)))=>wF n x.1 x.2.1 x.2.2.1 x.2.2.2) ((i:Int),false,lo,m)=some (false,G)/\(G=false↔∀x∈n.aA,wt n.aA true x.aN<=64):=by
  intro d
  induction d with
  | zero=>
   intro i lo m T h2 O Z h5;refine⟨lo,?_,λh x hx=>?_,λh=>?_⟩
   ·refine zP ?_
    simp only[wF,kU (show n.aA.length<=i by omega),dN]
   ·by_cases h0:dep n.aA x.aN= []
    ·rw[(yMK hd hD x.aN).1 h0];decide
    ·have hg:=h5 x (by rw[gS (by omega)];exact hx) h0
     have an:1<=wt n.aA true x.aN/\wt n.aA true x.aN<=65:=zP8 (l:=n.aA) (b:=true) n.aA.length x.aN;exact O.lof h _ _ hg (by omega)
   ·cases lo with
    | false=>rfl
    | true=>obtain⟨x,hx,hg⟩:=O.lot rfl;have:=h x hx;omega
  | succ d ih=>
   intro i lo m T h2 O Z h5;have hi:i<n.aA.length:=by omega
   have ai:pot n.aA m<=n.aA.length:=List.countP_le_length;obtain⟨k,hk⟩:=H n.aA[i] (fI hi);obtain⟨K,m1,hr,⟨r1,r2,r3⟩,r4⟩:=yQR hd hl H 100 n.aA[i].aN m lo O (.inl (by omega)) ⟨k,hk,λe he=>absurd he (Z e)⟩;rw[zI (x':=(((i+1:Nat):Int),false,K,m1)) (by
    simp only[wF,yY hi,dO,z8 hi,zA,hr,zL (k:=i) (by omega)])]
   refine ih (i+1) K m1 (by omega) (by omega) r1 (λe he=>Z e (r3 e he)) (λx hx D=>?_);rw[iA,dT hi] at hx;rcases fk.1 hx with hx | hx
   ·exact r2 _ _ (h5 x hx D)
   ·simp only[Option.toList_some,fY] at hx
    subst hx;exact r4 D
 obtain⟨lo,hr,T⟩:=key n.aA.length 0 false [] (by omega) (by omega) ⟨λk v h=>(by cases h),λ_ k v h=>(by cases h),λh=>by cases h⟩ (λe h=>by cases h) (λx hx=>by cases hx);have ad:zE (λ(x:Int×Bool×Bool×(List (Int×Int)))=>wF n x.1 x.2.1 x.2.2.1 x.2.2.2) (0,false,false,[])=some (false,lo):=hr;refine⟨lo,?_,T⟩;unfold zAK;rw[ad];rfl
end
theorem yXK (K:DS n.aA) (O:n.aA.length<=90) (H:∀m∈n.aA,WW n.aA m.aN) (h:∀m∈n.aA,wt n.aA true m.aN<=64):zAK n=some (false,false):=by obtain⟨lo,D,G⟩:=yB3 K (by omega) H O;rw[D,G.2 h]
theorem yUY (K:DS l) (H:∀m∈l,WW l m.aN) (h:∀m∈l,wt l true m.aN<=64) (c:Int):wt l true c<=64:=by
 cases D:l.find? (isF c) with
 | some m=>obtain⟨G,rfl⟩:=zIH D;exact h m G
 | none=>
  rw[z11 (zYF K H) c,zKT D];have:=zRU c;simp only[];omega
structure VD0 (n:Norm):Prop where
 cv:CV n.aI
 mv:MV n.aA
 ca:Can n.aL.Ranges
 ne:∀k,k+1<n.aA.length->(nth n.aA (k+1)).aN≠(nth n.aA k).aN
 kd:∀m∈n.aA,m.bU= []->m.To.length=1\/m.To.length=2
 hk:∀m∈n.aA,hkE m.aN=0
 tc:∀m∈n.aA,m.bU≠[]->clE n.aI m.aN=0
 ww:∀m∈n.aA,WW n.aA m.aN
 wl:∀m∈n.aA,wt n.aA true m.aN<=64
theorem VD0.ds (h:VD0 n):DS n.aA:=⟨λk D=>by
  have a:=h.mv.lt k D;have b:=h.ne k D;unfold mlt at a;omega,h.hk,λm G=>by have:=h.mv.sz m G;omega⟩
theorem ySO (G:NSm n) (K:uV n) (D:VD0 n):xN n=some 0:=by
 obtain⟨e1,T,p1⟩:=z8L (l:=n.aI) (by have:=G.cl;omega) K.1.2
 obtain⟨e2,Z,p2⟩:=yUR (l:=n.aA) (by have:=G.de;omega) (λm H=>by have:=G.to m H;omega) (λm H=>by have:=G.tg m H;unfold MX;omega)
 obtain⟨e3,aa,p3⟩:=z8Q (s:=n.aL) G.ex;obtain rfl:=p1.2 D.cv;obtain rfl:=p2.2 D.mv;obtain rfl:=p3.2 D.ca;have al:=G.de;have aj:∀m:aG,(m.bU== [])=decide (m.bU= []):=λm=>by cases m.bU<;>rfl
 have l0:=zP3 (body:=λ(x:Int)=>uG n x) n.aA.length (λ_=>True) (λ_=>False) (λk h=> .inl ⟨trivial,by
  have ab:k<n.aA.length:=by omega
  simp only[uG,yY h,dO,zW h,zA,zL (k:=k+1) (by omega),zP1 (k:=k) (by omega),zW ab,jd (D.ne k h),dN]⟩) (λk h=>by simp only[uG,kU h,dN])
 have l1:=kA (body:=λ(x:Int)=>uH n x) n.aA.length (λ_=>True) (λ_=>False) (λk h=> .inl ⟨trivial,by
  have hb:((nth n.aA k).bU== [])=decide ((nth n.aA k).bU= []):=by cases (nth n.aA k).bU<;>rfl
  have hx:=D.kd _ (wP h);have:(((nth n.aA k).bU== [])&&(!decide (((nth n.aA k).To.length:Int)=1))&&(!decide (((nth n.aA k).To.length:Int)=2)))=false:=by
   rw[hb,iM];simp only[ne_eq,eC,fG,d7,dS]
   rintro⟨⟨h1,h2⟩,h3⟩
   have:=hx h1;omega
  simp only[uH,yY h,dO,zW h,zA,zN,zL (k:=k) (by omega),this,dN]⟩) (λk h=>by simp only[uH,kU h,dN])
 have O:=yXJ (n:=n) (by omega) n.aA.length 0 [] (by omega) (by omega) (by simp);simp only[e9,eN] at O;obtain⟨r,hr,pr⟩:=yQI D.cv (by have:=G.cl;omega) K.1.2 (text:=(n.aA.filter λm=>!(m.bU== [])).map (·.aN)) (by
  have:=i7 (λm:aG=>!(m.bU== [])) n.aA;simp only[fO];omega)
 obtain rfl:=pr.2 λc hc=>by
  obtain⟨m,H,rfl⟩:=fL.1 hc;obtain⟨a,b⟩:=fX.1 H;exact D.tc m a (by rintro e;rw[e] at b;cases b)
 rcases l0 with ⟨l0,_⟩ | ⟨_,hy,_⟩
 case inr=>exact hy.elim
 rcases l1 with ⟨l1,_⟩ | ⟨_,hy,_⟩
 case inr=>exact hy.elim
 rcases O with ⟨O,_⟩ | ⟨_,h⟩
 case inr=>exact absurd D.hk h
 have ah:zE (λ(x:Int×LI)=>kH n x.1 x.2) (0,[])=some (.inl ((n.aA.filter λm=>!(m.bU== [])).map (·.aN))):=O;unfold xN;rw[T,zA];simp only[eH,dY,dN];rw[Z,zA];simp only[eH,dY,dN];rw[aa,zA];simp only[dY,dN];rw[l0];simp only[zA,fw];rw[l1];simp only[zA,fw];rw[ah];simp only[zA,fw];rw[hr,zA,yXK D.ds (by omega) D.ww D.wl];rfl
set_option linter.unusedSimpArgs false
set_option linter.unusedVariables false
def sg (a b:Int):Int:=if a<b then -1 else if b<a then 1 else 0
theorem yD7 (a b:Int):decide (sg a b<0)=decide (a<b):=by unfold sg;by_cases h:a<b;simp[h];by_cases D:b<a<;>simp[h,D]
theorem yD8 {D:Type} [Inhabited D] {l m:List D} (h:k<l.length):nth (l++m) k=nth l k:=by simp[nth,eZ h]
theorem yD9 {D:Type} [Inhabited D] {l m:List D} (h:k=l.length+j):nth (l++m) k=nth m j:=by subst h;simp[nth,eU]
theorem wn {n:Int} (h:0<=n) (D:n<=1000000):wi n=n:=j9 (by omega) (by omega)
theorem ySP:∀(U V p W s:LI) (k:Nat) (N A B:Int),U.length=V.length->N=((k+U.length:Nat):Int)->A+k=(p.length:Int)->B+k=((p.length+U.length+W.length:Nat):Int)->0<=A->0<=B->p.length+U.length+W.length+V.length<=30000->k<=30000->
  zE (λ(x:Int×LI)=>yZ N B A x.1 x.2) ((k:Int),p++U++W++V++s)=some (p++V++W++U++s)
 | [],[],p,W,s,k,N,A,B,_,h,_,_,_,_,_,_=>by
  refine zP ?_;show yZ N B A (k:Int) _=_;simp only[yZ,h,kU (k:=k) (n:=k+0) (by omega),fE,dN]
 | u::U,v::V,p,W,s,k,N,A,B,hl,h,T,D,G,H,hs,hk=>by
  have hU:U.length=V.length:=by simpa using hl
  simp only[eF] at h D hs;have ih:=ySP U V (p++ [v]) (W++ [u]) s (k+1) N A B hU (by rw[h];omega) (by simp;omega) (by simp;omega) G H (by simp;omega) (by omega)
  have Z:p++u::U++W++v::V++s=(p++u::U++W)++v::(V++s):=by simp
  have K:p++u::U++W++v::V++s=p++u::(U++W++v::V++s):=by simp
  have i1:yO (p++u::U++W++v::V++s) (wi (B+k))=some v:=by
   rw[wn (by omega) (by omega),D,Z];exact zCT (by simp;omega)
  have i2:yO (p++u::U++W++v::V++s) (wi (A+k))=some u:=by
   rw[wn (by omega) (by omega),T,K];exact zCT rfl
  have s1:zCV (p++u::U++W++v::V++s) (wi (A+k)) v=some (p++v::(U++W++v::V++s)):=by
   rw[wn (by omega) (by omega),T,K];exact zF9 rfl
  have O:p++v::(U++W++v::V++s)=(p++v::U++W)++v::(V++s):=by simp
  have i3:yO (p++v::(U++W++v::V++s)) (wi (B+k))=some v:=by
   rw[wn (by omega) (by omega),D,O];exact zCT (by simp;omega)
  have s2:zCV (p++v::(U++W++v::V++s)) (wi (B+k)) u=some ((p++v::U++W)++u::(V++s)):=by
   rw[wn (by omega) (by omega),D,O];exact zF9 (by simp;omega)
  rw[zI (x':=(((k+1:Nat):Int),(p++ [v])++U++(W++ [u])++V++s))]
  ·rw[ih];simp
  ·show yZ N B A (k:Int) _=_
   simp only[yZ,h,yY (k:=k) (n:=k+(U.length+1)) (by omega),dO,i1,i2,s1,i3,s2,zA,zL (k:=k) (by omega)];simp
theorem z4N {U V W:LI} {N A B:Int} (H:U.length=V.length) (G:N=(U.length:Int)) (h:A=(p.length:Int)) (D:B=((p.length+U.length+W.length:Nat):Int)) (K:p.length+U.length+W.length+V.length<=30000):
  kO (p++U++W++V++s) A B N f=some (p++V++W++U++s):=by
 unfold kO;have:=ySP U V p W s 0 N A B H (by rw[G];simp) (by rw[h];simp) (by rw[D];simp) (by omega) (by omega) K (by omega)
 rw[show ((0:Nat):Int)=0 from rfl] at this;rw[this];rfl
theorem yUZ {f:Int->Int->Option Int} (M:Nat):∀(n:Nat) (P U V S:LI),U.length+V.length<=n->(P++U).length=M->0<U.length->0<V.length->P.length+U.length+V.length<=30000->
  ∃(i:Nat) (d:LI),zE (λ(x:Int×Int×LI)=>yK (M:Int) f x.1 x.2.1 x.2.2) ((U.length:Int),(V.length:Int),P++U++V++S)=some ((i:Int),d)/\i<=M/\
   kO d (wi ((M:Int)-(i:Int))) (M:Int) (i:Int) f=some (P++V++U++S)
 | 0,P,U,V,S,hn,Z,hU,hV,hs=>by omega
 | n+1,P,U,V,S,hn,Z,hU,hV,hs=>by
  simp only[d8] at Z;by_cases e:U.length=V.length
  ·refine⟨U.length,P++U++V++S,zP ?_,by omega,?_⟩
   ·show yK (M:Int) f (U.length:Int) (V.length:Int) _=_
    simp only[yK,e,eH,dY,dN]
   ·rw[wn (by omega) (by omega)]
    have:=z4N (U:=U) (V:=V) (p:=P) (W:=[]) (s:=S) (N:=U.length) (A:=(M:Int)-(U.length:Int)) (B:=(M:Int)) (f:=f) e rfl (by omega) (by simp;omega) (by simp;omega)
    simpa using this
  ·by_cases D:V.length<U.length
   ·have T:=yUZ (f:=f) M n (P++V) (U.drop V.length) (U.take V.length) S (by simp;omega) (by simp;omega) (by simp;omega) (by simp;omega) (by simp;omega)
    obtain⟨i,d,H,K,O⟩:=T;refine⟨i,d,?_,K,?_⟩
    ·rw[zI (x':=(((U.drop V.length).length:Int),((U.take V.length).length:Int),(P++V)++U.drop V.length++U.take V.length++S))]
     ·exact H
     ·show yK (M:Int) f (U.length:Int) (V.length:Int) _=_
      have h:=z4N (U:=U.take V.length) (V:=V) (p:=P) (W:=U.drop V.length) (s:=S) (N:=V.length) (A:=(M:Int)-(U.length:Int)) (B:=(M:Int)) (f:=f) (by simp;omega) (by simp;omega) (by omega) (by simp;omega) (by simp;omega)
      rw[show P++U.take V.length++U.drop V.length++V++S=P++U++V++S by rw[dW P,fh]] at h;have G:(!decide ((U.length:Int)=(V.length:Int)))=true:=by simp;omega
      simp only[yK,G,dO,yY D,wn (n:=(M:Int)-(U.length:Int)) (by omega) (by omega),wn (n:=(U.length:Int)-(V.length:Int)) (by omega) (by omega),h,zA];simp only[fD,fU];rw[show ((U.length-V.length:Nat):Int)=(U.length:Int)-(V.length:Int) by omega,show ((min V.length U.length:Nat):Int)=(V.length:Int) by omega]
    ·rw[O,dW (P++V),fh]
   ·have D:U.length<V.length:=by omega
    have T:=yUZ (f:=f) M n P (V.drop (V.length-U.length)) (V.take (V.length-U.length)) (U++S) (by simp;omega) (by simp;omega) (by simp;omega) (by simp;omega) (by simp;omega)
    obtain⟨i,d,H,K,O⟩:=T;refine⟨i,d,?_,K,?_⟩
    ·rw[zI (x':=(((V.drop (V.length-U.length)).length:Int),((V.take (V.length-U.length)).length:Int),P++V.drop (V.length-U.length)++V.take (V.length-U.length)++(U++S)))]
     ·exact H
     ·show yK (M:Int) f (U.length:Int) (V.length:Int) _=_
      have h:=z4N (U:=U) (V:=V.drop (V.length-U.length)) (p:=P) (W:=V.take (V.length-U.length)) (s:=S) (N:=U.length) (A:=(M:Int)-(U.length:Int)) (B:=(M:Int)+(V.length:Int)-(U.length:Int)) (f:=f) (by simp;omega) rfl (by omega) (by simp;omega) (by simp;omega)
      rw[show P++U++V.take (V.length-U.length)++V.drop (V.length-U.length)++S=P++U++V++S by rw[dW (P++U),fh]] at h;have G:(!decide ((U.length:Int)=(V.length:Int)))=true:=by simp;omega
      simp only[yK,G,dO,kU (k:=V.length) (n:=U.length) (by omega),dN,wn (n:=(M:Int)-(U.length:Int)) (by omega) (by omega),wn (n:=(M:Int)+(V.length:Int)) (by omega) (by omega),wn (n:=(M:Int)+(V.length:Int)-(U.length:Int)) (by omega) (by omega),wn (n:=(V.length:Int)-(U.length:Int)) (by omega) (by omega),h,zA];simp only[fD,fU,dW];rw[show ((V.length-(V.length-U.length):Nat):Int)=(U.length:Int) by omega,show ((min (V.length-U.length) V.length:Nat):Int)=(V.length:Int)-(U.length:Int) by omega]
    ·rw[O]
     rw[show P++V.take (V.length-U.length)++V.drop (V.length-U.length)++(U++S)=P++(V.take (V.length-U.length)++V.drop (V.length-U.length))++U++S by simp,fh]
theorem yU0 {P U V S:LI} {a m b:Int} (ha:a=(P.length:Int)) (h:m=((P++U).length:Nat)) (hb:b=((P++U++V).length:Nat)) (O:0<U.length) (T:0<V.length) (Z:P.length+U.length+V.length<=30000):
  xO (P++U++V++S) a m b f=some (P++V++U++S):=by
 obtain⟨i,d,H,h2,K⟩:=yUZ (f:=f) (P++U).length (U.length+V.length) P U V S (d9 _) rfl O T Z;unfold xO;have D:wi (m-a)=(U.length:Int):=by rw[wn (by simp at h;omega) (by simp at h;omega)];simp at h;omega
 have G:wi (b-m)=(V.length:Int):=by rw[wn (by simp at h hb;omega) (by simp at h hb;omega)];simp at h hb;omega
 rw[D,G,h,H,zA,K];rfl
set_option linter.unusedSimpArgs false
set_option linter.unusedVariables false
section
variable (key:Int->Int)
def Srt (l:LI):Prop:=l.Pairwise λx y=>key x<=key y
def Flt (a b:LI):Prop:=a.Perm b/\∀k,a.filter (λx=>decide (key x=k))=b.filter (λx=>decide (key x=k))
end
section
theorem Flt.refl (a:LI):Flt key a a:=⟨.refl _,λ_=>rfl⟩
theorem Flt.trans {b c:LI} (h:Flt key a b) (k:Flt key b c):Flt key a c:=⟨h.1.trans k.1,λq=>(h.2 q).trans (k.2 q)⟩
theorem Flt.symm {b:LI} (h:Flt key a b):Flt key b a:=⟨h.1.symm,λq=>(h.2 q).symm⟩
theorem Flt.app {b c d:LI} (h:Flt key a b) (k:Flt key c d):Flt key (a++c) (b++d):=⟨h.1.append k.1,λq=>by rw[List.filter_append,List.filter_append,h.2 q,k.2 q]⟩
theorem Flt.swap {b:LI} (h:∀x∈a,∀y∈b,key x≠key y):Flt key (a++b) (b++a):=⟨List.perm_append_comm,λq=>by
 rw[List.filter_append,List.filter_append];by_cases H:∃x∈a,key x=q
 ·obtain⟨x,K,e⟩:=H
  have:b.filter (λx=>decide (key x=q))= []:=by
   rw[i5];intro y G D;exact h x K y G (by rw[e];simpa using Eq.symm (by simpa using D))
  rw[this];simp
 ·have:a.filter (λx=>decide (key x=q))= []:=by
   rw[i5];intro y G D;exact H ⟨y,G,by simpa using D⟩
  rw[this];simp⟩
theorem Flt.mem {b:LI} (h:Flt key a b):x∈a↔x∈b:=h.1.mem_iff
theorem Flt.len {b:LI} (h:Flt key a b):a.length=b.length:=h.1.length_eq
theorem zJP {b:LI}:Srt key (a++b)↔Srt key a/\Srt key b/\∀x∈a,∀y∈b,key x<=key y:=i8
theorem zLL {l:LI} (h:Srt key l) (D:i<=j) (H:j<l.length):key (nth l i)<=key (nth l j):=by rcases Nat.lt_or_eq_of_le D with G | rfl;rw[zCQ H,zCQ (by omega:i<l.length)];exact List.pairwise_iff_getElem.1 h i j _ _ G;exact iq _
theorem z8W:∀{a b:LI},Srt key a->Srt key b->Flt key a b->a=b
 | [],b,_,_,h=>by have:=h.len;exact(dQ (by simpa using this.symm)).symm
 | x::a,[],_,_,h=>by have:=h.len;simp at this
 | x::a,y::b,G,hb,h=>by
  have D:key x=key y:=by
   have K:x∈y::b:=h.mem.1 (by simp);have O:y∈x::a:=h.mem.2 (by simp);have l1:key y<=key x:=by
    rcases eP.1 K with e | e;rw[e];exact iq _;exact List.rel_of_pairwise_cons hb e
   have l2:key x<=key y:=by
    rcases eP.1 O with e | e;rw[e];exact iq _;exact List.rel_of_pairwise_cons G e
   omega
  have H:=h.2 (key x);rw[gP (by simp),gP (by simp[D])] at H;have Z:x=y:=(List.cons.inj H).1;subst Z;have T:Flt key a b:=⟨h.1.cons_inv,λk=>by
   have:=h.2 k;by_cases e:key x=k;rw[gP (by simpa using e),gP (by simpa using e)] at this;exact(List.cons.inj this).2;rw[gW (by simpa using e),gW (by simpa using e)] at this;exact this⟩
  rw[z8W (List.Pairwise.of_cons G) (List.Pairwise.of_cons hb) T]
theorem yML (h:k+1<=1000000):wi (((k+1:Nat):Int)-1)=(k:Int):=by rw[wn (by omega) (by omega)];omega
theorem z8X (lt:Int->Int->Bool):∀(r:LI) (x:Int) (s:LI) (y:Int),y∈zES lt r x s->y∈r\/y=x\/y∈s
 | [],x,s,y,h=>by
  rcases eP.1 h with h | h;exact .inr (.inl h);exact .inr (.inr h)
 | z::r,x,s,y,h=>by
  unfold zES at h;split at h;rcases z8X lt r x (z::s) y h with h | h | h
  exact .inl (gI _ h);exact .inr (.inl h);rcases eP.1 h with h | h
  exact .inl (by rw[h];exact List.mem_cons_self)
  exact .inr (.inr h);rcases fk.1 h with h | h
  exact .inl (List.mem_reverse.1 h);rcases eP.1 h with h | h
  exact .inr (.inl h);exact .inr (.inr h)
section
variable {Q:Int->Prop} {lt:Int->Int->Bool} {g:Int->Int->Option Int} (hq:∀x y,Q x->Q y->∃c,g x y=some c/\decide (c<0)=lt x y)
include hq
theorem ySQ (p t:LI):∀(r:LI) (x:Int) (s:LI),Q x->(∀y∈r,Q y)->p.length+r.length<=30000->zE (λ(q:Int×LI)=>z6 (p.length:Int) g q.1 q.2) (((p.length+r.length:Nat):Int),p++(r.reverse++x::s)++t)=some (p++zES lt r x s++t)
 | [],x,s,_,_,_=>by
  refine zP ?_;show z6 (p.length:Int) g _ _=_;simp only[z6,fE,kU (k:=p.length) (n:=p.length+0) (by omega),zN,zBR,zA,fj,dN];rfl
 | y::r,x,s,hx,Z,h=>by
  simp only[eF] at h;have K:p++((y::r).reverse++x::s)++t=(p++r.reverse++ [y])++x::(s++t):=by simp
  have e2:p++((y::r).reverse++x::s)++t=(p++r.reverse)++y::(x::s++t):=by simp
  have T:((p.length+(y::r).length:Nat):Int)=((p.length+r.length+1:Nat):Int):=by simp;omega
  have i1:yO (p++((y::r).reverse++x::s)++t) ((p.length+r.length+1:Nat):Int)=some x:=by rw[K];exact zCT (by simp;omega)
  have i2:yO (p++((y::r).reverse++x::s)++t) ((p.length+r.length:Nat):Int)=some y:=by rw[e2];exact zCT (by simp)
  have s1:zCV (p++((y::r).reverse++x::s)++t) ((p.length+r.length+1:Nat):Int) y=some ((p++r.reverse++ [y])++y::(s++t)):=by rw[K];exact zF9 (by simp;omega)
  have O:(p++r.reverse++ [y])++y::(s++t)=(p++r.reverse)++y::(y::s++t):=by simp
  have i3:yO ((p++r.reverse++ [y])++y::(s++t)) ((p.length+r.length:Nat):Int)=some y:=by rw[O];exact zCT (by simp)
  have s2:zCV ((p++r.reverse++ [y])++y::(s++t)) ((p.length+r.length:Nat):Int) x=some ((p++r.reverse)++x::(y::s++t)):=by rw[O];exact zF9 (by simp)
  have hb:decide ((p.length:Int)<((p.length+r.length+1:Nat):Int))=true:=yY (by omega);obtain⟨c,G,D⟩:=hq x y hx (Z y (by simp));cases H:lt x y with
  | true=>
   rw[H] at D;rw[T,zI (x':=(((p.length+r.length:Nat):Int),p++(r.reverse++x::(y::s))++t)),ySQ p t r x (y::s) hx (λz hz=>Z z (by simp[hz])) (by omega)];simp[zES,H];show z6 (p.length:Int) g _ _=_;simp only[z6,hb,zN,vN,yML (k:=p.length+r.length) (by omega),i1,i2,zA,G,D,g9,dO,s1,i3,s2];simp
  | false=>
   rw[H] at D;rw[T];refine zP ?_;show z6 (p.length:Int) g _ _=_;simp only[z6,hb,zN,vN,yML (k:=p.length+r.length) (by omega),i1,i2,zA,G,D,i6,dN];simp[zES,H]
theorem ySR (p t:LI):∀(l q:LI),(∀y∈l,Q y)->(∀y∈q,Q y)->1<=q.length->p.length+q.length+l.length<=30000->zE (λ(x:Int×LI)=>zZ ((p.length+q.length+l.length:Nat):Int) (p.length:Int) g x.1 x.2) (((p.length+q.length:Nat):Int),p++(q++l)++t)=some (p++zA0 lt l q++t)
 | [],q,_,_,_,_=>by
  refine zP ?_;show zZ _ (p.length:Int) g _ _=_;simp only[zZ,fE,kU (k:=p.length+q.length) (n:=p.length+q.length+0) (by omega),dN];simp[zA0]
 | x::l,q,K,G,aa,h=>by
  simp only[eF] at h;have hi:=ySQ hq p (l++t) q.reverse x [] (K x (by simp)) (λy H=>G y (by simpa using H)) (by simp;omega)
  rw[List.length_reverse,gY] at hi;have T:p++(q++x::l)++t=p++(q++ [x])++(l++t):=by simp
  have D:=yL9 lt q.reverse x [];simp only[List.length_reverse,fE] at D;have O:∀y∈zES lt q.reverse x [],Q y:=λy H=>by
   rcases z8X lt q.reverse x [] y H with h | h | h;exact G y (by simpa using h);rw[h];exact K x (by simp);cases h
  have ih:=ySR p t l (zES lt q.reverse x []) (λy H=>K y (by simp[H])) O (by omega) (by omega);rw[zI (x':=(((p.length+(zES lt q.reverse x []).length:Nat):Int),p++(zES lt q.reverse x []++l)++t))];have Z:((p.length+q.length+(x::l).length:Nat):Int)=((p.length+(zES lt q.reverse x []).length+l.length:Nat):Int):=by simp;omega
  rw[Z,ih];rfl;show zZ _ (p.length:Int) g _ _=_;simp only[zZ,eF,yY (k:=p.length+q.length) (n:=p.length+q.length+(l.length+1)) (by omega),dO,T,hi,zA,zL (k:=p.length+q.length) (by omega),D];simp only[dW];rw[show p.length+q.length+1=p.length+(q.length+1+0) by omega]
theorem yXL {m t:LI} {a b:Int} (H:a=(p.length:Int)) (hb:b=((p.length+m.length:Nat):Int)) (G:∀y∈m,Q y) (h:p.length+m.length<=30000):kM (p++m++t) a b g=some (p++zA0 lt m []++t):=by
 unfold kM;have K:wi (a+1)=((p.length+1:Nat):Int):=by rw[wn (by omega) (by omega)];omega
 rw[K];cases m with
 | nil=>
  have:zE (λ(x:Int×LI)=>zZ b a g x.1 x.2) (((p.length+1:Nat):Int),p++ []++t)=some (p++ []++t):=zP (by
   show zZ b a g _ _=_;simp only[zZ,hb,fE,kU (k:=p.length+1) (n:=p.length+0) (by omega),dN])
  rw[this];rfl
 | cons x m=>
  have:=ySR hq p t m [x] (λy D=>G y (by simp[D])) (λy D=>by rw[fY.1 D];exact G x (by simp)) (by simp) (by simp at h ⊢;omega)
  rw[H,hb];have e:p.length+ [x].length+m.length=p.length+(x::m).length:=by simp;omega
  rw[e] at this;simp only[gL,gV] at this;rw[this];rfl
end
variable (hf:∀x y,f x y=some (sg (key x) (key y)))
include hf
theorem yXM {m t:LI} {a b:Int} (D:a=(p.length:Int)) (hb:b=((p.length+m.length:Nat):Int)) (h:p.length+m.length<=30000):kM (p++m++t) a b f=some (p++zA0 (λa b=>decide (key a<key b)) m []++t):=
 yXL (Q:=λ_=>True) (λx y _ _=>⟨_,hf x y,by simp only[yD7]⟩) D hb (λ_ _=>trivial) h
omit hf in
theorem z8Y:∀(r:LI) (x:Int) (s:LI),(∀y∈s,key x<key y)->Flt key (r.reverse++x::s) (zES (λa b=>decide (key a<key b)) r x s)
 | [],x,s,_=>Flt.refl _
 | y::r,x,s,G=>by
  unfold zES;by_cases h:key x<key y
  ·
   simp only[h,eH,eK];refine Flt.trans ?_ (z8Y r x (y::s) (λz H=>by
    rcases eP.1 H with e | e
    · rw[e];exact h
    · exact G z e))
   have:Flt key ([y]++ [x]) ([x]++ [y]):=Flt.swap (by simp;omega)
   have D:=(Flt.refl (key:=key) r.reverse).app (this.app (Flt.refl s));simpa using D
  ·
   simp only[h,e6,fg,eE];exact Flt.refl _
omit hf in
theorem zP9:∀(l q:LI),Flt key (q++l) (zA0 (λa b=>decide (key a<key b)) l q)
 | [],q=>by simp[zA0];exact Flt.refl _
 | x::l,q=>by
  have h:=z8Y (key:=key) q.reverse x [] (by simp);rw[gY] at h;have D:=(h.app (Flt.refl l)).trans (zP9 l (zES (λa b=>decide (key a<key b)) q.reverse x []));simpa[zA0] using D
omit hf in
theorem zUS (l:LI):Srt key (zA0 (λa b=>decide (key a<key b)) l []):=by
 have:=zDX (λa b=>decide (key a<key b)) (λa b c D G=>by simp at *;omega) (λa b D=>by simp at *;omega) l [] .nil
 exact this.imp λ{a b} h=>by
  have h:decide (key b<key a)=false:=h;simp at h;exact h
end
set_option linter.unusedSimpArgs false
set_option linter.unusedVariables false
theorem yB4 {body:Int×Int->Option (Stp (Int×Int) Int)} (q:Nat->Bool) (A B:Nat)
  (h:∀k:Nat,A<=k->k<=B->body ((k:Int),(k:Int))=some (.done (k:Int)))
  (G:∀lo hi:Nat,A<=lo->lo<hi->hi<=B->body ((lo:Int),(hi:Int))=some (.next (if q ((lo+hi)/2) then ((lo:Int),(((lo+hi)/2:Nat):Int)) else ((((lo+hi)/2+1:Nat):Int),(hi:Int)))))
  (hm:∀i j,A<=i->i<=j->j<B->q i=true->q j=true):
  ∀(n lo hi:Nat),hi-lo<=n->A<=lo->lo<=hi->hi<=B->∃j:Nat,lo<=j/\j<=hi/\zE body ((lo:Int),(hi:Int))=some (j:Int)/\(∀i,lo<=i->i<j->q i=false)/\(∀i,j<=i->i<hi->q i=true):=by
 intro n
 induction n with
 | zero=>
  intro lo hi h1 H h3 K;have:hi=lo:=by omega
  subst this;exact⟨hi,by omega,by omega,zP (h hi H K),λi a b=>by omega,λi a b=>by omega⟩
 | succ n ih=>
  intro lo hi h1 H h3 K;by_cases e:lo=hi
  ·subst e
   exact⟨lo,by omega,by omega,zP (h lo H K),λi a b=>by omega,λi a b=>by omega⟩
  ·have T:=G lo hi H (by omega) K
   cases O:q ((lo+hi)/2) with
   | true=>
    rw[O,eG rfl] at T;obtain⟨j,j1,j2,j3,j4,j5⟩:=ih lo ((lo+hi)/2) (by omega) H (by omega) (by omega);refine⟨j,j1,by omega,by rw[zI T];exact j3,j4,λi a b=>?_⟩
    by_cases D:i<(lo+hi)/2
    ·exact j5 i a D
    ·exact hm ((lo+hi)/2) i (by omega) (by omega) (by omega) O
   | false=>
    rw[O,dU (by simp)] at T;obtain⟨j,j1,j2,j3,j4,j5⟩:=ih ((lo+hi)/2+1) hi (by omega) (by omega) (by omega) K;refine⟨j,by omega,j2,by rw[zI T];exact j3,λi a b=>?_,j5⟩
    by_cases D:(lo+hi)/2+1<=i
    ·exact j4 i D b
    ·cases Z:q i with
     | false=>rfl
     | true=>
      have:=hm i ((lo+hi)/2) (by omega) (by omega) (by omega) Z;rw[O] at this;cases this
theorem yXN (t:LI) (x:Int):∀(U p:LI) (Y:Int),Y=((p.length+U.length+1:Nat):Int)->p.length+U.length<=30000->zE (λ(q:Int×LI)=>kD Y q.1 q.2) ((p.length:Int),p++x::U++t)=some (p++U++x::t)
 | [],p,Y,D,h=>by
  refine zP ?_;show kD Y _ _=_;have:wi (Y-1)=((p.length+0:Nat):Int):=by rw[wn (by rw[D];simp) (by rw[D];simp;simp at h;omega),D];simp
  simp only[kD,this,kU (k:=p.length) (n:=p.length+0) (by omega),dN];simp
 | y::U,p,Y,D,h=>by
  simp only[eF] at D h;have O:wi (Y-1)=((p.length+(U.length+1):Nat):Int):=by rw[wn (by rw[D];omega) (by rw[D];omega),D];omega
  have G:p++x::y::U++t=p++x::(y::U++t):=by simp
  have H:p++x::y::U++t=(p++ [x])++y::(U++t):=by simp
  have K:wi ((p.length:Int)+1)=((p.length+1:Nat):Int):=zL (by omega);have T:yO (p++x::y::U++t) ((p.length+1:Nat):Int)=some y:=by rw[H];exact zCT (by simp)
  have Z:yO (p++x::y::U++t) (p.length:Int)=some x:=by rw[G];exact zCT rfl
  have s1:zCV (p++x::y::U++t) (p.length:Int) y=some ((p++ [y])++y::(U++t)):=by rw[G,zF9 rfl];simp
  have i3:yO ((p++ [y])++y::(U++t)) ((p.length+1:Nat):Int)=some y:=zCT (by simp);have s2:zCV ((p++ [y])++y::(U++t)) ((p.length+1:Nat):Int) x=some ((p++ [y])++x::(U++t)):=zF9 (by simp);rw[zI (x':=(((p++ [y]).length:Int),(p++ [y])++x::U++t)),yXN t x U (p++ [y]) Y (by rw[D];simp;omega) (by simp;omega)]
  simp;show kD Y _ _=_;simp only[kD,O,yY (k:=p.length) (n:=p.length+(U.length+1)) (by omega),dO,K,T,Z,s1,i3,s2,zA];simp
theorem yXO (t p:LI) (y:Int):∀(r:LI),p.length+r.length<=30000->∀t,zE (λ(q:Int×LI)=>kF (p.length:Int) q.1 q.2) (((p.length+r.length:Nat):Int),p++r.reverse++y::t)=some (p++y::r.reverse++t)
 | [],h,t=>by
  refine zP ?_;show kF _ _ _=_;simp only[kF,fE,kU (k:=p.length) (n:=p.length+0) (by omega),dN];simp
 | x::r,h,t=>by
  simp only[eF] at h;have K:((p.length+(x::r).length:Nat):Int)=((p.length+r.length+1:Nat):Int):=by simp;omega
  have D:p++(x::r).reverse++y::t=(p++r.reverse++ [x])++y::t:=by simp
  have H:p++(x::r).reverse++y::t=(p++r.reverse)++x::(y::t):=by simp
  have O:yO (p++(x::r).reverse++y::t) ((p.length+r.length:Nat):Int)=some x:=by rw[H];exact zCT (by simp)
  have T:yO (p++(x::r).reverse++y::t) ((p.length+r.length+1:Nat):Int)=some y:=by rw[D];exact zCT (by simp;omega)
  have s1:zCV (p++(x::r).reverse++y::t) ((p.length+r.length+1:Nat):Int) x=some ((p++r.reverse++ [x])++x::t):=by rw[D];exact zF9 (by simp;omega)
  have G:(p++r.reverse++ [x])++x::t=(p++r.reverse)++x::(x::t):=by simp
  have Z:yO ((p++r.reverse++ [x])++x::t) ((p.length+r.length:Nat):Int)=some x:=by rw[G];exact zCT (by simp)
  have s2:zCV ((p++r.reverse++ [x])++x::t) ((p.length+r.length:Nat):Int) y=some ((p++r.reverse)++y::(x::t)):=by rw[G];exact zF9 (by simp)
  rw[K,zI (x':=(((p.length+r.length:Nat):Int),p++r.reverse++y::(x::t))),yXO t p y r (by omega) (x::t)];simp;show kF _ _ _=_;simp only[kF,yY (k:=p.length) (n:=p.length+r.length+1) (by omega),dO,yML (k:=p.length+r.length) (by omega),O,T,s1,Z,s2,zA]
theorem zHM {l:LI} {n:Nat} (h:x∈l.take n):∃i,i<n/\i<l.length/\nth l i=x:=by obtain⟨i,hi,e⟩:=gK h;simp at hi;refine⟨i,by omega,by omega,?_⟩;rw[zCQ (by omega)];simpa using e
theorem zJQ {l:LI} {n:Nat} (h:x∈l.drop n):∃i,n<=i/\i<l.length/\nth l i=x:=by obtain⟨i,hi,e⟩:=gK h;simp at hi;refine⟨n+i,by omega,by omega,?_⟩;rw[zCQ (by omega)];simpa using e
section
variable (hf:∀x y,f x y=some (sg (key x) (key y)))
include hf
theorem yZP {R:LI} {a m b:Int} (Z:Srt key R) (ha:a=(p.length:Int)) (hm:m=((p.length+1:Nat):Int)) (hb:b=((p.length+1+R.length:Nat):Int)) (h:p.length+1+R.length<=30000):
  ∃M,yJ rec (p++ [x]++R++s) a m b f=some (p++M++s)/\Srt key M/\Flt key ([x]++R) M:=by
 have hd:∀i,i<R.length->yO (p++ [x]++R++s) ((p.length+1+i:Nat):Int)=some (nth R i):=λi hi=>by
  rw[zW (by simp;omega),dW (p++ [x]),yD9 (j:=i) (by simp),yD8 hi]
 have hx:yO (p++ [x]++R++s) (p.length:Int)=some x:=by
  rw[show p++ [x]++R++s=p++x::(R++s) by simp];exact zCT rfl
 obtain⟨j,j1,j2,j3,j4,j5⟩:=yB4 (body:=λ(q:Int×Int)=>kC (p++ [x]++R++s) a f q.1 q.2) (λk=>!decide (key (nth R (k-(p.length+1)))<key x)) (p.length+1) (p.length+1+R.length)
  (λk _ _=>by
   show kC _ a f _ _=_;simp only[kC,kU (d9 _),dN])
  (λlo hi K D h3=>by
   show kC _ a f _ _=_;have e:(lo+hi)/2=p.length+1+((lo+hi)/2-(p.length+1)):=by omega
   have T:yO (p++ [x]++R++s) (((lo+hi)/2:Nat):Int)=some (nth R ((lo+hi)/2-(p.length+1))):=by
    have:=hd ((lo+hi)/2-(p.length+1)) (by omega);rw[<-e] at this;exact this
   simp only[kC,yY D,dO,zUO (lo:=lo) (hi:=hi) (by omega),T,ha,hx,zA,hf,yD7];by_cases hc:key (nth R ((lo+hi)/2-(p.length+1)))<key x
   ·simp only[hc,eH,dO,zA,dY,fg,eE,zL (k:=(lo+hi)/2) (by omega)]
   ·simp only[hc,e6,dN,zA,eD,eK])
  (λi k K D h3 hq=>by
   simp only[fG,dS] at hq ⊢;have:=zLL Z (i:=i-(p.length+1)) (j:=k-(p.length+1)) (by omega) (by omega);omega) (R.length) (p.length+1) (p.length+1+R.length) (by omega) (by omega) (by omega) (by omega)
 refine⟨R.take (j-(p.length+1))++ [x]++R.drop (j-(p.length+1)),?_,?_,?_⟩
 ·unfold yJ
  have e1:decide (wi (m-a)=1)=true:=by rw[wn (by omega) (by omega)];simp;omega
  rw[e1,dO,hm,hb,j3,zA];have:=yXN (R.drop (j-(p.length+1))++s) x (R.take (j-(p.length+1))) p (j:Int) (by simp;omega) (by simp;omega)
  rw[ha];rw[show p++x::R.take (j-(p.length+1))++(R.drop (j-(p.length+1))++s)=p++ [x]++R++s by
   rw[<-dW,dW p,fV,dW p,fV,fh];simp] at this
  rw[this];simp
 ·have O:∀y∈R.take (j-(p.length+1)),key y<key x:=λy hy=>by
   obtain⟨i,i1,i2,rfl⟩:=zHM hy;have:=j4 (p.length+1+i) (by omega) (by omega);simpa using this
  have hD:∀y∈R.drop (j-(p.length+1)),key x<=key y:=λy hy=>by
   obtain⟨i,i1,i2,rfl⟩:=zJQ hy;have:=j5 (p.length+1+i) (by omega) (by omega);simpa using this
  have G:=Z;rw[<-fh (j-(p.length+1)) R] at G;obtain⟨r1,r2,r3⟩:=zJP.1 G;refine zJP.2 ⟨zJP.2 ⟨r1,List.pairwise_singleton _ _,λy hy z H=>?_⟩,r2,λy hy z H=>?_⟩
  ·simp at H;rw[H];have:=O y hy;omega
  ·rcases fk.1 hy with hy | hy
   ·exact r3 y hy z H
   ·simp at hy;rw[hy];exact hD z H
 ·have O:∀y∈R.take (j-(p.length+1)),key y<key x:=λy hy=>by
   obtain⟨i,i1,i2,rfl⟩:=zHM hy;have:=j4 (p.length+1+i) (by omega) (by omega);simpa using this
  have K:Flt key ([x]++R.take (j-(p.length+1))) (R.take (j-(p.length+1))++ [x]):=Flt.swap λu hu v hv=>by
   simp at hu;rw[hu];have:=O v hv;omega
  have D:=K.app (Flt.refl (R.drop (j-(p.length+1))));rw[dW,fh] at D;exact D
theorem yZQ {L:LI} {y:Int} {a m b:Int} (hL:Srt key L) (G:2<=L.length) (ha:a=(p.length:Int)) (T:m=((p.length+L.length:Nat):Int)) (hb:b=((p.length+L.length+1:Nat):Int)) (h:p.length+L.length+1<=30000):
  ∃M,yJ rec (p++L++ [y]++s) a m b f=some (p++M++s)/\Srt key M/\Flt key (L++ [y]) M:=by
 have hd:∀i,i<L.length->yO (p++L++ [y]++s) ((p.length+i:Nat):Int)=some (nth L i):=λi hi=>by
  rw[zW (by simp;omega),dW,dW,yD9 (j:=i) rfl,yD8 hi]
 have hy:yO (p++L++ [y]++s) ((p.length+L.length:Nat):Int)=some y:=by
  rw[show p++L++ [y]++s=(p++L)++y::s by simp];exact zCT (by simp)
 obtain⟨j,j1,j2,j3,j4,j5⟩:=yB4 (body:=λ(q:Int×Int)=>kE (p++L++ [y]++s) m f q.1 q.2) (λk=>decide (key y<key (nth L (k-p.length)))) p.length (p.length+L.length)
  (λk _ _=>by
   show kE _ m f _ _=_;simp only[kE,kU (d9 _),dN])
  (λlo hi K G h3=>by
   show kE _ m f _ _=_;have e:(lo+hi)/2=p.length+((lo+hi)/2-p.length):=by omega
   have O:yO (p++L++ [y]++s) (((lo+hi)/2:Nat):Int)=some (nth L ((lo+hi)/2-p.length)):=by
    have:=hd ((lo+hi)/2-p.length) (by omega);rw[<-e] at this;exact this
   simp only[kE,yY G,dO,zUO (lo:=lo) (hi:=hi) (by omega),O,T,hy,zA,hf,yD7];by_cases hc:key y<key (nth L ((lo+hi)/2-p.length))
   ·simp only[hc,eH,dY,dN,zA,eK]
   ·simp only[hc,e6,eD,dO,zA,fg,eE,zL (k:=(lo+hi)/2) (by omega)])
  (λi k K G h3 hq=>by
   simp only[d7] at hq ⊢;have:=zLL hL (i:=i-p.length) (j:=k-p.length) (by omega) (by omega);omega) L.length p.length (p.length+L.length) (by omega) (by omega) (by omega) (by omega)
 have hT:∀z∈L.take (j-p.length),key z<=key y:=λz Z=>by
  obtain⟨i,i1,i2,rfl⟩:=zHM Z;have:=j4 (p.length+i) (by omega) (by omega);simpa using this
 have hD:∀z∈L.drop (j-p.length),key y<key z:=λz Z=>by
  obtain⟨i,i1,i2,rfl⟩:=zJQ Z;have:=j5 (p.length+i) (by omega) (by omega);simpa using this
 refine⟨L.take (j-p.length)++([y]++L.drop (j-p.length)),?_,?_,?_⟩
 ·unfold yJ
  have e1:decide (wi (m-a)=1)=false:=by rw[wn (by omega) (by omega)];simp;omega
  have e2:decide (wi (b-m)=1)=true:=by rw[wn (by omega) (by omega)];simp;omega
  rw[e1,dN,e2,dO,ha,T];rw[T] at j3;rw[j3,zA];have:=yXO s (p++L.take (j-p.length)) y (L.drop (j-p.length)).reverse (by simp;omega) s
  rw[gY] at this;have e3:((p++L.take (j-p.length)).length:Int)=(j:Int):=by simp;omega
  have e4:(((p++L.take (j-p.length)).length+(L.drop (j-p.length)).reverse.length:Nat):Int)=((p.length+L.length:Nat):Int):=by simp;omega
  rw[e3,e4] at this;rw[show p++L.take (j-p.length)++L.drop (j-p.length)++y::s=p++L++ [y]++s by rw[dW p,fh];simp] at this
  rw[this];simp
 ·have H:=hL
  rw[<-fh (j-p.length) L] at H;obtain⟨r1,r2,r3⟩:=zJP.1 H;refine zJP.2 ⟨r1,zJP.2 ⟨List.pairwise_singleton _ _,r2,λu D v hv=>?_⟩,λu D v hv=>?_⟩
  ·simp at D;rw[D];have:=hD v hv;omega
  ·rcases fk.1 hv with hv | hv
   ·simp at hv;rw[hv];exact hT u D
   ·exact r3 u D v hv
 ·have K:Flt key (L.drop (j-p.length)++ [y]) ([y]++L.drop (j-p.length)):=Flt.swap λu D v hv=>by
   simp at hv;rw[hv];have:=hD u D;omega
  have G:=(Flt.refl (key:=key) (L.take (j-p.length))).app K;rw[<-dW,fh] at G;exact G
end
set_option linter.unusedSimpArgs false
set_option linter.unusedVariables false
section
variable (hf:∀x y,f x y=some (sg (key x) (key y)))
include hf
theorem yZR {L R:LI} {a m b:Int} (hL:Srt key L) (hR:Srt key R) (l2:2<=L.length) (r2:2<=R.length) (ha:a=(p.length:Int)) (hm:m=((p.length+L.length:Nat):Int)) (hb:b=((p.length+L.length+R.length:Nat):Int)) (h:p.length+L.length+R.length<=30000)
  (ih:∀(p L' R' s:LI) (a m b:Int),2*(L'.length+R'.length)<=L.length+R.length+1->0<L'.length->0<R'.length->Srt key L'->Srt key R'->a=(p.length:Int)->m=((p.length+L'.length:Nat):Int)->b=((p.length+L'.length+R'.length:Nat):Int)->p.length+L'.length+R'.length<=30000->
   ∃M,rec (p++L'++R'++s) a m b f=some (p++M++s)/\Srt key M/\Flt key (L'++R') M):
  ∃M,yJ rec (p++L++R++s) a m b f=some (p++M++s)/\Srt key M/\Flt key (L++R) M:=by
 obtain⟨A,hA⟩:∃A,A=p.length:=⟨_,rfl⟩;obtain⟨K,hK⟩:∃K,K=L.length:=⟨_,rfl⟩;obtain⟨N,hN⟩:∃N,N=R.length:=⟨_,rfl⟩;obtain⟨D,bc⟩:∃D,D=(A+(A+K+N))/2:=⟨_,rfl⟩;have bu:∀i,i<K->yO (p++L++R++s) ((A+i:Nat):Int)=some (nth L i):=λi hi=>by
  rw[zW (by simp;omega),dW,dW,yD9 (j:=i) (by omega),yD8 (by omega)]
 have bv:∀i,i<N->yO (p++L++R++s) ((A+K+i:Nat):Int)=some (nth R i):=λi hi=>by
  rw[zW (by simp;omega),dW (p++L),yD9 (j:=i) (by simp;omega),yD8 (by omega)]
 obtain⟨s0,r0,h0,bz,cz,cx,cy,ah⟩:∃s0 r0:Nat,(cond (decide ((D:Int)<m)) (some (wi (wi ((D:Int)+m)-b),(D:Int))) (some (a,m)):Option (Int×Int))=some ((s0:Int),(r0:Int))/\s0<=r0/\A<=s0/\r0<=A+K/\r0<=D/\((s0=A/\r0=A+K/\A+K<=D)\/(D=s0+N/\r0=D/\D<A+K)):=by
  by_cases hc:D<A+K
  ·refine⟨D+(A+K)-(A+K+N),D,?_,by omega,by omega,by omega,by omega,.inr ⟨by omega,rfl,by omega⟩⟩
   have:decide ((D:Int)<m)=true:=by simp;omega
   rw[this,dO,wn (n:=(D:Int)+m) (by omega) (by omega),wn (by omega) (by omega)];congr 2;omega
  ·refine⟨A,A+K,?_,by omega,by omega,by omega,by omega,.inl ⟨rfl,rfl,by omega⟩⟩
   have:decide ((D:Int)<m)=false:=by simp;omega
   rw[this,dN,ha,hm,hA,hK]
 have ai:wi ((wu (wi (a+b)))/2 ^ 1)=(D:Int):=by
  rw[ha,hb,<-hA,<-hK,<-hN,zUO (lo:=A) (hi:=A+K+N) (by omega),bc]
 have ar:∀c,s0<=c->c<r0->A<=c/\c-A<K/\A+K<=D+(A+K)-1-c/\D+(A+K)-1-c-(A+K)<N:=λc Z h2=>by
  rcases ah with h3 | h3<;>omega
 obtain⟨j,j1,j2,j3,j4,j5⟩:=yB4 (body:=λ(q:Int×Int)=>kG (p++L++R++s) a b m f q.1 q.2) (λc=>decide (key (nth R (D+(A+K)-1-c-(A+K)))<key (nth L (c-A)))) s0 r0
  (λk _ _=>by
   show kG _ a b m f _ _=_;simp only[kG,kU (d9 _),dN])
  (λlo hi Z h2 h3=>by
   show kG _ a b m f _ _=_;obtain⟨c1,c2,c3,c4⟩:=ar ((lo+hi)/2) (by omega) (by omega);have i1:yO (p++L++R++s) (((lo+hi)/2:Nat):Int)=some (nth L ((lo+hi)/2-A)):=by
    have:=bu ((lo+hi)/2-A) c2;rw[show A+((lo+hi)/2-A)=(lo+hi)/2 by omega] at this;exact this
   have i2:yO (p++L++R++s) ((D+(A+K)-1-(lo+hi)/2:Nat):Int)=some (nth R (D+(A+K)-1-(lo+hi)/2-(A+K))):=by
    have:=bv (D+(A+K)-1-(lo+hi)/2-(A+K)) c4;rw[show A+K+(D+(A+K)-1-(lo+hi)/2-(A+K))=D+(A+K)-1-(lo+hi)/2 by omega] at this;exact this
   have e1:wi (wi (wi ((D:Int)+m)-1)-(((lo+hi)/2:Nat):Int))=((D+(A+K)-1-(lo+hi)/2:Nat):Int):=by
    rw[wn (n:=(D:Int)+m) (by omega) (by omega),wn (n:=(D:Int)+m-1) (by omega) (by omega),wn (by omega) (by omega)];omega
   simp only[kG,yY h2,dO,ai,zUO (lo:=lo) (hi:=hi) (by omega),e1,i1,i2,zA,hf,yD7];by_cases hc:key (nth R (D+(A+K)-1-(lo+hi)/2-(A+K)))<key (nth L ((lo+hi)/2-A))
   ·simp only[hc,eH,dY,dN,zA,eK]
   ·simp only[hc,e6,eD,dO,zA,fg,eE,zL (k:=(lo+hi)/2) (by omega)])
  (λi k Z h2 h3 hq=>by
   simp only[d7] at hq ⊢;obtain⟨c1,c2,c3,c4⟩:=ar i Z (by omega);obtain⟨d1,d2,d3,d4⟩:=ar k (by omega) h3;have q1:=zLL hL (i:=i-A) (j:=k-A) (by omega) (by omega);have q2:=zLL hR (i:=D+(A+K)-1-k-(A+K)) (j:=D+(A+K)-1-i-(A+K)) (by omega) (by omega);omega) (r0-s0) s0 r0 (by omega) (by omega) bz (by omega)
 obtain⟨L1,an⟩:∃x,x=L.take (j-A):=⟨_,rfl⟩;obtain⟨H,ao⟩:∃x,x=L.drop (j-A):=⟨_,rfl⟩;obtain⟨R1,ap⟩:∃x,x=R.take (D-j):=⟨_,rfl⟩;obtain⟨O,aq⟩:∃x,x=R.drop (D-j):=⟨_,rfl⟩;have eL:L=L1++H:=by rw[an,ao,fh]
 have eR:R=R1++O:=by rw[ap,aq,fh]
 have dh:L1.length=j-A:=by rw[an];simp;omega
 have dl:R1.length=D-j:=by rw[ap];simp;rcases ah with h3 | h3<;>omega
 have dj:H.length=A+K-j:=by rw[ao];simp;omega
 have dm:O.length=N-(D-j):=by rw[aq];simp;omega
 have ct:j<=D:=by omega
 have cr:D-j<=N:=by rcases ah with h3 | h3<;>omega
 have bb:∀x∈R1,∀y∈H,key x<key y:=λx T y hy=>by
  rw[ap] at T;rw[ao] at hy;obtain⟨i,i1,i2,rfl⟩:=zHM T;obtain⟨k,k1,k2,rfl⟩:=zJQ hy;have bw:j<r0:=by rcases ah with h4 | h4<;>omega
  have:=j5 j (d9 _) bw;simp only[d7] at this;have q1:=zLL hL (i:=j-A) (j:=k) (by omega) (by omega);have q2:=zLL hR (i:=i) (j:=D+(A+K)-1-j-(A+K)) (by omega) (by omega);omega
 have bx:∀x∈L1,∀y∈O,key x<=key y:=λx T y hy=>by
  rw[an] at T;rw[aq] at hy;obtain⟨i,i1,i2,rfl⟩:=zHM T;obtain⟨k,k1,k2,rfl⟩:=zJQ hy;have cu:s0<j:=by rcases ah with h4 | h4<;>omega
  have:=j4 (j-1) (by omega) (by omega);simp only[dS] at this;have q1:=zLL hL (i:=i) (j:=j-1-A) (by omega) (by omega);have q2:=zLL hR (i:=D+(A+K)-1-(j-1)-(A+K)) (j:=k) (by omega) (by omega);omega
 rw[eL] at hL;rw[eR] at hR;obtain⟨bf,bg,bo⟩:=zJP.1 hL;obtain⟨bh,bi,br⟩:=zJP.1 hR;have ba:wi (wi ((D:Int)+m)-(j:Int))=((D+(A+K)-j:Nat):Int):=by
  rw[wn (n:=(D:Int)+m) (by omega) (by omega),wn (by omega) (by omega)];omega
 unfold yJ;have e1:decide (wi (m-a)=1)=false:=by rw[wn (by omega) (by omega)];simp;omega
 have e2:decide (wi (b-m)=1)=false:=by rw[wn (by omega) (by omega)];simp;omega
 simp only[e1,dN,e2,ai,h0,zA,j3,ba,zN];have be:(cond (decide ((j:Int)<m)&&decide (m<((D+(A+K)-j:Nat):Int))) ((xO (p++L++R++s) (j:Int) m ((D+(A+K)-j:Nat):Int) f).bind λbj=>some bj) (some (p++L++R++s)):Option LI)=some (p++L1++R1++(H++O++s)):=by
  by_cases hc:j<A+K/\A+K<D+(A+K)-j
  ·have G:(decide ((j:Int)<m)&&decide (m<((D+(A+K)-j:Nat):Int)))=true:=by simp;omega
   have hr:=yU0 (f:=f) (P:=p++L1) (U:=H) (V:=R1) (S:=O++s) (a:=(j:Int)) (m:=m) (b:=((D+(A+K)-j:Nat):Int)) (by simp;omega) (by simp;omega) (by simp;omega) (by omega) (by omega) (by simp;omega)
   rw[show p++L1++H++R1++(O++s)=p++L++R++s by rw[eL,eR];simp] at hr
   rw[G,dO,hr];simp
  ·have G:(decide ((j:Int)<m)&&decide (m<((D+(A+K)-j:Nat):Int)))=false:=by
    simp only[eY,dS];by_cases Z:j<A+K
    ·right;omega
    ·left;omega
   rw[G,dN];by_cases Z:j<A+K
   ·have:R1= []:=dQ (by omega)
    rw[eL,eR,this];simp
   ·have:H= []:=dQ (by omega)
    rw[eL,eR,this];simp
 rw[be,zA];obtain⟨M1,bp,cc,am⟩:∃M1,(cond (decide (a<(j:Int))&&decide ((j:Int)<(D:Int))) ((rec (p++L1++R1++(H++O++s)) a (j:Int) (D:Int) f).bind λbk=>some bk) (some (p++L1++R1++(H++O++s))):Option LI)=some (p++M1++(H++O++s))/\Srt key M1/\Flt key (L1++R1) M1:=by
  by_cases hc:A<j/\j<D
  ·have G:(decide (a<(j:Int))&&decide ((j:Int)<(D:Int)))=true:=by simp;omega
   obtain⟨M,Z,h2,h3⟩:=ih p L1 R1 (H++O++s) a (j:Int) (D:Int) (by omega) (by omega) (by omega) bf bh ha (by omega) (by omega) (by omega);exact⟨M,by rw[G,dO,Z];rfl,h2,h3⟩
  ·have G:(decide (a<(j:Int))&&decide ((j:Int)<(D:Int)))=false:=by
    simp only[eY,dS];by_cases Z:A<j
    ·right;omega
    ·left;omega
   refine⟨L1++R1,by rw[G,dN];simp,?_,Flt.refl _⟩
   by_cases Z:A<j
   ·have:R1= []:=dQ (by omega)
    rw[this];simpa using bf
   ·have:L1= []:=dQ (by omega)
    rw[this];simpa using bh
 rw[bp,zA];have dk:M1.length=D-A:=by rw[<-am.len];simp;omega
 obtain⟨M2,bq,cd,ax⟩:∃M2,(cond (decide ((D:Int)<((D+(A+K)-j:Nat):Int))&&decide (((D+(A+K)-j:Nat):Int)<b)) ((rec (p++M1++(H++O++s)) (D:Int) ((D+(A+K)-j:Nat):Int) b f).bind λbl=>some bl) (some (p++M1++(H++O++s))):Option LI)=some (p++(M1++M2)++s)/\Srt key M2/\Flt key (H++O) M2:=by
  by_cases hc:D<D+(A+K)-j/\D+(A+K)-j<A+K+N
  ·have G:(decide ((D:Int)<((D+(A+K)-j:Nat):Int))&&decide (((D+(A+K)-j:Nat):Int)<b))=true:=by simp;omega
   obtain⟨M,Z,h2,h3⟩:=ih (p++M1) H O s (D:Int) ((D+(A+K)-j:Nat):Int) b (by omega) (by omega) (by omega) bg bi (by simp;omega) (by simp;omega) (by simp;omega) (by simp;omega)
   rw[show p++M1++H++O++s=p++M1++(H++O++s) by simp] at Z;exact⟨M,by rw[G,dO,Z];simp,h2,h3⟩
  ·have G:(decide ((D:Int)<((D+(A+K)-j:Nat):Int))&&decide (((D+(A+K)-j:Nat):Int)<b))=false:=by
    simp only[eY,dS];by_cases Z:D<D+(A+K)-j
    ·right;omega
    ·left;omega
   refine⟨H++O,by rw[G,dN];simp,?_,Flt.refl _⟩
   by_cases Z:D<D+(A+K)-j
   ·have:O= []:=dQ (by omega)
    rw[this];simpa using bg
   ·have:H= []:=dQ (by omega)
    rw[this];simpa using bi
 refine⟨M1++M2,bq,zJP.2 ⟨cc,cd,λx T y hy=>?_⟩,?_⟩
 ·have T:=am.mem.2 T
  have hy:=ax.mem.2 hy;rcases fk.1 T with T | T<;>rcases fk.1 hy with hy | hy
  ·exact bo x T y hy
  ·exact bx x T y hy
  ·have:=bb x T y hy;omega
  ·exact br x T y hy
 ·have Z:Flt key (H++R1) (R1++H):=Flt.swap λx T y hy=>by have:=bb y hy x T;omega
  have h2:=(Flt.refl (key:=key) L1).app (Z.app (Flt.refl O));have h3:=am.app ax;rw[eL,eR];refine Flt.trans ?_ h3;simpa using h2
theorem yMM:∀(n:Nat) (p L R s:LI) (a m b:Int),L.length+R.length<=2 ^ n->0<L.length->0<R.length->Srt key L->Srt key R->a=(p.length:Int)->m=((p.length+L.length:Nat):Int)->b=((p.length+L.length+R.length:Nat):Int)->p.length+L.length+R.length<=30000->
  ∃M,kJ (n+1) (p++L++R++s) a m b f=some (p++M++s)/\Srt key M/\Flt key (L++R) M:=by
 intro n
 induction n with
 | zero=>intro p L R s a m b h;omega
 | succ n ih=>
  intro p L R s a m b hN l1 r1 H K D G hb h;show ∃M,yJ (kJ (n+1)) (p++L++R++s) a m b f=_/\_;by_cases hl:L.length=1
  ·obtain⟨x,rfl⟩:=List.length_eq_one_iff.1 hl
   exact yZP hf K D (by simpa using G) (by simpa using hb) (by simpa using h)
  ·by_cases hr:R.length=1
   ·obtain⟨y,rfl⟩:=List.length_eq_one_iff.1 hr
    exact yZQ hf H (by omega) D G (by simpa using hb) (by simpa using h)
   ·refine yZR hf H K (by omega) (by omega) D G hb h λp' O R' s' T m' Z h1=>ih p' O R' s' T m' Z ?_
    rw[Nat.pow_succ] at hN;omega
end
set_option linter.unusedSimpArgs false
set_option linter.unusedVariables false
section
variable (hf:∀x y,f x y=some (sg (key x) (key y)))
theorem k59:(30000:Nat)<=2 ^ 59:=by decide
def OkB (key:Int->Int) (bs:Nat) (Bs:List LI):Prop:= ∀B∈Bs,B.length=bs/\Srt key B
include hf
theorem yZS:∀(n:Nat) (P rest:LI) (Nn:Int),rest.length<=n->Nn=((P.length+rest.length:Nat):Int)->P.length+rest.length<=30000->
  ∃Bs H,zE (λ(x:Int×Int×LI)=>yE Nn f x.1 x.2.1 x.2.2) ((P.length:Int),((P.length+20:Nat):Int),P++rest)=some (((P.length+(Bs.flatten).length:Nat):Int),P++Bs.flatten++H)/\OkB key 20 Bs/\H.length<20/\Flt key rest (Bs.flatten++H):=by
 intro n
 induction n with
 | zero=>
  intro P rest Nn hn Z h;have:rest= []:=dQ (by omega);subst this;refine⟨[],[],zP ?_,(λB G=>by cases G),by simp,Flt.refl _⟩;show yE Nn f _ _ _=_;have K:decide (((P.length+20:Nat):Int)<=Nn)=false:=by simp at Z ⊢;omega
  simp only[yE,K,dN];simp
 | succ n ih=>
  intro P rest Nn hn Z h;by_cases hc:20<=rest.length
  ·have hs:=yXM hf (p:=P) (m:=rest.take 20) (t:=rest.drop 20) (a:=(P.length:Int)) (b:=((P.length+20:Nat):Int)) rfl (by simp;omega) (by simp;omega)
   rw[dW P,fh] at hs;have D:=zP9 (key:=key) (rest.take 20) [];rw[eN] at D;obtain⟨B,G⟩:∃B,B=zA0 (λa b=>decide (key a<key b)) (rest.take 20) []:=⟨_,rfl⟩;rw[<-G] at hs D;have O:B.length=20:=by rw[<-D.len];simp;omega
   have T:Srt key B:=by rw[G];exact zUS _
   obtain⟨Bs,H,h1,h2,h3,h4⟩:=ih (P++B) (rest.drop 20) Nn (by simp;omega) (by rw[Z];simp;omega) (by simp;omega)
   refine⟨B::Bs,H,?_,?_,h3,?_⟩
   ·rw[zI (x':=(((P++B).length:Int),(((P++B).length+20:Nat):Int),(P++B)++rest.drop 20)),h1]
    ·simp[hY]
    ·show yE Nn f _ _ _=_
     have K:decide (((P.length+20:Nat):Int)<=Nn)=true:=by simp;omega
     have e2:wi (((P.length+20:Nat):Int)+20)=(((P++B).length+20:Nat):Int):=by rw[wn (by omega) (by omega)];simp;omega
     have e3:((P.length+20:Nat):Int)=((P++B).length:Int):=by simp;omega
     simp only[yE,K,dO,hs,zA,e2];rw[e3]
   ·intro C hC
    rcases eP.1 hC with e | e
    ·rw[e];exact⟨O,T⟩
    ·exact h2 C e
   ·have:=D.app h4
    rw[fh] at this;simpa using this
  ·refine⟨[],rest,zP ?_,(λB G=>by cases G),by omega,Flt.refl _⟩
   show yE Nn f _ _ _=_;have K:decide (((P.length+20:Nat):Int)<=Nn)=false:=by simp;omega
   simp only[yE,K,dN];simp
theorem yXP (bs:Nat) (aa:0<bs) (ab:bs<=30000) (T:LI) (hT:T.length<bs):∀(Bs:List LI) (P:LI) (Nn:Int),OkB key bs Bs->Nn=((P.length+Bs.flatten.length+T.length:Nat):Int)->P.length+Bs.flatten.length+T.length<=30000->
  ∃Cs Ds,zE (λ(x:Int×Int×LI)=>yF Nn (bs:Int) f x.1 x.2.1 x.2.2) ((P.length:Int),((P.length+2*bs:Nat):Int),P++Bs.flatten++T)=some (((P.length+Cs.flatten.length:Nat):Int),P++Cs.flatten++Ds.flatten++T)/\OkB key (2*bs) Cs/\OkB key bs Ds/\Ds.length<=1/\Flt key Bs.flatten (Cs.flatten++Ds.flatten)
 | [],P,Nn,G,H,h=>by
  refine⟨[],[],zP ?_,(λB D=>by cases D),(λB D=>by cases D),by simp,Flt.refl _⟩;show yF Nn _ f _ _ _=_;have K:decide (((P.length+2*bs:Nat):Int)<=Nn)=false:=by simp at H ⊢;omega
  simp only[yF,K,dN];simp
 | [B],P,Nn,G,H,h=>by
  have D:=(G B (by simp)).1;refine⟨[],[B],zP ?_,(λB D=>by cases D),G,by simp,by simpa using Flt.refl B⟩;show yF Nn _ f _ _ _=_;have K:decide (((P.length+2*bs:Nat):Int)<=Nn)=false:=by simp at H ⊢;omega
  simp only[yF,K,dN];simp
 | O::Z::Bs,P,Nn,G,H,h=>by
  obtain⟨l1,s1⟩:=G O (by simp);obtain⟨l2,s2⟩:=G Z (by simp);simp only[iz,d8] at H h;obtain⟨M,m1,m2,m3⟩:=yMM hf 59 P O Z (Bs.flatten++T) (P.length:Int) ((P.length+bs:Nat):Int) ((P.length+2*bs:Nat):Int) (fA (by omega) k59) (by omega) (by omega) s1 s2 rfl (by rw[l1]) (by omega) (by omega);have hM:M.length=2*bs:=by rw[<-m3.len];simp;omega
  obtain⟨Cs,Ds,h1,h2,h3,h4,h5⟩:=yXP bs aa ab T hT Bs (P++M) Nn (λB D=>G B (by simp[D])) (by rw[H,d8];omega) (by rw[d8];omega)
  refine⟨M::Cs,Ds,?_,?_,h3,h4,?_⟩
  ·rw[zI (x':=(((P++M).length:Int),(((P++M).length+2*bs:Nat):Int),(P++M)++Bs.flatten++T)),h1]
   ·simp[hY]
   ·show yF Nn _ f _ _ _=_
    have K:decide (((P.length+2*bs:Nat):Int)<=Nn)=true:=by simp;omega
    have e0:wi ((P.length:Int)+(bs:Int))=((P.length+bs:Nat):Int):=by rw[wn (by omega) (by omega)];omega
    have e2:wi (2*(bs:Int))=((2*bs:Nat):Int):=by rw[wn (by omega) (by omega)];omega
    have e3:wi (((P.length+2*bs:Nat):Int)+((2*bs:Nat):Int))=(((P++M).length+2*bs:Nat):Int):=by rw[wn (by omega) (by omega)];simp;omega
    have e4:P++(O::Z::Bs).flatten++T=P++O++Z++(Bs.flatten++T):=by simp
    have e5:((P.length+2*bs:Nat):Int)=((P++M).length:Int):=by simp;omega
    simp only[yF,K,dO,e0,e2,e3,e4,m1,zA];rw[e5];simp
  ·intro C hC
   rcases eP.1 hC with e | e
   ·rw[e];exact⟨hM,m2⟩
   ·exact h2 C e
  ·have:=m3.app h5
   simpa using this
theorem yZT (Nn:Int) (N:Nat) (H:Nn=(N:Int)) (bb:N<=30000):∀(n bs:Nat) (Bs:List LI) (T:LI),N-bs<=n->0<bs->bs<=60000->OkB key bs Bs->Srt key T->T.length<bs->Bs.flatten.length+T.length=N->
  ∃r,zE (λ(x:Int×LI)=>yL Nn f x.1 x.2) ((bs:Int),Bs.flatten++T)=some r/\Srt key r/\Flt key (Bs.flatten++T) r:=by
 have Z:∀(bs:Nat) (Bs:List LI) (T:LI),N<=bs->0<bs->OkB key bs Bs->Srt key T->T.length<bs->Bs.flatten.length+T.length=N->
  ∃r,zE (λ(x:Int×LI)=>yL Nn f x.1 x.2) ((bs:Int),Bs.flatten++T)=some r/\Srt key r/\Flt key (Bs.flatten++T) r:=by
  intro bs Bs T h1 h2 K G h5 O;refine⟨Bs.flatten++T,zP ?_,?_,Flt.refl _⟩
  ·show yL Nn f _ _=_
   simp only[yL,H,kU h1,dN]
  ·cases Bs with
   | nil=>simpa using G
   | cons B Bs=>
    have hB:=K B (by simp);simp only[iz,d8] at O;have e1:Bs.flatten= []:=dQ (by omega);have e2:T= []:=dQ (by omega);simp only[iz,e1,e2,fm];exact hB.2
 intro n
 induction n with
 | zero=>intro bs Bs T h1 h2 al K G h5 O;exact Z bs Bs T (by omega) h2 K G h5 O
 | succ n ih=>
  intro bs Bs T h1 h2 al K G h5 O;by_cases hc:N<=bs
  ·exact Z bs Bs T hc h2 K G h5 O
  ·obtain⟨Cs,Ds,c1,c2,c3,c4,c5⟩:=yXP hf bs h2 (by omega) T h5 Bs [] Nn K (by rw[H,fE];omega) (by rw[fE];omega)
   simp only[fE,fM,eN] at c1;have ac:Cs.flatten.length+Ds.flatten.length=Bs.flatten.length:=by rw[c5.len,d8]
   obtain⟨h,t1,t2,t3,t4⟩:∃h,(cond (decide ((wi (((Cs.flatten.length:Nat):Int)+(bs:Int)))<Nn)) ((kJ 60 (Cs.flatten++Ds.flatten++T) ((Cs.flatten.length:Nat):Int) (wi (((Cs.flatten.length:Nat):Int)+(bs:Int))) Nn f).bind λao=>some ao) (some (Cs.flatten++Ds.flatten++T)):Option LI)=some (Cs.flatten++h)/\Srt key h/\h.length<2*bs/\Flt key (Ds.flatten++T) h:=by
    have e0:wi (((Cs.flatten.length:Nat):Int)+(bs:Int))=((Cs.flatten.length+bs:Nat):Int):=by rw[wn (by omega) (by omega)];omega
    match Ds,c3,c4 with
    | [],_,_=>
     simp only[List.flatten_nil,fE] at ac;refine⟨T,?_,G,by omega,by simpa using Flt.refl T⟩;rw[e0,H,kU (k:=Cs.flatten.length+bs) (n:=N) (by omega),dN];simp
    | [D],c3,_=>
     have hD:=c3 D (by simp);simp only[iz,List.flatten_nil,fm] at ac ⊢;by_cases an:T.length=0
     ·have:T= []:=dQ an
      subst this;refine⟨D,?_,hD.2,by omega,by simpa using Flt.refl D⟩;rw[e0,H,kU (k:=Cs.flatten.length+bs) (n:=N) (by rw[fE] at O;omega),dN]
      simp
     ·obtain⟨M,m1,m2,m3⟩:=yMM hf 59 Cs.flatten D T [] (Cs.flatten.length:Int) ((Cs.flatten.length+bs:Nat):Int) Nn (fA (by omega) k59) (by omega) (by omega) hD.2 G rfl (by rw[hD.1]) (by omega) (by omega)
      simp only[fm] at m1;refine⟨M,?_,m2,by rw[<-m3.len,d8];omega,m3⟩
      rw[e0,H,yY (k:=Cs.flatten.length+bs) (n:=N) (by omega),dO,<-H,m1];rfl
   obtain⟨r,r1,r2,r3⟩:=ih (2*bs) Cs h (by omega) (by omega) (by omega) c2 t2 t3 (by rw[<-t4.len,d8];omega)
   refine⟨r,?_,r2,?_⟩
   ·rw[zI (x':=(((2*bs:Nat):Int),Cs.flatten++h)),r1]
    show yL Nn f _ _=_;have e1:decide ((bs:Int)<Nn)=true:=by rw[H];exact yY (by omega)
    have e2:wi (2*(bs:Int))=((2*bs:Nat):Int):=by rw[wn (by omega) (by omega)];omega
    have e3:wi ((bs:Int)*2)=((2*bs:Nat):Int):=by rw[wn (by omega) (by omega)];omega
    simp only[yL,e1,dO,e2];have ad:zE (λ(x:Int×Int×LI)=>yF Nn (bs:Int) f x.1 x.2.1 x.2.2) (0,((2*bs:Nat):Int),Bs.flatten++T)=some (((Cs.flatten.length:Nat):Int),Cs.flatten++Ds.flatten++T):=c1;rw[ad,zA];simp only[t1,zA,e3]
   ·refine Flt.trans ?_ r3
    have:=c5.app (Flt.refl (key:=key) T);refine this.trans ?_;rw[dW];exact(Flt.refl _).app t4
theorem yH0 (l:LI) (h:l.length<=30000):∃r,kY l f=some r/\Srt key r/\Flt key l r:=by
 unfold kY uR;obtain⟨Bs,G,O,h2,h3,T⟩:=yZS hf l.length [] l (l.length:Int) (d9 _) (by simp) (by simpa using h);simp only[fE,fM,eN] at O;have H:zE (λ(x:Int×Int×LI)=>yE (l.length:Int) f x.1 x.2.1 x.2.2) (0,20,l)=some (((Bs.flatten.length:Nat):Int),Bs.flatten++G):=O;rw[H,zA];have hl:Bs.flatten.length+G.length=l.length:=by rw[T.len,d8]
 have Z:=yXM hf (p:=Bs.flatten) (m:=G) (t:=[]) (a:=((Bs.flatten.length:Nat):Int)) (b:=(l.length:Int)) rfl (by omega) (by omega);simp only[fm] at Z;have D:=zP9 (key:=key) G [];rw[eN] at D;obtain⟨r,r1,r2,r3⟩:=yZT hf (l.length:Int) l.length rfl h l.length 20 Bs (zA0 (λa b=>decide (key a<key b)) G []) (by omega) (by omega) (by omega) h2 (zUS _) (by rw[<-D.len];exact h3) (by rw[<-D.len];exact hl)
 have K:zE (λ(x:Int×LI)=>yL (l.length:Int) f x.1 x.2) (20,Bs.flatten++zA0 (λa b=>decide (key a<key b)) G [])=some r:=r1;refine⟨r,?_,r2,T.trans (((Flt.refl _).app D).trans r3)⟩;simp only[Z,zA,K]
end
open Classical in
theorem yU1:CV []:=⟨λk h=>(by cases h),λk h=>(by cases h),λk h=>(by cases h)⟩
theorem yEA {l:List bL} (h:CV l) (x:Int):0<=clE l x:=by
 unfold clE;cases G:l.find? (zUP x) with
 | none=>exact iq _
 | some s=>
  have:=gU G;obtain⟨k,D,rfl⟩:=gK this;have:=h.sp k D;rw[zCQ D] at this;unfold spOk at this;show 0<=(l[k]).Value;omega
theorem yMN (h:DS n.aA) (T:n.aA.length<=30000) (c:Int) (b:Bool):uY n c b=some (if syl c=true then (hdE c,true) else ((fnB n.aA b c).getD [],(fnB n.aA b c).isSome)):=by
 unfold uY;rw[zIG,zA];by_cases D:syl c=true;have e:decide (4<=hkE c)=true:=by simpa using (zJO c).1 D
 simp only[e,dO,yDV D,zA,D,eK];have e:decide (4<=hkE c)=false:=by simp only[dS];exact λO=>D ((zJO c).2 O)
 simp only[iW] at D;simp only[e,dN,D,fg,eE];obtain⟨i,hb,hp⟩:=yDY h T c;rw[hb];simp only[zA,zN];unfold fnB;cases K:n.aA.find? (isF c) with
 | none=>simp[zBR]
 | some m=>
  obtain⟨G,H⟩:=hp m K;simp only[Option.isSome_some,dY,eD,vN,zW G,H,zA,fo];cases b<;>cases Z:(m.bU== [])<;>simp[Z]
section
variable (hd:DS n.aA) (hl:n.aA.length<=30000) (hD:∀c,DD n.aA n.aA.length c) (hw:∀c,(fu n.aA b c).length<=64)
def XOk (l:List aG) (b:Bool) (m:List (Int×LI)):Prop:= ∀k v,mget m k=some v->v=fu l b k
def yEB (l:List aG) (f:Nat) (c:Int):Prop:=(∃k,DD l k c/\k+2<=f)\/(l.find? (isF c)=none/\syl c=false/\1<=f)
include hw in
theorem yU2 {f:Nat} (ih:∀c m,XOk n.aA b m->yEB n.aA f c->∃m',kL f c m n b=some (fu n.aA b c,m')/\XOk n.aA b m') (L:LI) (hL:L.length<=30000) (hn:∀e∈L,yEB n.aA f e):
  ∀(d i:Nat) (h:LI) (m:List (Int×LI)),L.length-i=d->i<=L.length->h.length<=64*i->XOk n.aA b m->
   ∃m',zE (λ(x:Int×LI×(List (Int×LI)))=>jQ (L,true) (kL f) n b x.1 x.2.1 x.2.2) ((i:Int),h,m)=some (h++(L.drop i).flatMap (fu n.aA b),m')/\XOk n.aA b m':=by
 intro d
 induction d with
 | zero=>
  intro i h m K O T D;refine⟨m,?_,D⟩;refine zP ?_;rw[eJ (show L.length<=i by omega)];simp only[jQ,kU (show L.length<=i by omega),dN,List.flatMap_nil,fm]
 | succ d G=>
  intro i h m K O T D;have hi:i<L.length:=by omega
  obtain⟨H,hr,r1⟩:=ih L[i] m D (hn _ (fI hi));have ad:=hw L[i];have Z:app h (fu n.aA b L[i])=some (h++fu n.aA b L[i]):=j7 (by omega);rw[zI (x':=(((i+1:Nat):Int),h++fu n.aA b L[i],H)) (by
   simp only[jQ,yY hi,dO,z8 hi,zA,hr,Z,zL (k:=i) (by omega)])]
  obtain⟨m2,hq,q1⟩:=G (i+1) (h++fu n.aA b L[i]) H (by omega) (by omega) (by rw[d8];omega) r1
  refine⟨m2,?_,q1⟩;rw[hq,eA hi,fC,dW]
include hd hl hD hw in
theorem yXQ:∀(f:Nat) (c:Int) (m:List (Int×LI)),XOk n.aA b m->yEB n.aA f c->∃m',kL f c m n b=some (fu n.aA b c,m')/\XOk n.aA b m':=by
 intro f
 induction f with
 | zero=>intro c m _ hn;exfalso;rcases hn with ⟨k,_,h⟩ | ⟨_,_,h⟩<;>omega
 | succ f ih=>
  intro c m hm hn;show ∃m',vL (kL f) c m n b=some _/\_;unfold vL;cases hh:zB0 m c with
  | true=>
   obtain⟨v,hv⟩:=iw.1 hh;have hg:wR m c []=v:=by unfold wR;rw[hv];rfl
   rw[dO,hg,hm c v hv];exact⟨m,rfl,hm⟩
  | false=>
   rw[dN,yMN hd hl,zA];have O:∀(L:LI),L.length<=30000->(∀e∈L,yEB n.aA f e)->L.flatMap (fu n.aA b)=fu n.aA b c->∃m',(cond (!((L,true):LI×Bool).2) (some ([c],m)) ((zE (λ(x:Int×LI×(List (Int×LI)))=>jQ (L,true) (kL f) n b x.1 x.2.1 x.2.2) (0,[],m)).bind λ(y1:LI×(List (Int×LI)))=>some (y1.1,vS y1.2 c y1.1)))=some (fu n.aA b c,m')/\XOk n.aA b m':=by
    intro L hL aj ai;obtain⟨m1,hq,q1⟩:=yU2 hw ih L hL aj L.length 0 [] m (by omega) (by omega) (by simp) hm;rw[e9,eN,ai] at hq;have ak:zE (λ(x:Int×LI×(List (Int×LI)))=>jQ (L,true) (kL f) n b x.1 x.2.1 x.2.2) (0,[],m)=some (fu n.aA b c,m1):=hq;simp only[dY,dN];rw[ak];refine⟨vS m1 c (fu n.aA b c),rfl,λk v H=>?_⟩;rw[zBX] at H;split at H;rename_i hx;cases H;rw[hx];exact q1 k v H
   cases hs:syl c with
   | true=>
    simp only[eK];have K:=z8U hd hs;have T:∀e∈hdE c,n.aA.find? (isF e)=none/\syl e=false:=by
     intro e G;obtain⟨Z,p2⟩:=zTD hs G;refine⟨?_,Z⟩;cases ah:n.aA.find? (isF e) with
     | none=>rfl
     | some m=>obtain⟨q1,rfl⟩:=zIH ah;exact absurd (hd.hk m q1) p2
    refine O (hdE c) (by have:=zRU c;omega) (λe G=>?_) ?_
    obtain⟨Z,p2⟩:=T e G;refine .inr ⟨Z,p2,?_⟩;rcases hn with ⟨k,_,h⟩ | ⟨_,h,_⟩;omega;rw[hs] at h;cases h;have D:fu n.aA b c=hdE c:=by rw[yD4 hD,zKT K]
    rw[D];have:∀L:LI,(∀e∈L,n.aA.find? (isF e)=none/\syl e=false)->L.flatMap (fu n.aA b)=L:=by
     intro L
     induction L with
     | nil=>intro _;rfl
     | cons x L am=>
      intro h;obtain⟨Z,p2⟩:=h x (by simp);have hx:fu n.aA b x= [x]:=by rw[yD4 hD,zKT Z];show hdE x= [x];unfold hdE;rw[dU (by simp[p2])]
      rw[fC,hx,am λe G=>h e (by simp[G])];rfl
    exact this _ T
   | false=>
    simp only[fg,eE];cases hf:fnB n.aA b c with
    | none=>
     simp only[Option.getD_none,Option.isSome_none,eD,dO];refine⟨m,?_,hm⟩;rw[yD4 hD,hf];have:hdE c= [c]:=by unfold hdE;rw[dU (by simp[hs])]
     simp only[this]
    | some to=>
     simp only[iU,Option.isSome_some];obtain⟨mm,D,rfl,_⟩:=zKS hf;obtain⟨h2,_⟩:=zIH D;refine O mm.To (hd.len mm h2) (λe G=>?_) (by rw[yD4 hD c,hf]);rcases hn with ⟨k,H,h⟩ | ⟨h,_,_⟩
     cases k with
     | zero=>have:n.aA.find? (isF c)=none:=H;rw[this] at D;cases D
     | succ k=>exact .inl ⟨k,H mm D e G,by omega⟩
     rw[h] at D;cases D
end
noncomputable def usN (n:Norm):Norm:=open Classical in if VD0 n then n else {aI:=[],aA:=[],aL:={Ranges:=[]}}
structure GN (n:Norm):Prop where
 ds:DS n.aA
 cv:CV n.aI
 H:∀m∈n.aA,WW n.aA m.aN
 w:∀m∈n.aA,wt n.aA true m.aN<=64
 cl:n.aI.length<=40
 de:n.aA.length<=40
 ok:∀x∈n.aI,cZ x
theorem z4O (H:NSm n) (G:uV n):GN (usN n):=by unfold usN;split;rename_i h;exact⟨h.ds,h.cv,h.ww,h.wl,H.cl,H.de,G.1.2⟩;exact⟨⟨λk K=>(by cases K),λm D=>(by cases D),λm D=>(by cases D)⟩,yU1,λm D=>(by cases D),λm D=>(by cases D),by simp,by simp,λx O=>by cases O⟩
theorem GN.dd (h:GN n):∀c,DD n.aA n.aA.length c:=zYF h.ds h.H
theorem GN.len (h:GN n) (b:Bool) (c:Int):(fu n.aA b c).length<=64:=yUX h.ds (yUY h.ds h.H h.w) b c
theorem GN.ex (h:GN n) (c:Int) (m:List (Int×LI)) (D:XOk n.aA b m):∃m',kL 100 c m n b=some (fu n.aA b c,m')/\XOk n.aA b m':=
 yXQ h.ds (by have:=h.de;omega) h.dd (h.len b) 100 c m D (.inl ⟨_,h.dd c,by have:=h.de;omega⟩)
theorem yED (G:NSm n) (h:uV n) (D:VD0 n):uJ n=some (usN n):=by unfold uJ usN;rw[ySO G h D,zA,eG D];rfl
theorem z8Z {f:Int->LI} (h:∀e,(f e).length<=k):∀L:LI,(L.flatMap f).length<=k*L.length
 | []=>by simp
 | x::L=>by have:=z8Z h L;have:=h x;rw[fC,d8,eF,Nat.mul_succ];omega
theorem yH1 (h:GN n) (ht:text.length<=30000):∀(d i:Nat) (D:LI) (m:List (Int×LI)),text.length-i=d->i<=text.length->D.length<=64*i->XOk n.aA b m->
  zE (λ(x:Int×LI×(List (Int×LI)))=>xW text n b x.1 x.2.1 x.2.2) ((i:Int),D,m)=some (D++(text.drop i).flatMap (fu n.aA b)):=by
 intro d
 induction d with
 | zero=>
  intro i D m K O T G;refine zP ?_;rw[eJ (show text.length<=i by omega)];simp only[xW,kU (show text.length<=i by omega),dN,List.flatMap_nil,fm]
 | succ d ih=>
  intro i D m K O T G;have hi:i<text.length:=by omega
  obtain⟨H,hr,r1⟩:=h.ex (b:=b) text[i] m G;have ab:=h.len b text[i];have Z:app D (fu n.aA b text[i])=some (D++fu n.aA b text[i]):=j7 (by omega);rw[zI (x':=(((i+1:Nat):Int),D++fu n.aA b text[i],H)) (by
   simp only[xW,yY hi,dO,z8 hi,zA,hr,Z,zL (k:=i) (by omega)])]
  rw[ih (i+1) (D++fu n.aA b text[i]) H (by omega) (by omega) (by rw[d8];omega) r1,eA hi,fC,dW]
noncomputable def zDK (n:Norm) (b:Bool) (text:LI):LI:=text.flatMap (fu (usN n).aA b)
theorem yQS (K:NSm n) (H:uV n) (Z:VD0 n) (O:text.length<=30000) (b:Bool):jL n text b=zCJ (usN n).aI (zDK n b text):=by have h:=z4O K H;unfold jL zDS;have T:uJ {aI:=n.aI,aA:=n.aA,aL:={Ranges:=n.aL.Ranges}}=some (usN n):=yED K H Z;have D:=yH1 h (b:=b) O text.length 0 [] [] (by omega) (by omega) (by simp) (λk v h=>by cases h);rw[e9,eN] at D;have G:zE (λ(x:Int×LI×(List (Int×LI)))=>xW text (usN n) b x.1 x.2.1 x.2.2) (0,[],[])=some (zDK n b text):=D;rw[T,zA,zA,G,zA];cases zCJ (usN n).aI (zDK n b text)<;>rfl
section
variable (key:Int->Int)
def ltK (a b:Int):Bool:=decide (key a<key b)
def ltC (a b:Int):Bool:=decide (0<key a)&&decide (key a<key b)
def srt (l:LI):LI:=zA0 (ltK key) l []
def csE (l:LI):LI:=zA0 (ltC key) l []
def rsE:LI->LI->LI
 | [],run=>srt key run
 | x::t,run=>if key x=0 then srt key run++x::rsE t [] else rsE t (run++ [x])
end
section
theorem yMO (l:LI) (x:Int):srt key (l++ [x])=zES (ltK key) (srt key l).reverse x []:=by unfold srt zA0;rw[List.foldl_append];rfl
theorem yEE (l:LI):Flt key l (srt key l):=by have:=zP9 (key:=key) l [];exact this
theorem yEF (l:LI):(srt key l).length=l.length:=(yEE l).len.symm
theorem yEG (D:0<key x):∀(r q s:LI),(∀y,q.head? =some y->key y=0)->zES (ltC key) (r++q) x s=q.reverse++zES (ltK key) r x s
 | [],q,s,h=>by
  cases q with
  | nil=>rfl
  | cons y q=>
   have:ltC key x y=false:=by unfold ltC;rw[h y rfl];simp;omega
   show zES (ltC key) (y::q) x s=_;simp only[zES,this,fg,eE]
 | y::r,q,s,h=>by
  have e:ltC key x y=ltK key x y:=by unfold ltC ltK;simp[D]
  show zES (ltC key) (y::(r++q)) x s=q.reverse++zES (ltK key) (y::r) x s;simp only[zES,e];cases ltK key x y with
  | true=>simp only[eK];exact yEG D r q (y::s) h
  | false=>simp
theorem yMP (h:∀x,0<=key x):∀(t run p:LI),(∀y,p.reverse.head? =some y->key y=0)->zA0 (ltC key) t (p++srt key run)=p++rsE key t run
 | [],run,p,_=>rfl
 | x::t,run,p,G=>by
  show zA0 (ltC key) t (zES (ltC key) (p++srt key run).reverse x [])=p++rsE key (x::t) run;by_cases D:key x=0
  ·have e:∀r:LI,zES (ltC key) r x []=r.reverse++ [x]:=by
    intro r;cases r with
    | nil=>rfl
    | cons y r=>
     have:ltC key x y=false:=by unfold ltC;rw[D];simp
     simp[zES,this]
   have K:=yMP h t [] (p++srt key run++ [x]) (λy H=>by simp at H;rw[<-H];exact D)
   have O:srt key []= []:=rfl;rw[O,fm] at K;rw[e,gY,K];simp[rsE,D]
  ·have T:0<key x:=by have:=h x;omega
   rw[List.reverse_append,yEG T _ _ _ G,gY,<-yMO,yMP h t (run++ [x]) p G];simp[rsE,D]
theorem zRV (h:∀x,0<=key x) (t:LI):csE key t=rsE key t []:=by have:=yMP h t [] [] (λy D=>by cases D);exact this
theorem z80 (t:LI):(csE key t).Perm t:=by have:=zBJ (ltC key) t [];rw[eN] at this;exact this
theorem yQU (t:LI):(csE key t).length=t.length:=(z80 t).length_eq
theorem z81 {f:LI->Option LI} {P run T r:LI} (h:0<run.length) (Z:f run=some r):zNN f (P++run++T) (P.length:Int) ((P.length+run.length:Nat):Int)=some (P++r++T):=by
 unfold zNN;have D:((P.length:Int)).toNat=P.length:=by simp
 have G:(((P.length+run.length:Nat):Int)).toNat=P.length+run.length:=by omega
 rw[D,G,eG ⟨by omega,by omega,by rw[d8,d8];omega⟩]
 have O:((P++run++T).drop P.length).take (P.length+run.length-P.length)=run:=by
  rw[dW,List.drop_left,show P.length+run.length-P.length=run.length by omega,iB]
 have H:(P++run++T).take P.length=P:=by rw[dW,iB]
 have K:(P++run++T).drop (P.length+run.length)=T:=by rw[<-d8,List.drop_left]
 rw[O,H,K,Z];rfl
theorem yEH {f:LI->Option LI} {st:Int->Bool} (D:∀x,st x=decide (key x=0)) (O:∀l,l.length<=30000->f l=some (srt key l)):∀(t run P:LI) (s:Int),P.length+run.length+t.length<=30000->(run= []/\s= -1\/run≠[]/\s=(P.length:Int))->
  zA9 f Range.Lo Range.Hi (P++run++t) (wB st t ((P.length+run.length:Nat):Int) s)=some (P++rsE key t run)
 | [],run,P,s,hl,Z=>by
  rcases Z with ⟨rfl,rfl⟩ | ⟨H,rfl⟩
  ·simp only[wB,show ¬(0:Int)<= -1 by decide,eE]
   show some (P++ []++ [])=some (P++ []);simp
  ·have K:(0:Int)<=(P.length:Int):=by omega
   simp only[wB,K,eK];have h:0<run.length:=iZ.2 H;show (some (P++run++ [])).bind (λl=>zNN f l (P.length:Int) ((P.length+run.length:Nat):Int))=_;rw[zA,z81 h (O run (by simp at hl;omega))]
   simp[rsE]
 | x::t,run,P,s,hl,Z=>by
  have ad:P.length+run.length+t.length+1<=30000:=by simp only[eF] at hl;omega
  by_cases K:key x=0
  ·have G:st x=true:=by rw[D];simp[K]
   rcases Z with ⟨rfl,rfl⟩ | ⟨H,rfl⟩
   ·have e:wB st (x::t) ((P.length+([]:LI).length:Nat):Int) (-1)=wB st t (((P++ [x]).length+([]:LI).length:Nat):Int) (-1):=by
     simp only[wB,G];simp
    have T:=yEH D O t [] (P++ [x]) (-1) (by simp only[d8,gL,fE];simp at ad;omega) (.inl ⟨rfl,rfl⟩)
    rw[e,show P++ []++x::t=P++ [x]++ []++t by simp,T];have e2:srt key []= []:=rfl;simp[rsE,K,e2]
   ·have ab:(0:Int)<=(P.length:Int):=by omega
    have h:0<run.length:=iZ.2 H;have e:wB st (x::t) ((P.length+run.length:Nat):Int) (P.length:Int)= {Lo:=(P.length:Int),Hi:=((P.length+run.length:Nat):Int)}::wB st t (((P++srt key run++ [x]).length+([]:LI).length:Nat):Int) (-1):=by
     have e3:(((P++srt key run++ [x]).length+([]:LI).length:Nat):Int)=((P.length+run.length:Nat):Int)+1:=by simp[yEF];omega
     rw[e3];simp only[wB,G,dY,fj,fg,eE,eV,ab,eH,eK]
    have T:=yEH D O t [] (P++srt key run++ [x]) (-1) (by simp[yEF];omega) (.inl ⟨rfl,rfl⟩)
    have e4:zNN f (P++run++x::t) (P.length:Int) ((P.length+run.length:Nat):Int)=some (P++srt key run++ [x]++ []++t):=by
     rw[z81 h (O run (by omega))];simp
    have e5:zA9 f Range.Lo Range.Hi (P++run++x::t) ({Lo:=(P.length:Int),Hi:=((P.length+run.length:Nat):Int)}::wB st t (((P++srt key run++ [x]).length+([]:LI).length:Nat):Int) (-1))=zA9 f Range.Lo Range.Hi (P++srt key run++ [x]++ []++t) (wB st t (((P++srt key run++ [x]).length+([]:LI).length:Nat):Int) (-1)):=by
     unfold zA9;rw[gG,zA,e4]
    rw[e,e5,T];simp[rsE,K]
  ·have G:st x=false:=by rw[D];simp[K]
   have e:wB st (x::t) ((P.length+run.length:Nat):Int) s=wB st t ((P.length+(run++ [x]).length:Nat):Int) (P.length:Int):=by
    have e3:((P.length+(run++ [x]).length:Nat):Int)=((P.length+run.length:Nat):Int)+1:=by simp;omega
    rw[e3];rcases Z with ⟨rfl,rfl⟩ | ⟨H,rfl⟩
    ·simp[wB,G]
    ·have:¬((P.length:Int)<0):=by omega
     simp only[wB,G,eD,eV,this,e6,fg,eE,fj]
   have T:=yEH D O t (run++ [x]) P (P.length:Int) (by simp;omega) (.inr ⟨by simp,rfl⟩)
   rw[e,show P++run++x::t=P++(run++ [x])++t by simp,T];simp[rsE,K]
end
theorem yMQ {l:List bL} (h:CV l) (D:l.length<=30000) (x y:Int):vP x y l=some (sg (clE l x) (clE l y)):=by unfold vP;simp only[zHL h D,zA,yUO];unfold sg;rfl
theorem yU3 {l:List bL} (h:CV l) (G:l.length<=30000) (K:∀x∈l,cZ x) (O:text.length<=30000):zCJ l text=some (csE (clE l) text):=by
 have H:∀x,0<=clE l x:=yEA h;unfold zCJ yR;have D:∀x,(kX l x==some 0)=decide (clE l x=0):=λx=>by rw[zHL h G];by_cases Z:clE l x=0<;>simp[Z]
 rw[zP6 G K h,zA,yZK O,zA,z8R h G O D rfl,zA];have:=yEH (key:=clE l) (f:=λp=>kY p (λx0 x1=>vP x0 x1 l)) (st:=λc=>kX l c==some 0) D (λp T=>by
  obtain⟨r,r1,r2,r3⟩:=yH0 (key:=clE l) (f:=λx0 x1=>vP x0 x1 l) (λx y=>yMQ h G x y) p T;rw[r1];have:=z8W (key:=clE l) r2 (zUS (key:=clE l) p) (r3.symm.trans (yEE p));rw[this];rfl) text [] [] (-1) (by simpa using O) (.inl ⟨rfl,rfl⟩)
 rw[zRV H];exact this
noncomputable def u5 (n:Norm) (b:Bool) (text:LI):LI:=csE (clE (usN n).aI) (zDK n b text)
theorem zYI (n:Norm) (b:Bool) (text:LI):(u5 n b text).length=(zDK n b text).length:=yQU _
theorem zQB (D:NSm n) (h:uV n) (b:Bool) (text:LI):(zDK n b text).length<=64*text.length:=z8Z ((z4O D h).len b) text
theorem zTG (G:NSm n) (D:uV n) (O:VD0 n) (K:text.length<=30000) (H:(zDK n b text).length<=30000):jL n text b=some (u5 n b text):=by
 have h:=z4O G D;rw[yQS G D O K,yU3 h.cv (by have:=h.cl;omega) h.ok H]
 rfl
end Go.M


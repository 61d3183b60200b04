/- What the plain counterparts answer. Conditions: none. -/
import Derived.Test.YtgeimamfoblkjaaGreatDoorMir
set_option linter.unusedSimpArgs false
set_option linter.unusedVariables false
set_option linter.unnecessarySimpa false
namespace Go.M
open Go.AV
theorem wN {n:Int} (h1: -9223372036854775808≤n) (h2:n≤9223372036854775807):wi n=n:=w64 h1 h2
theorem yB {k:Nat} (h:k+1≤9223372036854775807):wi ((k:Int)+1)=((k+1:Nat):Int):=by rw[wN (by omega) (by omega)];omega
theorem zEJ {k:Nat} (h:k+1≤9223372036854775807):wi (((k+1:Nat):Int)-1)=(k:Int):=by rw[wN (by omega) (by omega)];omega
theorem k6 {k n:Nat} (h:k<n):decide ((k:Int)<(n:Int))=true:=by simp;omega
theorem jM {k n:Nat} (h:n≤k):decide ((k:Int)<(n:Int))=false:=by simp;omega
theorem yW {α:Type} {l:List α} {k:Nat} (h:k<l.length):kV l (k:Int)=some l[k]:=by unfold kV;rw[if_pos (by omega)];simp[h]
theorem z2P {α:Type} {x: α} {l:List α}:kV (x::l) 0=some x:=rfl
theorem zG2 {α:Type} {l:List α} {k:Nat} (h:k<l.length) (x: α):zBE l (k:Int) x=some (l.set k x):=by unfold zBE;rw[if_pos ⟨by omega,by simpa using h⟩];simp
theorem zAO {α:Type} {l m:List α} (h:l.length+m.length≤4294967296):app l m=some (l++m):=by unfold app;rw[if_pos (by unfold LIM;exact h)]
theorem zTB {α:Type} {z: α} {n:Nat} (h:n≤4294967296):mkM z (n:Int)=some (List.replicate n z):=by unfold mkM;rw[if_pos ⟨by omega,by unfold LIM;simpa using h⟩];simp
theorem z2Q {α:Type} {l:List α} {a b:Nat} (h1:a≤b) (h2:b≤l.length):slc l (a:Int) (b:Int)=some ((l.take b).drop a):=by unfold slc;rw[if_pos ⟨by omega,by omega,by simpa using h2⟩];simp
theorem z2R {α:Type} {l:List α} {b:Nat} (h2:b≤l.length):slc l 0 (b:Int)=some (l.take b):=by have:=z2Q (l:=l) (a:=0) (b:=b) (by omega) h2;simpa using this
theorem z2S {α:Type} {l:List α} {a:Nat} (h2:a≤l.length):slc l (a:Int) (l.length:Int)=some (l.drop a):=by have:=z2Q (l:=l) (a:=a) (b:=l.length) h2 (Nat.le_refl _);simpa using this
theorem yE {α β:Type} (x: α) (f: α→Option β):(pv x).bind f=f x:=rfl
theorem wO {α:Type} [Inhabited α] (m:Option α):gM true m=m:=rfl
theorem zBC {α:Type} [Inhabited α] (m:Option α):gM false m=some default:=rfl
theorem zH {α β:Type} (x: α) (f: α→Option β):(some x).bind f=f x:=rfl
theorem yQ {X Y:Type} {body:X→Option (Stp X Y)} {x x':X} (h:body x=some (.next x')):zX body x=zX body x':=by rw[j6,h]
theorem yI {X Y:Type} {body:X→Option (Stp X Y)} {x:X} {y:Y} (h:body x=some (.done y)):zX body x=some y:=by rw[j6,h]
theorem z0:((0:Nat):Int)=0:=rfl
def zKX {A B Y:Type} (g:Nat→A→B→Option (Stp B Y)) (fin:B→Y):List A→Nat→B→Option Y
 | [],_,b=>some (fin b)
 | x::xs,k,b=>match g k x b with
  | none=>none
  | some (.next b')=>zKX g fin xs (k+1) b'
  | some (.done y)=>some y
theorem z0H {A B X Y:Type} (l:List A) (mk:Nat→B→X) {body:X→Option (Stp X Y)} (g:Nat→A→B→Option (Stp B Y)) (fin:B→Y)
  (hstep:∀k b (h:k<l.length),body (mk k b)=match g k l[k] b with
   | none=>none
   | some (.next b')=>some (.next (mk (k+1) b'))
   | some (.done y)=>some (.done y))
  (hend:∀b,body (mk l.length b)=some (.done (fin b))):∀(n k:Nat) (b:B),k+n=l.length→zX body (mk k b)=zKX g fin (l.drop k) k b:=by
 intro n
 induction n with
 | zero=>
  intro k b hk;have:k=l.length:=by omega
  subst this;rw[j6,hend,List.drop_length];rfl
 | succ n ih=>
  intro k b hk;have hlt:k<l.length:=by omega
  rw[j6,hstep k b hlt,List.drop_eq_getElem_cons hlt];simp only[zKX];cases hg:g k l[k] b with
  | none=>rfl
  | some s=>
   cases s with
   | next b'=>exact ih (k+1) b' (by omega)
   | done y=>rfl
theorem zB6 {A B X Y:Type} (l:List A) (mk:Nat→B→X) {body:X→Option (Stp X Y)} (g:Nat→A→B→Option (Stp B Y)) (fin:B→Y)
  (hstep:∀k b (h:k<l.length),body (mk k b)=match g k l[k] b with
   | none=>none
   | some (.next b')=>some (.next (mk (k+1) b'))
   | some (.done y)=>some (.done y))
  (hend:∀b,body (mk l.length b)=some (.done (fin b))) (b:B):zX body (mk 0 b)=zKX g fin l 0 b:=by
 have:=z0H l mk g fin hstep hend l.length 0 b (by omega);simpa using this
theorem zLW {A Y:Type} (p:A→Bool) (bad good:Y) (l:List A):∀k:Nat,zKX (B:=Unit) (fun _ x _=>if p x then some (.next ()) else some (.done bad)) (fun _=>good) l k ()=some (if l.all p then good else bad):=by
 induction l with
 | nil=>intro k;rfl
 | cons x l ih=>
  intro k;simp only[zKX,List.all_cons];by_cases hp:p x=true
  · simp[hp,ih (k+1)]
  · simp[hp]
end Go.M
namespace Go.M
open Go.AV
def chk {A Y:Type} (p:Nat→A→Option Y):List A→Nat→Option Y
 | [],_=>none
 | x::xs,k=>match p k x with
  | some y=>some y
  | none=>chk p xs (k+1)
def toS {Y:Type}:Option Y→Unit⊕Y
 | some y=> .inr y
 | none=> .inl ()
def stp {Y:Type} (k:Nat):Option Y→Stp Int (Unit⊕Y)
 | some y=> .done (.inr y)
 | none=> .next ((k+1:Nat):Int)
theorem z2T {A Y:Type} (l:List A) {body:Int→Option (Stp Int (Unit⊕Y))} (p:Nat→A→Option Y)
  (s:Nat) (hb:∀k (h:k<l.length),s≤k→body (k:Int)=some (stp k (p k l[k]))) (he:∀k:Nat,l.length≤k→body (k:Int)=some (.done (.inl ()))):
  ∀(n k:Nat),s≤k→l.length-k=n→zX body (k:Int)=some (toS (chk p (l.drop k) k)):=by
 intro n
 induction n with
 | zero=>
  intro k hs hk;rw[j6,he k (by omega),List.drop_of_length_le (by omega)];rfl
 | succ n ih=>
  intro k hs hk;have hlt:k<l.length:=by omega
  rw[j6,hb k hlt hs,List.drop_eq_getElem_cons hlt];simp only[chk];cases hp:p k l[k] with
  | some y=>rfl
  | none=>exact ih (k+1) (by omega) (by omega)
theorem zIA {A Y:Type} (l:List A) {body:Int→Option (Stp Int (Unit⊕Y))} (p:Nat→A→Option Y)
  (hb:∀k (h:k<l.length),body (k:Int)=some (stp k (p k l[k]))) (he:∀k:Nat,l.length≤k→body (k:Int)=some (.done (.inl ()))):zX body 0=some (toS (chk p l 0)):=by
 have:=z2T l p 0 (fun k h _=>hb k h) he l.length 0 (by omega) (by omega);simpa using this
theorem zLX {Y Z:Type} (o:Option Y) (f:Unit→Option Z) (g:Y→Option Z):(toS o).elim f g=match o with | some y=>g y | none=>f ():=by cases o<;>rfl
abbrev MX:Nat:=9223372036854775807
def zFY (t:Int):Bool:=((((decide (65≤t)&&decide (t≤90)) ||(decide (97≤t)&&decide (t≤122))) ||(decide (48≤t)&&decide (t≤57))) ||decide (t=95))
theorem zLY {s:Str} {k:Nat} (h:k<s.length):zSI s (k:Int)=some (s[k].toNat:Int):=by unfold zSI;rw[yW h];rfl
def zRS (s:Str):Bool:=match chk (fun _ (b:UInt8)=>if zFY (b.toNat:Int) then none else some false) s 0 with
 | some y=>y
 | none=>decide (1≤s.length)&&decide (s.length≤32)
end Go.M
namespace Go.M
open Go.AV
def vld (c:Int):Bool:=decide (0≤c)&&decide (c≤1114111)
theorem zVQ (c:Int):wL c=some (vld c):=rfl
theorem zFO (c:Int):zAX c=some (vld c):=rfl
def z8S (a b:List Int):Int:=match chk (fun _ (p:Int×Int)=>if p.1=p.2 then none else some (if p.1<p.2 then (-1:Int) else 1)) (a.zip b) 0 with
 | some y=>y
 | none=>if a.length<b.length then -1 else if b.length<a.length then 1 else 0
section
variable {a b:List Int} (ha:a.length≤4611686018427387904) (hb:b.length≤30000)
theorem z5U (x y:Int):x7 x y=some (if x<y then -1 else if y<x then 1 else 0):=by unfold x7 zDN;simp only[zH,decide_true,Bool.not_true,cond_false];by_cases h1:x<y;simp[h1];by_cases h2:y<x<;>simp[h1,h2]
include ha in
theorem yBM:zX (fun (v:Int)=>u5 a b v) 0=some (toS (chk (fun _ (p:Int×Int)=>if p.1=p.2 then none else some (if p.1<p.2 then (-1:Int) else 1)) (a.zip b) 0)):=by
 refine zIA (a.zip b) _ (fun k h=>?_) (fun k h=>?_);have hk:=h;rw[List.length_zip] at hk;have h1:k<a.length:=by omega
 have h2:k<b.length:=by omega
 simp only[u5,k6 h1,k6 h2,yE,Bool.and_self,cond_true,yW h1,yW h2,zH,yB (k:=k) (by omega),List.getElem_zip];by_cases hl:a[k]<b[k];have:¬a[k]=b[k]:=by omega
 simp[hl,this,stp];by_cases hr:b[k]<a[k];have:¬a[k]=b[k]:=by omega
 simp[hl,hr,this,stp];have:a[k]=b[k]:=by omega
 simp[this,stp];rw[List.length_zip] at h;have e1:(decide ((k:Int)<(a.length:Int))&&decide ((k:Int)<(b.length:Int)))=false:=by
  rw[Bool.and_eq_false_iff];simp;omega
 simp only[u5,yE,e1,cond_false]
include ha in
theorem zQP:zDS a b=some (z8S a b):=by
 unfold zDS z8S;rw[yBM ha,zH,zLX];cases chk (fun _ (p:Int×Int)=>if p.1=p.2 then none else some (if p.1<p.2 then (-1:Int) else 1)) (a.zip b) 0 with
 | some y=>rfl
 | none=>
  simp only[];by_cases h1:a.length<b.length;have:(a.length:Int)<b.length:=by omega
  simp[h1,this];have h1':¬(a.length:Int)<b.length:=by omega
  by_cases h2:b.length<a.length;have:(b.length:Int)<a.length:=by omega
  simp[h1,h1',h2,this];have h2':¬(b.length:Int)<a.length:=by omega
  simp[h1,h1',h2,h2']
end
end Go.M
namespace Go.M
open Go.AV
theorem zPE {A Y:Type} {p:Nat→A→Option Y}:∀{l:List A} {k:Nat},chk p l k=none→∀j (h:j<l.length),p (k+j) l[j]=none
 | [],_,_,j,h=>by simp at h
 | x::xs,k,hc,j,h=>by
  simp only[chk] at hc;cases hp:p k x with
  | some y=>rw[hp] at hc;cases hc
  | none=>
   rw[hp] at hc;cases j with
   | zero=>simpa using hp
   | succ j=>
    have:=zPE hc j (by simp at h;omega)
    rw[show k+1+j=k+(j+1) by omega] at this;simpa using this
theorem zVR {A Y:Type} {p:Nat→A→Option Y} {P:Y→Prop} (hp:∀k x y,p k x=some y→P y):∀{l:List A} {k:Nat} {y:Y},chk p l k=some y→P y
 | [],_,_,h=>by cases h
 | x::xs,k,y,h=>by
  simp only[chk] at h;cases hq:p k x with
  | some y'=>rw[hq] at h;cases h;exact hp _ _ _ hq
  | none=>rw[hq] at h;exact zVR hp h
end Go.M
namespace Go.M
open Go.AV
def lx:List Int→List Int→Prop
 | [],[]=>False
 | [],_::_=>True
 | _::_,[]=>False
 | x::a,y::b=>x<y∨(x=y∧lx a b)
def pC (_:Nat) (p:Int×Int):Option Int:=if p.1=p.2 then none else some (if p.1<p.2 then (-1:Int) else 1)
def zPF (a b:List Int) (k:Nat):Int:=match chk pC (a.zip b) k with
 | some y=>y
 | none=>if a.length<b.length then -1 else if b.length<a.length then 1 else 0
theorem zRT:∀(a b:List Int) (k:Nat),(zPF a b k<0↔lx a b)∧(zPF a b k=0↔a=b)
 | [],[],k=>by simp[zPF,chk,lx]
 | [],y::b,k=>by simp[zPF,chk,lx]
 | x::a,[],k=>by simp[zPF,chk,lx]
 | x::a,y::b,k=>by
  have ih:=zRT a b (k+1);by_cases he:x=y
  ·subst he
   have e1:zPF (x::a) (x::b) k=zPF a b (k+1):=by
    simp only[zPF,List.zip_cons_cons,chk,pC,if_true,List.length_cons];cases chk pC (a.zip b) (k+1) with
    | some y=>rfl
    | none=>
     simp only[];by_cases h1:a.length<b.length
     ·simp[h1]
     ·by_cases h2:b.length<a.length<;>simp[h1,h2]
   rw[e1];refine⟨ih.1.trans ?_,ih.2.trans ?_⟩
   ·simp[lx]
   ·simp
  ·have e1:zPF (x::a) (y::b) k=if x<y then -1 else 1:=by
    simp only[zPF,List.zip_cons_cons,chk,pC,he,if_false]
   rw[e1];by_cases hl:x<y
   ·simp[hl,lx,he]
   ·simp[hl,lx,he]
theorem z8T (a b:List Int):z8S a b=zPF a b 0:=rfl
theorem xU {κ ν:Type} [DecidableEq κ] (m:List (κ×ν)) (k k': κ) (v: ν):mget (wD m k v) k'=if k'=k then some v else mget m k':=by
 induction m with
 | nil=>simp only[wD,mget]
 | cons p m ih=>
  obtain⟨q,u⟩:=p;simp only[wD];by_cases hq:k=q;subst hq;simp only[if_true,mget];by_cases h:k'=k<;>simp[h];simp only[hq,if_false,mget];by_cases h:k'=q;subst h;have:¬k'=k:=fun e=>hq e.symm;simp[this];simp only[h,if_false];exact ih
end Go.M
namespace Go.M
open Go.AV
theorem yBN {α:Type} {l:List α} (h:l.length≤30000):app [] l=some l:=by
 rw[zAO (by simp;omega)]
 rfl
theorem zVS {a b:List Int} (ha:a.length≤4611686018427387904):zB3 a b=some (decide (a=b)):=by unfold zB3;rw[zQP ha,zH,z8T];congr 1;rw[Bool.eq_iff_iff];simp only[decide_eq_true_eq];exact(zRT a b 0).2
end Go.M
namespace Go.M
open Go.AV
def nth {α:Type} [Inhabited α] (l:List α) (k:Nat): α:=l.getD k default
theorem yR {α:Type} [Inhabited α] {l:List α} {k:Nat} (h:k<l.length):kV l (k:Int)=some (nth l k):=by rw[yW h];simp[nth,h]
theorem wC {α:Type} [Inhabited α] {l:List α} {k:Nat} (h:k<l.length):nth l k∈l:=by simp[nth,h]
theorem vU {α:Type} [Inhabited α] {l:List α} {k:Nat} (h:k<l.length):nth l k=l[k]:=by simp[nth,h]
theorem zAK {α:Type} [Inhabited α] {l:List α} {p: α→Prop}:(∀k,k<l.length→p (nth l k))↔∀x∈l,p x:=by
 constructor;intro h x hx;obtain⟨k,hk,rfl⟩:=List.getElem_of_mem hx;have:=h k hk
 rwa [vU hk] at this
 intro h k hk;exact h _ (wC hk)
def Ver (m:Option Int) (p:Prop):Prop:= ∃e,m=some e∧(e=0↔p)
theorem zVT {Y:Type} {body:Int→Option (Stp Int (Unit⊕Y))} (N:Nat) (P:Nat→Prop) (Q:Y→Prop) (s:Nat)
  (hb:∀k,s≤k→k<N→(P k∧body (k:Int)=some (.next ((k+1:Nat):Int)))∨(¬P k∧∃y,Q y∧body (k:Int)=some (.done (.inr y))))
  (he:∀k,N≤k→body (k:Int)=some (.done (.inl ()))):
  ∀(n k:Nat),N-k=n→s≤k→(zX body (k:Int)=some (.inl ())∧∀j,k≤j→j<N→P j)∨(∃y,Q y∧zX body (k:Int)=some (.inr y)∧¬∀j,k≤j→j<N→P j):=by
 intro n
 induction n with
 | zero=>
  intro k hk _;refine .inl ⟨yI (he k (by omega)),fun j h1 h2=>by omega⟩
 | succ n ih=>
  intro k hk hs;rcases hb k hs (by omega) with ⟨hp,h⟩ | ⟨hp,y,hy,h⟩
  ·rw[yQ h]
   rcases ih (k+1) (by omega) (by omega) with ⟨h1,h2⟩ | ⟨y,hy,h1,h2⟩
   ·refine .inl ⟨h1,fun j hj1 hj2=>?_⟩
    by_cases e:j=k
    ·subst e;exact hp
    ·exact h2 j (by omega) hj2
   ·exact .inr ⟨y,hy,h1,fun hh=>h2 fun j hj1 hj2=>hh j (by omega) hj2⟩
  ·exact .inr ⟨y,hy,yI h,fun hh=>hp (hh k (Nat.le_refl _) (by omega))⟩
theorem wP {X Y:Type} {P:Prop} {b:Bool} {k':X} {y:Y} {Q:Y→Prop} (hb:b=true↔¬P) (hy:Q y):(P∧(cond b (some (Stp.done (Sum.inr y))) (some (.next k')):Option (Stp X (Unit⊕Y)))=some (.next k'))∨(¬P∧∃y',Q y'∧(cond b (some (Stp.done (Sum.inr y))) (some (.next k')):Option (Stp X (Unit⊕Y)))=some (.done (.inr y'))):=by
 cases b with
 | true=>exact .inr ⟨hb.1 rfl,y,hy,rfl⟩
 | false=>exact .inl ⟨Classical.byContradiction (fun h=>Bool.noConfusion (hb.2 h)),rfl⟩
theorem jD {Y:Type} {body:Int→Option (Stp Int (Unit⊕Y))} (N:Nat) (P:Nat→Prop) (Q:Y→Prop)
  (hb:∀k,k<N→(P k∧body (k:Int)=some (.next ((k+1:Nat):Int)))∨(¬P k∧∃y,Q y∧body (k:Int)=some (.done (.inr y))))
  (he:∀k,N≤k→body (k:Int)=some (.done (.inl ()))):
  (zX body 0=some (.inl ())∧∀j,j<N→P j)∨(∃y,Q y∧zX body 0=some (.inr y)∧¬∀j,j<N→P j):=by
 rcases zVT N P Q 0 (fun k _ h=>hb k h) he N 0 (by omega) (by omega) with ⟨h1,h2⟩ | ⟨y,hy,h1,h2⟩
 ·exact .inl ⟨h1,fun j hj=>h2 j (by omega) hj⟩
 ·exact .inr ⟨y,hy,h1,fun hh=>h2 fun j _ hj=>hh j hj⟩
theorem zJZ {Y:Type} {body:Int→Option (Stp Int (Unit⊕Y))} (N:Nat) (P:Nat→Prop) (Q:Y→Prop)
  (hb:∀k,k+1<N→(P k∧body ((k+1:Nat):Int)=some (.next ((k+2:Nat):Int)))∨(¬P k∧∃y,Q y∧body ((k+1:Nat):Int)=some (.done (.inr y))))
  (he:∀k,N≤k→body (k:Int)=some (.done (.inl ()))):
  (zX body 1=some (.inl ())∧∀j,j+1<N→P j)∨(∃y,Q y∧zX body 1=some (.inr y)∧¬∀j,j+1<N→P j):=by
 have:=zVT N (fun k=>P (k-1)) Q 1 (fun k h1 h2=>by
  cases k with
  | zero=>omega
  | succ k=>exact hb k h2) he (N-1) 1 (by omega) (by omega)
 rcases this with ⟨h1,h2⟩ | ⟨y,hy,h1,h2⟩
 ·exact .inl ⟨h1,fun j hj=>h2 (j+1) (by omega) hj⟩
 ·refine .inr ⟨y,hy,h1,fun hh=>h2 fun j hj1 hj2=>?_⟩
  cases j with
  | zero=>omega
  | succ j=>exact hh j hj2
def spOk (s:Span):Prop:=0≤s.Lo∧s.Hi≤1114111∧s.Lo≤s.Hi∧1≤s.Value∧s.Value≤254
def adOk (a b:Span):Prop:=a.Hi<b.Lo∧¬(b.Lo=a.Hi+1∧b.Value=a.Value)
def hgOk (s:Span):Prop:= ¬(s.Lo≤4370∧4352≤s.Hi)∧¬(s.Lo≤4469∧4449≤s.Hi)∧¬(s.Lo≤4546∧4520≤s.Hi)∧¬(s.Lo≤55203∧44032≤s.Hi)
structure CV (l:List Span):Prop where
 sp:∀k,k<l.length→spOk (nth l k)
 ad:∀k,k+1<l.length→adOk (nth l k) (nth l (k+1))
 hg:∀k,k<l.length→hgOk (nth l k)
theorem yAJ (s:Span):(zX (fun (x:Int)=>xZ ({x0:=({Lo:=4352,Hi:=4370}:Range),x1:=({Lo:=4449,Hi:=4469}:Range),x2:=({Lo:=4520,Hi:=4546}:Range),x3:=({Lo:=44032,Hi:=55203}:Range)}:A4Range) s x) 0=some (.inl ())∧hgOk s)∨(zX (fun (x:Int)=>xZ ({x0:=({Lo:=4352,Hi:=4370}:Range),x1:=({Lo:=4449,Hi:=4469}:Range),x2:=({Lo:=4520,Hi:=4546}:Range),x3:=({Lo:=44032,Hi:=55203}:Range)}:A4Range) s x) 0=some (.inr 11)∧¬hgOk s):=by
 have h:=jD (body:=fun (x:Int)=>xZ ({x0:=({Lo:=4352,Hi:=4370}:Range),x1:=({Lo:=4449,Hi:=4469}:Range),x2:=({Lo:=4520,Hi:=4546}:Range),x3:=({Lo:=44032,Hi:=55203}:Range)}:A4Range) s x) 4
  (fun k=> ¬(s.Lo≤(nth [({Lo:=4352,Hi:=4370}:Range),{Lo:=4449,Hi:=4469},{Lo:=4520,Hi:=4546},{Lo:=44032,Hi:=55203}] k).Hi∧(nth [({Lo:=4352,Hi:=4370}:Range),{Lo:=4449,Hi:=4469},{Lo:=4520,Hi:=4546},{Lo:=44032,Hi:=55203}] k).Lo≤s.Hi)) (fun y=>y=11) (fun k hk=>?_) (fun k hk=>?_)
 ·have e:(∀j,j<4→¬(s.Lo≤(nth [({Lo:=4352,Hi:=4370}:Range),{Lo:=4449,Hi:=4469},{Lo:=4520,Hi:=4546},{Lo:=44032,Hi:=55203}] j).Hi∧(nth [({Lo:=4352,Hi:=4370}:Range),{Lo:=4449,Hi:=4469},{Lo:=4520,Hi:=4546},{Lo:=44032,Hi:=55203}] j).Lo≤s.Hi))↔hgOk s:=by
   unfold hgOk;constructor
   ·intro h;exact⟨h 0 (by omega),h 1 (by omega),h 2 (by omega),h 3 (by omega)⟩
   ·rintro⟨h0,h1,h2,h3⟩ j hj
    match j,hj with
    | 0,_=>exact h0
    | 1,_=>exact h1
    | 2,_=>exact h2
    | 3,_=>exact h3
  rw[e] at h;rcases h with h | ⟨y,rfl,h⟩
  ·exact .inl h
  ·exact .inr h
 ·have hi:kV [({Lo:=4352,Hi:=4370}:Range),{Lo:=4449,Hi:=4469},{Lo:=4520,Hi:=4546},{Lo:=44032,Hi:=55203}] (k:Int)=some (nth [({Lo:=4352,Hi:=4370}:Range),{Lo:=4449,Hi:=4469},{Lo:=4520,Hi:=4546},{Lo:=44032,Hi:=55203}] k):=yR (by simpa using hk)
  have hd:decide ((k:Int)<4)=true:=by simp;omega
  simp only[xZ,hd,cond_true,hi,zH,yE,yB (k:=k) (by omega)];generalize nth [({Lo:=4352,Hi:=4370}:Range),{Lo:=4449,Hi:=4469},{Lo:=4520,Hi:=4546},{Lo:=44032,Hi:=55203}] k=q;by_cases h1:s.Lo≤q.Hi<;>by_cases h2:q.Lo≤s.Hi<;>simp[h1,h2]
 ·have hd:decide ((k:Int)<4)=false:=by simp;omega
  simp only[xZ,hd,cond_false]
theorem zVU {l:List Span} (hl:l.length≤30000) (hok:∀x∈l,okSpan x):Ver (zBT l) (CV l):=by
 have h0:=jD (body:=fun (x:Int)=>uC l x) l.length (fun k=>spOk (nth l k)) (fun y=>y≠0) (fun k hk=>by
  simp only[uC,k6 hk,cond_true,yR hk,zH,yE,yB (k:=k) (by omega),spOk];generalize nth l k=q;by_cases h1:q.Lo<0<;>by_cases h2:1114111<q.Hi<;>by_cases h3:q.Hi<q.Lo<;>by_cases h4:q.Value<1<;>by_cases h5:254<q.Value<;>simp[h1,h2,h3,h4,h5]<;>omega) (fun k hk=>by simp only[uC,jM hk,cond_false])
 unfold zBT Ver;rcases h0 with ⟨h0,p0⟩ | ⟨y,hy,h0,p0⟩
 rw[h0];simp only[zH,Sum.elim_inl];have h1:=zJZ (body:=fun (x:Int)=>uD l x) l.length (fun k=>adOk (nth l k) (nth l (k+1))) (fun y=>y≠0) (fun k hk=>by
  have hk':k<l.length:=by omega
  have w:=(p0 k hk').2.1;have w0:=(p0 k hk').1;have w1:=(p0 k hk').2.2.1;simp only[uD,k6 hk,cond_true,yR hk,zH,yE,yB (k:=k+1) (by omega),zEJ (k:=k) (by omega),yR hk',adOk];rw[wN (n:=(nth l k).Hi+1) (by omega) (by omega)];generalize nth l k=q at*;generalize nth l (k+1)=q' at*;exact wP (by simp only[Bool.or_eq_true,Bool.and_eq_true,decide_eq_true_eq];omega) (by decide)) (fun k hk=>by simp only[uD,jM hk,cond_false])
 rcases h1 with ⟨h1,p1⟩ | ⟨y,hy,h1,p1⟩;rw[h1];simp only[zH,Sum.elim_inl];have h2:=jD (body:=fun (x:Int)=>uE l x) l.length (fun k=>hgOk (nth l k)) (fun y=>y≠0) (fun k hk=>by
  simp only[uE,k6 hk,cond_true,yR hk,zH,yE,yB (k:=k) (by omega)];rcases yAJ (nth l k) with ⟨h,p⟩ | ⟨h,p⟩
  rw[h];exact .inl ⟨p,rfl⟩;rw[h];exact .inr ⟨p,11,by decide,rfl⟩) (fun k hk=>by simp only[uE,jM hk,cond_false])
 rcases h2 with ⟨h2,p2⟩ | ⟨y,hy,h2,p2⟩;rw[h2];exact⟨0,rfl,by simp only[true_iff];exact⟨p0,p1,p2⟩⟩
 rw[h2];exact⟨y,rfl,by simp only[hy,false_iff];exact fun h=>p2 h.hg⟩
 rw[h1];exact⟨y,rfl,by simp only[hy,false_iff];exact fun h=>p1 h.ad⟩
 rw[h0];exact⟨y,rfl,by simp only[hy,false_iff];exact fun h=>p0 h.sp⟩
end Go.M
namespace Go.M
open Go.AV
theorem z2U:∀(x y:Str),Op.bytesLess x y=decide (x<y)
 | [],[]=>by simp[Op.bytesLess]
 | _::_,[]=>by simp[Op.bytesLess]
 | [],_::_=>by simp[Op.bytesLess]
 | a::x,b::y=>by
  rw[Op.bytesLess,z2U x y];rw[Bool.eq_iff_iff];simp[List.cons_lt_cons_iff]
theorem zXI (s:Str) (hs:s.length≤MX):zX (fun (x:Int)=>uF s x) 0=some (toS (chk (fun _ (b:UInt8)=>if zFY (b.toNat:Int) then none else some false) s 0)):=by
 refine zIA s _ (fun k h=>?_) (fun k h=>?_);simp only[uF,k6 h,cond_true,zLY h,zH,yE,yB (k:=k) (by unfold MX at hs;omega)]
 have e:(((!(decide ((65:Int)≤(s[k].toNat:Int))&&decide ((s[k].toNat:Int)≤90) ||decide ((97:Int)≤(s[k].toNat:Int))&&decide ((s[k].toNat:Int)≤122)))&& !(decide ((48:Int)≤(s[k].toNat:Int))&&decide ((s[k].toNat:Int)≤57)))&& !decide ((s[k].toNat:Int)=95))= !zFY (s[k].toNat:Int):=by
  unfold zFY;generalize (decide ((65:Int)≤(s[k].toNat:Int))&&decide ((s[k].toNat:Int)≤90) ||decide ((97:Int)≤(s[k].toNat:Int))&&decide ((s[k].toNat:Int)≤122))=A;generalize (decide ((48:Int)≤(s[k].toNat:Int))&&decide ((s[k].toNat:Int)≤57))=B;generalize decide ((s[k].toNat:Int)=95)=C;cases A<;>cases B<;>cases C<;>rfl
 rw[e];cases zFY (s[k].toNat:Int)<;>rfl;simp only[uF,jM h,cond_false]
theorem z2V {s:Str} (hs:s.length≤MX):zC2 s=some (zRS s):=by
 unfold zC2;rw[yE];cases s with
 | nil=>rfl
 | cons x l=>
  have h1:((x::l:Str)== [])=false:=rfl;rw[h1,Bool.false_or];by_cases h2:32<(x::l).length
  ·
   have:decide ((32:Int)<((x::l).length:Int))=true:=by simp at h2 ⊢;omega
   rw[this,cond_true];unfold zRS;cases hc:chk (fun _ (b:UInt8)=>if zFY (b.toNat:Int) then none else some false) (x::l) 0 with
   | none=>
    have:decide ((x::l).length≤32)=false:=by simp at h2 ⊢;omega
    simp only[this,Bool.and_false]
   | some y=>
    have:y=false:=zVR (P:=fun y=>y=false) (fun k b y h=>by split at h<;>simp_all) hc
    simp[this]
  ·
   have:decide ((32:Int)<((x::l).length:Int))=false:=by simp at h2 ⊢;omega
   rw[this,cond_false,zXI _ hs,zH,zLX];unfold zRS;cases chk (fun _ (b:UInt8)=>if zFY (b.toNat:Int) then none else some false) (x::l) 0 with
   | none=>simp at h2 ⊢;omega
   | some y=>rfl
def codesOk (m:Mapping):Prop:=vld m.From=true∧∀c∈m.To,vld c=true
def tagOk (m:Mapping):Prop:=m.Tag= []∨zRS m.Tag=true
def mlt (a b:Mapping):Prop:=a.From<b.From∨(a.From=b.From∧a.Tag<b.Tag)
structure MV (l:List Mapping):Prop where
 co:∀m∈l,codesOk m
 sz:∀m∈l,m.To.length≤64
 tg:∀m∈l,tagOk m
 lt:∀k,k+1<l.length→mlt (nth l k) (nth l (k+1))
theorem z2W {body:Int→Option (Stp Int (Unit⊕Int))} {P:Prop} (h:(zX body 0=some (.inl ())∧P)∨(∃y,y≠0∧zX body 0=some (.inr y)∧¬P)) {f:Unit→Option Int} {R:Prop} (hf:P→Ver (f ()) R) (hR:R→P):
  Ver ((zX body 0).bind fun y=>y.elim f fun y=>some y) R:=by
 rcases h with ⟨h,p⟩ | ⟨y,hy,h,p⟩
 ·rw[h];exact hf p
 ·rw[h];exact⟨y,rfl,by simp only[hy,false_iff];exact fun r=>p (hR r)⟩
section
variable {l:List Mapping} (hl:l.length≤30000) (hto:∀m∈l,m.To.length≤30000) (htg:∀m∈l,m.Tag.length≤MX)
include hl hto htg
theorem z2X:Ver (zDM l) ((∀m∈l,codesOk m)∧(∀m∈l,m.To.length≤64)∧∀m∈l,tagOk m):=by
 unfold zDM;refine z2W (P:= ∀m∈l,codesOk m) ?_ (fun p0=>?_) (fun r=>r.1)
 ·have h:=jD (body:=fun (x:Int)=>uV l x) l.length (fun k=>codesOk (nth l k)) (fun y=>y≠0) (fun k hk=>?_) (fun k hk=>by simp only[uV,jM hk,cond_false])
  ·rw[zAK (p:=codesOk)] at h;exact h
  ·simp only[uV,k6 hk,cond_true,yR hk,zH,zVQ,yB (k:=k) (by omega)]
   by_cases hv:vld (nth l k).From=true
   ·have h2:=jD (body:=fun (x:Int)=>uU (nth l k) x) (nth l k).To.length (fun j=>vld (nth (nth l k).To j)=true) (fun y=>y≠0) (fun j hj=>by
     simp only[uU,k6 hj,cond_true,yR hj,zH,zVQ,yB (k:=j) (by have:=hto _ (wC hk);omega)]
     exact wP (by simp) (by decide)) (fun j hj=>by simp only[uU,jM hj,cond_false])
    rw[zAK (p:=fun c=>vld c=true)] at h2;simp only[hv,Bool.not_true,cond_false];rcases h2 with ⟨h2,p⟩ | ⟨y,hy,h2,p⟩
    ·rw[h2];exact .inl ⟨⟨hv,p⟩,rfl⟩
    ·rw[h2];exact .inr ⟨fun q=>p q.2,y,hy,rfl⟩
   ·simp only[Bool.not_eq_true] at hv
    simp only[hv,Bool.not_false,cond_true];exact .inr ⟨fun q=>(by rw[q.1] at hv;cases hv),1,by decide,rfl⟩
 ·refine z2W (P:= ∀m∈l,m.To.length≤64) ?_ (fun p1=>?_) (fun r=>r.2.1)
  ·have h:=jD (body:=fun (x:Int)=>uW l x) l.length (fun k=>(nth l k).To.length≤64) (fun y=>y≠0) (fun k hk=>by
    simp only[uW,k6 hk,cond_true,yR hk,zH,yB (k:=k) (by omega)];exact wP (by simp only[decide_eq_true_eq];omega) (by decide)) (fun k hk=>by simp only[uW,jM hk,cond_false])
   rw[zAK (p:=fun (m:Mapping)=>m.To.length≤64)] at h;exact h
  ·refine z2W (P:= ∀m∈l,tagOk m) ?_ (fun p2=>⟨0,rfl,by simp only[true_iff];exact⟨p0,p1,p2⟩⟩) (fun r=>r.2.2)
   have h:=jD (body:=fun (x:Int)=>uX l x) l.length (fun k=>tagOk (nth l k)) (fun y=>y≠0) (fun k hk=>by
    simp only[uX,k6 hk,cond_true,yR hk,zH,yE,yB (k:=k) (by omega),tagOk];have hb:((nth l k).Tag== [])=decide ((nth l k).Tag= []):=by cases (nth l k).Tag<;>rfl
    rw[hb];by_cases ht:(nth l k).Tag= []
    ·simp only[ht,decide_true,Bool.not_true,zBC,zH,Bool.false_and,cond_false]
     exact .inl ⟨.inl trivial,trivial⟩
    ·simp only[ht,decide_false,Bool.not_false,wO,z2V (htg _ (wC hk)),zH,Bool.true_and,false_or]
     exact wP (by simp) (by decide)) (fun k hk=>by simp only[uX,jM hk,cond_false])
   rw[zAK (p:=tagOk)] at h;exact h
omit hl hto htg in
theorem z7C (a b:Int):zEW [a,b]=some (if a=0 then b else a):=by have e0:decide ((0:Int)<(([a,b]:List Int).length:Int))=true:=rfl;have e1:decide ((1:Int)<(([a,b]:List Int).length:Int))=true:=rfl;have e2:decide ((2:Int)<(([a,b]:List Int).length:Int))=false:=rfl;unfold zEW;rw[j6];simp only[zCJ,e0,cond_true,z2P,zH];by_cases ha:a=0;subst ha;simp only[decide_true,Bool.not_true,cond_false,if_true];have w1:wi (0+1)=1:=wN (by omega) (by omega);rw[w1,j6];simp only[zCJ,e1,cond_true];have:kV ([0,b]:List Int) 1=some b:=rfl;rw[this];simp only[zH];by_cases hb:b=0;subst hb;simp only[decide_true,Bool.not_true,cond_false];have w2:wi (1+1)=2:=wN (by omega) (by omega);rw[w2,j6];simp only[zCJ,e2,cond_false];rfl;simp[hb];simp[ha]
omit hl hto htg in
theorem yBO (x y:Str):zAF x y=some (if x<y then -1 else if y<x then 1 else 0):=by
 unfold zAF zBU;simp only[zH,beq_self_eq_true,Bool.not_true,cond_false,z2U];by_cases h:x<y
 ·simp[h]
 ·by_cases h2:x=y
  ·subst h2;simp[h]
  ·have h3:y<x:=by
    by_cases h3:y<x
    ·exact h3
    ·exact absurd (List.le_antisymm (List.not_lt.1 h3) (List.not_lt.1 h)) h2
   have hb:(x==y)=false:=by simpa using h2
   simp[h,h3,hb]
omit hl hto htg in
theorem yBP (a b:Mapping):∃e,zCA a b=some e∧(0≤e↔¬mlt a b):=by
 unfold zCA;simp only[z5U,yBO,zH,z7C];refine⟨_,rfl,?_⟩;unfold mlt;by_cases h1:a.From<b.From;simp[h1];by_cases h2:b.From<a.From;have:¬a.From=b.From:=by omega
 simp[h1,h2,this];have:a.From=b.From:=by omega
 by_cases h3:a.Tag<b.Tag;simp[this,h3];by_cases h4:b.Tag<a.Tag<;>simp[this,h3,h4]
omit hto htg in
theorem z5V:∀(n k:Nat) (b:Bool),l.length-k=n→1≤k→∃r,zX (fun (x:Bool×Int)=>wU l x.1 x.2) (b,(k:Int))=some r∧(r=true↔b=true∧∀j,k≤j+1→j+1<l.length→mlt (nth l j) (nth l (j+1))):=by
 intro n
 induction n with
 | zero=>
  intro k b hk h1;refine⟨b,?_,?_⟩;rw[j6];simp only[wU,jM (show l.length≤k by omega),cond_false];exact⟨fun h=>⟨h,fun j h2 h3=>by omega⟩,fun h=>h.1⟩
 | succ n ih=>
  intro k b hk h1;obtain⟨k,rfl⟩:∃k',k=k'+1:=⟨k-1,by omega⟩;have hlt:k+1<l.length:=by omega
  obtain⟨e,he,hp⟩:=yBP (nth l k) (nth l (k+1));obtain⟨r,hr,hq⟩:=ih (k+2) (cond (decide (0≤e)) false b) (by omega) (by omega);refine⟨r,?_,?_⟩;rw[j6];simp only[wU,k6 hlt,cond_true,zEJ (k:=k) (by omega),yR (show k<l.length by omega),yR hlt,zH,he,yB (k:=k+1) (by omega)];rw[←hr];cases decide (0≤e)<;>rfl;rw[hq];by_cases hm:mlt (nth l k) (nth l (k+1));have:decide (0≤e)=false:=by simp only[decide_eq_false_iff_not];exact fun h=>hp.1 h hm
  rw[this,cond_false];constructor
  rintro⟨a,c⟩
  refine⟨a,fun j h2 h3=>?_⟩;by_cases ej:j=k;subst ej;exact hm;exact c j (by omega) h3
  rintro⟨a,c⟩;exact⟨a,fun j h2 h3=>c j (by omega) h3⟩
  have:decide (0≤e)=true:=by simp only[decide_eq_true_eq];exact hp.2 hm
  rw[this,cond_true];constructor
  rintro⟨a,_⟩;cases a
  rintro⟨_,c⟩;exact absurd (c k (by omega) hlt) hm
omit hto htg in
theorem z8U:∀(n k:Nat) (m:List (Mapping_key×Bool)),l.length-k=n→∃r,zX (fun (x:Int×(List (Mapping_key×Bool)))=>wV l x.1 x.2) ((k:Int),m)=some r∧(r= .inl ()∨r= .inr 5):=by
 intro n
 induction n with
 | zero=>
  intro k m hk;refine⟨.inl (),?_,.inl rfl⟩;rw[j6];simp only[wV,jM (show l.length≤k by omega),cond_false]
 | succ n ih=>
  intro k m hk;have hlt:k<l.length:=by omega
  rw[j6];simp only[wV,k6 hlt,cond_true,yR hlt,zH,zA7,yB (k:=k) (by omega)];cases xI m ({from_:=(nth l k).From,tag:=(nth l k).Tag}:Mapping_key) false with
  | true=>exact⟨.inr 5,rfl,.inr rfl⟩
  | false=>exact ih (k+1) _ (by omega)
theorem z2Y:Ver (uR l) (MV l):=by
 obtain⟨e,he,hp⟩:=z2X hl hto htg;unfold uR;rw[he,zH];by_cases h0:e=0;subst h0;simp only[decide_true,Bool.not_true,cond_false];obtain⟨p0,p1,p2⟩:=hp.1 rfl;obtain⟨r,hr,hq⟩:=z5V hl (l.length-1) 1 true rfl (by omega);have hr':zX (fun (x:Bool×Int)=>wU l x.1 x.2) (true,1)=some r:=hr;rw[hr',zH];cases r with
 | true=>exact⟨0,rfl,by simp only[true_iff];exact⟨p0,p1,p2,fun k hk=>(hq.1 rfl).2 k (by omega) hk⟩⟩
 | false=>
  have hno:¬MV l:=fun h=>by have:=hq.2 ⟨rfl,fun j _ hj=>h.lt j hj⟩;cases this
  obtain⟨r,hr,hrr⟩:=z8U hl l.length 0 [] (by omega);have hr':zX (fun (x:Int×(List (Mapping_key×Bool)))=>wV l x.1 x.2) (0,[])=some r:=hr;simp only[cond_false];rw[hr',zH];rcases hrr with rfl | rfl;exact⟨4,rfl,by simp only[show ((4:Int)=0)=False by simp,false_iff];exact hno⟩
  exact⟨5,rfl,by simp only[show ((5:Int)=0)=False by simp,false_iff];exact hno⟩
 have:(!decide (e=0))=true:=by simp[h0]
 rw[this,cond_true];exact⟨e,rfl,by simp only[h0,false_iff];exact fun h=>h0 (hp.2 ⟨h.co,h.sz,h.tg⟩)⟩
end
end Go.M
namespace Go.M
open Go.AV
section
variable {α:Type} (lt: α→α→Bool)
def vV:List α→α→List α→List α
 | [],x,s=>x::s
 | y::r,x,s=>if lt x y then vV r x (y::s) else (y::r).reverse++x::s
def uT (l:List α) (p:List α):List α:=l.foldl (fun p x=>vV lt p.reverse x []) p
theorem zVV:∀(r:List α) (x: α) (s t:List α),vV lt r x (s++t)=vV lt r x s++t
 | [],x,s,t=>rfl
 | y::r,x,s,t=>by
  unfold vV;split;exact zVV r x (y::s) t;simp
theorem zMT:∀(r:List α) (x: α) (s:List α),(vV lt r x s).Perm (r.reverse++x::s)
 | [],x,s=> .refl _
 | y::r,x,s=>by
  unfold vV;split
  ·
   refine(zMT r x (y::s)).trans ?_;simp only[List.reverse_cons,List.append_assoc,List.singleton_append];exact List.Perm.append_left _ (List.Perm.swap y x s)
  · exact .refl _
theorem zPG (r:List α) (x: α) (s:List α):(vV lt r x s).length=r.length+1+s.length:=by rw[(zMT lt r x s).length_eq];simp;omega
theorem zIQ:∀(l p:List α),(uT lt l p).Perm (p++l)
 | [],p=>by simp[uT]
 | x::l,p=>by
  have h:=zIQ l (vV lt p.reverse x []);refine h.trans ?_;have h2:=zMT lt p.reverse x [];rw[List.reverse_reverse] at h2;have h3:=List.Perm.append_right l h2;simpa using h3
variable (tr:∀a b c,lt b a=false→lt c b=false→lt c a=false) (asy:∀a b,lt a b=true→lt b a=false)
abbrev LeB (a b: α):Prop:=lt b a=false
include tr asy
theorem zND:∀(r:List α) (x: α) (s:List α),(r.reverse++s).Pairwise (LeB lt)→(∀y∈s,LeB lt x y)→(vV lt r x s).Pairwise (LeB lt)
 | [],x,s,h,hx=>by simpa[vV] using ⟨hx,h⟩
 | y::r,x,s,h,hx=>by
  unfold vV;split;rename_i hlt;refine zND r x (y::s) (by simpa using h) ?_;intro z hz;rcases List.mem_cons.1 hz with rfl | hz
  exact asy _ _ hlt;exact hx z hz;rename_i hlt;have hyx:LeB lt y x:=by simpa using hlt
  rw[List.pairwise_append] at h ⊢;refine⟨h.1,List.pairwise_cons.2 ⟨hx,h.2.1⟩,?_⟩;intro a ha b hb;have hay:LeB lt a y∨a=y:=by
   have h1:=h.1;rw[List.reverse_cons,List.pairwise_append] at h1;rw[List.reverse_cons,List.mem_append] at ha;rcases ha with ha | ha
   exact .inl (h1.2.2 a ha y (by simp));exact .inr (by simpa using ha)
  rcases List.mem_cons.1 hb with rfl | hb;rcases hay with hay | rfl;exact tr _ _ _ hay hyx;exact hyx;exact h.2.2 a ha b hb
theorem zIR:∀(l p:List α),p.Pairwise (LeB lt)→(uT lt l p).Pairwise (LeB lt)
 | [],p,h=>h
 | x::l,p,h=>zIR l _ (zND lt tr asy p.reverse x [] (by simpa using h) (by simp))
omit tr asy in
theorem zVW:∀(l p:List α),(p++l).Pairwise (LeB lt)→uT lt l p=p++l
 | [],p,_=>by simp[uT]
 | x::l,p,h=>by
  have e:vV lt p.reverse x []=p++ [x]:=by
   cases hp:p.reverse with
   | nil=>
    have:p= []:=by simpa using hp
    subst this;rfl
   | cons y r=>
    unfold vV;have hp':p=r.reverse++ [y]:=by have:=congrArg List.reverse hp;simpa using this
    have:lt x y=false:=by
     rw[hp',List.pairwise_append] at h;exact h.2.2 y (by simp) x (by simp)
    rw[this];simp[hp']
  show uT lt l (vV lt p.reverse x [])=_;rw[e,zVW l (p++ [x]) (by simpa using h)];simp
end
def rlt (a b:Range):Bool:=decide (a.Lo<b.Lo) ||(decide (a.Lo=b.Lo)&&decide (a.Hi<b.Hi))
theorem yBQ (a b:Range):∃e,zAY a b=some e∧(e<0↔rlt a b=true):=by
 unfold zAY;simp only[z5U,zH,z7C];refine⟨_,rfl,?_⟩;unfold rlt;by_cases h1:a.Lo<b.Lo;simp[h1];by_cases h2:b.Lo<a.Lo;have:¬a.Lo=b.Lo:=by omega
 simp[h1,h2,this];have:a.Lo=b.Lo:=by omega
 by_cases h3:a.Hi<b.Hi;simp[this,h3];by_cases h4:b.Hi<a.Hi<;>simp[this,h3,h4]
theorem wQ {α:Type} {p s:List α} {x: α} {k:Nat} (h:k=p.length):kV (p++x::s) (k:Int)=some x:=by subst h;rw[yW (by simp)];simp
theorem zA3 {α:Type} {p s:List α} {x y: α} {k:Nat} (h:k=p.length):zBE (p++x::s) (k:Int) y=some (p++y::s):=by subst h;rw[zG2 (by simp)];simp
section
variable {f:Range→Range→Option Int} {lt:Range→Range→Bool} (hf:∀a b,∃e,f a b=some e∧(e<0↔lt a b=true))
include hf
theorem z7D:∀(r:List Range) (x:Range) (s:List Range),r.length≤30000→zX (fun (q:Int×List Range)=>kR 0 f q.1 q.2) ((r.length:Int),r.reverse++x::s)=some (vV lt r x s)
 | [],x,s,_=>by
  rw[j6];simp only[kR,List.length_nil,yE];have:decide ((0:Int)<((0:Nat):Int))=false:=rfl;rw[this];simp[zBC,vV]
 | y::r,x,s,hr=>by
  simp only[List.length_cons] at hr ⊢;have hd:decide ((0:Int)<((r.length+1:Nat):Int))=true:=by simp<;>omega
  have hl:(y::r).reverse++x::s=r.reverse++y::(x::s):=by simp
  have hw:wi (((r.length+1:Nat):Int)-1)=(r.length:Int):=zEJ (by omega);have i1:kV ((y::r).reverse++x::s) ((r.length+1:Nat):Int)=some x:=wQ (by simp);have i0:kV ((y::r).reverse++x::s) (r.length:Int)=some y:=by rw[hl];exact wQ (by simp)
  obtain⟨e,he,hp⟩:=hf x y;rw[j6];simp only[kR,hd,yE,wO,i1,hw,i0,zH,he,Bool.true_and];unfold vV;by_cases hx:lt x y=true;have hd2:decide (e<0)=true:=by simpa using hp.2 hx
  have s1:zBE ((y::r).reverse++x::s) ((r.length+1:Nat):Int) y=some ((y::r).reverse++y::s):=zA3 (by simp);have hl2:(y::r).reverse++y::s=r.reverse++y::(y::s):=by simp
  have i2:kV ((y::r).reverse++y::s) (r.length:Int)=some y:=by rw[hl2];exact wQ (by simp)
  have s2:zBE ((y::r).reverse++y::s) (r.length:Int) x=some (r.reverse++x::(y::s)):=by rw[hl2];exact zA3 (by simp)
  simp only[hd2,cond_true,s1,zH,i2,s2,hx,if_true];exact z7D r x (y::s) (by omega);have hd2:decide (e<0)=false:=by simp only[decide_eq_false_iff_not];exact fun h=>hx (hp.1 h)
  simp only[hd2,cond_false,hx];rfl
theorem z2Z:∀(l p:List Range),1≤p.length→p.length+l.length≤30000→zX (fun (q:Int×List Range)=>kD ((p.length+l.length:Nat):Int) 0 f q.1 q.2) ((p.length:Int),p++l)=some (uT lt l p)
 | [],p,_,_=>by
  rw[j6];simp only[kD,List.length_nil,Nat.add_zero,jM (Nat.le_refl _),cond_false,List.append_nil];rfl
 | x::l,p,h1,h2=>by
  simp only[List.length_cons] at h2 ⊢;have hin:=z7D hf p.reverse x l (by simp;omega)
  rw[List.length_reverse,List.reverse_reverse] at hin;rw[j6];simp only[kD,k6 (show p.length<p.length+(l.length+1) by omega),cond_true];rw[hin,zH];have e1:vV lt p.reverse x l=vV lt p.reverse x []++l:=by
   have:=zVV lt p.reverse x [] l;simpa using this
  have hlen:(vV lt p.reverse x []).length=p.length+1:=by rw[zPG];simp
  have ih:=z2Z l (vV lt p.reverse x []) (by omega) (by omega);rw[hlen] at ih;have e3:((p.length+1+l.length:Nat):Int)=((p.length+(l.length+1):Nat):Int):=by congr 1;omega
  rw[e3] at ih;rw[e1,yB (by omega)];exact ih
theorem z5W (l:List Range) (h:l.length≤30000):jN l 0 (l.length:Int) f=some (uT lt l []):=by
 unfold jN;have hw:wi (0+1)=((1:Nat):Int):=wN (by omega) (by omega);rw[hw];cases l with
 | nil=>
  rw[j6];simp only[kD,jM (show ([]:List Range).length≤1 by simp),cond_false];rfl
 | cons x l=>
  have:=z2Z hf l [x] (by simp) (by simp at h ⊢;omega)
  have e:((([x]:List Range).length+l.length:Nat):Int)=((x::l).length:Int):=by simp;omega
  rw[e] at this;have e2:(([x]:List Range).length:Int)=((1:Nat):Int):=rfl;rw[e2] at this;rw[show ([x]++l:List Range)=x::l from rfl] at this;rw[this];rfl
end
theorem z5X:∀n:Fin 13,∃e,zDO (wu ((n.val:Nat):Int))=some e:=by
 intro n;have:∀n:Fin 13,(zDO (wu ((n.val:Nat):Int))).isSome=true:=by decide
 exact Option.isSome_iff_exists.1 (this n)
theorem z5Y {l:List Range} (h:l.length≤12):jP l (fun a b=>zAY a b)=some (uT rlt l []):=by
 unfold jP xM;obtain⟨e,he⟩:=z5X ⟨l.length,by omega⟩;rw[he,zH];have hb:jG (l.length:Int) 0 l (fun a b=>zAY a b) e=some (.done (uT rlt l [])):=by
  unfold jG;have hw:wi ((l.length:Int)-0)=(l.length:Int):=wN (by omega) (by omega);have hd:decide ((l.length:Int)≤12)=true:=by simp;omega
  rw[hw,hd,cond_true,z5W (lt:=rlt) yBQ l (by omega)];rfl
 rw[yI (body:=fun (_:Unit)=>jG (l.length:Int) 0 l (fun a b=>zAY a b) e) hb];rfl
theorem z8V (a b c:Range) (h1:rlt b a=false) (h2:rlt c b=false):rlt c a=false:=by unfold rlt at*;simp only[Bool.or_eq_false_iff,Bool.and_eq_false_iff,decide_eq_false_iff_not] at*;omega
theorem z5Z (a b:Range) (h1:rlt a b=true):rlt b a=false:=by unfold rlt at*;simp only[Bool.or_eq_false_iff,Bool.and_eq_false_iff,decide_eq_false_iff_not,Bool.or_eq_true,Bool.and_eq_true,decide_eq_true_eq] at*;omega
end Go.M
namespace Go.M
open Go.AV
def zB7 (r:Range):Prop:=0≤r.Lo∧r.Lo≤r.Hi∧r.Hi≤1114111
def Can:List Range→Prop
 | []=>True
 | [r]=>zB7 r
 | r::q::l=>zB7 r∧r.Hi+1<q.Lo∧Can (q::l)
theorem Can.head {r:Range} {l:List Range} (h:Can (r::l)):zB7 r:=by
 cases l with
 | nil=>exact h
 | cons q l=>exact h.1
theorem Can.tail {r:Range} {l:List Range} (h:Can (r::l)):Can l:=by
 cases l with
 | nil=>trivial
 | cons q l=>exact h.2.2
theorem Can.ok:∀{l:List Range},Can l→∀r∈l,zB7 r
 | [],_,r,hr=>by cases hr
 | q::l,h,r,hr=>by
  rcases List.mem_cons.1 hr with rfl | hr;exact h.head;exact Can.ok h.tail r hr
theorem Can.gap:∀{l:List Range} {r:Range},Can (r::l)→∀q∈l,r.Hi+1<q.Lo
 | [],_,_,q,hq=>by cases hq
 | a::l,r,h,q,hq=>by
  rcases List.mem_cons.1 hq with rfl | hq;exact h.2.1;have h1:=Can.gap h.2.2 q hq;have h2:=(h.2.2.head);have h3:=h.2.1;unfold zB7 at h2;omega
theorem Can.sorted:∀{l:List Range},Can l→l.Pairwise (LeB rlt)
 | [],_=> .nil
 | r::l,h=>by
  refine List.pairwise_cons.2 ⟨fun q hq=>?_,Can.sorted h.tail⟩;have h1:=Can.gap h q hq;have h2:=h.head;unfold zB7 at h2;unfold LeB rlt;simp only[Bool.or_eq_false_iff,Bool.and_eq_false_iff,decide_eq_false_iff_not];omega
def zTC (r:Range):Range:={Lo:=max r.Lo 0,Hi:=min r.Hi 1114111}
def zD6 (l:List Range):List Range:=(l.map zTC).filter fun r=>decide (r.Lo≤r.Hi)
theorem zPH (x:Range) (l:List Range):zD6 (x::l)=(if (zTC x).Lo≤(zTC x).Hi then [zTC x] else [])++zD6 l:=by unfold zD6;rw[List.map_cons,List.filter_cons];by_cases h:(zTC x).Lo≤(zTC x).Hi<;>simp[h]
theorem zVX (x:Range) (l:List Range):zD6 (x::l)=(if max x.Lo 0≤min x.Hi 1114111 then [({Lo:=max x.Lo 0,Hi:=min x.Hi 1114111}:Range)] else [])++zD6 l:=zPH x l
theorem zVY (l:List Range):∀r∈zD6 l,zB7 r:=by intro r hr;unfold zD6 at hr;rw[List.mem_filter,List.mem_map] at hr;obtain⟨⟨q,_,rfl⟩,h⟩:=hr;simp only[decide_eq_true_eq] at h;unfold zTC at h ⊢;unfold zB7;simp only at h ⊢;omega
theorem z21 {l:List Range} (h:∀r∈l,zB7 r):zD6 l=l:=by
 induction l with
 | nil=>rfl
 | cons x l ih=>
  have hx:=h x (by simp);have:zTC x=x:=by
   unfold zB7 at hx;unfold zTC;cases x;simp only[Range.mk.injEq] at hx ⊢;omega
  rw[zPH,this,if_pos hx.2.1,ih fun r hr=>h r (by simp[hr])];rfl
theorem zRU (l:List Range):(zD6 l).length≤l.length:=by unfold zD6;exact Nat.le_trans (List.length_filter_le _ _) (by simp)
theorem yBR {l:List Range} (hl:l.length≤30000):∀(n k:Nat) (o:List Range),l.length-k=n→k≤l.length→o.length≤k→zX (fun (x:Int×(List Range))=>zA8 l x.1 x.2) ((k:Int),o)=some (o++zD6 (l.drop k)):=by
 intro n
 induction n with
 | zero=>
  intro k o h1 h2 h3;rw[j6];simp only[zA8,jM (show l.length≤k by omega),cond_false];rw[List.drop_of_length_le (by omega)];simp[zD6]
 | succ n ih=>
  intro k o h1 h2 h3;have hlt:k<l.length:=by omega
  rw[j6];simp only[zA8,k6 hlt,cond_true,yW hlt,zH,yB (k:=k) (by omega)];rw[List.drop_eq_getElem_cons hlt,zVX];by_cases hc:max l[k].Lo 0≤min l[k].Hi 1114111;simp only[hc,decide_true,cond_true,if_true];rw[zAO (by simp;omega)]
  simp only[zH];have:=ih (k+1) (o++ [({Lo:=max l[k].Lo 0,Hi:=min l[k].Hi 1114111}:Range)]) (by omega) (by omega) (by simp;omega)
  rw[List.append_assoc] at this;exact this;simp only[hc,decide_false,cond_false,if_false,zH,List.nil_append];exact ih (k+1) o (by omega) (by omega) (by omega)
def mrg:List Range→Range→List Range
 | [],r=>[r]
 | q::l,r=>if r.Lo≤q.Hi+1 then {q with Hi:=max q.Hi r.Hi}::l else r::q::l
theorem zIB (q:Range) (l:List Range) (r:Range):mrg (q::l) r=if r.Lo≤q.Hi+1 then {q with Hi:=max q.Hi r.Hi}::l else r::q::l:=rfl
theorem z50 (o:List Range) (r:Range):(mrg o r).length≤o.length+1:=by
 cases o with
 | nil=>simp[mrg]
 | cons q l=>rw[zIB];split<;>simp
theorem z8W {o:List Range} {r:Range} (h:∀q∈o,zB7 q) (hr:zB7 r):∀q∈mrg o r,zB7 q:=by
 cases o with
 | nil=>simpa[mrg] using hr
 | cons q l=>
  intro x hx;have hq:=h q (by simp);unfold zB7 at hq hr;rw[zIB] at hx;split at hx;rcases List.mem_cons.1 hx with rfl | hx
  unfold zB7;simp only;omega;exact h x (by simp[hx]);rcases List.mem_cons.1 hx with rfl | hx
  exact hr;exact h x hx
theorem yBS {t:List Range} (ht:t.length≤30000) (hok:∀r∈t,zB7 r):∀(n k:Nat) (o:List Range),t.length-k=n→k≤t.length→o.length≤k→(∀r∈o,zB7 r)→zX (fun (x:Int×(List Range))=>zA9 t x.1 x.2) ((k:Int),o.reverse)=some ((t.drop k).foldl mrg o).reverse:=by
 intro n
 induction n with
 | zero=>
  intro k o h1 h2 h3 h4;rw[j6];simp only[zA9,jM (show t.length≤k by omega),cond_false];rw[List.drop_of_length_le (by omega)];rfl
 | succ n ih=>
  intro k o h1 h2 h3 h4;have hlt:k<t.length:=by omega
  have hr:=hok _ (List.getElem_mem hlt);rw[List.drop_eq_getElem_cons hlt,List.foldl_cons];rw[←ih (k+1) (mrg o t[k]) (by omega) (by omega) (by have:=z50 o t[k];omega) (z8W h4 hr)]
  rw[j6];simp only[zA9,k6 hlt,cond_true,yW hlt,zH,yE,yB (k:=k) (by omega)];cases o with
  | nil=>
   have e0:decide ((0:Int)<((([]:List Range).reverse).length:Int))=false:=rfl;simp only[e0,zBC,zH,Bool.false_and,cond_false];rw[zAO (by simp)];rfl
  | cons q l=>
   have hq:=h4 q (by simp);unfold zB7 at hq;have hlen:((q::l).reverse).length=l.length+1:=by simp
   simp only[List.length_cons] at h3;have e0:decide ((0:Int)<(((q::l).reverse).length:Int))=true:=by rw[hlen];simp<;>omega
   have e1:wi ((((q::l).reverse).length:Int)-1)=(l.length:Int):=by rw[hlen];exact zEJ (by omega)
   have e2:(q::l).reverse=l.reverse++q:: []:=by simp
   have i1:kV (q::l).reverse (l.length:Int)=some q:=by rw[e2];exact wQ (by simp)
   have e3:wi (q.Hi+1)=q.Hi+1:=wN (by omega) (by omega);simp only[e0,e1,i1,wO,zH,Bool.true_and,e3];rw[zIB];by_cases hc:t[k].Lo≤q.Hi+1;simp only[hc,decide_true,cond_true,if_true];have s1:zBE (q::l).reverse (l.length:Int) ({q with Hi:=max q.Hi t[k].Hi})=some (({q with Hi:=max q.Hi t[k].Hi}::l).reverse):=by
    rw[e2,zA3 (by simp)];simp
   rw[s1];rfl;simp only[hc,decide_false,cond_false,if_false];rw[zAO (by simp;omega)]
   simp only[zH];congr 2;simp
def mkE (l:List Range):List Range:=((uT rlt (zD6 l) []).foldl mrg []).reverse
theorem z52 {l:List Range} (hl:l.length≤12):zGT l=some {Ranges:=mkE l}:=by
 unfold zGT;have h0:=yBR (l:=l) (by omega) l.length 0 [] (by omega) (by omega) (by simp);simp only[List.drop_zero,List.nil_append] at h0;have h0':zX (fun (x:Int×(List Range))=>zA8 l x.1 x.2) (0,[])=some (zD6 l):=h0;rw[h0',zH,z5Y (Nat.le_trans (zRU l) hl),zH];have hp:=zIQ rlt (zD6 l) [];simp only[List.nil_append] at hp;have h1:=yBS (t:=uT rlt (zD6 l) []) (by rw[hp.length_eq];have:=zRU l;omega) (fun r hr=>zVY l r (hp.mem_iff.1 hr)) (uT rlt (zD6 l) []).length 0 [] (by omega) (by omega) (by simp) (by simp)
 simp only[List.drop_zero] at h1;have h1':zX (fun (x:Int×(List Range))=>zA9 (uT rlt (zD6 l) []) x.1 x.2) (0,[])=some (mkE l):=h1;rw[h1'];rfl
def CanR:List Range→Prop
 | []=>True
 | [r]=>zB7 r
 | r::q::l=>zB7 r∧q.Hi+1<r.Lo∧CanR (q::l)
theorem CanR.tail {r:Range} {l:List Range} (h:CanR (r::l)):CanR l:=by
 cases l with
 | nil=>trivial
 | cons q l=>exact h.2.2
theorem CanR.head {r:Range} {l:List Range} (h:CanR (r::l)):zB7 r:=by
 cases l with
 | nil=>exact h
 | cons q l=>exact h.1
theorem zTD:∀(r l:List Range),CanR r→Can l→(∀x y,r.head? =some x→l.head? =some y→x.Hi+1<y.Lo)→Can (r.reverse++l)
 | [],l,_,h,_=>h
 | x::r,l,hr,hl,hc=>by
  have:=zTD r (x::l) hr.tail (by
   cases l with
   | nil=>exact hr.head
   | cons y l=>exact⟨hr.head,hc x y rfl rfl,hl⟩) (fun a b ha hb=>by
    cases r with
    | nil=>cases ha
    | cons q r=>simp only[List.head?_cons,Option.some.injEq] at ha hb;subst ha;subst hb;exact hr.2.1)
  simpa using this
theorem zYG:∀(t o:List Range),t.Pairwise (LeB rlt)→(∀r∈t,zB7 r)→CanR o→(∀q r,o.head? =some q→r∈t→q.Lo≤r.Lo)→CanR (t.foldl mrg o)
 | [],o,_,_,h,_=>h
 | r::t,o,hs,hok,ho,hlo=>by
  have hs':=List.pairwise_cons.1 hs;have hr:=hok r (by simp);have hrt:∀x∈t,r.Lo≤x.Lo:=fun x hx=>by
   have:=hs'.1 x hx;unfold LeB rlt at this;simp only[Bool.or_eq_false_iff,decide_eq_false_iff_not] at this;omega
  rw[List.foldl_cons];refine zYG t (mrg o r) hs'.2 (fun x hx=>hok x (by simp[hx])) ?_ ?_;cases o with
  | nil=>exact hr
  | cons q l=>
   have hq:=ho.head;have hql:=hlo q r rfl (by simp);rw[zIB];split;rename_i hc;unfold zB7 at hq hr;cases l with
   | nil=>show zB7 _;unfold zB7;simp only;omega
   | cons z l=>exact⟨by unfold zB7;simp only;omega,ho.2.1,ho.2.2⟩
   rename_i hc;exact⟨hr,by omega,ho⟩
  intro q' x hq' hx;cases o with
  | nil=>simp only[mrg,List.head?_cons,Option.some.injEq] at hq';subst hq';exact hrt x hx
  | cons q l=>
   rw[zIB] at hq';split at hq';simp only[List.head?_cons,Option.some.injEq] at hq';subst hq';exact hlo q x rfl (by simp[hx]);simp only[List.head?_cons,Option.some.injEq] at hq';subst hq';exact hrt x hx
theorem z54 (l:List Range):Can (mkE l):=by have hp:=zIQ rlt (zD6 l) [];simp only[List.nil_append] at hp;have h:=zYG (uT rlt (zD6 l) []) [] (zIR rlt z8V z5Z _ _ .nil) (fun r hr=>zVY l r (hp.mem_iff.1 hr)) trivial (fun _ _ h=>by cases h);have:=zTD _ [] h trivial (fun _ _ _ h=>by cases h);simpa[mkE] using this
theorem z22:∀(t o:List Range),Can (o.reverse++t)→t.foldl mrg o=t.reverse++o
 | [],o,_=>by simp
 | r::t,o,h=>by
  rw[List.foldl_cons];have e:mrg o r=r::o:=by
   cases o with
   | nil=>rfl
   | cons q l=>
    rw[zIB];have:Can (q::r::t):=by
     have h':Can (l.reverse++(q::r::t)):=by simpa using h
     clear h;generalize l.reverse=z at h'
     induction z with
     | nil=>exact h'
     | cons a z ih=>exact ih h'.tail
    have:=this.2.1;rw[if_neg (by omega)]
  rw[e,z22 t (r::o) (by simpa using h)];simp
theorem z8X {l:List Range} (h:Can l):mkE l=l:=by unfold mkE;rw[z21 h.ok,zVW rlt l [] (by simpa using h.sorted)];simp only[List.nil_append];rw[z22 l [] (by simpa using h)];simp
theorem z55 (l:List Range):mkE l=l↔Can l:=⟨fun h=>h▸z54 l,z8X⟩
theorem z23 {s:Set} (hl:s.Ranges.length≤12):∃b,zFI s=some b∧(b=true↔Can s.Ranges):=by
 unfold zFI;rw[z52 hl,zH,←z55];by_cases hlen:(mkE s.Ranges).length=s.Ranges.length;have e0:(!decide (((mkE s.Ranges).length:Int)=(s.Ranges.length:Int)))=false:=by simp[hlen]
 simp only[e0,cond_false];have h:=jD (body:=fun (x:Int)=>zBV {Ranges:=mkE s.Ranges} s x) (mkE s.Ranges).length (fun k=>nth (mkE s.Ranges) k=nth s.Ranges k) (fun y=>y=false) (fun k hk=>by
  have hk2:k<s.Ranges.length:=by omega
  simp only[zBV,k6 hk,cond_true,yR hk,yR hk2,zH,yB (k:=k) (by omega)];exact wP (by simp) rfl) (fun k hk=>by simp only[zBV,jM hk,cond_false])
 have e:(∀j,j<(mkE s.Ranges).length→nth (mkE s.Ranges) j=nth s.Ranges j)↔mkE s.Ranges=s.Ranges:=by
  constructor;intro h;refine List.ext_getElem hlen fun j h1 h2=>?_;have:=h j h1
  rwa [vU h1,vU h2] at this
  intro h j _;rw[h]
 rw[e] at h;rcases h with ⟨h,p⟩ | ⟨y,rfl,h,p⟩
 rw[h];exact⟨true,rfl,by simp[p]⟩;rw[h];exact⟨false,rfl,by simp[p]⟩;have e0:(!decide (((mkE s.Ranges).length:Int)=(s.Ranges.length:Int)))=true:=by simp;omega
 simp only[e0,cond_true];exact⟨false,rfl,by simp only[Bool.false_eq_true,false_iff];exact fun h=>hlen (by rw[h])⟩
end Go.M
namespace Go.M
open Go.AV
def hkE (c:Int):Int:=if 4352≤c∧c<4371 then 1 else if 4449≤c∧c<4470 then 2 else if 4520≤c∧c<4547 then 3 else if c<44032∨55204≤c then 0 else if (c-44032)%28=0 then 4 else 5
theorem zJ0 (c:Int):zC3 c=some (hkE c):=by
 unfold zC3 hkE;simp only[yE];by_cases h1:4352≤c∧c<4371;simp[h1];by_cases h2:4449≤c∧c<4470;have:¬c<4371:=by omega
 simp[h2,this];by_cases h3:4520≤c∧c<4547;have a1:¬c<4371:=by omega
 have a2:¬c<4470:=by omega
 simp[h3,a1,a2];have e1:(decide (4352≤c)&&decide (c<4371))=false:=by simp only[Bool.and_eq_false_iff,decide_eq_false_iff_not];omega
 have e2:(decide (4449≤c)&&decide (c<4470))=false:=by simp only[Bool.and_eq_false_iff,decide_eq_false_iff_not];omega
 have e3:(decide (4520≤c)&&decide (c<4547))=false:=by simp only[Bool.and_eq_false_iff,decide_eq_false_iff_not];omega
 simp only[e1,e2,e3,cond_false,h1,h2,h3,if_false];by_cases h4:c<44032∨55204≤c;have e4:(decide (c<44032) ||decide (55204≤c))=true:=by simpa using h4
 simp only[e4,cond_true,h4,if_true];have e4:(decide (c<44032) ||decide (55204≤c))=false:=by simp only[Bool.or_eq_false_iff,decide_eq_false_iff_not];omega
 simp only[e4,cond_false,h4,if_false];rw[wN (by omega) (by omega)];unfold zI3;rw[if_neg (by omega),zH];have:(c-44032).tmod 28=(c-44032)%28:=Int.tmod_eq_emod_of_nonneg (by omega);rw[this];by_cases h5:(c-44032)%28=0<;>simp[h5]
def syl (c:Int):Bool:=decide (44032≤c)&&decide (c≤55203)
theorem zF7 (c:Int):syl c=true↔4≤hkE c:=by
 unfold syl hkE;simp only[Bool.and_eq_true,decide_eq_true_eq]
 repeat' split
 all_goals omega
def hdE (c:Int):List Int:=if syl c=true then [4352+(c-44032)/28/21,4449+(c-44032)/28%21]++(if 0<(c-44032)%28 then [4520+(c-44032)%28-1] else []) else [c]
theorem zPI {c e:Int} (hc:syl c=true) (he:e∈hdE c):syl e=false∧hkE e≠0:=by
 unfold hdE at he;rw[if_pos hc] at he;unfold syl at hc;simp only[Bool.and_eq_true,decide_eq_true_eq] at hc;have key:(4352≤e∧e<4371)∨(4449≤e∧e<4470)∨(4520≤e∧e<4547):=by
  simp only[List.mem_append,List.mem_cons,List.not_mem_nil,or_false] at he;rcases he with (rfl | rfl) | he
  left;omega;right;left;omega;split at he;simp only[List.mem_singleton] at he;right;right;omega;simp at he
 constructor;unfold syl;simp only[Bool.and_eq_false_iff,decide_eq_false_iff_not];omega;unfold hkE;rcases key with h | h | h
 rw[if_pos h];decide;rw[if_neg (by omega),if_pos h];decide;rw[if_neg (by omega),if_neg (by omega),if_pos h];decide
theorem zKY (c:Int):(hdE c).length≤3∧1≤(hdE c).length:=by unfold hdE;split;split<;>simp;simp
theorem zYH {c:Int} (hc:syl c=true):zBW c=some (hdE c):=by
 have hk:=(zF7 c).1 hc;have hc':=hc;unfold syl at hc';simp only[Bool.and_eq_true,decide_eq_true_eq] at hc';unfold zBW zF4;rw[zJ0,zH];have e1:decide (hkE c<4)=false:=by simp;omega
 simp only[e1,cond_false];rw[wN (n:=c-44032) (by omega) (by omega)];generalize hn:c-44032=n;have hn0:0≤n∧n<11172:=by omega
 have d1:n.tdiv 28=n/28:=Int.tdiv_eq_ediv_of_nonneg (by omega);have d2:(n/28).tdiv 21=n/28/21:=Int.tdiv_eq_ediv_of_nonneg (by omega);have m1:n.tmod 28=n%28:=Int.tmod_eq_emod_of_nonneg (by omega);have m2:(n/28).tmod 21=n/28%21:=Int.tmod_eq_emod_of_nonneg (by omega);simp only[zME,zI3,show ((28:Int)=0)=False by simp,show ((21:Int)=0)=False by simp,if_false,zH,d1,m1];rw[wN (n:=n/28) (by omega) (by omega)];simp only[d2,m2];rw[wN (n:=n/28/21) (by omega) (by omega),wN (n:=4352+n/28/21) (by omega) (by omega),wN (n:=4449+n/28%21) (by omega) (by omega),wN (n:=4520+n%28) (by omega) (by omega),wN (n:=4520+n%28-1) (by omega) (by omega)];unfold hdE;rw[if_pos hc,hn];by_cases h0:0<n%28;simp only[h0,decide_true,cond_true,zH,if_true];have a1:decide (({x0:=4352+n/28/21,x1:=4449+n/28%21,x2:=4520+n%28-1}:A3Int)= {x0:=0,x1:=0,x2:=0})=false:=by simp;omega
 have a2:decide ((4520+n%28-1:Int)=0)=false:=by simp;omega
 simp only[a1,a2,cond_false];rfl;simp only[h0,decide_false,cond_false,zH,if_false];have a1:decide (({x0:=4352+n/28/21,x1:=4449+n/28%21,x2:=0}:A3Int)= {x0:=0,x1:=0,x2:=0})=false:=by simp;omega
 simp only[a1,cond_false,decide_true,cond_true];rfl
theorem zMU {lo hi:Nat} (h:lo+hi≤4611686018427387903):wi ((wu (wi ((lo:Int)+(hi:Int))))/2 ^ 1)=(((lo+hi)/2:Nat):Int):=by rw[wN (n:=(lo:Int)+hi) (by omega) (by omega)];have:wu ((lo:Int)+(hi:Int))=(lo:Int)+hi:=IntWalk.u64_in _ (by omega);rw[this,wN (by omega) (by omega)];omega
theorem zYI {n:Nat} (hn:n≤30000) {body:Int×Int→Option (Stp (Int×Int) Int)} (q:Nat→Bool)
  (hend:∀k:Nat,k≤n→body ((k:Int),(k:Int))=some (.done (k:Int)))
  (hstep:∀lo hi:Nat,lo<hi→hi≤n→body ((lo:Int),(hi:Int))=some (.next (if q ((lo+hi)/2) then ((lo:Int),(((lo+hi)/2:Nat):Int)) else ((((lo+hi)/2+1:Nat):Int),(hi:Int)))))
  (mono:∀i j,i≤j→j<n→q i=true→q j=true):
  ∃j,j≤n∧zX body (0,(n:Int))=some (j:Int)∧(∀k,k<j→q k=false)∧(∀k,j≤k→k<n→q k=true):=by
 have key:∀(d lo hi:Nat),hi-lo≤d→lo≤hi→hi≤n→(∀k,k<lo→q k=false)→(∀k,hi≤k→k<n→q k=true)→
   ∃j,j≤n∧zX body ((lo:Int),(hi:Int))=some (j:Int)∧(∀k,k<j→q k=false)∧(∀k,j≤k→k<n→q k=true):=by
  intro d
  induction d with
  | zero=>
   intro lo hi h1 h2 h3 h4 h5;have:lo=hi:=by omega
   subst this;exact⟨lo,h3,yI (hend lo h3),h4,h5⟩
  | succ d ih=>
   intro lo hi h1 h2 h3 h4 h5;by_cases e:lo=hi
   ·subst e
    exact⟨lo,h3,yI (hend lo h3),h4,h5⟩
   ·have hlt:lo<hi:=by omega
    have hmid:(lo+hi)/2<n:=by omega
    rw[yQ (hstep lo hi hlt h3)];cases hq:q ((lo+hi)/2) with
    | true=>
     rw[if_pos rfl];exact ih lo ((lo+hi)/2) (by omega) (by omega) (by omega) h4 (fun k hk hkn=>mono _ _ hk hkn hq)
    | false=>
     rw[if_neg (by simp)];refine ih ((lo+hi)/2+1) hi (by omega) (by omega) h3 ?_ h5;intro k hk;cases hqk:q k with
     | false=>rfl
     | true=>
      have:=mono k ((lo+hi)/2) (by omega) hmid hqk;rw[hq] at this;cases this
 exact key n 0 n (by omega) (by omega) (by omega) (by intro k hk;omega) (by intro k hk hkn;omega)
theorem zLZ {α:Type} [Inhabited α] {l:List α} {p: α→Bool} {i:Nat} (hi:i<l.length) (h:∀j,j<i→p (nth l j)=false) (hp:p (nth l i)=true):l.find? p=some (nth l i):=by rw[List.find?_eq_some_iff_getElem];refine⟨hp,i,hi,(vU hi).symm,fun j hj=>?_⟩;have:=h j hj;rw[vU (by omega)] at this;simp[this]
theorem zTE {α:Type} [Inhabited α] {l:List α} {p: α→Bool} (h:∀j,j<l.length→p (nth l j)=false):l.find? p=none:=by rw[List.find?_eq_none];intro x hx;obtain⟨k,hk,rfl⟩:=List.getElem_of_mem hx;have:=h k hk;rw[vU hk] at this;simp[this]
def zPJ (c:Int) (s:Span):Bool:=decide (s.Lo≤c)&&decide (c≤s.Hi)
def clE (l:List Span) (c:Int):Int:=match l.find? (zPJ c) with
 | some s=>s.Value
 | none=>0
theorem CV.mono {l:List Span} (h:CV l):∀(d i:Nat),i+d+1<l.length→(nth l i).Hi<(nth l (i+d+1)).Lo
 | 0,i,hi=>(h.ad i hi).1
 | d+1,i,hi=>by
  have h1:=CV.mono h d i (by omega);have h2:=h.sp (i+d+1) (by omega);have h3:=(h.ad (i+d+1) (by omega)).1;unfold spOk at h2;have:i+(d+1)+1=i+d+1+1:=by omega
  rw[this];omega
theorem CV.lt {l:List Span} (h:CV l) {i j:Nat} (hij:i<j) (hj:j<l.length):(nth l i).Hi<(nth l j).Lo:=by
 have:=CV.mono h (j-i-1) i (by omega)
 rwa [show i+(j-i-1)+1=j by omega] at this
theorem CV.hi {l:List Span} (h:CV l) {i j:Nat} (hij:i≤j) (hj:j<l.length):(nth l i).Hi≤(nth l j).Hi:=by rcases Nat.lt_or_eq_of_le hij with h1 | rfl;have:=h.lt h1 hj;have h2:=h.sp j hj;unfold spOk at h2;omega;exact Int.le_refl _
theorem yAK {l:List Span} (h:CV l) {c:Int} {i:Nat} (hi:i≤l.length) (hl:∀j,j<i→(nth l j).Hi<c) (hr:∀j,i≤j→j<l.length→c≤(nth l j).Hi):
  clE l c=if i<l.length∧(nth l i).Lo≤c then (nth l i).Value else 0:=by
 unfold clE;by_cases hc:i<l.length∧(nth l i).Lo≤c
 ·have hf:=zLZ (p:=zPJ c) hc.1 (fun j hj=>by
   unfold zPJ;have:=hl j hj;simp only[Bool.and_eq_false_iff,decide_eq_false_iff_not];omega) (by
   unfold zPJ;simp only[Bool.and_eq_true,decide_eq_true_eq];exact⟨hc.2,hr i (Nat.le_refl _) hc.1⟩)
  rw[if_pos hc,hf]
 ·have hf:=zTE (l:=l) (p:=zPJ c) (fun j hj=>by
   unfold zPJ;simp only[Bool.and_eq_false_iff,decide_eq_false_iff_not];by_cases hji:j<i
   ·have:=hl j hji;omega
   ·by_cases e:j=i
    ·subst e;left;exact fun hh=>hc ⟨hj,hh⟩
    ·have h1:=h.lt (show i<j by omega) hj
     have h2:=hr i (Nat.le_refl _) (by omega);left;omega)
  rw[if_neg hc,hf]
theorem zG3 {l:List Span} (h:CV l) (hl:l.length≤30000) (c:Int):jO l c=some (clE l c):=by
 obtain⟨j,hj,hr,hlo,hhi⟩:=zYI (n:=l.length) hl (body:=fun (x:Int×Int)=>yY l (fun x0 x1=>uY x0 x1) c x.1 x.2) (fun k=>decide (c≤(nth l k).Hi))
  (fun k _=>by simp only[yY,jM (Nat.le_refl _),cond_false])
  (fun lo hi h1 h2=>by
   have hm:(lo+hi)/2<l.length:=by omega
   simp only[yY,k6 h1,cond_true,zMU (show lo+hi≤4611686018427387903 by omega),yR hm,zH,uY,yB (k:=(lo+hi)/2) (by omega)];by_cases hc:(nth l ((lo+hi)/2)).Hi<c;have:¬c≤(nth l ((lo+hi)/2)).Hi:=by omega
   simp[hc,this];have:c≤(nth l ((lo+hi)/2)).Hi:=by omega
   by_cases hc2:c<(nth l ((lo+hi)/2)).Lo<;>simp[hc,hc2,this])
  (fun i j hij hj hi=>by
   have:=h.hi hij hj;simp only[decide_eq_true_eq] at hi ⊢;omega)
 simp only[decide_eq_false_iff_not,decide_eq_true_eq] at hlo hhi;unfold jO jL;rw[hr,yAK h hj (fun k hk=>by have:=hlo k hk;omega) hhi]
 simp only[zH,yE];by_cases hn:j<l.length;have h2:=hhi j (Nat.le_refl _) hn;simp only[k6 hn,wO,yR hn,zH,uY,Bool.true_and,hn,true_and];have e1:decide ((nth l j).Hi<c)=false:=by simp;omega
 simp only[e1,cond_false];by_cases hc2:c<(nth l j).Lo;have:¬(nth l j).Lo≤c:=by omega
 simp[hc2,this];have:(nth l j).Lo≤c:=by omega
 simp[hc2,this,yR hn];simp only[jM (show l.length≤j by omega),zBC,zH,Bool.false_and,Bool.not_false,cond_true,hn,false_and,if_false]
theorem zRV {l:List Span} (hl:l.length≤30000) (hok:∀x∈l,okSpan x) (h:CV l):zAR l=some l:=by obtain⟨e,he,hp⟩:=zVU hl hok;unfold zAR;rw[he,zH,hp.2 h];rfl
end Go.M
namespace Go.M
open Go.AV
theorem zVZ {α:Type} {l r:List α} {x: α} {k:Nat} (h:l.drop k=x::r):l[k]? =some x∧l.drop (k+1)=r∧k+1≤l.length:=by
 have hk:k<l.length:=by
  rcases Nat.lt_or_ge k l.length with h1 | h1;exact h1;rw[List.drop_of_length_le h1] at h;cases h
 rw[List.drop_eq_getElem_cons hk] at h;injection h with h1 h2;exact⟨by rw[List.getElem?_eq_getElem hk,h1],h2,hk⟩
theorem z7E {α:Type} [DecidableEq α] {items:List α} {k:Nat} {x: α} (h:items[k]? =some x):yM items k x=some ():=by unfold yM;rw[if_pos h]
theorem zYJ {α:Type} {items:List α} {k:Nat} (h:items.drop k= []) (hk:k≤items.length):zXF items k=some ():=by unfold zXF;rw[if_pos];have:=congrArg List.length h;simp at this;omega
section
variable {l:List Span} (h:CV l) (hl:l.length≤30000) {text:List Int} (ht:text.length≤30000) {st:Int→Bool} (hst:∀c,st c=decide (clE l c=0)) {items:List Range}
include h hl ht hst
theorem z0K:∀(n i:Nat) (s:Int) (k:Nat),text.length-i=n→i≤text.length→items.drop k=xJ st (text.drop i) (i:Int) s→k≤items.length→
  ∃s' k',zX (fun (x:Int×Int×Nat)=>jH text l items x.1 x.2.1 x.2.2) (s,(i:Int),k)=some (.inl (s',k'))∧items.drop k'=xJ st [] (text.length:Int) s'∧k'≤items.length:=by
 intro n
 induction n with
 | zero=>
  intro i s k h1 h2 h3 h4;have:i=text.length:=by omega
  subst this;refine⟨s,k,?_,by rw[h3,List.drop_length],h4⟩;rw[j6];simp only[jH,jM (Nat.le_refl _),cond_false]
 | succ n ih=>
  intro i s k h1 h2 h3 h4;have hi:i<text.length:=by omega
  rw[List.drop_eq_getElem_cons hi] at h3;simp only[xJ] at h3;have hs:=hst text[i];have ec:((i:Int)+1)=((i+1:Nat):Int):=by omega
  rw[ec] at h3;have step:∀s' k',jH text l items s (i:Int) k=some (.next (s',((i+1:Nat):Int),k'))→items.drop k'=xJ st (text.drop (i+1)) ((i+1:Nat):Int) s'→k'≤items.length→
    ∃s' k',zX (fun (x:Int×Int×Nat)=>jH text l items x.1 x.2.1 x.2.2) (s,(i:Int),k)=some (.inl (s',k'))∧items.drop k'=xJ st [] (text.length:Int) s'∧k'≤items.length:=by
   intro s' k' hb g2 g3;rw[yQ (body:=fun (x:Int×Int×Nat)=>jH text l items x.1 x.2.1 x.2.2) (x:=(s,(i:Int),k)) hb];exact ih (i+1) s' k' (by omega) (by omega) g2 g3
  by_cases hc:clE l text[i]=0
  ·rw[hs] at h3
   simp only[hc,decide_true,Bool.not_true,Bool.false_and,Bool.false_eq_true,if_false,Bool.true_and] at h3;by_cases h0:0≤s
   ·simp only[h0,decide_true,if_true] at h3
    obtain⟨g1,g2,g3⟩:=zVZ h3;refine step (-1) (k+1) ?_ g2 g3;simp only[jH,k6 hi,cond_true,yW hi,zH,zG3 h hl,yE,yB (k:=i) (by omega),hc,decide_true,Bool.not_true,Bool.false_and,cond_false,Bool.true_and,h0,z7E g1,Sum.elim_inl]
   ·simp only[h0,decide_false,Bool.false_eq_true,if_false] at h3
    refine step s k ?_ h3 h4;simp only[jH,k6 hi,cond_true,yW hi,zH,zG3 h hl,yE,yB (k:=i) (by omega),hc,decide_true,Bool.not_true,Bool.false_and,cond_false,Bool.true_and,h0,decide_false,Sum.elim_inl]
  ·rw[hs] at h3
   simp only[hc,decide_false,Bool.not_false,Bool.true_and,Bool.false_and,Bool.false_eq_true,if_false] at h3;by_cases h0:s<0
   ·simp only[h0,decide_true,if_true] at h3
    refine step (i:Int) k ?_ h3 h4;simp only[jH,k6 hi,cond_true,yW hi,zH,zG3 h hl,yE,yB (k:=i) (by omega),hc,decide_false,Bool.not_false,Bool.true_and,h0,decide_true,Sum.elim_inl]
   ·simp only[h0,decide_false,Bool.false_eq_true,if_false] at h3
    refine step s k ?_ h3 h4;simp only[jH,k6 hi,cond_true,yW hi,zH,zG3 h hl,yE,yB (k:=i) (by omega),hc,decide_false,Bool.not_false,Bool.true_and,h0,cond_false,Bool.false_and,Sum.elim_inl]
theorem zV0 (hit:items=xJ st text 0 (-1)):zAS items text l=some ():=by
 obtain⟨s,k,h1,h2,h3⟩:=z0K h hl ht hst (items:=items) text.length 0 (-1) 0 (by omega) (by omega) (by rw[List.drop_zero,List.drop_zero];exact hit) (Nat.zero_le _)
 unfold zAS;have h1':zX (fun (x:Int×Int×Nat)=>jH text l items x.1 x.2.1 x.2.2) (-1,0,0)=some (.inl (s,k)):=h1;rw[h1'];simp only[zH,Sum.elim_inl];unfold xJ at h2;by_cases h0:0≤s;rw[if_pos h0] at h2;obtain⟨g1,g2,g3⟩:=zVZ h2;simp only[h0,decide_true,cond_true,z7E g1,zH];exact zYJ g2 g3;rw[if_neg h0] at h2;simp only[h0,decide_false,cond_false];exact zYJ h2 h3
omit h hl ht hst in
theorem zIS:∀(t:List Int) (i s:Int),(xJ st t i s).length≤t.length+1
 | [],i,s=>by unfold xJ;split<;>simp
 | c::t,i,s=>by
  unfold xJ;split;have:=zIS t (i+1) i;simp;omega;split;have:=zIS t (i+1) (-1);simp;omega;have:=zIS t (i+1) s;simp;omega
omit h hl ht hst in
theorem zIT:∀(t:List Int) (i s:Int),0≤i→(xJ st t i s= []↔s<0∧∀c∈t,st c=true)
 | [],i,s,hi=>by
  unfold xJ;split;simp;omega;simp;omega
 | c::t,i,s,hi=>by
  unfold xJ;cases hc:st c with
  | true=>
   simp only[Bool.not_true,Bool.false_and,Bool.false_eq_true,if_false,Bool.true_and];by_cases h0:0≤s;simp[h0];omega;simp only[h0,decide_false,Bool.false_eq_true,if_false];rw[zIT t (i+1) s (by omega)];simp[hc]
  | false=>
   simp only[Bool.not_false,Bool.true_and,Bool.false_and,Bool.false_eq_true,if_false];by_cases h0:s<0;simp only[h0,decide_true,if_true];rw[zIT t (i+1) i (by omega)];simp[hc];omega;simp only[h0,decide_false,Bool.false_eq_true,if_false];rw[zIT t (i+1) s (by omega)];simp[hc,h0]
end
theorem z56 {l:List Span} (h:CV l) (hl:l.length≤30000) (hok:∀x∈l,okSpan x) {text:List Int} (ht:text.length≤30000):
  ∃r,zDP l text=some r∧(r= []↔∀c∈text,clE l c=0):=by
 have hst:∀c,(jO l c==some 0)=decide (clE l c=0):=fun c=>by
  rw[zG3 h hl,Bool.eq_iff_iff];simp
 unfold zDP;rw[zRV hl hok h,zH,zV0 h hl ht hst rfl,zH];have hlen:=zIS (st:=fun c=>jO l c==some 0) text 0 (-1);refine⟨_,by unfold z8J;rw[if_pos (by unfold LIM;omega)],?_⟩
 rw[zIT _ _ _ (by omega)];simp only[hst,decide_eq_true_eq];constructor
 ·exact fun h=>h.2
 ·exact fun h=>⟨by omega,h⟩
structure DS (l:List Mapping):Prop where
 asc:∀k,k+1<l.length→(nth l k).From<(nth l (k+1)).From
 hk:∀m∈l,hkE m.From=0
 len:∀m∈l,m.To.length≤30000
theorem DS.mono {l:List Mapping} (h:DS l):∀(d i:Nat),i+d+1<l.length→(nth l i).From<(nth l (i+d+1)).From
 | 0,i,hi=>h.asc i hi
 | d+1,i,hi=>by
  have h1:=DS.mono h d i (by omega);have h3:=h.asc (i+d+1) (by omega);have:i+(d+1)+1=i+d+1+1:=by omega
  rw[this];omega
theorem DS.lt {l:List Mapping} (h:DS l) {i j:Nat} (hij:i<j) (hj:j<l.length):(nth l i).From<(nth l j).From:=by
 have:=DS.mono h (j-i-1) i (by omega)
 rwa [show i+(j-i-1)+1=j by omega] at this
def isF (c:Int) (m:Mapping):Bool:=decide (m.From=c)
theorem zYK {l:List Mapping} (h:DS l) (hl:l.length≤30000) (c:Int):∃i:Nat,kL l c (fun x0 x1=>wW x0 x1)=some ((i:Int),(l.find? (isF c)).isSome)∧∀m,l.find? (isF c)=some m→i<l.length∧nth l i=m:=by
 have hc1:∀m,wW m c=some (if m.From<c then -1 else if c<m.From then 1 else 0):=fun m=>by
  unfold wW;rw[z5U];rfl
 obtain⟨j,hj,hr,hlo,hhi⟩:=zYI (n:=l.length) hl (body:=fun (x:Int×Int)=>yT l (fun x0 x1=>wW x0 x1) c x.1 x.2) (fun k=>decide (c≤(nth l k).From))
  (fun k _=>by simp only[yT,jM (Nat.le_refl _),cond_false])
  (fun lo hi h1 h2=>by
   have hm:(lo+hi)/2<l.length:=by omega
   simp only[yT,k6 h1,cond_true,zMU (show lo+hi≤4611686018427387903 by omega),yR hm,zH,hc1,yB (k:=(lo+hi)/2) (by omega)];by_cases hc:(nth l ((lo+hi)/2)).From<c
   ·have:¬c≤(nth l ((lo+hi)/2)).From:=by omega
    simp[hc,this]
   ·have:c≤(nth l ((lo+hi)/2)).From:=by omega
    by_cases hc2:c<(nth l ((lo+hi)/2)).From<;>simp[hc,hc2,this])
  (fun i j hij hj hi=>by
   simp only[decide_eq_true_eq] at hi ⊢;rcases Nat.lt_or_eq_of_le hij with h1 | rfl
   ·have:=h.lt h1 hj;omega
   ·exact hi)
 simp only[decide_eq_false_iff_not,decide_eq_true_eq] at hlo hhi;refine⟨j,?_⟩;unfold kL;rw[hr];simp only[zH,yE];by_cases hn:j<l.length∧(nth l j).From=c
 ·have hf:=zLZ (p:=isF c) hn.1 (fun k hk=>by
   have:=hlo k hk;unfold isF;simp only[decide_eq_false_iff_not];omega) (by unfold isF;simpa using hn.2)
  rw[hf];simp only[k6 hn.1,wO,yR hn.1,zH,hc1,Bool.true_and,hn.2];refine⟨by simp,fun m hm=>?_⟩;injection hm with hm;exact⟨hn.1,hm⟩
 ·have hf:=zTE (l:=l) (p:=isF c) (fun k hk=>by
   unfold isF;simp only[decide_eq_false_iff_not];intro e;by_cases hkj:k<j
   ·have:=hlo k hkj;omega
   ·by_cases e2:k=j
    ·subst e2;exact hn ⟨hk,e⟩
    ·have h1:=h.lt (show j<k by omega) hk
     have h2:=hhi j (Nat.le_refl _) (by omega);omega)
  rw[hf];refine⟨?_,fun m hm=>by cases hm⟩;by_cases hj2:j<l.length
  ·have h2:=hhi j (Nat.le_refl _) hj2
   have h3:¬(nth l j).From=c:=fun e=>hn ⟨hj2,e⟩;have h4:c<(nth l j).From:=by omega
   have h5:¬(nth l j).From<c:=by omega
   simp only[k6 hj2,wO,yR hj2,zH,hc1,h4,h5,if_true,if_false,Bool.true_and];rfl
  ·simp only[jM (show l.length≤j by omega),zBC,zH,Bool.false_and]
   rfl
def dep (l:List Mapping) (c:Int):List Int:=if syl c=true then hdE c else match l.find? (isF c) with
 | some m=>m.To
 | none=>[]
def fnd (l:List Mapping) (c:Int):Bool:=syl c ||(l.find? (isF c)).isSome
theorem z57 {l:List Mapping} {c:Int} (h:fnd l c=false):dep l c= []:=by
 unfold fnd at h;simp only[Bool.or_eq_false_iff] at h;unfold dep;rw[if_neg (by simp[h.1])];cases hf:l.find? (isF c) with
 | none=>rfl
 | some m=>rw[hf] at h;simp at h
theorem zYL {n:Norm} (h:DS n.Decomp) (hl:n.Decomp.length≤30000) (c:Int):vO n c true=some (dep n.Decomp c,fnd n.Decomp c):=by
 unfold vO dep fnd;rw[zJ0,zH];by_cases hs:syl c=true;have e:decide (4≤hkE c)=true:=by simpa using (zF7 c).1 hs
 simp only[e,cond_true,zYH hs,zH,hs,if_true,Bool.true_or];have e:decide (4≤hkE c)=false:=by simp only[decide_eq_false_iff_not];exact fun hh=>hs ((zF7 c).2 hh)
 simp only[Bool.not_eq_true] at hs;simp only[e,cond_false,hs,Bool.false_eq_true,if_false,Bool.false_or];obtain⟨i,hb,hp⟩:=zYK h hl c;rw[hb];simp only[zH,yE];cases hf:n.Decomp.find? (isF c) with
 | none=>simp[zBC]
 | some m=>
  obtain⟨h1,h2⟩:=hp m hf;simp[wO,yR h1,h2]
theorem zTF {l:List Mapping} (h:DS l) {c e:Int} (hc:syl c=true) (he:e∈dep l c):dep l e= []:=by
 unfold dep at he;rw[if_pos hc] at he;obtain⟨h1,h2⟩:=zPI hc he;unfold dep;rw[if_neg (by simp[h1])];cases hf:l.find? (isF e) with
 | none=>rfl
 | some m=>
  exfalso;have h3:=List.mem_of_find?_eq_some hf;have h4:=List.find?_some hf;unfold isF at h4;simp only[decide_eq_true_eq] at h4;exact h2 (h4▸h.hk m h3)
theorem zYM {l:List Mapping} (h:DS l) (c:Int):(dep l c).length≤30000:=by
 unfold dep;split;have:=(zKY c).1;omega;cases hf:l.find? (isF c) with
 | none=>simp
 | some m=>exact h.len m (List.mem_of_find?_eq_some hf)
theorem zV1 {l:List Mapping} (h:DS l) {m:Mapping} (hm:m∈l):dep l m.From=m.To:=by
 have h0:=h.hk m hm;have hs:syl m.From=false:=by
  cases hs:syl m.From with
  | false=>rfl
  | true=>have:=(zF7 _).1 hs;omega
 unfold dep;rw[if_neg (by simp[hs])];obtain⟨k,hk,rfl⟩:=List.getElem_of_mem hm;rw[←vU hk];rw[zLZ (p:=isF (nth l k).From) hk (fun j hj=>by
  have:=h.lt hj hk;unfold isF;simp only[decide_eq_false_iff_not];omega) (by simp[isF])]
theorem zXJ {l:List Mapping} {c:Int} (h:dep l c≠[]) (hs:syl c=false):∃m∈l,m.From=c:=by
 unfold dep at h;rw[if_neg (by simp[hs])] at h;cases hf:l.find? (isF c) with
 | none=>rw[hf] at h;exact absurd rfl h
 | some m=>
  have h4:=List.find?_some hf;unfold isF at h4;exact⟨m,List.mem_of_find?_eq_some hf,by simpa using h4⟩
end Go.M
namespace Go.M
open Go.AV
def EE (l:List Mapping):Nat→Int→Prop
 | 0,_=>False
 | k+1,c=> ∀e∈dep l c,EE l k e
def WW (l:List Mapping) (c:Int):Prop:= ∃k,EE l k c
theorem zYN {l:List Mapping}:∀{k:Nat} {c:Int},EE l k c→EE l (k+1) c
 | 0,_,h=>h.elim
 | k+1,_,h=>fun e he=>zYN (h e he)
theorem z24 {l:List Mapping} {c:Int} {k j:Nat} (h:k≤j) (hk:EE l k c):EE l j c:=by
 induction h with
 | refl=>exact hk
 | step _ ih=>exact zYN ih
theorem z25 {l:List Mapping}:∀{L:List Int},(∀e∈L,WW l e)→∃k,∀e∈L,EE l k e
 | [],_=>⟨0,fun e he=>by cases he⟩
 | x::L,h=>by
  obtain⟨a,ha⟩:=h x (by simp);obtain⟨b,hb⟩:=z25 (L:=L) fun e he=>h e (by simp[he]);refine⟨max a b,fun e he=>?_⟩;rcases List.mem_cons.1 he with rfl | he;exact z24 (by omega) ha;exact z24 (by omega) (hb e he)
theorem zV2 {l:List Mapping} {c:Int} (h:∀e∈dep l c,WW l e):WW l c:=by obtain⟨k,hk⟩:=z25 h;exact⟨k+1,hk⟩
theorem zTG {l:List Mapping} {c:Int} (h:dep l c= []):WW l c:=zV2 (by rw[h];intro e he;cases he)
theorem z8Y {l:List Mapping} (hd:DS l) {c:Int} (h:syl c=true):WW l c:=zV2 fun _ he=>zTG (zTF hd h he)
theorem zL0 (m:List (Int×Int)) (c v k:Int):wK (wD m c v) k=(decide (k=c) ||wK m k):=by unfold wK;rw[xU];by_cases h:k=c<;>simp[h]
def pot (l:List Mapping) (m:List (Int×Int)):Nat:=l.countP fun x=>!wK m x.From
theorem z80 {l:List Mapping} {m m':List (Int×Int)} (h:∀k,wK m k=true→wK m' k=true):pot l m'≤pot l m:=by
 refine List.countP_mono_left fun x _ hx=>?_;cases hm:wK m x.From with
 | false=>rfl
 | true=>rw[h _ hm] at hx;exact hx
theorem zMV {α:Type} {p q: α→Bool}:∀{l:List α},(∀x∈l,p x=true→q x=true)→(∃x∈l,q x=true∧p x=false)→l.countP p+1≤l.countP q
 | [],_,⟨x,hx,_⟩=>by cases hx
 | y::l,h,⟨x,hx,h1,h2⟩=>by
  have hle:=List.countP_mono_left (l:=l) fun z hz=>h z (by simp[hz]);rw[List.countP_cons,List.countP_cons];rcases List.mem_cons.1 hx with rfl | hx
  simp[h1,h2];omega;have ih:=zMV (l:=l) (fun z hz=>h z (by simp[hz])) ⟨x,hx,h1,h2⟩;have hy:=h y (by simp);cases hp:p y with
  | false=>simp;omega
  | true=>simp[hy hp];omega
theorem zYO {l:List Mapping} {m:List (Int×Int)} {c v:Int} (hc:∃x∈l,x.From=c) (hm:wK m c=false):pot l (wD m c v)+1≤pot l m:=by refine zMV (fun x _ hx=>?_) ?_;rw[zL0] at hx;simp only[Bool.not_or,Bool.and_eq_true] at hx;exact hx.2;obtain⟨x,hx,rfl⟩:=hc;refine⟨x,hx,by rw[hm];rfl,by rw[zL0];simp⟩
section
variable {n:Norm} (hd:DS n.Decomp) (hl:n.Decomp.length≤30000)
include hd hl
noncomputable abbrev zPK (L:List Int×Bool) (rec:Int→Norm→(List (Int×Int))→Bool→Bool→Option (Int×Bool×Bool×(List (Int×Int)))) (n:Norm):Int×Int×Bool×Bool×(List (Int×Int))→Option (Stp (Int×Int×Bool×Bool×(List (Int×Int))) (Int×Bool×Bool×(List (Int×Int)))):=
 fun x=>jY L rec n x.1 x.2.1 x.2.2.1 x.2.2.2.1 x.2.2.2.2
theorem zYP {rec:Int→Norm→(List (Int×Int))→Bool→Bool→Option (Int×Bool×Bool×(List (Int×Int)))} {c:Int} {m:List (Int×Int)} {cy lo:Bool} (h:dep n.Decomp c= []):jS rec c n m cy lo=some (1,cy,lo,m):=by unfold jS;rw[zYL hd hl,zH,yE];simp[h]
theorem z7F {rec:Int→Norm→(List (Int×Int))→Bool→Bool→Option (Int×Bool×Bool×(List (Int×Int)))} {c:Int} {m:List (Int×Int)} {cy lo:Bool} (h:dep n.Decomp c≠[]):
  jS rec c n m cy lo=cond (wK m c) (some (max (xI m c 0) 1,(cy ||decide (xI m c 0= -1)),lo,m)) ((zX (zPK (dep n.Decomp c,true) rec n) (0,0,cy,lo,wD m c (-1))).bind fun y=>some (y.1,y.2.1,(y.2.2.1 ||decide (64<y.1)),wD y.2.2.2 c y.1)):=by
 have hf:fnd n.Decomp c=true:=by
  cases hf:fnd n.Decomp c with
  | true=>rfl
  | false=>exact absurd (z57 hf) h
 unfold jS;rw[zYL hd hl,zH,yE,hf];have hlen:decide (((dep n.Decomp c).length:Int)=0)=false:=by
  simp only[decide_eq_false_iff_not];have:(dep n.Decomp c).length≠0:=fun e=>h (List.eq_nil_of_length_eq_zero e);omega
 simp only[Bool.not_true,Bool.false_or,hlen,cond_false];rfl
structure MOk (l:List Mapping) (m:List (Int×Int)) (cy:Bool):Prop where
 bd:∀k v,mget m k=some v→ -1≤v∧v≤65
 ww:cy=false→∀k v,mget m k=some v→v≠ -1→WW l k
def zQQ (l:List Mapping) (f:Nat) (c:Int) (m:List (Int×Int)):Prop:=pot l m+3≤f∨(syl c=true∧2≤f)∨(dep l c= []∧1≤f)
omit hd hl in
theorem zRW {l:List Mapping} {f:Nat} {c:Int} {m m':List (Int×Int)} (h:∀k,wK m k=true→wK m' k=true) (hn:zQQ l f c m):zQQ l f c m':=by
 rcases hn with hn | hn;exact .inl (by have:=z80 (l:=l) h;omega)
 exact .inr hn
def z7G (l:List Mapping) (c:Int) (m:List (Int×Int)) (cy:Bool) (r:Int×Bool×Bool×(List (Int×Int))):Prop:=
 (1≤r.1∧r.1≤65)∧MOk l r.2.2.2 r.2.1∧(∀k,wK m k=true→wK r.2.2.2 k=true)∧(r.2.1=false→cy=false∧WW l c)
omit hl in
theorem z81 {f:Nat} (ih:∀c m cy lo,MOk n.Decomp m cy→zQQ n.Decomp f c m→∃r,kB f c n m cy lo=some r∧z7G n.Decomp c m cy r) (c:Int):
  ∀(d i:Nat) (s:Int) (cy lo:Bool) (m:List (Int×Int)),(dep n.Decomp c).length-i=d→i≤(dep n.Decomp c).length→0≤s→s≤65→MOk n.Decomp m cy→(∀e∈dep n.Decomp c,zQQ n.Decomp f e m)→
   ∃r,zX (zPK (dep n.Decomp c,true) (kB f) n) (s,(i:Int),cy,lo,m)=some r∧(s≤r.1∧r.1≤65)∧(i<(dep n.Decomp c).length→1≤r.1)∧MOk n.Decomp r.2.2.2 r.2.1∧(∀k,wK m k=true→wK r.2.2.2 k=true)∧(r.2.1=false→cy=false∧∀e∈(dep n.Decomp c).drop i,WW n.Decomp e):=by
 have hL:=zYM hd c;generalize dep n.Decomp c=L at*;intro d
 induction d with
 | zero=>
  intro i s cy lo m h1 h2 h3 h4 h5 h6;refine⟨(s,cy,lo,m),?_,⟨Int.le_refl _,h4⟩,fun h=>by omega,h5,fun _ h=>h,fun h=>⟨h,?_⟩⟩
  ·refine yI ?_
   simp only[jY,jM (show L.length≤i by omega),cond_false]
  ·rw[List.drop_of_length_le (by omega)];intro e he;cases he
 | succ d ihd=>
  intro i s cy lo m h1 h2 h3 h4 h5 h6;have hi:i<L.length:=by omega
  obtain⟨r,hr,⟨r1,r2⟩,r3,r4,r5⟩:=ih L[i] m cy lo h5 (h6 _ (List.getElem_mem hi));have hb:zPK (L,true) (kB f) n (s,(i:Int),cy,lo,m)=some (.next (min (s+r.1) 65,((i+1:Nat):Int),r.2.1,r.2.2.1,r.2.2.2)):=by
   simp only[jY,k6 hi,cond_true,yW hi,zH,hr,yB (k:=i) (by omega)];rw[wN (n:=s+r.1) (by omega) (by omega)]
  rw[yQ hb];obtain⟨q,hq,⟨q1,q2⟩,q3,q4,q5,q6⟩:=ihd (i+1) (min (s+r.1) 65) r.2.1 r.2.2.1 r.2.2.2 (by omega) (by omega) (by omega) (by omega) r3 (fun e he=>zRW r4 (h6 e he));refine⟨q,hq,⟨by omega,q2⟩,fun _=>by omega,q4,fun k hk=>q5 k (r4 k hk),fun hqc=>?_⟩;obtain⟨a1,a2⟩:=q6 hqc;obtain⟨b1,b2⟩:=r5 a1;refine⟨b1,?_⟩;rw[List.drop_eq_getElem_cons hi];intro e he;rcases List.mem_cons.1 he with rfl | he
  ·exact b2
  ·exact a2 e he
theorem z26:∀(f:Nat) (c:Int) (m:List (Int×Int)) (cy lo:Bool),MOk n.Decomp m cy→zQQ n.Decomp f c m→∃r,kB f c n m cy lo=some r∧z7G n.Decomp c m cy r:=by
 intro f
 induction f with
 | zero=>
  intro c m cy lo hm hn;exfalso;rcases hn with h | h | h<;>omega
 | succ f ih=>
  intro c m cy lo hm hn;show ∃r,jS (kB f) c n m cy lo=some r∧_;by_cases h0:dep n.Decomp c= [];rw[zYP hd hl h0];exact⟨_,rfl,⟨by show (1:Int)≤1;decide,by show (1:Int)≤65;decide⟩,hm,fun _ h=>h,fun h=>⟨h,zTG h0⟩⟩
  rw[z7F hd hl h0];cases hh:wK m c with
  | true=>
   obtain⟨v,hv⟩:=Option.isSome_iff_exists.1 hh;have hg:xI m c 0=v:=by unfold xI;rw[hv];rfl
   have hb:=hm.bd c v hv;rw[hg,cond_true];refine⟨_,rfl,⟨by show 1≤max v 1;omega,by show max v 1≤65;omega⟩,⟨hm.bd,fun h=>hm.ww ?_⟩,fun _ h=>h,fun h=>?_⟩
   exact(Bool.or_eq_false_iff.1 h).1;obtain⟨h1,h2⟩:=Bool.or_eq_false_iff.1 h;exact⟨h1,hm.ww h1 c v hv (by simpa using h2)⟩
  | false=>
   have hok:MOk n.Decomp (wD m c (-1)) cy:=by
    refine⟨fun k v hk=>?_,fun hc k v hk hne=>?_⟩;rw[xU] at hk;split at hk;cases hk;omega;exact hm.bd k v hk;rw[xU] at hk;split at hk;cases hk;exact absurd rfl hne;exact hm.ww hc k v hk hne
   have hgrow:∀k,wK m k=true→wK (wD m c (-1)) k=true:=fun k hk=>by rw[zL0,hk];simp
   have hnd:∀e∈dep n.Decomp c,zQQ n.Decomp f e (wD m c (-1)):=by
    intro e he;cases hs:syl c with
    | true=>
     refine .inr (.inr ⟨zTF hd hs he,?_⟩);rcases hn with h | h | h
     omega;omega;exact absurd h.1 h0
    | false=>
     rcases hn with h | h | h;refine .inl ?_;have:=zYO (l:=n.Decomp) (v:= -1) (zXJ h0 hs) hh;omega;rw[hs] at h;cases h.1;exact absurd h.1 h0
   obtain⟨q,hq,⟨q1,q2⟩,q3,q4,q5,q6⟩:=z81 hd ih c (dep n.Decomp c).length 0 0 cy lo (wD m c (-1)) (by omega) (by omega) (by omega) (by omega) hok hnd;have hq':zX (zPK (dep n.Decomp c,true) (kB f) n) (0,0,cy,lo,wD m c (-1))=some q:=hq;have hpos:0<(dep n.Decomp c).length:=List.length_pos_iff.2 h0;have q3':=q3 hpos;simp only[cond_false];rw[hq'];refine⟨_,rfl,⟨q3',q2⟩,⟨fun k v hk=>?_,fun hc k v hk hne=>?_⟩,fun k hk=>?_,fun hc=>?_⟩;have hk':mget (wD q.2.2.2 c q.1) k=some v:=hk;rw[xU] at hk';split at hk';cases hk';omega;exact q4.bd k v hk';have hk':mget (wD q.2.2.2 c q.1) k=some v:=hk;obtain⟨_,a2⟩:=q6 hc;rw[xU] at hk';split at hk';rename_i e;rw[e];exact zV2 (by simpa using a2);exact q4.ww hc k v hk' hne;show wK (wD q.2.2.2 c q.1) k=true;rw[zL0,q5 k (hgrow k hk)];simp;obtain⟨a1,a2⟩:=q6 hc;exact⟨a1,zV2 (by simpa using a2)⟩
theorem zNE (hp:n.Decomp.length≤90):∃r:Bool×Bool,decompose_measure n=some r∧(r.1=false→∀x∈n.Decomp,WW n.Decomp x.From):=by
 have key:∀(d i:Nat) (cy lo:Bool) (m:List (Int×Int)),n.Decomp.length-i=d→i≤n.Decomp.length→MOk n.Decomp m cy→
   ∃r:Bool×Bool,zX (fun (x:Int×Bool×Bool×(List (Int×Int)))=>jJ n x.1 x.2.1 x.2.2.1 x.2.2.2) ((i:Int),cy,lo,m)=some r∧(r.1=false→cy=false∧∀x∈n.Decomp.drop i,WW n.Decomp x.From):=by
  intro d
  induction d with
  | zero=>
   intro i cy lo m h1 h2 h3;refine⟨(cy,lo),?_,fun h=>⟨h,?_⟩⟩
   ·refine yI ?_
    simp only[jJ,jM (show n.Decomp.length≤i by omega),cond_false]
   ·rw[List.drop_of_length_le (by omega)];intro e he;cases he
  | succ d ih=>
   intro i cy lo m h1 h2 h3;have hi:i<n.Decomp.length:=by omega
   have hpot:pot n.Decomp m≤n.Decomp.length:=List.countP_le_length;obtain⟨r,hr,_,r3,_,r5⟩:=z26 hd hl 100 n.Decomp[i].From m cy lo h3 (.inl (by omega));rw[yQ (x':=(((i+1:Nat):Int),r.2.1,r.2.2.1,r.2.2.2)) (by
    simp only[jJ,k6 hi,cond_true,yW hi,zH,hr,yB (k:=i) (by omega)])]
   obtain⟨q,hq,q1⟩:=ih (i+1) r.2.1 r.2.2.1 r.2.2.2 (by omega) (by omega) r3;refine⟨q,hq,fun hc=>?_⟩;obtain⟨a1,a2⟩:=q1 hc;obtain⟨b1,b2⟩:=r5 a1;refine⟨b1,?_⟩;rw[List.drop_eq_getElem_cons hi];intro e he;rcases List.mem_cons.1 he with rfl | he
   ·exact b2
   ·exact a2 e he
 obtain⟨r,hr,h1⟩:=key n.Decomp.length 0 false false [] (by omega) (by omega) ⟨fun k v h=>(by cases h),fun _ k v h=>(by cases h)⟩;unfold decompose_measure;have hr':zX (fun (x:Int×Bool×Bool×(List (Int×Int)))=>jJ n x.1 x.2.1 x.2.2.1 x.2.2.2) (0,false,false,[])=some r:=hr;rw[hr'];exact⟨r,rfl,fun h=>by have:=(h1 h).2;simpa using this⟩
end
end Go.M
namespace Go.M
open Go.AV
structure NSm (n:Norm):Prop where
 cl:n.Classes.length≤40
 de:n.Decomp.length≤40
 to:∀m∈n.Decomp,m.To.length≤70
 tg:∀m∈n.Decomp,m.Tag.length≤40
 ex:n.Excluded.Ranges.length≤12
theorem z58 (l:List Mapping):∃b,zE9 l=some b∧(b=true→l.length≤20∧(∀m∈l,m.To.length≤65)∧∀m∈l,m.Tag.length≤40):=by
 unfold zE9;have h:=jD (body:=fun (x:Int)=>zBG l x) (min l.length 30) (fun k=>(nth l k).To.length≤65∧(nth l k).Tag.length≤40) (fun y=>y=false) (fun k hk=>by
  have hk1:k<l.length:=by omega
  have e30:decide ((k:Int)<30)=true:=by simp;omega
  simp only[zBG,yE,k6 hk1,e30,Bool.and_self,cond_true,yR hk1,zH,yB (k:=k) (by omega)];by_cases h1:65<(nth l k).To.length;have:decide ((65:Int)<((nth l k).To.length:Int))=true:=by simp;omega
  simp only[this,Bool.not_true,zBC,zH,Bool.true_or,cond_true];exact .inr ⟨by omega,false,rfl,rfl⟩;have:decide ((65:Int)<((nth l k).To.length:Int))=false:=by simp;omega
  simp only[this,Bool.not_false,wO,zH,Bool.false_or];exact wP (by simp only[decide_eq_true_eq];omega) rfl) (fun k hk=>by
  have:(decide ((k:Int)<(l.length:Int))&&decide ((k:Int)<30))=false:=by
   simp only[Bool.and_eq_false_iff,decide_eq_false_iff_not];omega
  simp only[zBG,yE,this,cond_false])
 rcases h with ⟨h,p⟩ | ⟨y,rfl,h,p⟩;rw[h];refine⟨_,rfl,fun hb=>?_⟩;have hl:l.length≤20:=by simp only[decide_eq_true_eq] at hb;omega
 rw[Nat.min_eq_left (by omega)] at p;have p':=(zAK (l:=l) (p:=fun m:Mapping=>m.To.length≤65∧m.Tag.length≤40)).1 p;exact⟨hl,fun m hm=>(p' m hm).1,fun m hm=>(p' m hm).2⟩;rw[h];exact⟨false,rfl,fun h=>by cases h⟩
structure VD0 (n:Norm):Prop where
 cv:CV n.Classes
 mv:MV n.Decomp
 ca:Can n.Excluded.Ranges
 ne:∀k,k+1<n.Decomp.length→(nth n.Decomp (k+1)).From≠(nth n.Decomp k).From
 kd:∀m∈n.Decomp,m.Tag= []→m.To.length=1∨m.To.length=2
 hk:∀m∈n.Decomp,hkE m.From=0
 tc:∀m∈n.Decomp,m.Tag≠[]→clE n.Classes m.From=0
 ms:decompose_measure n=some (false,false)
theorem yAL {n:Norm} (hl:n.Decomp.length≤30000):∀(d i:Nat) (tg:List Int),n.Decomp.length-i=d→i≤n.Decomp.length→tg.length≤i→
    (zX (fun (x:Int×(List Int))=>kU n x.1 x.2) ((i:Int),tg)=some (.inl (tg++((n.Decomp.drop i).filter fun m=>!(m.Tag== [])).map (·.From)))∧∀m∈n.Decomp.drop i,hkE m.From=0)∨
    (zX (fun (x:Int×(List Int))=>kU n x.1 x.2) ((i:Int),tg)=some (.inr 11)∧¬∀m∈n.Decomp.drop i,hkE m.From=0):=by
  intro d
  induction d with
  | zero=>
    intro i tg h1 h2 h3;rw[List.drop_of_length_le (by omega)];refine .inl ⟨yI ?_,fun m hm=>by cases hm⟩;simp only[kU,jM (show n.Decomp.length≤i by omega),cond_false];simp
  | succ d ih=>
    intro i tg h1 h2 h3;have hi:i<n.Decomp.length:=by omega
    rw[List.drop_eq_getElem_cons hi];by_cases h0:hkE n.Decomp[i].From=0
    · have conv:∀tg',(∃z:Unit,True)→kU n (i:Int) tg=some (.next (((i+1:Nat):Int),tg'))→tg'.length≤i+1→tg'++((n.Decomp.drop (i+1)).filter fun m=>!(m.Tag== [])).map (·.From)=tg++((n.Decomp[i]::n.Decomp.drop (i+1)).filter fun m=>!(m.Tag== [])).map (·.From)→
          (zX (fun (x:Int×(List Int))=>kU n x.1 x.2) ((i:Int),tg)=some (.inl (tg++((n.Decomp[i]::n.Decomp.drop (i+1)).filter fun m=>!(m.Tag== [])).map (·.From)))∧∀m∈n.Decomp[i]::n.Decomp.drop (i+1),hkE m.From=0)∨
          (zX (fun (x:Int×(List Int))=>kU n x.1 x.2) ((i:Int),tg)=some (.inr 11)∧¬∀m∈n.Decomp[i]::n.Decomp.drop (i+1),hkE m.From=0):=by
        intro tg' _ hb hlen he;rw[yQ (body:=fun (x:Int×(List Int))=>kU n x.1 x.2) (x:=((i:Int),tg)) hb];rcases ih (i+1) tg' (by omega) (by omega) hlen with ⟨a,b⟩ | ⟨a,b⟩
        · refine .inl ⟨by rw[a,he],fun m hm=>?_⟩
          rcases List.mem_cons.1 hm with rfl | hm
          · exact h0
          · exact b m hm
        · exact .inr ⟨a,fun hh=>b fun m hm=>hh m (List.mem_cons_of_mem _ hm)⟩
      cases ht:(n.Decomp[i].Tag== []) with
      | true=>
        refine conv tg ⟨(),trivial⟩ ?_ (by omega) ?_
        · simp only[kU,k6 hi,cond_true,yW hi,zH,zJ0,h0,decide_true,Bool.not_true,cond_false,ht,yB (k:=i) (by omega),Sum.elim_inl]
        · rw[List.filter_cons,ht];rfl
      | false=>
        refine conv (tg++ [n.Decomp[i].From]) ⟨(),trivial⟩ ?_ (by simp;omega) ?_
        · simp only[kU,k6 hi,cond_true,yW hi,zH,zJ0,h0,decide_true,Bool.not_true,cond_false,ht,Bool.not_false,zAO (show tg.length+ [n.Decomp[i].From].length≤4294967296 by simp;omega),yB (k:=i) (by omega),Sum.elim_inl]
        · rw[List.filter_cons,ht,List.append_assoc];rfl
    · refine .inr ⟨yI ?_,fun hh=>h0 (hh _ List.mem_cons_self)⟩
      have:(!decide (hkE n.Decomp[i].From=0))=true:=by simp[h0]
      simp only[kU,k6 hi,cond_true,yW hi,zH,zJ0,this,Sum.elim_inr]
theorem z82 {n:Norm} (hs:NSm n) (hok:zAM n):Ver (zCB n) (VD0 n):=by
 obtain⟨e1,he1,p1⟩:=zVU (l:=n.Classes) (by have:=hs.cl;omega) hok.1.2
 obtain⟨e2,he2,p2⟩:=z2Y (l:=n.Decomp) (by have:=hs.de;omega) (fun m hm=>by have:=hs.to m hm;omega) (fun m hm=>by have:=hs.tg m hm;unfold MX;omega)
 obtain⟨e3,he3,p3⟩:=z23 (s:=n.Excluded) hs.ex;have hde:=hs.de;unfold zCB;rw[he1,zH];by_cases h1:e1=0
 case neg=>
  have:(!decide (e1=0))=true:=by simp[h1]
  rw[this,cond_true];exact⟨e1,rfl,by simp only[h1,false_iff];exact fun h=>h1 (p1.2 h.cv)⟩
 rw[h1];simp only[decide_true,Bool.not_true,cond_false];have cv:=p1.1 h1;rw[he2,zH];by_cases h2:e2=0
 case neg=>
  have:(!decide (e2=0))=true:=by simp[h2]
  rw[this,cond_true];exact⟨e2,rfl,by simp only[h2,false_iff];exact fun h=>h2 (p2.2 h.mv)⟩
 rw[h2];simp only[decide_true,Bool.not_true,cond_false];have mv:=p2.1 h2;rw[he3,zH];cases e3 with
 | false=>exact⟨11,rfl,by simp only[show ((11:Int)=0)=False by simp,false_iff];exact fun h=>by have:=p3.2 h.ca;cases this⟩
 | true=>
 have ca:=p3.1 rfl;simp only[Bool.not_true,cond_false];have l0:=zJZ (body:=fun (x:Int)=>wX n x) n.Decomp.length (fun k=>(nth n.Decomp (k+1)).From≠(nth n.Decomp k).From) (fun y=>y≠0) (fun k hk=>by
  have hk':k<n.Decomp.length:=by omega
  simp only[wX,k6 hk,cond_true,yR hk,zH,yB (k:=k+1) (by omega),zEJ (k:=k) (by omega),yR hk'];exact wP (by simp) (by decide)) (fun k hk=>by simp only[wX,jM hk,cond_false])
 rcases l0 with ⟨l0,ne⟩ | ⟨y,hy,l0,ne⟩
 case inr=>rw[l0];exact⟨y,rfl,by simp only[hy,false_iff];exact fun h=>ne h.ne⟩
 rw[l0];simp only[zH,Sum.elim_inl];have l1:=jD (body:=fun (x:Int)=>wY n x) n.Decomp.length (fun k=>(nth n.Decomp k).Tag= []→(nth n.Decomp k).To.length=1∨(nth n.Decomp k).To.length=2) (fun y=>y≠0) (fun k hk=>by
  simp only[wY,k6 hk,cond_true,yR hk,zH,yE,yB (k:=k) (by omega)];have hb:((nth n.Decomp k).Tag== [])=decide ((nth n.Decomp k).Tag= []):=by cases (nth n.Decomp k).Tag<;>rfl
  rw[hb];refine wP ?_ (by decide);simp only[Bool.and_eq_true,Bool.not_eq_true',decide_eq_true_eq,decide_eq_false_iff_not];constructor
  ·
   rintro⟨⟨a,b⟩,c⟩ h
   rcases h a with h | h
   · exact b (by omega)
   · exact c (by omega)
  ·
   intro h;refine⟨⟨?_,?_⟩,?_⟩
   · exact Classical.byContradiction fun a=>h fun a'=>absurd a' a
   · exact fun b=>h fun _=> .inl (by omega)
   · exact fun b=>h fun _=> .inr (by omega)) (fun k hk=>by simp only[wY,jM hk,cond_false])
 rw[zAK (p:=fun m:Mapping=>m.Tag= []→m.To.length=1∨m.To.length=2)] at l1;rcases l1 with ⟨l1,kd⟩ | ⟨y,hy,l1,kd⟩
 case inr=>rw[l1];exact⟨y,rfl,by simp only[hy,false_iff];exact fun h=>kd h.kd⟩
 rw[l1];simp only[zH,Sum.elim_inl];have l2:=yAL (n:=n) (by omega) n.Decomp.length 0 [] (by omega) (by omega) (by simp);simp only[List.drop_zero,List.nil_append] at l2;rcases l2 with ⟨l2,hk⟩ | ⟨l2,hk⟩
 case inr=>
  have l2':zX (fun (x:Int×(List Int))=>kU n x.1 x.2) (0,[])=some (.inr 11):=l2;rw[l2'];exact⟨11,rfl,by simp only[show ((11:Int)=0)=False by simp,false_iff];exact fun h=>hk h.hk⟩
 have l2':zX (fun (x:Int×(List Int))=>kU n x.1 x.2) (0,[])=some (.inl ((n.Decomp.filter fun m=>!(m.Tag== [])).map (·.From))):=l2;rw[l2'];simp only[zH,Sum.elim_inl];obtain⟨r,hr,pr⟩:=z56 cv (by have:=hs.cl;omega) hok.1.2 (text:=(n.Decomp.filter fun m=>!(m.Tag== [])).map (·.From)) (by
  have:=List.length_filter_le (fun m:Mapping=>!(m.Tag== [])) n.Decomp;simp only[List.length_map];omega)
 rw[hr,zH];have hbt:∀m:Mapping,(m.Tag== [])=decide (m.Tag= []):=fun m=>by cases m.Tag<;>rfl
 have htc:(∀c∈(n.Decomp.filter fun m=>!(m.Tag== [])).map (·.From),clE n.Classes c=0)↔∀m∈n.Decomp,m.Tag≠[]→clE n.Classes m.From=0:=by
  constructor
  ·
   intro h m hm ht;exact h _ (List.mem_map.2 ⟨m,List.mem_filter.2 ⟨hm,by rw[hbt];simpa using ht⟩,rfl⟩)
  ·
   intro h c hc;obtain⟨m,hm,rfl⟩:=List.mem_map.1 hc;obtain⟨a,b⟩:=List.mem_filter.1 hm;exact h m a (by rw[hbt] at b;simpa using b)
 rw[htc] at pr;by_cases hrn:r= []
 case neg=>
  have:decide ((0:Int)<(r.length:Int))=true:=by
   have:=List.length_pos_iff.2 hrn;simp only[decide_eq_true_eq];omega
  rw[this,cond_true];exact⟨11,rfl,by simp only[show ((11:Int)=0)=False by simp,false_iff];exact fun h=>hrn (pr.2 h.tc)⟩
 have:decide ((0:Int)<(r.length:Int))=false:=by rw[hrn];rfl
 rw[this,cond_false];have hds:DS n.Decomp:=⟨fun k hk'=>by
  have a:=mv.lt k hk';have b:=ne k hk';unfold mlt at a;omega,hk,fun m hm=>by have:=mv.sz m hm;omega⟩
 obtain⟨q,hq,_⟩:=zNE hds (by omega) (by omega);rw[hq,zH];obtain⟨cy,lo⟩:=q;cases cy with
 | true=>exact⟨12,rfl,by simp only[show ((12:Int)=0)=False by simp,false_iff];exact fun h=>by have:=h.ms;rw[hq] at this;cases this⟩
 | false=>
  cases lo with
  | true=>exact⟨13,rfl,by simp only[show ((13:Int)=0)=False by simp,false_iff];exact fun h=>by have:=h.ms;rw[hq] at this;cases this⟩
  | false=>exact⟨0,rfl,by simp only[true_iff];exact⟨cv,mv,ca,ne,kd,hk,pr.1 hrn,hq⟩⟩
theorem VD0.ds {n:Norm} (h:VD0 n):DS n.Decomp:=⟨fun k hk'=>by
  have a:=h.mv.lt k hk';have b:=h.ne k hk';unfold mlt at a;omega,h.hk,fun m hm=>by have:=h.mv.sz m hm;omega⟩
end Go.M
namespace Go.M
open Go.AV
def DD (l:List Mapping):Nat→Int→Prop
 | 0,c=>l.find? (isF c)=none
 | k+1,c=> ∀m,l.find? (isF c)=some m→∀e∈m.To,DD l k e
theorem zN4 {l:List Mapping} {c:Int} (h:l.find? (isF c)=none):∀k,DD l k c
 | 0=>h
 | k+1=>fun m hm=>by rw[h] at hm;cases hm
theorem zIU {l:List Mapping}:∀{k:Nat} {c:Int},DD l k c→DD l (k+1) c
 | 0,_,h=>zN4 h 1
 | _+1,_,h=>fun m hm e he=>zIU (h m hm e he)
theorem zEL {l:List Mapping} {c:Int} {m:Mapping} (h:l.find? (isF c)=some m):m∈l∧m.From=c:=by refine⟨List.mem_of_find?_eq_some h,?_⟩;have h4:=List.find?_some h;unfold isF at h4;simpa using h4
theorem zPL {l:List Mapping} (hd:DS l) {m:Mapping} (hm:m∈l):syl m.From=false:=by
 cases hs:syl m.From with
 | false=>rfl
 | true=>have:=(zF7 _).1 hs;have:=hd.hk m hm;omega
theorem zDH {l:List Mapping} (hd:DS l) {m:Mapping} (hm:m∈l):l.find? (isF m.From)=some m:=by
 obtain⟨k,hk,rfl⟩:=List.getElem_of_mem hm;rw[←vU hk];exact zLZ (p:=isF (nth l k).From) hk (fun j hj=>by
  have:=hd.lt hj hk;unfold isF;simp only[decide_eq_false_iff_not];omega) (by simp[isF])
theorem zV3 {l:List Mapping} (hd:DS l) {c:Int} (h:syl c=true):l.find? (isF c)=none:=by
 cases hf:l.find? (isF c) with
 | none=>rfl
 | some m=>
  obtain⟨h1,rfl⟩:=zEL hf;rw[zPL hd h1] at h;cases h
theorem zV4 {l:List Mapping} (hd:DS l) {c:Int} {m:Mapping} (h:l.find? (isF c)=some m):dep l c=m.To:=by obtain⟨h1,rfl⟩:=zEL h;exact zV1 hd h1
theorem z7H {l:List Mapping} (hd:DS l):∀{k:Nat} {c:Int},EE l k c→DD l k c
 | 0,_,h=>h.elim
 | _+1,_,h=>fun m hm e he=>z7H hd (h e (by rw[zV4 hd hm];exact he))
theorem z27 {l:List Mapping} (hd:DS l) (H:∀m∈l,WW l m.From):∀m∈l,DD l l.length m.From:=by
 classical
 have key:∀k,(∀m∈l,DD l k m.From)∨k≤l.countP (fun m=>decide (DD l k m.From)):=by
  intro k
  induction k with
  | zero=>exact .inr (Nat.zero_le _)
  | succ k ih=>
   rcases ih with ih | ih;exact .inl fun m hm=>zIU (ih m hm);by_cases hst:∀m∈l,DD l (k+1) m.From→DD l k m.From;left;have hall:∀j c,DD l j c→DD l k c:=by
    intro j
    induction j with
    | zero=>intro c h;exact zN4 h k
    | succ j ihj=>
     intro c h;cases hf:l.find? (isF c) with
     | none=>exact zN4 hf k
     | some m=>
      obtain⟨h1,h2⟩:=zEL hf;have:=hst m h1 (by
       rw[h2];intro m' hm' e he;exact ihj e (h m' hm' e he))
      rwa [h2] at this
   intro m hm;obtain⟨j,hj⟩:=H m hm;exact zIU (hall j _ (z7H hd hj));right;have hex:∃m∈l,DD l (k+1) m.From∧¬DD l k m.From:=by
    apply Classical.byContradiction;intro hno;exact hst fun m hm h1=>Classical.byContradiction fun h2=>hno ⟨m,hm,h1,h2⟩
   obtain⟨m,hm,h1,h2⟩:=hex;have:=zMV (p:=fun m=>decide (DD l k m.From)) (q:=fun m=>decide (DD l (k+1) m.From)) (l:=l) (fun x _ hx=>by simp only[decide_eq_true_eq] at hx ⊢;exact zIU hx) ⟨m,hm,by simpa using h1,by simpa using h2⟩
   omega
 rcases key l.length with h | h;exact h;have hle:l.countP (fun m=>decide (DD l l.length m.From))≤l.length:=List.countP_le_length;have:l.countP (fun m=>decide (DD l l.length m.From))=l.length:=by omega
 intro m hm;have:=List.countP_eq_length.1 this m hm;simpa using this
theorem zPM {l:List Mapping} (hd:DS l) (H:∀m∈l,WW l m.From) (c:Int):DD l l.length c:=by
 cases hf:l.find? (isF c) with
 | none=>exact zN4 hf _
 | some m=>
  obtain⟨h1,h2⟩:=zEL hf;have:=z27 hd H m h1
  rwa [h2] at this
def fnB (l:List Mapping) (b:Bool) (c:Int):Option (List Int):=match l.find? (isF c) with
 | some m=>if (b ||(m.Tag== []))=true then some m.To else none
 | none=>none
theorem zG4 {l:List Mapping} {b:Bool} {c:Int} {to:List Int} (h:fnB l b c=some to):∃m,l.find? (isF c)=some m∧m.To=to∧(b ||(m.Tag== []))=true:=by
 unfold fnB at h;cases hf:l.find? (isF c) with
 | none=>rw[hf] at h;cases h
 | some m=>
  rw[hf] at h;simp only at h;split at h;rename_i hb;injection h with h;exact⟨m,rfl,h,hb⟩;cases h
theorem zPN (l:List Mapping) (c:Int):fnB l true c=(l.find? (isF c)).map (·.To):=by unfold fnB;cases l.find? (isF c)<;>simp
theorem z83 {l:List Mapping} {c:Int} {to:List Int} (h:fnB l false c=some to):fnB l true c=some to:=by obtain⟨m,h1,h2,_⟩:=zG4 h;rw[zPN,h1,←h2];rfl
def exF (l:List Mapping) (b:Bool):Nat→Int→List Int
 | 0,c=>hdE c
 | k+1,c=>match fnB l b c with
  | some to=>to.flatMap (exF l b k)
  | none=>hdE c
def wtF (l:List Mapping) (b:Bool):Nat→Int→Int
 | 0,c=>((hdE c).length:Int)
 | k+1,c=>match fnB l b c with
  | some to=>min (max (to.map (wtF l b k)).sum 1) 65
  | none=>((hdE c).length:Int)
theorem zKZ {f g:Int→List Int}:∀{L:List Int},(∀e∈L,f e=g e)→L.flatMap f=L.flatMap g
 | [],_=>rfl
 | x::L,h=>by rw[List.flatMap_cons,List.flatMap_cons,h x (by simp),zKZ fun e he=>h e (by simp[he])]
theorem zG5 {l:List Mapping} {b:Bool} {c:Int} (h:l.find? (isF c)=none):fnB l b c=none:=by unfold fnB;rw[h]
theorem z28 {l:List Mapping} {b:Bool}:∀{k:Nat} {c:Int},DD l k c→∀{j:Nat},k≤j→exF l b j c=exF l b k c
 | 0,c,h,j,_=>by
  cases j with
  | zero=>rfl
  | succ j=>show (match fnB l b c with | some to=>to.flatMap (exF l b j) | none=>hdE c)=hdE c;rw[zG5 h]
 | k+1,c,h,j,hj=>by
  cases j with
  | zero=>omega
  | succ j=>
   show (match fnB l b c with | some to=>to.flatMap (exF l b j) | none=>hdE c)=(match fnB l b c with | some to=>to.flatMap (exF l b k) | none=>hdE c);cases hf:fnB l b c with
   | none=>rfl
   | some to=>
    obtain⟨m,h1,rfl,_⟩:=zG4 hf;exact zKZ fun e he=>z28 (h m h1 e he) (by omega)
theorem z29 {l:List Mapping} {b:Bool}:∀{k:Nat} {c:Int},DD l k c→∀{j:Nat},k≤j→wtF l b j c=wtF l b k c
 | 0,c,h,j,_=>by
  cases j with
  | zero=>rfl
  | succ j=>show (match fnB l b c with | some to=>min (max (to.map (wtF l b j)).sum 1) 65 | none=>((hdE c).length:Int))=((hdE c).length:Int);rw[zG5 h]
 | k+1,c,h,j,hj=>by
  cases j with
  | zero=>omega
  | succ j=>
   show (match fnB l b c with | some to=>min (max (to.map (wtF l b j)).sum 1) 65 | none=>((hdE c).length:Int))=(match fnB l b c with | some to=>min (max (to.map (wtF l b k)).sum 1) 65 | none=>((hdE c).length:Int));cases hf:fnB l b c with
   | none=>rfl
   | some to=>
    obtain⟨m,h1,rfl,_⟩:=zG4 hf;have:m.To.map (wtF l b j)=m.To.map (wtF l b k):=List.map_congr_left fun e he=>z29 (h m h1 e he) (by omega);simp only[this]
def fu (l:List Mapping) (b:Bool) (c:Int):List Int:=exF l b l.length c
def wt (l:List Mapping) (b:Bool) (c:Int):Int:=wtF l b l.length c
theorem zNF {l:List Mapping} {b:Bool} (hD:∀c,DD l l.length c) (c:Int):fu l b c=match fnB l b c with | some to=>to.flatMap (fu l b) | none=>hdE c:=by unfold fu;rw[←z28 (hD c) (show l.length≤l.length+1 by omega)];rfl
theorem zRX {l:List Mapping} {b:Bool} (hD:∀c,DD l l.length c) (c:Int):wt l b c=(match fnB l b c with | some to=>(min (max (to.map (wt l b)).sum 1) 65:Int) | none=>((hdE c).length:Int):Int):=by unfold wt;rw[←z29 (hD c) (show l.length≤l.length+1 by omega)];rfl
theorem zJ1 {l:List Mapping} {b:Bool} (k:Nat) (c:Int):1≤wtF l b k c∧wtF l b k c≤65:=by
 have:=zKY c;cases k with
 | zero=>show 1≤((hdE c).length:Int)∧((hdE c).length:Int)≤65;omega
 | succ k=>
  show 1≤(match fnB l b c with | some to=>min (max (to.map (wtF l b k)).sum 1) 65 | none=>((hdE c).length:Int))∧(match fnB l b c with | some to=>min (max (to.map (wtF l b k)).sum 1) 65 | none=>((hdE c).length:Int))≤65;cases fnB l b c with
  | none=>simp only[];omega
  | some to=>simp only[];omega
theorem zTH {f:Int→Int} (hf:∀e,1≤f e):∀L:List Int,(L.length:Int)≤(L.map f).sum
 | []=>by simp
 | x::L=>by have:=zTH hf L;have:=hf x;simp only[List.map_cons,List.sum_cons,List.length_cons];omega
theorem zYQ {f:Int→List Int} {w:Int→Int} (hw:∀e,1≤w e) (N:Int):∀(L:List Int),(∀e∈L,w e≤N→((f e).length:Int)≤w e)→(L.map w).sum≤N→((L.flatMap f).length:Int)≤(L.map w).sum
 | [],_,_=>by simp
 | x::L,h,hs=>by
  have h0:=zTH hw L;have h1:=hw x;simp only[List.map_cons,List.sum_cons] at hs ⊢;have ih:=zYQ hw N L (fun e he=>h e (by simp[he])) (by omega);have hx:=h x (by simp) (by omega);rw[List.flatMap_cons,List.length_append];omega
theorem z59 {l:List Mapping} {b:Bool}:∀(k:Nat) (c:Int),wtF l b k c≤64→((exF l b k c).length:Int)≤wtF l b k c:=by
 intro k
 induction k with
 | zero=>intro c _;show ((hdE c).length:Int)≤((hdE c).length:Int);omega
 | succ k ih=>
  intro c;show (match fnB l b c with | some to=>min (max (to.map (wtF l b k)).sum 1) 65 | none=>((hdE c).length:Int))≤64→(((match fnB l b c with | some to=>to.flatMap (exF l b k) | none=>hdE c):List Int).length:Int)≤(match fnB l b c with | some to=>min (max (to.map (wtF l b k)).sum 1) 65 | none=>((hdE c).length:Int));cases fnB l b c with
  | none=>intro _;simp only[];omega
  | some to=>
   simp only[];intro h;have:=zYQ (f:=exF l b k) (w:=wtF l b k) (fun e=>(zJ1 k e).1) 64 to (fun e _ he=>ih e he) (by omega);omega
theorem zYR {l:List Mapping} (hd:DS l):∀(k:Nat) (c:Int),wtF l false k c≤wtF l true k c:=by
 intro k
 induction k with
 | zero=>intro c;exact Int.le_refl _
 | succ k ih=>
  intro c;have hs:∀L:List Int,(L.map (wtF l false k)).sum≤(L.map (wtF l true k)).sum:=by
   intro L
   induction L with
   | nil=>simp
   | cons x L ihL=>have:=ih x;simp only[List.map_cons,List.sum_cons];omega
  show (match fnB l false c with | some to=>min (max (to.map (wtF l false k)).sum 1) 65 | none=>((hdE c).length:Int))≤(match fnB l true c with | some to=>min (max (to.map (wtF l true k)).sum 1) 65 | none=>((hdE c).length:Int));cases hf:fnB l false c with
  | some to=>
   rw[z83 hf];have:=hs to;simp only[];omega
  | none=>
   cases ht:fnB l true c with
   | none=>exact Int.le_refl _
   | some to=>
    obtain⟨m,h1,_,_⟩:=zG4 ht;obtain⟨h2,rfl⟩:=zEL h1;have:hdE m.From= [m.From]:=by unfold hdE;rw[if_neg (by simp[zPL hd h2])]
    simp only[this,List.length_singleton];omega
theorem z84 {l:List Mapping} (hd:DS l) (h:∀c,wt l true c≤64) (b:Bool) (c:Int):(fu l b c).length≤64:=by
 have h1:wtF l b l.length c≤wtF l true l.length c:=by
  cases b with
  | true=>exact Int.le_refl _
  | false=>exact zYR hd _ c
 have h2:wtF l true l.length c≤64:=h c;have:=z59 (l:=l) (b:=b) l.length c (by omega);unfold fu;omega
theorem z3A {l:List Mapping} (hd:DS l) (hD:∀c,DD l l.length c) (c:Int):(dep l c= []→wt l true c=1)∧(dep l c≠[]→wt l true c=min ((dep l c).map (wt l true)).sum 65):=by
 have hp:∀e,1≤wt l true e:=fun e=>(zJ1 _ e).1;rw[zRX hD c,zPN];cases hf:l.find? (isF c) with
 | some m=>
  rw[zV4 hd hf];simp only[Option.map_some];constructor;intro h;rw[h];rfl;intro h;have:=zTH hp m.To;have:0<m.To.length:=List.length_pos_iff.2 h;omega
 | none=>
  simp only[Option.map_none];cases hs:syl c with
  | false=>
   have h1:dep l c= []:=by unfold dep;rw[if_neg (by simp[hs]),hf]
   have h2:hdE c= [c]:=by unfold hdE;rw[if_neg (by simp[hs])]
   rw[h1,h2];exact⟨fun _=>rfl,fun h=>absurd rfl h⟩
  | true=>
   have h1:dep l c=hdE c:=by unfold dep;rw[if_pos hs]
   have hl:=zKY c;have hone:∀e∈hdE c,wt l true e=1:=by
    intro e he;obtain⟨p1,p2⟩:=zPI hs he;have hn:l.find? (isF e)=none:=by
     cases hf2:l.find? (isF e) with
     | none=>rfl
     | some m=>obtain⟨q1,rfl⟩:=zEL hf2;exact absurd (hd.hk m q1) p2
    rw[zRX hD e,zG5 hn];simp only[];unfold hdE;rw[if_neg (by simp[p1])];rfl
   have hsum:∀L:List Int,(∀e∈L,wt l true e=1)→(L.map (wt l true)).sum=(L.length:Int):=by
    intro L
    induction L with
    | nil=>intro _;rfl
    | cons x L ih=>intro h;have:=ih fun e he=>h e (by simp[he]);have:=h x (by simp);simp only[List.map_cons,List.sum_cons,List.length_cons];omega
   rw[h1];constructor;intro h;rw[h] at hl;simp at hl;intro _;rw[hsum _ hone];omega
end Go.M
namespace Go.M
open Go.AV
section
variable {n:Norm} (hd:DS n.Decomp) (hl:n.Decomp.length≤30000) (H:∀m∈n.Decomp,WW n.Decomp m.From)
include hd hl H
structure MeX (l:List Mapping) (m:List (Int×Int)) (lo:Bool):Prop where
 val:∀k v,mget m k=some v→v= -1∨v=wt l true k
 lof:lo=false→∀k v,mget m k=some v→v≠ -1→v≤64
 lot:lo=true→∃x∈l,64<wt l true x.From
def zXK (l:List Mapping) (m m':List (Int×Int)) (lo':Bool):Prop:=
 MeX l m' lo'∧(∀k v,mget m k=some v→mget m' k=some v)∧∀e,mget m' e=some (-1)→mget m e=some (-1)
omit hd hl H in
theorem z0L {m m':List (Int×Int)} (h:∀k v,mget m k=some v→mget m' k=some v):∀k,wK m k=true→wK m' k=true:=by intro k hk;obtain⟨v,hv⟩:=Option.isSome_iff_exists.1 hk;show (mget m' k).isSome=true;rw[h k v hv];rfl
omit H hl in
theorem z6A {f:Nat} (c:Int) (k1:Nat) (ih:∀c m lo,MeX n.Decomp m lo→zQQ n.Decomp f c m→(∃k,EE n.Decomp k c∧∀e,mget m e=some (-1)→¬EE n.Decomp k e)→∃lo' m',kB f c n m false lo=some (wt n.Decomp true c,false,lo',m')∧zXK n.Decomp m m' lo'∧(dep n.Decomp c≠[]→mget m' c=some (wt n.Decomp true c))) (hk1:∀e∈dep n.Decomp c,EE n.Decomp k1 e):
  ∀(d i:Nat) (s:Int) (lo:Bool) (m:List (Int×Int)),(dep n.Decomp c).length-i=d→i≤(dep n.Decomp c).length→0≤s→s≤65→MeX n.Decomp m lo→(∀e∈dep n.Decomp c,zQQ n.Decomp f e m)→(∀e,mget m e=some (-1)→¬EE n.Decomp k1 e)→
   ∃lo' m',zX (zPK (dep n.Decomp c,true) (kB f) n) (s,(i:Int),false,lo,m)=some (min (s+(((dep n.Decomp c).drop i).map (wt n.Decomp true)).sum) 65,false,lo',m')∧zXK n.Decomp m m' lo':=by
 have hL:=zYM hd c;generalize dep n.Decomp c=L at*;intro d
 induction d with
 | zero=>
  intro i s lo m h1 h2 h3 h4 h5 h6 h7;refine⟨lo,m,?_,h5,fun _ _ h=>h,fun _ h=>h⟩;refine yI ?_;rw[List.drop_of_length_le (show L.length≤i by omega)];simp only[jY,jM (show L.length≤i by omega),cond_false,List.map_nil,List.sum_nil,Int.add_zero];rw[Int.min_eq_left h4]
 | succ d ihd=>
  intro i s lo m h1 h2 h3 h4 h5 h6 h7;have hi:i<L.length:=by omega
  have hm:=List.getElem_mem hi;obtain⟨lo1,m1,hr,⟨r1,r2,r3⟩,_⟩:=ih L[i] m lo h5 (h6 _ hm) ⟨k1,hk1 _ hm,h7⟩;have hp:=zJ1 (l:=n.Decomp) (b:=true) n.Decomp.length L[i];have hp':1≤wt n.Decomp true L[i]∧wt n.Decomp true L[i]≤65:=hp;have hb:zPK (L,true) (kB f) n (s,(i:Int),false,lo,m)=some (.next (min (s+wt n.Decomp true L[i]) 65,((i+1:Nat):Int),false,lo1,m1)):=by
   simp only[jY,k6 hi,cond_true,yW hi,zH,hr,yB (k:=i) (by omega)];rw[wN (n:=s+wt n.Decomp true L[i]) (by omega) (by omega)]
  rw[yQ hb];obtain⟨lo2,m2,hq,q1,q2,q3⟩:=ihd (i+1) (min (s+wt n.Decomp true L[i]) 65) lo1 m1 (by omega) (by omega) (by omega) (by omega) r1 (fun e he=>zRW (z0L r2) (h6 e he)) (fun e he=>h7 e (r3 e he));refine⟨lo2,m2,?_,q1,fun k v h=>q2 k v (r2 k v h),fun e h=>r3 e (q3 e h)⟩;rw[hq,List.drop_eq_getElem_cons hi,List.map_cons,List.sum_cons];have hnn:=zTH (f:=wt n.Decomp true) (fun e=>(zJ1 _ e).1) (L.drop (i+1));have:min (min (s+wt n.Decomp true L[i]) 65+((L.drop (i+1)).map (wt n.Decomp true)).sum) 65=min (s+(wt n.Decomp true L[i]+((L.drop (i+1)).map (wt n.Decomp true)).sum)) 65:=by omega
  rw[this]
theorem z6B : ∀ (f : Nat) (c : Int) (m : List (Int × Int)) (lo : Bool), MeX n.Decomp m lo → zQQ n.Decomp f c m → (∃ k, EE n.Decomp k c ∧ ∀ e, mget m e = some (-1) → ¬ EE n.Decomp k e) →
    ∃ lo' m', kB f c n m false lo = some (wt n.Decomp true c, false, lo', m') ∧ zXK n.Decomp m m' lo' ∧ (dep n.Decomp c ≠ [] → mget m' c = some (wt n.Decomp true c)) := by
  have hD := zPM hd H;intro f
  induction f with
  | zero =>
    intro c m lo _ hn;exfalso;rcases hn with h | h | h<;>omega
  | succ f ih =>
    intro c m lo hm hn hst;show ∃ lo' m', jS (kB f) c n m false lo = some _ ∧ _;obtain⟨w0, w1⟩ := z3A hd hD c;have hp' : 1 ≤ wt n.Decomp true c ∧ wt n.Decomp true c ≤ 65 := zJ1 (l := n.Decomp) (b := true) n.Decomp.length c;by_cases h0 : dep n.Decomp c = []
    · rw[zYP hd hl h0, w0 h0]
      exact⟨lo, m, rfl, ⟨hm, fun _ _ h => h, fun _ h => h⟩, fun h => absurd h0 h⟩
    · rw[z7F hd hl h0]
      obtain⟨k, hk, hks⟩ := hst;cases hh : wK m c with
      | true =>
        obtain⟨v, hv⟩ := Option.isSome_iff_exists.1 hh;have hg : xI m c 0 = v := by unfold xI; rw[hv]; rfl
        have hne : v ≠ -1 := fun e => hks c (by rw[hv, e]) hk;have hvw : v = wt n.Decomp true c := (hm.val c v hv).resolve_left hne;rw[hg, cond_true];have e1 : decide (v = -1) = false := by simpa using hne
        rw[e1];refine⟨lo, m, ?_, ⟨hm, fun _ _ h => h, fun _ h => h⟩, fun _ => by rw[hv, hvw]⟩;rw[show max v 1 = wt n.Decomp true c by omega];rfl
      | false =>
        have hmin : ∃ k0, EE n.Decomp (k0+1) c ∧ ¬ EE n.Decomp k0 c ∧ k0+1 ≤ k := by
          clear hks
          induction k with
          | zero => exact hk.elim
          | succ k ihk =>
            by_cases h : EE n.Decomp k c
            · obtain⟨k0, a, b, e⟩ := ihk h
              exact⟨k0, a, b, by omega⟩
            · exact⟨k, hk, h, Nat.le_refl _⟩
        obtain⟨k0, a, b, e⟩ := hmin;have hgn : mget m c = none := by
          cases hx : mget m c with
          | none => rfl
          | some v => have : wK m c = true := by unfold wK; rw[hx]; rfl
                      rw[hh] at this; cases this
        have hok : MeX n.Decomp (wD m c (-1)) lo := by
          refine⟨fun k v hk => ?_, fun hc k v hk hne => ?_, hm.lot⟩
          · rw[xU] at hk
            split at hk
            · cases hk; exact .inl rfl
            · exact hm.val k v hk
          · rw[xU] at hk
            split at hk
            · cases hk; exact absurd rfl hne
            · exact hm.lof hc k v hk hne
        have hnd : ∀ e ∈ dep n.Decomp c, zQQ n.Decomp f e (wD m c (-1)) := by
          intro e he;cases hs : syl c with
          | true =>
            refine .inr (.inr ⟨zTF hd hs he, ?_⟩);rcases hn with h | h | h
            · omega
            · omega
            · exact absurd h.1 h0
          | false =>
            rcases hn with h | h | h
            · refine .inl ?_
              have := zYO (l := n.Decomp) (v := -1) (zXJ h0 hs) hh;omega
            · rw[hs] at h; cases h.1
            · exact absurd h.1 h0
        obtain⟨lo1, m1, hq, q1, q2, q3⟩ := z6A hd c k0 ih (fun e he => a e he) (dep n.Decomp c).length 0 0 lo (wD m c (-1)) (by omega) (by omega) (by omega) (by omega) hok hnd (fun e' he' => by
          rw[xU] at he';split at he'
          · rename_i hx; rw[hx]; exact b
          · exact fun h => hks e' he' (z24 (by omega) h))
        rw[List.drop_zero, Int.zero_add, ← w1 h0] at hq;have hq' : zX (zPK (dep n.Decomp c, true) (kB f) n) (0, 0, false, lo, wD m c (-1)) = some (wt n.Decomp true c, false, lo1, m1) := hq;simp only[cond_false];rw[hq'];refine⟨(lo1 || decide (64<wt n.Decomp true c)), wD m1 c (wt n.Decomp true c), rfl, ⟨⟨fun k v hk => ?_, fun hc k v hk hne => ?_, fun hc => ?_⟩, fun k v hk => ?_, fun e' he' => ?_⟩, fun _ => by rw[xU, if_pos rfl]⟩
        · rw[xU] at hk
          split at hk
          · rename_i hx; cases hk; rw[hx]; exact .inr rfl
          · exact q1.val k v hk
        · rw[Bool.or_eq_false_iff] at hc
          rw[xU] at hk;split at hk
          · cases hk; have := hc.2; simp only[decide_eq_false_iff_not] at this; omega
          · exact q1.lof hc.1 k v hk hne
        · rcases Bool.or_eq_true_iff.1 hc with h | h
          · exact q1.lot h
          · simp only[decide_eq_true_eq] at h
            cases hs : syl c with
            | true =>
              have : wt n.Decomp true c ≤ 3 := by
                rw[zRX hD c, zG5 (zV3 hd hs)];have := zKY c;simp only[]; omega
              omega
            | false => obtain⟨x, hx, rfl⟩ := zXJ h0 hs; exact⟨x, hx, h⟩
        · rw[xU]
          split
          · rename_i hx; rw[hx, hgn] at hk; cases hk
          · rename_i hx
            exact q2 k v (by rw[xU, if_neg hx]; exact hk)
        · rw[xU] at he'
          split at he'
          · injection he' with he'; omega
          · rename_i hx
            have := q3 e' he';rw[xU, if_neg hx] at this;exact this
theorem zPO (hp:n.Decomp.length≤90):∃lo,decompose_measure n=some (false,lo)∧(lo=false↔∀x∈n.Decomp,wt n.Decomp true x.From≤64):=by
 have hD:=zPM hd H;have key:∀(d i:Nat) (lo:Bool) (m:List (Int×Int)),n.Decomp.length-i=d→i≤n.Decomp.length→MeX n.Decomp m lo→(∀e,mget m e≠some (-1))→(∀x∈n.Decomp.take i,dep n.Decomp x.From≠[]→mget m x.From=some (wt n.Decomp true x.From))→
   ∃lo',zX (fun (x:Int×Bool×Bool×(List (Int×Int)))=>jJ n x.1 x.2.1 x.2.2.1 x.2.2.2) ((i:Int),false,lo,m)=some (false,lo')∧(lo'=false↔∀x∈n.Decomp,wt n.Decomp true x.From≤64):=by
  intro d
  induction d with
  | zero=>
   intro i lo m h1 h2 h3 h4 h5;refine⟨lo,?_,fun h x hx=>?_,fun h=>?_⟩
   ·refine yI ?_
    simp only[jJ,jM (show n.Decomp.length≤i by omega),cond_false]
   ·by_cases h0:dep n.Decomp x.From= []
    ·rw[(z3A hd hD x.From).1 h0];decide
    ·have hg:=h5 x (by rw[List.take_of_length_le (by omega)];exact hx) h0
     have hp':1≤wt n.Decomp true x.From∧wt n.Decomp true x.From≤65:=zJ1 (l:=n.Decomp) (b:=true) n.Decomp.length x.From;exact h3.lof h _ _ hg (by omega)
   ·cases lo with
    | false=>rfl
    | true=>obtain⟨x,hx,hg⟩:=h3.lot rfl;have:=h x hx;omega
  | succ d ih=>
   intro i lo m h1 h2 h3 h4 h5;have hi:i<n.Decomp.length:=by omega
   have hpot:pot n.Decomp m≤n.Decomp.length:=List.countP_le_length;obtain⟨k,hk⟩:=H n.Decomp[i] (List.getElem_mem hi);obtain⟨lo1,m1,hr,⟨r1,r2,r3⟩,r4⟩:=z6B hd hl H 100 n.Decomp[i].From m lo h3 (.inl (by omega)) ⟨k,hk,fun e he=>absurd he (h4 e)⟩;rw[yQ (x':=(((i+1:Nat):Int),false,lo1,m1)) (by
    simp only[jJ,k6 hi,cond_true,yW hi,zH,hr,yB (k:=i) (by omega)])]
   refine ih (i+1) lo1 m1 (by omega) (by omega) r1 (fun e he=>h4 e (r3 e he)) (fun x hx hx0=>?_);rw[List.take_add_one,List.getElem?_eq_getElem hi] at hx;rcases List.mem_append.1 hx with hx | hx
   ·exact r2 _ _ (h5 x hx hx0)
   ·simp only[Option.toList_some,List.mem_singleton] at hx
    subst hx;exact r4 hx0
 obtain⟨lo,hr,h1⟩:=key n.Decomp.length 0 false [] (by omega) (by omega) ⟨fun k v h=>(by cases h),fun _ k v h=>(by cases h),fun h=>by cases h⟩ (fun e h=>by cases h) (fun x hx=>by cases hx);have hr':zX (fun (x:Int×Bool×Bool×(List (Int×Int)))=>jJ n x.1 x.2.1 x.2.2.1 x.2.2.2) (0,false,false,[])=some (false,lo):=hr;refine⟨lo,?_,h1⟩;unfold decompose_measure;rw[hr'];rfl
end
theorem z3B {n:Norm} (hd:DS n.Decomp) (hp:n.Decomp.length≤90):decompose_measure n=some (false,false)↔(∀m∈n.Decomp,WW n.Decomp m.From)∧∀m∈n.Decomp,wt n.Decomp true m.From≤64:=by
 have hl:n.Decomp.length≤30000:=by omega
 constructor;intro h;obtain⟨r,h1,h2⟩:=zNE hd hl hp;rw[h] at h1;injection h1 with h1;subst h1;have H:=h2 rfl;obtain⟨lo,h3,h4⟩:=zPO hd hl H hp;rw[h] at h3;injection h3 with h3;injection h3 with _ h3;exact⟨H,h4.1 h3.symm⟩
 rintro⟨H,h⟩
 obtain⟨lo,h3,h4⟩:=zPO hd hl H hp;rw[h3,h4.2 h]
theorem z85 {l:List Mapping} (hd:DS l) (H:∀m∈l,WW l m.From) (h:∀m∈l,wt l true m.From≤64) (c:Int):wt l true c≤64:=by
 cases hf:l.find? (isF c) with
 | some m=>obtain⟨h1,rfl⟩:=zEL hf;exact h m h1
 | none=>
  rw[zRX (zPM hd H) c,zG5 hf];have:=zKY c;simp only[];omega
end Go.M
namespace Go.M
open Go.AV
set_option linter.unusedSimpArgs false
set_option linter.unusedVariables false
def sg (a b:Int):Int:=if a<b then -1 else if b<a then 1 else 0
theorem zYS (a b:Int):decide (sg a b<0)=decide (a<b):=by unfold sg;by_cases h:a<b;simp[h];by_cases h2:b<a<;>simp[h,h2]
theorem zYT {α:Type} [Inhabited α] {l m:List α} {k:Nat} (h:k<l.length):nth (l++m) k=nth l k:=by simp[nth,List.getElem?_append_left h]
theorem zYU {α:Type} [Inhabited α] {l m:List α} {k j:Nat} (h:k=l.length+j):nth (l++m) k=nth m j:=by subst h;simp[nth,List.getElem?_append_right]
theorem wn {n:Int} (h1:0≤n) (h2:n≤1000000):wi n=n:=wN (by omega) (by omega)
theorem z7I:∀(U V p W s:List Int) (k:Nat) (N A B:Int),U.length=V.length→N=((k+U.length:Nat):Int)→A+k=(p.length:Int)→B+k=((p.length+U.length+W.length:Nat):Int)→0≤A→0≤B→p.length+U.length+W.length+V.length≤30000→k≤30000→
  zX (fun (x:Int×(List Int))=>kX N B A x.1 x.2) ((k:Int),p++U++W++V++s)=some (p++V++W++U++s)
 | [],[],p,W,s,k,N,A,B,_,hN,_,_,_,_,_,_=>by
  refine yI ?_;show kX N B A (k:Int) _=_;simp only[kX,hN,jM (k:=k) (n:=k+0) (by omega),List.length_nil,cond_false]
 | u::U,v::V,p,W,s,k,N,A,B,hl,hN,hA,hB,hA0,hB0,hs,hk=>by
  have hU:U.length=V.length:=by simpa using hl
  simp only[List.length_cons] at hN hB hs;have ih:=z7I U V (p++ [v]) (W++ [u]) s (k+1) N A B hU (by rw[hN];omega) (by simp;omega) (by simp;omega) hA0 hB0 (by simp;omega) (by omega)
  have e1:p++u::U++W++v::V++s=(p++u::U++W)++v::(V++s):=by simp
  have e2:p++u::U++W++v::V++s=p++u::(U++W++v::V++s):=by simp
  have i1:kV (p++u::U++W++v::V++s) (wi (B+k))=some v:=by
   rw[wn (by omega) (by omega),hB,e1];exact wQ (by simp;omega)
  have i2:kV (p++u::U++W++v::V++s) (wi (A+k))=some u:=by
   rw[wn (by omega) (by omega),hA,e2];exact wQ rfl
  have s1:zBE (p++u::U++W++v::V++s) (wi (A+k)) v=some (p++v::(U++W++v::V++s)):=by
   rw[wn (by omega) (by omega),hA,e2];exact zA3 rfl
  have e3:p++v::(U++W++v::V++s)=(p++v::U++W)++v::(V++s):=by simp
  have i3:kV (p++v::(U++W++v::V++s)) (wi (B+k))=some v:=by
   rw[wn (by omega) (by omega),hB,e3];exact wQ (by simp;omega)
  have s2:zBE (p++v::(U++W++v::V++s)) (wi (B+k)) u=some ((p++v::U++W)++u::(V++s)):=by
   rw[wn (by omega) (by omega),hB,e3];exact zA3 (by simp;omega)
  rw[yQ (x':=(((k+1:Nat):Int),(p++ [v])++U++(W++ [u])++V++s))]
  ·rw[ih];simp
  ·show kX N B A (k:Int) _=_
   simp only[kX,hN,k6 (k:=k) (n:=k+(U.length+1)) (by omega),cond_true,i1,i2,s1,i3,s2,zH,yB (k:=k) (by omega)];simp
theorem zTI {U V p W s:List Int} {N A B:Int} {f:Int→Int→Option Int} (hl:U.length=V.length) (hN:N=(U.length:Int)) (hA:A=(p.length:Int)) (hB:B=((p.length+U.length+W.length:Nat):Int)) (hs:p.length+U.length+W.length+V.length≤30000):
  jE (p++U++W++V++s) A B N f=some (p++V++W++U++s):=by
 unfold jE;have:=z7I U V p W s 0 N A B hl (by rw[hN];simp) (by rw[hA];simp) (by rw[hB];simp) (by omega) (by omega) hs (by omega)
 rw[show ((0:Nat):Int)=0 from rfl] at this;rw[this];rfl
theorem z86 {f:Int→Int→Option Int} (M:Nat):∀(n:Nat) (P U V S:List Int),U.length+V.length≤n→(P++U).length=M→0<U.length→0<V.length→P.length+U.length+V.length≤30000→
  ∃(i:Nat) (d:List Int),zX (fun (x:Int×Int×(List Int))=>kP (M:Int) f x.1 x.2.1 x.2.2) ((U.length:Int),(V.length:Int),P++U++V++S)=some ((i:Int),d)∧i≤M∧
   jE d (wi ((M:Int)-(i:Int))) (M:Int) (i:Int) f=some (P++V++U++S)
 | 0,P,U,V,S,hn,hM,hU,hV,hs=>by omega
 | n+1,P,U,V,S,hn,hM,hU,hV,hs=>by
  simp only[List.length_append] at hM;by_cases e:U.length=V.length
  ·refine⟨U.length,P++U++V++S,yI ?_,by omega,?_⟩
   ·show kP (M:Int) f (U.length:Int) (V.length:Int) _=_
    simp only[kP,e,decide_true,Bool.not_true,cond_false]
   ·rw[wn (by omega) (by omega)]
    have:=zTI (U:=U) (V:=V) (p:=P) (W:=[]) (s:=S) (N:=U.length) (A:=(M:Int)-(U.length:Int)) (B:=(M:Int)) (f:=f) e rfl (by omega) (by simp;omega) (by simp;omega)
    simpa using this
  ·by_cases hlt:V.length<U.length
   ·have ih:=z86 (f:=f) M n (P++V) (U.drop V.length) (U.take V.length) S (by simp;omega) (by simp;omega) (by simp;omega) (by simp;omega) (by simp;omega)
    obtain⟨i,d,h1,h2,h3⟩:=ih;refine⟨i,d,?_,h2,?_⟩
    ·rw[yQ (x':=(((U.drop V.length).length:Int),((U.take V.length).length:Int),(P++V)++U.drop V.length++U.take V.length++S))]
     ·exact h1
     ·show kP (M:Int) f (U.length:Int) (V.length:Int) _=_
      have hsw:=zTI (U:=U.take V.length) (V:=V) (p:=P) (W:=U.drop V.length) (s:=S) (N:=V.length) (A:=(M:Int)-(U.length:Int)) (B:=(M:Int)) (f:=f) (by simp;omega) (by simp;omega) (by omega) (by simp;omega) (by simp;omega)
      rw[show P++U.take V.length++U.drop V.length++V++S=P++U++V++S by rw[List.append_assoc P,List.take_append_drop]] at hsw;have e1:(!decide ((U.length:Int)=(V.length:Int)))=true:=by simp;omega
      simp only[kP,e1,cond_true,k6 hlt,wn (n:=(M:Int)-(U.length:Int)) (by omega) (by omega),wn (n:=(U.length:Int)-(V.length:Int)) (by omega) (by omega),hsw,zH];simp only[List.length_drop,List.length_take];rw[show ((U.length-V.length:Nat):Int)=(U.length:Int)-(V.length:Int) by omega,show ((min V.length U.length:Nat):Int)=(V.length:Int) by omega]
    ·rw[h3,List.append_assoc (P++V),List.take_append_drop]
   ·have hlt:U.length<V.length:=by omega
    have ih:=z86 (f:=f) M n P (V.drop (V.length-U.length)) (V.take (V.length-U.length)) (U++S) (by simp;omega) (by simp;omega) (by simp;omega) (by simp;omega) (by simp;omega)
    obtain⟨i,d,h1,h2,h3⟩:=ih;refine⟨i,d,?_,h2,?_⟩
    ·rw[yQ (x':=(((V.drop (V.length-U.length)).length:Int),((V.take (V.length-U.length)).length:Int),P++V.drop (V.length-U.length)++V.take (V.length-U.length)++(U++S)))]
     ·exact h1
     ·show kP (M:Int) f (U.length:Int) (V.length:Int) _=_
      have hsw:=zTI (U:=U) (V:=V.drop (V.length-U.length)) (p:=P) (W:=V.take (V.length-U.length)) (s:=S) (N:=U.length) (A:=(M:Int)-(U.length:Int)) (B:=(M:Int)+(V.length:Int)-(U.length:Int)) (f:=f) (by simp;omega) rfl (by omega) (by simp;omega) (by simp;omega)
      rw[show P++U++V.take (V.length-U.length)++V.drop (V.length-U.length)++S=P++U++V++S by rw[List.append_assoc (P++U),List.take_append_drop]] at hsw;have e1:(!decide ((U.length:Int)=(V.length:Int)))=true:=by simp;omega
      simp only[kP,e1,cond_true,jM (k:=V.length) (n:=U.length) (by omega),cond_false,wn (n:=(M:Int)-(U.length:Int)) (by omega) (by omega),wn (n:=(M:Int)+(V.length:Int)) (by omega) (by omega),wn (n:=(M:Int)+(V.length:Int)-(U.length:Int)) (by omega) (by omega),wn (n:=(V.length:Int)-(U.length:Int)) (by omega) (by omega),hsw,zH];simp only[List.length_drop,List.length_take,List.append_assoc];rw[show ((V.length-(V.length-U.length):Nat):Int)=(U.length:Int) by omega,show ((min (V.length-U.length) V.length:Nat):Int)=(V.length:Int)-(U.length:Int) by omega]
    ·rw[h3]
     rw[show P++V.take (V.length-U.length)++V.drop (V.length-U.length)++(U++S)=P++(V.take (V.length-U.length)++V.drop (V.length-U.length))++U++S by simp,List.take_append_drop]
theorem z87 {f:Int→Int→Option Int} {P U V S:List Int} {a m b:Int} (ha:a=(P.length:Int)) (hm:m=((P++U).length:Nat)) (hb:b=((P++U++V).length:Nat)) (hU:0<U.length) (hV:0<V.length) (hs:P.length+U.length+V.length≤30000):
  xG (P++U++V++S) a m b f=some (P++V++U++S):=by
 obtain⟨i,d,h1,h2,h3⟩:=z86 (f:=f) (P++U).length (U.length+V.length) P U V S (Nat.le_refl _) rfl hU hV hs;unfold xG;have e1:wi (m-a)=(U.length:Int):=by rw[wn (by simp at hm;omega) (by simp at hm;omega)];simp at hm;omega
 have e2:wi (b-m)=(V.length:Int):=by rw[wn (by simp at hm hb;omega) (by simp at hm hb;omega)];simp at hm hb;omega
 rw[e1,e2,hm,h1,zH,h3];rfl
end Go.M
namespace Go.M
open Go.AV
set_option linter.unusedSimpArgs false
set_option linter.unusedVariables false
section
variable (key:Int→Int)
def Srt (l:List Int):Prop:=l.Pairwise fun x y=>key x≤key y
def Flt (a b:List Int):Prop:=a.Perm b∧∀k,a.filter (fun x=>decide (key x=k))=b.filter (fun x=>decide (key x=k))
end
section
variable {key:Int→Int}
theorem Flt.refl (a:List Int):Flt key a a:=⟨.refl _,fun _=>rfl⟩
theorem Flt.trans {a b c:List Int} (h:Flt key a b) (k:Flt key b c):Flt key a c:=⟨h.1.trans k.1,fun q=>(h.2 q).trans (k.2 q)⟩
theorem Flt.symm {a b:List Int} (h:Flt key a b):Flt key b a:=⟨h.1.symm,fun q=>(h.2 q).symm⟩
theorem Flt.app {a b c d:List Int} (h:Flt key a b) (k:Flt key c d):Flt key (a++c) (b++d):=⟨h.1.append k.1,fun q=>by rw[List.filter_append,List.filter_append,h.2 q,k.2 q]⟩
theorem Flt.swap {a b:List Int} (h:∀x∈a,∀y∈b,key x≠key y):Flt key (a++b) (b++a):=⟨List.perm_append_comm,fun q=>by
 rw[List.filter_append,List.filter_append];by_cases hq:∃x∈a,key x=q
 ·obtain⟨x,hx,e⟩:=hq
  have:b.filter (fun x=>decide (key x=q))= []:=by
   rw[List.filter_eq_nil_iff];intro y hy he;exact h x hx y hy (by rw[e];simpa using Eq.symm (by simpa using he))
  rw[this];simp
 ·have:a.filter (fun x=>decide (key x=q))= []:=by
   rw[List.filter_eq_nil_iff];intro y hy he;exact hq ⟨y,hy,by simpa using he⟩
  rw[this];simp⟩
theorem Flt.mem {a b:List Int} (h:Flt key a b) {x:Int}:x∈a↔x∈b:=h.1.mem_iff
theorem Flt.len {a b:List Int} (h:Flt key a b):a.length=b.length:=h.1.length_eq
theorem zF8 {a b:List Int}:Srt key (a++b)↔Srt key a∧Srt key b∧∀x∈a,∀y∈b,key x≤key y:=List.pairwise_append
theorem zHM {l:List Int} (h:Srt key l) {i j:Nat} (hij:i≤j) (hj:j<l.length):key (nth l i)≤key (nth l j):=by rcases Nat.lt_or_eq_of_le hij with h1 | rfl;rw[vU hj,vU (by omega:i<l.length)];exact List.pairwise_iff_getElem.1 h i j _ _ h1;exact Int.le_refl _
theorem zV5:∀{a b:List Int},Srt key a→Srt key b→Flt key a b→a=b
 | [],b,_,_,h=>by have:=h.len;exact(List.eq_nil_of_length_eq_zero (by simpa using this.symm)).symm
 | x::a,[],_,_,h=>by have:=h.len;simp at this
 | x::a,y::b,ha,hb,h=>by
  have hxy:key x=key y:=by
   have h1:x∈y::b:=h.mem.1 (by simp);have h2:y∈x::a:=h.mem.2 (by simp);have l1:key y≤key x:=by
    rcases List.mem_cons.1 h1 with e | e;rw[e];exact Int.le_refl _;exact List.rel_of_pairwise_cons hb e
   have l2:key x≤key y:=by
    rcases List.mem_cons.1 h2 with e | e;rw[e];exact Int.le_refl _;exact List.rel_of_pairwise_cons ha e
   omega
  have hf:=h.2 (key x);rw[List.filter_cons_of_pos (by simp),List.filter_cons_of_pos (by simp[hxy])] at hf;have hx:x=y:=(List.cons.inj hf).1;subst hx;have hr:Flt key a b:=⟨h.1.cons_inv,fun k=>by
   have:=h.2 k;by_cases e:key x=k;rw[List.filter_cons_of_pos (by simpa using e),List.filter_cons_of_pos (by simpa using e)] at this;exact(List.cons.inj this).2;rw[List.filter_cons_of_neg (by simpa using e),List.filter_cons_of_neg (by simpa using e)] at this;exact this⟩
  rw[zV5 (List.Pairwise.of_cons ha) (List.Pairwise.of_cons hb) hr]
theorem z3C {k:Nat} (h:k+1≤1000000):wi (((k+1:Nat):Int)-1)=(k:Int):=by rw[wn (by omega) (by omega)];omega
theorem zV6 (lt:Int→Int→Bool):∀(r:List Int) (x:Int) (s:List Int) (y:Int),y∈vV lt r x s→y∈r∨y=x∨y∈s
 | [],x,s,y,h=>by
  rcases List.mem_cons.1 h with h | h;exact .inr (.inl h);exact .inr (.inr h)
 | z::r,x,s,y,h=>by
  unfold vV at h;split at h;rcases zV6 lt r x (z::s) y h with h | h | h
  exact .inl (List.mem_cons_of_mem _ h);exact .inr (.inl h);rcases List.mem_cons.1 h with h | h
  exact .inl (by rw[h];exact List.mem_cons_self)
  exact .inr (.inr h);rcases List.mem_append.1 h with h | h
  exact .inl (List.mem_reverse.1 h);rcases List.mem_cons.1 h with h | h
  exact .inr (.inl h);exact .inr (.inr h)
section
variable {Q:Int→Prop} {lt:Int→Int→Bool} {g:Int→Int→Option Int} (hq:∀x y,Q x→Q y→∃c,g x y=some c∧decide (c<0)=lt x y)
include hq
theorem z7J (p t:List Int):∀(r:List Int) (x:Int) (s:List Int),Q x→(∀y∈r,Q y)→p.length+r.length≤30000→zX (fun (q:Int×List Int)=>yV (p.length:Int) g q.1 q.2) (((p.length+r.length:Nat):Int),p++(r.reverse++x::s)++t)=some (p++vV lt r x s++t)
 | [],x,s,_,_,_=>by
  refine yI ?_;show yV (p.length:Int) g _ _=_;simp only[yV,List.length_nil,jM (k:=p.length) (n:=p.length+0) (by omega),yE,zBC,zH,Bool.false_and,cond_false];rfl
 | y::r,x,s,hx,hr,h=>by
  simp only[List.length_cons] at h;have e1:p++((y::r).reverse++x::s)++t=(p++r.reverse++ [y])++x::(s++t):=by simp
  have e2:p++((y::r).reverse++x::s)++t=(p++r.reverse)++y::(x::s++t):=by simp
  have hk:((p.length+(y::r).length:Nat):Int)=((p.length+r.length+1:Nat):Int):=by simp;omega
  have i1:kV (p++((y::r).reverse++x::s)++t) ((p.length+r.length+1:Nat):Int)=some x:=by rw[e1];exact wQ (by simp;omega)
  have i2:kV (p++((y::r).reverse++x::s)++t) ((p.length+r.length:Nat):Int)=some y:=by rw[e2];exact wQ (by simp)
  have s1:zBE (p++((y::r).reverse++x::s)++t) ((p.length+r.length+1:Nat):Int) y=some ((p++r.reverse++ [y])++y::(s++t)):=by rw[e1];exact zA3 (by simp;omega)
  have e3:(p++r.reverse++ [y])++y::(s++t)=(p++r.reverse)++y::(y::s++t):=by simp
  have i3:kV ((p++r.reverse++ [y])++y::(s++t)) ((p.length+r.length:Nat):Int)=some y:=by rw[e3];exact wQ (by simp)
  have s2:zBE ((p++r.reverse++ [y])++y::(s++t)) ((p.length+r.length:Nat):Int) x=some ((p++r.reverse)++x::(y::s++t)):=by rw[e3];exact zA3 (by simp)
  have hb:decide ((p.length:Int)<((p.length+r.length+1:Nat):Int))=true:=k6 (by omega);obtain⟨c,hc0,hc1⟩:=hq x y hx (hr y (by simp));cases hc:lt x y with
  | true=>
   rw[hc] at hc1;rw[hk,yQ (x':=(((p.length+r.length:Nat):Int),p++(r.reverse++x::(y::s))++t)),z7J p t r x (y::s) hx (fun z hz=>hr z (by simp[hz])) (by omega)];simp[vV,hc];show yV (p.length:Int) g _ _=_;simp only[yV,hb,yE,wO,z3C (k:=p.length+r.length) (by omega),i1,i2,zH,hc0,hc1,Bool.and_self,cond_true,s1,i3,s2];simp
  | false=>
   rw[hc] at hc1;rw[hk];refine yI ?_;show yV (p.length:Int) g _ _=_;simp only[yV,hb,yE,wO,z3C (k:=p.length+r.length) (by omega),i1,i2,zH,hc0,hc1,Bool.and_false,cond_false];simp[vV,hc]
theorem z7K (p t:List Int):∀(l q:List Int),(∀y∈l,Q y)→(∀y∈q,Q y)→1≤q.length→p.length+q.length+l.length≤30000→zX (fun (x:Int×List Int)=>yP ((p.length+q.length+l.length:Nat):Int) (p.length:Int) g x.1 x.2) (((p.length+q.length:Nat):Int),p++(q++l)++t)=some (p++uT lt l q++t)
 | [],q,_,_,_,_=>by
  refine yI ?_;show yP _ (p.length:Int) g _ _=_;simp only[yP,List.length_nil,jM (k:=p.length+q.length) (n:=p.length+q.length+0) (by omega),cond_false];simp[uT]
 | x::l,q,hl,hqq,hq1,h=>by
  simp only[List.length_cons] at h;have hi:=z7J hq p (l++t) q.reverse x [] (hl x (by simp)) (fun y hy=>hqq y (by simpa using hy)) (by simp;omega)
  rw[List.length_reverse,List.reverse_reverse] at hi;have e1:p++(q++x::l)++t=p++(q++ [x])++(l++t):=by simp
  have hlen:=zPG lt q.reverse x [];simp only[List.length_reverse,List.length_nil] at hlen;have hqn:∀y∈vV lt q.reverse x [],Q y:=fun y hy=>by
   rcases zV6 lt q.reverse x [] y hy with h | h | h;exact hqq y (by simpa using h);rw[h];exact hl x (by simp);cases h
  have ih:=z7K p t l (vV lt q.reverse x []) (fun y hy=>hl y (by simp[hy])) hqn (by omega) (by omega);rw[yQ (x':=(((p.length+(vV lt q.reverse x []).length:Nat):Int),p++(vV lt q.reverse x []++l)++t))];have e2:((p.length+q.length+(x::l).length:Nat):Int)=((p.length+(vV lt q.reverse x []).length+l.length:Nat):Int):=by simp;omega
  rw[e2,ih];rfl;show yP _ (p.length:Int) g _ _=_;simp only[yP,List.length_cons,k6 (k:=p.length+q.length) (n:=p.length+q.length+(l.length+1)) (by omega),cond_true,e1,hi,zH,yB (k:=p.length+q.length) (by omega),hlen];simp only[List.append_assoc];rw[show p.length+q.length+1=p.length+(q.length+1+0) by omega]
theorem yAM {p m t:List Int} {a b:Int} (ha:a=(p.length:Int)) (hb:b=((p.length+m.length:Nat):Int)) (hm:∀y∈m,Q y) (h:p.length+m.length≤30000):jC (p++m++t) a b g=some (p++uT lt m []++t):=by
 unfold jC;have hw:wi (a+1)=((p.length+1:Nat):Int):=by rw[wn (by omega) (by omega)];omega
 rw[hw];cases m with
 | nil=>
  have:zX (fun (x:Int×List Int)=>yP b a g x.1 x.2) (((p.length+1:Nat):Int),p++ []++t)=some (p++ []++t):=yI (by
   show yP b a g _ _=_;simp only[yP,hb,List.length_nil,jM (k:=p.length+1) (n:=p.length+0) (by omega),cond_false])
  rw[this];rfl
 | cons x m=>
  have:=z7K hq p t m [x] (fun y hy=>hm y (by simp[hy])) (fun y hy=>by rw[List.mem_singleton.1 hy];exact hm x (by simp)) (by simp) (by simp at h ⊢;omega)
  rw[ha,hb];have e:p.length+ [x].length+m.length=p.length+(x::m).length:=by simp;omega
  rw[e] at this;simp only[List.length_singleton,List.singleton_append] at this;rw[this];rfl
end
variable {f:Int→Int→Option Int} (hf:∀x y,f x y=some (sg (key x) (key y)))
include hf
theorem yAN {p m t:List Int} {a b:Int} (ha:a=(p.length:Int)) (hb:b=((p.length+m.length:Nat):Int)) (h:p.length+m.length≤30000):jC (p++m++t) a b f=some (p++uT (fun a b=>decide (key a<key b)) m []++t):=
 yAM (Q:=fun _=>True) (fun x y _ _=>⟨_,hf x y,by simp only[zYS]⟩) ha hb (fun _ _=>trivial) h
omit hf in
theorem zV7:∀(r:List Int) (x:Int) (s:List Int),(∀y∈s,key x<key y)→Flt key (r.reverse++x::s) (vV (fun a b=>decide (key a<key b)) r x s)
 | [],x,s,_=>Flt.refl _
 | y::r,x,s,hs=>by
  unfold vV;by_cases hc:key x<key y
  ·
   simp only[hc,decide_true,if_true];refine Flt.trans ?_ (zV7 r x (y::s) (fun z hz=>by
    rcases List.mem_cons.1 hz with e | e
    · rw[e];exact hc
    · exact hs z e))
   have:Flt key ([y]++ [x]) ([x]++ [y]):=Flt.swap (by simp;omega)
   have h2:=(Flt.refl (key:=key) r.reverse).app (this.app (Flt.refl s));simpa using h2
  ·
   simp only[hc,decide_false,Bool.false_eq_true,if_false];exact Flt.refl _
omit hf in
theorem zJ2:∀(l q:List Int),Flt key (q++l) (uT (fun a b=>decide (key a<key b)) l q)
 | [],q=>by simp[uT];exact Flt.refl _
 | x::l,q=>by
  have h1:=zV7 (key:=key) q.reverse x [] (by simp);rw[List.reverse_reverse] at h1;have h2:=(h1.app (Flt.refl l)).trans (zJ2 l (vV (fun a b=>decide (key a<key b)) q.reverse x []));simpa[uT] using h2
omit hf in
theorem zMX (l:List Int):Srt key (uT (fun a b=>decide (key a<key b)) l []):=by
 have:=zIR (fun a b=>decide (key a<key b)) (fun a b c h1 h2=>by simp at *;omega) (fun a b h1=>by simp at *;omega) l [] .nil
 exact this.imp fun {a b} h=>by
  have h:decide (key b<key a)=false:=h;simp at h;exact h
end
end Go.M
namespace Go.M
open Go.AV
set_option linter.unusedSimpArgs false
set_option linter.unusedVariables false
theorem zXL {body:Int×Int→Option (Stp (Int×Int) Int)} (q:Nat→Bool) (A B:Nat)
  (hend:∀k:Nat,A≤k→k≤B→body ((k:Int),(k:Int))=some (.done (k:Int)))
  (hstep:∀lo hi:Nat,A≤lo→lo<hi→hi≤B→body ((lo:Int),(hi:Int))=some (.next (if q ((lo+hi)/2) then ((lo:Int),(((lo+hi)/2:Nat):Int)) else ((((lo+hi)/2+1:Nat):Int),(hi:Int)))))
  (hm:∀i j,A≤i→i≤j→j<B→q i=true→q j=true):
  ∀(n lo hi:Nat),hi-lo≤n→A≤lo→lo≤hi→hi≤B→∃j:Nat,lo≤j∧j≤hi∧zX body ((lo:Int),(hi:Int))=some (j:Int)∧(∀i,lo≤i→i<j→q i=false)∧(∀i,j≤i→i<hi→q i=true):=by
 intro n
 induction n with
 | zero=>
  intro lo hi h1 h2 h3 h4;have:hi=lo:=by omega
  subst this;exact⟨hi,by omega,by omega,yI (hend hi h2 h4),fun i a b=>by omega,fun i a b=>by omega⟩
 | succ n ih=>
  intro lo hi h1 h2 h3 h4;by_cases e:lo=hi
  ·subst e
   exact⟨lo,by omega,by omega,yI (hend lo h2 h4),fun i a b=>by omega,fun i a b=>by omega⟩
  ·have hs:=hstep lo hi h2 (by omega) h4
   cases hq:q ((lo+hi)/2) with
   | true=>
    rw[hq,if_pos rfl] at hs;obtain⟨j,j1,j2,j3,j4,j5⟩:=ih lo ((lo+hi)/2) (by omega) h2 (by omega) (by omega);refine⟨j,j1,by omega,by rw[yQ hs];exact j3,j4,fun i a b=>?_⟩
    by_cases hi':i<(lo+hi)/2
    ·exact j5 i a hi'
    ·exact hm ((lo+hi)/2) i (by omega) (by omega) (by omega) hq
   | false=>
    rw[hq,if_neg (by simp)] at hs;obtain⟨j,j1,j2,j3,j4,j5⟩:=ih ((lo+hi)/2+1) hi (by omega) (by omega) (by omega) h4;refine⟨j,by omega,j2,by rw[yQ hs];exact j3,fun i a b=>?_,j5⟩
    by_cases hi':(lo+hi)/2+1≤i
    ·exact j4 i hi' b
    ·cases hqi:q i with
     | false=>rfl
     | true=>
      have:=hm i ((lo+hi)/2) (by omega) (by omega) (by omega) hqi;rw[hq] at this;cases this
theorem yAO (t:List Int) (x:Int):∀(U p:List Int) (Y:Int),Y=((p.length+U.length+1:Nat):Int)→p.length+U.length≤30000→zX (fun (q:Int×(List Int))=>kZ Y q.1 q.2) ((p.length:Int),p++x::U++t)=some (p++U++x::t)
 | [],p,Y,hY,h=>by
  refine yI ?_;show kZ Y _ _=_;have:wi (Y-1)=((p.length+0:Nat):Int):=by rw[wn (by rw[hY];simp) (by rw[hY];simp;simp at h;omega),hY];simp
  simp only[kZ,this,jM (k:=p.length) (n:=p.length+0) (by omega),cond_false];simp
 | y::U,p,Y,hY,h=>by
  simp only[List.length_cons] at hY h;have hw:wi (Y-1)=((p.length+(U.length+1):Nat):Int):=by rw[wn (by rw[hY];omega) (by rw[hY];omega),hY];omega
  have e1:p++x::y::U++t=p++x::(y::U++t):=by simp
  have e2:p++x::y::U++t=(p++ [x])++y::(U++t):=by simp
  have hk:wi ((p.length:Int)+1)=((p.length+1:Nat):Int):=yB (by omega);have i1:kV (p++x::y::U++t) ((p.length+1:Nat):Int)=some y:=by rw[e2];exact wQ (by simp)
  have i2:kV (p++x::y::U++t) (p.length:Int)=some x:=by rw[e1];exact wQ rfl
  have s1:zBE (p++x::y::U++t) (p.length:Int) y=some ((p++ [y])++y::(U++t)):=by rw[e1,zA3 rfl];simp
  have i3:kV ((p++ [y])++y::(U++t)) ((p.length+1:Nat):Int)=some y:=wQ (by simp);have s2:zBE ((p++ [y])++y::(U++t)) ((p.length+1:Nat):Int) x=some ((p++ [y])++x::(U++t)):=zA3 (by simp);rw[yQ (x':=(((p++ [y]).length:Int),(p++ [y])++x::U++t)),yAO t x U (p++ [y]) Y (by rw[hY];simp;omega) (by simp;omega)]
  simp;show kZ Y _ _=_;simp only[kZ,hw,k6 (k:=p.length) (n:=p.length+(U.length+1)) (by omega),cond_true,hk,i1,i2,s1,i3,s2,zH];simp
theorem yAP (t p:List Int) (y:Int):∀(r:List Int),p.length+r.length≤30000→∀t,zX (fun (q:Int×(List Int))=>k4 (p.length:Int) q.1 q.2) (((p.length+r.length:Nat):Int),p++r.reverse++y::t)=some (p++y::r.reverse++t)
 | [],h,t=>by
  refine yI ?_;show k4 _ _ _=_;simp only[k4,List.length_nil,jM (k:=p.length) (n:=p.length+0) (by omega),cond_false];simp
 | x::r,h,t=>by
  simp only[List.length_cons] at h;have hk:((p.length+(x::r).length:Nat):Int)=((p.length+r.length+1:Nat):Int):=by simp;omega
  have e1:p++(x::r).reverse++y::t=(p++r.reverse++ [x])++y::t:=by simp
  have e2:p++(x::r).reverse++y::t=(p++r.reverse)++x::(y::t):=by simp
  have i1:kV (p++(x::r).reverse++y::t) ((p.length+r.length:Nat):Int)=some x:=by rw[e2];exact wQ (by simp)
  have i2:kV (p++(x::r).reverse++y::t) ((p.length+r.length+1:Nat):Int)=some y:=by rw[e1];exact wQ (by simp;omega)
  have s1:zBE (p++(x::r).reverse++y::t) ((p.length+r.length+1:Nat):Int) x=some ((p++r.reverse++ [x])++x::t):=by rw[e1];exact zA3 (by simp;omega)
  have e3:(p++r.reverse++ [x])++x::t=(p++r.reverse)++x::(x::t):=by simp
  have i3:kV ((p++r.reverse++ [x])++x::t) ((p.length+r.length:Nat):Int)=some x:=by rw[e3];exact wQ (by simp)
  have s2:zBE ((p++r.reverse++ [x])++x::t) ((p.length+r.length:Nat):Int) y=some ((p++r.reverse)++y::(x::t)):=by rw[e3];exact zA3 (by simp)
  rw[hk,yQ (x':=(((p.length+r.length:Nat):Int),p++r.reverse++y::(x::t))),yAP t p y r (by omega) (x::t)];simp;show k4 _ _ _=_;simp only[k4,k6 (k:=p.length) (n:=p.length+r.length+1) (by omega),cond_true,z3C (k:=p.length+r.length) (by omega),i1,i2,s1,i3,s2,zH]
theorem zEM {l:List Int} {x:Int} {n:Nat} (h:x∈l.take n):∃i,i<n∧i<l.length∧nth l i=x:=by obtain⟨i,hi,e⟩:=List.getElem_of_mem h;simp at hi;refine⟨i,by omega,by omega,?_⟩;rw[vU (by omega)];simpa using e
theorem zF9 {l:List Int} {x:Int} {n:Nat} (h:x∈l.drop n):∃i,n≤i∧i<l.length∧nth l i=x:=by obtain⟨i,hi,e⟩:=List.getElem_of_mem h;simp at hi;refine⟨n+i,by omega,by omega,?_⟩;rw[vU (by omega)];simpa using e
section
variable {key:Int→Int} {f:Int→Int→Option Int} (hf:∀x y,f x y=some (sg (key x) (key y)))
include hf
theorem yBT {rec:List Int→Int→Int→Int→(Int→Int→Option Int)→Option (List Int)} {p R s:List Int} {x:Int} {a m b:Int} (hR:Srt key R) (ha:a=(p.length:Int)) (hm:m=((p.length+1:Nat):Int)) (hb:b=((p.length+1+R.length:Nat):Int)) (h:p.length+1+R.length≤30000):
  ∃M,kM rec (p++ [x]++R++s) a m b f=some (p++M++s)∧Srt key M∧Flt key ([x]++R) M:=by
 have hd:∀i,i<R.length→kV (p++ [x]++R++s) ((p.length+1+i:Nat):Int)=some (nth R i):=fun i hi=>by
  rw[yR (by simp;omega),List.append_assoc (p++ [x]),zYU (j:=i) (by simp),zYT hi]
 have hx:kV (p++ [x]++R++s) (p.length:Int)=some x:=by
  rw[show p++ [x]++R++s=p++x::(R++s) by simp];exact wQ rfl
 obtain⟨j,j1,j2,j3,j4,j5⟩:=zXL (body:=fun (q:Int×Int)=>kY (p++ [x]++R++s) a f q.1 q.2) (fun k=>!decide (key (nth R (k-(p.length+1)))<key x)) (p.length+1) (p.length+1+R.length)
  (fun k _ _=>by
   show kY _ a f _ _=_;simp only[kY,jM (Nat.le_refl _),cond_false])
  (fun lo hi h1 h2 h3=>by
   show kY _ a f _ _=_;have e:(lo+hi)/2=p.length+1+((lo+hi)/2-(p.length+1)):=by omega
   have hi':kV (p++ [x]++R++s) (((lo+hi)/2:Nat):Int)=some (nth R ((lo+hi)/2-(p.length+1))):=by
    have:=hd ((lo+hi)/2-(p.length+1)) (by omega);rw[←e] at this;exact this
   simp only[kY,k6 h2,cond_true,zMU (lo:=lo) (hi:=hi) (by omega),hi',ha,hx,zH,hf,zYS];by_cases hc:key (nth R ((lo+hi)/2-(p.length+1)))<key x
   ·simp only[hc,decide_true,cond_true,zH,Bool.not_true,Bool.false_eq_true,if_false,yB (k:=(lo+hi)/2) (by omega)]
   ·simp only[hc,decide_false,cond_false,zH,Bool.not_false,if_true])
  (fun i k h1 h2 h3 hq=>by
   simp only[Bool.not_eq_true',decide_eq_false_iff_not] at hq ⊢;have:=zHM hR (i:=i-(p.length+1)) (j:=k-(p.length+1)) (by omega) (by omega);omega) (R.length) (p.length+1) (p.length+1+R.length) (by omega) (by omega) (by omega) (by omega)
 refine⟨R.take (j-(p.length+1))++ [x]++R.drop (j-(p.length+1)),?_,?_,?_⟩
 ·unfold kM
  have e1:decide (wi (m-a)=1)=true:=by rw[wn (by omega) (by omega)];simp;omega
  rw[e1,cond_true,hm,hb,j3,zH];have:=yAO (R.drop (j-(p.length+1))++s) x (R.take (j-(p.length+1))) p (j:Int) (by simp;omega) (by simp;omega)
  rw[ha];rw[show p++x::R.take (j-(p.length+1))++(R.drop (j-(p.length+1))++s)=p++ [x]++R++s by
   rw[←List.append_assoc,List.append_assoc p,List.cons_append,List.append_assoc p,List.cons_append,List.take_append_drop];simp] at this
  rw[this];simp
 ·have hT:∀y∈R.take (j-(p.length+1)),key y<key x:=fun y hy=>by
   obtain⟨i,i1,i2,rfl⟩:=zEM hy;have:=j4 (p.length+1+i) (by omega) (by omega);simpa using this
  have hD:∀y∈R.drop (j-(p.length+1)),key x≤key y:=fun y hy=>by
   obtain⟨i,i1,i2,rfl⟩:=zF9 hy;have:=j5 (p.length+1+i) (by omega) (by omega);simpa using this
  have hRR:=hR;rw[←List.take_append_drop (j-(p.length+1)) R] at hRR;obtain⟨r1,r2,r3⟩:=zF8.1 hRR;refine zF8.2 ⟨zF8.2 ⟨r1,List.pairwise_singleton _ _,fun y hy z hz=>?_⟩,r2,fun y hy z hz=>?_⟩
  ·simp at hz;rw[hz];have:=hT y hy;omega
  ·rcases List.mem_append.1 hy with hy | hy
   ·exact r3 y hy z hz
   ·simp at hy;rw[hy];exact hD z hz
 ·have hT:∀y∈R.take (j-(p.length+1)),key y<key x:=fun y hy=>by
   obtain⟨i,i1,i2,rfl⟩:=zEM hy;have:=j4 (p.length+1+i) (by omega) (by omega);simpa using this
  have h1:Flt key ([x]++R.take (j-(p.length+1))) (R.take (j-(p.length+1))++ [x]):=Flt.swap fun u hu v hv=>by
   simp at hu;rw[hu];have:=hT v hv;omega
  have h2:=h1.app (Flt.refl (R.drop (j-(p.length+1))));rw[List.append_assoc,List.take_append_drop] at h2;exact h2
theorem yBU {rec:List Int→Int→Int→Int→(Int→Int→Option Int)→Option (List Int)} {p L s:List Int} {y:Int} {a m b:Int} (hL:Srt key L) (h2:2≤L.length) (ha:a=(p.length:Int)) (hm:m=((p.length+L.length:Nat):Int)) (hb:b=((p.length+L.length+1:Nat):Int)) (h:p.length+L.length+1≤30000):
  ∃M,kM rec (p++L++ [y]++s) a m b f=some (p++M++s)∧Srt key M∧Flt key (L++ [y]) M:=by
 have hd:∀i,i<L.length→kV (p++L++ [y]++s) ((p.length+i:Nat):Int)=some (nth L i):=fun i hi=>by
  rw[yR (by simp;omega),List.append_assoc,List.append_assoc,zYU (j:=i) rfl,zYT hi]
 have hy:kV (p++L++ [y]++s) ((p.length+L.length:Nat):Int)=some y:=by
  rw[show p++L++ [y]++s=(p++L)++y::s by simp];exact wQ (by simp)
 obtain⟨j,j1,j2,j3,j4,j5⟩:=zXL (body:=fun (q:Int×Int)=>k3 (p++L++ [y]++s) m f q.1 q.2) (fun k=>decide (key y<key (nth L (k-p.length)))) p.length (p.length+L.length)
  (fun k _ _=>by
   show k3 _ m f _ _=_;simp only[k3,jM (Nat.le_refl _),cond_false])
  (fun lo hi h1 h2 h3=>by
   show k3 _ m f _ _=_;have e:(lo+hi)/2=p.length+((lo+hi)/2-p.length):=by omega
   have hi':kV (p++L++ [y]++s) (((lo+hi)/2:Nat):Int)=some (nth L ((lo+hi)/2-p.length)):=by
    have:=hd ((lo+hi)/2-p.length) (by omega);rw[←e] at this;exact this
   simp only[k3,k6 h2,cond_true,zMU (lo:=lo) (hi:=hi) (by omega),hi',hm,hy,zH,hf,zYS];by_cases hc:key y<key (nth L ((lo+hi)/2-p.length))
   ·simp only[hc,decide_true,Bool.not_true,cond_false,zH,if_true]
   ·simp only[hc,decide_false,Bool.not_false,cond_true,zH,Bool.false_eq_true,if_false,yB (k:=(lo+hi)/2) (by omega)])
  (fun i k h1 h2 h3 hq=>by
   simp only[decide_eq_true_eq] at hq ⊢;have:=zHM hL (i:=i-p.length) (j:=k-p.length) (by omega) (by omega);omega) L.length p.length (p.length+L.length) (by omega) (by omega) (by omega) (by omega)
 have hT:∀z∈L.take (j-p.length),key z≤key y:=fun z hz=>by
  obtain⟨i,i1,i2,rfl⟩:=zEM hz;have:=j4 (p.length+i) (by omega) (by omega);simpa using this
 have hD:∀z∈L.drop (j-p.length),key y<key z:=fun z hz=>by
  obtain⟨i,i1,i2,rfl⟩:=zF9 hz;have:=j5 (p.length+i) (by omega) (by omega);simpa using this
 refine⟨L.take (j-p.length)++([y]++L.drop (j-p.length)),?_,?_,?_⟩
 ·unfold kM
  have e1:decide (wi (m-a)=1)=false:=by rw[wn (by omega) (by omega)];simp;omega
  have e2:decide (wi (b-m)=1)=true:=by rw[wn (by omega) (by omega)];simp;omega
  rw[e1,cond_false,e2,cond_true,ha,hm];rw[hm] at j3;rw[j3,zH];have:=yAP s (p++L.take (j-p.length)) y (L.drop (j-p.length)).reverse (by simp;omega) s
  rw[List.reverse_reverse] at this;have e3:((p++L.take (j-p.length)).length:Int)=(j:Int):=by simp;omega
  have e4:(((p++L.take (j-p.length)).length+(L.drop (j-p.length)).reverse.length:Nat):Int)=((p.length+L.length:Nat):Int):=by simp;omega
  rw[e3,e4] at this;rw[show p++L.take (j-p.length)++L.drop (j-p.length)++y::s=p++L++ [y]++s by rw[List.append_assoc p,List.take_append_drop];simp] at this
  rw[this];simp
 ·have hLL:=hL
  rw[←List.take_append_drop (j-p.length) L] at hLL;obtain⟨r1,r2,r3⟩:=zF8.1 hLL;refine zF8.2 ⟨r1,zF8.2 ⟨List.pairwise_singleton _ _,r2,fun u hu v hv=>?_⟩,fun u hu v hv=>?_⟩
  ·simp at hu;rw[hu];have:=hD v hv;omega
  ·rcases List.mem_append.1 hv with hv | hv
   ·simp at hv;rw[hv];exact hT u hu
   ·exact r3 u hu v hv
 ·have h1:Flt key (L.drop (j-p.length)++ [y]) ([y]++L.drop (j-p.length)):=Flt.swap fun u hu v hv=>by
   simp at hv;rw[hv];have:=hD u hu;omega
  have h2:=(Flt.refl (key:=key) (L.take (j-p.length))).app h1;rw[←List.append_assoc,List.take_append_drop] at h2;exact h2
end
end Go.M
namespace Go.M
open Go.AV
set_option linter.unusedSimpArgs false
set_option linter.unusedVariables false
section
variable {key:Int→Int} {f:Int→Int→Option Int} (hf:∀x y,f x y=some (sg (key x) (key y)))
include hf
theorem yBV {rec:List Int→Int→Int→Int→(Int→Int→Option Int)→Option (List Int)} {p L R s:List Int} {a m b:Int} (hL:Srt key L) (hR:Srt key R) (l2:2≤L.length) (r2:2≤R.length) (ha:a=(p.length:Int)) (hm:m=((p.length+L.length:Nat):Int)) (hb:b=((p.length+L.length+R.length:Nat):Int)) (h:p.length+L.length+R.length≤30000)
  (ih:∀(p L' R' s:List Int) (a m b:Int),2*(L'.length+R'.length)≤L.length+R.length+1→0<L'.length→0<R'.length→Srt key L'→Srt key R'→a=(p.length:Int)→m=((p.length+L'.length:Nat):Int)→b=((p.length+L'.length+R'.length:Nat):Int)→p.length+L'.length+R'.length≤30000→
   ∃M,rec (p++L'++R'++s) a m b f=some (p++M++s)∧Srt key M∧Flt key (L'++R') M):
  ∃M,kM rec (p++L++R++s) a m b f=some (p++M++s)∧Srt key M∧Flt key (L++R) M:=by
 obtain⟨A,hA⟩:∃A,A=p.length:=⟨_,rfl⟩;obtain⟨K,hK⟩:∃K,K=L.length:=⟨_,rfl⟩;obtain⟨N,hN⟩:∃N,N=R.length:=⟨_,rfl⟩;obtain⟨mid,hmid⟩:∃mid,mid=(A+(A+K+N))/2:=⟨_,rfl⟩;have hdL:∀i,i<K→kV (p++L++R++s) ((A+i:Nat):Int)=some (nth L i):=fun i hi=>by
  rw[yR (by simp;omega),List.append_assoc,List.append_assoc,zYU (j:=i) (by omega),zYT (by omega)]
 have hdR:∀i,i<N→kV (p++L++R++s) ((A+K+i:Nat):Int)=some (nth R i):=fun i hi=>by
  rw[yR (by simp;omega),List.append_assoc (p++L),zYU (j:=i) (by simp;omega),zYT (by omega)]
 obtain⟨s0,r0,h0,hs0,hs1,hr0,hr1,hcc⟩:∃s0 r0:Nat,(cond (decide ((mid:Int)<m)) (some (wi (wi ((mid:Int)+m)-b),(mid:Int))) (some (a,m)):Option (Int×Int))=some ((s0:Int),(r0:Int))∧s0≤r0∧A≤s0∧r0≤A+K∧r0≤mid∧((s0=A∧r0=A+K∧A+K≤mid)∨(mid=s0+N∧r0=mid∧mid<A+K)):=by
  by_cases hc:mid<A+K
  ·refine⟨mid+(A+K)-(A+K+N),mid,?_,by omega,by omega,by omega,by omega,.inr ⟨by omega,rfl,by omega⟩⟩
   have:decide ((mid:Int)<m)=true:=by simp;omega
   rw[this,cond_true,wn (n:=(mid:Int)+m) (by omega) (by omega),wn (by omega) (by omega)];congr 2;omega
  ·refine⟨A,A+K,?_,by omega,by omega,by omega,by omega,.inl ⟨rfl,rfl,by omega⟩⟩
   have:decide ((mid:Int)<m)=false:=by simp;omega
   rw[this,cond_false,ha,hm,hA,hK]
 have hmidw:wi ((wu (wi (a+b)))/2 ^ 1)=(mid:Int):=by
  rw[ha,hb,←hA,←hK,←hN,zMU (lo:=A) (hi:=A+K+N) (by omega),hmid]
 have hcR:∀c,s0≤c→c<r0→A≤c∧c-A<K∧A+K≤mid+(A+K)-1-c∧mid+(A+K)-1-c-(A+K)<N:=fun c h1 h2=>by
  rcases hcc with h3 | h3<;>omega
 obtain⟨j,j1,j2,j3,j4,j5⟩:=zXL (body:=fun (q:Int×Int)=>k5 (p++L++R++s) a b m f q.1 q.2) (fun c=>decide (key (nth R (mid+(A+K)-1-c-(A+K)))<key (nth L (c-A)))) s0 r0
  (fun k _ _=>by
   show k5 _ a b m f _ _=_;simp only[k5,jM (Nat.le_refl _),cond_false])
  (fun lo hi h1 h2 h3=>by
   show k5 _ a b m f _ _=_;obtain⟨c1,c2,c3,c4⟩:=hcR ((lo+hi)/2) (by omega) (by omega);have i1:kV (p++L++R++s) (((lo+hi)/2:Nat):Int)=some (nth L ((lo+hi)/2-A)):=by
    have:=hdL ((lo+hi)/2-A) c2;rw[show A+((lo+hi)/2-A)=(lo+hi)/2 by omega] at this;exact this
   have i2:kV (p++L++R++s) ((mid+(A+K)-1-(lo+hi)/2:Nat):Int)=some (nth R (mid+(A+K)-1-(lo+hi)/2-(A+K))):=by
    have:=hdR (mid+(A+K)-1-(lo+hi)/2-(A+K)) c4;rw[show A+K+(mid+(A+K)-1-(lo+hi)/2-(A+K))=mid+(A+K)-1-(lo+hi)/2 by omega] at this;exact this
   have e1:wi (wi (wi ((mid:Int)+m)-1)-(((lo+hi)/2:Nat):Int))=((mid+(A+K)-1-(lo+hi)/2:Nat):Int):=by
    rw[wn (n:=(mid:Int)+m) (by omega) (by omega),wn (n:=(mid:Int)+m-1) (by omega) (by omega),wn (by omega) (by omega)];omega
   simp only[k5,k6 h2,cond_true,hmidw,zMU (lo:=lo) (hi:=hi) (by omega),e1,i1,i2,zH,hf,zYS];by_cases hc:key (nth R (mid+(A+K)-1-(lo+hi)/2-(A+K)))<key (nth L ((lo+hi)/2-A))
   ·simp only[hc,decide_true,Bool.not_true,cond_false,zH,if_true]
   ·simp only[hc,decide_false,Bool.not_false,cond_true,zH,Bool.false_eq_true,if_false,yB (k:=(lo+hi)/2) (by omega)])
  (fun i k h1 h2 h3 hq=>by
   simp only[decide_eq_true_eq] at hq ⊢;obtain⟨c1,c2,c3,c4⟩:=hcR i h1 (by omega);obtain⟨d1,d2,d3,d4⟩:=hcR k (by omega) h3;have q1:=zHM hL (i:=i-A) (j:=k-A) (by omega) (by omega);have q2:=zHM hR (i:=mid+(A+K)-1-k-(A+K)) (j:=mid+(A+K)-1-i-(A+K)) (by omega) (by omega);omega) (r0-s0) s0 r0 (by omega) (by omega) hs0 (by omega)
 obtain⟨L1,hL1⟩:∃x,x=L.take (j-A):=⟨_,rfl⟩;obtain⟨L2,hL2⟩:∃x,x=L.drop (j-A):=⟨_,rfl⟩;obtain⟨R1,hR1⟩:∃x,x=R.take (mid-j):=⟨_,rfl⟩;obtain⟨R2,hR2⟩:∃x,x=R.drop (mid-j):=⟨_,rfl⟩;have eL:L=L1++L2:=by rw[hL1,hL2,List.take_append_drop]
 have eR:R=R1++R2:=by rw[hR1,hR2,List.take_append_drop]
 have nL1:L1.length=j-A:=by rw[hL1];simp;omega
 have nR1:R1.length=mid-j:=by rw[hR1];simp;rcases hcc with h3 | h3<;>omega
 have nL2:L2.length=A+K-j:=by rw[hL2];simp;omega
 have nR2:R2.length=N-(mid-j):=by rw[hR2];simp;omega
 have hjm:j≤mid:=by omega
 have hRN:mid-j≤N:=by rcases hcc with h3 | h3<;>omega
 have hlt:∀x∈R1,∀y∈L2,key x<key y:=fun x hx y hy=>by
  rw[hR1] at hx;rw[hL2] at hy;obtain⟨i,i1,i2,rfl⟩:=zEM hx;obtain⟨k,k1,k2,rfl⟩:=zF9 hy;have hjr:j<r0:=by rcases hcc with h4 | h4<;>omega
  have:=j5 j (Nat.le_refl _) hjr;simp only[decide_eq_true_eq] at this;have q1:=zHM hL (i:=j-A) (j:=k) (by omega) (by omega);have q2:=zHM hR (i:=i) (j:=mid+(A+K)-1-j-(A+K)) (by omega) (by omega);omega
 have hle:∀x∈L1,∀y∈R2,key x≤key y:=fun x hx y hy=>by
  rw[hL1] at hx;rw[hR2] at hy;obtain⟨i,i1,i2,rfl⟩:=zEM hx;obtain⟨k,k1,k2,rfl⟩:=zF9 hy;have hjs:s0<j:=by rcases hcc with h4 | h4<;>omega
  have:=j4 (j-1) (by omega) (by omega);simp only[decide_eq_false_iff_not] at this;have q1:=zHM hL (i:=i) (j:=j-1-A) (by omega) (by omega);have q2:=zHM hR (i:=mid+(A+K)-1-(j-1)-(A+K)) (j:=k) (by omega) (by omega);omega
 rw[eL] at hL;rw[eR] at hR;obtain⟨sL1,sL2,hLL⟩:=zF8.1 hL;obtain⟨sR1,sR2,hRR⟩:=zF8.1 hR;have hend:wi (wi ((mid:Int)+m)-(j:Int))=((mid+(A+K)-j:Nat):Int):=by
  rw[wn (n:=(mid:Int)+m) (by omega) (by omega),wn (by omega) (by omega)];omega
 unfold kM;have e1:decide (wi (m-a)=1)=false:=by rw[wn (by omega) (by omega)];simp;omega
 have e2:decide (wi (b-m)=1)=false:=by rw[wn (by omega) (by omega)];simp;omega
 simp only[e1,cond_false,e2,hmidw,h0,zH,j3,hend,yE];have hrot:(cond (decide ((j:Int)<m)&&decide (m<((mid+(A+K)-j:Nat):Int))) ((xG (p++L++R++s) (j:Int) m ((mid+(A+K)-j:Nat):Int) f).bind fun t191=>some t191) (some (p++L++R++s)):Option (List Int))=some (p++L1++R1++(L2++R2++s)):=by
  by_cases hc:j<A+K∧A+K<mid+(A+K)-j
  ·have hb1:(decide ((j:Int)<m)&&decide (m<((mid+(A+K)-j:Nat):Int)))=true:=by simp;omega
   have hr:=z87 (f:=f) (P:=p++L1) (U:=L2) (V:=R1) (S:=R2++s) (a:=(j:Int)) (m:=m) (b:=((mid+(A+K)-j:Nat):Int)) (by simp;omega) (by simp;omega) (by simp;omega) (by omega) (by omega) (by simp;omega)
   rw[show p++L1++L2++R1++(R2++s)=p++L++R++s by rw[eL,eR];simp] at hr
   rw[hb1,cond_true,hr];simp
  ·have hb1:(decide ((j:Int)<m)&&decide (m<((mid+(A+K)-j:Nat):Int)))=false:=by
    simp only[Bool.and_eq_false_iff,decide_eq_false_iff_not];by_cases h1:j<A+K
    ·right;omega
    ·left;omega
   rw[hb1,cond_false];by_cases h1:j<A+K
   ·have:R1= []:=List.eq_nil_of_length_eq_zero (by omega)
    rw[eL,eR,this];simp
   ·have:L2= []:=List.eq_nil_of_length_eq_zero (by omega)
    rw[eL,eR,this];simp
 rw[hrot,zH];obtain⟨M1,hM1,sM1,fM1⟩:∃M1,(cond (decide (a<(j:Int))&&decide ((j:Int)<(mid:Int))) ((rec (p++L1++R1++(L2++R2++s)) a (j:Int) (mid:Int) f).bind fun t205=>some t205) (some (p++L1++R1++(L2++R2++s))):Option (List Int))=some (p++M1++(L2++R2++s))∧Srt key M1∧Flt key (L1++R1) M1:=by
  by_cases hc:A<j∧j<mid
  ·have hb1:(decide (a<(j:Int))&&decide ((j:Int)<(mid:Int)))=true:=by simp;omega
   obtain⟨M,h1,h2,h3⟩:=ih p L1 R1 (L2++R2++s) a (j:Int) (mid:Int) (by omega) (by omega) (by omega) sL1 sR1 ha (by omega) (by omega) (by omega);exact⟨M,by rw[hb1,cond_true,h1];rfl,h2,h3⟩
  ·have hb1:(decide (a<(j:Int))&&decide ((j:Int)<(mid:Int)))=false:=by
    simp only[Bool.and_eq_false_iff,decide_eq_false_iff_not];by_cases h1:A<j
    ·right;omega
    ·left;omega
   refine⟨L1++R1,by rw[hb1,cond_false];simp,?_,Flt.refl _⟩
   by_cases h1:A<j
   ·have:R1= []:=List.eq_nil_of_length_eq_zero (by omega)
    rw[this];simpa using sL1
   ·have:L1= []:=List.eq_nil_of_length_eq_zero (by omega)
    rw[this];simpa using sR1
 rw[hM1,zH];have nM1:M1.length=mid-A:=by rw[←fM1.len];simp;omega
 obtain⟨M2,hM2,sM2,fM2⟩:∃M2,(cond (decide ((mid:Int)<((mid+(A+K)-j:Nat):Int))&&decide (((mid+(A+K)-j:Nat):Int)<b)) ((rec (p++M1++(L2++R2++s)) (mid:Int) ((mid+(A+K)-j:Nat):Int) b f).bind fun t219=>some t219) (some (p++M1++(L2++R2++s))):Option (List Int))=some (p++(M1++M2)++s)∧Srt key M2∧Flt key (L2++R2) M2:=by
  by_cases hc:mid<mid+(A+K)-j∧mid+(A+K)-j<A+K+N
  ·have hb1:(decide ((mid:Int)<((mid+(A+K)-j:Nat):Int))&&decide (((mid+(A+K)-j:Nat):Int)<b))=true:=by simp;omega
   obtain⟨M,h1,h2,h3⟩:=ih (p++M1) L2 R2 s (mid:Int) ((mid+(A+K)-j:Nat):Int) b (by omega) (by omega) (by omega) sL2 sR2 (by simp;omega) (by simp;omega) (by simp;omega) (by simp;omega)
   rw[show p++M1++L2++R2++s=p++M1++(L2++R2++s) by simp] at h1;exact⟨M,by rw[hb1,cond_true,h1];simp,h2,h3⟩
  ·have hb1:(decide ((mid:Int)<((mid+(A+K)-j:Nat):Int))&&decide (((mid+(A+K)-j:Nat):Int)<b))=false:=by
    simp only[Bool.and_eq_false_iff,decide_eq_false_iff_not];by_cases h1:mid<mid+(A+K)-j
    ·right;omega
    ·left;omega
   refine⟨L2++R2,by rw[hb1,cond_false];simp,?_,Flt.refl _⟩
   by_cases h1:mid<mid+(A+K)-j
   ·have:R2= []:=List.eq_nil_of_length_eq_zero (by omega)
    rw[this];simpa using sL2
   ·have:L2= []:=List.eq_nil_of_length_eq_zero (by omega)
    rw[this];simpa using sR2
 refine⟨M1++M2,hM2,zF8.2 ⟨sM1,sM2,fun x hx y hy=>?_⟩,?_⟩
 ·have hx:=fM1.mem.2 hx
  have hy:=fM2.mem.2 hy;rcases List.mem_append.1 hx with hx | hx<;>rcases List.mem_append.1 hy with hy | hy
  ·exact hLL x hx y hy
  ·exact hle x hx y hy
  ·have:=hlt x hx y hy;omega
  ·exact hRR x hx y hy
 ·have h1:Flt key (L2++R1) (R1++L2):=Flt.swap fun x hx y hy=>by have:=hlt y hy x hx;omega
  have h2:=(Flt.refl (key:=key) L1).app (h1.app (Flt.refl R2));have h3:=fM1.app fM2;rw[eL,eR];refine Flt.trans ?_ h3;simpa using h2
theorem z3D:∀(n:Nat) (p L R s:List Int) (a m b:Int),L.length+R.length≤2 ^ n→0<L.length→0<R.length→Srt key L→Srt key R→a=(p.length:Int)→m=((p.length+L.length:Nat):Int)→b=((p.length+L.length+R.length:Nat):Int)→p.length+L.length+R.length≤30000→
  ∃M,k7 (n+1) (p++L++R++s) a m b f=some (p++M++s)∧Srt key M∧Flt key (L++R) M:=by
 intro n
 induction n with
 | zero=>intro p L R s a m b h;omega
 | succ n ih=>
  intro p L R s a m b hN l1 r1 hL hR ha hm hb h;show ∃M,kM (k7 (n+1)) (p++L++R++s) a m b f=_∧_;by_cases hl:L.length=1
  ·obtain⟨x,rfl⟩:=List.length_eq_one_iff.1 hl
   exact yBT hf hR ha (by simpa using hm) (by simpa using hb) (by simpa using h)
  ·by_cases hr:R.length=1
   ·obtain⟨y,rfl⟩:=List.length_eq_one_iff.1 hr
    exact yBU hf hL (by omega) ha hm (by simpa using hb) (by simpa using h)
   ·refine yBV hf hL hR (by omega) (by omega) ha hm hb h fun p' L' R' s' a' m' b' h1=>ih p' L' R' s' a' m' b' ?_
    rw[Nat.pow_succ] at hN;omega
end
end Go.M
namespace Go.M
open Go.AV
set_option linter.unusedSimpArgs false
set_option linter.unusedVariables false
section
variable {key:Int→Int} {f:Int→Int→Option Int} (hf:∀x y,f x y=some (sg (key x) (key y)))
theorem k59:(30000:Nat)≤2 ^ 59:=by decide
def OkB (key:Int→Int) (bs:Nat) (Bs:List (List Int)):Prop:= ∀B∈Bs,B.length=bs∧Srt key B
include hf
theorem yBW:∀(n:Nat) (P rest:List Int) (Nn:Int),rest.length≤n→Nn=((P.length+rest.length:Nat):Int)→P.length+rest.length≤30000→
  ∃Bs T0,zX (fun (x:Int×Int×(List Int))=>kF Nn f x.1 x.2.1 x.2.2) ((P.length:Int),((P.length+20:Nat):Int),P++rest)=some (((P.length+(Bs.flatten).length:Nat):Int),P++Bs.flatten++T0)∧OkB key 20 Bs∧T0.length<20∧Flt key rest (Bs.flatten++T0):=by
 intro n
 induction n with
 | zero=>
  intro P rest Nn hn hN h;have:rest= []:=List.eq_nil_of_length_eq_zero (by omega);subst this;refine⟨[],[],yI ?_,(fun B hB=>by cases hB),by simp,Flt.refl _⟩;show kF Nn f _ _ _=_;have e1:decide (((P.length+20:Nat):Int)≤Nn)=false:=by simp at hN ⊢;omega
  simp only[kF,e1,cond_false];simp
 | succ n ih=>
  intro P rest Nn hn hN h;by_cases hc:20≤rest.length
  ·have hs:=yAN hf (p:=P) (m:=rest.take 20) (t:=rest.drop 20) (a:=(P.length:Int)) (b:=((P.length+20:Nat):Int)) rfl (by simp;omega) (by simp;omega)
   rw[List.append_assoc P,List.take_append_drop] at hs;have hfl:=zJ2 (key:=key) (rest.take 20) [];rw[List.nil_append] at hfl;obtain⟨B,hB⟩:∃B,B=uT (fun a b=>decide (key a<key b)) (rest.take 20) []:=⟨_,rfl⟩;rw[←hB] at hs hfl;have hBl:B.length=20:=by rw[←hfl.len];simp;omega
   have hBs:Srt key B:=by rw[hB];exact zMX _
   obtain⟨Bs,T0,h1,h2,h3,h4⟩:=ih (P++B) (rest.drop 20) Nn (by simp;omega) (by rw[hN];simp;omega) (by simp;omega)
   refine⟨B::Bs,T0,?_,?_,h3,?_⟩
   ·rw[yQ (x':=(((P++B).length:Int),(((P++B).length+20:Nat):Int),(P++B)++rest.drop 20)),h1]
    ·simp[Nat.add_assoc]
    ·show kF Nn f _ _ _=_
     have e1:decide (((P.length+20:Nat):Int)≤Nn)=true:=by simp;omega
     have e2:wi (((P.length+20:Nat):Int)+20)=(((P++B).length+20:Nat):Int):=by rw[wn (by omega) (by omega)];simp;omega
     have e3:((P.length+20:Nat):Int)=((P++B).length:Int):=by simp;omega
     simp only[kF,e1,cond_true,hs,zH,e2];rw[e3]
   ·intro C hC
    rcases List.mem_cons.1 hC with e | e
    ·rw[e];exact⟨hBl,hBs⟩
    ·exact h2 C e
   ·have:=hfl.app h4
    rw[List.take_append_drop] at this;simpa using this
  ·refine⟨[],rest,yI ?_,(fun B hB=>by cases hB),by omega,Flt.refl _⟩
   show kF Nn f _ _ _=_;have e1:decide (((P.length+20:Nat):Int)≤Nn)=false:=by simp;omega
   simp only[kF,e1,cond_false];simp
theorem yAQ (bs:Nat) (hb0:0<bs) (hb1:bs≤30000) (T:List Int) (hT:T.length<bs):∀(Bs:List (List Int)) (P:List Int) (Nn:Int),OkB key bs Bs→Nn=((P.length+Bs.flatten.length+T.length:Nat):Int)→P.length+Bs.flatten.length+T.length≤30000→
  ∃Cs Ds,zX (fun (x:Int×Int×(List Int))=>kG Nn (bs:Int) f x.1 x.2.1 x.2.2) ((P.length:Int),((P.length+2*bs:Nat):Int),P++Bs.flatten++T)=some (((P.length+Cs.flatten.length:Nat):Int),P++Cs.flatten++Ds.flatten++T)∧OkB key (2*bs) Cs∧OkB key bs Ds∧Ds.length≤1∧Flt key Bs.flatten (Cs.flatten++Ds.flatten)
 | [],P,Nn,ho,hN,h=>by
  refine⟨[],[],yI ?_,(fun B hB=>by cases hB),(fun B hB=>by cases hB),by simp,Flt.refl _⟩;show kG Nn _ f _ _ _=_;have e1:decide (((P.length+2*bs:Nat):Int)≤Nn)=false:=by simp at hN ⊢;omega
  simp only[kG,e1,cond_false];simp
 | [B],P,Nn,ho,hN,h=>by
  have hB:=(ho B (by simp)).1;refine⟨[],[B],yI ?_,(fun B hB=>by cases hB),ho,by simp,by simpa using Flt.refl B⟩;show kG Nn _ f _ _ _=_;have e1:decide (((P.length+2*bs:Nat):Int)≤Nn)=false:=by simp at hN ⊢;omega
  simp only[kG,e1,cond_false];simp
 | B1::B2::Bs,P,Nn,ho,hN,h=>by
  obtain⟨l1,s1⟩:=ho B1 (by simp);obtain⟨l2,s2⟩:=ho B2 (by simp);simp only[List.flatten_cons,List.length_append] at hN h;obtain⟨M,m1,m2,m3⟩:=z3D hf 59 P B1 B2 (Bs.flatten++T) (P.length:Int) ((P.length+bs:Nat):Int) ((P.length+2*bs:Nat):Int) (Nat.le_trans (by omega) k59) (by omega) (by omega) s1 s2 rfl (by rw[l1]) (by omega) (by omega);have hM:M.length=2*bs:=by rw[←m3.len];simp;omega
  obtain⟨Cs,Ds,h1,h2,h3,h4,h5⟩:=yAQ bs hb0 hb1 T hT Bs (P++M) Nn (fun B hB=>ho B (by simp[hB])) (by rw[hN,List.length_append];omega) (by rw[List.length_append];omega)
  refine⟨M::Cs,Ds,?_,?_,h3,h4,?_⟩
  ·rw[yQ (x':=(((P++M).length:Int),(((P++M).length+2*bs:Nat):Int),(P++M)++Bs.flatten++T)),h1]
   ·simp[Nat.add_assoc]
   ·show kG Nn _ f _ _ _=_
    have e1:decide (((P.length+2*bs:Nat):Int)≤Nn)=true:=by simp;omega
    have e0:wi ((P.length:Int)+(bs:Int))=((P.length+bs:Nat):Int):=by rw[wn (by omega) (by omega)];omega
    have e2:wi (2*(bs:Int))=((2*bs:Nat):Int):=by rw[wn (by omega) (by omega)];omega
    have e3:wi (((P.length+2*bs:Nat):Int)+((2*bs:Nat):Int))=(((P++M).length+2*bs:Nat):Int):=by rw[wn (by omega) (by omega)];simp;omega
    have e4:P++(B1::B2::Bs).flatten++T=P++B1++B2++(Bs.flatten++T):=by simp
    have e5:((P.length+2*bs:Nat):Int)=((P++M).length:Int):=by simp;omega
    simp only[kG,e1,cond_true,e0,e2,e3,e4,m1,zH];rw[e5];simp
  ·intro C hC
   rcases List.mem_cons.1 hC with e | e
   ·rw[e];exact⟨hM,m2⟩
   ·exact h2 C e
  ·have:=m3.app h5
   simpa using this
theorem yBX (Nn:Int) (N:Nat) (hN:Nn=(N:Int)) (hNb:N≤30000):∀(n bs:Nat) (Bs:List (List Int)) (T:List Int),N-bs≤n→0<bs→bs≤60000→OkB key bs Bs→Srt key T→T.length<bs→Bs.flatten.length+T.length=N→
  ∃r,zX (fun (x:Int×(List Int))=>kQ Nn f x.1 x.2) ((bs:Int),Bs.flatten++T)=some r∧Srt key r∧Flt key (Bs.flatten++T) r:=by
 have fin:∀(bs:Nat) (Bs:List (List Int)) (T:List Int),N≤bs→0<bs→OkB key bs Bs→Srt key T→T.length<bs→Bs.flatten.length+T.length=N→
  ∃r,zX (fun (x:Int×(List Int))=>kQ Nn f x.1 x.2) ((bs:Int),Bs.flatten++T)=some r∧Srt key r∧Flt key (Bs.flatten++T) r:=by
  intro bs Bs T h1 h2 h3 h4 h5 h6;refine⟨Bs.flatten++T,yI ?_,?_,Flt.refl _⟩
  ·show kQ Nn f _ _=_
   simp only[kQ,hN,jM h1,cond_false]
  ·cases Bs with
   | nil=>simpa using h4
   | cons B Bs=>
    have hB:=h3 B (by simp);simp only[List.flatten_cons,List.length_append] at h6;have e1:Bs.flatten= []:=List.eq_nil_of_length_eq_zero (by omega);have e2:T= []:=List.eq_nil_of_length_eq_zero (by omega);simp only[List.flatten_cons,e1,e2,List.append_nil];exact hB.2
 intro n
 induction n with
 | zero=>intro bs Bs T h1 h2 h2' h3 h4 h5 h6;exact fin bs Bs T (by omega) h2 h3 h4 h5 h6
 | succ n ih=>
  intro bs Bs T h1 h2 h2' h3 h4 h5 h6;by_cases hc:N≤bs
  ·exact fin bs Bs T hc h2 h3 h4 h5 h6
  ·obtain⟨Cs,Ds,c1,c2,c3,c4,c5⟩:=yAQ hf bs h2 (by omega) T h5 Bs [] Nn h3 (by rw[hN,List.length_nil];omega) (by rw[List.length_nil];omega)
   simp only[List.length_nil,Nat.zero_add,List.nil_append] at c1;have hcd:Cs.flatten.length+Ds.flatten.length=Bs.flatten.length:=by rw[c5.len,List.length_append]
   obtain⟨T',t1,t2,t3,t4⟩:∃T',(cond (decide ((wi (((Cs.flatten.length:Nat):Int)+(bs:Int)))<Nn)) ((k7 60 (Cs.flatten++Ds.flatten++T) ((Cs.flatten.length:Nat):Int) (wi (((Cs.flatten.length:Nat):Int)+(bs:Int))) Nn f).bind fun t60=>some t60) (some (Cs.flatten++Ds.flatten++T)):Option (List Int))=some (Cs.flatten++T')∧Srt key T'∧T'.length<2*bs∧Flt key (Ds.flatten++T) T':=by
    have e0:wi (((Cs.flatten.length:Nat):Int)+(bs:Int))=((Cs.flatten.length+bs:Nat):Int):=by rw[wn (by omega) (by omega)];omega
    match Ds,c3,c4 with
    | [],_,_=>
     simp only[List.flatten_nil,List.length_nil] at hcd;refine⟨T,?_,h4,by omega,by simpa using Flt.refl T⟩;rw[e0,hN,jM (k:=Cs.flatten.length+bs) (n:=N) (by omega),cond_false];simp
    | [D],c3,_=>
     have hD:=c3 D (by simp);simp only[List.flatten_cons,List.flatten_nil,List.append_nil] at hcd ⊢;by_cases hT0:T.length=0
     ·have:T= []:=List.eq_nil_of_length_eq_zero hT0
      subst this;refine⟨D,?_,hD.2,by omega,by simpa using Flt.refl D⟩;rw[e0,hN,jM (k:=Cs.flatten.length+bs) (n:=N) (by rw[List.length_nil] at h6;omega),cond_false]
      simp
     ·obtain⟨M,m1,m2,m3⟩:=z3D hf 59 Cs.flatten D T [] (Cs.flatten.length:Int) ((Cs.flatten.length+bs:Nat):Int) Nn (Nat.le_trans (by omega) k59) (by omega) (by omega) hD.2 h4 rfl (by rw[hD.1]) (by omega) (by omega)
      simp only[List.append_nil] at m1;refine⟨M,?_,m2,by rw[←m3.len,List.length_append];omega,m3⟩
      rw[e0,hN,k6 (k:=Cs.flatten.length+bs) (n:=N) (by omega),cond_true,←hN,m1];rfl
   obtain⟨r,r1,r2,r3⟩:=ih (2*bs) Cs T' (by omega) (by omega) (by omega) c2 t2 t3 (by rw[←t4.len,List.length_append];omega)
   refine⟨r,?_,r2,?_⟩
   ·rw[yQ (x':=(((2*bs:Nat):Int),Cs.flatten++T')),r1]
    show kQ Nn f _ _=_;have e1:decide ((bs:Int)<Nn)=true:=by rw[hN];exact k6 (by omega)
    have e2:wi (2*(bs:Int))=((2*bs:Nat):Int):=by rw[wn (by omega) (by omega)];omega
    have e3:wi ((bs:Int)*2)=((2*bs:Nat):Int):=by rw[wn (by omega) (by omega)];omega
    simp only[kQ,e1,cond_true,e2];have c1':zX (fun (x:Int×Int×(List Int))=>kG Nn (bs:Int) f x.1 x.2.1 x.2.2) (0,((2*bs:Nat):Int),Bs.flatten++T)=some (((Cs.flatten.length:Nat):Int),Cs.flatten++Ds.flatten++T):=c1;rw[c1',zH];simp only[t1,zH,e3]
   ·refine Flt.trans ?_ r3
    have:=c5.app (Flt.refl (key:=key) T);refine this.trans ?_;rw[List.append_assoc];exact(Flt.refl _).app t4
theorem z0M (l:List Int) (h:l.length≤30000):∃r,jK l f=some r∧Srt key r∧Flt key l r:=by
 unfold jK vF;obtain⟨Bs,T0,h1,h2,h3,h4⟩:=yBW hf l.length [] l (l.length:Int) (Nat.le_refl _) (by simp) (by simpa using h);simp only[List.length_nil,Nat.zero_add,List.nil_append] at h1;have h1':zX (fun (x:Int×Int×(List Int))=>kF (l.length:Int) f x.1 x.2.1 x.2.2) (0,20,l)=some (((Bs.flatten.length:Nat):Int),Bs.flatten++T0):=h1;rw[h1',zH];have hl:Bs.flatten.length+T0.length=l.length:=by rw[h4.len,List.length_append]
 have hs:=yAN hf (p:=Bs.flatten) (m:=T0) (t:=[]) (a:=((Bs.flatten.length:Nat):Int)) (b:=(l.length:Int)) rfl (by omega) (by omega);simp only[List.append_nil] at hs;have hfl:=zJ2 (key:=key) T0 [];rw[List.nil_append] at hfl;obtain⟨r,r1,r2,r3⟩:=yBX hf (l.length:Int) l.length rfl h l.length 20 Bs (uT (fun a b=>decide (key a<key b)) T0 []) (by omega) (by omega) (by omega) h2 (zMX _) (by rw[←hfl.len];exact h3) (by rw[←hfl.len];exact hl)
 have r1':zX (fun (x:Int×(List Int))=>kQ (l.length:Int) f x.1 x.2) (20,Bs.flatten++uT (fun a b=>decide (key a<key b)) T0 [])=some r:=r1;refine⟨r,?_,r2,h4.trans (((Flt.refl _).app hfl).trans r3)⟩;simp only[hs,zH,r1']
end
end Go.M
namespace Go.M
open Go.AV
theorem z88:CV []:=⟨fun k h=>(by cases h),fun k h=>(by cases h),fun k h=>(by cases h)⟩
theorem yAR {l:List Span} (h:CV l) (x:Int):0≤clE l x:=by
 unfold clE;cases hf:l.find? (zPJ x) with
 | none=>exact Int.le_refl _
 | some s=>
  have:=List.mem_of_find?_eq_some hf;obtain⟨k,hk,rfl⟩:=List.getElem_of_mem this;have:=h.sp k hk;rw[vU hk] at this;unfold spOk at this;show 0≤(l[k]).Value;omega
end Go.M
namespace Go.M
open Go.AV
def n0:Norm:={Classes:=[{Lo:=769,Hi:=769,Value:=230},{Lo:=803,Hi:=803,Value:=220}],Decomp:=[],Excluded:={Ranges:=[]}}
end Go.M
namespace Go.M
open Go.AV
theorem z3E {n:Norm} (h:DS n.Decomp) (hl:n.Decomp.length≤30000) (c:Int) (b:Bool):vO n c b=some (if syl c=true then (hdE c,true) else ((fnB n.Decomp b c).getD [],(fnB n.Decomp b c).isSome)):=by
 unfold vO;rw[zJ0,zH];by_cases hs:syl c=true;have e:decide (4≤hkE c)=true:=by simpa using (zF7 c).1 hs
 simp only[e,cond_true,zYH hs,zH,hs,if_true];have e:decide (4≤hkE c)=false:=by simp only[decide_eq_false_iff_not];exact fun hh=>hs ((zF7 c).2 hh)
 simp only[Bool.not_eq_true] at hs;simp only[e,cond_false,hs,Bool.false_eq_true,if_false];obtain⟨i,hb,hp⟩:=zYK h hl c;rw[hb];simp only[zH,yE];unfold fnB;cases hf:n.Decomp.find? (isF c) with
 | none=>simp[zBC]
 | some m=>
  obtain⟨h1,h2⟩:=hp m hf;simp only[Option.isSome_some,Bool.not_true,Bool.not_false,wO,yR h1,h2,zH,Bool.false_or];cases b<;>cases hm:(m.Tag== [])<;>simp[hm]
section
variable {n:Norm} {b:Bool} (hd:DS n.Decomp) (hl:n.Decomp.length≤30000) (hD:∀c,DD n.Decomp n.Decomp.length c) (hw:∀c,(fu n.Decomp b c).length≤64)
def XOk (l:List Mapping) (b:Bool) (m:List (Int×List Int)):Prop:= ∀k v,mget m k=some v→v=fu l b k
def zYV (l:List Mapping) (f:Nat) (c:Int):Prop:=(∃k,DD l k c∧k+2≤f)∨(l.find? (isF c)=none∧syl c=false∧1≤f)
include hw in
theorem z89 {f:Nat} (ih:∀c m,XOk n.Decomp b m→zYV n.Decomp f c→∃m',jA f c m n b=some (fu n.Decomp b c,m')∧XOk n.Decomp b m') (L:List Int) (hL:L.length≤30000) (hn:∀e∈L,zYV n.Decomp f e):
  ∀(d i:Nat) (acc:List Int) (m:List (Int×List Int)),L.length-i=d→i≤L.length→acc.length≤64*i→XOk n.Decomp b m→
   ∃m',zX (fun (x:Int×(List Int)×(List (Int×(List Int))))=>jU (L,true) (jA f) n b x.1 x.2.1 x.2.2) ((i:Int),acc,m)=some (acc++(L.drop i).flatMap (fu n.Decomp b),m')∧XOk n.Decomp b m':=by
 intro d
 induction d with
 | zero=>
  intro i acc m h1 h2 h3 h4;refine⟨m,?_,h4⟩;refine yI ?_;rw[List.drop_of_length_le (show L.length≤i by omega)];simp only[jU,jM (show L.length≤i by omega),cond_false,List.flatMap_nil,List.append_nil]
 | succ d ihd=>
  intro i acc m h1 h2 h3 h4;have hi:i<L.length:=by omega
  obtain⟨m1,hr,r1⟩:=ih L[i] m h4 (hn _ (List.getElem_mem hi));have hw1:=hw L[i];have ha:app acc (fu n.Decomp b L[i])=some (acc++fu n.Decomp b L[i]):=zAO (by omega);rw[yQ (x':=(((i+1:Nat):Int),acc++fu n.Decomp b L[i],m1)) (by
   simp only[jU,k6 hi,cond_true,yW hi,zH,hr,ha,yB (k:=i) (by omega)])]
  obtain⟨m2,hq,q1⟩:=ihd (i+1) (acc++fu n.Decomp b L[i]) m1 (by omega) (by omega) (by rw[List.length_append];omega) r1
  refine⟨m2,?_,q1⟩;rw[hq,List.drop_eq_getElem_cons hi,List.flatMap_cons,List.append_assoc]
include hd hl hD hw in
theorem yAS:∀(f:Nat) (c:Int) (m:List (Int×List Int)),XOk n.Decomp b m→zYV n.Decomp f c→∃m',jA f c m n b=some (fu n.Decomp b c,m')∧XOk n.Decomp b m':=by
 intro f
 induction f with
 | zero=>intro c m _ hn;exfalso;rcases hn with ⟨k,_,h⟩ | ⟨_,_,h⟩<;>omega
 | succ f ih=>
  intro c m hm hn;show ∃m',wI (jA f) c m n b=some _∧_;unfold wI;cases hh:wK m c with
  | true=>
   obtain⟨v,hv⟩:=Option.isSome_iff_exists.1 hh;have hg:xI m c []=v:=by unfold xI;rw[hv];rfl
   rw[cond_true,hg,hm c v hv];exact⟨m,rfl,hm⟩
  | false=>
   rw[cond_false,z3E hd hl,zH];have fin:∀(L:List Int),L.length≤30000→(∀e∈L,zYV n.Decomp f e)→L.flatMap (fu n.Decomp b)=fu n.Decomp b c→∃m',(cond (!((L,true):List Int×Bool).2) (some ([c],m)) ((zX (fun (x:Int×(List Int)×(List (Int×(List Int))))=>jU (L,true) (jA f) n b x.1 x.2.1 x.2.2) (0,[],m)).bind fun (y1:(List Int)×(List (Int×(List Int))))=>some (y1.1,wD y1.2 c y1.1)))=some (fu n.Decomp b c,m')∧XOk n.Decomp b m':=by
    intro L hL hne hfl;obtain⟨m1,hq,q1⟩:=z89 hw ih L hL hne L.length 0 [] m (by omega) (by omega) (by simp) hm;rw[List.drop_zero,List.nil_append,hfl] at hq;have hq':zX (fun (x:Int×(List Int)×(List (Int×(List Int))))=>jU (L,true) (jA f) n b x.1 x.2.1 x.2.2) (0,[],m)=some (fu n.Decomp b c,m1):=hq;simp only[Bool.not_true,cond_false];rw[hq'];refine⟨wD m1 c (fu n.Decomp b c),rfl,fun k v hk=>?_⟩;rw[xU] at hk;split at hk;rename_i hx;cases hk;rw[hx];exact q1 k v hk
   cases hs:syl c with
   | true=>
    simp only[if_true];have hnone:=zV3 hd hs;have hpt:∀e∈hdE c,n.Decomp.find? (isF e)=none∧syl e=false:=by
     intro e he;obtain⟨p1,p2⟩:=zPI hs he;refine⟨?_,p1⟩;cases hf2:n.Decomp.find? (isF e) with
     | none=>rfl
     | some m=>obtain⟨q1,rfl⟩:=zEL hf2;exact absurd (hd.hk m q1) p2
    refine fin (hdE c) (by have:=zKY c;omega) (fun e he=>?_) ?_
    obtain⟨p1,p2⟩:=hpt e he;refine .inr ⟨p1,p2,?_⟩;rcases hn with ⟨k,_,h⟩ | ⟨_,h,_⟩;omega;rw[hs] at h;cases h;have h1:fu n.Decomp b c=hdE c:=by rw[zNF hD,zG5 hnone]
    rw[h1];have:∀L:List Int,(∀e∈L,n.Decomp.find? (isF e)=none∧syl e=false)→L.flatMap (fu n.Decomp b)=L:=by
     intro L
     induction L with
     | nil=>intro _;rfl
     | cons x L ihL=>
      intro h;obtain⟨p1,p2⟩:=h x (by simp);have hx:fu n.Decomp b x= [x]:=by rw[zNF hD,zG5 p1];show hdE x= [x];unfold hdE;rw[if_neg (by simp[p2])]
      rw[List.flatMap_cons,hx,ihL fun e he=>h e (by simp[he])];rfl
    exact this _ hpt
   | false=>
    simp only[Bool.false_eq_true,if_false];cases hf:fnB n.Decomp b c with
    | none=>
     simp only[Option.getD_none,Option.isSome_none,Bool.not_false,cond_true];refine⟨m,?_,hm⟩;rw[zNF hD,hf];have:hdE c= [c]:=by unfold hdE;rw[if_neg (by simp[hs])]
     simp only[this]
    | some to=>
     simp only[Option.getD_some,Option.isSome_some];obtain⟨mm,h1,rfl,_⟩:=zG4 hf;obtain⟨h2,_⟩:=zEL h1;refine fin mm.To (hd.len mm h2) (fun e he=>?_) (by rw[zNF hD c,hf]);rcases hn with ⟨k,hk,h⟩ | ⟨h,_,_⟩
     cases k with
     | zero=>have:n.Decomp.find? (isF c)=none:=hk;rw[this] at h1;cases h1
     | succ k=>exact .inl ⟨k,hk mm h1 e he,by omega⟩
     rw[h] at h1;cases h1
end
noncomputable def usN (n:Norm):Norm:=open Classical in if VD0 n then n else {Classes:=[],Decomp:=[],Excluded:={Ranges:=[]}}
structure GN (n:Norm):Prop where
 ds:DS n.Decomp
 cv:CV n.Classes
 H:∀m∈n.Decomp,WW n.Decomp m.From
 w:∀m∈n.Decomp,wt n.Decomp true m.From≤64
 cl:n.Classes.length≤40
 de:n.Decomp.length≤40
 ok:∀x∈n.Classes,okSpan x
theorem zTJ {n:Norm} (hs:NSm n) (hok:zAM n):GN (usN n):=by
 unfold usN;split;rename_i h;obtain⟨h1,h2⟩:=(z3B h.ds (by have:=hs.de;omega)).1 h.ms
 exact⟨h.ds,h.cv,h1,h2,hs.cl,hs.de,hok.1.2⟩;exact⟨⟨fun k hk=>(by cases hk),fun m hm=>(by cases hm),fun m hm=>(by cases hm)⟩,z88,fun m hm=>(by cases hm),fun m hm=>(by cases hm),by simp,by simp,fun x hx=>by cases hx⟩
theorem GN.dd {n:Norm} (h:GN n):∀c,DD n.Decomp n.Decomp.length c:=zPM h.ds h.H
theorem GN.len {n:Norm} (h:GN n) (b:Bool) (c:Int):(fu n.Decomp b c).length≤64:=z84 h.ds (z85 h.ds h.H h.w) b c
theorem GN.ex {n:Norm} (h:GN n) {b:Bool} (c:Int) (m:List (Int×List Int)) (hm:XOk n.Decomp b m):∃m',jA 100 c m n b=some (fu n.Decomp b c,m')∧XOk n.Decomp b m':=
 yAS h.ds (by have:=h.de;omega) h.dd (h.len b) 100 c m hm (.inl ⟨_,h.dd c,by have:=h.de;omega⟩)
theorem z6C {n:Norm} (hs:NSm n) (hok:zAM n):uZ n=some (usN n):=by obtain⟨e,he,hv⟩:=z82 hs hok;unfold uZ usN;rw[he,zH];by_cases hz:e=0;rw[if_pos (hv.1 hz)];simp[hz];rw[if_neg (fun h=>hz (hv.2 h))];simp[hz]
theorem zV8 {f:Int→List Int} {k:Nat} (h:∀e,(f e).length≤k):∀L:List Int,(L.flatMap f).length≤k*L.length
 | []=>by simp
 | x::L=>by have:=zV8 h L;have:=h x;rw[List.flatMap_cons,List.length_append,List.length_cons,Nat.mul_succ];omega
theorem z0N {n:Norm} (h:GN n) {b:Bool} {text:List Int} (ht:text.length≤30000):∀(d i:Nat) (acc:List Int) (m:List (Int×List Int)),text.length-i=d→i≤text.length→acc.length≤64*i→XOk n.Decomp b m→
  zX (fun (x:Int×(List Int)×(List (Int×(List Int))))=>wJ text n b x.1 x.2.1 x.2.2) ((i:Int),acc,m)=some (acc++(text.drop i).flatMap (fu n.Decomp b)):=by
 intro d
 induction d with
 | zero=>
  intro i acc m h1 h2 h3 h4;refine yI ?_;rw[List.drop_of_length_le (show text.length≤i by omega)];simp only[wJ,jM (show text.length≤i by omega),cond_false,List.flatMap_nil,List.append_nil]
 | succ d ih=>
  intro i acc m h1 h2 h3 h4;have hi:i<text.length:=by omega
  obtain⟨m1,hr,r1⟩:=h.ex (b:=b) text[i] m h4;have hw1:=h.len b text[i];have ha:app acc (fu n.Decomp b text[i])=some (acc++fu n.Decomp b text[i]):=zAO (by omega);rw[yQ (x':=(((i+1:Nat):Int),acc++fu n.Decomp b text[i],m1)) (by
   simp only[wJ,k6 hi,cond_true,yW hi,zH,hr,ha,yB (k:=i) (by omega)])]
  rw[ih (i+1) (acc++fu n.Decomp b text[i]) m1 (by omega) (by omega) (by rw[List.length_append];omega) r1,List.drop_eq_getElem_cons hi,List.flatMap_cons,List.append_assoc]
noncomputable def zI2 (n:Norm) (b:Bool) (text:List Int):List Int:=text.flatMap (fu (usN n).Decomp b)
theorem z6D {n:Norm} (hs:NSm n) (hok:zAM n) {text:List Int} (ht:text.length≤30000) (b:Bool):zBX n text b=zBA (usN n).Classes (zI2 n b text):=by have h:=zTJ hs hok;unfold zBX zB5;have hu:uZ {Classes:=n.Classes,Decomp:=n.Decomp,Excluded:={Ranges:=n.Excluded.Ranges}}=some (usN n):=z6C hs hok;have hlp:=z0N h (b:=b) ht text.length 0 [] [] (by omega) (by omega) (by simp) (fun k v h=>by cases h);rw[List.drop_zero,List.nil_append] at hlp;have hlp':zX (fun (x:Int×(List Int)×(List (Int×(List Int))))=>wJ text (usN n) b x.1 x.2.1 x.2.2) (0,[],[])=some (zI2 n b text):=hlp;rw[hu,zH,zH,hlp',zH];cases zBA (usN n).Classes (zI2 n b text)<;>rfl
end Go.M
namespace Go.M
open Go.AV
section
variable (key:Int→Int)
def ltK (a b:Int):Bool:=decide (key a<key b)
def ltC (a b:Int):Bool:=decide (0<key a)&&decide (key a<key b)
def srt (l:List Int):List Int:=uT (ltK key) l []
def csE (l:List Int):List Int:=uT (ltC key) l []
def rsE:List Int→List Int→List Int
 | [],run=>srt key run
 | x::t,run=>if key x=0 then srt key run++x::rsE t [] else rsE t (run++ [x])
end
section
variable {key:Int→Int}
theorem z3F (l:List Int) (x:Int):srt key (l++ [x])=vV (ltK key) (srt key l).reverse x []:=by unfold srt uT;rw[List.foldl_append];rfl
theorem zYW (l:List Int):Flt key l (srt key l):=by have:=zJ2 (key:=key) l [];exact this
theorem zYX (l:List Int):(srt key l).length=l.length:=(zYW l).len.symm
theorem zYY {x:Int} (hx:0<key x):∀(r q s:List Int),(∀y,q.head? =some y→key y=0)→vV (ltC key) (r++q) x s=q.reverse++vV (ltK key) r x s
 | [],q,s,hq=>by
  cases q with
  | nil=>rfl
  | cons y q=>
   have:ltC key x y=false:=by unfold ltC;rw[hq y rfl];simp;omega
   show vV (ltC key) (y::q) x s=_;simp only[vV,this,Bool.false_eq_true,if_false]
 | y::r,q,s,hq=>by
  have e:ltC key x y=ltK key x y:=by unfold ltC ltK;simp[hx]
  show vV (ltC key) (y::(r++q)) x s=q.reverse++vV (ltK key) (y::r) x s;simp only[vV,e];cases ltK key x y with
  | true=>simp only[if_true];exact zYY hx r q (y::s) hq
  | false=>simp
theorem z3G (hnn:∀x,0≤key x):∀(t run p:List Int),(∀y,p.reverse.head? =some y→key y=0)→uT (ltC key) t (p++srt key run)=p++rsE key t run
 | [],run,p,_=>rfl
 | x::t,run,p,hp=>by
  show uT (ltC key) t (vV (ltC key) (p++srt key run).reverse x [])=p++rsE key (x::t) run;by_cases h0:key x=0
  ·have e:∀r:List Int,vV (ltC key) r x []=r.reverse++ [x]:=by
    intro r;cases r with
    | nil=>rfl
    | cons y r=>
     have:ltC key x y=false:=by unfold ltC;rw[h0];simp
     simp[vV,this]
   have ih:=z3G hnn t [] (p++srt key run++ [x]) (fun y hy=>by simp at hy;rw[←hy];exact h0)
   have e2:srt key []= []:=rfl;rw[e2,List.append_nil] at ih;rw[e,List.reverse_reverse,ih];simp[rsE,h0]
  ·have hx:0<key x:=by have:=hnn x;omega
   rw[List.reverse_append,zYY hx _ _ _ hp,List.reverse_reverse,←z3F,z3G hnn t (run++ [x]) p hp];simp[rsE,h0]
theorem z9B (hnn:∀x,0≤key x) (t:List Int):csE key t=rsE key t []:=by have:=z3G hnn t [] [] (fun y hy=>by cases hy);exact this
theorem zV9 (t:List Int):(csE key t).Perm t:=by have:=zIQ (ltC key) t [];rw[List.nil_append] at this;exact this
theorem z6E (t:List Int):(csE key t).length=t.length:=(zV9 t).length_eq
theorem zWA {f:List Int→Option (List Int)} {P run T r:List Int} (hpos:0<run.length) (hf:f run=some r):zIX f (P++run++T) (P.length:Int) ((P.length+run.length:Nat):Int)=some (P++r++T):=by
 unfold zIX;have a1:((P.length:Int)).toNat=P.length:=by simp
 have a2:(((P.length+run.length:Nat):Int)).toNat=P.length+run.length:=by omega
 rw[a1,a2,if_pos ⟨by omega,by omega,by rw[List.length_append,List.length_append];omega⟩]
 have e1:((P++run++T).drop P.length).take (P.length+run.length-P.length)=run:=by
  rw[List.append_assoc,List.drop_left,show P.length+run.length-P.length=run.length by omega,List.take_left]
 have d1:(P++run++T).take P.length=P:=by rw[List.append_assoc,List.take_left]
 have d2:(P++run++T).drop (P.length+run.length)=T:=by rw[←List.length_append,List.drop_left]
 rw[e1,d1,d2,hf];rfl
theorem zYZ {f:List Int→Option (List Int)} {st:Int→Bool} (hst:∀x,st x=decide (key x=0)) (hf:∀l,l.length≤30000→f l=some (srt key l)):∀(t run P:List Int) (s:Int),P.length+run.length+t.length≤30000→(run= []∧s= -1∨run≠[]∧s=(P.length:Int))→
  zAB f Range.Lo Range.Hi (P++run++t) (xJ st t ((P.length+run.length:Nat):Int) s)=some (P++rsE key t run)
 | [],run,P,s,hl,hs=>by
  rcases hs with ⟨rfl,rfl⟩ | ⟨hne,rfl⟩
  ·simp only[xJ,show ¬(0:Int)≤ -1 by decide,if_false]
   show some (P++ []++ [])=some (P++ []);simp
  ·have h0:(0:Int)≤(P.length:Int):=by omega
   simp only[xJ,h0,if_true];have hpos:0<run.length:=List.length_pos_iff.2 hne;show (some (P++run++ [])).bind (fun l=>zIX f l (P.length:Int) ((P.length+run.length:Nat):Int))=_;rw[zH,zWA hpos (hf run (by simp at hl;omega))]
   simp[rsE]
 | x::t,run,P,s,hl,hs=>by
  have hl':P.length+run.length+t.length+1≤30000:=by simp only[List.length_cons] at hl;omega
  by_cases h0:key x=0
  ·have hsx:st x=true:=by rw[hst];simp[h0]
   rcases hs with ⟨rfl,rfl⟩ | ⟨hne,rfl⟩
   ·have e:xJ st (x::t) ((P.length+([]:List Int).length:Nat):Int) (-1)=xJ st t (((P++ [x]).length+([]:List Int).length:Nat):Int) (-1):=by
     simp only[xJ,hsx];simp
    have ih:=zYZ hst hf t [] (P++ [x]) (-1) (by simp only[List.length_append,List.length_singleton,List.length_nil];simp at hl';omega) (.inl ⟨rfl,rfl⟩)
    rw[e,show P++ []++x::t=P++ [x]++ []++t by simp,ih];have e2:srt key []= []:=rfl;simp[rsE,h0,e2]
   ·have h00:(0:Int)≤(P.length:Int):=by omega
    have hpos:0<run.length:=List.length_pos_iff.2 hne;have e:xJ st (x::t) ((P.length+run.length:Nat):Int) (P.length:Int)= {Lo:=(P.length:Int),Hi:=((P.length+run.length:Nat):Int)}::xJ st t (((P++srt key run++ [x]).length+([]:List Int).length:Nat):Int) (-1):=by
     have e3:(((P++srt key run++ [x]).length+([]:List Int).length:Nat):Int)=((P.length+run.length:Nat):Int)+1:=by simp[zYX];omega
     rw[e3];simp only[xJ,hsx,Bool.not_true,Bool.false_and,Bool.false_eq_true,if_false,Bool.true_and,h00,decide_true,if_true]
    have ih:=zYZ hst hf t [] (P++srt key run++ [x]) (-1) (by simp[zYX];omega) (.inl ⟨rfl,rfl⟩)
    have e4:zIX f (P++run++x::t) (P.length:Int) ((P.length+run.length:Nat):Int)=some (P++srt key run++ [x]++ []++t):=by
     rw[zWA hpos (hf run (by omega))];simp
    have e5:zAB f Range.Lo Range.Hi (P++run++x::t) ({Lo:=(P.length:Int),Hi:=((P.length+run.length:Nat):Int)}::xJ st t (((P++srt key run++ [x]).length+([]:List Int).length:Nat):Int) (-1))=zAB f Range.Lo Range.Hi (P++srt key run++ [x]++ []++t) (xJ st t (((P++srt key run++ [x]).length+([]:List Int).length:Nat):Int) (-1)):=by
     unfold zAB;rw[List.foldl_cons,zH,e4]
    rw[e,e5,ih];simp[rsE,h0]
  ·have hsx:st x=false:=by rw[hst];simp[h0]
   have e:xJ st (x::t) ((P.length+run.length:Nat):Int) s=xJ st t ((P.length+(run++ [x]).length:Nat):Int) (P.length:Int):=by
    have e3:((P.length+(run++ [x]).length:Nat):Int)=((P.length+run.length:Nat):Int)+1:=by simp;omega
    rw[e3];rcases hs with ⟨rfl,rfl⟩ | ⟨hne,rfl⟩
    ·simp[xJ,hsx]
    ·have:¬((P.length:Int)<0):=by omega
     simp only[xJ,hsx,Bool.not_false,Bool.true_and,this,decide_false,Bool.false_eq_true,if_false,Bool.false_and]
   have ih:=zYZ hst hf t (run++ [x]) P (P.length:Int) (by simp;omega) (.inr ⟨by simp,rfl⟩)
   rw[e,show P++run++x::t=P++(run++ [x])++t by simp,ih];simp[rsE,h0]
end
theorem z3H {l:List Span} (h:CV l) (hl:l.length≤30000) (x y:Int):wM x y l=some (sg (clE l x) (clE l y)):=by unfold wM;simp only[zG3 h hl,zH,z5U];unfold sg;rfl
theorem z9C {l:List Span} (h:CV l) (hl:l.length≤30000) (hok:∀x∈l,okSpan x) {text:List Int} (ht:text.length≤30000):zBA l text=some (csE (clE l) text):=by
 have hnn:∀x,0≤clE l x:=yAR h;unfold zBA zAZ;have hst:∀x,(jO l x==some 0)=decide (clE l x=0):=fun x=>by rw[zG3 h hl];by_cases hx:clE l x=0<;>simp[hx]
 rw[zRV hl hok h,zH,yBN ht,zH,zV0 h hl ht hst rfl,zH];have:=zYZ (key:=clE l) (f:=fun p=>jK p (fun x0 x1=>wM x0 x1 l)) (st:=fun c=>jO l c==some 0) hst (fun p hp=>by
  obtain⟨r,r1,r2,r3⟩:=z0M (key:=clE l) (f:=fun x0 x1=>wM x0 x1 l) (fun x y=>z3H h hl x y) p hp;rw[r1];have:=zV5 (key:=clE l) r2 (zMX (key:=clE l) p) (r3.symm.trans (zYW p));rw[this];rfl) text [] [] (-1) (by simpa using ht) (.inl ⟨rfl,rfl⟩)
 rw[z9B hnn];exact this
noncomputable def zEP (n:Norm) (b:Bool) (text:List Int):List Int:=csE (clE (usN n).Classes) (zI2 n b text)
theorem z3I (n:Norm) (b:Bool) (text:List Int):(zEP n b text).length=(zI2 n b text).length:=z6E _
theorem zMY {n:Norm} (hs:NSm n) (hok:zAM n) (b:Bool) (text:List Int):(zI2 n b text).length≤64*text.length:=zV8 ((zTJ hs hok).len b) text
theorem z3J {n:Norm} (hs:NSm n) (hok:zAM n) {text:List Int} {b:Bool} (ht:text.length≤30000) (hf:(zI2 n b text).length≤30000):zBX n text b=some (zEP n b text):=by
 have h:=zTJ hs hok;rw[z6D hs hok ht,z9C h.cv (by have:=h.cl;omega) h.ok hf]
 rfl
end Go.M
namespace Go.M
open Go.AV
end Go.M
namespace Go.M
open Go.AV
end Go.M
namespace Go.M
open Go.AV
theorem yAT (a0:List Span) (v6:Nat) (hv:v6<a0.length) (H:List Range) (hH:H= [{Lo:=4352,Hi:=4370},{Lo:=4449,Hi:=4469},{Lo:=4520,Hi:=4546},{Lo:=44032,Hi:=55203}]):
  (zX (fun (x:Int)=>vJ H a0 (v6:Int) x) 0=some (.inl ())∧hgOk (nth a0 v6))∨(zX (fun (x:Int)=>vJ H a0 (v6:Int) x) 0=some (.inr 11)∧¬hgOk (nth a0 v6)):=by
 have h:=jD (body:=fun (x:Int)=>vJ H a0 (v6:Int) x) H.length (fun k=> ¬((nth a0 v6).Lo≤(nth H k).Hi∧(nth H k).Lo≤(nth a0 v6).Hi)) (fun y=>y=11) (fun k hk=>by
  have hl:H.length=4:=by rw[hH];rfl
  simp only[vJ,k6 hk,cond_true,yR hv,yR hk,zH,yE,yB (k:=k) (by omega)];by_cases h1:(nth a0 v6).Lo≤(nth H k).Hi
  ·simp only[h1,decide_true,wO,zH,Bool.true_and,true_and]
   exact wP (by simp) rfl
  ·simp only[h1,decide_false,zBC,zH,Bool.false_and,cond_false,false_and]
   exact .inl ⟨by simp,trivial⟩) (fun k hk=>by simp only[vJ,jM hk,cond_false])
 have e:(∀j,j<H.length→¬((nth a0 v6).Lo≤(nth H j).Hi∧(nth H j).Lo≤(nth a0 v6).Hi))↔hgOk (nth a0 v6):=by
  subst hH;unfold hgOk;constructor
  ·intro h;exact⟨h 0 (by decide),h 1 (by decide),h 2 (by decide),h 3 (by decide)⟩
  ·rintro⟨h0,h1,h2,h3⟩ j hj
   have hj':j<4:=hj
   match j,hj' with
   | 0,_=>exact h0
   | 1,_=>exact h1
   | 2,_=>exact h2
   | 3,_=>exact h3
 rw[e] at h;rcases h with h | ⟨y,rfl,h⟩
 ·exact .inl h
 ·exact .inr h
theorem z3K {l:List Span} (hl:l.length≤30000):Ver (zD2 l) (CV l):=by
 have h0:=jD (body:=fun (x:Int)=>zBH l x) l.length (fun k=>spOk (nth l k)) (fun y=>y≠0) (fun k hk=>by
  simp only[zBH,k6 hk,cond_true,yR hk,zH,yE,zFO,yB (k:=k) (by omega),spOk,vld];generalize nth l k=q;by_cases h1:0≤q.Lo<;>by_cases h2:q.Lo≤1114111<;>by_cases h3:0≤q.Hi<;>by_cases h4:q.Hi≤1114111<;>by_cases h5:q.Hi<q.Lo<;>by_cases h6:q.Value<1<;>by_cases h7:254<q.Value<;>simp[h1,h2,h3,h4,h5,h6,h7,wO,zBC,zH]<;>omega) (fun k hk=>by simp only[zBH,jM hk,cond_false])
 unfold zD2 Ver;rcases h0 with ⟨h0,p0⟩ | ⟨y,hy,h0,p0⟩
 rw[h0];simp only[zH,Sum.elim_inl];have h1:=zJZ (body:=fun (x:Int)=>zBI l x) l.length (fun k=>adOk (nth l k) (nth l (k+1))) (fun y=>y≠0) (fun k hk=>by
  have hk':k<l.length:=by omega
  have w:=(p0 k hk').2.1;have w0:=(p0 k hk').1;have w1:=(p0 k hk').2.2.1;simp only[zBI,k6 hk,cond_true,yR hk,zH,yE,yB (k:=k+1) (by omega),zEJ (k:=k) (by omega),yR hk'];by_cases a1:(nth l (k+1)).Lo≤(nth l k).Hi;simp only[a1,decide_true,Bool.not_true,zBC,zH,Bool.false_and,Bool.true_or,cond_true];exact .inr ⟨by unfold adOk;omega,4,by decide,rfl⟩
  simp only[a1,decide_false,Bool.not_false,wO,zH,Bool.true_and,Bool.false_or];rw[wN (n:=(nth l k).Hi+1) (by omega) (by omega)];by_cases a2:(nth l (k+1)).Lo=(nth l k).Hi+1;simp only[a2,decide_true,wO,zH,Bool.true_and];exact wP (by unfold adOk;simp only[decide_eq_true_eq];omega) (by decide)
  simp only[a2,decide_false,zBC,zH,Bool.false_and,cond_false];exact .inl ⟨by unfold adOk;omega,trivial⟩) (fun k hk=>by simp only[zBI,jM hk,cond_false])
 rcases h1 with ⟨h1,p1⟩ | ⟨y,hy,h1,p1⟩;rw[h1];simp only[zH,Sum.elim_inl,zF2];have h2:=jD (body:=fun (x:Int)=>zBJ l [{Lo:=4352,Hi:=4370},{Lo:=4449,Hi:=4469},{Lo:=4520,Hi:=4546},{Lo:=44032,Hi:=55203}] x) l.length (fun k=>hgOk (nth l k)) (fun y=>y≠0) (fun k hk=>by
  simp only[zBJ,k6 hk,cond_true,yB (k:=k) (by omega)];rcases yAT l k hk _ rfl with ⟨h,p⟩ | ⟨h,p⟩
  rw[h];exact .inl ⟨p,rfl⟩;rw[h];exact .inr ⟨p,11,by decide,rfl⟩) (fun k hk=>by simp only[zBJ,jM hk,cond_false])
 rcases h2 with ⟨h2,p2⟩ | ⟨y,hy,h2,p2⟩;rw[h2];exact⟨0,rfl,by simp only[true_iff];exact⟨p0,p1,p2⟩⟩
 rw[h2];exact⟨y,rfl,by simp only[hy,false_iff];exact fun h=>p2 h.hg⟩
 rw[h1];exact⟨y,rfl,by simp only[hy,false_iff];exact fun h=>p1 h.ad⟩
 rw[h0];exact⟨y,rfl,by simp only[hy,false_iff];exact fun h=>p0 h.sp⟩
theorem zL1 {l:List Span} (hl:l.length≤30000) (h:CV l) (c:Int):zC1 l c=some (clE l c):=by
 obtain⟨e,he,hp⟩:=z3K hl;unfold zC1;rw[he,zH,hp.2 h];simp only[decide_true,Bool.not_true,cond_false];have hb:∀k,k<l.length→wH l c (k:Int)=if zPJ c (nth l k) then some (.done (.inr (nth l k).Value)) else some (.next ((k+1:Nat):Int)):=fun k hk=>by
  simp only[wH,k6 hk,cond_true,yR hk,zH,yE,yB (k:=k) (by omega),zPJ];by_cases h1:(nth l k).Lo≤c
  · by_cases h2:c≤(nth l k).Hi<;>simp[h1,h2,wO]
  · simp[h1,zBC]
 have key:∀(d k:Nat),l.length-k=d→k≤l.length→(∀j,j<k→zPJ c (nth l j)=false)→(zX (fun (x:Int)=>wH l c x) (k:Int)).bind (fun y=>y.elim (fun _=>some 0) fun y=>some y)=some (clE l c):=by
  intro d
  induction d with
  | zero=>
   intro k h1 h2 h3;have:k=l.length:=by omega
   subst this;rw[yI (y:= .inl ()) (by simp only[wH,jM (Nat.le_refl _),cond_false])];unfold clE;rw[zTE h3];rfl
  | succ d ih=>
   intro k h1 h2 h3;have hk:k<l.length:=by omega
   cases hi:zPJ c (nth l k) with
   | true=>
    rw[yI (y:= .inr (nth l k).Value) (by show wH l c (k:Int)=_;rw[hb k hk,hi];rfl)]
    unfold clE;rw[zLZ hk h3 hi];rfl
   | false=>
    rw[yQ (x':=((k+1:Nat):Int)) (by show wH l c (k:Int)=_;rw[hb k hk,hi];rfl)]
    refine ih (k+1) (by omega) (by omega) fun j hj=>?_;by_cases e:j=k
    · subst e;exact hi
    · exact h3 j (by omega)
 exact key l.length 0 (by omega) (by omega) (fun j hj=>by omega)
end Go.M
namespace Go.M
open Go.AV
theorem z9D {a b c:Mapping} (h1:mlt a b) (h2:mlt b c):mlt a c:=by
 unfold mlt at*;rcases h1 with h1 | ⟨h1,t1⟩
 rcases h2 with h2 | ⟨h2,t2⟩;exact .inl (by omega);exact .inl (by omega);rcases h2 with h2 | ⟨h2,t2⟩;exact .inl (by omega);exact .inr ⟨by omega,List.lt_trans t1 t2⟩
theorem zY0 {a b:Mapping} (h:mlt a b):¬(a.From=b.From∧a.Tag=b.Tag):=by
 rintro⟨h1,h2⟩
 unfold mlt at h;rcases h with h | ⟨_,h⟩
 omega;rw[h2] at h;exact List.lt_irrefl _ h
theorem zTK {l:List Mapping} (h:∀k,k+1<l.length→mlt (nth l k) (nth l (k+1))):∀(d i:Nat),i+d+1<l.length→mlt (nth l i) (nth l (i+d+1))
 | 0,i,hi=>h i hi
 | d+1,i,hi=>by
  have h1:=zTK h d i (by omega);have h3:=h (i+d+1) (by omega);have:i+(d+1)+1=i+d+1+1:=by omega
  rw[this];exact z9D h1 h3
theorem zTL (x y:Str):(x==y)=decide (x=y):=by rw[Bool.eq_iff_iff];simp
theorem zXM (s:Str) (hs:s.length≤MX):zX (fun (x:Int)=>zCE s x) 0=some (toS (chk (fun _ (b:UInt8)=>if zFY (b.toNat:Int) then none else some false) s 0)):=by
 refine zIA s _ (fun k h=>?_) (fun k h=>?_);simp only[zCE,k6 h,cond_true,zLY h,zH,yE,yB (k:=k) (by unfold MX at hs;omega)]
 by_cases hb:zFY (s[k].toNat:Int)=true;simp only[hb,if_true,stp];unfold zFY at hb;rw[hb];rfl;simp only[hb,if_false,stp];unfold zFY at hb;simp only[Bool.not_eq_true] at hb;rw[hb];rfl;simp only[zCE,jM h,cond_false]
theorem z0O {s:Str} (hs:s.length≤MX):zGL s=some (zRS s):=by
 unfold zGL zRS;rw[zXM s hs,zH,zLX];cases chk (fun _ (b:UInt8)=>if zFY (b.toNat:Int) then none else some false) s 0 with
 | some y=>rfl
 | none=>
  simp only[yE];congr 1;congr 1;simp;omega;simp;omega
section
variable {l:List Mapping} (hl:l.length≤30000) (hto:∀m∈l,m.To.length≤30000) (htg:∀m∈l,m.Tag.length≤MX)
include hl hto htg
omit hl hto htg in
theorem z3L {m:Mapping} (hm:m.To.length≤30000):∃b,zFA m=some b∧(b=true↔codesOk m):=by
 unfold zFA;have h:=jD (body:=fun (x:Int)=>zBK m x) m.To.length (fun j=>vld (nth m.To j)=true) (fun y=>y=false) (fun j hj=>by
  simp only[zBK,k6 hj,cond_true,yR hj,zH,zFO,yB (k:=j) (by omega)];exact wP (by simp) rfl) (fun j hj=>by simp only[zBK,jM hj,cond_false])
 rw[zAK (p:=fun c=>vld c=true)] at h;rcases h with ⟨h,p⟩ | ⟨y,rfl,h,p⟩
 rw[h];simp only[zH,Sum.elim_inl,zFO];exact⟨_,rfl,⟨fun a=>⟨a,p⟩,fun a=>a.1⟩⟩;rw[h];exact⟨false,rfl,by simp only[Bool.false_eq_true,false_iff];exact fun a=>p a.2⟩
omit hto htg in
theorem z3M:∃b,zFB l=some b∧(b=true→¬∀k,k+1<l.length→mlt (nth l k) (nth l (k+1)))∧(b=false→True):=by
 unfold zFB;have inner:∀i,i<l.length→(zX (fun (x:Int)=>vK (i:Int) l x) 0=some (.inl ())∧∀j,j<i→¬((nth l i).From=(nth l j).From∧(nth l i).Tag=(nth l j).Tag))∨(∃y,y=true∧zX (fun (x:Int)=>vK (i:Int) l x) 0=some (.inr y)∧¬∀j,j<i→¬((nth l i).From=(nth l j).From∧(nth l i).Tag=(nth l j).Tag)):=by
  intro i hi;refine jD (body:=fun (x:Int)=>vK (i:Int) l x) i _ (fun y=>y=true) (fun j hj=>?_) (fun j hj=>by simp only[vK,jM hj,cond_false]);have hj':j<l.length:=by omega
  simp only[vK,k6 hj,cond_true,yR hi,yR hj',zH,yE,yB (k:=j) (by omega),zTL];by_cases a:(nth l i).From=(nth l j).From;simp only[a,decide_true,wO,zH,Bool.true_and,true_and];exact wP (by simp) rfl;simp only[a,decide_false,zBC,zH,Bool.false_and,cond_false,false_and];exact .inl ⟨by simp,trivial⟩
 have h:=jD (body:=fun (x:Int)=>zBL l x) l.length (fun i=> ∀j,j<i→¬((nth l i).From=(nth l j).From∧(nth l i).Tag=(nth l j).Tag)) (fun y=>y=true) (fun k hk=>by
  simp only[zBL,k6 hk,cond_true,yB (k:=k) (by omega)];rcases inner k hk with ⟨h,p⟩ | ⟨y,hy,h,p⟩
  rw[h];exact .inl ⟨p,rfl⟩;rw[h];exact .inr ⟨p,y,hy,rfl⟩) (fun j hj=>by simp only[zBL,jM hj,cond_false])
 rcases h with ⟨h,p⟩ | ⟨y,rfl,h,p⟩;rw[h];exact⟨false,rfl,fun h=>(by cases h),fun _=>trivial⟩;rw[h];refine⟨true,rfl,fun _ hh=>p fun i hi j hj=>?_,fun _=>trivial⟩;have:=zTK hh (i-j-1) j (by omega);rw[show j+(i-j-1)+1=i by omega] at this;have:=zY0 this;exact fun ⟨a,b⟩=>this ⟨a.symm,b.symm⟩
theorem z9E:∃e,zCX l=some e∧(e=0→(∀m∈l,codesOk m)∧(∀m∈l,m.To.length≤64)∧∀m∈l,tagOk m)∧(e≠0→¬MV l):=by
 unfold zCX;have h0:=jD (body:=fun (x:Int)=>vZ l x) l.length (fun k=>codesOk (nth l k)) (fun y=>y≠0) (fun k hk=>by
  obtain⟨b,hb,hp⟩:=z3L (hto _ (wC hk));simp only[vZ,k6 hk,cond_true,yR hk,zH,hb,yB (k:=k) (by omega)];exact wP (by rw[←hp];simp) (by decide)) (fun k hk=>by simp only[vZ,jM hk,cond_false])
 rw[zAK (p:=codesOk)] at h0;rcases h0 with ⟨h0,p0⟩ | ⟨y,hy,h0,p0⟩
 case inr=>rw[h0];exact⟨y,rfl,fun h=>absurd h hy,fun _ h=>p0 h.co⟩
 rw[h0];simp only[zH,Sum.elim_inl];have h1:=jD (body:=fun (x:Int)=>uA l x) l.length (fun k=>(nth l k).To.length≤64) (fun y=>y≠0) (fun k hk=>by
  simp only[uA,k6 hk,cond_true,yR hk,zH,yB (k:=k) (by omega)];exact wP (by simp only[decide_eq_true_eq];omega) (by decide)) (fun k hk=>by simp only[uA,jM hk,cond_false])
 rw[zAK (p:=fun (m:Mapping)=>m.To.length≤64)] at h1;rcases h1 with ⟨h1,p1⟩ | ⟨y,hy,h1,p1⟩
 case inr=>rw[h1];exact⟨y,rfl,fun h=>absurd h hy,fun _ h=>p1 h.sz⟩
 rw[h1];simp only[zH,Sum.elim_inl];have h2:=jD (body:=fun (x:Int)=>uB l x) l.length (fun k=>tagOk (nth l k)) (fun y=>y≠0) (fun k hk=>by
  simp only[uB,k6 hk,cond_true,yR hk,zH,yE,yB (k:=k) (by omega),tagOk,zTL];by_cases ht:(nth l k).Tag= []
  ·
   simp only[ht,decide_true,Bool.not_true,zBC,zH,Bool.false_and,cond_false];exact .inl ⟨.inl trivial,trivial⟩
  ·
   simp only[ht,decide_false,Bool.not_false,wO,zH,z0O (htg _ (wC hk)),Bool.true_and,false_or];exact wP (by simp) (by decide)) (fun k hk=>by simp only[uB,jM hk,cond_false])
 rw[zAK (p:=tagOk)] at h2;rcases h2 with ⟨h2,p2⟩ | ⟨y,hy,h2,p2⟩
 case inr=>rw[h2];exact⟨y,rfl,fun h=>absurd h hy,fun _ h=>p2 h.tg⟩
 rw[h2];simp only[zH,Sum.elim_inl];obtain⟨b,hb,hp,_⟩:=z3M hl;rw[hb,zH];cases b with
 | true=>exact⟨5,rfl,fun h=>absurd h (by decide),fun _ h=>hp rfl h.lt⟩
 | false=>exact⟨0,rfl,fun _=>⟨p0,p1,p2⟩,fun h=>absurd rfl h⟩
theorem z3N:Ver (zCY l) (MV l):=by
 obtain⟨e,he,h0,h1⟩:=z9E hl hto htg;unfold zCY;rw[he,zH];by_cases hz:e=0
 case neg=>
  have:(!decide (e=0))=true:=by simp[hz]
  rw[this,cond_true];exact⟨e,rfl,by simp only[hz,false_iff];exact h1 hz⟩
 obtain⟨p0,p1,p2⟩:=h0 hz;rw[hz];simp only[decide_true,Bool.not_true,cond_false];have h3:=zJZ (body:=fun (x:Int)=>zBM l x) l.length (fun k=>mlt (nth l k) (nth l (k+1))) (fun y=>y≠0) (fun k hk=>by
  have hk':k<l.length:=by omega
  simp only[zBM,k6 hk,cond_true,yR hk,zH,yB (k:=k+1) (by omega),zEJ (k:=k) (by omega),yR hk',zF3,yE,z2U];exact wP (by unfold mlt;simp only[Bool.not_eq_true',Bool.or_eq_false_iff,Bool.and_eq_false_iff,decide_eq_false_iff_not,not_or,Classical.not_and_iff_not_or_not]) (by decide)) (fun k hk=>by simp only[zBM,jM hk,cond_false])
 rcases h3 with ⟨h3,p3⟩ | ⟨y,hy,h3,p3⟩
 · rw[h3];exact⟨0,rfl,by simp only[true_iff];exact⟨p0,p1,p2,p3⟩⟩
 · rw[h3];exact⟨y,rfl,by simp only[hy,false_iff];exact fun h=>p3 h.lt⟩
end
end Go.M

